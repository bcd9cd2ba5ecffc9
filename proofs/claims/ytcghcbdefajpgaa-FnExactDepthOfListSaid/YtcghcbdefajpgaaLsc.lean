/- Walks: the sections of a word at a level, of the program. -/
import Derived.Test.YtcghcbdefajpgaaAeq
import Derived.Test.YtcghcbdefajpgaaBE
import Derived.Test.YtcghcbdefajpgaaBH
namespace Go.Proofs.Ytcghcbdefajpgaa
open Go.RowKit
set_option linter.unusedSimpArgs false

/-- One more word, if it is new. -/
def ex1 (W : List (List Int)) (s : List Int) : List (List Int) := if plc W s < W.length then W else W ++ [s]
/-- The section at word k of level n, normal. -/
def Gm.nsl (g : Gm) (u : List Int) (n k : Nat) : List Int := g.nrm (g.gW u (wd g.l n k) n)
/-- The sections at the first k words of level n, each once. -/
def Gm.lvS (g : Gm) (u : List Int) (n : Nat) : Nat → List (List Int)
  | 0 => []
  | k + 1 => ex1 (Gm.lvS g u n k) (g.nsl u n k)
def Gm.lsc (g : Gm) (u : List Int) (n : Nat) : List (List Int) := g.lvS u n (g.l ^ n)
theorem ex1_len (W : List (List Int)) (s : List Int) : (ex1 W s).length ≤ W.length + 1 := by
  unfold ex1
  split
  · omega
  · simp
theorem Gm.lvS_len (g : Gm) (u : List Int) (n : Nat) : ∀ k, (g.lvS u n k).length ≤ k
  | 0 => Nat.le_refl _
  | k + 1 => by
    have := ex1_len (g.lvS u n k) (g.nsl u n k)
    have := Gm.lvS_len g u n k
    show (ex1 _ _).length ≤ _
    omega
theorem Gm.nsl_ok {g : Gm} (hok : g.Ok) {u : List Int} (hu : g.Nums u) (n k : Nat) : g.Nums (g.nsl u n k) ∧ (g.nsl u n k).length ≤ u.length := by
  have hl : Lts g.l (wd g.l n k) := wd_lts (by have := hok.l2; omega) hok.l3 n k
  exact ⟨Gm.nrm_nums (Gm.gW_nums hok hu hl n (by rw [wd_size]; exact Nat.le_refl _)), Nat.le_trans (g.nrm_len _) (by rw [g.gW_len]; exact Nat.le_refl _)⟩
theorem Gm.lvS_wd {g : Gm} (hok : g.Ok) {u : List Int} (hu : g.Nums u) (n : Nat) : ∀ k, g.Wd u.length (g.lvS u n k)
  | 0 => fun s hs => by cases hs
  | k + 1 => by
    show g.Wd _ (ex1 _ _)
    unfold ex1
    split
    · exact Gm.lvS_wd hok hu n k
    · exact (Gm.lvS_wd hok hu n k).push (Gm.nsl_ok hok hu n k)

theorem lscClosure_any (b : Nat) (u v : Value) (xs ys : List Int) (w : World) {t : TypeId} (hb : w.heap[b]? = some (.cells #[v] t (0, 0))) (hr : RdI w v xs) (hu : RdI w u ys) :
    Calls Try.prog 55 #[u, .pointer (some ⟨b, 0, none⟩)] w fun e w' => e = .returned (.bool (decide (ys = xs))) ∧ Below w.heap.size w w' := by
  have k1 := blkc hb 0
  have HS := hidd (slicesEq_any u v ys xs w hu hr)
  obtain ⟨A, c, rfl, hq⟩ := hr
  obtain ⟨A', c', rfl, hq'⟩ := hu
  clear hb hq hq'
  go_enter Try.func55, Try.ntmps55
  go_wp2_with fail
  refine HS.out.mono ?_
  rintro e w1 ⟨rfl, n, rfl⟩
  go_wp2_with fail
  go_ret
  exact ⟨rfl, bel_drewN (Below.refl _ _) _⟩

theorem run_loadI' {W : World} {b : Nat} {x : Value} {t : TypeId} (h : W.heap[b]? = some (.cells #[x] t (0, 0))) : W.cell? ⟨b, 0, none⟩ = some x := by rw [blkc h]; rfl
/-- Whether a list holds a word, by places. -/
theorem any_plc (W : List (List Int)) (s : List Int) : ((List.range W.length).any fun k => decide (W.getD k [] = s)) = decide (plc W s < W.length) := by
  obtain ⟨h1, h2, h3⟩ := first_spec (fun k => decide (W.getD k [] = s)) W.length
  rw [Bool.eq_iff_iff, List.any_eq_true, decide_eq_true_eq]
  constructor
  · rintro ⟨k, hk, hp⟩
    refine Decidable.byContradiction fun hc => ?_
    have h4 := h3 k (by have := List.mem_range.1 hk; unfold plc at hc; omega)
    exact absurd hp (by rw [h4]; decide)
  · intro h
    exact ⟨plc W s, List.mem_range.2 h, h2 h⟩

set_option maxRecDepth 100000 in
set_option maxHeartbeats 2000000 in
theorem sectionsOfLevel_any (g : Gm) (hok : g.Ok) (G : Nat) (vo vt : Value) (v : Value) (u : List Int) (hu : g.Nums u) (hlen : u.length ≤ 1048576) (n : Nat) (hn : n ≤ 5) (w : World) (hG : GrpAt w G g vo vt) (hr : RdI w v u) :
    Calls Try.prog 30 #[.pointer (some ⟨G, 0, none⟩), v, .int .i64 (n : Nat)] w fun e w' => (∃ a rows, e = .returned a ∧ LLr w' w.heap.size a rows (g.lsc u n)) ∧ Below w.heap.size w w' := by
  have cl := hG.m.l
  have HO := hidd hok
  have HG := hidd hG
  have Hr := hidd hr
  have HU := hidd hu
  have l2 := hok.l2
  have l3 := hok.l3
  have HLv := hidd (level_any g.l n (g.l ^ n) l2 l3 hn rfl w)
  have hN := pow_bd l3 hn
  have HE : Hid (g.lsc u n = g.lvS u n (g.l ^ n)) := hidd rfl
  obtain ⟨N, hNN⟩ : ∃ N, N = g.l ^ n := ⟨_, rfl⟩
  rw [← hNN] at HLv hN HE
  obtain ⟨A0, c0, rfl, hq0⟩ := hr
  clear hok hG hu hq0 hNN
  go_enter Try.func30, Try.ntmps30
  go_wp2_with fail
  clear cl
  refine HLv.out.mono ?_
  rintro e w1 ⟨⟨lv1, rfl, ho⟩, hb⟩
  obtain ⟨A, c, rfl⟩ := ho.slice
  rw [lv_len] at ho ⊢
  have Hs := hidd ho
  have B1 := hidd hb
  clear ho hb HLv
  go_wp2_with fail
  go_loopw [7, 20] (fun q y wr => ∃ (k : Nat) (rows : List Value), k ≤ N ∧ y = .int .i64 k ∧ Hid (LLr wr w1.heap.size q rows (g.lvS u n k)) ∧ Hid (Below w1.heap.size w1 wr)) (fun _ y _ => N - (intOf y).toNat)
  case atStart => exact ⟨0, [], Nat.zero_le _, rfl, hidd (LLr.nil _ _), hidd (Below.refl _ _)⟩
  case round =>
    obtain ⟨k, rows, hk, rfl, HQ, Hb⟩ := hrel
    obtain ⟨wo, rfl⟩ : ∃ wo, wo = wr := ⟨_, rfl⟩
    obtain ⟨Aq, cq, hqe⟩ := HQ.out.v.slice
    rw [HQ.out.len] at hqe
    subst hqe
    by_cases hlt : k < N
    · have i1 : (k : Int) < N := by omega
      obtain ⟨b, o, hA, hcell⟩ := (Hs.out.below Hb.out).rd.2.at_ (lv_get g.l n hlt)
      subst hA
      have hlts := wd_lts (show 1 ≤ g.l by omega) l3 n k
      have HIm := hidd (image_any g HO.out G vo vt _ u HU.out hlen (wd g.l n k) hlts (by rw [wd_size]; omega) wo ((HG.out.below B1.out).below Hb.out) ((Hr.out.below B1.out).below Hb.out))
      have HNk := hidd (Gm.nsl_ok HO.out HU.out n k)
      have HGn := hidd (show g.Nums (g.gW u (wd g.l n k) n) ∧ (g.gW u (wd g.l n k) n).length ≤ 1048576 from ⟨Gm.gW_nums HO.out HU.out hlts n (by rw [wd_size]; exact Nat.le_refl _), by rw [g.gW_len]; exact hlen⟩)
      rw [wd_size] at HIm
      have HSt : Hid (g.lvS u n (k + 1) = ex1 (g.lvS u n k) (g.nsl u n k)) := hidd rfl
      have HNs : Hid (g.nsl u n k = g.nrm (g.gW u (wd g.l n k) n)) := hidd rfl
      obtain ⟨s, hs⟩ : ∃ s, s = wd g.l n k := ⟨_, rfl⟩
      rw [← hs] at HIm hcell HGn HNs
      clear hs hlts
      go_wp2_with fail
      refine HIm.out.mono ?_
      rintro e w2 ⟨⟨r, rfl, hr2⟩, hb⟩
      have Hr2 := hidd hr2
      have Hb2 := hidd (bel_then Hb.out hb)
      have HQ2 := hidd (HQ.out.below hb)
      obtain ⟨Ar, cr, rfl, hq2⟩ := hr2
      clear hb hq2 HIm HQ Hb hcell
      go_wp2_with fail
      have b23 := hidd (show Below w2.heap.size w2 (w2.alloc (.cells #[.slice Ar (g.gW u s n).length cr] 26)) from bel_alloc' _ _)
      refine (normal_any g HO.out G vo vt _ (g.gW u s n) HGn.out.1 HGn.out.2 _ ((HG.out.below B1.out).below (bel_then Hb2.out b23.out)) (Hr2.out.below b23.out)).mono ?_
      rintro e w3 ⟨⟨r3, rfl, ho3⟩, hb3⟩
      have b3 := hidd (bel_then b23.out hb3)
      have K3 := hidd (hp_bel (hp_new rfl) hb3 : w3.heap[w2.heap.size]? = some (.cells #[.slice Ar (g.gW u s n).length cr] 26 (0, 0)))
      have hz3 : w2.heap.size ≤ (w2.alloc (.cells #[.slice Ar (g.gW u s n).length cr] 26)).heap.size := by simp
      have f1 := blkf K3.out 0
      have c1 := run_loadI' K3.out
      rw [← HNs.out] at ho3
      have HR3 := hidd (show Own w3 (w2.heap.size + 1) _ _ _ from ho3.mono (by simp))
      have HNw : Hid (∀ (j : Nat) (t : Value), rows[j]? = some t → Apart t r3) := hidd (fun j t hj => by obtain ⟨ys, _, ho⟩ := HQ2.out.list hj; exact own_ne ho ho3 hz3)
      obtain ⟨A3, c3, rfl⟩ := ho3.slice
      clear ho3 hb3 b23 hz3 HGn
      go_wp2_with fail
      obtain ⟨w4, hw4⟩ : ∃ w4, w4 = w3.setCell ⟨w2.heap.size, 0, none⟩ (.slice A3 (ints (g.nsl u n k)).length c3) := ⟨_, rfl⟩
      rw [← hw4]
      have b4 := hidd (show Below w2.heap.size w2 w4 by rw [hw4]; exact b3.out.setCell (Nat.le_refl _) _)
      have K4 := hidd (show w4.heap[w2.heap.size]? = some (.cells #[.slice A3 (ints (g.nsl u n k)).length c3] 26 (0, 0)) by rw [hw4]; exact hp_set K3.out 0 _)
      have HR4 := hidd (show Own w4 (w2.heap.size + 1) 2 (.slice A3 (ints (g.nsl u n k)).length c3) (ints (g.nsl u n k)) by rw [hw4]; exact HR3.out.far (HR3.out.ne_low (Nat.lt_succ_self _)) _)
      have HQ4 := hidd (HQ2.out.below b4.out)
      have Hb4 := hidd (bel_then Hb2.out b4.out)
      have hz2 := Hb2.out.size
      have hC := containsFunc65 55 #[.pointer (some ⟨w2.heap.size, 0, none⟩)] (fun _ _ => rfl) Aq cq rows (fun j => rows.getD j undef) (fun j => decide ((g.lvS u n k).getD j [] = g.nsl u n k)) w4 HQ4.out.v.rd.2 (fun j hj => by rw [List.getElem?_eq_getElem hj, List.getD_eq_getElem?_getD, List.getElem?_eq_getElem hj]; rfl) (fun j W hj hb => by
        have hj2 : j < (g.lvS u n k).length := by rw [← HQ4.out.len]; exact hj
        have hro := HQ4.out.row j rows[j] _ (List.getElem?_eq_getElem hj) (List.getElem?_eq_getElem hj2)
        have e1 : rows.getD j undef = rows[j] := by rw [List.getD_eq_getElem?_getD, List.getElem?_eq_getElem hj]; rfl
        have e2 : (g.lvS u n k).getD j [] = (g.lvS u n k)[j] := by rw [List.getD_eq_getElem?_getD, List.getElem?_eq_getElem hj2]; rfl
        show Calls Try.prog 55 #[rows.getD j undef, .pointer (some ⟨w2.heap.size, 0, none⟩)] W fun e w' => e = .returned (.bool (decide ((g.lvS u n k).getD j [] = g.nsl u n k))) ∧ Below W.heap.size W w'
        rw [e1, e2]
        exact lscClosure_any w2.heap.size _ _ _ _ W (hp_bel K4.out hb) (HR4.out.below hb).rdI (hro.below hb).rdI)
      rw [HQ4.out.len, any_plc] at hC
      have HC := hidd hC
      have hL := g.lvS_len u n k
      obtain ⟨W, hW⟩ : ∃ W, W = g.lvS u n k := ⟨_, rfl⟩
      obtain ⟨z, hzz⟩ : ∃ z, z = g.nsl u n k := ⟨_, rfl⟩
      simp only [← hW, ← hzz] at HC HQ4 HR4 HNw HSt hL K4 ⊢
      clear hw4 HR3 K3 f1 c1 hC hW hzz HNk b3 HQ2 Hb2 b4
      have c4 := run_loadI' K4.out
      by_cases hp : plc W z < W.length
      · rw [decide_eq_true hp] at HC
        have HS1 := hidd (HSt.out.trans (if_pos hp))
        clear hp
        go_wp2_with fail
        clear c4
        refine HC.out.mono ?_
        rintro e w5 ⟨rfl, hb5⟩
        have HQ5 := hidd (HQ4.out.below hb5)
        have Hb5 := hidd (bel_then Hb4.out hb5)
        clear hb5
        go_wp2_with fail
        go_roundw
        case rel => exact ⟨k + 1, rows, by omega, by go_num, hidd (by rw [HS1.out]; exact HQ5.out), Hb5⟩
        case measure => first | (simp [intOf]; done) | (simp [intOf]; omega)
      · rw [decide_eq_false hp] at HC
        have HS1 := hidd (HSt.out.trans (if_neg hp))
        clear hp
        go_wp2_with fail
        clear c4
        refine HC.out.mono ?_
        rintro e w5 ⟨rfl, hb5⟩
        have HQ5 := hidd (HQ4.out.below hb5)
        have HR5 := hidd (HR4.out.below hb5)
        have Hb5 := hidd (bel_then Hb4.out hb5)
        have c5 := run_loadI' (hp_bel K4.out hb5)
        have hbase := Hb5.out.size
        have hlen3 : rows.length + 1 ≤ 1099511627776 := by rw [HQ5.out.len]; omega
        clear hb5
        go_wp2_with (at_builtin; refine app_at rfl _ _ _ rfl w1.heap.size 26 (.slice none 0 0) 24 Try.underlying27 info_ints rfl HQ5.out.v rfl rfl rfl hlen3 (by decide) hbase ?_; intro v' w6 ho6 hgr6 hle6 hli6; have HQ6 := hidd (HQ5.out.push (HR5.out.mono (by omega)) HNw.out ho6 hgr6); have b6 := hidd (Hb5.out.trans (bel_own HQ5.out.v hgr6 hbase)); clear ho6 hgr6 hle6 hli6)
        go_roundw
        case rel => exact ⟨k + 1, _, by omega, by go_num, hidd (by rw [HS1.out]; exact HQ6.out), b6⟩
        case measure => first | (simp [intOf]; done) | (simp [intOf]; omega)
    · have he : k = N := by omega
      subst he
      clear hlt
      go_wp2_with fail
      go_ret
      exact ⟨⟨_, rows, rfl, by rw [HE.out]; exact HQ.out.mono B1.out.size⟩, bel_then B1.out Hb.out⟩
end Go.Proofs.Ytcghcbdefajpgaa

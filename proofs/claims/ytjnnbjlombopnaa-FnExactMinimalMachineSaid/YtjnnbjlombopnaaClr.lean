/- Walks: the classes of equal states, of the reference: the rounds. -/
import Derived.Test.YtjnnbjlombopnaaCls
import Derived.Deep.RegionWith
namespace Go.Proofs.Ytjnnbjlombopnaa
open Go.RowKit

/-- A whole array out of a variable. -/
def loadA (a : Addr) : Sem Value := loadVar 105 a
theorem loadVar_A (a : Addr) : loadVar 105 a = loadA a := rfl
theorem run_loadA {W : World} {b : Nat} {C : Nat → Nat} {t : TypeId} {fr : Nat × Nat} (h : W.heap[b]? = some (.cells (iv C 16) t fr)) : (loadA ⟨b, 0, none⟩).run Try.prog W = .ok (.agg (iv C 16)) W := by
  have hs : (iv C 16).size = 16 := av_size _ _
  have := run_loadVar_at (P := Try.prog) W b 0 16 t 105 (iv C 16) fr _ h Try.underlying105 rfl (by kernel_rfl) (by rw [hs]; omega)
  have e : (iv C 16).extract 0 (0 + 16) = iv C 16 := by rw [show 0 + 16 = (iv C 16).size from hs.symm]; simp
  rw [e] at this
  exact this
attribute [go_sem ↓ high] loadVar_A
attribute [go_sem] run_loadA

def CI (g : Gm) (r : Nat) (C : Nat → Nat) : Prop := (∀ j, j < g.s → C j = g.cl r j) ∧ ∀ j, g.s ≤ j → C j = 0
def NI (g : Gm) (r q : Nat) (N : Nat → Nat) : Prop := (∀ j, j < q → N j = g.cl (r + 1) j) ∧ ∀ j, q ≤ j → N j = 0
theorem CI.start (g : Gm) : CI g 0 (fun _ => 0) := ⟨fun _ _ => rfl, fun _ _ => rfl⟩
theorem NI.start (g : Gm) (r : Nat) : NI g r 0 (fun _ => 0) := ⟨fun j hj => by omega, fun _ _ => rfl⟩
theorem NI.all {g : Gm} {r : Nat} {N : Nat → Nat} (h : NI g r g.s N) : CI g (r + 1) N := h
theorem sameTo_congr {g : Gm} (hok : g.Ok) {C C' : Nat → Nat} (h : ∀ j, j < g.s → C j = C' j) {q p : Nat} (hq : q < g.s) (hp : p < g.s) : sameTo g C q p g.l = sameTo g C' q p g.l := by
  unfold sameTo
  rw [Bool.eq_iff_iff]
  simp only [List.all_eq_true, List.mem_range, Bool.and_eq_true, decide_eq_true_eq]
  constructor
  · intro a x hx
    have := a x hx
    rw [h _ (hok.nlt q x hq hx), h _ (hok.nlt p x hp hx)] at this
    exact this
  · intro a x hx
    rw [h _ (hok.nlt q x hq hx), h _ (hok.nlt p x hp hx)]
    exact a x hx
/-- Whether p is like q in a round. -/
def lik (g : Gm) (C : Nat → Nat) (q p : Nat) : Bool := decide (C q = C p) && sameTo g C q p g.l
theorem lik_rel {g : Gm} (hok : g.Ok) {r : Nat} {C : Nat → Nat} (h : CI g r C) {q p : Nat} (hq : q < g.s) (hp : p < g.s) : lik g C q p = rel g.l g.nx g.oe (g.cl r) q p := by
  unfold lik
  rw [rel_same, ← sameTo_congr hok h.1 hq hp, h.1 q hq, h.1 p hp]
  congr 1
  rw [Bool.eq_iff_iff, decide_eq_true_eq, decide_eq_true_eq]
  exact eq_comm
theorem NI.hit {g : Gm} (hok : g.Ok) {r q p : Nat} {C N : Nat → Nat} (hc : CI g r C) (h : NI g r q N) (hq : q < g.s) (hp : p < q) (hl : lik g C q p = true) : NI g r (q + 1) (updN N q (N p)) := by
  rw [lik_rel hok hc hq (by omega)] at hl
  refine ⟨fun j hj => ?_, fun j hj => ?_⟩
  · by_cases e : j = q
    · subst e
      rw [updN_same, h.1 p hp]
      exact ((rnd_eq_iff g.oeE (g.cl r) j p).2 hl).symm
    · rw [updN_ne N _ e]; exact h.1 j (by omega)
  · rw [updN_ne N _ (by omega)]; exact h.2 j (by omega)
theorem NI.miss {g : Gm} (hok : g.Ok) {r q : Nat} {C N : Nat → Nat} (hc : CI g r C) (h : NI g r q N) (hq : q < g.s) (hl : ∀ p, p < q → lik g C q p = false) : NI g r (q + 1) (updN N q q) := by
  refine ⟨fun j hj => ?_, fun j hj => ?_⟩
  · by_cases e : j = q
    · subst e
      rw [updN_same]
      exact (first_eq (Nat.le_refl _) (fun h => absurd h (Nat.lt_irrefl _)) (fun p hp => (lik_rel hok hc hq (by omega)).symm.trans (hl p hp))).symm
    · rw [updN_ne N _ e]; exact h.1 j (by omega)
  · rw [updN_ne N _ (by omega)]; exact h.2 j (by omega)
theorem updN_updN (F : Nat → Nat) (q a b : Nat) : updN (updN F q a) q b = updN F q b := by
  funext j
  unfold updN
  split <;> rfl
/-- The least equal states, as the array of the reference says. -/
def Gm.ls16 (g : Gm) (q : Nat) : Nat := if q < g.s then g.lst q else 0
theorem CI.all {g : Gm} {C : Nat → Nat} (h : CI g (g.s + 1) C) : iv C 16 = iv g.ls16 16 := iv_congr fun j _ => by
  unfold Gm.ls16
  split
  · rename_i hj; exact h.1 j hj
  · rename_i hj; exact h.2 j (by omega)

set_option maxRecDepth 100000 in
set_option maxHeartbeats 2000000 in
theorem l01Classes_any (g : Gm) (hok : g.Ok) (cs : Array Value) (hg : g.Is cs) (w : World) :
    Calls Try.prog 132 #[.agg cs] w fun e w' => e = .returned (.agg (iv g.ls16 16)) ∧ Below w.heap.size w w' := by
  obtain rfl := hg.is.eq_cells
  have HG := hidd hg
  have HO := hidd hok
  have s16 := hok.s16
  have l3 := hok.l3
  clear hg hok
  go_enter Try.func132, Try.ntmps132
  go_wp2_with fail
  obtain ⟨w1, hw1⟩ : ∃ w1, w1 = ((w.alloc (.cells g.mc.cells 27)).alloc (.cells (iv (fun _ => 0) 16) 105)).alloc (.cells (iv (fun _ => 0) 16) 105) := ⟨_, rfl⟩
  rw [show (#[Value.int .i64 0, Value.int .i64 0, Value.int .i64 0, Value.int .i64 0, Value.int .i64 0, Value.int .i64 0, Value.int .i64 0, Value.int .i64 0, Value.int .i64 0, Value.int .i64 0, Value.int .i64 0, Value.int .i64 0, Value.int .i64 0, Value.int .i64 0, Value.int .i64 0, Value.int .i64 0] : Array Value) = iv (fun _ => 0) 16 from rfl, ← hw1]
  have Bel := hidd (show Below w.heap.size w w1 by rw [hw1]; exact (((Below.refl _ _).alloc (Nat.le_refl _) _).alloc (by simp) _).alloc (by simp; omega) _)
  have NA := hidd (show w1.heap[w.heap.size]? = some (.cells g.mc.cells 27 (0, 0)) by rw [hw1]; exact hp_old (hp_old (hp_new rfl)))
  have N0 := hidd (show w1.heap[w.heap.size + 1]? = some (.cells (iv (fun _ => 0) 16) 105 (0, 0)) by rw [hw1]; exact hp_old (hp_new (by simp)))
  have N1 := hidd (show w1.heap[w.heap.size + 1 + 1]? = some (.cells (iv (fun _ => 0) 16) 105 (0, 0)) by rw [hw1]; exact hp_new (by simp))
  clear hw1
  go_loopw [4] (fun i wr => ∃ (r : Nat) (C : Nat → Nat), r ≤ g.s + 1 ∧ i = .int .i64 r ∧ Hid (CI g r C) ∧ Hid (Below w.heap.size w wr) ∧ Hid (wr.heap[w.heap.size]? = some (.cells g.mc.cells 27 (0, 0))) ∧ Hid (wr.heap[w.heap.size + 1]? = some (.cells (iv (fun _ => 0) 16) 105 (0, 0))) ∧ Hid (wr.heap[w.heap.size + 1 + 1]? = some (.cells (iv C 16) 105 (0, 0)))) (fun i _ => g.s + 1 - (intOf i).toNat)
  case atStart => exact ⟨0, fun _ => 0, Nat.zero_le _, rfl, hidd (CI.start g), Bel, NA, N0, N1⟩
  case round =>
    clear Bel NA N0 N1
    obtain ⟨r, C, hr, rfl, HCI, Hb, HM, H0, HC⟩ := hrel
    have a1 := (Gm.At.of_is HG.out HM.out).s
    by_cases hrs : r ≤ g.s
    · go_wp2_with fail
      rw [show (#[Value.int .i64 0, Value.int .i64 0, Value.int .i64 0, Value.int .i64 0, Value.int .i64 0, Value.int .i64 0, Value.int .i64 0, Value.int .i64 0, Value.int .i64 0, Value.int .i64 0, Value.int .i64 0, Value.int .i64 0, Value.int .i64 0, Value.int .i64 0, Value.int .i64 0, Value.int .i64 0] : Array Value) = iv (fun _ => 0) 16 from rfl]
      clear a1
      obtain ⟨wo, hwo⟩ : ∃ wo, wo = wr.alloc (.cells (iv (fun _ => 0) 16) 105) := ⟨_, rfl⟩
      rw [← hwo]
      obtain ⟨nb, hnb⟩ : ∃ nb, nb = wr.heap.size := ⟨_, rfl⟩
      rw [← hnb]
      have hn2 : w.heap.size + 1 + 1 < nb := by rw [hnb]; exact hp_lt HC.out
      have bo : Below wr.heap.size wr wo := by rw [hwo]; exact bel_alloc _ _
      have Hb2 := hidd (bel_then Hb.out bo)
      have HM2 := hidd (hp_bel HM.out bo)
      have H02 := hidd (hp_bel H0.out bo)
      have HC2 := hidd (hp_bel HC.out bo)
      have HN2 := hidd (show wo.heap[nb]? = some (.cells (iv (fun _ => 0) 16) 105 (0, 0)) by rw [hwo]; exact hp_new hnb)
      clear hwo bo hnb Hb HM H0 HC
      go_loopw [6] (fun i wr => ∃ (q : Nat) (N : Nat → Nat), q ≤ g.s ∧ i = .int .i64 q ∧ Hid (NI g r q N) ∧ Hid (Below w.heap.size w wr) ∧ Hid (wr.heap[w.heap.size]? = some (.cells g.mc.cells 27 (0, 0))) ∧ Hid (wr.heap[w.heap.size + 1]? = some (.cells (iv (fun _ => 0) 16) 105 (0, 0))) ∧ Hid (wr.heap[w.heap.size + 1 + 1]? = some (.cells (iv C 16) 105 (0, 0))) ∧ Hid (wr.heap[nb]? = some (.cells (iv N 16) 105 (0, 0)))) (fun i _ => g.s - (intOf i).toNat)
      case atStart => exact ⟨0, fun _ => 0, Nat.zero_le _, rfl, hidd (NI.start g r), Hb2, HM2, H02, HC2, HN2⟩
      case round =>
        clear Hb2 HM2 H02 HC2 HN2
        obtain ⟨q, N, hq, rfl, HNI, Hb, HM, H0, HC, HN⟩ := hrel
        have a1 := (Gm.At.of_is HG.out HM.out).s
        by_cases hqs : q < g.s
        · have d1 := (blkc HN.out q).trans (iv_get N (by omega))
          have f1 := blkf HN.out q
          have j1 : (q : Int) < 16 := by omega
          have Hset := hidd (iv_set N 16 q q)
          go_wp2_with fail
          clear a1 d1 f1
          obtain ⟨wp, hwp⟩ : ∃ wp, wp = wr.setCell ⟨nb, q, none⟩ (.int .i64 q) := ⟨_, rfl⟩
          rw [← hwp]
          have Hb2 := hidd (show Below w.heap.size w wp by rw [hwp]; exact Hb.out.setCell (by dsimp only; omega) _)
          have HM2 := hidd (show wp.heap[w.heap.size]? = some (.cells g.mc.cells 27 (0, 0)) by rw [hwp]; exact hp_far HM.out (by dsimp only; omega) _)
          have H02 := hidd (show wp.heap[w.heap.size + 1]? = some (.cells (iv (fun _ => 0) 16) 105 (0, 0)) by rw [hwp]; exact hp_far H0.out (by dsimp only; omega) _)
          have HC2 := hidd (show wp.heap[w.heap.size + 1 + 1]? = some (.cells (iv C 16) 105 (0, 0)) by rw [hwp]; exact hp_far HC.out (by dsimp only; omega) _)
          have HN2 := hidd (show wp.heap[nb]? = some (.cells (iv (updN N q q) 16) 105 (0, 0)) by rw [hwp, ← Hset.out]; exact hp_set HN.out q _)
          clear hwp Hb HM H0 HC HN
          go_loopw [7] (fun i wr => ∃ p : Nat, p ≤ q ∧ i = .int .i64 p ∧ Hid (∀ p', p' < p → lik g C q p' = false) ∧ Hid (Below w.heap.size w wr) ∧ Hid (wr.heap[w.heap.size]? = some (.cells g.mc.cells 27 (0, 0))) ∧ Hid (wr.heap[w.heap.size + 1]? = some (.cells (iv (fun _ => 0) 16) 105 (0, 0))) ∧ Hid (wr.heap[w.heap.size + 1 + 1]? = some (.cells (iv C 16) 105 (0, 0))) ∧ Hid (wr.heap[nb]? = some (.cells (iv (updN N q q) 16) 105 (0, 0)))) (fun i _ => q - (intOf i).toNat)
          case atStart => exact ⟨0, Nat.zero_le _, rfl, hidd (fun p' h => by omega), Hb2, HM2, H02, HC2, HN2⟩
          case round =>
            clear Hb2 HM2 H02 HC2 HN2
            obtain ⟨p, hp, rfl, HL, Hb, HM, H0, HC, HN⟩ := hrel
            by_cases hpq : p < q
            · have c1 := (blkc HC.out q).trans (iv_get C (by omega))
              have c2 := (blkc HC.out p).trans (iv_get C (by omega))
              have j2 : (p : Int) < 16 := by omega
              have j3 : (p : Int) < q := by omega
              by_cases hc : C q = C p
              · have hd : ((C q : Int) == (C p : Int)) = true := beq_iff_eq.2 (by omega)
                have Hc := hidd hc
                clear hc
                have hk1 := run_loadM (W := wr.drew) HM.out
                have hk2 := run_loadA (W := wr.drew) HC.out
                have HS := hidd (l01Same_any g HO.out g.mc.cells HG.out C q p hqs (by omega) wr.drew)
                go_wp2_with fail
                go_region_with ((go_at_call 194; refine HS.out.mono ?_; rintro e w5 ⟨rfl, hb5⟩))
                all_goals
                  have Hb5 := hidd (bel_then (bel_drewN Hb.out 1) hb5)
                  have HM5 := hidd (hp_bel (w := wr.drew) HM.out hb5)
                  have H05 := hidd (hp_bel (w := wr.drew) H0.out hb5)
                  have HC5 := hidd (hp_bel (w := wr.drew) HC.out hb5)
                  have HN5 := hidd (hp_bel (w := wr.drew) HN.out hb5)
                  have e5 := (blkc HN5.out p).trans (iv_get (updN N q q) (by omega))
                  rw [updN_ne N q (by omega)] at e5
                  have d5 := (blkc HN5.out q).trans (iv_get (updN N q q) (by omega))
                  have f5 := blkf HN5.out q
                  have Hset5 := hidd ((iv_set (updN N q q) 16 q (N p)).trans (by rw [updN_updN]))
                  clear hb5 hk1 hk2
                  cases hs : sameTo g C q p g.l with
                  | true =>
                    have HX := hidd (HNI.out.hit HO.out HCI.out hqs hpq (by unfold lik; rw [hs, decide_eq_true Hc.out]; rfl))
                    clear hs
                    go_wp2_with fail
                    go_roundw
                    case rel => exact ⟨q + 1, updN N q (N p), by omega, by go_num, HX, hidd (Hb5.out.setCell (by dsimp only; omega) _), hidd (hp_far HM5.out (by dsimp only; omega) _), hidd (hp_far H05.out (by dsimp only; omega) _), hidd (hp_far HC5.out (by dsimp only; omega) _), hidd (by rw [← Hset5.out]; exact hp_set HN5.out q _)⟩
                    case measure => simp [intOf]; omega
                  | false =>
                    have HX := hidd (show ∀ p', p' < p + 1 → lik g C q p' = false from fun p' h => by
                      by_cases e : p' = p
                      · subst e; unfold lik; rw [hs, Bool.and_false]
                      · exact HL.out p' (by omega))
                    clear hs
                    go_wp2_with fail
                    go_roundw
                    case rel => exact ⟨p + 1, by omega, by go_num, HX, Hb5, HM5, H05, HC5, HN5⟩
                    case measure => simp [intOf]; omega
              · have hd : ((C q : Int) == (C p : Int)) = false := beq_eq_false_iff_ne.2 (by omega)
                have HX := hidd (show ∀ p', p' < p + 1 → lik g C q p' = false from fun p' h => by
                  by_cases e : p' = p
                  · subst e; unfold lik; rw [decide_eq_false hc, Bool.false_and]
                  · exact HL.out p' (by omega))
                clear hc
                go_wp2_with fail
                go_quiet (fail)
                go_wp2_with fail
                go_roundw
                case rel => exact ⟨p + 1, by omega, by go_num, HX, hidd (bel_drewN Hb.out _), hidd HM.out, hidd H0.out, hidd HC.out, hidd HN.out⟩
                case measure => simp [intOf]; omega
            · have he : p = q := by omega
              subst he
              have HX := hidd (HNI.out.miss HO.out HCI.out hqs HL.out)
              go_wp2_with fail
              go_roundw
              case rel => exact ⟨p + 1, updN N p p, by omega, by go_num, HX, Hb, HM, H0, HC, HN⟩
              case measure => simp [intOf]; omega
        · have he : q = g.s := by omega
          subst he
          have HX := hidd HNI.out.all
          have hk := run_loadA (W := wr) HN.out
          go_wp2_with (refine stAI rfl (.tmp 3) (.tmp 49) rfl (w.heap.size + 1 + 1) _ (fun _ => rfl) HC.out (av_size _ _) (by rfl) (by rfl) ?_)
          go_roundw
          case rel => exact ⟨r + 1, N, by omega, by go_num, HX, hidd (bel_row Hb.out (by omega) _), hidd ((setRow_other _ _ _ _ (by omega)).trans HM.out), hidd ((setRow_other _ _ _ _ (by omega)).trans H0.out), hidd (setRow_heap _ _ _ _ _ _ HC.out)⟩
          case measure => simp [intOf]; omega
    · have he : r = g.s + 1 := by omega
      subst he
      have HE := hidd HCI.out.all
      rw [HE.out] at HC
      have hk := run_loadA (W := wr) HC.out
      go_wp2_with (refine stAI rfl (.tmp 2) (.tmp 50) rfl (w.heap.size + 1) _ (fun _ => rfl) H0.out (av_size _ _) (by rfl) (by rfl) ?_)
      refine bodyPost_ret (v := .agg (iv g.ls16 16)) (results_cell_row rfl _ _ (w.heap.size + 1) 105 _ (0, 0) _ rfl (setRow_heap _ _ _ _ _ _ H0.out) Try.underlying105 rfl (a16iI _)) rfl ⟨rfl, ?_⟩
      exact bel_row Hb.out (by omega) _
end Go.Proofs.Ytjnnbjlombopnaa

/- Walks: the trivial states of a table, TrivialStates of the program. -/
import Derived.Test.YtjnnbjlombopnaaTs
import Derived.BigRegion
namespace Go.Proofs.Ytjnnbjlombopnaa
open Go.RowKit

def Gm.idrTo (g : Gm) (q x : Nat) : Bool := (List.range x).all fun y => decide (g.ou q y = y)
theorem Gm.idrTo_zero (g : Gm) (q : Nat) : g.idrTo q 0 = true := rfl
theorem Gm.idrTo_succ (g : Gm) (q x : Nat) : g.idrTo q (x + 1) = (g.idrTo q x && decide (g.ou q x = x)) := by simp [Gm.idrTo, List.range_succ]
theorem Gm.idrTo_all (g : Gm) (q : Nat) : g.idrTo q g.l = g.idr q := rfl
/-- The first rows' answers. -/
def Gm.idrs (g : Gm) (q : Nat) : Nat → Bool := fun j => decide (j < q) && g.idr j
theorem Gm.idrs_step (g : Gm) (q : Nat) : upd (g.idrs q) q (g.idr q) = g.idrs (q + 1) := by
  funext j
  unfold upd Gm.idrs
  by_cases e : j = q
  · subst e; simp
  · rw [if_neg e]
    congr 1
    rw [Bool.eq_iff_iff]
    simp only [decide_eq_true_eq]
    omega
theorem upd_upd (F : Nat → Bool) (q : Nat) (a b : Bool) : upd (upd F q a) q b = upd F q b := by
  funext j
  unfold upd
  split <;> rfl
theorem cnt_upd {F : Nat → Bool} {q n : Nat} (hq : q < n) (hF : F q = true) : cnt (upd F q false) n < cnt F n := by
  obtain ⟨a, b⟩ := cnt_mono (p := F) (p' := upd F q false) n (fun j _ h => by
    by_cases e : j = q
    · subst e; exact hF
    · rwa [upd_ne F false e] at h)
  rcases Nat.lt_or_ge (cnt (upd F q false) n) (cnt F n) with h | h
  · exact h
  · have := b (by omega) q hq
    rw [upd_same, hF] at this
    cases this
/-- What is kept: the trivial ones are in, and what is in keeps all letters. -/
def TS (g : Gm) (F : Nat → Bool) : Prop := (∀ q, q < g.s → g.tr q = true → F q = true) ∧ ∀ q, q < g.s → F q = true → g.idr q = true
theorem TS.start (g : Gm) : TS g (g.idrs g.s) := ⟨fun q hq ht => by unfold Gm.idrs; rw [decide_eq_true hq, Bool.true_and]; exact trv_idr g.s ht, fun q hq h => by unfold Gm.idrs at h; rw [Bool.and_eq_true] at h; exact h.2⟩
def Shut' (g : Gm) (F : Nat → Bool) (q : Nat) : Prop := ∀ p, p < q → F p = true → ∀ x, x < g.l → F (g.nx p x) = true
theorem TS.all {g : Gm} (hok : g.Ok) {F : Nat → Bool} (h : TS g F) (hs : Shut' g F g.s) : bv F g.s = bv g.tr g.s := by
  refine av_congr fun j hj => ?_
  congr 1
  rw [Bool.eq_iff_iff]
  exact ⟨fun hF => trv_of_closed g.s F h.2 (fun q x hq hx hF => hs q hq hF x hx) hok.nlt g.s j hj hF, h.1 j hj⟩
theorem TS.drop {g : Gm} (hok : g.Ok) {F : Nat → Bool} (h : TS g F) {q : Nat} (hq : q < g.s) (hx : (List.range g.l).any (fun x => !F (g.nx q x)) = true) : TS g (upd F q false) := by
  refine ⟨fun p hp ht => ?_, fun p hp hF => ?_⟩
  · by_cases e : p = q
    · subst e
      rw [List.any_eq_true] at hx
      obtain ⟨x, hx1, hx2⟩ := hx
      rw [h.1 _ (hok.nlt p x hp (List.mem_range.1 hx1)) (trv_next g.s hok.nlt hp (List.mem_range.1 hx1) ht)] at hx2
      cases hx2
    · rw [upd_ne F false e]; exact h.1 p hp ht
  · by_cases e : p = q
    · subst e; rw [upd_same] at hF; cases hF
    · rw [upd_ne F false e] at hF; exact h.2 p hp hF
theorem Shut'.step_no {g : Gm} {F : Nat → Bool} {q : Nat} (h : Shut' g F q) (hF : F q = false) : Shut' g F (q + 1) := fun p hp hp2 => by
  by_cases e : p = q
  · subst e; rw [hF] at hp2; cases hp2
  · exact h p (by omega) hp2
theorem Shut'.step_yes {g : Gm} {F : Nat → Bool} {q : Nat} (h : Shut' g F q) (hx : (List.range g.l).any (fun x => !F (g.nx q x)) = false) : Shut' g F (q + 1) := fun p hp hp2 x hxl => by
  by_cases e : p = q
  · subst e
    rw [List.any_eq_false] at hx
    have := hx x (List.mem_range.2 hxl)
    simpa using this
  · exact h p (by omega) hp2 x hxl
def bN : Value → Nat
  | .bool true => 1
  | _ => 0
open Classical in
/-- How many cells of a block hold true. -/
noncomputable def cntW (B n : Nat) (w : World) : Nat := cnt (fun j => decide (w.cell? ⟨B, j, none⟩ = some (.bool true))) n
theorem cnt_congr {p p' : Nat → Bool} (n : Nat) (h : ∀ j, j < n → p j = p' j) : cnt p n = cnt p' n := by
  induction n with
  | zero => rfl
  | succ n ih => unfold cnt; rw [ih (fun j hj => h j (by omega)), h n (by omega)]
theorem cntW_eq {B n : Nat} {w : World} {F : Nat → Bool} {t : TypeId} (h : w.heap[B]? = some (.cells (bv F n) t (0, 0))) : cntW B n w = cnt F n := by
  unfold cntW
  refine cnt_congr n fun j hj => ?_
  rw [blkc h, bv_get F hj]
  cases F j <;> simp

/-- The closure that asks whether a state is out. -/
theorem trivial1_any (F : Nat → Bool) (n B R q : Nat) (hq : q < n) (_hn : n ≤ 16) (t u : TypeId) (w : World) (hB : w.heap[B]? = some (.cells #[.slice (some ⟨R, 0, none⟩) n n] t (0, 0))) (hR : w.heap[R]? = some (.cells (bv F n) u (0, 0))) :
    Calls Try.prog 190 #[.int .i64 q, .pointer (some ⟨B, 0, none⟩)] w fun e w' => e = .returned (.bool (!F q)) ∧ w = w' := by
  have c1 := blkc hB 0
  have c2 := (blkc hR q).trans (bv_get F hq)
  have j1 : (q : Int) < n := by omega
  have c1' : w.cell? ⟨B, 0, none⟩ = some (.slice (some ⟨R, 0, none⟩) n n) := c1
  clear c1
  cases hF : F q with
  | true =>
    rw [hF] at c2
    clear hF
    go_enter Try.func190, Try.ntmps190
    go_wp2
    go_ret
    exact ⟨rfl, rfl⟩
  | false =>
    rw [hF] at c2
    clear hF
    go_enter Try.func190, Try.ntmps190
    go_wp2
    go_ret
    exact ⟨rfl, rfl⟩
theorem info_bool : (Try.prog.info? 4).map (fun i => (i.zero, i.size, i.bytes)) = some (some (.bool false), 1, 1) := by kernel_rfl

set_option maxRecDepth 100000 in
set_option maxHeartbeats 1000000 in
theorem tableTrivial_any (g : Gm) (hok : g.Ok) (T : Nat) (w : World) (hT : TabAt w T (g.nxs g.s) (g.ous g.s)) :
    Calls Try.prog 126 #[.pointer (some ⟨T, 0, none⟩)] w fun e w' => e = .returned (.slice (some ⟨w.heap.size, 0, none⟩) g.s g.s) ∧ w'.heap[w.heap.size]? = some (.cells (bv g.tr g.s) 4 (0, 0)) ∧ Below w.heap.size w w' := by
  obtain ⟨vn, vo, hT0, hN, hO⟩ := hT
  have e1 : (g.nxs g.s).length = g.s := by simp [Gm.nxs]
  have e2 : (g.ous g.s).length = g.s := by simp [Gm.ous]
  obtain ⟨An, cn, rn, rfl, n1, n2, n3⟩ := hN
  obtain ⟨Ao, co, ro, rfl, o1, o2, o3⟩ := hO
  rw [e1] at *
  rw [e2] at *
  have c0 : w.cell? ⟨T, 0, none⟩ = some (.slice An g.s cn) := blkc hT0 0
  have c1 : w.cell? ⟨T, 1, none⟩ = some (.slice Ao g.s co) := blkc hT0 1
  have H0 := hidd hT0
  have N1 := hidd n1
  have N3 := hidd n3
  have O1 := hidd o1
  have O3 := hidd o3
  have N2 := hidd n2
  have O2 := hidd o2
  have HO := hidd hok
  have s16 := hok.s16
  have l3 := hok.l3
  clear hT0 n1 n2 n3 o1 o2 o3 hok
  go_enter Try.func126, Try.ntmps126
  go_wp2_with (at_make; refine mk_own rfl _ _ _ rfl w.heap.size 4 (.bool false) 1 Try.underlying100 info_bool rfl g.s rfl rfl (by omega) (by omega) (Nat.le_refl _) ?_; intro w1 ho hg hlt; have d1 := (((bel_grown (Below.refl _ w) hg (Nat.le_refl _) (fun k e => by cases e)).alloc (Nat.le_of_lt hlt) (.cells #[.slice (some ⟨w.heap.size, 0, none⟩) g.s g.s] 100)).cell (p := ⟨T, 1, none⟩) (hp_lt H0.out)).trans c1)
  have B1 : Below w.heap.size w w1 := bel_grown (Below.refl _ w) hg (Nat.le_refl _) (fun k e => by cases e)
  obtain ⟨w2, hw2⟩ : ∃ w2, w2 = w1.alloc (.cells #[.slice (some ⟨w.heap.size, 0, none⟩) g.s g.s] 100) := ⟨_, rfl⟩
  rw [← hw2]
  have Hb2 := hidd (show Below w.heap.size w w2 by rw [hw2]; exact B1.alloc (by omega) _)
  have HB2 := hidd (show w2.heap[w1.heap.size]? = some (.cells #[.slice (some ⟨w.heap.size, 0, none⟩) g.s g.s] 100 (0, 0)) by rw [hw2]; exact hp_new rfl)
  have HA2 := hidd (show w2.heap[w.heap.size]? = some (.cells (bv (g.idrs 0) g.s) 4 (0, 0)) by
    obtain ⟨cur, h3, h6, h7⟩ := ho.full
    have e : cur = bv (g.idrs 0) g.s := by
      apply Array.toList_inj.1
      rw [h7]
      apply List.ext_getElem?
      intro j
      by_cases hj : j < g.s
      · rw [List.getElem?_replicate, if_pos hj]
        show _ = ((List.range g.s).map fun j => Value.bool (g.idrs 0 j))[j]?
        simp [hj, Gm.idrs]
      · rw [List.getElem?_eq_none (by simp; omega), List.getElem?_eq_none (by simp [bv, av]; omega)]
    rw [← e, hw2]
    exact hp_old h3)
  have hne : w.heap.size ≠ w1.heap.size := by omega
  have c11 := c1
  clear hw2 ho hg d1 c0 c1 B1
  go_loopw [22] (fun i wr => ∃ q : Nat, q ≤ g.s ∧ i = .int .i64 q ∧ Hid (Below w.heap.size w wr) ∧ Hid (wr.heap[w1.heap.size]? = some (.cells #[.slice (some ⟨w.heap.size, 0, none⟩) g.s g.s] 100 (0, 0))) ∧ Hid (wr.heap[w.heap.size]? = some (.cells (bv (g.idrs q) g.s) 4 (0, 0)))) (fun i _ => g.s - (intOf i).toNat)
  case atStart => exact ⟨0, Nat.zero_le _, rfl, Hb2, HB2, HA2⟩
  case round =>
    clear Hb2 HB2 HA2
    obtain ⟨q, hq, rfl, Hb, HB, HA⟩ := hrel
    by_cases hqs : q < g.s
    · have hqr : q < ro.length := by rw [O2.out]; exact hqs
      obtain ⟨b, o, rfl, hcr⟩ := (O1.out.below Hb.out).at_ (List.getElem?_eq_getElem hqr)
      obtain ⟨Ar, cr, er, hrr⟩ := O3.out q ro[q] (g.or q) (List.getElem?_eq_getElem hqr) (by simp [Gm.ous, hqs])
      have el : (g.or q).length = g.l := by simp [Gm.or]
      rw [el] at er
      rw [er] at hcr
      have HRow := hidd hrr
      have b1 := blkc HB.out 0
      have b1' : wr.cell? ⟨w1.heap.size, 0, none⟩ = some (.slice (some ⟨w.heap.size, 0, none⟩) g.s g.s) := b1
      have a1 := (blkc HA.out q).trans (bv_get _ hqs)
      have f1 := blkf HA.out q
      have j1 : (q : Int) < g.s := by omega
      have Hs := hidd (fun b => bv_set (g.idrs q) g.s q b)
      clear er hrr b1
      go_wp2_with fail
      obtain ⟨wo, hwo⟩ : ∃ wo, wo = wr.setCell ⟨w.heap.size, q, none⟩ (.bool true) := ⟨_, rfl⟩
      rw [← hwo]
      have Hb3 := hidd (show Below w.heap.size w wo by rw [hwo]; exact Hb.out.setCell (Nat.le_refl _) _)
      have HB3 := hidd (show wo.heap[w1.heap.size]? = some (.cells #[.slice (some ⟨w.heap.size, 0, none⟩) g.s g.s] 100 (0, 0)) by rw [hwo]; exact hp_far HB.out (fun e => hne e.symm) _)
      have HA3 := hidd (show wo.heap[w.heap.size]? = some (.cells (bv (upd (g.idrs q) q (g.idrTo q 0)) g.s) 4 (0, 0)) by rw [hwo, g.idrTo_zero, ← Hs.out]; exact hp_set HA.out q _)
      clear hwo b1' a1 f1 hcr
      go_loopw [32] (fun i wr => ∃ x : Nat, x ≤ g.l ∧ i = .int .i64 x ∧ Hid (Below w.heap.size w wr) ∧ Hid (wr.heap[w1.heap.size]? = some (.cells #[.slice (some ⟨w.heap.size, 0, none⟩) g.s g.s] 100 (0, 0))) ∧ Hid (wr.heap[w.heap.size]? = some (.cells (bv (upd (g.idrs q) q (g.idrTo q x)) g.s) 4 (0, 0)))) (fun i _ => g.l - (intOf i).toNat)
      case atStart => exact ⟨0, Nat.zero_le _, rfl, Hb3, HB3, HA3⟩
      case round =>
        clear Hb3 HB3 HA3 Hb HB HA
        obtain ⟨x, hx, rfl, Hb, HB, HA⟩ := hrel
        by_cases hxl : x < g.l
        · obtain ⟨b5, o5, rfl, hcx⟩ := (HRow.out.below Hb.out).get (show x < (g.or q).length by rw [el]; exact hxl)
          have ex : (g.or q)[x]'(by rw [el]; exact hxl) = (g.ou q x : Int) := by simp [Gm.or]
          rw [ex] at hcx
          have b1 : wr.cell? ⟨w1.heap.size, 0, none⟩ = some (.slice (some ⟨w.heap.size, 0, none⟩) g.s g.s) := blkc HB.out 0
          have a1 := (blkc HA.out q).trans (bv_get _ hqs)
          rw [upd_same] at a1
          have f1 := blkf HA.out q
          have Hs := hidd (fun b => (bv_set (upd (g.idrs q) q (g.idrTo q x)) g.s q b).trans (by rw [upd_upd]))
          have Hsucc := hidd (g.idrTo_succ q x)
          cases hF : g.idrTo q x with
          | false =>
            rw [hF] at a1
            have HF := hidd hF
            clear hF
            go_wp2_with fail
            go_region
            go_wp2_with fail
            go_roundw
            case rel =>
              refine ⟨x + 1, by omega, by go_num, hidd (bel_drewN (Hb.out.setCell (Nat.le_refl _) _) 1), hidd (hp_far HB.out (fun e => hne e.symm) _), hidd ?_⟩
              rw [show g.idrTo q (x + 1) = false by rw [Hsucc.out, HF.out, Bool.false_and]]
              have h := hp_set HA.out q (.bool false)
              rw [Hs.out] at h
              exact h
            case measure => simp [intOf]; omega
          | true =>
            rw [hF] at a1
            have HF := hidd hF
            clear hF
            by_cases hou : g.ou q x = x
            · have HU := hidd hou
              have hou2 : (g.ou q x : Int) = x := by omega
              clear hou
              go_wp2_with fail
              go_region
              go_wp2_with fail
              go_roundw
              case rel =>
                refine ⟨x + 1, by omega, by go_num, hidd (bel_drewN (Hb.out.setCell (Nat.le_refl _) _) 1), hidd (hp_far HB.out (fun e => hne e.symm) _), hidd ?_⟩
                rw [show g.idrTo q (x + 1) = true by rw [Hsucc.out, HF.out, HU.out]; simp]
                have h := hp_set HA.out q (.bool true)
                rw [Hs.out] at h
                exact h
              case measure => simp [intOf]; omega
            · have HU := hidd hou
              have hou2 : ¬ ((g.ou q x : Int) = x) := by omega
              clear hou
              go_wp2_with fail
              go_region
              go_wp2_with fail
              go_roundw
              case rel =>
                refine ⟨x + 1, by omega, by go_num, hidd (bel_drewN (Hb.out.setCell (Nat.le_refl _) _) 1), hidd (hp_far HB.out (fun e => hne e.symm) _), hidd ?_⟩
                rw [show g.idrTo q (x + 1) = ((g.ou q x : Int) == (x : Int)) by rw [Hsucc.out, decide_eq_false HU.out, Bool.and_false]; exact (beq_eq_false_iff_ne.2 hou2).symm]
                have h := hp_set HA.out q (.bool ((g.ou q x : Int) == (x : Int)))
                rw [Hs.out] at h
                exact h
              case measure => simp [intOf]; omega
        · have he : x = g.l := by omega
          subst he
          have HA' := hidd (show wr.heap[w.heap.size]? = some (.cells (bv (g.idrs (q + 1)) g.s) 4 (0, 0)) by have := HA.out; rw [g.idrTo_all, g.idrs_step] at this; exact this)
          go_wp2_with fail
          go_roundw
          case rel => exact ⟨q + 1, by omega, by go_num, Hb, HB, HA'⟩
          case measure => simp [intOf]; omega
    · have he : q = g.s := by omega
      subst he
      go_wp2_with fail
      have HT0 := hidd (TS.start g)
      obtain ⟨F0, hF0⟩ : ∃ F0 : Nat → Bool, F0 = g.idrs g.s := ⟨_, rfl⟩
      rw [← hF0] at HT0 HA
      clear hF0 hq hqs
      obtain ⟨ws, rfl⟩ : ∃ ws : World, ws = wr := ⟨_, rfl⟩
      go_loopw [8] (fun a wr => ∃ (F : Nat → Bool) (ag : Bool), a = .bool ag ∧ Hid (TS g F) ∧ Hid (ag = false → Shut' g F g.s) ∧ Hid (Below w.heap.size w wr) ∧ Hid (wr.heap[w1.heap.size]? = some (.cells #[.slice (some ⟨w.heap.size, 0, none⟩) g.s g.s] 100 (0, 0))) ∧ Hid (wr.heap[w.heap.size]? = some (.cells (bv (F) g.s) 4 (0, 0)))) (fun a wr => bN a + cntW w.heap.size g.s wr)
      case atStart => exact ⟨F0, true, rfl, HT0, (hidd (fun h => by cases h)), Hb, HB, HA⟩
      case round =>
        clear HT0 Hb HB HA
        obtain ⟨F, ag, rfl, HTS, HSh, Hb, HB, HA⟩ := hrel
        cases ag with
        | true =>
          have c0 := (Hb.out.cell (p := ⟨T, 0, none⟩) (hp_lt H0.out)).trans (show w.cell? ⟨T, 0, none⟩ = some (.slice An g.s cn) from blkc H0.out 0)
          go_wp2_with fail
          clear c0
          obtain ⟨wo, rfl⟩ : ∃ wo : World, wo = wr := ⟨_, rfl⟩
          have HAo := hidd (cntW_eq HA.out)
          go_loopw [8, 57] (fun a i wr => ∃ (q : Nat) (F' : Nat → Bool) (ag' : Bool), q ≤ g.s ∧ a = .bool ag' ∧ i = .int .i64 q ∧ Hid (TS g F') ∧ Hid (ag' = false → F' = F ∧ Shut' g F' q) ∧ Hid (ag' = true → cnt F' g.s < cnt F g.s) ∧ Hid (Below w.heap.size w wr) ∧ Hid (wr.heap[w1.heap.size]? = some (.cells #[.slice (some ⟨w.heap.size, 0, none⟩) g.s g.s] 100 (0, 0))) ∧ Hid (wr.heap[w.heap.size]? = some (.cells (bv (F') g.s) 4 (0, 0)))) (fun _ i _ => g.s - (intOf i).toNat)
          case atStart => exact ⟨0, F, false, Nat.zero_le _, rfl, rfl, HTS, (hidd (fun _ => ⟨rfl, fun p hp => by omega⟩)), (hidd (fun h => by cases h)), Hb, HB, HA⟩
          case round =>
            clear Hb HB HA
            obtain ⟨q, F', ag', hq, rfl, rfl, HTS', HSh', Hct, Hb, HB, HA⟩ := hrel
            by_cases hqs : q < g.s
            · have hqr : q < rn.length := by rw [N2.out]; exact hqs
              obtain ⟨b, o, rfl, hcr⟩ := (N1.out.below Hb.out).at_ (List.getElem?_eq_getElem hqr)
              obtain ⟨Ar, cr, er, hrr⟩ := N3.out q rn[q] (g.nr q) (List.getElem?_eq_getElem hqr) (by simp [Gm.nxs, hqs])
              have el : (g.nr q).length = g.l := by simp [Gm.nr]
              rw [el] at er
              rw [er] at hcr
              have HRow := hidd hrr
              have b1 : wr.cell? ⟨w1.heap.size, 0, none⟩ = some (.slice (some ⟨w.heap.size, 0, none⟩) g.s g.s) := blkc HB.out 0
              have a1 := (blkc HA.out q).trans (bv_get F' hqs)
              have j1 : (q : Int) < g.s := by omega
              clear er hrr
              cases hF : F' q with
              | false =>
                rw [hF] at a1
                have HF := hidd hF
                clear hF
                go_wp2_with fail
                go_roundw
                case rel => exact ⟨q + 1, F', ag', by omega, rfl, by go_num, HTS', hidd (fun h => ⟨(HSh'.out h).1, (HSh'.out h).2.step_no HF.out⟩), Hct, Hb, HB, HA⟩
                case measure => simp [intOf]; omega
              | true =>
                rw [hF] at a1
                have HF := hidd hF
                clear hF
                have HC := hidd (show Calls Try.prog 110 #[.slice Ar g.l cr, .func (.func 190) #[] #[.pointer (some ⟨w1.heap.size, 0, none⟩)]] wr fun x w' => x = .returned (.bool ((List.range g.l).any fun x => !F' (g.nx q x))) ∧ Below wr.heap.size wr w' from by
                  have h := containsFunc64 190 #[.pointer (some ⟨w1.heap.size, 0, none⟩)] (enters_of Try.func190 (by kernel_rfl) rfl) Ar cr (ints (g.nr q)) (fun j => .int .i64 (g.nx q j)) (fun j => !F' (g.nx q j)) wr (HRow.out.below Hb.out) (fun j hj => by
                    rw [ints_length, el] at hj
                    rw [ints_get]
                    simp [Gm.nr, hj]) (fun j W hj hbl => by
                    rw [ints_length, el] at hj
                    exact (trivial1_any F' g.s w1.heap.size w.heap.size (g.nx q j) (HO.out.nlt q j hqs hj) s16 _ _ W (hp_bel HB.out hbl) (hp_bel HA.out hbl)).mono fun e w' ⟨h1, h2⟩ => ⟨h1, by rw [← h2]; exact Below.refl _ _⟩)
                  rw [ints_length, el] at h
                  exact h)
                obtain ⟨bb, hbb⟩ : ∃ bb, bb = (List.range g.l).any fun x => !F' (g.nx q x) := ⟨_, rfl⟩
                rw [← hbb] at HC
                cases bb with
                | true =>
                  have HD := hidd (HTS'.out.drop HO.out hqs hbb.symm)
                  have Hlt := hidd (show cnt (upd F' q false) g.s < cnt F g.s by
                    have h := cnt_upd hqs HF.out
                    cases ag' with
                    | false => rw [(HSh'.out rfl).1] at h ⊢; exact h
                    | true => exact Nat.lt_trans h (Hct.out rfl))
                  have Hset := hidd (bv_set F' g.s q false)
                  clear hbb
                  go_wp2_with (go_at_call 110; refine HC.out.mono ?_; rintro e w5 ⟨rfl, hb5⟩; have HB5 := hidd (hp_bel HB.out hb5); have HA5 := hidd (hp_bel HA.out hb5); have Hbb := hidd (bel_then Hb.out hb5); have b5 : w5.cell? ⟨w1.heap.size, 0, none⟩ = some (.slice (some ⟨w.heap.size, 0, none⟩) g.s g.s) := blkc HB5.out 0; have a5 := (blkc HA5.out q).trans (bv_get F' hqs); have f5 := blkf HA5.out q; clear hb5)
                  go_roundw
                  case rel => exact ⟨q + 1, upd F' q false, true, by omega, rfl, by go_num, HD, hidd (fun h => by cases h), hidd (fun _ => Hlt.out), hidd (Hbb.out.setCell (Nat.le_refl _) _), hidd (hp_far HB5.out (fun e => hne e.symm) _), hidd (by rw [← Hset.out]; exact hp_set HA5.out q _)⟩
                  case measure => simp [intOf]; omega
                | false =>
                  have HD := hidd (fun (h : ag' = false) => (show F' = F ∧ Shut' g F' (q + 1) from ⟨(HSh'.out h).1, (HSh'.out h).2.step_yes hbb.symm⟩))
                  clear hbb
                  go_wp2_with (go_at_call 110; refine HC.out.mono ?_; rintro e w5 ⟨rfl, hb5⟩; have HB5 := hidd (hp_bel HB.out hb5); have HA5 := hidd (hp_bel HA.out hb5); have Hbb := hidd (bel_then Hb.out hb5); have b5 : w5.cell? ⟨w1.heap.size, 0, none⟩ = some (.slice (some ⟨w.heap.size, 0, none⟩) g.s g.s) := blkc HB5.out 0; have a5 := (blkc HA5.out q).trans (bv_get F' hqs); have f5 := blkf HA5.out q; clear hb5)
                  go_roundw
                  case rel => exact ⟨q + 1, F', ag', by omega, rfl, by go_num, HTS', HD, Hct, Hbb, HB5, HA5⟩
                  case measure => simp [intOf]; omega
            · have he : q = g.s := by omega
              subst he
              go_wp2_with fail
              go_roundw
              case rel => exact ⟨F', ag', rfl, HTS', hidd (fun h => (HSh'.out h).2), Hb, HB, HA⟩
              case measure =>
                rw [cntW_eq HA.out, HAo.out]
                cases ag' with
                | false => rw [(HSh'.out rfl).1]; show 0 + _ < 1 + _; omega
                | true => have := Hct.out rfl; show 1 + _ < 1 + _; omega
        | false =>
          have HA' := hidd (show wr.heap[w.heap.size]? = some (.cells (bv g.tr g.s) 4 (0, 0)) by have := HA.out; rw [HTS.out.all HO.out (HSh.out rfl)] at this; exact this)
          have b1 : wr.cell? ⟨w1.heap.size, 0, none⟩ = some (.slice (some ⟨w.heap.size, 0, none⟩) g.s g.s) := blkc HB.out 0
          go_wp2_with fail
          go_ret
          exact ⟨rfl, HA'.out, Hb.out⟩
end Go.Proofs.Ytjnnbjlombopnaa

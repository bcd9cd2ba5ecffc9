/- Walks: the classes of equal states, of the reference. -/
import Derived.Test.YtjnnbjlombopnaaTi
import Derived.BigQuiet
namespace Go.Proofs.Ytjnnbjlombopnaa
open Go.RowKit

/-! ### Equal states of a machine -/
def Gm.oe (g : Gm) (q r : Nat) : Bool := (List.range g.l).all fun x => decide (g.ou q x = g.ou r x)
theorem Gm.oe_iff (g : Gm) (q r : Nat) : g.oe q r = true ↔ ∀ x, x < g.l → g.ou q x = g.ou r x := by simp [Gm.oe]
theorem Gm.oeE (g : Gm) : Eqv g.oe := ⟨fun q => (g.oe_iff q q).2 fun _ _ => rfl, fun q r h => (g.oe_iff r q).2 fun x hx => ((g.oe_iff q r).1 h x hx).symm, fun q r t h h2 => (g.oe_iff q t).2 fun x hx => ((g.oe_iff q r).1 h x hx).trans ((g.oe_iff r t).1 h2 x hx)⟩
def Gm.cl (g : Gm) : Nat → Nat → Nat := Ytjnnbjlombopnaa.cl g.l g.nx g.oe
def Gm.lst (g : Gm) (q : Nat) : Nat := Ytjnnbjlombopnaa.lst g.s g.l g.nx g.oe q
def iv (C : Nat → Nat) (n : Nat) : Array Value := av (fun j => .int .i64 (C j : Nat)) n
theorem iv_get (C : Nat → Nat) {n j : Nat} (h : j < n) : (iv C n)[j]? = some (.int .i64 (C j : Nat)) := av_get _ h
def updN (F : Nat → Nat) (q b : Nat) : Nat → Nat := fun j => if j = q then b else F j
theorem updN_same (F : Nat → Nat) (q b : Nat) : updN F q b q = b := by simp [updN]
theorem updN_ne (F : Nat → Nat) (b : Nat) {q j : Nat} (h : j ≠ q) : updN F q b j = F j := by simp [updN, h]
theorem iv_set (C : Nat → Nat) (n q b : Nat) : (iv C n).setIfInBounds q (.int .i64 (b : Nat)) = iv (updN C q b) n := by
  unfold iv
  rw [av_set]
  refine av_congr fun j _ => ?_
  unfold updN
  split <;> rfl
theorem iv_congr {C C' : Nat → Nat} {n : Nat} (h : ∀ j, j < n → C j = C' j) : iv C n = iv C' n := av_congr fun j hj => by rw [h j hj]

/-- The same outputs, and on to the same classes, for the first x letters. -/
def sameTo (g : Gm) (C : Nat → Nat) (q r x : Nat) : Bool := (List.range x).all fun y => decide (g.ou q y = g.ou r y) && decide (C (g.nx q y) = C (g.nx r y))
theorem sameTo_succ (g : Gm) (C : Nat → Nat) (q r x : Nat) : sameTo g C q r (x + 1) = (sameTo g C q r x && (decide (g.ou q x = g.ou r x) && decide (C (g.nx q x) = C (g.nx r x)))) := by simp [sameTo, List.range_succ]
theorem sameTo_no {g : Gm} {C : Nat → Nat} {q r x : Nat} (hx : x < g.l) (h : (decide (g.ou q x = g.ou r x) && decide (C (g.nx q x) = C (g.nx r x))) = false) : sameTo g C q r g.l = false := by
  unfold sameTo
  rw [List.all_eq_false]
  exact ⟨x, List.mem_range.2 hx, by rw [h]; simp⟩
theorem rel_same (g : Gm) (C : Nat → Nat) (q r : Nat) : rel g.l g.nx g.oe C q r = (decide (C r = C q) && sameTo g C q r g.l) := by
  rw [Bool.eq_iff_iff, rel_iff, Bool.and_eq_true, decide_eq_true_eq]
  unfold sameTo
  simp only [List.all_eq_true, List.mem_range, Bool.and_eq_true, decide_eq_true_eq, Gm.oe_iff]
  exact ⟨fun ⟨a, b, c⟩ => ⟨a, fun x hx => ⟨b x hx, c x hx⟩⟩, fun ⟨a, b⟩ => ⟨a, fun x hx => (b x hx).1, fun x hx => (b x hx).2⟩⟩

set_option maxRecDepth 100000 in
set_option maxHeartbeats 1000000 in
theorem l01Same_any (g : Gm) (hok : g.Ok) (cs : Array Value) (hg : g.Is cs) (C : Nat → Nat) (q r : Nat) (hq : q < g.s) (hr : r < g.s) (w : World) :
    Calls Try.prog 194 #[.agg cs, .agg (iv C 16), .int .i64 q, .int .i64 r] w fun e w' => e = .returned (.bool (sameTo g C q r g.l)) ∧ Below w.heap.size w w' := by
  have HG := hidd hg
  have HO := hidd hok
  have s16 := hok.s16
  have l3 := hok.l3
  clear hg hok
  go_enter Try.func194, Try.ntmps194
  go_wp2_with fail
  obtain ⟨w1, hw1⟩ : ∃ w1, w1 = (w.alloc (.cells cs 27)).alloc (.cells (iv C 16) 105) := ⟨_, rfl⟩
  rw [← hw1]
  have Bel := hidd (show Below w.heap.size w w1 by rw [hw1]; exact ((Below.refl _ _).alloc (Nat.le_refl _) _).alloc (by simp) _)
  have M1 := hidd (show w1.heap[w.heap.size]? = some (.cells cs 27 (0, 0)) by rw [hw1]; exact hp_old (hp_new rfl))
  have C1 := hidd (show w1.heap[w.heap.size + 1]? = some (.cells (iv C 16) 105 (0, 0)) by rw [hw1]; exact hp_new (by simp))
  clear hw1
  go_loopw [9] (fun i wr => ∃ x : Nat, x ≤ g.l ∧ i = .int .i64 x ∧ Hid (sameTo g C q r x = true) ∧ Hid (Below w.heap.size w wr) ∧ Hid (wr.heap[w.heap.size]? = some (.cells cs 27 (0, 0))) ∧ Hid (wr.heap[w.heap.size + 1]? = some (.cells (iv C 16) 105 (0, 0)))) (fun i _ => g.l - (intOf i).toNat)
  case atStart => exact ⟨0, Nat.zero_le _, rfl, hidd rfl, Bel, M1, C1⟩
  case round =>
    clear Bel M1 C1
    obtain ⟨x, hx, rfl, HS, Hb, HM, HC⟩ := hrel
    have A2 := hidd (Gm.At.of_is HG.out HM.out)
    have a1 := A2.out.l
    by_cases hxl : x < g.l
    · have n1 := A2.out.n q x (by omega) (by omega)
      have n2 := A2.out.n r x (by omega) (by omega)
      have o1 := A2.out.o q x (by omega) (by omega)
      have o2 := A2.out.o r x (by omega) (by omega)
      rw [Nat.zero_add] at n1 n2 o1 o2
      have d1 := (blkc HC.out (g.nx q x)).trans (iv_get C (by have := HO.out.nlt q x hq hxl; omega))
      have d2 := (blkc HC.out (g.nx r x)).trans (iv_get C (by have := HO.out.nlt r x hr hxl; omega))
      have j1 : (q : Int) < 16 := by omega
      have j2 : (r : Int) < 16 := by omega
      have j3 : (x : Int) < 3 := by omega
      have j4 : (g.nx q x : Int) < 16 := by have := HO.out.nlt q x hq hxl; omega
      have j5 : (g.nx r x : Int) < 16 := by have := HO.out.nlt r x hr hxl; omega
      have j6 : (0 : Int) ≤ q := by omega
      have j7 : (0 : Int) ≤ r := by omega
      have j8 : (0 : Int) ≤ x := by omega
      have j9 : (0 : Int) ≤ (g.nx q x : Int) := by omega
      have j10 : (0 : Int) ≤ (g.nx r x : Int) := by omega
      have hn256 := A2.out.nb q x (by omega) (by omega)
      have hn256' := A2.out.nb r x (by omega) (by omega)
      by_cases ho : g.ou q x = g.ou r x
      · have HOu := hidd ho
        have hd : ((g.ou q x : Int) != (g.ou r x : Int)) = false := bne_eq_false_iff_eq.2 (by omega)
        clear ho
        by_cases hc : C (g.nx q x) = C (g.nx r x)
        · have HCe := hidd hc
          have hd2 : ((C (g.nx q x) : Int) != (C (g.nx r x) : Int)) = false := bne_eq_false_iff_eq.2 (by omega)
          clear hc
          go_wp2_with fail
          go_quiet (fail)
          go_wp2_with fail
          go_roundw
          case rel => exact ⟨x + 1, by omega, by go_num, hidd (by rw [sameTo_succ, HS.out, HOu.out, HCe.out]; simp), hidd (bel_drewN Hb.out _), hidd HM.out, hidd HC.out⟩
          case measure => simp [intOf]; omega
        · have HCe := hidd hc
          have hd2 : ((C (g.nx q x) : Int) != (C (g.nx r x) : Int)) = true := bne_iff_ne.2 (by omega)
          clear hc
          go_wp2_with fail
          go_quiet (fail)
          go_wp2_with fail
          go_ret
          exact ⟨ret_b (sameTo_no hxl (by rw [decide_eq_false HCe.out, Bool.and_false])).symm, bel_drewN Hb.out _⟩
      · have HOu := hidd ho
        have hd : ((g.ou q x : Int) != (g.ou r x : Int)) = true := bne_iff_ne.2 (by omega)
        clear ho
        go_wp2_with fail
        go_quiet (fail)
        go_wp2_with fail
        go_ret
        exact ⟨ret_b (sameTo_no hxl (by rw [decide_eq_false HOu.out, Bool.false_and])).symm, bel_drewN Hb.out _⟩
    · have he : x = g.l := by omega
      subst he
      go_wp2_with fail
      go_ret
      exact ⟨ret_b HS.out.symm, Hb.out⟩
end Go.Proofs.Ytjnnbjlombopnaa

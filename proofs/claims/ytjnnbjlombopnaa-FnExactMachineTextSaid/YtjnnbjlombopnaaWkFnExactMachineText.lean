/- The walk of the law FnExactMachineText: it returns true and leaves memory as it was. A program wrote it out of the law's shape. -/
import Derived.Test.YtjnnbjlombopnaaBF
import Derived.Test.YtjnnbjlombopnaaBA
namespace Go.Proofs.Ytjnnbjlombopnaa
open Go.RowKit
set_option maxRecDepth 100000 in
set_option maxHeartbeats 1000000 in
theorem fnExactMachineText_walk (w : World) (cs : Array Value) (m : Mc) (hm : m.Is cs) :
    Calls Try.prog 12 #[.agg cs] w fun e w' => e = .returned (.bool true) ∧ Below w.heap.size w w' := by
  have Hm := hidd hm
  clear hm
  obtain ⟨r, hrr⟩ : ∃ r, mtxR m = r := ⟨_, rfl⟩
  have HR := hidd hrr
  clear hrr
  go_enter Try.func12, Try.ntmps12
  go_wp2_with (refine ldL rfl (.tmp 1) rfl w.heap.size rfl Hm.out (hp_new rfl) ?_)
  obtain ⟨w0, hw0⟩ : ∃ w0, w0 = w.alloc (.cells cs 25) := ⟨_, rfl⟩
  rw [← hw0]
  have B0 := hidd (show Below w.heap.size w w0 by rw [hw0]; exact (Below.refl _ _).alloc (Nat.le_refl _) _)
  have K0 := hidd (show w0.heap[w.heap.size]? = some (.cells cs 25 (0, 0)) by rw [hw0]; exact hp_new rfl)
  have Z0 := hidd (show w.heap.size < w0.heap.size by rw [hw0]; simp)
  clear hw0
  refine (toMachine_any cs m Hm.out _).mono ?_
  rintro e w1 ⟨rfl, hb⟩
  have Z1 := hidd hb.size
  have B1 := hidd (bel_then B0.out hb)
  have K1 := hidd (hp_bel K0.out hb)
  clear hb B0 K0
  go_wp2_with (refine ldL rfl (.tmp 1) rfl w.heap.size rfl Hm.out K1.out ?_)
  refine (specMachineText_any m cs Hm.out _).mono ?_
  rintro e w2 ⟨rfl, hb⟩
  rw [HR.out]
  have Z2 := hidd hb.size
  have B2 := hidd (bel_then B1.out hb)
  have K2 := hidd (hp_bel K1.out hb)
  clear hb B1 K1
  go_wp2_with (refine ldL rfl (.tmp 1) rfl w.heap.size rfl Hm.out K2.out ?_)
  refine (toMachine_any cs m Hm.out _).mono ?_
  rintro e w3 ⟨rfl, hb⟩
  have Z3 := hidd hb.size
  have B3 := hidd (bel_then B2.out hb)
  have K3 := hidd (hp_bel K2.out hb)
  clear hb B2 K2
  go_wp2_with (refine ldL rfl (.tmp 1) rfl w.heap.size rfl Hm.out K3.out ?_)
  refine (implMachineText_any m cs Hm.out _).mono ?_
  rintro e w4 ⟨rfl, hb⟩
  rw [HR.out]
  have Z4 := hidd hb.size
  have B4 := hidd (bel_then B3.out hb)
  have K4 := hidd (hp_bel K3.out hb)
  clear hb B3 K3
  go_wp2_with fail
  go_ret
  exact ⟨rfl, B4.out⟩
end Go.Proofs.Ytjnnbjlombopnaa

/- The walk of the law FnExactIsMachine: it returns true and leaves memory as it was. -/
import Derived.Test.YtjnnbjlombopnaaIsM
import Derived.Test.YtjnnbjlombopnaaToM
namespace Go.Proofs.Ytjnnbjlombopnaa
open Go.RowKit
set_option maxHeartbeats 400000 in
theorem fnExactIsMachine_walk (cs : Array Value) (m : Mc) (hm : m.Is cs) (w : World) :
    Calls Try.prog 3 #[.agg cs] w fun e w' => e = .returned (.bool true) ∧ Below w.heap.size w w' := by
  have Hm := hidd hm
  clear hm
  obtain ⟨r, hr⟩ : ∃ r, m.ok = r := ⟨_, rfl⟩
  have Hr := hidd hr
  clear hr
  go_enter Try.func3, Try.ntmps3
  go_wp2_with (refine ldL rfl (.tmp 1) rfl w.heap.size rfl Hm.out (hp_new rfl) ?_)
  refine (toMachine_any cs m Hm.out _).mono ?_
  rintro e w1 ⟨rfl, hb⟩
  have B1 := hidd (bel_then ((Below.refl w.heap.size w).alloc (Nat.le_refl _) _) hb)
  have K1 := hidd (hp_bel (hp_new rfl) hb : w1.heap[w.heap.size]? = some (.cells cs 25 (0, 0)))
  clear hb
  go_wp2_with fail
  refine (specIsMachine_any m cs Hm.out _).mono ?_
  rintro e w2 ⟨rfl, hb⟩
  have B2 := hidd (bel_then B1.out hb)
  have K2 := hidd (hp_bel K1.out hb)
  clear hb
  rw [Hr.out]
  go_wp2_with (refine ldL rfl (.tmp 1) rfl w.heap.size rfl Hm.out K2.out ?_)
  refine (toMachine_any cs m Hm.out _).mono ?_
  rintro e w3 ⟨rfl, hb⟩
  have B3 := hidd (bel_then B2.out hb)
  clear hb
  go_wp2_with fail
  refine (implIsMachine_any m cs Hm.out _).mono ?_
  rintro e w4 ⟨rfl, hb⟩
  have B4 := hidd (bel_then B3.out hb)
  clear hb
  rw [Hr.out]
  go_wp2_with fail
  go_ret
  exact ⟨rfl, B4.out⟩
end Go.Proofs.Ytjnnbjlombopnaa

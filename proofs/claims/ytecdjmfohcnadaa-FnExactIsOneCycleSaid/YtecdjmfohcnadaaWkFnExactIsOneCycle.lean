/- The walk of the law FnExactIsOneCycle: it returns true and leaves memory as it was. A program wrote it out of the law's shape. -/
import Derived.Test.YtecdjmfohcnadaaPcy
import Derived.Test.YtecdjmfohcnadaaLaw
namespace Go.Proofs.Ytecdjmfohcnadaa
open Go.RowKit
set_option maxRecDepth 100000 in
set_option maxHeartbeats 1000000 in
theorem fnExactIsOneCycle_walk (w : World) (a0 : Int) (_wa0 : (Lit.int .i64 a0).wf = true) (a1 : Int) (_wa1 : (Lit.int .i64 a1).wf = true) (v2 : Value) (xs2 : List Int) (hr2 : RdI w v2 xs2) :
    Calls Try.prog 11 #[.int .i64 a0, .int .i64 a1, v2] w fun e w' => e = .returned (.bool true) ∧ Below w.heap.size w w' := by
  have hl2 := hr2.le
  have Hr2 := hidd hr2
  clear hr2
  by_cases hn2 : xs2.length ≤ 1048576
  rotate_left
  obtain ⟨A2, c2, rfl, hq2⟩ := Hr2.out
  clear hq2
  have hn2' : 1048576 < xs2.length := by omega
  · clear hn2
    go_enter Try.func11, Try.ntmps11
    go_wp2
    go_ret
    exact ⟨rfl, Below.refl _ _⟩
  obtain ⟨A2, c2, ev2, hq2⟩ := Hr2.out
  clear hq2
  subst ev2
  obtain ⟨r, hrr⟩ : ∃ r, icR a0 a1 xs2 = r := ⟨_, rfl⟩
  have HR := hidd hrr
  clear hrr
  go_enter Try.func11, Try.ntmps11
  go_wp2_with fail
  obtain ⟨w0, hw0⟩ : ∃ w0, w0 = w := ⟨_, rfl⟩
  rw [← hw0]
  have B0 := hidd (show Below w.heap.size w w0 by rw [hw0]; exact Below.refl _ _)
  have Z0 := hidd (show w.heap.size ≤ w0.heap.size by rw [hw0]; omega)
  clear hw0
  refine (toInt64S_any _ xs2 _ (Hr2.out.below B0.out) hn2).mono ?_
  rintro e w1 ⟨⟨l1, rfl, ho⟩, hb⟩
  have Cl1 := hidd ho
  have Ol1_1 := hidd ho
  clear ho
  have Z1 := hidd hb.size
  have B1 := hidd (bel_then B0.out hb)
  clear hb B0
  go_wp2_with fail
  refine (specIsOneCycle_any a0 a1 _ xs2 _ Ol1_1.out.rdI).mono ?_
  rintro e w2 ⟨rfl, hb⟩
  rw [HR.out]
  have Z2 := hidd hb.size
  have B2 := hidd (bel_then B1.out hb)
  have Ol1_2 := hidd (Ol1_1.out.below hb)
  clear hb B1 Ol1_1
  go_wp2_with fail
  refine (toInt64S_any _ xs2 _ (Hr2.out.below B2.out) hn2).mono ?_
  rintro e w3 ⟨⟨l3, rfl, ho⟩, hb⟩
  have Cl3 := hidd ho
  have Ol3_3 := hidd ho
  clear ho
  have Z3 := hidd hb.size
  have B3 := hidd (bel_then B2.out hb)
  have Ol1_3 := hidd (Ol1_2.out.below hb)
  clear hb B2 Ol1_2
  go_wp2_with fail
  refine (implIsOneCycle_any a0 a1 _ xs2 _ Ol3_3.out.rdI).mono ?_
  rintro e w4 ⟨rfl, hb⟩
  rw [HR.out]
  have Z4 := hidd hb.size
  have B4 := hidd (bel_then B3.out hb)
  have Ol1_4 := hidd (Ol1_3.out.below hb)
  have Ol3_4 := hidd (Ol3_3.out.below hb)
  clear hb B3 Ol1_3 Ol3_3
  go_wp2_with fail
  refine (toInt64S_any _ xs2 _ (Hr2.out.below B4.out) hn2).mono ?_
  rintro e w5 ⟨⟨l5, rfl, ho⟩, hb⟩
  have Cl5 := hidd ho
  have Ol5_5 := hidd ho
  clear ho
  have Z5 := hidd hb.size
  have B5 := hidd (bel_then B4.out hb)
  have Ol1_5 := hidd (Ol1_4.out.below hb)
  have Ol3_5 := hidd (Ol3_4.out.below hb)
  clear hb B4 Ol1_4 Ol3_4
  go_wp2_with fail
  refine (eqInt64S_any _ _ _ _ Ol3_5.out.rdI Ol5_5.out.rdI).mono ?_
  rintro e w6 ⟨rfl, hb⟩
  have Z6 := hidd hb.size
  have B6 := hidd (bel_then B5.out hb)
  have Ol1_6 := hidd (Ol1_5.out.below hb)
  have Ol3_6 := hidd (Ol3_5.out.below hb)
  have Ol5_6 := hidd (Ol5_5.out.below hb)
  clear hb B5 Ol1_5 Ol3_5 Ol5_5
  go_wp2_with fail
  go_ret
  exact ⟨rfl, B6.out⟩
end Go.Proofs.Ytecdjmfohcnadaa

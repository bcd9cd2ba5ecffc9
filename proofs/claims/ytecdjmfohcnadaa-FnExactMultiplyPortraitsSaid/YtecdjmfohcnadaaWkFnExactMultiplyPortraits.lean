/- The walk of the law FnExactMultiplyPortraits: it returns true and leaves memory as it was. A program wrote it out of the law's shape. -/
import Derived.Test.YtecdjmfohcnadaaPmv
import Derived.Test.YtecdjmfohcnadaaLaw
namespace Go.Proofs.Ytecdjmfohcnadaa
open Go.RowKit
set_option maxRecDepth 100000 in
set_option maxHeartbeats 1000000 in
theorem fnExactMultiplyPortraits_walk (w : World) (a0 : Int) (_wa0 : (Lit.int .i64 a0).wf = true) (a1 : Int) (_wa1 : (Lit.int .i64 a1).wf = true) (v2 : Value) (xs2 : List Int) (hr2 : RdI w v2 xs2) (v3 : Value) (xs3 : List Int) (hr3 : RdI w v3 xs3) :
    Calls Try.prog 9 #[.int .i64 a0, .int .i64 a1, v2, v3] w fun e w' => e = .returned (.bool true) ∧ Below w.heap.size w w' := by
  have hl2 := hr2.le
  have Hr2 := hidd hr2
  clear hr2
  have hl3 := hr3.le
  have Hr3 := hidd hr3
  clear hr3
  by_cases hn2 : xs2.length ≤ 1048576
  rotate_left
  obtain ⟨A2, c2, rfl, hq2⟩ := Hr2.out
  clear hq2
  have hn2' : 1048576 < xs2.length := by omega
  · clear hn2
    go_enter Try.func9, Try.ntmps9
    go_wp2
    go_ret
    exact ⟨rfl, Below.refl _ _⟩
  by_cases hn3 : xs3.length ≤ 1048576
  rotate_left
  obtain ⟨A2, c2, rfl, hq2⟩ := Hr2.out
  clear hq2
  obtain ⟨A3, c3, rfl, hq3⟩ := Hr3.out
  clear hq3
  have hn3' : 1048576 < xs3.length := by omega
  · clear hn3
    go_enter Try.func9, Try.ntmps9
    go_wp2
    go_ret
    exact ⟨rfl, Below.refl _ _⟩
  obtain ⟨A2, c2, ev2, hq2⟩ := Hr2.out
  clear hq2
  subst ev2
  obtain ⟨A3, c3, ev3, hq3⟩ := Hr3.out
  clear hq3
  subst ev3
  obtain ⟨r, hrr⟩ : ∃ r, mpR a0 a1 xs2 xs3 = r := ⟨_, rfl⟩
  have HR := hidd hrr
  clear hrr
  have HL := hidd (show r.1.length ≤ 1048576 by rw [← HR.out]; exact mpR_len a0 a1 xs2 xs3)
  go_enter Try.func9, Try.ntmps9
  go_wp2_with fail
  obtain ⟨w0, hw0⟩ : ∃ w0, w0 = w := ⟨_, rfl⟩
  rw [← hw0]
  have B0 := hidd (show Below w.heap.size w w0 by rw [hw0]; exact Below.refl _ _)
  have Z0 := hidd (show w.heap.size ≤ w0.heap.size by rw [hw0]; omega)
  clear hw0
  refine (toInt64S_any _ xs2 _ (Hr2.out.below B0.out) hn2).mono ?_
  rintro e w1 ⟨⟨l1, rfl, ho⟩, hb⟩
  have Cl1 := hidd ho
  have Ol1_1 := hidd ho
  clear ho
  have Z1 := hidd hb.size
  have B1 := hidd (bel_then B0.out hb)
  clear hb B0
  go_wp2_with fail
  refine (toInt64S_any _ xs3 _ (Hr3.out.below B1.out) hn3).mono ?_
  rintro e w2 ⟨⟨l2, rfl, ho⟩, hb⟩
  have Cl2 := hidd ho
  have Ol2_2 := hidd ho
  clear ho
  have Z2 := hidd hb.size
  have B2 := hidd (bel_then B1.out hb)
  have Ol1_2 := hidd (Ol1_1.out.below hb)
  clear hb B1 Ol1_1
  go_wp2_with fail
  refine (specMultiplyPortraits_any a0 a1 _ _ xs2 xs3 _ Ol1_2.out.rdI Ol2_2.out.rdI).mono ?_
  rintro e w3 ⟨⟨r3, rfl, ho⟩, hb⟩
  rw [HR.out] at ho ⊢
  have Cr3 := hidd ho
  have Or3_3 := hidd ho
  clear ho
  have Z3 := hidd hb.size
  have B3 := hidd (bel_then B2.out hb)
  have Ol1_3 := hidd (Ol1_2.out.below hb)
  have Ol2_3 := hidd (Ol2_2.out.below hb)
  clear hb B2 Ol1_2 Ol2_2
  go_wp2_with fail
  refine (toInt64S_any _ xs2 _ (Hr2.out.below B3.out) hn2).mono ?_
  rintro e w4 ⟨⟨l4, rfl, ho⟩, hb⟩
  have Cl4 := hidd ho
  have Ol4_4 := hidd ho
  clear ho
  have Z4 := hidd hb.size
  have B4 := hidd (bel_then B3.out hb)
  have Ol1_4 := hidd (Ol1_3.out.below hb)
  have Ol2_4 := hidd (Ol2_3.out.below hb)
  have Or3_4 := hidd (Or3_3.out.below hb)
  clear hb B3 Ol1_3 Ol2_3 Or3_3
  go_wp2_with fail
  refine (toInt64S_any _ xs3 _ (Hr3.out.below B4.out) hn3).mono ?_
  rintro e w5 ⟨⟨l5, rfl, ho⟩, hb⟩
  have Cl5 := hidd ho
  have Ol5_5 := hidd ho
  clear ho
  have Z5 := hidd hb.size
  have B5 := hidd (bel_then B4.out hb)
  have Ol1_5 := hidd (Ol1_4.out.below hb)
  have Ol2_5 := hidd (Ol2_4.out.below hb)
  have Or3_5 := hidd (Or3_4.out.below hb)
  have Ol4_5 := hidd (Ol4_4.out.below hb)
  clear hb B4 Ol1_4 Ol2_4 Or3_4 Ol4_4
  go_wp2_with fail
  refine (implMultiplyPortraits_any a0 a1 _ _ xs2 xs3 _ Ol4_5.out.rdI Ol5_5.out.rdI).mono ?_
  rintro e w6 ⟨⟨r6, rfl, ho⟩, hb⟩
  rw [HR.out] at ho ⊢
  have Cr6 := hidd ho
  have Or6_6 := hidd ho
  clear ho
  have Z6 := hidd hb.size
  have B6 := hidd (bel_then B5.out hb)
  have Ol1_6 := hidd (Ol1_5.out.below hb)
  have Ol2_6 := hidd (Ol2_5.out.below hb)
  have Or3_6 := hidd (Or3_5.out.below hb)
  have Ol4_6 := hidd (Ol4_5.out.below hb)
  have Ol5_6 := hidd (Ol5_5.out.below hb)
  clear hb B5 Ol1_5 Ol2_5 Or3_5 Ol4_5 Ol5_5
  go_wp2_with fail
  refine (eqInt64S_any _ _ _ _ Or6_6.out.rdI Or3_6.out.rdI).mono ?_
  rintro e w7 ⟨rfl, hb⟩
  have Z7 := hidd hb.size
  have B7 := hidd (bel_then B6.out hb)
  have Ol1_7 := hidd (Ol1_6.out.below hb)
  have Ol2_7 := hidd (Ol2_6.out.below hb)
  have Or3_7 := hidd (Or3_6.out.below hb)
  have Ol4_7 := hidd (Ol4_6.out.below hb)
  have Ol5_7 := hidd (Ol5_6.out.below hb)
  have Or6_7 := hidd (Or6_6.out.below hb)
  clear hb B6 Ol1_6 Ol2_6 Or3_6 Ol4_6 Ol5_6 Or6_6
  go_wp2_with fail
  refine (toInt64S_any _ xs2 _ (Hr2.out.below B7.out) hn2).mono ?_
  rintro e w8 ⟨⟨l7, rfl, ho⟩, hb⟩
  have Cl7 := hidd ho
  have Ol7_8 := hidd ho
  clear ho
  have Z8 := hidd hb.size
  have B8 := hidd (bel_then B7.out hb)
  have Ol1_8 := hidd (Ol1_7.out.below hb)
  have Ol2_8 := hidd (Ol2_7.out.below hb)
  have Or3_8 := hidd (Or3_7.out.below hb)
  have Ol4_8 := hidd (Ol4_7.out.below hb)
  have Ol5_8 := hidd (Ol5_7.out.below hb)
  have Or6_8 := hidd (Or6_7.out.below hb)
  clear hb B7 Ol1_7 Ol2_7 Or3_7 Ol4_7 Ol5_7 Or6_7
  go_wp2_with fail
  refine (eqInt64S_any _ _ _ _ Ol4_8.out.rdI Ol7_8.out.rdI).mono ?_
  rintro e w9 ⟨rfl, hb⟩
  have Z9 := hidd hb.size
  have B9 := hidd (bel_then B8.out hb)
  have Ol1_9 := hidd (Ol1_8.out.below hb)
  have Ol2_9 := hidd (Ol2_8.out.below hb)
  have Or3_9 := hidd (Or3_8.out.below hb)
  have Ol4_9 := hidd (Ol4_8.out.below hb)
  have Ol5_9 := hidd (Ol5_8.out.below hb)
  have Or6_9 := hidd (Or6_8.out.below hb)
  have Ol7_9 := hidd (Ol7_8.out.below hb)
  clear hb B8 Ol1_8 Ol2_8 Or3_8 Ol4_8 Ol5_8 Or6_8 Ol7_8
  go_wp2_with fail
  refine (toInt64S_any _ xs3 _ (Hr3.out.below B9.out) hn3).mono ?_
  rintro e w10 ⟨⟨l8, rfl, ho⟩, hb⟩
  have Cl8 := hidd ho
  have Ol8_10 := hidd ho
  clear ho
  have Z10 := hidd hb.size
  have B10 := hidd (bel_then B9.out hb)
  have Ol1_10 := hidd (Ol1_9.out.below hb)
  have Ol2_10 := hidd (Ol2_9.out.below hb)
  have Or3_10 := hidd (Or3_9.out.below hb)
  have Ol4_10 := hidd (Ol4_9.out.below hb)
  have Ol5_10 := hidd (Ol5_9.out.below hb)
  have Or6_10 := hidd (Or6_9.out.below hb)
  have Ol7_10 := hidd (Ol7_9.out.below hb)
  clear hb B9 Ol1_9 Ol2_9 Or3_9 Ol4_9 Ol5_9 Or6_9 Ol7_9
  go_wp2_with fail
  refine (eqInt64S_any _ _ _ _ Ol5_10.out.rdI Ol8_10.out.rdI).mono ?_
  rintro e w11 ⟨rfl, hb⟩
  have Z11 := hidd hb.size
  have B11 := hidd (bel_then B10.out hb)
  have Ol1_11 := hidd (Ol1_10.out.below hb)
  have Ol2_11 := hidd (Ol2_10.out.below hb)
  have Or3_11 := hidd (Or3_10.out.below hb)
  have Ol4_11 := hidd (Ol4_10.out.below hb)
  have Ol5_11 := hidd (Ol5_10.out.below hb)
  have Or6_11 := hidd (Or6_10.out.below hb)
  have Ol7_11 := hidd (Ol7_10.out.below hb)
  have Ol8_11 := hidd (Ol8_10.out.below hb)
  clear hb B10 Ol1_10 Ol2_10 Or3_10 Ol4_10 Ol5_10 Or6_10 Ol7_10 Ol8_10
  go_wp2_with fail
  refine (markInt64S_any _ _ _ _ _ Ol4_11.out (by omega) (by omega)).mono ?_
  rintro e w12 ⟨rfl, ho, hg⟩
  have Z12 := hidd hg.size
  have B12 := hidd (bel_mark B11.out Ol4_11.out hg (by have z0 := Z0.out; have z1 := Z1.out; have z2 := Z2.out; have z3 := Z3.out; have z4 := Z4.out; have z5 := Z5.out; have z6 := Z6.out; have z7 := Z7.out; have z8 := Z8.out; have z9 := Z9.out; have z10 := Z10.out; have z11 := Z11.out; omega))
  have Ol1_12 := hidd (Ol1_11.out.grown hg (own_ne Cl1.out Cl4.out (by have z0 := Z0.out; have z1 := Z1.out; have z2 := Z2.out; have z3 := Z3.out; have z4 := Z4.out; have z5 := Z5.out; have z6 := Z6.out; have z7 := Z7.out; have z8 := Z8.out; have z9 := Z9.out; have z10 := Z10.out; have z11 := Z11.out; omega)))
  have Ol2_12 := hidd (Ol2_11.out.grown hg (own_ne Cl2.out Cl4.out (by have z0 := Z0.out; have z1 := Z1.out; have z2 := Z2.out; have z3 := Z3.out; have z4 := Z4.out; have z5 := Z5.out; have z6 := Z6.out; have z7 := Z7.out; have z8 := Z8.out; have z9 := Z9.out; have z10 := Z10.out; have z11 := Z11.out; omega)))
  have Or3_12 := hidd (Or3_11.out.grown hg (own_ne Cr3.out Cl4.out (by have z0 := Z0.out; have z1 := Z1.out; have z2 := Z2.out; have z3 := Z3.out; have z4 := Z4.out; have z5 := Z5.out; have z6 := Z6.out; have z7 := Z7.out; have z8 := Z8.out; have z9 := Z9.out; have z10 := Z10.out; have z11 := Z11.out; omega)))
  have Ol5_12 := hidd (Ol5_11.out.grown hg (own_ne' Cl4.out Cl5.out (by have z0 := Z0.out; have z1 := Z1.out; have z2 := Z2.out; have z3 := Z3.out; have z4 := Z4.out; have z5 := Z5.out; have z6 := Z6.out; have z7 := Z7.out; have z8 := Z8.out; have z9 := Z9.out; have z10 := Z10.out; have z11 := Z11.out; omega)))
  have Or6_12 := hidd (Or6_11.out.grown hg (own_ne' Cl4.out Cr6.out (by have z0 := Z0.out; have z1 := Z1.out; have z2 := Z2.out; have z3 := Z3.out; have z4 := Z4.out; have z5 := Z5.out; have z6 := Z6.out; have z7 := Z7.out; have z8 := Z8.out; have z9 := Z9.out; have z10 := Z10.out; have z11 := Z11.out; omega)))
  have Ol7_12 := hidd (Ol7_11.out.grown hg (own_ne' Cl4.out Cl7.out (by have z0 := Z0.out; have z1 := Z1.out; have z2 := Z2.out; have z3 := Z3.out; have z4 := Z4.out; have z5 := Z5.out; have z6 := Z6.out; have z7 := Z7.out; have z8 := Z8.out; have z9 := Z9.out; have z10 := Z10.out; have z11 := Z11.out; omega)))
  have Ol8_12 := hidd (Ol8_11.out.grown hg (own_ne' Cl4.out Cl8.out (by have z0 := Z0.out; have z1 := Z1.out; have z2 := Z2.out; have z3 := Z3.out; have z4 := Z4.out; have z5 := Z5.out; have z6 := Z6.out; have z7 := Z7.out; have z8 := Z8.out; have z9 := Z9.out; have z10 := Z10.out; have z11 := Z11.out; omega)))
  have Ol4_12 := hidd ho
  clear ho hg B11 Ol1_11 Ol2_11 Or3_11 Ol4_11 Ol5_11 Or6_11 Ol7_11 Ol8_11
  go_wp2_with fail
  refine (markInt64S_any _ _ _ _ _ Ol5_12.out (by omega) (by omega)).mono ?_
  rintro e w13 ⟨rfl, ho, hg⟩
  have Z13 := hidd hg.size
  have B13 := hidd (bel_mark B12.out Ol5_12.out hg (by have z0 := Z0.out; have z1 := Z1.out; have z2 := Z2.out; have z3 := Z3.out; have z4 := Z4.out; have z5 := Z5.out; have z6 := Z6.out; have z7 := Z7.out; have z8 := Z8.out; have z9 := Z9.out; have z10 := Z10.out; have z11 := Z11.out; have z12 := Z12.out; omega))
  have Ol1_13 := hidd (Ol1_12.out.grown hg (own_ne Cl1.out Cl5.out (by have z0 := Z0.out; have z1 := Z1.out; have z2 := Z2.out; have z3 := Z3.out; have z4 := Z4.out; have z5 := Z5.out; have z6 := Z6.out; have z7 := Z7.out; have z8 := Z8.out; have z9 := Z9.out; have z10 := Z10.out; have z11 := Z11.out; have z12 := Z12.out; omega)))
  have Ol2_13 := hidd (Ol2_12.out.grown hg (own_ne Cl2.out Cl5.out (by have z0 := Z0.out; have z1 := Z1.out; have z2 := Z2.out; have z3 := Z3.out; have z4 := Z4.out; have z5 := Z5.out; have z6 := Z6.out; have z7 := Z7.out; have z8 := Z8.out; have z9 := Z9.out; have z10 := Z10.out; have z11 := Z11.out; have z12 := Z12.out; omega)))
  have Or3_13 := hidd (Or3_12.out.grown hg (own_ne Cr3.out Cl5.out (by have z0 := Z0.out; have z1 := Z1.out; have z2 := Z2.out; have z3 := Z3.out; have z4 := Z4.out; have z5 := Z5.out; have z6 := Z6.out; have z7 := Z7.out; have z8 := Z8.out; have z9 := Z9.out; have z10 := Z10.out; have z11 := Z11.out; have z12 := Z12.out; omega)))
  have Ol4_13 := hidd (Ol4_12.out.grown hg (own_ne Cl4.out Cl5.out (by have z0 := Z0.out; have z1 := Z1.out; have z2 := Z2.out; have z3 := Z3.out; have z4 := Z4.out; have z5 := Z5.out; have z6 := Z6.out; have z7 := Z7.out; have z8 := Z8.out; have z9 := Z9.out; have z10 := Z10.out; have z11 := Z11.out; have z12 := Z12.out; omega)))
  have Or6_13 := hidd (Or6_12.out.grown hg (own_ne' Cl5.out Cr6.out (by have z0 := Z0.out; have z1 := Z1.out; have z2 := Z2.out; have z3 := Z3.out; have z4 := Z4.out; have z5 := Z5.out; have z6 := Z6.out; have z7 := Z7.out; have z8 := Z8.out; have z9 := Z9.out; have z10 := Z10.out; have z11 := Z11.out; have z12 := Z12.out; omega)))
  have Ol7_13 := hidd (Ol7_12.out.grown hg (own_ne' Cl5.out Cl7.out (by have z0 := Z0.out; have z1 := Z1.out; have z2 := Z2.out; have z3 := Z3.out; have z4 := Z4.out; have z5 := Z5.out; have z6 := Z6.out; have z7 := Z7.out; have z8 := Z8.out; have z9 := Z9.out; have z10 := Z10.out; have z11 := Z11.out; have z12 := Z12.out; omega)))
  have Ol8_13 := hidd (Ol8_12.out.grown hg (own_ne' Cl5.out Cl8.out (by have z0 := Z0.out; have z1 := Z1.out; have z2 := Z2.out; have z3 := Z3.out; have z4 := Z4.out; have z5 := Z5.out; have z6 := Z6.out; have z7 := Z7.out; have z8 := Z8.out; have z9 := Z9.out; have z10 := Z10.out; have z11 := Z11.out; have z12 := Z12.out; omega)))
  have Ol5_13 := hidd ho
  clear ho hg B12 Ol1_12 Ol2_12 Or3_12 Ol4_12 Ol5_12 Or6_12 Ol7_12 Ol8_12
  go_wp2_with fail
  refine (eqInt64S_any _ _ _ _ Or6_13.out.rdI Or3_13.out.rdI).mono ?_
  rintro e w14 ⟨rfl, hb⟩
  have Z14 := hidd hb.size
  have B14 := hidd (bel_then B13.out hb)
  have Ol1_14 := hidd (Ol1_13.out.below hb)
  have Ol2_14 := hidd (Ol2_13.out.below hb)
  have Or3_14 := hidd (Or3_13.out.below hb)
  have Ol4_14 := hidd (Ol4_13.out.below hb)
  have Ol5_14 := hidd (Ol5_13.out.below hb)
  have Or6_14 := hidd (Or6_13.out.below hb)
  have Ol7_14 := hidd (Ol7_13.out.below hb)
  have Ol8_14 := hidd (Ol8_13.out.below hb)
  clear hb B13 Ol1_13 Ol2_13 Or3_13 Ol4_13 Ol5_13 Or6_13 Ol7_13 Ol8_13
  go_wp2_with fail
  refine (markInt64S_any _ _ _ _ _ Or6_14.out (by omega) (by have := HL.out; omega)).mono ?_
  rintro e w15 ⟨rfl, ho, hg⟩
  have Z15 := hidd hg.size
  have B15 := hidd (bel_mark B14.out Or6_14.out hg (by have z0 := Z0.out; have z1 := Z1.out; have z2 := Z2.out; have z3 := Z3.out; have z4 := Z4.out; have z5 := Z5.out; have z6 := Z6.out; have z7 := Z7.out; have z8 := Z8.out; have z9 := Z9.out; have z10 := Z10.out; have z11 := Z11.out; have z12 := Z12.out; have z13 := Z13.out; have z14 := Z14.out; omega))
  have Ol1_15 := hidd (Ol1_14.out.grown hg (own_ne Cl1.out Cr6.out (by have z0 := Z0.out; have z1 := Z1.out; have z2 := Z2.out; have z3 := Z3.out; have z4 := Z4.out; have z5 := Z5.out; have z6 := Z6.out; have z7 := Z7.out; have z8 := Z8.out; have z9 := Z9.out; have z10 := Z10.out; have z11 := Z11.out; have z12 := Z12.out; have z13 := Z13.out; have z14 := Z14.out; omega)))
  have Ol2_15 := hidd (Ol2_14.out.grown hg (own_ne Cl2.out Cr6.out (by have z0 := Z0.out; have z1 := Z1.out; have z2 := Z2.out; have z3 := Z3.out; have z4 := Z4.out; have z5 := Z5.out; have z6 := Z6.out; have z7 := Z7.out; have z8 := Z8.out; have z9 := Z9.out; have z10 := Z10.out; have z11 := Z11.out; have z12 := Z12.out; have z13 := Z13.out; have z14 := Z14.out; omega)))
  have Or3_15 := hidd (Or3_14.out.grown hg (own_ne Cr3.out Cr6.out (by have z0 := Z0.out; have z1 := Z1.out; have z2 := Z2.out; have z3 := Z3.out; have z4 := Z4.out; have z5 := Z5.out; have z6 := Z6.out; have z7 := Z7.out; have z8 := Z8.out; have z9 := Z9.out; have z10 := Z10.out; have z11 := Z11.out; have z12 := Z12.out; have z13 := Z13.out; have z14 := Z14.out; omega)))
  have Ol4_15 := hidd (Ol4_14.out.grown hg (own_ne Cl4.out Cr6.out (by have z0 := Z0.out; have z1 := Z1.out; have z2 := Z2.out; have z3 := Z3.out; have z4 := Z4.out; have z5 := Z5.out; have z6 := Z6.out; have z7 := Z7.out; have z8 := Z8.out; have z9 := Z9.out; have z10 := Z10.out; have z11 := Z11.out; have z12 := Z12.out; have z13 := Z13.out; have z14 := Z14.out; omega)))
  have Ol5_15 := hidd (Ol5_14.out.grown hg (own_ne Cl5.out Cr6.out (by have z0 := Z0.out; have z1 := Z1.out; have z2 := Z2.out; have z3 := Z3.out; have z4 := Z4.out; have z5 := Z5.out; have z6 := Z6.out; have z7 := Z7.out; have z8 := Z8.out; have z9 := Z9.out; have z10 := Z10.out; have z11 := Z11.out; have z12 := Z12.out; have z13 := Z13.out; have z14 := Z14.out; omega)))
  have Ol7_15 := hidd (Ol7_14.out.grown hg (own_ne' Cr6.out Cl7.out (by have z0 := Z0.out; have z1 := Z1.out; have z2 := Z2.out; have z3 := Z3.out; have z4 := Z4.out; have z5 := Z5.out; have z6 := Z6.out; have z7 := Z7.out; have z8 := Z8.out; have z9 := Z9.out; have z10 := Z10.out; have z11 := Z11.out; have z12 := Z12.out; have z13 := Z13.out; have z14 := Z14.out; omega)))
  have Ol8_15 := hidd (Ol8_14.out.grown hg (own_ne' Cr6.out Cl8.out (by have z0 := Z0.out; have z1 := Z1.out; have z2 := Z2.out; have z3 := Z3.out; have z4 := Z4.out; have z5 := Z5.out; have z6 := Z6.out; have z7 := Z7.out; have z8 := Z8.out; have z9 := Z9.out; have z10 := Z10.out; have z11 := Z11.out; have z12 := Z12.out; have z13 := Z13.out; have z14 := Z14.out; omega)))
  have Or6_15 := hidd ho
  clear ho hg B14 Ol1_14 Ol2_14 Or3_14 Ol4_14 Ol5_14 Or6_14 Ol7_14 Ol8_14
  go_wp2_with fail
  refine (heldInt64S_any _ _ r.1.length _ Or6_15.out.rdI (by omega) (by have := HL.out; omega)).mono ?_
  rintro e w16 ⟨rfl, rfl⟩
  go_wp2_with fail
  refine (toInt64S_any _ xs2 _ (Hr2.out.below B15.out) hn2).mono ?_
  rintro e w16 ⟨⟨l9, rfl, ho⟩, hb⟩
  have Cl9 := hidd ho
  have Ol9_16 := hidd ho
  clear ho
  have Z16 := hidd hb.size
  have B16 := hidd (bel_then B15.out hb)
  have Ol1_16 := hidd (Ol1_15.out.below hb)
  have Ol2_16 := hidd (Ol2_15.out.below hb)
  have Or3_16 := hidd (Or3_15.out.below hb)
  have Ol4_16 := hidd (Ol4_15.out.below hb)
  have Ol5_16 := hidd (Ol5_15.out.below hb)
  have Or6_16 := hidd (Or6_15.out.below hb)
  have Ol7_16 := hidd (Ol7_15.out.below hb)
  have Ol8_16 := hidd (Ol8_15.out.below hb)
  clear hb B15 Ol1_15 Ol2_15 Or3_15 Ol4_15 Ol5_15 Or6_15 Ol7_15 Ol8_15
  go_wp2_with fail
  refine (toInt64S_any _ xs3 _ (Hr3.out.below B16.out) hn3).mono ?_
  rintro e w17 ⟨⟨l10, rfl, ho⟩, hb⟩
  have Cl10 := hidd ho
  have Ol10_17 := hidd ho
  clear ho
  have Z17 := hidd hb.size
  have B17 := hidd (bel_then B16.out hb)
  have Ol1_17 := hidd (Ol1_16.out.below hb)
  have Ol2_17 := hidd (Ol2_16.out.below hb)
  have Or3_17 := hidd (Or3_16.out.below hb)
  have Ol4_17 := hidd (Ol4_16.out.below hb)
  have Ol5_17 := hidd (Ol5_16.out.below hb)
  have Or6_17 := hidd (Or6_16.out.below hb)
  have Ol7_17 := hidd (Ol7_16.out.below hb)
  have Ol8_17 := hidd (Ol8_16.out.below hb)
  have Ol9_17 := hidd (Ol9_16.out.below hb)
  clear hb B16 Ol1_16 Ol2_16 Or3_16 Ol4_16 Ol5_16 Or6_16 Ol7_16 Ol8_16 Ol9_16
  go_wp2_with fail
  refine (implMultiplyPortraits_any a0 a1 _ _ xs2 xs3 _ Ol9_17.out.rdI Ol10_17.out.rdI).mono ?_
  rintro e w18 ⟨⟨r11, rfl, ho⟩, hb⟩
  rw [HR.out] at ho ⊢
  have Cr11 := hidd ho
  have Or11_18 := hidd ho
  clear ho
  have Z18 := hidd hb.size
  have B18 := hidd (bel_then B17.out hb)
  have Ol1_18 := hidd (Ol1_17.out.below hb)
  have Ol2_18 := hidd (Ol2_17.out.below hb)
  have Or3_18 := hidd (Or3_17.out.below hb)
  have Ol4_18 := hidd (Ol4_17.out.below hb)
  have Ol5_18 := hidd (Ol5_17.out.below hb)
  have Or6_18 := hidd (Or6_17.out.below hb)
  have Ol7_18 := hidd (Ol7_17.out.below hb)
  have Ol8_18 := hidd (Ol8_17.out.below hb)
  have Ol9_18 := hidd (Ol9_17.out.below hb)
  have Ol10_18 := hidd (Ol10_17.out.below hb)
  clear hb B17 Ol1_17 Ol2_17 Or3_17 Ol4_17 Ol5_17 Or6_17 Ol7_17 Ol8_17 Ol9_17 Ol10_17
  go_wp2_with fail
  refine (eqInt64S_any _ _ _ _ Or11_18.out.rdI Or3_18.out.rdI).mono ?_
  rintro e w19 ⟨rfl, hb⟩
  have Z19 := hidd hb.size
  have B19 := hidd (bel_then B18.out hb)
  have Ol1_19 := hidd (Ol1_18.out.below hb)
  have Ol2_19 := hidd (Ol2_18.out.below hb)
  have Or3_19 := hidd (Or3_18.out.below hb)
  have Ol4_19 := hidd (Ol4_18.out.below hb)
  have Ol5_19 := hidd (Ol5_18.out.below hb)
  have Or6_19 := hidd (Or6_18.out.below hb)
  have Ol7_19 := hidd (Ol7_18.out.below hb)
  have Ol8_19 := hidd (Ol8_18.out.below hb)
  have Ol9_19 := hidd (Ol9_18.out.below hb)
  have Ol10_19 := hidd (Ol10_18.out.below hb)
  have Or11_19 := hidd (Or11_18.out.below hb)
  clear hb B18 Ol1_18 Ol2_18 Or3_18 Ol4_18 Ol5_18 Or6_18 Ol7_18 Ol8_18 Ol9_18 Ol10_18 Or11_18
  go_wp2_with fail
  refine (heldInt64S_any _ _ r.1.length _ Or6_19.out.rdI (by omega) (by have := HL.out; omega)).mono ?_
  rintro e w20 ⟨rfl, rfl⟩
  go_wp2_with fail
  go_ret
  exact ⟨rfl, B19.out⟩
end Go.Proofs.Ytecdjmfohcnadaa

/- The walk of the law FnExactPortraitOfPermutation: it returns true and leaves memory as it was. A program wrote it out of the law's shape. -/
import Derived.Test.YtecdjmfohcnadaaPro
import Derived.Test.YtecdjmfohcnadaaLaw
namespace Go.Proofs.Ytecdjmfohcnadaa
open Go.RowKit
set_option maxRecDepth 100000 in
set_option maxHeartbeats 1000000 in
theorem fnExactPortraitOfPermutation_walk (w : World) (a0 : Int) (_wa0 : (Lit.int .i64 a0).wf = true) (a1 : Int) (_wa1 : (Lit.int .i64 a1).wf = true) (v2 : Value) (xs2 : List Int) (hr2 : RdI w v2 xs2) :
    Calls Try.prog 8 #[.int .i64 a0, .int .i64 a1, v2] w fun e w' => e = .returned (.bool true) ∧ Below w.heap.size w w' := by
  have hl2 := hr2.le
  have Hr2 := hidd hr2
  clear hr2
  by_cases hn2 : xs2.length ≤ 1048576
  rotate_left
  obtain ⟨A2, c2, rfl, hq2⟩ := Hr2.out
  clear hq2
  have hn2' : 1048576 < xs2.length := by omega
  · clear hn2
    go_enter Try.func8, Try.ntmps8
    go_wp2
    go_ret
    exact ⟨rfl, Below.refl _ _⟩
  obtain ⟨A2, c2, ev2, hq2⟩ := Hr2.out
  clear hq2
  subst ev2
  obtain ⟨r, hrr⟩ : ∃ r, ppR a0 a1 xs2 = r := ⟨_, rfl⟩
  have HR := hidd hrr
  clear hrr
  have HL := hidd (show r.1.length ≤ 1048576 by rw [← HR.out]; exact ppR_len a0 a1 xs2)
  go_enter Try.func8, Try.ntmps8
  go_wp2_with fail
  obtain ⟨w0, hw0⟩ : ∃ w0, w0 = w := ⟨_, rfl⟩
  rw [← hw0]
  have B0 := hidd (show Below w.heap.size w w0 by rw [hw0]; exact Below.refl _ _)
  have Z0 := hidd (show w.heap.size ≤ w0.heap.size by rw [hw0]; omega)
  clear hw0
  refine (toInt64S_any _ xs2 _ (Hr2.out.below B0.out) hn2).mono ?_
  rintro e w1 ⟨⟨l1, rfl, ho⟩, hb⟩
  have Cl1 := hidd ho
  have Ol1_1 := hidd ho
  clear ho
  have Z1 := hidd hb.size
  have B1 := hidd (bel_then B0.out hb)
  clear hb B0
  go_wp2_with fail
  refine (specPortraitOfPermutation_any a0 a1 _ xs2 _ Ol1_1.out.rdI).mono ?_
  rintro e w2 ⟨⟨r2, rfl, ho⟩, hb⟩
  rw [HR.out] at ho ⊢
  have Cr2 := hidd ho
  have Or2_2 := hidd ho
  clear ho
  have Z2 := hidd hb.size
  have B2 := hidd (bel_then B1.out hb)
  have Ol1_2 := hidd (Ol1_1.out.below hb)
  clear hb B1 Ol1_1
  go_wp2_with fail
  refine (toInt64S_any _ xs2 _ (Hr2.out.below B2.out) hn2).mono ?_
  rintro e w3 ⟨⟨l3, rfl, ho⟩, hb⟩
  have Cl3 := hidd ho
  have Ol3_3 := hidd ho
  clear ho
  have Z3 := hidd hb.size
  have B3 := hidd (bel_then B2.out hb)
  have Ol1_3 := hidd (Ol1_2.out.below hb)
  have Or2_3 := hidd (Or2_2.out.below hb)
  clear hb B2 Ol1_2 Or2_2
  go_wp2_with fail
  refine (implPortraitOfPermutation_any a0 a1 _ xs2 _ Ol3_3.out.rdI).mono ?_
  rintro e w4 ⟨⟨r4, rfl, ho⟩, hb⟩
  rw [HR.out] at ho ⊢
  have Cr4 := hidd ho
  have Or4_4 := hidd ho
  clear ho
  have Z4 := hidd hb.size
  have B4 := hidd (bel_then B3.out hb)
  have Ol1_4 := hidd (Ol1_3.out.below hb)
  have Or2_4 := hidd (Or2_3.out.below hb)
  have Ol3_4 := hidd (Ol3_3.out.below hb)
  clear hb B3 Ol1_3 Or2_3 Ol3_3
  go_wp2_with fail
  refine (eqInt64S_any _ _ _ _ Or4_4.out.rdI Or2_4.out.rdI).mono ?_
  rintro e w5 ⟨rfl, hb⟩
  have Z5 := hidd hb.size
  have B5 := hidd (bel_then B4.out hb)
  have Ol1_5 := hidd (Ol1_4.out.below hb)
  have Or2_5 := hidd (Or2_4.out.below hb)
  have Ol3_5 := hidd (Ol3_4.out.below hb)
  have Or4_5 := hidd (Or4_4.out.below hb)
  clear hb B4 Ol1_4 Or2_4 Ol3_4 Or4_4
  go_wp2_with fail
  refine (toInt64S_any _ xs2 _ (Hr2.out.below B5.out) hn2).mono ?_
  rintro e w6 ⟨⟨l5, rfl, ho⟩, hb⟩
  have Cl5 := hidd ho
  have Ol5_6 := hidd ho
  clear ho
  have Z6 := hidd hb.size
  have B6 := hidd (bel_then B5.out hb)
  have Ol1_6 := hidd (Ol1_5.out.below hb)
  have Or2_6 := hidd (Or2_5.out.below hb)
  have Ol3_6 := hidd (Ol3_5.out.below hb)
  have Or4_6 := hidd (Or4_5.out.below hb)
  clear hb B5 Ol1_5 Or2_5 Ol3_5 Or4_5
  go_wp2_with fail
  refine (eqInt64S_any _ _ _ _ Ol3_6.out.rdI Ol5_6.out.rdI).mono ?_
  rintro e w7 ⟨rfl, hb⟩
  have Z7 := hidd hb.size
  have B7 := hidd (bel_then B6.out hb)
  have Ol1_7 := hidd (Ol1_6.out.below hb)
  have Or2_7 := hidd (Or2_6.out.below hb)
  have Ol3_7 := hidd (Ol3_6.out.below hb)
  have Or4_7 := hidd (Or4_6.out.below hb)
  have Ol5_7 := hidd (Ol5_6.out.below hb)
  clear hb B6 Ol1_6 Or2_6 Ol3_6 Or4_6 Ol5_6
  go_wp2_with fail
  refine (markInt64S_any _ _ _ _ _ Ol3_7.out (by omega) (by omega)).mono ?_
  rintro e w8 ⟨rfl, ho, hg⟩
  have Z8 := hidd hg.size
  have B8 := hidd (bel_mark B7.out Ol3_7.out hg (by have z0 := Z0.out; have z1 := Z1.out; have z2 := Z2.out; have z3 := Z3.out; have z4 := Z4.out; have z5 := Z5.out; have z6 := Z6.out; have z7 := Z7.out; omega))
  have Ol1_8 := hidd (Ol1_7.out.grown hg (own_ne Cl1.out Cl3.out (by have z0 := Z0.out; have z1 := Z1.out; have z2 := Z2.out; have z3 := Z3.out; have z4 := Z4.out; have z5 := Z5.out; have z6 := Z6.out; have z7 := Z7.out; omega)))
  have Or2_8 := hidd (Or2_7.out.grown hg (own_ne Cr2.out Cl3.out (by have z0 := Z0.out; have z1 := Z1.out; have z2 := Z2.out; have z3 := Z3.out; have z4 := Z4.out; have z5 := Z5.out; have z6 := Z6.out; have z7 := Z7.out; omega)))
  have Or4_8 := hidd (Or4_7.out.grown hg (own_ne' Cl3.out Cr4.out (by have z0 := Z0.out; have z1 := Z1.out; have z2 := Z2.out; have z3 := Z3.out; have z4 := Z4.out; have z5 := Z5.out; have z6 := Z6.out; have z7 := Z7.out; omega)))
  have Ol5_8 := hidd (Ol5_7.out.grown hg (own_ne' Cl3.out Cl5.out (by have z0 := Z0.out; have z1 := Z1.out; have z2 := Z2.out; have z3 := Z3.out; have z4 := Z4.out; have z5 := Z5.out; have z6 := Z6.out; have z7 := Z7.out; omega)))
  have Ol3_8 := hidd ho
  clear ho hg B7 Ol1_7 Or2_7 Ol3_7 Or4_7 Ol5_7
  go_wp2_with fail
  refine (eqInt64S_any _ _ _ _ Or4_8.out.rdI Or2_8.out.rdI).mono ?_
  rintro e w9 ⟨rfl, hb⟩
  have Z9 := hidd hb.size
  have B9 := hidd (bel_then B8.out hb)
  have Ol1_9 := hidd (Ol1_8.out.below hb)
  have Or2_9 := hidd (Or2_8.out.below hb)
  have Ol3_9 := hidd (Ol3_8.out.below hb)
  have Or4_9 := hidd (Or4_8.out.below hb)
  have Ol5_9 := hidd (Ol5_8.out.below hb)
  clear hb B8 Ol1_8 Or2_8 Ol3_8 Or4_8 Ol5_8
  go_wp2_with fail
  refine (markInt64S_any _ _ _ _ _ Or4_9.out (by omega) (by have := HL.out; omega)).mono ?_
  rintro e w10 ⟨rfl, ho, hg⟩
  have Z10 := hidd hg.size
  have B10 := hidd (bel_mark B9.out Or4_9.out hg (by have z0 := Z0.out; have z1 := Z1.out; have z2 := Z2.out; have z3 := Z3.out; have z4 := Z4.out; have z5 := Z5.out; have z6 := Z6.out; have z7 := Z7.out; have z8 := Z8.out; have z9 := Z9.out; omega))
  have Ol1_10 := hidd (Ol1_9.out.grown hg (own_ne Cl1.out Cr4.out (by have z0 := Z0.out; have z1 := Z1.out; have z2 := Z2.out; have z3 := Z3.out; have z4 := Z4.out; have z5 := Z5.out; have z6 := Z6.out; have z7 := Z7.out; have z8 := Z8.out; have z9 := Z9.out; omega)))
  have Or2_10 := hidd (Or2_9.out.grown hg (own_ne Cr2.out Cr4.out (by have z0 := Z0.out; have z1 := Z1.out; have z2 := Z2.out; have z3 := Z3.out; have z4 := Z4.out; have z5 := Z5.out; have z6 := Z6.out; have z7 := Z7.out; have z8 := Z8.out; have z9 := Z9.out; omega)))
  have Ol3_10 := hidd (Ol3_9.out.grown hg (own_ne Cl3.out Cr4.out (by have z0 := Z0.out; have z1 := Z1.out; have z2 := Z2.out; have z3 := Z3.out; have z4 := Z4.out; have z5 := Z5.out; have z6 := Z6.out; have z7 := Z7.out; have z8 := Z8.out; have z9 := Z9.out; omega)))
  have Ol5_10 := hidd (Ol5_9.out.grown hg (own_ne' Cr4.out Cl5.out (by have z0 := Z0.out; have z1 := Z1.out; have z2 := Z2.out; have z3 := Z3.out; have z4 := Z4.out; have z5 := Z5.out; have z6 := Z6.out; have z7 := Z7.out; have z8 := Z8.out; have z9 := Z9.out; omega)))
  have Or4_10 := hidd ho
  clear ho hg B9 Ol1_9 Or2_9 Ol3_9 Or4_9 Ol5_9
  go_wp2_with fail
  refine (heldInt64S_any _ _ r.1.length _ Or4_10.out.rdI (by omega) (by have := HL.out; omega)).mono ?_
  rintro e w11 ⟨rfl, rfl⟩
  go_wp2_with fail
  refine (toInt64S_any _ xs2 _ (Hr2.out.below B10.out) hn2).mono ?_
  rintro e w11 ⟨⟨l6, rfl, ho⟩, hb⟩
  have Cl6 := hidd ho
  have Ol6_11 := hidd ho
  clear ho
  have Z11 := hidd hb.size
  have B11 := hidd (bel_then B10.out hb)
  have Ol1_11 := hidd (Ol1_10.out.below hb)
  have Or2_11 := hidd (Or2_10.out.below hb)
  have Ol3_11 := hidd (Ol3_10.out.below hb)
  have Or4_11 := hidd (Or4_10.out.below hb)
  have Ol5_11 := hidd (Ol5_10.out.below hb)
  clear hb B10 Ol1_10 Or2_10 Ol3_10 Or4_10 Ol5_10
  go_wp2_with fail
  refine (implPortraitOfPermutation_any a0 a1 _ xs2 _ Ol6_11.out.rdI).mono ?_
  rintro e w12 ⟨⟨r7, rfl, ho⟩, hb⟩
  rw [HR.out] at ho ⊢
  have Cr7 := hidd ho
  have Or7_12 := hidd ho
  clear ho
  have Z12 := hidd hb.size
  have B12 := hidd (bel_then B11.out hb)
  have Ol1_12 := hidd (Ol1_11.out.below hb)
  have Or2_12 := hidd (Or2_11.out.below hb)
  have Ol3_12 := hidd (Ol3_11.out.below hb)
  have Or4_12 := hidd (Or4_11.out.below hb)
  have Ol5_12 := hidd (Ol5_11.out.below hb)
  have Ol6_12 := hidd (Ol6_11.out.below hb)
  clear hb B11 Ol1_11 Or2_11 Ol3_11 Or4_11 Ol5_11 Ol6_11
  go_wp2_with fail
  refine (eqInt64S_any _ _ _ _ Or7_12.out.rdI Or2_12.out.rdI).mono ?_
  rintro e w13 ⟨rfl, hb⟩
  have Z13 := hidd hb.size
  have B13 := hidd (bel_then B12.out hb)
  have Ol1_13 := hidd (Ol1_12.out.below hb)
  have Or2_13 := hidd (Or2_12.out.below hb)
  have Ol3_13 := hidd (Ol3_12.out.below hb)
  have Or4_13 := hidd (Or4_12.out.below hb)
  have Ol5_13 := hidd (Ol5_12.out.below hb)
  have Ol6_13 := hidd (Ol6_12.out.below hb)
  have Or7_13 := hidd (Or7_12.out.below hb)
  clear hb B12 Ol1_12 Or2_12 Ol3_12 Or4_12 Ol5_12 Ol6_12 Or7_12
  go_wp2_with fail
  refine (heldInt64S_any _ _ r.1.length _ Or4_13.out.rdI (by omega) (by have := HL.out; omega)).mono ?_
  rintro e w14 ⟨rfl, rfl⟩
  go_wp2_with fail
  go_ret
  exact ⟨rfl, B13.out⟩
end Go.Proofs.Ytecdjmfohcnadaa

/- The walk of the law FnExactCommutatorOf: it returns true and leaves memory as it was. A program wrote it out of the law's shape. -/
import Derived.Test.YtjnnbjlombopnaaCom
import Derived.Test.YtjnnbjlombopnaaToM
import Derived.Test.YtjnnbjlombopnaaLaw
namespace Go.Proofs.Ytjnnbjlombopnaa
open Go.RowKit
set_option maxRecDepth 100000 in
set_option maxHeartbeats 1000000 in
theorem fnExactCommutatorOf_walk (w : World) (cs : Array Value) (m : Mc) (hm : m.Is cs) (v1 : Value) (xs1 : List Int) (hr1 : RdI w v1 xs1) (v2 : Value) (xs2 : List Int) (hr2 : RdI w v2 xs2) :
    Calls Try.prog 16 #[.agg cs, v1, v2] w fun e w' => e = .returned (.bool true) ∧ Below w.heap.size w w' := by
  have hl1 := hr1.le
  have Hr1 := hidd hr1
  clear hr1
  have hl2 := hr2.le
  have Hr2 := hidd hr2
  clear hr2
  have Hm := hidd hm
  clear hm
  by_cases hn1 : xs1.length ≤ 1048576
  rotate_left
  obtain ⟨A1, c1, rfl, hq1⟩ := Hr1.out
  clear hq1
  have hn1' : 1048576 < xs1.length := by omega
  · clear hn1
    go_enter Try.func16, Try.ntmps16
    go_wp2
    go_ret
    exact ⟨rfl, (Below.refl _ _).alloc (Nat.le_refl _) _⟩
  by_cases hn2 : xs2.length ≤ 1048576
  rotate_left
  obtain ⟨A1, c1, rfl, hq1⟩ := Hr1.out
  clear hq1
  obtain ⟨A2, c2, rfl, hq2⟩ := Hr2.out
  clear hq2
  have hn2' : 1048576 < xs2.length := by omega
  · clear hn2
    go_enter Try.func16, Try.ntmps16
    go_wp2
    go_ret
    exact ⟨rfl, (Below.refl _ _).alloc (Nat.le_refl _) _⟩
  obtain ⟨A1, c1, ev1, hq1⟩ := Hr1.out
  clear hq1
  subst ev1
  obtain ⟨A2, c2, ev2, hq2⟩ := Hr2.out
  clear hq2
  subst ev2
  obtain ⟨r, hrr⟩ : ∃ r, comR m xs1 xs2 = r := ⟨_, rfl⟩
  have HR := hidd hrr
  clear hrr
  have HL := hidd (show r.1.length ≤ 1048576 by rw [← HR.out]; exact comR_len m xs1 xs2)
  go_enter Try.func16, Try.ntmps16
  go_wp2_with (refine ldL rfl (.tmp 3) rfl w.heap.size rfl Hm.out (hp_new rfl) ?_)
  obtain ⟨w0, hw0⟩ : ∃ w0, w0 = w.alloc (.cells cs 25) := ⟨_, rfl⟩
  rw [← hw0]
  have B0 := hidd (show Below w.heap.size w w0 by rw [hw0]; exact (Below.refl _ _).alloc (Nat.le_refl _) _)
  have K0 := hidd (show w0.heap[w.heap.size]? = some (.cells cs 25 (0, 0)) by rw [hw0]; exact hp_new rfl)
  have Z0 := hidd (show w.heap.size < w0.heap.size by rw [hw0]; simp)
  clear hw0
  refine (toMachine_any cs m Hm.out _).mono ?_
  rintro e w1 ⟨rfl, hb⟩
  have Z1 := hidd hb.size
  have B1 := hidd (bel_then B0.out hb)
  have K1 := hidd (hp_bel K0.out hb)
  clear hb B0 K0
  go_wp2_with (refine ldL rfl (.tmp 3) rfl w.heap.size rfl Hm.out K1.out ?_)
  refine (toInt64S_any _ xs1 _ (Hr1.out.below B1.out) hn1).mono ?_
  rintro e w2 ⟨⟨l1, rfl, ho⟩, hb⟩
  have Cl1 := hidd ho
  have Ol1_2 := hidd ho
  clear ho
  have Z2 := hidd hb.size
  have B2 := hidd (bel_then B1.out hb)
  have K2 := hidd (hp_bel K1.out hb)
  clear hb B1 K1
  go_wp2_with (refine ldL rfl (.tmp 3) rfl w.heap.size rfl Hm.out K2.out ?_)
  refine (toInt64S_any _ xs2 _ (Hr2.out.below B2.out) hn2).mono ?_
  rintro e w3 ⟨⟨l2, rfl, ho⟩, hb⟩
  have Cl2 := hidd ho
  have Ol2_3 := hidd ho
  clear ho
  have Z3 := hidd hb.size
  have B3 := hidd (bel_then B2.out hb)
  have K3 := hidd (hp_bel K2.out hb)
  have Ol1_3 := hidd (Ol1_2.out.below hb)
  clear hb B2 K2 Ol1_2
  go_wp2_with (refine ldL rfl (.tmp 3) rfl w.heap.size rfl Hm.out K3.out ?_)
  refine (specCommutatorOf_any m cs Hm.out _ _ xs1 xs2 _ Ol1_3.out.rdI Ol2_3.out.rdI Ol1_3.out.nilOk Ol2_3.out.nilOk hn1 hn2).mono ?_
  rintro e w4 ⟨⟨r3, rfl, ho⟩, hb⟩
  rw [HR.out] at ho ⊢
  have Cr3 := hidd ho
  have Or3_4 := hidd ho
  clear ho
  have Z4 := hidd hb.size
  have B4 := hidd (bel_then B3.out hb)
  have K4 := hidd (hp_bel K3.out hb)
  have Ol1_4 := hidd (Ol1_3.out.below hb)
  have Ol2_4 := hidd (Ol2_3.out.below hb)
  clear hb B3 K3 Ol1_3 Ol2_3
  go_wp2_with (refine ldL rfl (.tmp 3) rfl w.heap.size rfl Hm.out K4.out ?_)
  refine (toInt64S_any _ xs1 _ (Hr1.out.below B4.out) hn1).mono ?_
  rintro e w5 ⟨⟨l4, rfl, ho⟩, hb⟩
  have Cl4 := hidd ho
  have Ol4_5 := hidd ho
  clear ho
  have Z5 := hidd hb.size
  have B5 := hidd (bel_then B4.out hb)
  have K5 := hidd (hp_bel K4.out hb)
  have Ol1_5 := hidd (Ol1_4.out.below hb)
  have Ol2_5 := hidd (Ol2_4.out.below hb)
  have Or3_5 := hidd (Or3_4.out.below hb)
  clear hb B4 K4 Ol1_4 Ol2_4 Or3_4
  go_wp2_with (refine ldL rfl (.tmp 3) rfl w.heap.size rfl Hm.out K5.out ?_)
  refine (toInt64S_any _ xs2 _ (Hr2.out.below B5.out) hn2).mono ?_
  rintro e w6 ⟨⟨l5, rfl, ho⟩, hb⟩
  have Cl5 := hidd ho
  have Ol5_6 := hidd ho
  clear ho
  have Z6 := hidd hb.size
  have B6 := hidd (bel_then B5.out hb)
  have K6 := hidd (hp_bel K5.out hb)
  have Ol1_6 := hidd (Ol1_5.out.below hb)
  have Ol2_6 := hidd (Ol2_5.out.below hb)
  have Or3_6 := hidd (Or3_5.out.below hb)
  have Ol4_6 := hidd (Ol4_5.out.below hb)
  clear hb B5 K5 Ol1_5 Ol2_5 Or3_5 Ol4_5
  go_wp2_with (refine ldL rfl (.tmp 3) rfl w.heap.size rfl Hm.out K6.out ?_)
  refine (toMachine_any cs m Hm.out _).mono ?_
  rintro e w7 ⟨rfl, hb⟩
  have Z7 := hidd hb.size
  have B7 := hidd (bel_then B6.out hb)
  have K7 := hidd (hp_bel K6.out hb)
  have Ol1_7 := hidd (Ol1_6.out.below hb)
  have Ol2_7 := hidd (Ol2_6.out.below hb)
  have Or3_7 := hidd (Or3_6.out.below hb)
  have Ol4_7 := hidd (Ol4_6.out.below hb)
  have Ol5_7 := hidd (Ol5_6.out.below hb)
  clear hb B6 K6 Ol1_6 Ol2_6 Or3_6 Ol4_6 Ol5_6
  go_wp2_with (refine ldL rfl (.tmp 3) rfl w.heap.size rfl Hm.out K7.out ?_)
  refine (implCommutatorOf_any m cs Hm.out _ _ xs1 xs2 _ Ol4_7.out.rdI Ol5_7.out.rdI Ol4_7.out.nilOk Ol5_7.out.nilOk hn1 hn2).mono ?_
  rintro e w8 ⟨⟨r6, rfl, ho⟩, hb⟩
  rw [HR.out] at ho ⊢
  have Cr6 := hidd ho
  have Or6_8 := hidd ho
  clear ho
  have Z8 := hidd hb.size
  have B8 := hidd (bel_then B7.out hb)
  have K8 := hidd (hp_bel K7.out hb)
  have Ol1_8 := hidd (Ol1_7.out.below hb)
  have Ol2_8 := hidd (Ol2_7.out.below hb)
  have Or3_8 := hidd (Or3_7.out.below hb)
  have Ol4_8 := hidd (Ol4_7.out.below hb)
  have Ol5_8 := hidd (Ol5_7.out.below hb)
  clear hb B7 K7 Ol1_7 Ol2_7 Or3_7 Ol4_7 Ol5_7
  go_wp2_with (refine ldL rfl (.tmp 3) rfl w.heap.size rfl Hm.out K8.out ?_)
  refine (eqInt64S_any _ _ _ _ Or6_8.out.rdI Or3_8.out.rdI).mono ?_
  rintro e w9 ⟨rfl, hb⟩
  have Z9 := hidd hb.size
  have B9 := hidd (bel_then B8.out hb)
  have K9 := hidd (hp_bel K8.out hb)
  have Ol1_9 := hidd (Ol1_8.out.below hb)
  have Ol2_9 := hidd (Ol2_8.out.below hb)
  have Or3_9 := hidd (Or3_8.out.below hb)
  have Ol4_9 := hidd (Ol4_8.out.below hb)
  have Ol5_9 := hidd (Ol5_8.out.below hb)
  have Or6_9 := hidd (Or6_8.out.below hb)
  clear hb B8 K8 Ol1_8 Ol2_8 Or3_8 Ol4_8 Ol5_8 Or6_8
  go_wp2_with (refine ldL rfl (.tmp 3) rfl w.heap.size rfl Hm.out K9.out ?_)
  refine (toInt64S_any _ xs1 _ (Hr1.out.below B9.out) hn1).mono ?_
  rintro e w10 ⟨⟨l7, rfl, ho⟩, hb⟩
  have Cl7 := hidd ho
  have Ol7_10 := hidd ho
  clear ho
  have Z10 := hidd hb.size
  have B10 := hidd (bel_then B9.out hb)
  have K10 := hidd (hp_bel K9.out hb)
  have Ol1_10 := hidd (Ol1_9.out.below hb)
  have Ol2_10 := hidd (Ol2_9.out.below hb)
  have Or3_10 := hidd (Or3_9.out.below hb)
  have Ol4_10 := hidd (Ol4_9.out.below hb)
  have Ol5_10 := hidd (Ol5_9.out.below hb)
  have Or6_10 := hidd (Or6_9.out.below hb)
  clear hb B9 K9 Ol1_9 Ol2_9 Or3_9 Ol4_9 Ol5_9 Or6_9
  go_wp2_with (refine ldL rfl (.tmp 3) rfl w.heap.size rfl Hm.out K10.out ?_)
  refine (eqInt64S_any _ _ _ _ Ol4_10.out.rdI Ol7_10.out.rdI).mono ?_
  rintro e w11 ⟨rfl, hb⟩
  have Z11 := hidd hb.size
  have B11 := hidd (bel_then B10.out hb)
  have K11 := hidd (hp_bel K10.out hb)
  have Ol1_11 := hidd (Ol1_10.out.below hb)
  have Ol2_11 := hidd (Ol2_10.out.below hb)
  have Or3_11 := hidd (Or3_10.out.below hb)
  have Ol4_11 := hidd (Ol4_10.out.below hb)
  have Ol5_11 := hidd (Ol5_10.out.below hb)
  have Or6_11 := hidd (Or6_10.out.below hb)
  have Ol7_11 := hidd (Ol7_10.out.below hb)
  clear hb B10 K10 Ol1_10 Ol2_10 Or3_10 Ol4_10 Ol5_10 Or6_10 Ol7_10
  go_wp2_with (refine ldL rfl (.tmp 3) rfl w.heap.size rfl Hm.out K11.out ?_)
  refine (toInt64S_any _ xs2 _ (Hr2.out.below B11.out) hn2).mono ?_
  rintro e w12 ⟨⟨l8, rfl, ho⟩, hb⟩
  have Cl8 := hidd ho
  have Ol8_12 := hidd ho
  clear ho
  have Z12 := hidd hb.size
  have B12 := hidd (bel_then B11.out hb)
  have K12 := hidd (hp_bel K11.out hb)
  have Ol1_12 := hidd (Ol1_11.out.below hb)
  have Ol2_12 := hidd (Ol2_11.out.below hb)
  have Or3_12 := hidd (Or3_11.out.below hb)
  have Ol4_12 := hidd (Ol4_11.out.below hb)
  have Ol5_12 := hidd (Ol5_11.out.below hb)
  have Or6_12 := hidd (Or6_11.out.below hb)
  have Ol7_12 := hidd (Ol7_11.out.below hb)
  clear hb B11 K11 Ol1_11 Ol2_11 Or3_11 Ol4_11 Ol5_11 Or6_11 Ol7_11
  go_wp2_with (refine ldL rfl (.tmp 3) rfl w.heap.size rfl Hm.out K12.out ?_)
  refine (eqInt64S_any _ _ _ _ Ol5_12.out.rdI Ol8_12.out.rdI).mono ?_
  rintro e w13 ⟨rfl, hb⟩
  have Z13 := hidd hb.size
  have B13 := hidd (bel_then B12.out hb)
  have K13 := hidd (hp_bel K12.out hb)
  have Ol1_13 := hidd (Ol1_12.out.below hb)
  have Ol2_13 := hidd (Ol2_12.out.below hb)
  have Or3_13 := hidd (Or3_12.out.below hb)
  have Ol4_13 := hidd (Ol4_12.out.below hb)
  have Ol5_13 := hidd (Ol5_12.out.below hb)
  have Or6_13 := hidd (Or6_12.out.below hb)
  have Ol7_13 := hidd (Ol7_12.out.below hb)
  have Ol8_13 := hidd (Ol8_12.out.below hb)
  clear hb B12 K12 Ol1_12 Ol2_12 Or3_12 Ol4_12 Ol5_12 Or6_12 Ol7_12 Ol8_12
  go_wp2_with (refine ldL rfl (.tmp 3) rfl w.heap.size rfl Hm.out K13.out ?_)
  refine (markInt64S_any _ _ _ _ _ Ol4_13.out (by omega) (by omega)).mono ?_
  rintro e w14 ⟨rfl, ho, hg⟩
  have Z14 := hidd hg.size
  have B14 := hidd (bel_mark B13.out Ol4_13.out hg (by have z0 := Z0.out; have z1 := Z1.out; have z2 := Z2.out; have z3 := Z3.out; have z4 := Z4.out; have z5 := Z5.out; have z6 := Z6.out; have z7 := Z7.out; have z8 := Z8.out; have z9 := Z9.out; have z10 := Z10.out; have z11 := Z11.out; have z12 := Z12.out; have z13 := Z13.out; omega))
  have K14 := hidd (hp_mark K13.out Ol4_13.out hg (by have z0 := Z0.out; have z1 := Z1.out; have z2 := Z2.out; have z3 := Z3.out; have z4 := Z4.out; have z5 := Z5.out; have z6 := Z6.out; have z7 := Z7.out; have z8 := Z8.out; have z9 := Z9.out; have z10 := Z10.out; have z11 := Z11.out; have z12 := Z12.out; have z13 := Z13.out; omega))
  have Ol1_14 := hidd (Ol1_13.out.grown hg (own_ne Cl1.out Cl4.out (by have z0 := Z0.out; have z1 := Z1.out; have z2 := Z2.out; have z3 := Z3.out; have z4 := Z4.out; have z5 := Z5.out; have z6 := Z6.out; have z7 := Z7.out; have z8 := Z8.out; have z9 := Z9.out; have z10 := Z10.out; have z11 := Z11.out; have z12 := Z12.out; have z13 := Z13.out; omega)))
  have Ol2_14 := hidd (Ol2_13.out.grown hg (own_ne Cl2.out Cl4.out (by have z0 := Z0.out; have z1 := Z1.out; have z2 := Z2.out; have z3 := Z3.out; have z4 := Z4.out; have z5 := Z5.out; have z6 := Z6.out; have z7 := Z7.out; have z8 := Z8.out; have z9 := Z9.out; have z10 := Z10.out; have z11 := Z11.out; have z12 := Z12.out; have z13 := Z13.out; omega)))
  have Or3_14 := hidd (Or3_13.out.grown hg (own_ne Cr3.out Cl4.out (by have z0 := Z0.out; have z1 := Z1.out; have z2 := Z2.out; have z3 := Z3.out; have z4 := Z4.out; have z5 := Z5.out; have z6 := Z6.out; have z7 := Z7.out; have z8 := Z8.out; have z9 := Z9.out; have z10 := Z10.out; have z11 := Z11.out; have z12 := Z12.out; have z13 := Z13.out; omega)))
  have Ol5_14 := hidd (Ol5_13.out.grown hg (own_ne' Cl4.out Cl5.out (by have z0 := Z0.out; have z1 := Z1.out; have z2 := Z2.out; have z3 := Z3.out; have z4 := Z4.out; have z5 := Z5.out; have z6 := Z6.out; have z7 := Z7.out; have z8 := Z8.out; have z9 := Z9.out; have z10 := Z10.out; have z11 := Z11.out; have z12 := Z12.out; have z13 := Z13.out; omega)))
  have Or6_14 := hidd (Or6_13.out.grown hg (own_ne' Cl4.out Cr6.out (by have z0 := Z0.out; have z1 := Z1.out; have z2 := Z2.out; have z3 := Z3.out; have z4 := Z4.out; have z5 := Z5.out; have z6 := Z6.out; have z7 := Z7.out; have z8 := Z8.out; have z9 := Z9.out; have z10 := Z10.out; have z11 := Z11.out; have z12 := Z12.out; have z13 := Z13.out; omega)))
  have Ol7_14 := hidd (Ol7_13.out.grown hg (own_ne' Cl4.out Cl7.out (by have z0 := Z0.out; have z1 := Z1.out; have z2 := Z2.out; have z3 := Z3.out; have z4 := Z4.out; have z5 := Z5.out; have z6 := Z6.out; have z7 := Z7.out; have z8 := Z8.out; have z9 := Z9.out; have z10 := Z10.out; have z11 := Z11.out; have z12 := Z12.out; have z13 := Z13.out; omega)))
  have Ol8_14 := hidd (Ol8_13.out.grown hg (own_ne' Cl4.out Cl8.out (by have z0 := Z0.out; have z1 := Z1.out; have z2 := Z2.out; have z3 := Z3.out; have z4 := Z4.out; have z5 := Z5.out; have z6 := Z6.out; have z7 := Z7.out; have z8 := Z8.out; have z9 := Z9.out; have z10 := Z10.out; have z11 := Z11.out; have z12 := Z12.out; have z13 := Z13.out; omega)))
  have Ol4_14 := hidd ho
  clear ho hg B13 K13 Ol1_13 Ol2_13 Or3_13 Ol4_13 Ol5_13 Or6_13 Ol7_13 Ol8_13
  go_wp2_with (refine ldL rfl (.tmp 3) rfl w.heap.size rfl Hm.out K14.out ?_)
  refine (markInt64S_any _ _ _ _ _ Ol5_14.out (by omega) (by omega)).mono ?_
  rintro e w15 ⟨rfl, ho, hg⟩
  have Z15 := hidd hg.size
  have B15 := hidd (bel_mark B14.out Ol5_14.out hg (by have z0 := Z0.out; have z1 := Z1.out; have z2 := Z2.out; have z3 := Z3.out; have z4 := Z4.out; have z5 := Z5.out; have z6 := Z6.out; have z7 := Z7.out; have z8 := Z8.out; have z9 := Z9.out; have z10 := Z10.out; have z11 := Z11.out; have z12 := Z12.out; have z13 := Z13.out; have z14 := Z14.out; omega))
  have K15 := hidd (hp_mark K14.out Ol5_14.out hg (by have z0 := Z0.out; have z1 := Z1.out; have z2 := Z2.out; have z3 := Z3.out; have z4 := Z4.out; have z5 := Z5.out; have z6 := Z6.out; have z7 := Z7.out; have z8 := Z8.out; have z9 := Z9.out; have z10 := Z10.out; have z11 := Z11.out; have z12 := Z12.out; have z13 := Z13.out; have z14 := Z14.out; omega))
  have Ol1_15 := hidd (Ol1_14.out.grown hg (own_ne Cl1.out Cl5.out (by have z0 := Z0.out; have z1 := Z1.out; have z2 := Z2.out; have z3 := Z3.out; have z4 := Z4.out; have z5 := Z5.out; have z6 := Z6.out; have z7 := Z7.out; have z8 := Z8.out; have z9 := Z9.out; have z10 := Z10.out; have z11 := Z11.out; have z12 := Z12.out; have z13 := Z13.out; have z14 := Z14.out; omega)))
  have Ol2_15 := hidd (Ol2_14.out.grown hg (own_ne Cl2.out Cl5.out (by have z0 := Z0.out; have z1 := Z1.out; have z2 := Z2.out; have z3 := Z3.out; have z4 := Z4.out; have z5 := Z5.out; have z6 := Z6.out; have z7 := Z7.out; have z8 := Z8.out; have z9 := Z9.out; have z10 := Z10.out; have z11 := Z11.out; have z12 := Z12.out; have z13 := Z13.out; have z14 := Z14.out; omega)))
  have Or3_15 := hidd (Or3_14.out.grown hg (own_ne Cr3.out Cl5.out (by have z0 := Z0.out; have z1 := Z1.out; have z2 := Z2.out; have z3 := Z3.out; have z4 := Z4.out; have z5 := Z5.out; have z6 := Z6.out; have z7 := Z7.out; have z8 := Z8.out; have z9 := Z9.out; have z10 := Z10.out; have z11 := Z11.out; have z12 := Z12.out; have z13 := Z13.out; have z14 := Z14.out; omega)))
  have Ol4_15 := hidd (Ol4_14.out.grown hg (own_ne Cl4.out Cl5.out (by have z0 := Z0.out; have z1 := Z1.out; have z2 := Z2.out; have z3 := Z3.out; have z4 := Z4.out; have z5 := Z5.out; have z6 := Z6.out; have z7 := Z7.out; have z8 := Z8.out; have z9 := Z9.out; have z10 := Z10.out; have z11 := Z11.out; have z12 := Z12.out; have z13 := Z13.out; have z14 := Z14.out; omega)))
  have Or6_15 := hidd (Or6_14.out.grown hg (own_ne' Cl5.out Cr6.out (by have z0 := Z0.out; have z1 := Z1.out; have z2 := Z2.out; have z3 := Z3.out; have z4 := Z4.out; have z5 := Z5.out; have z6 := Z6.out; have z7 := Z7.out; have z8 := Z8.out; have z9 := Z9.out; have z10 := Z10.out; have z11 := Z11.out; have z12 := Z12.out; have z13 := Z13.out; have z14 := Z14.out; omega)))
  have Ol7_15 := hidd (Ol7_14.out.grown hg (own_ne' Cl5.out Cl7.out (by have z0 := Z0.out; have z1 := Z1.out; have z2 := Z2.out; have z3 := Z3.out; have z4 := Z4.out; have z5 := Z5.out; have z6 := Z6.out; have z7 := Z7.out; have z8 := Z8.out; have z9 := Z9.out; have z10 := Z10.out; have z11 := Z11.out; have z12 := Z12.out; have z13 := Z13.out; have z14 := Z14.out; omega)))
  have Ol8_15 := hidd (Ol8_14.out.grown hg (own_ne' Cl5.out Cl8.out (by have z0 := Z0.out; have z1 := Z1.out; have z2 := Z2.out; have z3 := Z3.out; have z4 := Z4.out; have z5 := Z5.out; have z6 := Z6.out; have z7 := Z7.out; have z8 := Z8.out; have z9 := Z9.out; have z10 := Z10.out; have z11 := Z11.out; have z12 := Z12.out; have z13 := Z13.out; have z14 := Z14.out; omega)))
  have Ol5_15 := hidd ho
  clear ho hg B14 K14 Ol1_14 Ol2_14 Or3_14 Ol4_14 Ol5_14 Or6_14 Ol7_14 Ol8_14
  go_wp2_with (refine ldL rfl (.tmp 3) rfl w.heap.size rfl Hm.out K15.out ?_)
  refine (eqInt64S_any _ _ _ _ Or6_15.out.rdI Or3_15.out.rdI).mono ?_
  rintro e w16 ⟨rfl, hb⟩
  have Z16 := hidd hb.size
  have B16 := hidd (bel_then B15.out hb)
  have K16 := hidd (hp_bel K15.out hb)
  have Ol1_16 := hidd (Ol1_15.out.below hb)
  have Ol2_16 := hidd (Ol2_15.out.below hb)
  have Or3_16 := hidd (Or3_15.out.below hb)
  have Ol4_16 := hidd (Ol4_15.out.below hb)
  have Ol5_16 := hidd (Ol5_15.out.below hb)
  have Or6_16 := hidd (Or6_15.out.below hb)
  have Ol7_16 := hidd (Ol7_15.out.below hb)
  have Ol8_16 := hidd (Ol8_15.out.below hb)
  clear hb B15 K15 Ol1_15 Ol2_15 Or3_15 Ol4_15 Ol5_15 Or6_15 Ol7_15 Ol8_15
  go_wp2_with (refine ldL rfl (.tmp 3) rfl w.heap.size rfl Hm.out K16.out ?_)
  refine (markInt64S_any _ _ _ _ _ Or6_16.out (by omega) (by have := HL.out; omega)).mono ?_
  rintro e w17 ⟨rfl, ho, hg⟩
  have Z17 := hidd hg.size
  have B17 := hidd (bel_mark B16.out Or6_16.out hg (by have z0 := Z0.out; have z1 := Z1.out; have z2 := Z2.out; have z3 := Z3.out; have z4 := Z4.out; have z5 := Z5.out; have z6 := Z6.out; have z7 := Z7.out; have z8 := Z8.out; have z9 := Z9.out; have z10 := Z10.out; have z11 := Z11.out; have z12 := Z12.out; have z13 := Z13.out; have z14 := Z14.out; have z15 := Z15.out; have z16 := Z16.out; omega))
  have K17 := hidd (hp_mark K16.out Or6_16.out hg (by have z0 := Z0.out; have z1 := Z1.out; have z2 := Z2.out; have z3 := Z3.out; have z4 := Z4.out; have z5 := Z5.out; have z6 := Z6.out; have z7 := Z7.out; have z8 := Z8.out; have z9 := Z9.out; have z10 := Z10.out; have z11 := Z11.out; have z12 := Z12.out; have z13 := Z13.out; have z14 := Z14.out; have z15 := Z15.out; have z16 := Z16.out; omega))
  have Ol1_17 := hidd (Ol1_16.out.grown hg (own_ne Cl1.out Cr6.out (by have z0 := Z0.out; have z1 := Z1.out; have z2 := Z2.out; have z3 := Z3.out; have z4 := Z4.out; have z5 := Z5.out; have z6 := Z6.out; have z7 := Z7.out; have z8 := Z8.out; have z9 := Z9.out; have z10 := Z10.out; have z11 := Z11.out; have z12 := Z12.out; have z13 := Z13.out; have z14 := Z14.out; have z15 := Z15.out; have z16 := Z16.out; omega)))
  have Ol2_17 := hidd (Ol2_16.out.grown hg (own_ne Cl2.out Cr6.out (by have z0 := Z0.out; have z1 := Z1.out; have z2 := Z2.out; have z3 := Z3.out; have z4 := Z4.out; have z5 := Z5.out; have z6 := Z6.out; have z7 := Z7.out; have z8 := Z8.out; have z9 := Z9.out; have z10 := Z10.out; have z11 := Z11.out; have z12 := Z12.out; have z13 := Z13.out; have z14 := Z14.out; have z15 := Z15.out; have z16 := Z16.out; omega)))
  have Or3_17 := hidd (Or3_16.out.grown hg (own_ne Cr3.out Cr6.out (by have z0 := Z0.out; have z1 := Z1.out; have z2 := Z2.out; have z3 := Z3.out; have z4 := Z4.out; have z5 := Z5.out; have z6 := Z6.out; have z7 := Z7.out; have z8 := Z8.out; have z9 := Z9.out; have z10 := Z10.out; have z11 := Z11.out; have z12 := Z12.out; have z13 := Z13.out; have z14 := Z14.out; have z15 := Z15.out; have z16 := Z16.out; omega)))
  have Ol4_17 := hidd (Ol4_16.out.grown hg (own_ne Cl4.out Cr6.out (by have z0 := Z0.out; have z1 := Z1.out; have z2 := Z2.out; have z3 := Z3.out; have z4 := Z4.out; have z5 := Z5.out; have z6 := Z6.out; have z7 := Z7.out; have z8 := Z8.out; have z9 := Z9.out; have z10 := Z10.out; have z11 := Z11.out; have z12 := Z12.out; have z13 := Z13.out; have z14 := Z14.out; have z15 := Z15.out; have z16 := Z16.out; omega)))
  have Ol5_17 := hidd (Ol5_16.out.grown hg (own_ne Cl5.out Cr6.out (by have z0 := Z0.out; have z1 := Z1.out; have z2 := Z2.out; have z3 := Z3.out; have z4 := Z4.out; have z5 := Z5.out; have z6 := Z6.out; have z7 := Z7.out; have z8 := Z8.out; have z9 := Z9.out; have z10 := Z10.out; have z11 := Z11.out; have z12 := Z12.out; have z13 := Z13.out; have z14 := Z14.out; have z15 := Z15.out; have z16 := Z16.out; omega)))
  have Ol7_17 := hidd (Ol7_16.out.grown hg (own_ne' Cr6.out Cl7.out (by have z0 := Z0.out; have z1 := Z1.out; have z2 := Z2.out; have z3 := Z3.out; have z4 := Z4.out; have z5 := Z5.out; have z6 := Z6.out; have z7 := Z7.out; have z8 := Z8.out; have z9 := Z9.out; have z10 := Z10.out; have z11 := Z11.out; have z12 := Z12.out; have z13 := Z13.out; have z14 := Z14.out; have z15 := Z15.out; have z16 := Z16.out; omega)))
  have Ol8_17 := hidd (Ol8_16.out.grown hg (own_ne' Cr6.out Cl8.out (by have z0 := Z0.out; have z1 := Z1.out; have z2 := Z2.out; have z3 := Z3.out; have z4 := Z4.out; have z5 := Z5.out; have z6 := Z6.out; have z7 := Z7.out; have z8 := Z8.out; have z9 := Z9.out; have z10 := Z10.out; have z11 := Z11.out; have z12 := Z12.out; have z13 := Z13.out; have z14 := Z14.out; have z15 := Z15.out; have z16 := Z16.out; omega)))
  have Or6_17 := hidd ho
  clear ho hg B16 K16 Ol1_16 Ol2_16 Or3_16 Ol4_16 Ol5_16 Or6_16 Ol7_16 Ol8_16
  go_wp2_with (refine ldL rfl (.tmp 3) rfl w.heap.size rfl Hm.out K17.out ?_)
  refine (heldInt64S_any _ _ r.1.length _ Or6_17.out.rdI (by omega) (by have := HL.out; omega)).mono ?_
  rintro e w18 ⟨rfl, rfl⟩
  go_wp2_with (refine ldL rfl (.tmp 3) rfl w.heap.size rfl Hm.out K17.out ?_)
  refine (toMachine_any cs m Hm.out _).mono ?_
  rintro e w18 ⟨rfl, hb⟩
  have Z18 := hidd hb.size
  have B18 := hidd (bel_then B17.out hb)
  have K18 := hidd (hp_bel K17.out hb)
  have Ol1_18 := hidd (Ol1_17.out.below hb)
  have Ol2_18 := hidd (Ol2_17.out.below hb)
  have Or3_18 := hidd (Or3_17.out.below hb)
  have Ol4_18 := hidd (Ol4_17.out.below hb)
  have Ol5_18 := hidd (Ol5_17.out.below hb)
  have Or6_18 := hidd (Or6_17.out.below hb)
  have Ol7_18 := hidd (Ol7_17.out.below hb)
  have Ol8_18 := hidd (Ol8_17.out.below hb)
  clear hb B17 K17 Ol1_17 Ol2_17 Or3_17 Ol4_17 Ol5_17 Or6_17 Ol7_17 Ol8_17
  go_wp2_with (refine ldL rfl (.tmp 3) rfl w.heap.size rfl Hm.out K18.out ?_)
  refine (toInt64S_any _ xs1 _ (Hr1.out.below B18.out) hn1).mono ?_
  rintro e w19 ⟨⟨l9, rfl, ho⟩, hb⟩
  have Cl9 := hidd ho
  have Ol9_19 := hidd ho
  clear ho
  have Z19 := hidd hb.size
  have B19 := hidd (bel_then B18.out hb)
  have K19 := hidd (hp_bel K18.out hb)
  have Ol1_19 := hidd (Ol1_18.out.below hb)
  have Ol2_19 := hidd (Ol2_18.out.below hb)
  have Or3_19 := hidd (Or3_18.out.below hb)
  have Ol4_19 := hidd (Ol4_18.out.below hb)
  have Ol5_19 := hidd (Ol5_18.out.below hb)
  have Or6_19 := hidd (Or6_18.out.below hb)
  have Ol7_19 := hidd (Ol7_18.out.below hb)
  have Ol8_19 := hidd (Ol8_18.out.below hb)
  clear hb B18 K18 Ol1_18 Ol2_18 Or3_18 Ol4_18 Ol5_18 Or6_18 Ol7_18 Ol8_18
  go_wp2_with (refine ldL rfl (.tmp 3) rfl w.heap.size rfl Hm.out K19.out ?_)
  refine (toInt64S_any _ xs2 _ (Hr2.out.below B19.out) hn2).mono ?_
  rintro e w20 ⟨⟨l10, rfl, ho⟩, hb⟩
  have Cl10 := hidd ho
  have Ol10_20 := hidd ho
  clear ho
  have Z20 := hidd hb.size
  have B20 := hidd (bel_then B19.out hb)
  have K20 := hidd (hp_bel K19.out hb)
  have Ol1_20 := hidd (Ol1_19.out.below hb)
  have Ol2_20 := hidd (Ol2_19.out.below hb)
  have Or3_20 := hidd (Or3_19.out.below hb)
  have Ol4_20 := hidd (Ol4_19.out.below hb)
  have Ol5_20 := hidd (Ol5_19.out.below hb)
  have Or6_20 := hidd (Or6_19.out.below hb)
  have Ol7_20 := hidd (Ol7_19.out.below hb)
  have Ol8_20 := hidd (Ol8_19.out.below hb)
  have Ol9_20 := hidd (Ol9_19.out.below hb)
  clear hb B19 K19 Ol1_19 Ol2_19 Or3_19 Ol4_19 Ol5_19 Or6_19 Ol7_19 Ol8_19 Ol9_19
  go_wp2_with (refine ldL rfl (.tmp 3) rfl w.heap.size rfl Hm.out K20.out ?_)
  refine (implCommutatorOf_any m cs Hm.out _ _ xs1 xs2 _ Ol9_20.out.rdI Ol10_20.out.rdI Ol9_20.out.nilOk Ol10_20.out.nilOk hn1 hn2).mono ?_
  rintro e w21 ⟨⟨r11, rfl, ho⟩, hb⟩
  rw [HR.out] at ho ⊢
  have Cr11 := hidd ho
  have Or11_21 := hidd ho
  clear ho
  have Z21 := hidd hb.size
  have B21 := hidd (bel_then B20.out hb)
  have K21 := hidd (hp_bel K20.out hb)
  have Ol1_21 := hidd (Ol1_20.out.below hb)
  have Ol2_21 := hidd (Ol2_20.out.below hb)
  have Or3_21 := hidd (Or3_20.out.below hb)
  have Ol4_21 := hidd (Ol4_20.out.below hb)
  have Ol5_21 := hidd (Ol5_20.out.below hb)
  have Or6_21 := hidd (Or6_20.out.below hb)
  have Ol7_21 := hidd (Ol7_20.out.below hb)
  have Ol8_21 := hidd (Ol8_20.out.below hb)
  have Ol9_21 := hidd (Ol9_20.out.below hb)
  have Ol10_21 := hidd (Ol10_20.out.below hb)
  clear hb B20 K20 Ol1_20 Ol2_20 Or3_20 Ol4_20 Ol5_20 Or6_20 Ol7_20 Ol8_20 Ol9_20 Ol10_20
  go_wp2_with (refine ldL rfl (.tmp 3) rfl w.heap.size rfl Hm.out K21.out ?_)
  refine (eqInt64S_any _ _ _ _ Or11_21.out.rdI Or3_21.out.rdI).mono ?_
  rintro e w22 ⟨rfl, hb⟩
  have Z22 := hidd hb.size
  have B22 := hidd (bel_then B21.out hb)
  have K22 := hidd (hp_bel K21.out hb)
  have Ol1_22 := hidd (Ol1_21.out.below hb)
  have Ol2_22 := hidd (Ol2_21.out.below hb)
  have Or3_22 := hidd (Or3_21.out.below hb)
  have Ol4_22 := hidd (Ol4_21.out.below hb)
  have Ol5_22 := hidd (Ol5_21.out.below hb)
  have Or6_22 := hidd (Or6_21.out.below hb)
  have Ol7_22 := hidd (Ol7_21.out.below hb)
  have Ol8_22 := hidd (Ol8_21.out.below hb)
  have Ol9_22 := hidd (Ol9_21.out.below hb)
  have Ol10_22 := hidd (Ol10_21.out.below hb)
  have Or11_22 := hidd (Or11_21.out.below hb)
  clear hb B21 K21 Ol1_21 Ol2_21 Or3_21 Ol4_21 Ol5_21 Or6_21 Ol7_21 Ol8_21 Ol9_21 Ol10_21 Or11_21
  go_wp2_with (refine ldL rfl (.tmp 3) rfl w.heap.size rfl Hm.out K22.out ?_)
  refine (heldInt64S_any _ _ r.1.length _ Or6_22.out.rdI (by omega) (by have := HL.out; omega)).mono ?_
  rintro e w23 ⟨rfl, rfl⟩
  go_wp2_with fail
  go_ret
  exact ⟨rfl, B22.out⟩
end Go.Proofs.Ytjnnbjlombopnaa

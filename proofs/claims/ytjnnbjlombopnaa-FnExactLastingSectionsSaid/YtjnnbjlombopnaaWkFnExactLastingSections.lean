/- The walk of the law FnExactLastingSections: it returns true and leaves memory as it was. A program wrote it out of the law's shape. -/
import Derived.Test.YtjnnbjlombopnaaLse
import Derived.Test.YtjnnbjlombopnaaBA
namespace Go.Proofs.Ytjnnbjlombopnaa
open Go.RowKit
set_option maxRecDepth 100000 in
set_option maxHeartbeats 1000000 in
theorem fnExactLastingSections_walk (w : World) (cs : Array Value) (m : Mc) (hm : m.Is cs) (v1 : Value) (xs1 : List Int) (hr1 : RdI w v1 xs1) :
    Calls Try.prog 27 #[.agg cs, v1] w fun e w' => e = .returned (.bool true) ∧ Below w.heap.size w w' := by
  have hl1 := hr1.le
  have Hr1 := hidd hr1
  clear hr1
  have Hm := hidd hm
  clear hm
  by_cases hn1 : xs1.length ≤ 1048576
  rotate_left
  obtain ⟨A1, c1, rfl, hq1⟩ := Hr1.out
  clear hq1
  have hn1' : 1048576 < xs1.length := by omega
  · clear hn1
    go_enter Try.func27, Try.ntmps27
    go_wp2
    go_ret
    exact ⟨rfl, (Below.refl _ _).alloc (Nat.le_refl _) _⟩
  obtain ⟨A1, c1, ev1, hq1⟩ := Hr1.out
  clear hq1
  subst ev1
  obtain ⟨r, hrr⟩ : ∃ r, lasR m xs1 = r := ⟨_, rfl⟩
  have HR := hidd hrr
  clear hrr
  have HS := hidd (show szs r.1 ≤ 1048576 by rw [← HR.out]; exact lasR_szs m xs1)
  go_enter Try.func27, Try.ntmps27
  go_wp2_with (refine ldL rfl (.tmp 2) rfl w.heap.size rfl Hm.out (hp_new rfl) ?_)
  obtain ⟨w0, hw0⟩ : ∃ w0, w0 = w.alloc (.cells cs 25) := ⟨_, rfl⟩
  rw [← hw0]
  have B0 := hidd (show Below w.heap.size w w0 by rw [hw0]; exact (Below.refl _ _).alloc (Nat.le_refl _) _)
  have K0 := hidd (show w0.heap[w.heap.size]? = some (.cells cs 25 (0, 0)) by rw [hw0]; exact hp_new rfl)
  have Z0 := hidd (show w.heap.size < w0.heap.size by rw [hw0]; simp)
  clear hw0
  refine (toMachine_any cs m Hm.out _).mono ?_
  rintro e w1 ⟨rfl, hb⟩
  have Z1 := hidd hb.size
  have B1 := hidd (bel_then B0.out hb)
  have K1 := hidd (hp_bel K0.out hb)
  clear hb B0 K0
  go_wp2_with (refine ldL rfl (.tmp 2) rfl w.heap.size rfl Hm.out K1.out ?_)
  refine (toInt64S_any _ xs1 _ (Hr1.out.below B1.out) hn1).mono ?_
  rintro e w2 ⟨⟨l1, rfl, ho⟩, hb⟩
  have Cl1 := hidd ho
  have Ol1_2 := hidd ho
  clear ho
  have Z2 := hidd hb.size
  have B2 := hidd (bel_then B1.out hb)
  have K2 := hidd (hp_bel K1.out hb)
  clear hb B1 K1
  go_wp2_with (refine ldL rfl (.tmp 2) rfl w.heap.size rfl Hm.out K2.out ?_)
  refine (specLastingSections_any m cs Hm.out _ xs1 _ Ol1_2.out.rdI).mono ?_
  rintro e w3 ⟨⟨r2q, rowsr2, rfl, ho⟩, hb⟩
  rw [HR.out] at ho ⊢
  have CLr2q := hidd ho
  have LLr2q_3 := hidd ho
  clear ho
  have Z3 := hidd hb.size
  have B3 := hidd (bel_then B2.out hb)
  have K3 := hidd (hp_bel K2.out hb)
  have Ol1_3 := hidd (Ol1_2.out.below hb)
  clear hb B2 K2 Ol1_2
  go_wp2_with (refine ldL rfl (.tmp 2) rfl w.heap.size rfl Hm.out K3.out ?_)
  refine (toInt64S_any _ xs1 _ (Hr1.out.below B3.out) hn1).mono ?_
  rintro e w4 ⟨⟨l3, rfl, ho⟩, hb⟩
  have Cl3 := hidd ho
  have Ol3_4 := hidd ho
  clear ho
  have Z4 := hidd hb.size
  have B4 := hidd (bel_then B3.out hb)
  have K4 := hidd (hp_bel K3.out hb)
  have Ol1_4 := hidd (Ol1_3.out.below hb)
  have LLr2q_4 := hidd (LLr2q_3.out.below hb)
  clear LLr2q_3
  clear hb B3 K3 Ol1_3
  go_wp2_with (refine ldL rfl (.tmp 2) rfl w.heap.size rfl Hm.out K4.out ?_)
  refine (toMachine_any cs m Hm.out _).mono ?_
  rintro e w5 ⟨rfl, hb⟩
  have Z5 := hidd hb.size
  have B5 := hidd (bel_then B4.out hb)
  have K5 := hidd (hp_bel K4.out hb)
  have Ol1_5 := hidd (Ol1_4.out.below hb)
  have Ol3_5 := hidd (Ol3_4.out.below hb)
  have LLr2q_5 := hidd (LLr2q_4.out.below hb)
  clear LLr2q_4
  clear hb B4 K4 Ol1_4 Ol3_4
  go_wp2_with (refine ldL rfl (.tmp 2) rfl w.heap.size rfl Hm.out K5.out ?_)
  refine (implLastingSections_any m cs Hm.out _ xs1 _ Ol3_5.out.rdI).mono ?_
  rintro e w6 ⟨⟨r4q, rowsr4, rfl, ho⟩, hb⟩
  rw [HR.out] at ho ⊢
  have CLr4q := hidd ho
  have LLr4q_6 := hidd ho
  clear ho
  have Z6 := hidd hb.size
  have B6 := hidd (bel_then B5.out hb)
  have K6 := hidd (hp_bel K5.out hb)
  have Ol1_6 := hidd (Ol1_5.out.below hb)
  have Ol3_6 := hidd (Ol3_5.out.below hb)
  have LLr2q_6 := hidd (LLr2q_5.out.below hb)
  clear LLr2q_5
  clear hb B5 K5 Ol1_5 Ol3_5
  go_wp2_with (refine ldL rfl (.tmp 2) rfl w.heap.size rfl Hm.out K6.out ?_)
  refine (eqInt64SS_any _ _ _ _ CLr2q.out.le LLr4q_6.out.rd LLr2q_6.out.rd).mono ?_
  rintro e w7 ⟨rfl, hb⟩
  have Z7 := hidd hb.size
  have B7 := hidd (bel_then B6.out hb)
  have K7 := hidd (hp_bel K6.out hb)
  have Ol1_7 := hidd (Ol1_6.out.below hb)
  have Ol3_7 := hidd (Ol3_6.out.below hb)
  have LLr2q_7 := hidd (LLr2q_6.out.below hb)
  have LLr4q_7 := hidd (LLr4q_6.out.below hb)
  clear LLr2q_6 LLr4q_6
  clear hb B6 K6 Ol1_6 Ol3_6
  go_wp2_with (refine ldL rfl (.tmp 2) rfl w.heap.size rfl Hm.out K7.out ?_)
  refine (toInt64S_any _ xs1 _ (Hr1.out.below B7.out) hn1).mono ?_
  rintro e w8 ⟨⟨l5, rfl, ho⟩, hb⟩
  have Cl5 := hidd ho
  have Ol5_8 := hidd ho
  clear ho
  have Z8 := hidd hb.size
  have B8 := hidd (bel_then B7.out hb)
  have K8 := hidd (hp_bel K7.out hb)
  have Ol1_8 := hidd (Ol1_7.out.below hb)
  have Ol3_8 := hidd (Ol3_7.out.below hb)
  have LLr2q_8 := hidd (LLr2q_7.out.below hb)
  have LLr4q_8 := hidd (LLr4q_7.out.below hb)
  clear LLr2q_7 LLr4q_7
  clear hb B7 K7 Ol1_7 Ol3_7
  go_wp2_with (refine ldL rfl (.tmp 2) rfl w.heap.size rfl Hm.out K8.out ?_)
  refine (eqInt64S_any _ _ _ _ Ol3_8.out.rdI Ol5_8.out.rdI).mono ?_
  rintro e w9 ⟨rfl, hb⟩
  have Z9 := hidd hb.size
  have B9 := hidd (bel_then B8.out hb)
  have K9 := hidd (hp_bel K8.out hb)
  have Ol1_9 := hidd (Ol1_8.out.below hb)
  have Ol3_9 := hidd (Ol3_8.out.below hb)
  have Ol5_9 := hidd (Ol5_8.out.below hb)
  have LLr2q_9 := hidd (LLr2q_8.out.below hb)
  have LLr4q_9 := hidd (LLr4q_8.out.below hb)
  clear LLr2q_8 LLr4q_8
  clear hb B8 K8 Ol1_8 Ol3_8 Ol5_8
  go_wp2_with (refine ldL rfl (.tmp 2) rfl w.heap.size rfl Hm.out K9.out ?_)
  refine (markInt64S_any _ _ _ _ _ Ol3_9.out (by omega) (by omega)).mono ?_
  rintro e w10 ⟨rfl, ho, hg⟩
  have Z10 := hidd hg.size
  have B10 := hidd (bel_mark B9.out Ol3_9.out hg (by have z0 := Z0.out; have z1 := Z1.out; have z2 := Z2.out; have z3 := Z3.out; have z4 := Z4.out; have z5 := Z5.out; have z6 := Z6.out; have z7 := Z7.out; have z8 := Z8.out; have z9 := Z9.out; omega))
  have K10 := hidd (hp_mark K9.out Ol3_9.out hg (by have z0 := Z0.out; have z1 := Z1.out; have z2 := Z2.out; have z3 := Z3.out; have z4 := Z4.out; have z5 := Z5.out; have z6 := Z6.out; have z7 := Z7.out; have z8 := Z8.out; have z9 := Z9.out; omega))
  have Ol1_10 := hidd (Ol1_9.out.grown hg (own_ne Cl1.out Cl3.out (by have z0 := Z0.out; have z1 := Z1.out; have z2 := Z2.out; have z3 := Z3.out; have z4 := Z4.out; have z5 := Z5.out; have z6 := Z6.out; have z7 := Z7.out; have z8 := Z8.out; have z9 := Z9.out; omega)))
  have Ol5_10 := hidd (Ol5_9.out.grown hg (own_ne' Cl3.out Cl5.out (by have z0 := Z0.out; have z1 := Z1.out; have z2 := Z2.out; have z3 := Z3.out; have z4 := Z4.out; have z5 := Z5.out; have z6 := Z6.out; have z7 := Z7.out; have z8 := Z8.out; have z9 := Z9.out; omega)))
  have LLr2q_10 := hidd (LLr2q_9.out.keep Ol3_9.out (show Off l3 rowsr2 from fun _ _ h => by obtain ⟨_, _, ho⟩ := CLr2q.out.list h; exact own_ne ho Cl3.out (by have z0 := Z0.out; have z1 := Z1.out; have z2 := Z2.out; have z3 := Z3.out; have z4 := Z4.out; have z5 := Z5.out; have z6 := Z6.out; have z7 := Z7.out; have z8 := Z8.out; have z9 := Z9.out; omega)) hg)
  have LLr4q_10 := hidd (LLr4q_9.out.keep Ol3_9.out (show Off l3 rowsr4 from fun _ _ h => by obtain ⟨_, _, ho⟩ := CLr4q.out.list h; exact own_ne' Cl3.out ho (by have z0 := Z0.out; have z1 := Z1.out; have z2 := Z2.out; have z3 := Z3.out; have z4 := Z4.out; have z5 := Z5.out; have z6 := Z6.out; have z7 := Z7.out; have z8 := Z8.out; have z9 := Z9.out; omega)) hg)
  clear LLr2q_9 LLr4q_9
  have Ol3_10 := hidd ho
  clear ho hg B9 K9 Ol1_9 Ol3_9 Ol5_9
  go_wp2_with (refine ldL rfl (.tmp 2) rfl w.heap.size rfl Hm.out K10.out ?_)
  refine (eqInt64SS_any _ _ _ _ CLr2q.out.le LLr4q_10.out.rd LLr2q_10.out.rd).mono ?_
  rintro e w11 ⟨rfl, hb⟩
  have Z11 := hidd hb.size
  have B11 := hidd (bel_then B10.out hb)
  have K11 := hidd (hp_bel K10.out hb)
  have Ol1_11 := hidd (Ol1_10.out.below hb)
  have Ol3_11 := hidd (Ol3_10.out.below hb)
  have Ol5_11 := hidd (Ol5_10.out.below hb)
  have LLr2q_11 := hidd (LLr2q_10.out.below hb)
  have LLr4q_11 := hidd (LLr4q_10.out.below hb)
  clear LLr2q_10 LLr4q_10
  clear hb B10 K10 Ol1_10 Ol3_10 Ol5_10
  go_wp2_with (refine ldL rfl (.tmp 2) rfl w.heap.size rfl Hm.out K11.out ?_)
  refine (markInt64SS_any _ (1) _ _ _ _ LLr4q_11.out (by omega) (by have := HS.out; omega) (by have z0 := Z0.out; have z1 := Z1.out; have z2 := Z2.out; have z3 := Z3.out; have z4 := Z4.out; have z5 := Z5.out; have z6 := Z6.out; have z7 := Z7.out; have z8 := Z8.out; have z9 := Z9.out; have z10 := Z10.out; have z11 := Z11.out; omega)).mono ?_
  rintro e w12 ⟨rfl, ho, hk, hb⟩
  have Z12 := hidd hb.size
  have B12 := hidd (B11.out.trans (hb.mono (by have z0 := Z0.out; have z1 := Z1.out; have z2 := Z2.out; have z3 := Z3.out; have z4 := Z4.out; have z5 := Z5.out; have z6 := Z6.out; have z7 := Z7.out; have z8 := Z8.out; have z9 := Z9.out; have z10 := Z10.out; have z11 := Z11.out; omega)))
  have K12 := hidd ((hb.block _ (by have z0 := Z0.out; have z1 := Z1.out; have z2 := Z2.out; have z3 := Z3.out; have z4 := Z4.out; have z5 := Z5.out; have z6 := Z6.out; have z7 := Z7.out; have z8 := Z8.out; have z9 := Z9.out; have z10 := Z10.out; have z11 := Z11.out; omega)).trans K11.out)
  have Ol1_12 := hidd (hk _ _ _ _ Ol1_11.out (fun j r h => ((show Off l1 rowsr4 from fun _ _ h => by obtain ⟨_, _, ho⟩ := CLr4q.out.list h; exact own_ne' Cl1.out ho (by have z0 := Z0.out; have z1 := Z1.out; have z2 := Z2.out; have z3 := Z3.out; have z4 := Z4.out; have z5 := Z5.out; have z6 := Z6.out; have z7 := Z7.out; have z8 := Z8.out; have z9 := Z9.out; have z10 := Z10.out; have z11 := Z11.out; omega)) j r h).symm))
  have Ol3_12 := hidd (hk _ _ _ _ Ol3_11.out (fun j r h => ((show Off l3 rowsr4 from fun _ _ h => by obtain ⟨_, _, ho⟩ := CLr4q.out.list h; exact own_ne' Cl3.out ho (by have z0 := Z0.out; have z1 := Z1.out; have z2 := Z2.out; have z3 := Z3.out; have z4 := Z4.out; have z5 := Z5.out; have z6 := Z6.out; have z7 := Z7.out; have z8 := Z8.out; have z9 := Z9.out; have z10 := Z10.out; have z11 := Z11.out; omega)) j r h).symm))
  have Ol5_12 := hidd (hk _ _ _ _ Ol5_11.out (fun j r h => ((show Off l5 rowsr4 from fun _ _ h => by obtain ⟨_, _, ho⟩ := CLr4q.out.list h; exact own_ne ho Cl5.out (by have z0 := Z0.out; have z1 := Z1.out; have z2 := Z2.out; have z3 := Z3.out; have z4 := Z4.out; have z5 := Z5.out; have z6 := Z6.out; have z7 := Z7.out; have z8 := Z8.out; have z9 := Z9.out; have z10 := Z10.out; have z11 := Z11.out; omega)) j r h).symm))
  have LLr2q_12 := hidd (LLr2q_11.out.keptOff hk LLr4q_11.out (fun i j r r' h h' => by obtain ⟨_, _, h1⟩ := CLr2q.out.list h; obtain ⟨_, _, h2⟩ := CLr4q.out.list h'; exact own_ne h1 h2 (by have z0 := Z0.out; have z1 := Z1.out; have z2 := Z2.out; have z3 := Z3.out; have z4 := Z4.out; have z5 := Z5.out; have z6 := Z6.out; have z7 := Z7.out; have z8 := Z8.out; have z9 := Z9.out; have z10 := Z10.out; have z11 := Z11.out; omega)))
  have LLr4q_12 := hidd ho
  clear ho hk hb B11 K11 Ol1_11 Ol3_11 Ol5_11 LLr2q_11 LLr4q_11
  go_wp2_with (refine ldL rfl (.tmp 2) rfl w.heap.size rfl Hm.out K12.out ?_)
  refine (heldInt64SS_any _ (1) _ _ LLr4q_12.out.rd CLr4q.out.le (by omega) (by have := HS.out; omega)).mono ?_
  rintro e w13 ⟨rfl, rfl⟩
  go_wp2_with (refine ldL rfl (.tmp 2) rfl w.heap.size rfl Hm.out K12.out ?_)
  refine (toMachine_any cs m Hm.out _).mono ?_
  rintro e w13 ⟨rfl, hb⟩
  have Z13 := hidd hb.size
  have B13 := hidd (bel_then B12.out hb)
  have K13 := hidd (hp_bel K12.out hb)
  have Ol1_13 := hidd (Ol1_12.out.below hb)
  have Ol3_13 := hidd (Ol3_12.out.below hb)
  have Ol5_13 := hidd (Ol5_12.out.below hb)
  have LLr2q_13 := hidd (LLr2q_12.out.below hb)
  have LLr4q_13 := hidd (LLr4q_12.out.below hb)
  clear LLr2q_12 LLr4q_12
  clear hb B12 K12 Ol1_12 Ol3_12 Ol5_12
  go_wp2_with (refine ldL rfl (.tmp 2) rfl w.heap.size rfl Hm.out K13.out ?_)
  refine (toInt64S_any _ xs1 _ (Hr1.out.below B13.out) hn1).mono ?_
  rintro e w14 ⟨⟨l6, rfl, ho⟩, hb⟩
  have Cl6 := hidd ho
  have Ol6_14 := hidd ho
  clear ho
  have Z14 := hidd hb.size
  have B14 := hidd (bel_then B13.out hb)
  have K14 := hidd (hp_bel K13.out hb)
  have Ol1_14 := hidd (Ol1_13.out.below hb)
  have Ol3_14 := hidd (Ol3_13.out.below hb)
  have Ol5_14 := hidd (Ol5_13.out.below hb)
  have LLr2q_14 := hidd (LLr2q_13.out.below hb)
  have LLr4q_14 := hidd (LLr4q_13.out.below hb)
  clear LLr2q_13 LLr4q_13
  clear hb B13 K13 Ol1_13 Ol3_13 Ol5_13
  go_wp2_with (refine ldL rfl (.tmp 2) rfl w.heap.size rfl Hm.out K14.out ?_)
  refine (implLastingSections_any m cs Hm.out _ xs1 _ Ol6_14.out.rdI).mono ?_
  rintro e w15 ⟨⟨r7q, rowsr7, rfl, ho⟩, hb⟩
  rw [HR.out] at ho ⊢
  have CLr7q := hidd ho
  have LLr7q_15 := hidd ho
  clear ho
  have Z15 := hidd hb.size
  have B15 := hidd (bel_then B14.out hb)
  have K15 := hidd (hp_bel K14.out hb)
  have Ol1_15 := hidd (Ol1_14.out.below hb)
  have Ol3_15 := hidd (Ol3_14.out.below hb)
  have Ol5_15 := hidd (Ol5_14.out.below hb)
  have Ol6_15 := hidd (Ol6_14.out.below hb)
  have LLr2q_15 := hidd (LLr2q_14.out.below hb)
  have LLr4q_15 := hidd (LLr4q_14.out.below hb)
  clear LLr2q_14 LLr4q_14
  clear hb B14 K14 Ol1_14 Ol3_14 Ol5_14 Ol6_14
  go_wp2_with (refine ldL rfl (.tmp 2) rfl w.heap.size rfl Hm.out K15.out ?_)
  refine (eqInt64SS_any _ _ _ _ CLr2q.out.le LLr7q_15.out.rd LLr2q_15.out.rd).mono ?_
  rintro e w16 ⟨rfl, hb⟩
  have Z16 := hidd hb.size
  have B16 := hidd (bel_then B15.out hb)
  have K16 := hidd (hp_bel K15.out hb)
  have Ol1_16 := hidd (Ol1_15.out.below hb)
  have Ol3_16 := hidd (Ol3_15.out.below hb)
  have Ol5_16 := hidd (Ol5_15.out.below hb)
  have Ol6_16 := hidd (Ol6_15.out.below hb)
  have LLr2q_16 := hidd (LLr2q_15.out.below hb)
  have LLr4q_16 := hidd (LLr4q_15.out.below hb)
  have LLr7q_16 := hidd (LLr7q_15.out.below hb)
  clear LLr2q_15 LLr4q_15 LLr7q_15
  clear hb B15 K15 Ol1_15 Ol3_15 Ol5_15 Ol6_15
  go_wp2_with (refine ldL rfl (.tmp 2) rfl w.heap.size rfl Hm.out K16.out ?_)
  refine (heldInt64SS_any _ (1) _ _ LLr4q_16.out.rd CLr4q.out.le (by omega) (by have := HS.out; omega)).mono ?_
  rintro e w17 ⟨rfl, rfl⟩
  go_wp2_with fail
  go_ret
  exact ⟨rfl, B16.out⟩
end Go.Proofs.Ytjnnbjlombopnaa

/- The walk of the law FnExactAreEqualWords: it returns true and leaves memory as it was. A program wrote it out of the law's shape. -/
import Derived.Test.YtjnnbjlombopnaaAeq
import Derived.Test.YtjnnbjlombopnaaBA
namespace Go.Proofs.Ytjnnbjlombopnaa
open Go.RowKit
set_option maxRecDepth 100000 in
set_option maxHeartbeats 1000000 in
theorem fnExactAreEqualWords_walk (w : World) (cs : Array Value) (m : Mc) (hm : m.Is cs) (v1 : Value) (xs1 : List Int) (hr1 : RdI w v1 xs1) (v2 : Value) (xs2 : List Int) (hr2 : RdI w v2 xs2) :
    Calls Try.prog 26 #[.agg cs, v1, v2] w fun e w' => e = .returned (.bool true) ∧ Below w.heap.size w w' := by
  have hl1 := hr1.le
  have Hr1 := hidd hr1
  clear hr1
  have hl2 := hr2.le
  have Hr2 := hidd hr2
  clear hr2
  have Hm := hidd hm
  clear hm
  by_cases hn1 : xs1.length ≤ 1048576
  rotate_left
  obtain ⟨A1, c1, rfl, hq1⟩ := Hr1.out
  clear hq1
  have hn1' : 1048576 < xs1.length := by omega
  · clear hn1
    go_enter Try.func26, Try.ntmps26
    go_wp2
    go_ret
    exact ⟨rfl, (Below.refl _ _).alloc (Nat.le_refl _) _⟩
  by_cases hn2 : xs2.length ≤ 1048576
  rotate_left
  obtain ⟨A1, c1, rfl, hq1⟩ := Hr1.out
  clear hq1
  obtain ⟨A2, c2, rfl, hq2⟩ := Hr2.out
  clear hq2
  have hn2' : 1048576 < xs2.length := by omega
  · clear hn2
    go_enter Try.func26, Try.ntmps26
    go_wp2
    go_ret
    exact ⟨rfl, (Below.refl _ _).alloc (Nat.le_refl _) _⟩
  obtain ⟨A1, c1, ev1, hq1⟩ := Hr1.out
  clear hq1
  subst ev1
  obtain ⟨A2, c2, ev2, hq2⟩ := Hr2.out
  clear hq2
  subst ev2
  obtain ⟨r, hrr⟩ : ∃ r, aeqR m xs1 xs2 = r := ⟨_, rfl⟩
  have HR := hidd hrr
  clear hrr
  go_enter Try.func26, Try.ntmps26
  go_wp2_with (refine ldL rfl (.tmp 3) rfl w.heap.size rfl Hm.out (hp_new rfl) ?_)
  obtain ⟨w0, hw0⟩ : ∃ w0, w0 = w.alloc (.cells cs 25) := ⟨_, rfl⟩
  rw [← hw0]
  have B0 := hidd (show Below w.heap.size w w0 by rw [hw0]; exact (Below.refl _ _).alloc (Nat.le_refl _) _)
  have K0 := hidd (show w0.heap[w.heap.size]? = some (.cells cs 25 (0, 0)) by rw [hw0]; exact hp_new rfl)
  have Z0 := hidd (show w.heap.size < w0.heap.size by rw [hw0]; simp)
  clear hw0
  refine (toMachine_any cs m Hm.out _).mono ?_
  rintro e w1 ⟨rfl, hb⟩
  have Z1 := hidd hb.size
  have B1 := hidd (bel_then B0.out hb)
  have K1 := hidd (hp_bel K0.out hb)
  clear hb B0 K0
  go_wp2_with (refine ldL rfl (.tmp 3) rfl w.heap.size rfl Hm.out K1.out ?_)
  refine (toInt64S_any _ xs1 _ (Hr1.out.below B1.out) hn1).mono ?_
  rintro e w2 ⟨⟨l1, rfl, ho⟩, hb⟩
  have Cl1 := hidd ho
  have Ol1_2 := hidd ho
  clear ho
  have Z2 := hidd hb.size
  have B2 := hidd (bel_then B1.out hb)
  have K2 := hidd (hp_bel K1.out hb)
  clear hb B1 K1
  go_wp2_with (refine ldL rfl (.tmp 3) rfl w.heap.size rfl Hm.out K2.out ?_)
  refine (toInt64S_any _ xs2 _ (Hr2.out.below B2.out) hn2).mono ?_
  rintro e w3 ⟨⟨l2, rfl, ho⟩, hb⟩
  have Cl2 := hidd ho
  have Ol2_3 := hidd ho
  clear ho
  have Z3 := hidd hb.size
  have B3 := hidd (bel_then B2.out hb)
  have K3 := hidd (hp_bel K2.out hb)
  have Ol1_3 := hidd (Ol1_2.out.below hb)
  clear hb B2 K2 Ol1_2
  go_wp2_with (refine ldL rfl (.tmp 3) rfl w.heap.size rfl Hm.out K3.out ?_)
  refine (specAreEqualWords_any m cs Hm.out _ _ xs1 xs2 _ Ol1_3.out.rdI Ol2_3.out.rdI Ol1_3.out.nilOk).mono ?_
  rintro e w4 ⟨rfl, hb⟩
  rw [HR.out]
  have Z4 := hidd hb.size
  have B4 := hidd (bel_then B3.out hb)
  have K4 := hidd (hp_bel K3.out hb)
  have Ol1_4 := hidd (Ol1_3.out.below hb)
  have Ol2_4 := hidd (Ol2_3.out.below hb)
  clear hb B3 K3 Ol1_3 Ol2_3
  go_wp2_with (refine ldL rfl (.tmp 3) rfl w.heap.size rfl Hm.out K4.out ?_)
  refine (toInt64S_any _ xs1 _ (Hr1.out.below B4.out) hn1).mono ?_
  rintro e w5 ⟨⟨l4, rfl, ho⟩, hb⟩
  have Cl4 := hidd ho
  have Ol4_5 := hidd ho
  clear ho
  have Z5 := hidd hb.size
  have B5 := hidd (bel_then B4.out hb)
  have K5 := hidd (hp_bel K4.out hb)
  have Ol1_5 := hidd (Ol1_4.out.below hb)
  have Ol2_5 := hidd (Ol2_4.out.below hb)
  clear hb B4 K4 Ol1_4 Ol2_4
  go_wp2_with (refine ldL rfl (.tmp 3) rfl w.heap.size rfl Hm.out K5.out ?_)
  refine (toInt64S_any _ xs2 _ (Hr2.out.below B5.out) hn2).mono ?_
  rintro e w6 ⟨⟨l5, rfl, ho⟩, hb⟩
  have Cl5 := hidd ho
  have Ol5_6 := hidd ho
  clear ho
  have Z6 := hidd hb.size
  have B6 := hidd (bel_then B5.out hb)
  have K6 := hidd (hp_bel K5.out hb)
  have Ol1_6 := hidd (Ol1_5.out.below hb)
  have Ol2_6 := hidd (Ol2_5.out.below hb)
  have Ol4_6 := hidd (Ol4_5.out.below hb)
  clear hb B5 K5 Ol1_5 Ol2_5 Ol4_5
  go_wp2_with (refine ldL rfl (.tmp 3) rfl w.heap.size rfl Hm.out K6.out ?_)
  refine (toMachine_any cs m Hm.out _).mono ?_
  rintro e w7 ⟨rfl, hb⟩
  have Z7 := hidd hb.size
  have B7 := hidd (bel_then B6.out hb)
  have K7 := hidd (hp_bel K6.out hb)
  have Ol1_7 := hidd (Ol1_6.out.below hb)
  have Ol2_7 := hidd (Ol2_6.out.below hb)
  have Ol4_7 := hidd (Ol4_6.out.below hb)
  have Ol5_7 := hidd (Ol5_6.out.below hb)
  clear hb B6 K6 Ol1_6 Ol2_6 Ol4_6 Ol5_6
  go_wp2_with (refine ldL rfl (.tmp 3) rfl w.heap.size rfl Hm.out K7.out ?_)
  refine (implAreEqualWords_any m cs Hm.out _ _ xs1 xs2 _ Ol4_7.out.rdI Ol5_7.out.rdI Ol4_7.out.nilOk).mono ?_
  rintro e w8 ⟨rfl, hb⟩
  rw [HR.out]
  have Z8 := hidd hb.size
  have B8 := hidd (bel_then B7.out hb)
  have K8 := hidd (hp_bel K7.out hb)
  have Ol1_8 := hidd (Ol1_7.out.below hb)
  have Ol2_8 := hidd (Ol2_7.out.below hb)
  have Ol4_8 := hidd (Ol4_7.out.below hb)
  have Ol5_8 := hidd (Ol5_7.out.below hb)
  clear hb B7 K7 Ol1_7 Ol2_7 Ol4_7 Ol5_7
  go_wp2_with (refine ldL rfl (.tmp 3) rfl w.heap.size rfl Hm.out K8.out ?_)
  refine (toInt64S_any _ xs1 _ (Hr1.out.below B8.out) hn1).mono ?_
  rintro e w9 ⟨⟨l7, rfl, ho⟩, hb⟩
  have Cl7 := hidd ho
  have Ol7_9 := hidd ho
  clear ho
  have Z9 := hidd hb.size
  have B9 := hidd (bel_then B8.out hb)
  have K9 := hidd (hp_bel K8.out hb)
  have Ol1_9 := hidd (Ol1_8.out.below hb)
  have Ol2_9 := hidd (Ol2_8.out.below hb)
  have Ol4_9 := hidd (Ol4_8.out.below hb)
  have Ol5_9 := hidd (Ol5_8.out.below hb)
  clear hb B8 K8 Ol1_8 Ol2_8 Ol4_8 Ol5_8
  go_wp2_with (refine ldL rfl (.tmp 3) rfl w.heap.size rfl Hm.out K9.out ?_)
  refine (eqInt64S_any _ _ _ _ Ol4_9.out.rdI Ol7_9.out.rdI).mono ?_
  rintro e w10 ⟨rfl, hb⟩
  have Z10 := hidd hb.size
  have B10 := hidd (bel_then B9.out hb)
  have K10 := hidd (hp_bel K9.out hb)
  have Ol1_10 := hidd (Ol1_9.out.below hb)
  have Ol2_10 := hidd (Ol2_9.out.below hb)
  have Ol4_10 := hidd (Ol4_9.out.below hb)
  have Ol5_10 := hidd (Ol5_9.out.below hb)
  have Ol7_10 := hidd (Ol7_9.out.below hb)
  clear hb B9 K9 Ol1_9 Ol2_9 Ol4_9 Ol5_9 Ol7_9
  go_wp2_with (refine ldL rfl (.tmp 3) rfl w.heap.size rfl Hm.out K10.out ?_)
  refine (toInt64S_any _ xs2 _ (Hr2.out.below B10.out) hn2).mono ?_
  rintro e w11 ⟨⟨l8, rfl, ho⟩, hb⟩
  have Cl8 := hidd ho
  have Ol8_11 := hidd ho
  clear ho
  have Z11 := hidd hb.size
  have B11 := hidd (bel_then B10.out hb)
  have K11 := hidd (hp_bel K10.out hb)
  have Ol1_11 := hidd (Ol1_10.out.below hb)
  have Ol2_11 := hidd (Ol2_10.out.below hb)
  have Ol4_11 := hidd (Ol4_10.out.below hb)
  have Ol5_11 := hidd (Ol5_10.out.below hb)
  have Ol7_11 := hidd (Ol7_10.out.below hb)
  clear hb B10 K10 Ol1_10 Ol2_10 Ol4_10 Ol5_10 Ol7_10
  go_wp2_with (refine ldL rfl (.tmp 3) rfl w.heap.size rfl Hm.out K11.out ?_)
  refine (eqInt64S_any _ _ _ _ Ol5_11.out.rdI Ol8_11.out.rdI).mono ?_
  rintro e w12 ⟨rfl, hb⟩
  have Z12 := hidd hb.size
  have B12 := hidd (bel_then B11.out hb)
  have K12 := hidd (hp_bel K11.out hb)
  have Ol1_12 := hidd (Ol1_11.out.below hb)
  have Ol2_12 := hidd (Ol2_11.out.below hb)
  have Ol4_12 := hidd (Ol4_11.out.below hb)
  have Ol5_12 := hidd (Ol5_11.out.below hb)
  have Ol7_12 := hidd (Ol7_11.out.below hb)
  have Ol8_12 := hidd (Ol8_11.out.below hb)
  clear hb B11 K11 Ol1_11 Ol2_11 Ol4_11 Ol5_11 Ol7_11 Ol8_11
  go_wp2_with fail
  go_ret
  exact ⟨rfl, B12.out⟩
end Go.Proofs.Ytjnnbjlombopnaa

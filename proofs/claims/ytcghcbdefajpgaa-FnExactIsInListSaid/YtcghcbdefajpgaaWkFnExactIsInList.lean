/- The walk of the law FnExactIsInList: it returns true and leaves memory as it was. A program wrote it out of the law's shape. -/
import Derived.Test.YtcghcbdefajpgaaIsl
import Derived.Test.YtcghcbdefajpgaaLla
import Derived.Test.YtcghcbdefajpgaaLsn
import Derived.Test.YtcghcbdefajpgaaBA
namespace Go.Proofs.Ytcghcbdefajpgaa
open Go.RowKit
set_option maxRecDepth 100000 in
set_option maxHeartbeats 1000000 in
theorem fnExactIsInList_walk (w : World) (cs : Array Value) (m : Mc) (hm : m.Is cs) (v1 : Value) (xs1 : List Int) (hr1 : RdI w v1 xs1) (v2 : Value) (xs2 : List (List Int)) (hr2 : RdLL w v2 xs2) :
    Calls Try.prog 3 #[.agg cs, v1, v2] w fun e w' => e = .returned (.bool true) ∧ Below w.heap.size w w' := by
  have hl2 := hr2.le
  have Hr2 := hidd hr2
  clear hr2
  have hl1 := hr1.le
  have Hr1 := hidd hr1
  clear hr1
  have Hm := hidd hm
  clear hm
  by_cases hn1 : xs1.length ≤ 1048576
  rotate_left
  obtain ⟨A1, c1, rfl, hq1⟩ := Hr1.out
  clear hq1
  have hn1' : 1048576 < xs1.length := by omega
  · clear hn1
    go_enter Try.func3, Try.ntmps3
    go_wp2
    go_ret
    exact ⟨rfl, (Below.refl _ _).alloc (Nat.le_refl _) _⟩
  obtain ⟨A2, c2, rows2, ev2, hq2, hq2', hq2''⟩ := Hr2.out
  clear hq2 hq2' hq2''
  subst ev2
  by_cases hn2 : xs2.length + szs xs2 ≤ 1048576
  rotate_left
  · have HN := hidd hn2
    clear hn2
    obtain ⟨A1, c1, rfl, hq1⟩ := Hr1.out
    clear hq1
    go_enter Try.func3, Try.ntmps3
    go_wp2_with fail
    refine (szInt64SS_any _ xs2 _ (Hr2.out.below (bel_alloc' _ _))).mono ?_
    rintro e w1 ⟨rfl, hb⟩
    rw [if_neg HN.out]
    have B1 := hidd (bel_then (bel_alloc' _ _) hb)
    clear hb
    go_wp2_with fail
    go_ret
    exact ⟨rfl, B1.out⟩
  obtain ⟨A1, c1, ev1, hq1⟩ := Hr1.out
  clear hq1
  subst ev1
  obtain ⟨r, hrr⟩ : ∃ r, ilR m xs1 xs2 = r := ⟨_, rfl⟩
  have HR := hidd hrr
  clear hrr
  have Hn2 := hidd hn2
  clear hn2
  go_enter Try.func3, Try.ntmps3
  go_wp2_with (refine ldL rfl (.tmp 3) rfl w.heap.size rfl Hm.out (hp_new rfl) ?_)
  obtain ⟨w0, hw0⟩ : ∃ w0, w0 = w.alloc (.cells cs 25) := ⟨_, rfl⟩
  rw [← hw0]
  have B0 := hidd (show Below w.heap.size w w0 by rw [hw0]; exact (Below.refl _ _).alloc (Nat.le_refl _) _)
  have K0 := hidd (show w0.heap[w.heap.size]? = some (.cells cs 25 (0, 0)) by rw [hw0]; exact hp_new rfl)
  have Z0 := hidd (show w.heap.size < w0.heap.size by rw [hw0]; simp)
  clear hw0
  refine (szInt64SS_any _ xs2 _ (Hr2.out.below B0.out)).mono ?_
  rintro e w1 ⟨rfl, hb⟩
  rw [if_pos Hn2.out]
  have Z1 := hidd hb.size
  have B1 := hidd (bel_then B0.out hb)
  have K1 := hidd (hp_bel K0.out hb)
  clear hb B0 K0
  have hsz2 := Hn2.out
  have hi2 : ¬ (1048576 - (xs2.length : Int) - szs xs2 < 0) := by omega
  go_wp2_with (refine ldL rfl (.tmp 3) rfl w.heap.size rfl Hm.out K1.out ?_)
  refine (toMachine_any cs m Hm.out _).mono ?_
  rintro e w2 ⟨rfl, hb⟩
  have Z2 := hidd hb.size
  have B2 := hidd (bel_then B1.out hb)
  have K2 := hidd (hp_bel K1.out hb)
  clear hb B1 K1
  go_wp2_with (refine ldL rfl (.tmp 3) rfl w.heap.size rfl Hm.out K2.out ?_)
  refine (toInt64S_any _ xs1 _ (Hr1.out.below B2.out) hn1).mono ?_
  rintro e w3 ⟨⟨l1, rfl, ho⟩, hb⟩
  have Cl1 := hidd ho
  have Ol1_3 := hidd ho
  clear ho
  have Z3 := hidd hb.size
  have B3 := hidd (bel_then B2.out hb)
  have K3 := hidd (hp_bel K2.out hb)
  clear hb B2 K2
  go_wp2_with (refine ldL rfl (.tmp 3) rfl w.heap.size rfl Hm.out K3.out ?_)
  refine (toInt64SS_any _ xs2 _ (Hr2.out.below B3.out) Hn2.out).mono ?_
  rintro e w4 ⟨⟨l2, rowsl2, rfl, ho⟩, hb⟩
  have CLl2 := hidd ho
  have LLl2_4 := hidd ho
  clear ho
  have Z4 := hidd hb.size
  have B4 := hidd (bel_then B3.out hb)
  have K4 := hidd (hp_bel K3.out hb)
  have Ol1_4 := hidd (Ol1_3.out.below hb)
  clear hb B3 K3 Ol1_3
  go_wp2_with (refine ldL rfl (.tmp 3) rfl w.heap.size rfl Hm.out K4.out ?_)
  refine (specIsInList_any m cs Hm.out _ _ xs1 xs2 _ Ol1_4.out.rdI LLl2_4.out.rd).mono ?_
  rintro e w5 ⟨rfl, hb⟩
  rw [HR.out]
  have Z5 := hidd hb.size
  have B5 := hidd (bel_then B4.out hb)
  have K5 := hidd (hp_bel K4.out hb)
  have Ol1_5 := hidd (Ol1_4.out.below hb)
  have LLl2_5 := hidd (LLl2_4.out.below hb)
  clear LLl2_4
  clear hb B4 K4 Ol1_4
  go_wp2_with (refine ldL rfl (.tmp 3) rfl w.heap.size rfl Hm.out K5.out ?_)
  refine (toInt64S_any _ xs1 _ (Hr1.out.below B5.out) hn1).mono ?_
  rintro e w6 ⟨⟨l4, rfl, ho⟩, hb⟩
  have Cl4 := hidd ho
  have Ol4_6 := hidd ho
  clear ho
  have Z6 := hidd hb.size
  have B6 := hidd (bel_then B5.out hb)
  have K6 := hidd (hp_bel K5.out hb)
  have Ol1_6 := hidd (Ol1_5.out.below hb)
  have LLl2_6 := hidd (LLl2_5.out.below hb)
  clear LLl2_5
  clear hb B5 K5 Ol1_5
  go_wp2_with (refine ldL rfl (.tmp 3) rfl w.heap.size rfl Hm.out K6.out ?_)
  refine (toInt64SS_any _ xs2 _ (Hr2.out.below B6.out) Hn2.out).mono ?_
  rintro e w7 ⟨⟨l5, rowsl5, rfl, ho⟩, hb⟩
  have CLl5 := hidd ho
  have LLl5_7 := hidd ho
  clear ho
  have Z7 := hidd hb.size
  have B7 := hidd (bel_then B6.out hb)
  have K7 := hidd (hp_bel K6.out hb)
  have Ol1_7 := hidd (Ol1_6.out.below hb)
  have Ol4_7 := hidd (Ol4_6.out.below hb)
  have LLl2_7 := hidd (LLl2_6.out.below hb)
  clear LLl2_6
  clear hb B6 K6 Ol1_6 Ol4_6
  go_wp2_with (refine ldL rfl (.tmp 3) rfl w.heap.size rfl Hm.out K7.out ?_)
  refine (toMachine_any cs m Hm.out _).mono ?_
  rintro e w8 ⟨rfl, hb⟩
  have Z8 := hidd hb.size
  have B8 := hidd (bel_then B7.out hb)
  have K8 := hidd (hp_bel K7.out hb)
  have Ol1_8 := hidd (Ol1_7.out.below hb)
  have Ol4_8 := hidd (Ol4_7.out.below hb)
  have LLl2_8 := hidd (LLl2_7.out.below hb)
  have LLl5_8 := hidd (LLl5_7.out.below hb)
  clear LLl2_7 LLl5_7
  clear hb B7 K7 Ol1_7 Ol4_7
  go_wp2_with (refine ldL rfl (.tmp 3) rfl w.heap.size rfl Hm.out K8.out ?_)
  refine (implIsInList_any m cs Hm.out _ _ xs1 xs2 _ Ol4_8.out.rdI LLl5_8.out.rd).mono ?_
  rintro e w9 ⟨rfl, hb⟩
  rw [HR.out]
  have Z9 := hidd hb.size
  have B9 := hidd (bel_then B8.out hb)
  have K9 := hidd (hp_bel K8.out hb)
  have Ol1_9 := hidd (Ol1_8.out.below hb)
  have Ol4_9 := hidd (Ol4_8.out.below hb)
  have LLl2_9 := hidd (LLl2_8.out.below hb)
  have LLl5_9 := hidd (LLl5_8.out.below hb)
  clear LLl2_8 LLl5_8
  clear hb B8 K8 Ol1_8 Ol4_8
  go_wp2_with (refine ldL rfl (.tmp 3) rfl w.heap.size rfl Hm.out K9.out ?_)
  refine (toInt64S_any _ xs1 _ (Hr1.out.below B9.out) hn1).mono ?_
  rintro e w10 ⟨⟨l7, rfl, ho⟩, hb⟩
  have Cl7 := hidd ho
  have Ol7_10 := hidd ho
  clear ho
  have Z10 := hidd hb.size
  have B10 := hidd (bel_then B9.out hb)
  have K10 := hidd (hp_bel K9.out hb)
  have Ol1_10 := hidd (Ol1_9.out.below hb)
  have Ol4_10 := hidd (Ol4_9.out.below hb)
  have LLl2_10 := hidd (LLl2_9.out.below hb)
  have LLl5_10 := hidd (LLl5_9.out.below hb)
  clear LLl2_9 LLl5_9
  clear hb B9 K9 Ol1_9 Ol4_9
  go_wp2_with (refine ldL rfl (.tmp 3) rfl w.heap.size rfl Hm.out K10.out ?_)
  refine (eqInt64S_any _ _ _ _ Ol4_10.out.rdI Ol7_10.out.rdI).mono ?_
  rintro e w11 ⟨rfl, hb⟩
  have Z11 := hidd hb.size
  have B11 := hidd (bel_then B10.out hb)
  have K11 := hidd (hp_bel K10.out hb)
  have Ol1_11 := hidd (Ol1_10.out.below hb)
  have Ol4_11 := hidd (Ol4_10.out.below hb)
  have Ol7_11 := hidd (Ol7_10.out.below hb)
  have LLl2_11 := hidd (LLl2_10.out.below hb)
  have LLl5_11 := hidd (LLl5_10.out.below hb)
  clear LLl2_10 LLl5_10
  clear hb B10 K10 Ol1_10 Ol4_10 Ol7_10
  go_wp2_with (refine ldL rfl (.tmp 3) rfl w.heap.size rfl Hm.out K11.out ?_)
  refine (toInt64SS_any _ xs2 _ (Hr2.out.below B11.out) Hn2.out).mono ?_
  rintro e w12 ⟨⟨l8, rowsl8, rfl, ho⟩, hb⟩
  have CLl8 := hidd ho
  have LLl8_12 := hidd ho
  clear ho
  have Z12 := hidd hb.size
  have B12 := hidd (bel_then B11.out hb)
  have K12 := hidd (hp_bel K11.out hb)
  have Ol1_12 := hidd (Ol1_11.out.below hb)
  have Ol4_12 := hidd (Ol4_11.out.below hb)
  have Ol7_12 := hidd (Ol7_11.out.below hb)
  have LLl2_12 := hidd (LLl2_11.out.below hb)
  have LLl5_12 := hidd (LLl5_11.out.below hb)
  clear LLl2_11 LLl5_11
  clear hb B11 K11 Ol1_11 Ol4_11 Ol7_11
  go_wp2_with (refine ldL rfl (.tmp 3) rfl w.heap.size rfl Hm.out K12.out ?_)
  refine (eqInt64SS_any _ _ _ _ CLl8.out.le LLl5_12.out.rd LLl8_12.out.rd).mono ?_
  rintro e w13 ⟨rfl, hb⟩
  have Z13 := hidd hb.size
  have B13 := hidd (bel_then B12.out hb)
  have K13 := hidd (hp_bel K12.out hb)
  have Ol1_13 := hidd (Ol1_12.out.below hb)
  have Ol4_13 := hidd (Ol4_12.out.below hb)
  have Ol7_13 := hidd (Ol7_12.out.below hb)
  have LLl2_13 := hidd (LLl2_12.out.below hb)
  have LLl5_13 := hidd (LLl5_12.out.below hb)
  have LLl8_13 := hidd (LLl8_12.out.below hb)
  clear LLl2_12 LLl5_12 LLl8_12
  clear hb B12 K12 Ol1_12 Ol4_12 Ol7_12
  go_wp2_with fail
  go_ret
  exact ⟨rfl, B13.out⟩
end Go.Proofs.Ytcghcbdefajpgaa

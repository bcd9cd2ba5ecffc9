/- The walk of the law FnExactDepthOfList: it returns true and leaves memory as it was. A program wrote it out of the law's shape. -/
import Derived.Test.YtcghcbdefajpgaaDos
import Derived.Test.YtcghcbdefajpgaaDoi
import Derived.Test.YtcghcbdefajpgaaLla
import Derived.Test.YtcghcbdefajpgaaLsn
import Derived.Test.YtcghcbdefajpgaaBA
namespace Go.Proofs.Ytcghcbdefajpgaa
open Go.RowKit
set_option maxRecDepth 100000 in
set_option maxHeartbeats 1000000 in
theorem fnExactDepthOfList_walk (w : World) (cs : Array Value) (m : Mc) (hm : m.Is cs) (v1 : Value) (xs1 : List (List Int)) (hr1 : RdLL w v1 xs1) :
    Calls Try.prog 4 #[.agg cs, v1] w fun e w' => e = .returned (.bool true) ∧ Below w.heap.size w w' := by
  have hl1 := hr1.le
  have Hr1 := hidd hr1
  clear hr1
  have Hm := hidd hm
  clear hm
  obtain ⟨A1, c1, rows1, ev1, hq1, hq1', hq1''⟩ := Hr1.out
  clear hq1 hq1' hq1''
  subst ev1
  by_cases hn1 : xs1.length + szs xs1 ≤ 1048576
  rotate_left
  · have HN := hidd hn1
    clear hn1
    go_enter Try.func4, Try.ntmps4
    go_wp2_with fail
    refine (szInt64SS_any _ xs1 _ (Hr1.out.below (bel_alloc' _ _))).mono ?_
    rintro e w1 ⟨rfl, hb⟩
    rw [if_neg HN.out]
    have B1 := hidd (bel_then (bel_alloc' _ _) hb)
    clear hb
    go_wp2_with fail
    go_ret
    exact ⟨rfl, B1.out⟩
  obtain ⟨r, hrr⟩ : ∃ r, dolR m xs1 = r := ⟨_, rfl⟩
  have HR := hidd hrr
  clear hrr
  have Hn1 := hidd hn1
  clear hn1
  go_enter Try.func4, Try.ntmps4
  go_wp2_with (refine ldL rfl (.tmp 2) rfl w.heap.size rfl Hm.out (hp_new rfl) ?_)
  obtain ⟨w0, hw0⟩ : ∃ w0, w0 = w.alloc (.cells cs 25) := ⟨_, rfl⟩
  rw [← hw0]
  have B0 := hidd (show Below w.heap.size w w0 by rw [hw0]; exact (Below.refl _ _).alloc (Nat.le_refl _) _)
  have K0 := hidd (show w0.heap[w.heap.size]? = some (.cells cs 25 (0, 0)) by rw [hw0]; exact hp_new rfl)
  have Z0 := hidd (show w.heap.size < w0.heap.size by rw [hw0]; simp)
  clear hw0
  refine (szInt64SS_any _ xs1 _ (Hr1.out.below B0.out)).mono ?_
  rintro e w1 ⟨rfl, hb⟩
  rw [if_pos Hn1.out]
  have Z1 := hidd hb.size
  have B1 := hidd (bel_then B0.out hb)
  have K1 := hidd (hp_bel K0.out hb)
  clear hb B0 K0
  have hsz1 := Hn1.out
  have hi1 : ¬ (1048576 - (xs1.length : Int) - szs xs1 < 0) := by omega
  go_wp2_with (refine ldL rfl (.tmp 2) rfl w.heap.size rfl Hm.out K1.out ?_)
  refine (toMachine_any cs m Hm.out _).mono ?_
  rintro e w2 ⟨rfl, hb⟩
  have Z2 := hidd hb.size
  have B2 := hidd (bel_then B1.out hb)
  have K2 := hidd (hp_bel K1.out hb)
  clear hb B1 K1
  go_wp2_with (refine ldL rfl (.tmp 2) rfl w.heap.size rfl Hm.out K2.out ?_)
  refine (toInt64SS_any _ xs1 _ (Hr1.out.below B2.out) Hn1.out).mono ?_
  rintro e w3 ⟨⟨l1, rowsl1, rfl, ho⟩, hb⟩
  have CLl1 := hidd ho
  have LLl1_3 := hidd ho
  clear ho
  have Z3 := hidd hb.size
  have B3 := hidd (bel_then B2.out hb)
  have K3 := hidd (hp_bel K2.out hb)
  clear hb B2 K2
  go_wp2_with (refine ldL rfl (.tmp 2) rfl w.heap.size rfl Hm.out K3.out ?_)
  refine (specDepthOfList_any m cs Hm.out _ xs1 _ LLl1_3.out.ln).mono ?_
  rintro e w4 ⟨rfl, hb⟩
  rw [HR.out]
  have Z4 := hidd hb.size
  have B4 := hidd (bel_then B3.out hb)
  have K4 := hidd (hp_bel K3.out hb)
  have LLl1_4 := hidd (LLl1_3.out.below hb)
  clear LLl1_3
  clear hb B3 K3
  go_wp2_with (refine ldL rfl (.tmp 2) rfl w.heap.size rfl Hm.out K4.out ?_)
  refine (toInt64SS_any _ xs1 _ (Hr1.out.below B4.out) Hn1.out).mono ?_
  rintro e w5 ⟨⟨l3, rowsl3, rfl, ho⟩, hb⟩
  have CLl3 := hidd ho
  have LLl3_5 := hidd ho
  clear ho
  have Z5 := hidd hb.size
  have B5 := hidd (bel_then B4.out hb)
  have K5 := hidd (hp_bel K4.out hb)
  have LLl1_5 := hidd (LLl1_4.out.below hb)
  clear LLl1_4
  clear hb B4 K4
  go_wp2_with (refine ldL rfl (.tmp 2) rfl w.heap.size rfl Hm.out K5.out ?_)
  refine (toMachine_any cs m Hm.out _).mono ?_
  rintro e w6 ⟨rfl, hb⟩
  have Z6 := hidd hb.size
  have B6 := hidd (bel_then B5.out hb)
  have K6 := hidd (hp_bel K5.out hb)
  have LLl1_6 := hidd (LLl1_5.out.below hb)
  have LLl3_6 := hidd (LLl3_5.out.below hb)
  clear LLl1_5 LLl3_5
  clear hb B5 K5
  go_wp2_with (refine ldL rfl (.tmp 2) rfl w.heap.size rfl Hm.out K6.out ?_)
  refine (implDepthOfList_any m cs Hm.out _ xs1 _ LLl3_6.out.ln).mono ?_
  rintro e w7 ⟨rfl, hb⟩
  rw [HR.out]
  have Z7 := hidd hb.size
  have B7 := hidd (bel_then B6.out hb)
  have K7 := hidd (hp_bel K6.out hb)
  have LLl1_7 := hidd (LLl1_6.out.below hb)
  have LLl3_7 := hidd (LLl3_6.out.below hb)
  clear LLl1_6 LLl3_6
  clear hb B6 K6
  go_wp2_with (refine ldL rfl (.tmp 2) rfl w.heap.size rfl Hm.out K7.out ?_)
  refine (toInt64SS_any _ xs1 _ (Hr1.out.below B7.out) Hn1.out).mono ?_
  rintro e w8 ⟨⟨l5, rowsl5, rfl, ho⟩, hb⟩
  have CLl5 := hidd ho
  have LLl5_8 := hidd ho
  clear ho
  have Z8 := hidd hb.size
  have B8 := hidd (bel_then B7.out hb)
  have K8 := hidd (hp_bel K7.out hb)
  have LLl1_8 := hidd (LLl1_7.out.below hb)
  have LLl3_8 := hidd (LLl3_7.out.below hb)
  clear LLl1_7 LLl3_7
  clear hb B7 K7
  go_wp2_with (refine ldL rfl (.tmp 2) rfl w.heap.size rfl Hm.out K8.out ?_)
  refine (eqInt64SS_any _ _ _ _ CLl5.out.le LLl3_8.out.rd LLl5_8.out.rd).mono ?_
  rintro e w9 ⟨rfl, hb⟩
  have Z9 := hidd hb.size
  have B9 := hidd (bel_then B8.out hb)
  have K9 := hidd (hp_bel K8.out hb)
  have LLl1_9 := hidd (LLl1_8.out.below hb)
  have LLl3_9 := hidd (LLl3_8.out.below hb)
  have LLl5_9 := hidd (LLl5_8.out.below hb)
  clear LLl1_8 LLl3_8 LLl5_8
  clear hb B8 K8
  go_wp2_with fail
  go_ret
  exact ⟨rfl, B9.out⟩
end Go.Proofs.Ytcghcbdefajpgaa

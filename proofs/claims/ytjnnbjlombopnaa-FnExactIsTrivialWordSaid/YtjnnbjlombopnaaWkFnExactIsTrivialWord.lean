/- The walk of the law FnExactIsTrivialWord: it returns true and leaves memory as it was. A program wrote it out of the law's shape. -/
import Derived.Test.YtjnnbjlombopnaaBI
import Derived.Test.YtjnnbjlombopnaaBA
namespace Go.Proofs.Ytjnnbjlombopnaa
open Go.RowKit
set_option maxRecDepth 100000 in
set_option maxHeartbeats 1000000 in
theorem fnExactIsTrivialWord_walk (w : World) (cs : Array Value) (m : Mc) (hm : m.Is cs) (v1 : Value) (xs1 : List Int) (hr1 : RdI w v1 xs1) :
    Calls Try.prog 23 #[.agg cs, v1] w fun e w' => e = .returned (.bool true) ∧ Below w.heap.size w w' := by
  have hl1 := hr1.le
  have Hr1 := hidd hr1
  clear hr1
  have Hm := hidd hm
  clear hm
  by_cases hn1 : xs1.length ≤ 1048576
  rotate_left
  obtain ⟨A1, c1, rfl, hq1⟩ := Hr1.out
  clear hq1
  have hn1' : 1048576 < xs1.length := by omega
  · clear hn1
    go_enter Try.func23, Try.ntmps23
    go_wp2
    go_ret
    exact ⟨rfl, (Below.refl _ _).alloc (Nat.le_refl _) _⟩
  obtain ⟨A1, c1, ev1, hq1⟩ := Hr1.out
  clear hq1
  subst ev1
  obtain ⟨r, hrr⟩ : ∃ r, trwR m xs1 = r := ⟨_, rfl⟩
  have HR := hidd hrr
  clear hrr
  go_enter Try.func23, Try.ntmps23
  go_wp2_with (refine ldL rfl (.tmp 2) rfl w.heap.size rfl Hm.out (hp_new rfl) ?_)
  obtain ⟨w0, hw0⟩ : ∃ w0, w0 = w.alloc (.cells cs 25) := ⟨_, rfl⟩
  rw [← hw0]
  have B0 := hidd (show Below w.heap.size w w0 by rw [hw0]; exact (Below.refl _ _).alloc (Nat.le_refl _) _)
  have K0 := hidd (show w0.heap[w.heap.size]? = some (.cells cs 25 (0, 0)) by rw [hw0]; exact hp_new rfl)
  have Z0 := hidd (show w.heap.size < w0.heap.size by rw [hw0]; simp)
  clear hw0
  refine (toMachine_any cs m Hm.out _).mono ?_
  rintro e w1 ⟨rfl, hb⟩
  have Z1 := hidd hb.size
  have B1 := hidd (bel_then B0.out hb)
  have K1 := hidd (hp_bel K0.out hb)
  clear hb B0 K0
  go_wp2_with (refine ldL rfl (.tmp 2) rfl w.heap.size rfl Hm.out K1.out ?_)
  refine (toInt64S_any _ xs1 _ (Hr1.out.below B1.out) hn1).mono ?_
  rintro e w2 ⟨⟨l1, rfl, ho⟩, hb⟩
  have Cl1 := hidd ho
  have Ol1_2 := hidd ho
  clear ho
  have Z2 := hidd hb.size
  have B2 := hidd (bel_then B1.out hb)
  have K2 := hidd (hp_bel K1.out hb)
  clear hb B1 K1
  go_wp2_with (refine ldL rfl (.tmp 2) rfl w.heap.size rfl Hm.out K2.out ?_)
  refine (specIsTrivialWord_any m cs Hm.out _ xs1 _ Ol1_2.out.rdI).mono ?_
  rintro e w3 ⟨rfl, hb⟩
  rw [HR.out]
  have Z3 := hidd hb.size
  have B3 := hidd (bel_then B2.out hb)
  have K3 := hidd (hp_bel K2.out hb)
  have Ol1_3 := hidd (Ol1_2.out.below hb)
  clear hb B2 K2 Ol1_2
  go_wp2_with (refine ldL rfl (.tmp 2) rfl w.heap.size rfl Hm.out K3.out ?_)
  refine (toInt64S_any _ xs1 _ (Hr1.out.below B3.out) hn1).mono ?_
  rintro e w4 ⟨⟨l3, rfl, ho⟩, hb⟩
  have Cl3 := hidd ho
  have Ol3_4 := hidd ho
  clear ho
  have Z4 := hidd hb.size
  have B4 := hidd (bel_then B3.out hb)
  have K4 := hidd (hp_bel K3.out hb)
  have Ol1_4 := hidd (Ol1_3.out.below hb)
  clear hb B3 K3 Ol1_3
  go_wp2_with (refine ldL rfl (.tmp 2) rfl w.heap.size rfl Hm.out K4.out ?_)
  refine (toMachine_any cs m Hm.out _).mono ?_
  rintro e w5 ⟨rfl, hb⟩
  have Z5 := hidd hb.size
  have B5 := hidd (bel_then B4.out hb)
  have K5 := hidd (hp_bel K4.out hb)
  have Ol1_5 := hidd (Ol1_4.out.below hb)
  have Ol3_5 := hidd (Ol3_4.out.below hb)
  clear hb B4 K4 Ol1_4 Ol3_4
  go_wp2_with (refine ldL rfl (.tmp 2) rfl w.heap.size rfl Hm.out K5.out ?_)
  refine (implIsTrivialWord_any m cs Hm.out _ xs1 _ Ol3_5.out.rdI).mono ?_
  rintro e w6 ⟨rfl, hb⟩
  rw [HR.out]
  have Z6 := hidd hb.size
  have B6 := hidd (bel_then B5.out hb)
  have K6 := hidd (hp_bel K5.out hb)
  have Ol1_6 := hidd (Ol1_5.out.below hb)
  have Ol3_6 := hidd (Ol3_5.out.below hb)
  clear hb B5 K5 Ol1_5 Ol3_5
  go_wp2_with (refine ldL rfl (.tmp 2) rfl w.heap.size rfl Hm.out K6.out ?_)
  refine (toInt64S_any _ xs1 _ (Hr1.out.below B6.out) hn1).mono ?_
  rintro e w7 ⟨⟨l5, rfl, ho⟩, hb⟩
  have Cl5 := hidd ho
  have Ol5_7 := hidd ho
  clear ho
  have Z7 := hidd hb.size
  have B7 := hidd (bel_then B6.out hb)
  have K7 := hidd (hp_bel K6.out hb)
  have Ol1_7 := hidd (Ol1_6.out.below hb)
  have Ol3_7 := hidd (Ol3_6.out.below hb)
  clear hb B6 K6 Ol1_6 Ol3_6
  go_wp2_with (refine ldL rfl (.tmp 2) rfl w.heap.size rfl Hm.out K7.out ?_)
  refine (eqInt64S_any _ _ _ _ Ol3_7.out.rdI Ol5_7.out.rdI).mono ?_
  rintro e w8 ⟨rfl, hb⟩
  have Z8 := hidd hb.size
  have B8 := hidd (bel_then B7.out hb)
  have K8 := hidd (hp_bel K7.out hb)
  have Ol1_8 := hidd (Ol1_7.out.below hb)
  have Ol3_8 := hidd (Ol3_7.out.below hb)
  have Ol5_8 := hidd (Ol5_7.out.below hb)
  clear hb B7 K7 Ol1_7 Ol3_7 Ol5_7
  go_wp2_with fail
  go_ret
  exact ⟨rfl, B8.out⟩
end Go.Proofs.Ytjnnbjlombopnaa

/- The walk of the law FnExactMachineOfWord: it returns true and leaves memory as it was. A program wrote it out of the law's shape. -/
import Derived.Test.YtjnnbjlombopnaaMow
import Derived.Test.YtjnnbjlombopnaaBA
namespace Go.Proofs.Ytjnnbjlombopnaa
open Go.RowKit
set_option maxRecDepth 100000 in
set_option maxHeartbeats 1000000 in
theorem fnExactMachineOfWord_walk (w : World) (cs : Array Value) (m : Mc) (hm : m.Is cs) (v1 : Value) (xs1 : List Int) (hr1 : RdI w v1 xs1) :
    Calls Try.prog 28 #[.agg cs, v1] w fun e w' => e = .returned (.bool true) ∧ Below w.heap.size w w' := by
  have hl1 := hr1.le
  have Hr1 := hidd hr1
  clear hr1
  have Hm := hidd hm
  clear hm
  by_cases hn1 : xs1.length ≤ 1048576
  rotate_left
  obtain ⟨A1, c1, rfl, hq1⟩ := Hr1.out
  clear hq1
  have hn1' : 1048576 < xs1.length := by omega
  · clear hn1
    go_enter Try.func28, Try.ntmps28
    go_wp2
    go_ret
    exact ⟨rfl, (Below.refl _ _).alloc (Nat.le_refl _) _⟩
  obtain ⟨A1, c1, ev1, hq1⟩ := Hr1.out
  clear hq1
  subst ev1
  obtain ⟨r, hrr⟩ : ∃ r, mowR m xs1 = r := ⟨_, rfl⟩
  have HR := hidd hrr
  clear hrr
  have HI := hidd (show r.1.Is r.1.cells by rw [← HR.out]; exact mowR_is m xs1)
  have hz := zeroM_run
  go_enter Try.func28, Try.ntmps28
  go_wp2_with (refine ldL rfl (.tmp 2) rfl w.heap.size rfl Hm.out (hp_new rfl) ?_)
  obtain ⟨w0, hw0⟩ : ∃ w0, w0 = w.alloc (.cells cs 25) := ⟨_, rfl⟩
  rw [← hw0]
  have B0 := hidd (show Below w.heap.size w w0 by rw [hw0]; exact (Below.refl _ _).alloc (Nat.le_refl _) _)
  have K0 := hidd (show w0.heap[w.heap.size]? = some (.cells cs 25 (0, 0)) by rw [hw0]; exact hp_new rfl)
  have Z0 := hidd (show w.heap.size < w0.heap.size by rw [hw0]; simp)
  clear hw0
  refine (toMachine_any cs m Hm.out _).mono ?_
  rintro e w1 ⟨rfl, hb⟩
  have Z1 := hidd hb.size
  have B1 := hidd (bel_then B0.out hb)
  have K1 := hidd (hp_bel K0.out hb)
  clear hb B0 K0
  go_wp2_with (refine ldL rfl (.tmp 2) rfl w.heap.size rfl Hm.out K1.out ?_)
  refine (toInt64S_any _ xs1 _ (Hr1.out.below B1.out) hn1).mono ?_
  rintro e w2 ⟨⟨l1, rfl, ho⟩, hb⟩
  have Cl1 := hidd ho
  have Ol1_2 := hidd ho
  clear ho
  have Z2 := hidd hb.size
  have B2 := hidd (bel_then B1.out hb)
  have K2 := hidd (hp_bel K1.out hb)
  clear hb B1 K1
  go_wp2_with (refine ldL rfl (.tmp 2) rfl w.heap.size rfl Hm.out K2.out ?_)
  refine (specMachineOfWord_any m cs Hm.out _ xs1 _ Ol1_2.out.rdI).mono ?_
  rintro e w3 ⟨rfl, hb⟩
  rw [HR.out]
  have Z3 := hidd hb.size
  have B3 := hidd (bel_then B2.out hb)
  have K3 := hidd (hp_bel K2.out hb)
  have Ol1_3 := hidd (Ol1_2.out.below hb)
  clear hb B2 K2 Ol1_2
  go_wp2_with (first | ((with_reducible show wpList _ _ _ _ _ (World.alloc _ _)); refine stNew (w := w3) (zs := zeroM) rfl (.tmp 5) _ (by rfl) r.1 w3.heap.size rfl zeroM_size (by rfl) (by rfl) ?_) | (refine ldL rfl (.tmp 2) rfl w.heap.size rfl Hm.out (hp_old K3.out) ?_))
  obtain ⟨w4, hwn⟩ : ∃ x, x = w3.alloc (.cells r.1.cells 27) := ⟨_, rfl⟩
  rw [← hwn]
  have hb : Below w3.heap.size w3 w4 := by rw [hwn]; exact bel_alloc' _ _
  have hzs : w3.heap.size < w4.heap.size := by rw [hwn]; simp
  have Mr2_4 := hidd (show w4.heap[w3.heap.size]? = some (.cells r.1.cells 27 (0, 0)) by rw [hwn]; exact hp_new rfl)
  clear hwn
  have Z4 := hidd hzs
  have B4 := hidd (bel_then B3.out hb)
  have K4 := hidd (hp_bel K3.out hb)
  have Ol1_4 := hidd (Ol1_3.out.below hb)
  clear hb B3 K3 Ol1_3
  clear hzs
  refine (toInt64S_any _ xs1 _ (Hr1.out.below B4.out) hn1).mono ?_
  rintro e w5 ⟨⟨l3, rfl, ho⟩, hb⟩
  have Cl3 := hidd ho
  have Ol3_5 := hidd ho
  clear ho
  have Z5 := hidd hb.size
  have B5 := hidd (bel_then B4.out hb)
  have K5 := hidd (hp_bel K4.out hb)
  have Ol1_5 := hidd (Ol1_4.out.below hb)
  have Mr2_5 := hidd (hp_bel Mr2_4.out hb)
  clear hb B4 K4 Ol1_4 Mr2_4
  go_wp2_with (refine ldL rfl (.tmp 2) rfl w.heap.size rfl Hm.out K5.out ?_)
  refine (toMachine_any cs m Hm.out _).mono ?_
  rintro e w6 ⟨rfl, hb⟩
  have Z6 := hidd hb.size
  have B6 := hidd (bel_then B5.out hb)
  have K6 := hidd (hp_bel K5.out hb)
  have Ol1_6 := hidd (Ol1_5.out.below hb)
  have Ol3_6 := hidd (Ol3_5.out.below hb)
  have Mr2_6 := hidd (hp_bel Mr2_5.out hb)
  clear hb B5 K5 Ol1_5 Ol3_5 Mr2_5
  go_wp2_with (refine ldL rfl (.tmp 2) rfl w.heap.size rfl Hm.out K6.out ?_)
  refine (implMachineOfWord_any m cs Hm.out _ xs1 _ Ol3_6.out.rdI).mono ?_
  rintro e w7 ⟨rfl, hb⟩
  rw [HR.out]
  have Z7 := hidd hb.size
  have B7 := hidd (bel_then B6.out hb)
  have K7 := hidd (hp_bel K6.out hb)
  have Ol1_7 := hidd (Ol1_6.out.below hb)
  have Ol3_7 := hidd (Ol3_6.out.below hb)
  have Mr2_7 := hidd (hp_bel Mr2_6.out hb)
  clear hb B6 K6 Ol1_6 Ol3_6 Mr2_6
  go_wp2_with (first | ((with_reducible show wpList _ _ _ _ _ (World.alloc _ _)); refine stNew (w := w7) (zs := zeroM) rfl (.tmp 8) _ (by rfl) r.1 w7.heap.size rfl zeroM_size (by rfl) (by rfl) ?_) | (refine ldC rfl (.tmp 8) rfl _ r.1 (hp_new rfl) (by rfl) ?_) | (refine ldC rfl (.tmp 5) rfl _ r.1 (hp_old Mr2_7.out) (by rfl) ?_) | (refine ldL rfl (.tmp 2) rfl w.heap.size rfl Hm.out (hp_old K7.out) ?_))
  obtain ⟨w8, hwn⟩ : ∃ x, x = w7.alloc (.cells r.1.cells 27) := ⟨_, rfl⟩
  rw [← hwn]
  have hb : Below w7.heap.size w7 w8 := by rw [hwn]; exact bel_alloc' _ _
  have hzs : w7.heap.size < w8.heap.size := by rw [hwn]; simp
  have Mr4_8 := hidd (show w8.heap[w7.heap.size]? = some (.cells r.1.cells 27 (0, 0)) by rw [hwn]; exact hp_new rfl)
  clear hwn
  have Z8 := hidd hzs
  have B8 := hidd (bel_then B7.out hb)
  have K8 := hidd (hp_bel K7.out hb)
  have Ol1_8 := hidd (Ol1_7.out.below hb)
  have Ol3_8 := hidd (Ol3_7.out.below hb)
  have Mr2_8 := hidd (hp_bel Mr2_7.out hb)
  clear hb B7 K7 Ol1_7 Ol3_7 Mr2_7
  clear hzs
  refine (eqMachine_any r.1 _ HI.out _).mono ?_
  rintro e w9 ⟨rfl, hb⟩
  have Z9 := hidd hb.size
  have B9 := hidd (bel_then B8.out hb)
  have K9 := hidd (hp_bel K8.out hb)
  have Ol1_9 := hidd (Ol1_8.out.below hb)
  have Ol3_9 := hidd (Ol3_8.out.below hb)
  have Mr2_9 := hidd (hp_bel Mr2_8.out hb)
  have Mr4_9 := hidd (hp_bel Mr4_8.out hb)
  clear hb B8 K8 Ol1_8 Ol3_8 Mr2_8 Mr4_8
  go_wp2_with (refine ldL rfl (.tmp 2) rfl w.heap.size rfl Hm.out K9.out ?_)
  refine (toInt64S_any _ xs1 _ (Hr1.out.below B9.out) hn1).mono ?_
  rintro e w10 ⟨⟨l5, rfl, ho⟩, hb⟩
  have Cl5 := hidd ho
  have Ol5_10 := hidd ho
  clear ho
  have Z10 := hidd hb.size
  have B10 := hidd (bel_then B9.out hb)
  have K10 := hidd (hp_bel K9.out hb)
  have Ol1_10 := hidd (Ol1_9.out.below hb)
  have Ol3_10 := hidd (Ol3_9.out.below hb)
  have Mr2_10 := hidd (hp_bel Mr2_9.out hb)
  have Mr4_10 := hidd (hp_bel Mr4_9.out hb)
  clear hb B9 K9 Ol1_9 Ol3_9 Mr2_9 Mr4_9
  go_wp2_with (refine ldL rfl (.tmp 2) rfl w.heap.size rfl Hm.out K10.out ?_)
  refine (eqInt64S_any _ _ _ _ Ol3_10.out.rdI Ol5_10.out.rdI).mono ?_
  rintro e w11 ⟨rfl, hb⟩
  have Z11 := hidd hb.size
  have B11 := hidd (bel_then B10.out hb)
  have K11 := hidd (hp_bel K10.out hb)
  have Ol1_11 := hidd (Ol1_10.out.below hb)
  have Ol3_11 := hidd (Ol3_10.out.below hb)
  have Ol5_11 := hidd (Ol5_10.out.below hb)
  have Mr2_11 := hidd (hp_bel Mr2_10.out hb)
  have Mr4_11 := hidd (hp_bel Mr4_10.out hb)
  clear hb B10 K10 Ol1_10 Ol3_10 Ol5_10 Mr2_10 Mr4_10
  go_wp2_with fail
  go_ret
  exact ⟨rfl, B11.out⟩
end Go.Proofs.Ytjnnbjlombopnaa

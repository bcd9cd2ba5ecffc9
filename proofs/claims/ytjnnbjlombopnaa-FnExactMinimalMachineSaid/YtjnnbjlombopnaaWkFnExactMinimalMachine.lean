/- The walk of the law FnExactMinimalMachine: it returns true and leaves memory as it was. A program wrote it out of the law's shape. -/
import Derived.Test.YtjnnbjlombopnaaSmm
import Derived.Test.YtjnnbjlombopnaaEqM
import Derived.Test.YtjnnbjlombopnaaToM
import Derived.Test.YtjnnbjlombopnaaLaw
import Derived.Test.YtjnnbjlombopnaaLw2
namespace Go.Proofs.Ytjnnbjlombopnaa
open Go.RowKit
set_option maxRecDepth 100000 in
set_option maxHeartbeats 1000000 in
theorem fnExactMinimalMachine_walk (w : World) (cs : Array Value) (m : Mc) (hm : m.Is cs) :
    Calls Try.prog 18 #[.agg cs] w fun e w' => e = .returned (.bool true) ∧ Below w.heap.size w w' := by
  have Hm := hidd hm
  clear hm
  obtain ⟨r, hrr⟩ : ∃ r, mnR m = r := ⟨_, rfl⟩
  have HR := hidd hrr
  clear hrr
  have HI := hidd (show r.1.Is r.1.cells by rw [← HR.out]; exact mnR_is m)
  have hz := zeroM_run
  have HL := hidd (show r.2.1.length ≤ 1048576 by rw [← HR.out]; exact mnR_len m)
  go_enter Try.func18, Try.ntmps18
  go_wp2_with (refine ldL rfl (.tmp 1) rfl w.heap.size rfl Hm.out (hp_new rfl) ?_)
  obtain ⟨w0, hw0⟩ : ∃ w0, w0 = w.alloc (.cells cs 25) := ⟨_, rfl⟩
  rw [← hw0]
  have B0 := hidd (show Below w.heap.size w w0 by rw [hw0]; exact (Below.refl _ _).alloc (Nat.le_refl _) _)
  have K0 := hidd (show w0.heap[w.heap.size]? = some (.cells cs 25 (0, 0)) by rw [hw0]; exact hp_new rfl)
  have Z0 := hidd (show w.heap.size < w0.heap.size by rw [hw0]; simp)
  clear hw0
  refine (toMachine_any cs m Hm.out _).mono ?_
  rintro e w1 ⟨rfl, hb⟩
  have Z1 := hidd hb.size
  have B1 := hidd (bel_then B0.out hb)
  have K1 := hidd (hp_bel K0.out hb)
  clear hb B0 K0
  go_wp2_with (refine ldL rfl (.tmp 1) rfl w.heap.size rfl Hm.out K1.out ?_)
  refine (specMinimalMachine_any m cs Hm.out _).mono ?_
  rintro e w2 ⟨⟨r1, rfl, ho⟩, hb⟩
  rw [HR.out] at ho ⊢
  have Cr1 := hidd ho
  have Or1_2 := hidd ho
  clear ho
  have Z2 := hidd hb.size
  have B2 := hidd (bel_then B1.out hb)
  have K2 := hidd (hp_bel K1.out hb)
  clear hb B1 K1
  go_wp2_with (first | ((with_reducible show wpList _ _ _ _ _ (World.alloc _ _)); refine stNew (w := w2) (zs := zeroM) rfl (.tmp 3) _ (by rfl) r.1 w2.heap.size rfl zeroM_size (by rfl) (by rfl) ?_) | (refine ldL rfl (.tmp 1) rfl w.heap.size rfl Hm.out (hp_old K2.out) ?_))
  obtain ⟨w3, hwn⟩ : ∃ x, x = w2.alloc (.cells r.1.cells 27) := ⟨_, rfl⟩
  rw [← hwn]
  have hb : Below w2.heap.size w2 w3 := by rw [hwn]; exact bel_alloc' _ _
  have hzs : w2.heap.size < w3.heap.size := by rw [hwn]; simp
  have Mr1_3 := hidd (show w3.heap[w2.heap.size]? = some (.cells r.1.cells 27 (0, 0)) by rw [hwn]; exact hp_new rfl)
  clear hwn
  have Z3 := hidd hzs
  have B3 := hidd (bel_then B2.out hb)
  have K3 := hidd (hp_bel K2.out hb)
  have Or1_3 := hidd (Or1_2.out.below hb)
  clear hb B2 K2 Or1_2
  clear hzs
  refine (toMachine_any cs m Hm.out _).mono ?_
  rintro e w4 ⟨rfl, hb⟩
  have Z4 := hidd hb.size
  have B4 := hidd (bel_then B3.out hb)
  have K4 := hidd (hp_bel K3.out hb)
  have Or1_4 := hidd (Or1_3.out.below hb)
  have Mr1_4 := hidd (hp_bel Mr1_3.out hb)
  clear hb B3 K3 Or1_3 Mr1_3
  go_wp2_with (refine ldL rfl (.tmp 1) rfl w.heap.size rfl Hm.out K4.out ?_)
  refine (implMinimalMachine_any m cs Hm.out _).mono ?_
  rintro e w5 ⟨⟨r2, rfl, ho⟩, hb⟩
  rw [HR.out] at ho ⊢
  have Cr2 := hidd ho
  have Or2_5 := hidd ho
  clear ho
  have Z5 := hidd hb.size
  have B5 := hidd (bel_then B4.out hb)
  have K5 := hidd (hp_bel K4.out hb)
  have Or1_5 := hidd (Or1_4.out.below hb)
  have Mr1_5 := hidd (hp_bel Mr1_4.out hb)
  clear hb B4 K4 Or1_4 Mr1_4
  go_wp2_with (first | ((with_reducible show wpList _ _ _ _ _ (World.alloc _ _)); refine stNew (w := w5) (zs := zeroM) rfl (.tmp 6) _ (by rfl) r.1 w5.heap.size rfl zeroM_size (by rfl) (by rfl) ?_) | (refine ldC rfl (.tmp 6) rfl _ r.1 (hp_new rfl) (by rfl) ?_) | (refine ldC rfl (.tmp 3) rfl _ r.1 (hp_old Mr1_5.out) (by rfl) ?_) | (refine ldL rfl (.tmp 1) rfl w.heap.size rfl Hm.out (hp_old K5.out) ?_))
  obtain ⟨w6, hwn⟩ : ∃ x, x = w5.alloc (.cells r.1.cells 27) := ⟨_, rfl⟩
  rw [← hwn]
  have hb : Below w5.heap.size w5 w6 := by rw [hwn]; exact bel_alloc' _ _
  have hzs : w5.heap.size < w6.heap.size := by rw [hwn]; simp
  have Mr2_6 := hidd (show w6.heap[w5.heap.size]? = some (.cells r.1.cells 27 (0, 0)) by rw [hwn]; exact hp_new rfl)
  clear hwn
  have Z6 := hidd hzs
  have B6 := hidd (bel_then B5.out hb)
  have K6 := hidd (hp_bel K5.out hb)
  have Or1_6 := hidd (Or1_5.out.below hb)
  have Or2_6 := hidd (Or2_5.out.below hb)
  have Mr1_6 := hidd (hp_bel Mr1_5.out hb)
  clear hb B5 K5 Or1_5 Or2_5 Mr1_5
  clear hzs
  refine (eqMachine_any r.1 _ HI.out _).mono ?_
  rintro e w7 ⟨rfl, hb⟩
  have Z7 := hidd hb.size
  have B7 := hidd (bel_then B6.out hb)
  have K7 := hidd (hp_bel K6.out hb)
  have Or1_7 := hidd (Or1_6.out.below hb)
  have Or2_7 := hidd (Or2_6.out.below hb)
  have Mr1_7 := hidd (hp_bel Mr1_6.out hb)
  have Mr2_7 := hidd (hp_bel Mr2_6.out hb)
  clear hb B6 K6 Or1_6 Or2_6 Mr1_6 Mr2_6
  go_wp2_with (refine ldL rfl (.tmp 1) rfl w.heap.size rfl Hm.out K7.out ?_)
  refine (eqInt64S_any _ _ _ _ Or2_7.out.rdI Or1_7.out.rdI).mono ?_
  rintro e w8 ⟨rfl, hb⟩
  have Z8 := hidd hb.size
  have B8 := hidd (bel_then B7.out hb)
  have K8 := hidd (hp_bel K7.out hb)
  have Or1_8 := hidd (Or1_7.out.below hb)
  have Or2_8 := hidd (Or2_7.out.below hb)
  have Mr1_8 := hidd (hp_bel Mr1_7.out hb)
  have Mr2_8 := hidd (hp_bel Mr2_7.out hb)
  clear hb B7 K7 Or1_7 Or2_7 Mr1_7 Mr2_7
  go_wp2_with (refine ldL rfl (.tmp 1) rfl w.heap.size rfl Hm.out K8.out ?_)
  refine (markInt64S_any _ _ _ _ _ Or2_8.out (by omega) (by have := HL.out; omega)).mono ?_
  rintro e w9 ⟨rfl, ho, hg⟩
  have Z9 := hidd hg.size
  have B9 := hidd (bel_mark B8.out Or2_8.out hg (by have z0 := Z0.out; have z1 := Z1.out; have z2 := Z2.out; have z3 := Z3.out; have z4 := Z4.out; have z5 := Z5.out; have z6 := Z6.out; have z7 := Z7.out; have z8 := Z8.out; omega))
  have K9 := hidd (hp_mark K8.out Or2_8.out hg (by have z0 := Z0.out; have z1 := Z1.out; have z2 := Z2.out; have z3 := Z3.out; have z4 := Z4.out; have z5 := Z5.out; have z6 := Z6.out; have z7 := Z7.out; have z8 := Z8.out; omega))
  have Or1_9 := hidd (Or1_8.out.grown hg (own_ne Cr1.out Cr2.out (by have z0 := Z0.out; have z1 := Z1.out; have z2 := Z2.out; have z3 := Z3.out; have z4 := Z4.out; have z5 := Z5.out; have z6 := Z6.out; have z7 := Z7.out; have z8 := Z8.out; omega)))
  have Mr1_9 := hidd (hp_mark' Mr1_8.out Or2_8.out Cr2.out hg (by have z0 := Z0.out; have z1 := Z1.out; have z2 := Z2.out; have z3 := Z3.out; have z4 := Z4.out; have z5 := Z5.out; have z6 := Z6.out; have z7 := Z7.out; have z8 := Z8.out; omega))
  have Mr2_9 := hidd (hp_mark' Mr2_8.out Or2_8.out Cr2.out hg (by have z0 := Z0.out; have z1 := Z1.out; have z2 := Z2.out; have z3 := Z3.out; have z4 := Z4.out; have z5 := Z5.out; have z6 := Z6.out; have z7 := Z7.out; have z8 := Z8.out; omega))
  have Or2_9 := hidd ho
  clear ho hg B8 K8 Or1_8 Or2_8 Mr1_8 Mr2_8
  go_wp2_with (refine ldL rfl (.tmp 1) rfl w.heap.size rfl Hm.out K9.out ?_)
  refine (heldInt64S_any _ _ r.2.1.length _ Or2_9.out.rdI (by omega) (by have := HL.out; omega)).mono ?_
  rintro e w10 ⟨rfl, rfl⟩
  go_wp2_with (refine ldL rfl (.tmp 1) rfl w.heap.size rfl Hm.out K9.out ?_)
  refine (toMachine_any cs m Hm.out _).mono ?_
  rintro e w10 ⟨rfl, hb⟩
  have Z10 := hidd hb.size
  have B10 := hidd (bel_then B9.out hb)
  have K10 := hidd (hp_bel K9.out hb)
  have Or1_10 := hidd (Or1_9.out.below hb)
  have Or2_10 := hidd (Or2_9.out.below hb)
  have Mr1_10 := hidd (hp_bel Mr1_9.out hb)
  have Mr2_10 := hidd (hp_bel Mr2_9.out hb)
  clear hb B9 K9 Or1_9 Or2_9 Mr1_9 Mr2_9
  go_wp2_with (refine ldL rfl (.tmp 1) rfl w.heap.size rfl Hm.out K10.out ?_)
  refine (implMinimalMachine_any m cs Hm.out _).mono ?_
  rintro e w11 ⟨⟨r3, rfl, ho⟩, hb⟩
  rw [HR.out] at ho ⊢
  have Cr3 := hidd ho
  have Or3_11 := hidd ho
  clear ho
  have Z11 := hidd hb.size
  have B11 := hidd (bel_then B10.out hb)
  have K11 := hidd (hp_bel K10.out hb)
  have Or1_11 := hidd (Or1_10.out.below hb)
  have Or2_11 := hidd (Or2_10.out.below hb)
  have Mr1_11 := hidd (hp_bel Mr1_10.out hb)
  have Mr2_11 := hidd (hp_bel Mr2_10.out hb)
  clear hb B10 K10 Or1_10 Or2_10 Mr1_10 Mr2_10
  go_wp2_with (first | ((with_reducible show wpList _ _ _ _ _ (World.alloc _ _)); refine stNew (w := w11) (zs := zeroM) rfl (.tmp 11) _ (by rfl) r.1 w11.heap.size rfl zeroM_size (by rfl) (by rfl) ?_) | (refine ldC rfl (.tmp 11) rfl _ r.1 (hp_new rfl) (by rfl) ?_) | (refine ldC rfl (.tmp 3) rfl _ r.1 (hp_old Mr1_11.out) (by rfl) ?_) | (refine ldL rfl (.tmp 1) rfl w.heap.size rfl Hm.out (hp_old K11.out) ?_))
  obtain ⟨w12, hwn⟩ : ∃ x, x = w11.alloc (.cells r.1.cells 27) := ⟨_, rfl⟩
  rw [← hwn]
  have hb : Below w11.heap.size w11 w12 := by rw [hwn]; exact bel_alloc' _ _
  have hzs : w11.heap.size < w12.heap.size := by rw [hwn]; simp
  have Mr3_12 := hidd (show w12.heap[w11.heap.size]? = some (.cells r.1.cells 27 (0, 0)) by rw [hwn]; exact hp_new rfl)
  clear hwn
  have Z12 := hidd hzs
  have B12 := hidd (bel_then B11.out hb)
  have K12 := hidd (hp_bel K11.out hb)
  have Or1_12 := hidd (Or1_11.out.below hb)
  have Or2_12 := hidd (Or2_11.out.below hb)
  have Or3_12 := hidd (Or3_11.out.below hb)
  have Mr1_12 := hidd (hp_bel Mr1_11.out hb)
  have Mr2_12 := hidd (hp_bel Mr2_11.out hb)
  clear hb B11 K11 Or1_11 Or2_11 Or3_11 Mr1_11 Mr2_11
  clear hzs
  refine (eqMachine_any r.1 _ HI.out _).mono ?_
  rintro e w13 ⟨rfl, hb⟩
  have Z13 := hidd hb.size
  have B13 := hidd (bel_then B12.out hb)
  have K13 := hidd (hp_bel K12.out hb)
  have Or1_13 := hidd (Or1_12.out.below hb)
  have Or2_13 := hidd (Or2_12.out.below hb)
  have Or3_13 := hidd (Or3_12.out.below hb)
  have Mr1_13 := hidd (hp_bel Mr1_12.out hb)
  have Mr2_13 := hidd (hp_bel Mr2_12.out hb)
  have Mr3_13 := hidd (hp_bel Mr3_12.out hb)
  clear hb B12 K12 Or1_12 Or2_12 Or3_12 Mr1_12 Mr2_12 Mr3_12
  go_wp2_with (refine ldL rfl (.tmp 1) rfl w.heap.size rfl Hm.out K13.out ?_)
  refine (eqInt64S_any _ _ _ _ Or3_13.out.rdI Or1_13.out.rdI).mono ?_
  rintro e w14 ⟨rfl, hb⟩
  have Z14 := hidd hb.size
  have B14 := hidd (bel_then B13.out hb)
  have K14 := hidd (hp_bel K13.out hb)
  have Or1_14 := hidd (Or1_13.out.below hb)
  have Or2_14 := hidd (Or2_13.out.below hb)
  have Or3_14 := hidd (Or3_13.out.below hb)
  have Mr1_14 := hidd (hp_bel Mr1_13.out hb)
  have Mr2_14 := hidd (hp_bel Mr2_13.out hb)
  have Mr3_14 := hidd (hp_bel Mr3_13.out hb)
  clear hb B13 K13 Or1_13 Or2_13 Or3_13 Mr1_13 Mr2_13 Mr3_13
  go_wp2_with (refine ldL rfl (.tmp 1) rfl w.heap.size rfl Hm.out K14.out ?_)
  refine (heldInt64S_any _ _ r.2.1.length _ Or2_14.out.rdI (by omega) (by have := HL.out; omega)).mono ?_
  rintro e w15 ⟨rfl, rfl⟩
  go_wp2_with fail
  go_ret
  exact ⟨rfl, B14.out⟩
end Go.Proofs.Ytjnnbjlombopnaa

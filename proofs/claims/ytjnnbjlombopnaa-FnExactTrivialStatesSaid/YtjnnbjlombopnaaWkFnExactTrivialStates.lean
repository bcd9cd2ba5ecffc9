/- The walk of the law FnExactTrivialStates: it returns true and leaves memory as it was. A program wrote it out of the law's shape. -/
import Derived.Test.YtjnnbjlombopnaaTi
import Derived.Test.YtjnnbjlombopnaaToM
import Derived.Test.YtjnnbjlombopnaaLaw
namespace Go.Proofs.Ytjnnbjlombopnaa
open Go.RowKit
set_option maxRecDepth 100000 in
set_option maxHeartbeats 1000000 in
theorem fnExactTrivialStates_walk (w : World) (cs : Array Value) (m : Mc) (hm : m.Is cs) :
    Calls Try.prog 10 #[.agg cs] w fun e w' => e = .returned (.bool true) ∧ Below w.heap.size w w' := by
  have Hm := hidd hm
  clear hm
  obtain ⟨r, hrr⟩ : ∃ r, tsR m = r := ⟨_, rfl⟩
  have HR := hidd hrr
  clear hrr
  have HL := hidd (show r.1.length ≤ 1048576 by rw [← HR.out]; exact tsR_len m)
  go_enter Try.func10, Try.ntmps10
  go_wp2_with (refine ldL rfl (.tmp 1) rfl w.heap.size rfl Hm.out (hp_new rfl) ?_)
  obtain ⟨w0, hw0⟩ : ∃ w0, w0 = w.alloc (.cells cs 25) := ⟨_, rfl⟩
  rw [← hw0]
  have B0 := hidd (show Below w.heap.size w w0 by rw [hw0]; exact (Below.refl _ _).alloc (Nat.le_refl _) _)
  have K0 := hidd (show w0.heap[w.heap.size]? = some (.cells cs 25 (0, 0)) by rw [hw0]; exact hp_new rfl)
  have Z0 := hidd (show w.heap.size < w0.heap.size by rw [hw0]; simp)
  clear hw0
  refine (toMachine_any cs m Hm.out _).mono ?_
  rintro e w1 ⟨rfl, hb⟩
  have Z1 := hidd hb.size
  have B1 := hidd (bel_then B0.out hb)
  have K1 := hidd (hp_bel K0.out hb)
  clear hb B0 K0
  go_wp2_with (refine ldL rfl (.tmp 1) rfl w.heap.size rfl Hm.out K1.out ?_)
  refine (specTrivialStates_any m cs Hm.out _).mono ?_
  rintro e w2 ⟨⟨r1, rfl, ho⟩, hb⟩
  rw [HR.out] at ho ⊢
  have Cr1 := hidd ho
  have Or1_2 := hidd ho
  clear ho
  have Z2 := hidd hb.size
  have B2 := hidd (bel_then B1.out hb)
  have K2 := hidd (hp_bel K1.out hb)
  clear hb B1 K1
  go_wp2_with (refine ldL rfl (.tmp 1) rfl w.heap.size rfl Hm.out K2.out ?_)
  refine (toMachine_any cs m Hm.out _).mono ?_
  rintro e w3 ⟨rfl, hb⟩
  have Z3 := hidd hb.size
  have B3 := hidd (bel_then B2.out hb)
  have K3 := hidd (hp_bel K2.out hb)
  have Or1_3 := hidd (Or1_2.out.below hb)
  clear hb B2 K2 Or1_2
  go_wp2_with (refine ldL rfl (.tmp 1) rfl w.heap.size rfl Hm.out K3.out ?_)
  refine (implTrivialStates_any m cs Hm.out _).mono ?_
  rintro e w4 ⟨⟨r2, rfl, ho⟩, hb⟩
  rw [HR.out] at ho ⊢
  have Cr2 := hidd ho
  have Or2_4 := hidd ho
  clear ho
  have Z4 := hidd hb.size
  have B4 := hidd (bel_then B3.out hb)
  have K4 := hidd (hp_bel K3.out hb)
  have Or1_4 := hidd (Or1_3.out.below hb)
  clear hb B3 K3 Or1_3
  go_wp2_with (refine ldL rfl (.tmp 1) rfl w.heap.size rfl Hm.out K4.out ?_)
  refine (eqInt64S_any _ _ _ _ Or2_4.out.rdI Or1_4.out.rdI).mono ?_
  rintro e w5 ⟨rfl, hb⟩
  have Z5 := hidd hb.size
  have B5 := hidd (bel_then B4.out hb)
  have K5 := hidd (hp_bel K4.out hb)
  have Or1_5 := hidd (Or1_4.out.below hb)
  have Or2_5 := hidd (Or2_4.out.below hb)
  clear hb B4 K4 Or1_4 Or2_4
  go_wp2_with (refine ldL rfl (.tmp 1) rfl w.heap.size rfl Hm.out K5.out ?_)
  refine (markInt64S_any _ _ _ _ _ Or2_5.out (by omega) (by have := HL.out; omega)).mono ?_
  rintro e w6 ⟨rfl, ho, hg⟩
  have Z6 := hidd hg.size
  have B6 := hidd (bel_mark B5.out Or2_5.out hg (by have z0 := Z0.out; have z1 := Z1.out; have z2 := Z2.out; have z3 := Z3.out; have z4 := Z4.out; have z5 := Z5.out; omega))
  have K6 := hidd (hp_mark K5.out Or2_5.out hg (by have z0 := Z0.out; have z1 := Z1.out; have z2 := Z2.out; have z3 := Z3.out; have z4 := Z4.out; have z5 := Z5.out; omega))
  have Or1_6 := hidd (Or1_5.out.grown hg (own_ne Cr1.out Cr2.out (by have z0 := Z0.out; have z1 := Z1.out; have z2 := Z2.out; have z3 := Z3.out; have z4 := Z4.out; have z5 := Z5.out; omega)))
  have Or2_6 := hidd ho
  clear ho hg B5 K5 Or1_5 Or2_5
  go_wp2_with (refine ldL rfl (.tmp 1) rfl w.heap.size rfl Hm.out K6.out ?_)
  refine (heldInt64S_any _ _ r.1.length _ Or2_6.out.rdI (by omega) (by have := HL.out; omega)).mono ?_
  rintro e w7 ⟨rfl, rfl⟩
  go_wp2_with (refine ldL rfl (.tmp 1) rfl w.heap.size rfl Hm.out K6.out ?_)
  refine (toMachine_any cs m Hm.out _).mono ?_
  rintro e w7 ⟨rfl, hb⟩
  have Z7 := hidd hb.size
  have B7 := hidd (bel_then B6.out hb)
  have K7 := hidd (hp_bel K6.out hb)
  have Or1_7 := hidd (Or1_6.out.below hb)
  have Or2_7 := hidd (Or2_6.out.below hb)
  clear hb B6 K6 Or1_6 Or2_6
  go_wp2_with (refine ldL rfl (.tmp 1) rfl w.heap.size rfl Hm.out K7.out ?_)
  refine (implTrivialStates_any m cs Hm.out _).mono ?_
  rintro e w8 ⟨⟨r3, rfl, ho⟩, hb⟩
  rw [HR.out] at ho ⊢
  have Cr3 := hidd ho
  have Or3_8 := hidd ho
  clear ho
  have Z8 := hidd hb.size
  have B8 := hidd (bel_then B7.out hb)
  have K8 := hidd (hp_bel K7.out hb)
  have Or1_8 := hidd (Or1_7.out.below hb)
  have Or2_8 := hidd (Or2_7.out.below hb)
  clear hb B7 K7 Or1_7 Or2_7
  go_wp2_with (refine ldL rfl (.tmp 1) rfl w.heap.size rfl Hm.out K8.out ?_)
  refine (eqInt64S_any _ _ _ _ Or3_8.out.rdI Or1_8.out.rdI).mono ?_
  rintro e w9 ⟨rfl, hb⟩
  have Z9 := hidd hb.size
  have B9 := hidd (bel_then B8.out hb)
  have K9 := hidd (hp_bel K8.out hb)
  have Or1_9 := hidd (Or1_8.out.below hb)
  have Or2_9 := hidd (Or2_8.out.below hb)
  have Or3_9 := hidd (Or3_8.out.below hb)
  clear hb B8 K8 Or1_8 Or2_8 Or3_8
  go_wp2_with (refine ldL rfl (.tmp 1) rfl w.heap.size rfl Hm.out K9.out ?_)
  refine (heldInt64S_any _ _ r.1.length _ Or2_9.out.rdI (by omega) (by have := HL.out; omega)).mono ?_
  rintro e w10 ⟨rfl, rfl⟩
  go_wp2_with fail
  go_ret
  exact ⟨rfl, B9.out⟩
end Go.Proofs.Ytjnnbjlombopnaa

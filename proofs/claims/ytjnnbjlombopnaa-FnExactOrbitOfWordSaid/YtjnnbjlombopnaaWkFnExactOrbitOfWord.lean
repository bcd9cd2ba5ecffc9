/- The walk of the law FnExactOrbitOfWord: it returns true and leaves memory as it was. A program wrote it out of the law's shape. -/
import Derived.Test.YtjnnbjlombopnaaBG
import Derived.Test.YtjnnbjlombopnaaBA
namespace Go.Proofs.Ytjnnbjlombopnaa
open Go.RowKit
set_option maxRecDepth 100000 in
set_option maxHeartbeats 1000000 in
theorem fnExactOrbitOfWord_walk (w : World) (cs : Array Value) (m : Mc) (hm : m.Is cs) (a1 : Int) (_wa1 : (Lit.int .i64 a1).wf = true) (s2 : ByteArray) (hs2 : s2.size ≤ maxLen) :
    Calls Try.prog 15 #[.agg cs, .int .i64 a1, .string s2] w fun e w' => e = .returned (.bool true) ∧ Below w.heap.size w w' := by
  unfold maxLen at hs2
  have Hm := hidd hm
  clear hm
  by_cases hn2 : s2.size ≤ 1048576
  rotate_left
  have hn2' : 1048576 < s2.size := by omega
  · clear hn2
    go_enter Try.func15, Try.ntmps15
    go_wp2
    go_ret
    exact ⟨rfl, (Below.refl _ _).alloc (Nat.le_refl _) _⟩
  obtain ⟨r, hrr⟩ : ∃ r, orbR m a1 s2 = r := ⟨_, rfl⟩
  have HR := hidd hrr
  clear hrr
  have HL := hidd (show r.1.length ≤ 1048576 by rw [← HR.out]; exact orbR_len m a1 s2)
  go_enter Try.func15, Try.ntmps15
  go_wp2_with (refine ldL rfl (.tmp 3) rfl w.heap.size rfl Hm.out (hp_new rfl) ?_)
  obtain ⟨w0, hw0⟩ : ∃ w0, w0 = w.alloc (.cells cs 25) := ⟨_, rfl⟩
  rw [← hw0]
  have B0 := hidd (show Below w.heap.size w w0 by rw [hw0]; exact (Below.refl _ _).alloc (Nat.le_refl _) _)
  have K0 := hidd (show w0.heap[w.heap.size]? = some (.cells cs 25 (0, 0)) by rw [hw0]; exact hp_new rfl)
  have Z0 := hidd (show w.heap.size < w0.heap.size by rw [hw0]; simp)
  clear hw0
  refine (toMachine_any cs m Hm.out _).mono ?_
  rintro e w1 ⟨rfl, hb⟩
  have Z1 := hidd hb.size
  have B1 := hidd (bel_then B0.out hb)
  have K1 := hidd (hp_bel K0.out hb)
  clear hb B0 K0
  go_wp2_with (refine ldL rfl (.tmp 3) rfl w.heap.size rfl Hm.out K1.out ?_)
  refine (specOrbitOfWord_any m cs Hm.out a1 s2 _ hn2).mono ?_
  rintro e w2 ⟨⟨r1, rfl, ho⟩, hb⟩
  rw [HR.out] at ho ⊢
  have Cr1 := hidd ho
  have Or1_2 := hidd ho
  clear ho
  have Z2 := hidd hb.size
  have B2 := hidd (bel_then B1.out hb)
  have K2 := hidd (hp_bel K1.out hb)
  clear hb B1 K1
  go_wp2_with (refine ldL rfl (.tmp 3) rfl w.heap.size rfl Hm.out K2.out ?_)
  refine (toMachine_any cs m Hm.out _).mono ?_
  rintro e w3 ⟨rfl, hb⟩
  have Z3 := hidd hb.size
  have B3 := hidd (bel_then B2.out hb)
  have K3 := hidd (hp_bel K2.out hb)
  have Or1_3 := hidd (Or1_2.out.below hb)
  clear hb B2 K2 Or1_2
  go_wp2_with (refine ldL rfl (.tmp 3) rfl w.heap.size rfl Hm.out K3.out ?_)
  refine (implOrbitOfWord_any m cs Hm.out a1 s2 _ hn2).mono ?_
  rintro e w4 ⟨⟨r2, rfl, ho⟩, hb⟩
  rw [HR.out] at ho ⊢
  have Cr2 := hidd ho
  have Or2_4 := hidd ho
  clear ho
  have Z4 := hidd hb.size
  have B4 := hidd (bel_then B3.out hb)
  have K4 := hidd (hp_bel K3.out hb)
  have Or1_4 := hidd (Or1_3.out.below hb)
  clear hb B3 K3 Or1_3
  go_wp2_with (refine ldL rfl (.tmp 3) rfl w.heap.size rfl Hm.out K4.out ?_)
  refine (eqStringS_any _ _ _ _ (by have := HL.out; omega) Or2_4.out.rdS Or1_4.out.rdS).mono ?_
  rintro e w5 ⟨rfl, hb⟩
  have Z5 := hidd hb.size
  have B5 := hidd (bel_then B4.out hb)
  have K5 := hidd (hp_bel K4.out hb)
  have Or1_5 := hidd (Or1_4.out.below hb)
  have Or2_5 := hidd (Or2_4.out.below hb)
  clear hb B4 K4 Or1_4 Or2_4
  go_wp2_with (refine ldL rfl (.tmp 3) rfl w.heap.size rfl Hm.out K5.out ?_)
  refine (markStringS_any _ 1 _ _ _ Or2_5.out (by have := HL.out; omega)).mono ?_
  rintro e w6 ⟨rfl, ho, hg⟩
  have Z6 := hidd hg.size
  have B6 := hidd (bel_mark B5.out Or2_5.out hg (by have z0 := Z0.out; have z1 := Z1.out; have z2 := Z2.out; have z3 := Z3.out; have z4 := Z4.out; have z5 := Z5.out; omega))
  have K6 := hidd (hp_mark K5.out Or2_5.out hg (by have z0 := Z0.out; have z1 := Z1.out; have z2 := Z2.out; have z3 := Z3.out; have z4 := Z4.out; have z5 := Z5.out; omega))
  have Or1_6 := hidd (Or1_5.out.grown hg (own_ne Cr1.out Cr2.out (by have z0 := Z0.out; have z1 := Z1.out; have z2 := Z2.out; have z3 := Z3.out; have z4 := Z4.out; have z5 := Z5.out; omega)))
  have Or2_6 := hidd ho
  clear ho hg B5 K5 Or1_5 Or2_5
  go_wp2_with (refine ldL rfl (.tmp 3) rfl w.heap.size rfl Hm.out K6.out ?_)
  refine (heldStringS_any _ 1 r.1.length _ Or2_6.out.rdS (by have := HL.out; omega)).mono ?_
  rintro e w7 ⟨rfl, hb⟩
  have Z7 := hidd hb.size
  have B7 := hidd (bel_then B6.out hb)
  have K7 := hidd (hp_bel K6.out hb)
  have Or1_7 := hidd (Or1_6.out.below hb)
  have Or2_7 := hidd (Or2_6.out.below hb)
  clear hb B6 K6 Or1_6 Or2_6
  go_wp2_with (refine ldL rfl (.tmp 3) rfl w.heap.size rfl Hm.out K7.out ?_)
  refine (toMachine_any cs m Hm.out _).mono ?_
  rintro e w8 ⟨rfl, hb⟩
  have Z8 := hidd hb.size
  have B8 := hidd (bel_then B7.out hb)
  have K8 := hidd (hp_bel K7.out hb)
  have Or1_8 := hidd (Or1_7.out.below hb)
  have Or2_8 := hidd (Or2_7.out.below hb)
  clear hb B7 K7 Or1_7 Or2_7
  go_wp2_with (refine ldL rfl (.tmp 3) rfl w.heap.size rfl Hm.out K8.out ?_)
  refine (implOrbitOfWord_any m cs Hm.out a1 s2 _ hn2).mono ?_
  rintro e w9 ⟨⟨r3, rfl, ho⟩, hb⟩
  rw [HR.out] at ho ⊢
  have Cr3 := hidd ho
  have Or3_9 := hidd ho
  clear ho
  have Z9 := hidd hb.size
  have B9 := hidd (bel_then B8.out hb)
  have K9 := hidd (hp_bel K8.out hb)
  have Or1_9 := hidd (Or1_8.out.below hb)
  have Or2_9 := hidd (Or2_8.out.below hb)
  clear hb B8 K8 Or1_8 Or2_8
  go_wp2_with (refine ldL rfl (.tmp 3) rfl w.heap.size rfl Hm.out K9.out ?_)
  refine (eqStringS_any _ _ _ _ (by have := HL.out; omega) Or3_9.out.rdS Or1_9.out.rdS).mono ?_
  rintro e w10 ⟨rfl, hb⟩
  have Z10 := hidd hb.size
  have B10 := hidd (bel_then B9.out hb)
  have K10 := hidd (hp_bel K9.out hb)
  have Or1_10 := hidd (Or1_9.out.below hb)
  have Or2_10 := hidd (Or2_9.out.below hb)
  have Or3_10 := hidd (Or3_9.out.below hb)
  clear hb B9 K9 Or1_9 Or2_9 Or3_9
  go_wp2_with (refine ldL rfl (.tmp 3) rfl w.heap.size rfl Hm.out K10.out ?_)
  refine (heldStringS_any _ 1 r.1.length _ Or2_10.out.rdS (by have := HL.out; omega)).mono ?_
  rintro e w11 ⟨rfl, hb⟩
  have Z11 := hidd hb.size
  have B11 := hidd (bel_then B10.out hb)
  have K11 := hidd (hp_bel K10.out hb)
  have Or1_11 := hidd (Or1_10.out.below hb)
  have Or2_11 := hidd (Or2_10.out.below hb)
  have Or3_11 := hidd (Or3_10.out.below hb)
  clear hb B10 K10 Or1_10 Or2_10 Or3_10
  go_wp2_with fail
  go_ret
  exact ⟨rfl, B11.out⟩
end Go.Proofs.Ytjnnbjlombopnaa

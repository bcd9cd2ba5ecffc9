/- The walk of the law FnExactInverseMachine: it returns true and leaves memory as it was. A program wrote it out of the law's shape. -/
import Derived.Test.YtjnnbjlombopnaaInvU
import Derived.Test.YtjnnbjlombopnaaEqM
import Derived.Test.YtjnnbjlombopnaaToM
import Derived.Test.YtjnnbjlombopnaaLaw
namespace Go.Proofs.Ytjnnbjlombopnaa
open Go.RowKit
set_option maxRecDepth 100000 in
set_option maxHeartbeats 1000000 in
theorem fnExactInverseMachine_walk (w : World) (cs : Array Value) (m : Mc) (hm : m.Is cs) :
    Calls Try.prog 5 #[.agg cs] w fun e w' => e = .returned (.bool true) ∧ Below w.heap.size w w' := by
  have Hm := hidd hm
  clear hm
  obtain ⟨r, hrr⟩ : ∃ r, invR m = r := ⟨_, rfl⟩
  have HR := hidd hrr
  clear hrr
  have HI := hidd (show r.1.Is r.1.cells by rw [← HR.out]; exact invR_is m)
  have hz := zeroM_run
  go_enter Try.func5, Try.ntmps5
  go_wp2_with (refine ldL rfl (.tmp 1) rfl w.heap.size rfl Hm.out (hp_new rfl) ?_)
  obtain ⟨w0, hw0⟩ : ∃ w0, w0 = w.alloc (.cells cs 25) := ⟨_, rfl⟩
  rw [← hw0]
  have B0 := hidd (show Below w.heap.size w w0 by rw [hw0]; exact (Below.refl _ _).alloc (Nat.le_refl _) _)
  have K0 := hidd (show w0.heap[w.heap.size]? = some (.cells cs 25 (0, 0)) by rw [hw0]; exact hp_new rfl)
  have Z0 := hidd (show w.heap.size < w0.heap.size by rw [hw0]; simp)
  clear hw0
  refine (toMachine_any cs m Hm.out _).mono ?_
  rintro e w1 ⟨rfl, hb⟩
  have Z1 := hidd hb.size
  have B1 := hidd (bel_then B0.out hb)
  have K1 := hidd (hp_bel K0.out hb)
  clear hb B0 K0
  go_wp2_with (refine ldL rfl (.tmp 1) rfl w.heap.size rfl Hm.out K1.out ?_)
  refine (sInverseMachine_any m cs Hm.out _).mono ?_
  rintro e w2 ⟨rfl, hb⟩
  rw [HR.out]
  have Z2 := hidd hb.size
  have B2 := hidd (bel_then B1.out hb)
  have K2 := hidd (hp_bel K1.out hb)
  clear hb B1 K1
  go_wp2_with (first | ((with_reducible show wpList _ _ _ _ _ (World.alloc _ _)); refine stNew (w := w2) (zs := zeroM) rfl (.tmp 3) _ (by rfl) r.1 w2.heap.size rfl zeroM_size (by rfl) (by rfl) ?_) | (refine ldL rfl (.tmp 1) rfl w.heap.size rfl Hm.out (hp_old K2.out) ?_))
  obtain ⟨w3, hwn⟩ : ∃ x, x = w2.alloc (.cells r.1.cells 27) := ⟨_, rfl⟩
  rw [← hwn]
  have hb : Below w2.heap.size w2 w3 := by rw [hwn]; exact bel_alloc' _ _
  have Mr1_3 := hidd (show w3.heap[w2.heap.size]? = some (.cells r.1.cells 27 (0, 0)) by rw [hwn]; exact hp_new rfl)
  clear hwn
  have Z3 := hidd hb.size
  have B3 := hidd (bel_then B2.out hb)
  have K3 := hidd (hp_bel K2.out hb)
  clear hb B2 K2
  refine (toMachine_any cs m Hm.out _).mono ?_
  rintro e w4 ⟨rfl, hb⟩
  have Z4 := hidd hb.size
  have B4 := hidd (bel_then B3.out hb)
  have K4 := hidd (hp_bel K3.out hb)
  have Mr1_4 := hidd (hp_bel Mr1_3.out hb)
  clear hb B3 K3 Mr1_3
  go_wp2_with (refine ldL rfl (.tmp 1) rfl w.heap.size rfl Hm.out K4.out ?_)
  refine (iInverseMachine_any m cs Hm.out _).mono ?_
  rintro e w5 ⟨rfl, hb⟩
  rw [HR.out]
  have Z5 := hidd hb.size
  have B5 := hidd (bel_then B4.out hb)
  have K5 := hidd (hp_bel K4.out hb)
  have Mr1_5 := hidd (hp_bel Mr1_4.out hb)
  clear hb B4 K4 Mr1_4
  go_wp2_with (first | ((with_reducible show wpList _ _ _ _ _ (World.alloc _ _)); refine stNew (w := w5) (zs := zeroM) rfl (.tmp 5) _ (by rfl) r.1 w5.heap.size rfl zeroM_size (by rfl) (by rfl) ?_) | (refine ldC rfl (.tmp 5) rfl _ r.1 (hp_new rfl) (by rfl) ?_) | (refine ldC rfl (.tmp 3) rfl _ r.1 (hp_old Mr1_5.out) (by rfl) ?_) | (refine ldL rfl (.tmp 1) rfl w.heap.size rfl Hm.out (hp_old K5.out) ?_))
  obtain ⟨w6, hwn⟩ : ∃ x, x = w5.alloc (.cells r.1.cells 27) := ⟨_, rfl⟩
  rw [← hwn]
  have hb : Below w5.heap.size w5 w6 := by rw [hwn]; exact bel_alloc' _ _
  have Mr2_6 := hidd (show w6.heap[w5.heap.size]? = some (.cells r.1.cells 27 (0, 0)) by rw [hwn]; exact hp_new rfl)
  clear hwn
  have Z6 := hidd hb.size
  have B6 := hidd (bel_then B5.out hb)
  have K6 := hidd (hp_bel K5.out hb)
  have Mr1_6 := hidd (hp_bel Mr1_5.out hb)
  clear hb B5 K5 Mr1_5
  refine (eqMachine_any r.1 _ HI.out _).mono ?_
  rintro e w7 ⟨rfl, hb⟩
  have Z7 := hidd hb.size
  have B7 := hidd (bel_then B6.out hb)
  have K7 := hidd (hp_bel K6.out hb)
  have Mr1_7 := hidd (hp_bel Mr1_6.out hb)
  have Mr2_7 := hidd (hp_bel Mr2_6.out hb)
  clear hb B6 K6 Mr1_6 Mr2_6
  go_wp2_with fail
  go_ret
  exact ⟨rfl, B7.out⟩
end Go.Proofs.Ytjnnbjlombopnaa

/- The walk of the law FnExactParseMachine: it returns true and leaves memory as it was. A program wrote it out of the law's shape. -/
import Derived.Test.YtighjpnjbgjgaaaDoorRdn
import Derived.Test.YtighjpnjbgjgaaaDoorPri
import Derived.Test.YtighjpnjbgjgaaaDoorBA
namespace Go.Proofs.YtighjpnjbgjgaaaDoor
open Go.RowKit
set_option maxRecDepth 100000 in
set_option maxHeartbeats 1000000 in
theorem fnExactParseMachine_walk (w : World) (s0 : ByteArray) (hs0 : s0.size ≤ maxLen) (mx : Int) (hmx : w.cell? mlA = some (.int .i64 mx)) :
    Calls Tryd.prog 3 #[.string s0] w fun e w' => e = .returned (.bool true) ∧ Below w.heap.size w w' := by
  have HMX := hidd hmx
  clear hmx
  unfold maxLen at hs0
  by_cases hn0 : s0.size ≤ 1048576
  rotate_left
  have hn0' : 1048576 < s0.size := by omega
  · clear hn0
    go_enter Tryd.func3, Tryd.ntmps3
    go_wp2
    go_ret
    exact ⟨rfl, Below.refl _ _⟩
  obtain ⟨r, hrr⟩ : ∃ r, prR s0 = r := ⟨_, rfl⟩
  have HR := hidd hrr
  clear hrr
  have HI := hidd (show r.1.Is r.1.cells by rw [← HR.out]; exact prR_is s0)
  have hz := zeroM_run
  go_enter Tryd.func3, Tryd.ntmps3
  go_wp2_with fail
  obtain ⟨w0, hw0⟩ : ∃ w0, w0 = w := ⟨_, rfl⟩
  rw [← hw0]
  have B0 := hidd (show Below w.heap.size w w0 by rw [hw0]; exact Below.refl _ _)
  have Z0 := hidd (show w.heap.size ≤ w0.heap.size by rw [hw0]; omega)
  clear hw0
  refine (specParseMachine_any s0 _ hn0).mono ?_
  rintro e w1 ⟨rfl, hb⟩
  rw [HR.out]
  have Z1 := hidd hb.size
  have B1 := hidd (bel_then B0.out hb)
  clear hb B0
  go_wp2_with ((with_reducible show wpList _ _ _ _ _ (World.alloc _ _)); refine stNew (w := w1) (zs := zeroM) rfl (.tmp 3) _ (by rfl) r.1 w1.heap.size rfl zeroM_size (by rfl) (by rfl) ?_)
  obtain ⟨w2, hwn⟩ : ∃ x, x = w1.alloc (.cells r.1.cells 25) := ⟨_, rfl⟩
  rw [← hwn]
  have hb : Below w1.heap.size w1 w2 := by rw [hwn]; exact bel_alloc' _ _
  have hzs : w1.heap.size < w2.heap.size := by rw [hwn]; simp
  have Mr1_2 := hidd (show w2.heap[w1.heap.size]? = some (.cells r.1.cells 25 (0, 0)) by rw [hwn]; exact hp_new rfl)
  clear hwn
  have Z2 := hidd hzs
  have B2 := hidd (bel_then B1.out hb)
  clear hb B1
  clear hzs
  refine (implParseMachine_any s0 hn0 mx _ (cell_belw HMX.out B2.out)).mono ?_
  rintro e w3 ⟨rfl, hb⟩
  rw [HR.out]
  have Z3 := hidd hb.size
  have B3 := hidd (bel_then B2.out hb)
  have Mr1_3 := hidd (hp_bel Mr1_2.out hb)
  clear hb B2 Mr1_2
  go_wp2_with (first | ((with_reducible show wpList _ _ _ _ _ (World.alloc _ _)); refine stNew (w := w3) (zs := zeroM) rfl (.tmp 5) _ (by rfl) r.1 w3.heap.size rfl zeroM_size (by rfl) (by rfl) ?_) | (refine ldC rfl (.tmp 5) rfl _ r.1 (hp_new rfl) (by rfl) ?_) | (refine ldC rfl (.tmp 3) rfl _ r.1 (hp_old Mr1_3.out) (by rfl) ?_))
  obtain ⟨w4, hwn⟩ : ∃ x, x = w3.alloc (.cells r.1.cells 25) := ⟨_, rfl⟩
  rw [← hwn]
  have hb : Below w3.heap.size w3 w4 := by rw [hwn]; exact bel_alloc' _ _
  have hzs : w3.heap.size < w4.heap.size := by rw [hwn]; simp
  have Mr2_4 := hidd (show w4.heap[w3.heap.size]? = some (.cells r.1.cells 25 (0, 0)) by rw [hwn]; exact hp_new rfl)
  clear hwn
  have Z4 := hidd hzs
  have B4 := hidd (bel_then B3.out hb)
  have Mr1_4 := hidd (hp_bel Mr1_3.out hb)
  clear hb B3 Mr1_3
  clear hzs
  refine (eqMachine_any r.1 _ HI.out _).mono ?_
  rintro e w5 ⟨rfl, hb⟩
  have Z5 := hidd hb.size
  have B5 := hidd (bel_then B4.out hb)
  have Mr1_5 := hidd (hp_bel Mr1_4.out hb)
  have Mr2_5 := hidd (hp_bel Mr2_4.out hb)
  clear hb B4 Mr1_4 Mr2_4
  go_wp2_with fail
  go_ret
  exact ⟨rfl, B5.out⟩
end Go.Proofs.YtighjpnjbgjgaaaDoor

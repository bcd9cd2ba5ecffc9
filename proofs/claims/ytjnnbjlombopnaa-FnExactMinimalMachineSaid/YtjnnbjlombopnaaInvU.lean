/- Walks: InverseMachine, of the program and of the reference. -/
import Derived.Test.YtjnnbjlombopnaaInvV
namespace Go.Proofs.Ytjnnbjlombopnaa
open Go.RowKit
/-! ### InverseMachine -/
def invR (m : Mc) : Mc × Int := if m.ok then (m.gm.inv.mc, 0) else (Mc.zero, 1)
theorem Mc.zero_is : Mc.zero.Is Mc.zero.cells := Mc.Is.of_cells _ (fun _ _ _ _ => by show 0 < 256; omega) (fun _ _ _ _ => by show 0 < 256; omega) (by decide) (by decide)
theorem invR_is (m : Mc) : (invR m).1.Is (invR m).1.cells := by
  unfold invR
  cases h : m.ok with
  | false => exact Mc.zero_is
  | true =>
    obtain ⟨g, rfl, hok⟩ := Mc.to_gm h
    exact (g.inv.is_cells (g.inv_ok hok)).is
set_option maxRecDepth 100000 in
set_option maxHeartbeats 400000 in
theorem sInverseMachine_any (m : Mc) (cs : Array Value) (hm : m.Is cs) (w : World) :
    Calls Try.prog 39 #[.agg cs] w fun e w' => e = .returned (.tuple #[.agg (invR m).1.cells, .int .i64 (invR m).2]) ∧ Below w.heap.size w w' := by
  have hz := zeroM_run
  have Hm := hidd hm
  clear hm
  cases hq : m.ok with
  | false =>
    have HR : Hid (invR m = (Mc.zero, 1)) := hidd (by unfold invR; rw [hq]; rfl)
    have Hq := hidd hq
    clear hq
    go_enter Try.func39, Try.ntmps39
    go_wp2_with (refine ldI rfl (.tmp 1) rfl w.heap.size rfl Hm.out (hp_old (hp_new rfl)) ?_)
    refine (l01Is_any _ cs Hm.out _).mono ?_
    rintro e w1 ⟨rfl, hb⟩
    rw [Hq.out]
    have B1 := hidd (bel_then ((bel_alloc w (.cells cs 27)).alloc (by simp) _) hb)
    have K0 := hidd (hp_bel (hp_new (by simp)) hb : w1.heap[w.heap.size + 1]? = some (.cells zeroM 27 (0, 0)))
    clear hb
    go_wp2_with (refine stC rfl (.tmp 2) (.tmp 7) rfl _ Mc.zero K0.out zeroM_size (by rfl) (by rw [← zeroM_cells]; rfl) ?_)
    refine bodyPost_ret (v := .tuple #[.agg Mc.zero.cells, .int .i64 1]) (results_cell_tmp rfl _ _ (w.heap.size + 1) 27 _ (0, 0) _ _ rfl rfl (setRow_heap _ _ _ _ _ _ K0.out) Try.underlying27 rfl (cells98i _)) rfl ⟨by rw [HR.out], ?_⟩
    exact bel_row B1.out (by omega) _
  | true =>
    obtain ⟨g, rfl, hok⟩ := Mc.to_gm hq
    have HR : Hid (invR g.mc = (g.inv.mc, 0)) := hidd (by unfold invR; rw [hq]; rfl)
    have Hq := hidd hq
    have Hok := hidd hok
    clear hq hok
    go_enter Try.func39, Try.ntmps39
    go_wp2_with (refine ldI rfl (.tmp 1) rfl w.heap.size rfl Hm.out (hp_old (hp_new rfl)) ?_)
    refine (l01Is_any _ cs Hm.out _).mono ?_
    rintro e w1 ⟨rfl, hb⟩
    rw [Hq.out]
    have B1 := hidd (bel_then ((bel_alloc w (.cells cs 27)).alloc (by simp) _) hb)
    have K1 := hidd (hp_bel (hp_old (hp_new rfl)) hb : w1.heap[w.heap.size]? = some (.cells cs 27 (0, 0)))
    have K0 := hidd (hp_bel (hp_new (by simp)) hb : w1.heap[w.heap.size + 1]? = some (.cells zeroM 27 (0, 0)))
    clear hb hz
    go_wp2_with (refine ldI rfl (.tmp 1) rfl w.heap.size rfl Hm.out K1.out ?_)
    refine (l01Inverse_any g Hok.out cs ⟨Hm.out⟩ _).mono ?_
    rintro e w2 ⟨rfl, hb⟩
    have B2 := hidd (bel_then B1.out hb)
    have K2 := hidd (hp_bel K0.out hb)
    clear hb
    go_wp2_with (refine stC rfl (.tmp 2) (.tmp 9) rfl _ g.inv.mc K2.out zeroM_size (by rfl) (by rfl) ?_)
    refine bodyPost_ret (v := .tuple #[.agg g.inv.mc.cells, .int .i64 0]) (results_cell_tmp rfl _ _ (w.heap.size + 1) 27 _ (0, 0) _ _ rfl rfl (setRow_heap _ _ _ _ _ _ K2.out) Try.underlying27 rfl (cells98i _)) rfl ⟨by rw [HR.out], ?_⟩
    exact bel_row B2.out (by omega) _
set_option maxRecDepth 100000 in
set_option maxHeartbeats 400000 in
theorem iInverseMachine_any (m : Mc) (cs : Array Value) (hm : m.Is cs) (w : World) :
    Calls Try.prog 40 #[.agg cs] w fun e w' => e = .returned (.tuple #[.agg (invR m).1.cells, .int .i64 (invR m).2]) ∧ Below w.heap.size w w' := by
  have hz := zeroM_run
  have Hm := hidd hm
  clear hm
  cases hq : m.ok with
  | false =>
    have HR : Hid (invR m = (Mc.zero, 1)) := hidd (by unfold invR; rw [hq]; rfl)
    have Hq := hidd hq
    clear hq
    go_enter Try.func40, Try.ntmps40
    go_wp2_with (refine ldI rfl (.tmp 1) rfl w.heap.size rfl Hm.out (hp_old (hp_new rfl)) ?_)
    refine (implIsMachine_any _ cs Hm.out _).mono ?_
    rintro e w1 ⟨rfl, hb⟩
    rw [Hq.out]
    have B1 := hidd (bel_then ((bel_alloc w (.cells cs 27)).alloc (by simp) _) hb)
    have K0 := hidd (hp_bel (hp_new (by simp)) hb : w1.heap[w.heap.size + 1]? = some (.cells zeroM 27 (0, 0)))
    clear hb
    go_wp2_with (refine stC rfl (.tmp 2) (.tmp 7) rfl _ Mc.zero K0.out zeroM_size (by rfl) (by rw [← zeroM_cells]; rfl) ?_)
    refine bodyPost_ret (v := .tuple #[.agg Mc.zero.cells, .int .i64 1]) (results_cell_tmp rfl _ _ (w.heap.size + 1) 27 _ (0, 0) _ _ rfl rfl (setRow_heap _ _ _ _ _ _ K0.out) Try.underlying27 rfl (cells98i _)) rfl ⟨by rw [HR.out], ?_⟩
    exact bel_row B1.out (by omega) _
  | true =>
    obtain ⟨g, rfl, hok⟩ := Mc.to_gm hq
    have HR : Hid (invR g.mc = (g.inv.mc, 0)) := hidd (by unfold invR; rw [hq]; rfl)
    have Hq := hidd hq
    have Hok := hidd hok
    clear hq hok
    go_enter Try.func40, Try.ntmps40
    go_wp2_with (refine ldI rfl (.tmp 1) rfl w.heap.size rfl Hm.out (hp_old (hp_new rfl)) ?_)
    refine (implIsMachine_any _ cs Hm.out _).mono ?_
    rintro e w1 ⟨rfl, hb⟩
    rw [Hq.out]
    have B1 := hidd (bel_then ((bel_alloc w (.cells cs 27)).alloc (by simp) _) hb)
    have K1 := hidd (hp_bel (hp_old (hp_new rfl)) hb : w1.heap[w.heap.size]? = some (.cells cs 27 (0, 0)))
    have K0 := hidd (hp_bel (hp_new (by simp)) hb : w1.heap[w.heap.size + 1]? = some (.cells zeroM 27 (0, 0)))
    clear hb hz
    go_wp2_with fail
    refine (inverse_any g Hok.out _ 0 _ (Gm.At.of_is ⟨Hm.out⟩ K1.out)).mono ?_
    rintro e w2 ⟨rfl, hb⟩
    have B2 := hidd (bel_then B1.out hb)
    have K2 := hidd (hp_bel K0.out hb)
    clear hb
    go_wp2_with (refine stC rfl (.tmp 2) (.tmp 8) rfl _ g.inv.mc K2.out zeroM_size (by rfl) (by rfl) ?_)
    refine bodyPost_ret (v := .tuple #[.agg g.inv.mc.cells, .int .i64 0]) (results_cell_tmp rfl _ _ (w.heap.size + 1) 27 _ (0, 0) _ _ rfl rfl (setRow_heap _ _ _ _ _ _ K2.out) Try.underlying27 rfl (cells98i _)) rfl ⟨by rw [HR.out], ?_⟩
    exact bel_row B2.out (by omega) _
end Go.Proofs.Ytjnnbjlombopnaa

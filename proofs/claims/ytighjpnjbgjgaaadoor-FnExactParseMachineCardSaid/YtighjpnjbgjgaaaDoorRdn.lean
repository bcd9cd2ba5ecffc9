/- Walks: the machine with a text, and ParseMachine, of the reference. -/
import Derived.Test.YtighjpnjbgjgaaaDoorRd2
import Derived.Test.YtighjpnjbgjgaaaDoorRd3
namespace Go.Proofs.YtighjpnjbgjgaaaDoor
open Go.RowKit
set_option linter.unusedSimpArgs false

set_option maxRecDepth 100000 in
set_option maxHeartbeats 2000000 in
theorem l01Read_no (t : ByteArray) (hs : t.size ≤ 1048576) (w : World) (hd : ¬ ∃ L, Hd t L) :
    Calls Tryd.prog 7 #[.string t] w fun e w' => (∃ (b : Bool) (m : Mc), e = .returned (.tuple #[.agg m.cells, .bool b]) ∧ (b = true ↔ prOk t) ∧ (b = true → m = prM t)) ∧ Below w.heap.size w w' := by
  have hz := zeroM_run
  have hz1 := zeroM_size
  have hz2 := zeroM_ne
  have Z := hidd (show (w.alloc (.cells zeroM 25)).heap[w.heap.size]? = some (.cells zeroM 25 (0, 0)) from hp_new rfl)
  have BZ := hidd (bel_alloc' w (.cells zeroM 25))
  have HN := hidd (show ¬ prOk t from fun h => hd (prOk_hd h))
  by_cases h2 : t.size < 2
  · have t3 : (t.size : Int) < 2 := by omega
    clear hd h2
    go_enter Tryd.func7, Tryd.ntmps7
    go_wp2_with (refine stC rfl (.tmp 2) (.tmp 28) rfl _ Mc.zero Z.out zeroM_size (by rfl) (by rw [← zeroM_cells]; rfl) ?_)
    refine bodyPost_ret (v := .tuple #[.agg Mc.zero.cells, .bool false]) (results_cell_tmp rfl _ _ w.heap.size 25 _ (0, 0) _ _ rfl rfl (setRow_heap _ _ _ _ _ _ Z.out) Tryd.underlying25 rfl (cells98i _)) rfl ⟨by first | exact ⟨false, Mc.zero, rfl, ⟨(fun h => by cases h), fun h => absurd h HN.out⟩, (fun h => by cases h)⟩ | exact .inl ⟨⟨Mc.zero, rfl⟩, HN.out⟩, ?_⟩
    exact bel_row BZ.out (Nat.le_refl _) _
  · have t3 : ¬ (t.size : Int) < 2 := by omega
    have t1 : 2 ≤ (t.size : Int) := by omega
    have t0 : (0 : Int) < t.size := by omega
    have t2 : (1 : Int) < t.size := by omega
    by_cases h1 : (t[1]'(by omega)).toNat = 58
    · have x1 : ((t[1]'(by omega)).toNat : Int) = 58 := by omega
      have xa : ¬ ((t[0]'(by omega)).toNat : Int) = 50 := fun e => hd ⟨2, by omega, by omega, h1, .inl rfl⟩
      have xb : ¬ ((t[0]'(by omega)).toNat : Int) = 51 := fun e => hd ⟨3, by omega, by omega, h1, .inr rfl⟩
      have xc : (((t[0]'(by omega)).toNat : Int) != 50) = true := bne_iff_ne.2 xa
      have xd : (((t[0]'(by omega)).toNat : Int) != 51) = true := bne_iff_ne.2 xb
      clear hd h1
      go_enter Tryd.func7, Tryd.ntmps7
      go_wp2_with (refine stC rfl (.tmp 2) (.tmp 28) rfl _ Mc.zero Z.out zeroM_size (by rfl) (by rw [← zeroM_cells]; rfl) ?_)
      refine bodyPost_ret (v := .tuple #[.agg Mc.zero.cells, .bool false]) (results_cell_tmp rfl _ _ w.heap.size 25 _ (0, 0) _ _ rfl rfl (setRow_heap _ _ _ _ _ _ Z.out) Tryd.underlying25 rfl (cells98i _)) rfl ⟨by first | exact ⟨false, Mc.zero, rfl, ⟨(fun h => by cases h), fun h => absurd h HN.out⟩, (fun h => by cases h)⟩ | exact .inl ⟨⟨Mc.zero, rfl⟩, HN.out⟩, ?_⟩
      exact bel_row BZ.out (Nat.le_refl _) _
    · have x1 : ¬ ((t[1]'(by omega)).toNat : Int) = 58 := by omega
      have xc : (((t[1]'(by omega)).toNat : Int) != 58) = true := bne_iff_ne.2 x1
      clear hd h1
      go_enter Tryd.func7, Tryd.ntmps7
      go_wp2_with (refine stC rfl (.tmp 2) (.tmp 28) rfl _ Mc.zero Z.out zeroM_size (by rfl) (by rw [← zeroM_cells]; rfl) ?_)
      refine bodyPost_ret (v := .tuple #[.agg Mc.zero.cells, .bool false]) (results_cell_tmp rfl _ _ w.heap.size 25 _ (0, 0) _ _ rfl rfl (setRow_heap _ _ _ _ _ _ Z.out) Tryd.underlying25 rfl (cells98i _)) rfl ⟨by first | exact ⟨false, Mc.zero, rfl, ⟨(fun h => by cases h), fun h => absurd h HN.out⟩, (fun h => by cases h)⟩ | exact .inl ⟨⟨Mc.zero, rfl⟩, HN.out⟩, ?_⟩
      exact bel_row BZ.out (Nat.le_refl _) _
theorem l01Read_any (t : ByteArray) (hs : t.size ≤ 1048576) (w : World) :
    Calls Tryd.prog 7 #[.string t] w fun e w' => (∃ (b : Bool) (m : Mc), e = .returned (.tuple #[.agg m.cells, .bool b]) ∧ (b = true ↔ prOk t) ∧ (b = true → m = prM t)) ∧ Below w.heap.size w w' := by
  by_cases hd : ∃ L, Hd t L
  · obtain ⟨L, hd⟩ := hd
    rcases hd.l with h | h
    · subst h; exact l01Read_2 t hs w hd
    · subst h; exact l01Read_3 t hs w hd
  · exact l01Read_no t hs w hd
theorem prR_is (t : ByteArray) : (prR t).1.Is (prR t).1.cells := by
  by_cases h : prOk t
  · rw [prR_yes h]
    obtain ⟨g, hok, e, _⟩ := prOk_see h
    show (prM t).Is (prM t).cells
    rw [e]
    exact (Gm.is_cells hok).is
  · rw [prR_no h]
    exact Mc.Is.of_cells Mc.zero (fun _ _ _ _ => Nat.zero_lt_succ _) (fun _ _ _ _ => Nat.zero_lt_succ _) (by rfl) (by rfl)

set_option maxRecDepth 100000 in
set_option maxHeartbeats 1000000 in
theorem specParseMachine_any (t : ByteArray) (w : World) (hs : t.size ≤ 1048576) :
    Calls Tryd.prog 4 #[.string t] w fun e w' => e = .returned (.tuple #[.agg (prR t).1.cells, .int .i64 (prR t).2]) ∧ Below w.heap.size w w' := by
  have hz := zeroM_run
  have Z := hidd (show (w.alloc (.cells zeroM 25)).heap[w.heap.size]? = some (.cells zeroM 25 (0, 0)) from hp_new rfl)
  have BZ := hidd (bel_alloc' w (.cells zeroM 25))
  have HC := hidd (fun (W : World) => l01Read_any t hs W)
  obtain ⟨R, hR⟩ : ∃ R, R = prR t := ⟨_, rfl⟩
  rw [← hR]
  have HR := hidd hR
  clear hR
  go_enter Tryd.func4, Tryd.ntmps4
  go_wp2_with fail
  refine (HC.out _).mono ?_
  rintro e w1 ⟨⟨b, m, rfl, hb1, hb2⟩, hb⟩
  have B1 := hidd (bel_then BZ.out hb)
  have Z1 := hidd (hp_bel Z.out hb)
  have hlt := hp_lt Z1.out
  have B2 := hidd (bel_then B1.out (bel_alloc' w1 (.cells m.cells 25)))
  have Z2 := hidd (show (w1.alloc (.cells m.cells 25)).heap[w.heap.size]? = some (.cells zeroM 25 (0, 0)) from hp_old Z1.out)
  clear hb HC
  cases b with
  | true =>
    have HE := hidd (show R = (m, 0) by rw [HR.out, prR_yes (hb1.1 rfl), hb2 rfl])
    clear hb1 hb2
    go_wp2_with (first | ((with_reducible show wpList _ _ _ _ _ (World.alloc _ _)); refine stNew rfl (.tmp 4) (.tmp 9) (by rfl) m w1.heap.size rfl zeroM_size (by rfl) (by rfl) ?_) | (refine ldC rfl (.tmp 4) rfl _ m (hp_new rfl) (by rfl) ?_) | (refine stC rfl (.tmp 2) (.tmp 14) rfl _ m Z2.out zeroM_size (by rfl) (by rfl) ?_))
    refine bodyPost_ret (v := .tuple #[.agg m.cells, .int .i64 0]) (results_cell_tmp rfl _ _ w.heap.size 25 _ (0, 0) _ _ rfl rfl (setRow_heap _ _ _ _ _ _ Z2.out) Tryd.underlying25 rfl (cells98i _)) rfl ⟨by rw [HE.out], ?_⟩
    exact bel_row B2.out (Nat.le_refl _) _
  | false =>
    have HE := hidd (show R = (Mc.zero, 6) by rw [HR.out, prR_no (fun h => by have := hb1.2 h; cases this)])
    clear hb1 hb2
    go_wp2_with (first | ((with_reducible show wpList _ _ _ _ _ (World.alloc _ _)); refine stNew rfl (.tmp 4) (.tmp 9) (by rfl) m w1.heap.size rfl zeroM_size (by rfl) (by rfl) ?_) | (refine stC rfl (.tmp 2) (.tmp 13) rfl _ Mc.zero Z2.out zeroM_size (by rfl) (by rw [← zeroM_cells]; rfl) ?_))
    refine bodyPost_ret (v := .tuple #[.agg Mc.zero.cells, .int .i64 6]) (results_cell_tmp rfl _ _ w.heap.size 25 _ (0, 0) _ _ rfl rfl (setRow_heap _ _ _ _ _ _ Z2.out) Tryd.underlying25 rfl (cells98i _)) rfl ⟨by rw [HE.out], ?_⟩
    exact bel_row B2.out (Nat.le_refl _) _
end Go.Proofs.YtighjpnjbgjgaaaDoor

/- Walks: slices.Index and slices.Contains over machines. -/
import Derived.Test.YtcghcbdefajpgaaMeq
import Derived.Test.YtcghcbdefajpgaaWid
import Derived.Test.YtcghcbdefajpgaaBH
namespace Go.Proofs.Ytcghcbdefajpgaa
open Go.RowKit
set_option linter.unusedSimpArgs false

def msC (ms : List Mc) : List (List Value) := ms.map fun m => m.cells.toList
def AllIs (ms : List Mc) : Prop := ∀ m ∈ ms, m.Is m.cells
theorem OwnW.loadM {w : World} {base g n c : Nat} {ms : List Mc} (h : OwnW w base 31 98 (.slice (some ⟨g, 0, none⟩) n c) (msC ms)) {q : Nat} {m : Mc} (hq : ms[q]? = some m) : (Ytcghcbdefajpgaa.loadM ⟨g, q * 98, none⟩).run Try.prog w = .ok (.agg m.cells) w := by
  have hq2 : (msC ms)[q]? = some m.cells.toList := by unfold msC; rw [List.getElem?_map, hq]; rfl
  rcases id h.2.2 with ⟨h1, _⟩ | ⟨g', cap, cur, h1, _, hg, hn, hm, hz, _⟩
  · cases h1
  · simp only [Value.slice.injEq, Option.some.injEq, Addr.mk.injEq] at h1
    obtain ⟨⟨rfl, _⟩, _, _⟩ := h1
    have hql : q < (msC ms).length := (List.getElem?_eq_some_iff.1 hq2).1
    have hlen : q * 98 + 98 ≤ cur.size := by rw [hz]; omega
    have := run_loadVar_at (P := Try.prog) w g (q * 98) 98 31 31 cur (0, 0) _ hg Try.underlying31 rfl (by kernel_rfl) (by omega)
    have e : cur.extract (q * 98) (q * 98 + 98) = m.cells := by
      apply Array.ext
      · simp [m.cells_size]; omega
      · intro i h1 h2
        have hc := h.cell (i := i) hq2 (by rw [Array.getElem?_toList]; exact Array.getElem?_eq_getElem h2)
        have hi : i < 98 := by rw [m.cells_size] at h2; exact h2
        rw [blkc hg, Array.getElem?_eq_getElem (by omega)] at hc
        rw [Array.getElem_extract]
        exact Option.some.inj hc
    rw [e] at this
    exact this
def eqIn27 (a b : Value) : Sem Bool := Op.equalIn 10000 31 a b
theorem equalIn_27 (a b : Value) : Op.equalIn 10000 31 a b = eqIn27 a b := rfl
attribute [go_sem ↓ high] equalIn_27
theorem run_eqIn27 (m m' : Mc) (h : m.Is m.cells) (h' : m'.Is m'.cells) (w : World) : (eqIn27 (.agg m.cells) (.agg m'.cells)).run Try.prog w = .ok (eqC m m') w := run_eqM m m' h h' w
noncomputable def inP (ms : List Mc) (m0 : Mc) (j : Nat) : Bool := eqC m0 (ms.getD j Mc.zero)
set_option maxHeartbeats 1000000 in
theorem slicesIdxM_any (base : Nat) (v : Value) (ms : List Mc) (hms : AllIs ms) (m0 : Mc) (h0 : m0.Is m0.cells) (w : World) (hr : OwnW w base 31 98 v (msC ms)) (hl : ms.length ≤ 1000000) :
    Calls Try.prog 90 #[v, .agg m0.cells] w fun e w' => e = .returned (.int .i64 (fidx (inP ms m0) ms.length)) ∧ Below w.heap.size w w' := by
  have HM := hidd hms
  have H0 := hidd h0
  have HR := hidd hr
  obtain ⟨A, c, hve⟩ := hr.slice
  rw [show (msC ms).length = ms.length by simp [msC]] at hve
  subst hve
  clear hr hms h0
  go_enter Try.func90, Try.ntmps90
  go_wp2_with fail
  obtain ⟨w1, hw1⟩ : ∃ w1, w1 = w.alloc (.cells m0.cells 31) := ⟨_, rfl⟩
  rw [← hw1]
  have B1 := hidd (show Below w.heap.size w w1 by rw [hw1]; exact bel_alloc' _ _)
  have K1 := hidd (show w1.heap[w.heap.size]? = some (.cells m0.cells 31 (0, 0)) by rw [hw1]; exact hp_new rfl)
  clear hw1
  go_loopw [8] (fun y wr => ∃ j : Nat, y = .int .i64 j ∧ j ≤ ms.length ∧ Hid (∀ k, k < j → inP ms m0 k = false) ∧ Hid (Below w1.heap.size w1 wr)) (fun y _ => ms.length - (intOf y).toNat)
  case atStart => exact ⟨0, rfl, Nat.zero_le _, hidd (fun k hk => absurd hk (Nat.not_lt_zero _)), hidd (Below.refl _ _)⟩
  case round =>
    obtain ⟨j, rfl, hj, HQ, Hb⟩ := hrel
    by_cases hlt : j < ms.length
    · have i1 : (j : Int) < ms.length := by omega
      have i0 : (0 : Int) ≤ j := by omega
      obtain ⟨g, c', e', _, _⟩ := HR.out.form (by simp [msC]; omega)
      rw [show (msC ms).length = ms.length by simp [msC]] at e'
      simp only [Value.slice.injEq] at e'
      obtain ⟨rfl, _, _⟩ := e'
      have hje : ms[j]? = some (ms.getD j Mc.zero) := by rw [List.getD_eq_getElem?_getD, List.getElem?_eq_getElem hlt]; rfl
      have HP := hidd (show inP ms m0 j = eqC m0 (ms.getD j Mc.zero) from rfl)
      have HI := hidd (show (ms.getD j Mc.zero).Is (ms.getD j Mc.zero).cells from HM.out _ (List.mem_of_getElem? hje))
      have HX := hidd (fun W (hb : Below w1.heap.size w1 W) => ((HR.out.below B1.out).below hb).loadM hje)
      obtain ⟨mj, hmj⟩ : ∃ mj, mj = ms.getD j Mc.zero := ⟨_, rfl⟩
      rw [← hmj] at HP HI
      simp only [← hmj] at HX
      have HE := hidd (fun W => run_eqIn27 m0 mj H0.out HI.out W)
      obtain ⟨b, hbb⟩ : ∃ b, b = eqC m0 mj := ⟨_, rfl⟩
      rw [← hbb] at HP
      simp only [← hbb] at HE
      clear hmj hbb hje
      go_wp2_with fail
      have S0 := hidd (show Below w1.heap.size w1 wr.drew from bel_drewN Hb.out 1)
      refine wp_region_held (S := fun w' => Below w1.heap.size w1 w') (by kernel_rfl) ?_
      change wpAnyH _ _ _ _ _ _ _ _ (World.drew _)
      refine wpAnyH_take (i := 0) (v := ?v0) rfl (by kernel_rfl) (by kernel_rfl) (by kernel_rfl) (fun _ _ _ h => h) (Or.inl ⟨by rfl, ?h0⟩) S0.out ?_
      case h0 => (intro w4 hS; have x1 := run_loadM (W := w4) (hp_bel K1.out hS); have x2 := HX.out w4 hS; have x3 := HE.out w4; clear hS; go_simp; first | done | with_reducible rfl)
      simp only [Act.put, List.getElem_toArray, List.getElem_cons_succ, List.getElem_cons_zero, List.setIfInBounds_toArray, List.set_cons_zero, List.set_cons_succ]
      refine wpAnyH_take (i := 1) (v := ?v1) rfl (by kernel_rfl) (by kernel_rfl) (by kernel_rfl) (fun _ _ _ h => h) (Or.inl ⟨by rfl, ?h1⟩) S0.out ?_
      case h1 => (intro w4 hS; have x1 := run_loadM (W := w4) (hp_bel K1.out hS); have x2 := HX.out w4 hS; have x3 := HE.out w4; clear hS; go_simp; first | done | with_reducible rfl)
      simp only [Act.put, List.getElem_toArray, List.getElem_cons_succ, List.getElem_cons_zero, List.setIfInBounds_toArray, List.set_cons_zero, List.set_cons_succ]
      refine wpAnyH_take (i := 2) (v := ?v2) rfl (by kernel_rfl) (by kernel_rfl) (by kernel_rfl) (fun _ _ _ h => h) (Or.inl ⟨by rfl, ?h2⟩) S0.out ?_
      case h2 => (intro w4 hS; have x1 := run_loadM (W := w4) (hp_bel K1.out hS); have x2 := HX.out w4 hS; have x3 := HE.out w4; clear hS; go_simp; first | done | with_reducible rfl)
      simp only [Act.put, List.getElem_toArray, List.getElem_cons_succ, List.getElem_cons_zero, List.setIfInBounds_toArray, List.set_cons_zero, List.set_cons_succ]
      refine wpAnyH_take (i := 3) (v := ?v3) rfl (by kernel_rfl) (by kernel_rfl) (by kernel_rfl) (fun _ _ _ h => h) (Or.inl ⟨by rfl, ?h3⟩) S0.out ?_
      case h3 => (intro w4 hS; have x1 := run_loadM (W := w4) (hp_bel K1.out hS); have x2 := HX.out w4 hS; have x3 := HE.out w4; clear hS; go_simp; first | done | with_reducible rfl)
      simp only [Act.put, List.getElem_toArray, List.getElem_cons_succ, List.getElem_cons_zero, List.setIfInBounds_toArray, List.set_cons_zero, List.set_cons_succ]
      refine wpAnyH_take (i := 4) (v := ?v4) rfl (by kernel_rfl) (by kernel_rfl) (by kernel_rfl) (fun _ _ _ h => h) (Or.inl ⟨by rfl, ?h4⟩) S0.out ?_
      case h4 => (intro w4 hS; have x1 := run_loadM (W := w4) (hp_bel K1.out hS); have x2 := HX.out w4 hS; have x3 := HE.out w4; clear hS; go_simp; first | done | with_reducible rfl)
      simp only [Act.put, List.getElem_toArray, List.getElem_cons_succ, List.getElem_cons_zero, List.setIfInBounds_toArray, List.set_cons_zero, List.set_cons_succ]
      refine wpAnyH_take (i := 5) (v := ?v5) rfl (by kernel_rfl) (by kernel_rfl) (by kernel_rfl) (fun _ _ _ h => h) (Or.inl ⟨by rfl, ?h5⟩) S0.out ?_
      case h5 => (intro w4 hS; have x1 := run_loadM (W := w4) (hp_bel K1.out hS); have x2 := HX.out w4 hS; have x3 := HE.out w4; clear hS; go_simp; first | done | with_reducible rfl)
      simp only [Act.put, List.getElem_toArray, List.getElem_cons_succ, List.getElem_cons_zero, List.setIfInBounds_toArray, List.set_cons_zero, List.set_cons_succ]
      refine wpAnyH_done (by kernel_rfl) ?_ _
      cases b with
      | true =>
        have HF := hidd (fidx_hit hlt HP.out HQ.out)
        go_wp2_with fail
        go_ret
        exact ⟨ret_i HF.out.symm, bel_then B1.out S0.out⟩
      | false =>
        go_wp2_with fail
        go_roundw
        case rel =>
          refine ⟨j + 1, by go_num, by omega, hidd (fun k hk => ?_), S0⟩
          by_cases e : k = j
          · subst e; exact HP.out
          · exact HQ.out k (by omega)
        case measure => first | (simp [intOf]; done) | (simp [intOf]; omega)
    · have he : j = ms.length := by omega
      subst he
      have HF := hidd (fidx_miss HQ.out)
      clear hlt
      go_wp2_with fail
      go_ret
      exact ⟨ret_i HF.out.symm, bel_then B1.out Hb.out⟩
theorem slicesContainsM_any (base : Nat) (v : Value) (ms : List Mc) (hms : AllIs ms) (m0 : Mc) (h0 : m0.Is m0.cells) (w : World) (hr : OwnW w base 31 98 v (msC ms)) (hl : ms.length ≤ 1000000) :
    Calls Try.prog 70 #[v, .agg m0.cells] w fun e w' => e = .returned (.bool (decide (0 ≤ fidx (inP ms m0) ms.length))) ∧ Below w.heap.size w w' := by
  have HI := hidd (slicesIdxM_any base v ms hms m0 h0 _ (hr.below (bel_alloc' w (.cells m0.cells 31))) hl)
  obtain ⟨A, c, rfl⟩ := hr.slice
  obtain ⟨f, hf⟩ : ∃ f, f = fidx (inP ms m0) ms.length := ⟨_, rfl⟩
  rw [← hf] at HI ⊢
  clear hr hf
  go_enter Try.func70, Try.ntmps70
  go_wp2_with (first | (refine ldC rfl (.tmp 3) rfl _ m0 (hp_new rfl) (by rfl) ?_) | (go_at_call 90; refine HI.out.mono ?_; rintro e w1 ⟨rfl, hb⟩; have Hb := hidd hb; clear hb))
  go_ret
  exact ⟨ret_b rfl, bel_then (bel_alloc' _ _) Hb.out⟩
end Go.Proofs.Ytcghcbdefajpgaa

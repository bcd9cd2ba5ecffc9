/- Walks: whether a word stands in a list, of the program. -/
import Derived.Test.YtcghcbdefajpgaaMix
import Derived.Test.YtcghcbdefajpgaaGmw
import Derived.Test.YtcghcbdefajpgaaMow0
namespace Go.Proofs.Ytcghcbdefajpgaa
open Go.RowKit
set_option linter.unusedSimpArgs false

noncomputable def Gm.inB (g : Gm) (ms : List Mc) (u : List Int) : Bool := if (g.moM u).2 = 0 then decide (0 ≤ fidx (inP ms (g.moM u).1) ms.length) else false
theorem Gm.moM_code (g : Gm) (u : List Int) : (g.moM u).2 = 0 ∨ g.moM u = (Mc.zero, 3) := by
  by_cases hc : (g.secs (fun _ => true) u).2.2 = 0
  · rw [Gm.moM_ok hc]
    by_cases h : 16 < (g.sT (g.secs (fun _ => true) u).1 (g.secs (fun _ => true) u).2.1).bof.length
    · exact .inr (Gm.toM_big h)
    · left; rw [Gm.toM_ok h]
  · exact .inr (Gm.moM_bad hc).2
theorem results_tmp_cell_tmp {P : Program} {fn : Func} {p t1 t3 : Tmp} {ty : TypeId} (h : fn.results = #[.tmp t1, .cell p ty, .tmp t3]) (tmps : Array Value) (w : World) (g : Nat) (t : TypeId) (cs : Array Value) (fr : Nat × Nat) (d : TypeDesc) (v v' : Value)
    (hv : tmps.getD t1 undef = v) (hp : tmps.getD p undef = .pointer (some ⟨g, 0, none⟩)) (hv' : tmps.getD t3 undef = v') (hg : w.heap[g]? = some (.cells cs t fr))
    (hu : P.underlying ty = some d) (hd : (match d with | .struct _ | .array _ _ => true | _ => false) = true) (hi : (P.info? ty).map (·.size) = some cs.size) :
    (results fn tmps).run P w = .ok (.tuple #[v, .agg cs, v']) w := by
  have hp' : tmps[p]?.getD undef = .pointer (some ⟨g, 0, none⟩) := by simpa using hp
  have hv2 : tmps[t1]?.getD undef = v := by simpa using hv
  have hv3 : tmps[t3]?.getD undef = v' := by simpa using hv'
  simp [results, h, hp', hv2, hv3, asAddr, run_loadVar_row w g t ty cs fr d hg hu hd hi]

set_option maxRecDepth 100000 in
set_option maxHeartbeats 2000000 in
theorem has_any (g : Gm) (hok : g.Ok) (G : Nat) (vo vt : Value) (l : Nat) (vw vm : Value) (ms : List Mc) (base : Nat) (hms : AllIs ms) (hl : ms.length ≤ 1000) (v : Value) (u : List Int) (hu : g.Nums u) (hlen : u.length ≤ 1048576) (w : World) (hG : GrpAt w G g vo vt)
    (hL : w.heap[l]? = some (.cells #[.pointer (some ⟨G, 0, none⟩), vw, vm] 64 (0, 0))) (hM : OwnW w base 31 98 vm (msC ms)) (hr : RdI w v u) :
    Calls Try.prog 41 #[.pointer (some ⟨l, 0, none⟩), v] w fun e w' => e = .returned (.tuple #[.bool (g.inB ms u), .agg (g.moM u).1.cells, .int .i64 (g.moM u).2]) ∧ Below w.heap.size w w' := by
  have HMc := hidd (fun W (hb : Below w.heap.size w W) => machine_any g hok G vo vt v u hu hlen W (hG.below hb) (hr.below hb))
  have HIs := hidd (Gm.moM_is hok hu)
  have HMs := hidd hms
  have HL := hidd hL
  have HM := hidd hM
  have HB : Hid (g.inB ms u = if (g.moM u).2 = 0 then decide (0 ≤ fidx (inP ms (g.moM u).1) ms.length) else false) := hidd rfl
  have hmc := g.moM_code u
  obtain ⟨A0, c0, rfl, hq0⟩ := hr
  obtain ⟨Am, cm, hve⟩ := hM.slice
  rw [show (msC ms).length = ms.length by simp [msC]] at hve
  subst hve
  obtain ⟨M, hMM⟩ : ∃ M, M = g.moM u := ⟨_, rfl⟩
  rw [← hMM] at HIs HB hmc ⊢
  simp only [← hMM] at HMc
  have z1 : w.cell? ⟨l, 0, none⟩ = some (.pointer (some ⟨G, 0, none⟩)) := blkc hL 0
  have z2 : l < w.heap.size := hp_lt hL
  have z3 : ¬ l = w.heap.size := by omega
  have z4 : ¬ w.heap.size = l := by omega
  clear hok hu hq0 hG hL hM hms hMM
  go_enter Try.func41, Try.ntmps41
  go_wp2_with fail
  refine (HMc.out _ (bel_alloc' _ _)).mono ?_
  rintro e w1 ⟨rfl, hb⟩
  have B1 := hidd (bel_then (bel_alloc' w (.cells Try.zeroCells31 31)) hb)
  have Z1 := hidd (show w1.heap[w.heap.size]? = some (.cells Mc.zero.cells 31 (0, 0)) by rw [← zeroC_M]; exact hp_bel (hp_new rfl) hb)
  clear hb HMc z1 z3 z4
  rcases hmc with hc | hc
  · rw [if_pos hc] at HB
    have Hc0 := hidd hc
    rw [hc]
    clear hc
    go_wp2_with ((with_reducible show wpList _ _ _ _ _ (World.alloc _ _)); refine stNew rfl (.tmp 7) (.tmp 16) (by rfl) M.1 w1.heap.size rfl (by rw [zeroC_M]; exact Mc.cells_size _) (by rfl) (by rfl) ?_)
    obtain ⟨p, hp⟩ : ∃ p, p = w1.heap.size := ⟨_, rfl⟩
    obtain ⟨w2, hw2⟩ : ∃ w2, w2 = w1.alloc (.cells M.1.cells 31) := ⟨_, rfl⟩
    simp only [← hp]
    rw [← hw2]
    have hzz := hp_lt Z1.out
    have hlp : l ≠ p := by rw [hp]; have := B1.out.size; omega
    have hwp : w.heap.size ≠ p := by rw [hp]; omega
    have hwl : l ≠ w.heap.size := by omega
    have b2 : Below w1.heap.size w1 w2 := by rw [hw2]; exact bel_alloc' _ _
    have B2 := hidd (bel_then B1.out b2)
    have K2 := hidd (show w2.heap[p]? = some (.cells M.1.cells 31 (0, 0)) by rw [hw2]; exact hp_new hp)
    have Z2 := hidd (hp_bel Z1.out b2)
    clear hw2 hp b2
    obtain ⟨wd, hwd⟩ : ∃ wd, wd = w2.drew := ⟨_, rfl⟩
    have bd : Below w2.heap.size w2 wd := by rw [hwd]; exact drew_bel w2
    have Bd := hidd (bel_then B2.out bd)
    have Kd := hidd (hp_bel K2.out bd)
    have Zd := hidd (hp_bel Z2.out bd)
    have Ld := hidd (hp_bel HL.out Bd.out)
    have Md := hidd (HM.out.below Bd.out)
    have S0 := hidd (show wd.heap[p]? = some (.cells M.1.cells 31 (0, 0)) ∧ wd.cell? ⟨l, 2, none⟩ = some (.slice Am ms.length cm) from ⟨Kd.out, blkc Ld.out 2⟩)
    refine wp_region_held (S := fun W => W.heap[p]? = some (.cells M.1.cells 31 (0, 0)) ∧ W.cell? ⟨l, 2, none⟩ = some (.slice Am ms.length cm)) (by kernel_rfl) ?_
    change wpAnyH _ _ _ _ _ _ _ _ (World.drew _)
    rw [← hwd]
    clear hwd bd
    refine wpAnyH_take (i := 0) (v := ?v0) rfl (by kernel_rfl) (by kernel_rfl) (by kernel_rfl) (fun _ _ _ h => h) (Or.inl ⟨by rfl, ?h0⟩) S0.out ?_
    case h0 => (intro w4 hS; have x1 := run_loadM (W := w4) hS.1; have x2 := hS.2; clear hS; go_simp; first | done | with_reducible rfl)
    simp only [Act.put, List.getElem_toArray, List.getElem_cons_succ, List.getElem_cons_zero, List.setIfInBounds_toArray, List.set_cons_zero, List.set_cons_succ]
    refine wpAnyH_take (i := 1) (v := ?v1) rfl (by kernel_rfl) (by kernel_rfl) (by kernel_rfl) (fun _ _ _ h => h) (Or.inl ⟨by rfl, ?h1⟩) S0.out ?_
    case h1 => (intro w4 hS; have x1 := run_loadM (W := w4) hS.1; have x2 := hS.2; clear hS; go_simp; first | done | with_reducible rfl)
    simp only [Act.put, List.getElem_toArray, List.getElem_cons_succ, List.getElem_cons_zero, List.setIfInBounds_toArray, List.set_cons_zero, List.set_cons_succ]
    refine wpAnyH_take (i := 2) (v := ?v2) rfl (by kernel_rfl) (by kernel_rfl) (by kernel_rfl) (fun _ _ _ h => h) (Or.inl ⟨by rfl, ?h2⟩) S0.out ?_
    case h2 => (intro w4 hS; have x1 := run_loadM (W := w4) hS.1; have x2 := hS.2; clear hS; go_simp; first | done | with_reducible rfl)
    simp only [Act.put, List.getElem_toArray, List.getElem_cons_succ, List.getElem_cons_zero, List.setIfInBounds_toArray, List.set_cons_zero, List.set_cons_succ]
    refine wpAnyH_take (i := 3) (v := ?v3) rfl (by kernel_rfl) (by kernel_rfl) (by kernel_rfl) (fun _ _ _ h => h) (Or.inl ⟨by rfl, ?h3⟩) S0.out ?_
    case h3 => (intro w4 hS; have x1 := run_loadM (W := w4) hS.1; have x2 := hS.2; clear hS; go_simp; first | done | with_reducible rfl)
    simp only [Act.put, List.getElem_toArray, List.getElem_cons_succ, List.getElem_cons_zero, List.setIfInBounds_toArray, List.set_cons_zero, List.set_cons_succ]
    refine wpAnyH_take (i := 4) (v := ?v4) rfl (by kernel_rfl) (by kernel_rfl) (by kernel_rfl) (fun _ _ _ h => h) (Or.inl ⟨by rfl, ?h4⟩) S0.out ?_
    case h4 => (intro w4 hS; have x1 := run_loadM (W := w4) hS.1; have x2 := hS.2; clear hS; go_simp; first | done | with_reducible rfl)
    simp only [Act.put, List.getElem_toArray, List.getElem_cons_succ, List.getElem_cons_zero, List.setIfInBounds_toArray, List.set_cons_zero, List.set_cons_succ]
    refine wpAnyH_take (i := 6) (v := ?v6) rfl (by kernel_rfl) (by kernel_rfl) (by kernel_rfl) (fun _ _ _ h => h) (Or.inl ⟨by rfl, ?h6⟩) S0.out ?_
    case h6 => (intro w4 hS; have x1 := run_loadM (W := w4) hS.1; have x2 := hS.2; clear hS; go_simp; first | done | with_reducible rfl)
    simp only [Act.put, List.getElem_toArray, List.getElem_cons_succ, List.getElem_cons_zero, List.setIfInBounds_toArray, List.set_cons_zero, List.set_cons_succ]
    refine wpAnyH_ready (rs := [5]) (by kernel_rfl) (by simp) (AllReadyH.cons rfl (fun K hK => ?_) AllReadyH.nil)
    go_simp
    refine (slicesContainsM_any base _ ms HMs.out M.1 HIs.out wd Md.out (by omega)).mono ?_
    rintro e w5 ⟨rfl, hb5⟩
    have B5 := hidd (bel_then Bd.out hb5)
    have Z5 := hidd (hp_bel Zd.out hb5)
    have S5 := hidd (show w5.heap[p]? = some (.cells M.1.cells 31 (0, 0)) ∧ w5.cell? ⟨l, 2, none⟩ = some (.slice Am ms.length cm) from ⟨hp_bel Kd.out hb5, blkc (hp_bel Ld.out hb5) 2⟩)
    obtain ⟨b, hb⟩ : ∃ b, b = decide (0 ≤ fidx (inP ms M.1) ms.length) := ⟨_, rfl⟩
    rw [← hb] at HB
    refine hK.out _ _ S5.out (fun _ => ?_)
    rw [← hb]
    clear hK K hb hb5
    refine wpAnyH_take (i := 7) (v := ?v7) rfl (by kernel_rfl) (by kernel_rfl) (by kernel_rfl) (fun _ _ _ h => h) (Or.inl ⟨by rfl, ?h7⟩) S5.out ?_
    case h7 => (intro w4 hS; clear hS; go_simp; first | done | with_reducible rfl)
    simp only [Act.put, List.getElem_toArray, List.getElem_cons_succ, List.getElem_cons_zero, List.setIfInBounds_toArray, List.set_cons_zero, List.set_cons_succ]
    refine wpAnyH_ready (rs := [8]) (by kernel_rfl) (by simp) (AllReadyH.cons rfl (fun K hK => ?_) AllReadyH.nil)
    have hk := run_storeM (W := w5) (m := M.1) Z5.out
    go_simp
    have S6 := hidd (show (w5.setRow w.heap.size M.1.cells).heap[p]? = some (.cells M.1.cells 31 (0, 0)) ∧ (w5.setRow w.heap.size M.1.cells).cell? ⟨l, 2, none⟩ = some (.slice Am ms.length cm) from ⟨hp_row S5.out.1 (Ne.symm hwp) _, by
      unfold World.cell?
      rw [setRow_other _ _ _ _ (show (⟨l, 2, none⟩ : Addr).block ≠ w.heap.size from hwl)]
      exact S5.out.2⟩)
    refine hK.out _ _ S6.out (fun _ => ?_)
    clear hK K hk
    refine wpAnyH_take (i := 9) (v := ?v9) rfl (by kernel_rfl) (by kernel_rfl) (by kernel_rfl) (fun _ _ _ h => h) (Or.inl ⟨by rfl, ?h9⟩) S6.out ?_
    case h9 => (intro w4 hS; clear hS; go_simp; first | done | with_reducible rfl)
    simp only [Act.put, List.getElem_toArray, List.getElem_cons_succ, List.getElem_cons_zero, List.setIfInBounds_toArray, List.set_cons_zero, List.set_cons_succ]
    refine wpAnyH_done (by kernel_rfl) ?_ _
    go_wp2_with fail
    refine bodyPost_ret (v := .tuple #[.bool b, .agg M.1.cells, .int .i64 0]) (results_tmp_cell_tmp rfl _ _ w.heap.size 31 _ (0, 0) _ _ _ rfl rfl rfl (setRow_heap _ _ _ _ _ _ Z5.out) Try.underlying31 rfl (cells98i _)) rfl ⟨by rw [HB.out, Hc0.out], ?_⟩
    exact bel_row B5.out (Nat.le_refl _) _
  · subst hc
    have HB2 : Hid (g.inB ms u = false) := hidd (by rw [HB.out]; rfl)
    have Z2 := hidd (hp_old Z1.out : (w1.alloc (.cells Mc.zero.cells 31)).heap[w.heap.size]? = _)
    have B2 := hidd (bel_then B1.out (bel_alloc' w1 (.cells Mc.zero.cells 31)))
    clear HB
    go_wp2_with (first | ((with_reducible show wpList _ _ _ _ _ (World.alloc _ _)); refine stNew rfl (.tmp 7) (.tmp 16) (by rfl) Mc.zero w1.heap.size rfl (by rw [zeroC_M]; exact Mc.cells_size _) (by rfl) (by rfl) ?_) | (refine stC rfl (.tmp 5) (.tmp 20) rfl _ Mc.zero Z2.out (Mc.cells_size _) (by rfl) (by rw [← zeroM_cells]; rfl) ?_))
    refine bodyPost_ret (v := .tuple #[.bool false, .agg Mc.zero.cells, .int .i64 3]) (results_tmp_cell_tmp rfl _ _ w.heap.size 31 _ (0, 0) _ _ _ rfl rfl rfl (setRow_heap _ _ _ _ _ _ Z2.out) Try.underlying31 rfl (cells98i _)) rfl ⟨by rw [HB2.out], ?_⟩
    exact bel_row B2.out (Nat.le_refl _) _
end Go.Proofs.Ytcghcbdefajpgaa

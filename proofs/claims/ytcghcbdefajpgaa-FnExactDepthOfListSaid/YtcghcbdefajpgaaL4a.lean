/- Walks: the place of a word's machine in a list, of the reference. -/
import Derived.Test.YtcghcbdefajpgaaMix
import Derived.Test.YtcghcbdefajpgaaMos
import Derived.Test.YtcghcbdefajpgaaHas
namespace Go.Proofs.Ytcghcbdefajpgaa
open Go.RowKit
set_option linter.unusedSimpArgs false

noncomputable def Gm.atI (g : Gm) (ms : List Mc) (u : List Int) : Int := if (g.moM u).2 = 0 then fidx (inP ms (g.moM u).1) ms.length else -1
theorem Gm.inB_at (g : Gm) (ms : List Mc) (u : List Int) : g.inB ms u = ((g.moM u).2 == 0 && decide (0 ≤ g.atI ms u)) := by
  unfold Gm.inB Gm.atI
  by_cases h : (g.moM u).2 = 0
  · rw [if_pos h, if_pos h, h]; rfl
  · rw [if_neg h, show ((g.moM u).2 == 0) = false from by simp [h]]; rfl
theorem eqC_comm (m m' : Mc) : eqC m m' = eqC m' m := by
  have h : (m.cells = m'.cells) = (m'.cells = m.cells) := propext ⟨Eq.symm, Eq.symm⟩
  unfold eqC
  congr 1
theorem eqC_comm_dummy : True := trivial

set_option maxRecDepth 100000 in
set_option maxHeartbeats 4000000 in
theorem l04At_any (g : Gm) (hok : g.Ok) (base : Nat) (vw vm : Value) (ms : List Mc) (hms : AllIs ms) (hl : ms.length ≤ 1000) (v : Value) (u : List Int) (hu : g.Nums u) (hlen : u.length ≤ 1048576) (w : World)
    (hvw : ∃ A n c, vw = .slice A n c) (hM : OwnW w base 31 98 vm (msC ms)) (hr : RdI w v u) :
    Calls Try.prog 18 #[.agg g.mc.cells, .agg #[vw, vm], v] w fun e w' => e = .returned (.tuple #[.int .i64 (g.atI ms u), .agg (g.moM u).1.cells, .int .i64 (g.moM u).2]) ∧ Below w.heap.size w w' := by
  have HMc := hidd (fun W (hb : Below w.heap.size w W) => l02Machine_any g hok v u hu hlen W (hr.below hb))
  have HIs := hidd (Gm.moM_is hok hu)
  have HMs := hidd hms
  have HM := hidd hM
  have HB : Hid (g.atI ms u = if (g.moM u).2 = 0 then fidx (inP ms (g.moM u).1) ms.length else -1) := hidd rfl
  have hmc := g.moM_code u
  obtain ⟨Aw, nw, cw, rfl⟩ := hvw
  obtain ⟨A0, c0, rfl, hq0⟩ := hr
  obtain ⟨Am, cm, hve⟩ := hM.slice
  rw [show (msC ms).length = ms.length by simp [msC]] at hve
  subst hve
  obtain ⟨M, hMM⟩ : ∃ M, M = g.moM u := ⟨_, rfl⟩
  rw [← hMM] at HIs HB hmc ⊢
  simp only [← hMM] at HMc
  clear hok hu hq0 hM hms hMM
  go_enter Try.func18, Try.ntmps18
  go_wp2_with (refine ldC rfl (.tmp 3) rfl _ g.mc (hp_old (hp_old (hp_new rfl))) (by rfl) ?_)
  refine (HMc.out _ (bel_then ((bel_alloc' w (.cells g.mc.cells 31)).alloc (by simp) (.cells #[.slice Aw nw cw, .slice Am ms.length cm] 45)) (bel_alloc' _ (.cells Try.zeroCells31 31)))).mono ?_
  rintro e w1 ⟨rfl, hb⟩
  have B1 := hidd (bel_then (bel_then ((bel_alloc' w (.cells g.mc.cells 31)).alloc (by simp) (.cells #[.slice Aw nw cw, .slice Am ms.length cm] 45)) (bel_alloc' _ (.cells Try.zeroCells31 31))) hb)
  have L1 : w1.heap[w.heap.size + 1]? = some (.cells #[.slice Aw nw cw, .slice Am ms.length cm] 45 (0, 0)) := hp_bel (hp_old (hp_new (by simp))) hb
  have Z1 : w1.heap[w.heap.size + 1 + 1]? = some (.cells Mc.zero.cells 31 (0, 0)) := by rw [← zeroC_M]; exact hp_bel (hp_new (by simp)) hb
  obtain ⟨b1, hb1⟩ : ∃ b1, b1 = w.heap.size + 1 := ⟨_, rfl⟩
  obtain ⟨b2, hb2⟩ : ∃ b2, b2 = b1 + 1 := ⟨_, rfl⟩
  simp only [← hb1, ← hb2] at L1 Z1 ⊢
  have L1' := hidd L1
  have Z1' := hidd Z1
  have hb12 : b1 ≠ b2 := by omega
  have hwb : w.heap.size ≤ b2 := by omega
  have hz1 := hp_lt Z1
  clear hb HMc L1 Z1 hb1 hb2
  have KEY : ∀ w2 : World, Below w1.heap.size w1 w2 → w2.heap[w1.heap.size]? = some (.cells M.1.cells 31 (0, 0)) → True := fun _ _ _ => trivial
  clear KEY
  rcases hmc with hc | hc
  · rw [if_pos hc] at HB
    have Hc0 := hidd hc
    rw [hc]
    clear hc
    go_wp2_with ((with_reducible show wpList _ _ _ _ _ (World.alloc _ _)); refine stNew rfl (.tmp 9) (.tmp 16) (by rfl) M.1 w1.heap.size rfl (by rw [zeroC_M]; exact Mc.cells_size _) (by rfl) (by rfl) ?_)
    obtain ⟨p, hp⟩ : ∃ p, p = w1.heap.size := ⟨_, rfl⟩
    obtain ⟨w2, hw2⟩ : ∃ w2, w2 = w1.alloc (.cells M.1.cells 31) := ⟨_, rfl⟩
    have b2e : Below w1.heap.size w1 w2 := by rw [hw2]; exact bel_alloc' _ _
    have B2 := hidd (bel_then B1.out b2e)
    have K2 := hidd (show w2.heap[p]? = some (.cells M.1.cells 31 (0, 0)) by rw [hw2]; exact hp_new hp)
    have Z2 := hidd (hp_bel Z1'.out b2e)
    have L2 := hidd (hp_bel L1'.out b2e)
    have hpb : p ≠ b2 := by omega
    simp only [← hp]
    rw [← hw2]
    clear hw2 b2e hp
    go_loopw [11] (fun y wr => ∃ j : Nat, y = .int .i64 j ∧ j ≤ ms.length ∧ Hid (∀ k, k < j → inP ms M.1 k = false) ∧ Hid (Below w2.heap.size w2 wr)) (fun y _ => ms.length - (intOf y).toNat)
    case atStart => exact ⟨0, rfl, Nat.zero_le _, hidd (fun k hk => absurd hk (Nat.not_lt_zero _)), hidd (Below.refl _ _)⟩
    case round =>
      obtain ⟨j, rfl, hj, HQ, Hb⟩ := hrel
      have q1 : wr.cell? ⟨b1, 1, none⟩ = some (.slice Am ms.length cm) := blkc (hp_bel L2.out Hb.out) 1
      by_cases hlt : j < ms.length
      · have i1 : (j : Int) < ms.length := by omega
        have i0 : (0 : Int) ≤ j := by omega
        obtain ⟨ga, c', e', _, _⟩ := HM.out.form (by simp [msC]; omega)
        rw [show (msC ms).length = ms.length by simp [msC]] at e'
        simp only [Value.slice.injEq] at e'
        obtain ⟨rfl, _, _⟩ := e'
        have hje : ms[j]? = some (ms.getD j Mc.zero) := by rw [List.getD_eq_getElem?_getD, List.getElem?_eq_getElem hlt]; rfl
        have HP := hidd (show inP ms M.1 j = eqC (ms.getD j Mc.zero) M.1 from eqC_comm _ _)
        have HI := hidd (show (ms.getD j Mc.zero).Is (ms.getD j Mc.zero).cells from HMs.out _ (List.mem_of_getElem? hje))
        have HX := hidd (fun W (hb : Below w2.heap.size w2 W) => ((HM.out.below B2.out).below hb).loadM hje)
        obtain ⟨mj, hmj⟩ : ∃ mj, mj = ms.getD j Mc.zero := ⟨_, rfl⟩
        rw [← hmj] at HP HI
        simp only [← hmj] at HX
        have HE := hidd (fun W => run_eqIn27 mj M.1 HI.out HIs.out W)
        obtain ⟨b, hbb⟩ : ∃ b, b = eqC mj M.1 := ⟨_, rfl⟩
        rw [← hbb] at HP
        simp only [← hbb] at HE
        clear hmj hbb hje
        go_wp2_with fail
        clear q1
        have S0 := hidd (show Below w2.heap.size w2 wr.drew from bel_drewN Hb.out 1)
        refine wp_region_held (S := fun w' => Below w2.heap.size w2 w') (by kernel_rfl) ?_
        change wpAnyH _ _ _ _ _ _ _ _ (World.drew _)
        refine wpAnyH_take (i := 0) (v := ?v0b) rfl (by kernel_rfl) (by kernel_rfl) (by kernel_rfl) (fun _ _ _ h => h) (Or.inl ⟨by rfl, ?h0b⟩) S0.out ?_
        case h0b => (intro w4 hS; have x0 : w4.cell? ⟨b1, 1, none⟩ = some (.slice (some ⟨ga, 0, none⟩) ms.length cm) := blkc (hp_bel L2.out hS) 1; have x1 := run_loadM (W := w4) (hp_bel K2.out hS); have x2 := HX.out w4 hS; have x3 := HE.out w4; clear hS; go_simp; first | done | with_reducible rfl)
        simp only [Act.put, List.getElem_toArray, List.getElem_cons_succ, List.getElem_cons_zero, List.setIfInBounds_toArray, List.set_cons_zero, List.set_cons_succ]
        refine wpAnyH_take (i := 1) (v := ?v1b) rfl (by kernel_rfl) (by kernel_rfl) (by kernel_rfl) (fun _ _ _ h => h) (Or.inl ⟨by rfl, ?h1b⟩) S0.out ?_
        case h1b => (intro w4 hS; have x0 : w4.cell? ⟨b1, 1, none⟩ = some (.slice (some ⟨ga, 0, none⟩) ms.length cm) := blkc (hp_bel L2.out hS) 1; have x1 := run_loadM (W := w4) (hp_bel K2.out hS); have x2 := HX.out w4 hS; have x3 := HE.out w4; clear hS; go_simp; first | done | with_reducible rfl)
        simp only [Act.put, List.getElem_toArray, List.getElem_cons_succ, List.getElem_cons_zero, List.setIfInBounds_toArray, List.set_cons_zero, List.set_cons_succ]
        refine wpAnyH_take (i := 2) (v := ?v2b) rfl (by kernel_rfl) (by kernel_rfl) (by kernel_rfl) (fun _ _ _ h => h) (Or.inl ⟨by rfl, ?h2b⟩) S0.out ?_
        case h2b => (intro w4 hS; have x0 : w4.cell? ⟨b1, 1, none⟩ = some (.slice (some ⟨ga, 0, none⟩) ms.length cm) := blkc (hp_bel L2.out hS) 1; have x1 := run_loadM (W := w4) (hp_bel K2.out hS); have x2 := HX.out w4 hS; have x3 := HE.out w4; clear hS; go_simp; first | done | with_reducible rfl)
        simp only [Act.put, List.getElem_toArray, List.getElem_cons_succ, List.getElem_cons_zero, List.setIfInBounds_toArray, List.set_cons_zero, List.set_cons_succ]
        refine wpAnyH_take (i := 3) (v := ?v3b) rfl (by kernel_rfl) (by kernel_rfl) (by kernel_rfl) (fun _ _ _ h => h) (Or.inl ⟨by rfl, ?h3b⟩) S0.out ?_
        case h3b => (intro w4 hS; have x0 : w4.cell? ⟨b1, 1, none⟩ = some (.slice (some ⟨ga, 0, none⟩) ms.length cm) := blkc (hp_bel L2.out hS) 1; have x1 := run_loadM (W := w4) (hp_bel K2.out hS); have x2 := HX.out w4 hS; have x3 := HE.out w4; clear hS; go_simp; first | done | with_reducible rfl)
        simp only [Act.put, List.getElem_toArray, List.getElem_cons_succ, List.getElem_cons_zero, List.setIfInBounds_toArray, List.set_cons_zero, List.set_cons_succ]
        refine wpAnyH_take (i := 4) (v := ?v4b) rfl (by kernel_rfl) (by kernel_rfl) (by kernel_rfl) (fun _ _ _ h => h) (Or.inl ⟨by rfl, ?h4b⟩) S0.out ?_
        case h4b => (intro w4 hS; have x0 : w4.cell? ⟨b1, 1, none⟩ = some (.slice (some ⟨ga, 0, none⟩) ms.length cm) := blkc (hp_bel L2.out hS) 1; have x1 := run_loadM (W := w4) (hp_bel K2.out hS); have x2 := HX.out w4 hS; have x3 := HE.out w4; clear hS; go_simp; first | done | with_reducible rfl)
        simp only [Act.put, List.getElem_toArray, List.getElem_cons_succ, List.getElem_cons_zero, List.setIfInBounds_toArray, List.set_cons_zero, List.set_cons_succ]
        refine wpAnyH_take (i := 5) (v := ?v5b) rfl (by kernel_rfl) (by kernel_rfl) (by kernel_rfl) (fun _ _ _ h => h) (Or.inl ⟨by rfl, ?h5b⟩) S0.out ?_
        case h5b => (intro w4 hS; have x0 : w4.cell? ⟨b1, 1, none⟩ = some (.slice (some ⟨ga, 0, none⟩) ms.length cm) := blkc (hp_bel L2.out hS) 1; have x1 := run_loadM (W := w4) (hp_bel K2.out hS); have x2 := HX.out w4 hS; have x3 := HE.out w4; clear hS; go_simp; first | done | with_reducible rfl)
        simp only [Act.put, List.getElem_toArray, List.getElem_cons_succ, List.getElem_cons_zero, List.setIfInBounds_toArray, List.set_cons_zero, List.set_cons_succ]
        refine wpAnyH_take (i := 6) (v := ?v6b) rfl (by kernel_rfl) (by kernel_rfl) (by kernel_rfl) (fun _ _ _ h => h) (Or.inl ⟨by rfl, ?h6b⟩) S0.out ?_
        case h6b => (intro w4 hS; have x0 : w4.cell? ⟨b1, 1, none⟩ = some (.slice (some ⟨ga, 0, none⟩) ms.length cm) := blkc (hp_bel L2.out hS) 1; have x1 := run_loadM (W := w4) (hp_bel K2.out hS); have x2 := HX.out w4 hS; have x3 := HE.out w4; clear hS; go_simp; first | done | with_reducible rfl)
        simp only [Act.put, List.getElem_toArray, List.getElem_cons_succ, List.getElem_cons_zero, List.setIfInBounds_toArray, List.set_cons_zero, List.set_cons_succ]
        refine wpAnyH_done (by kernel_rfl) ?_ _
        cases b with
        | true =>
          have HF := hidd (show g.atI ms u = j by rw [HB.out]; exact fidx_hit hlt HP.out HQ.out)
          go_wp2_with fail
          obtain ⟨wd, hwd⟩ : ∃ wd, wd = wr.drew.drew := ⟨_, rfl⟩
          have bd : Below w2.heap.size w2 wd := by rw [hwd]; exact bel_then S0.out (drew_bel _)
          have Bd := hidd (bel_then B2.out bd)
          have Kd := hidd (hp_bel K2.out bd)
          have Zd := hidd (hp_bel Z2.out bd)
          refine wp_region_held (S := fun W => W.heap[p]? = some (.cells M.1.cells 31 (0, 0))) (by kernel_rfl) ?_
          change wpAnyH _ _ _ _ _ _ _ _ (World.drew _)
          rw [← hwd]
          clear hwd bd
          refine wpAnyH_take (i := 0) (v := ?v0c) rfl (by kernel_rfl) (by kernel_rfl) (by kernel_rfl) (fun _ _ _ h => h) (Or.inl ⟨by rfl, ?h0c⟩) Kd.out ?_
          case h0c => (intro w4 hS; have x1 := run_loadM (W := w4) hS; clear hS; go_simp; first | done | with_reducible rfl)
          simp only [Act.put, List.getElem_toArray, List.getElem_cons_succ, List.getElem_cons_zero, List.setIfInBounds_toArray, List.set_cons_zero, List.set_cons_succ]
          refine wpAnyH_take (i := 1) (v := ?v1c) rfl (by kernel_rfl) (by kernel_rfl) (by kernel_rfl) (fun _ _ _ h => h) (Or.inl ⟨by rfl, ?h1c⟩) Kd.out ?_
          case h1c => (intro w4 hS; have x1 := run_loadM (W := w4) hS; clear hS; go_simp; first | done | with_reducible rfl)
          simp only [Act.put, List.getElem_toArray, List.getElem_cons_succ, List.getElem_cons_zero, List.setIfInBounds_toArray, List.set_cons_zero, List.set_cons_succ]
          refine wpAnyH_take (i := 2) (v := ?v2c) rfl (by kernel_rfl) (by kernel_rfl) (by kernel_rfl) (fun _ _ _ h => h) (Or.inl ⟨by rfl, ?h2c⟩) Kd.out ?_
          case h2c => (intro w4 hS; have x1 := run_loadM (W := w4) hS; clear hS; go_simp; first | done | with_reducible rfl)
          simp only [Act.put, List.getElem_toArray, List.getElem_cons_succ, List.getElem_cons_zero, List.setIfInBounds_toArray, List.set_cons_zero, List.set_cons_succ]
          refine wpAnyH_ready (rs := [3]) (by kernel_rfl) (by simp) (AllReadyH.cons rfl (fun K hK => ?_) AllReadyH.nil)
          have hk := run_storeM (W := wd) (m := M.1) Zd.out
          go_simp
          have S6 := hidd (hp_row Kd.out hpb M.1.cells)
          refine hK.out _ _ S6.out (fun _ => ?_)
          clear hK K hk
          refine wpAnyH_take (i := 4) (v := ?v4d) rfl (by kernel_rfl) (by kernel_rfl) (by kernel_rfl) (fun _ _ _ h => h) (Or.inl ⟨by rfl, ?h4d⟩) S6.out ?_
          case h4d => (intro w4 hS; clear hS; go_simp; first | done | with_reducible rfl)
          simp only [Act.put, List.getElem_toArray, List.getElem_cons_succ, List.getElem_cons_zero, List.setIfInBounds_toArray, List.set_cons_zero, List.set_cons_succ]
          refine wpAnyH_done (by kernel_rfl) ?_ _
          go_wp2_with fail
          refine bodyPost_ret (v := .tuple #[.int .i64 j, .agg M.1.cells, .int .i64 0]) (results_tmp_cell_tmp rfl _ _ b2 31 _ (0, 0) _ _ _ rfl rfl rfl (setRow_heap _ _ _ _ _ _ Zd.out) Try.underlying31 rfl (cells98i _)) rfl ⟨by rw [HF.out, Hc0.out], ?_⟩
          exact bel_row Bd.out hwb _
        | false =>
          go_wp2_with fail
          go_roundw
          case rel =>
            refine ⟨j + 1, by go_num, by omega, hidd (fun k hk => ?_), S0⟩
            by_cases e : k = j
            · subst e; exact HP.out
            · exact HQ.out k (by omega)
          case measure => first | (simp [intOf]; done) | (simp [intOf]; omega)
      · have he : j = ms.length := by omega
        subst he
        have HF := hidd (show g.atI ms u = -1 by rw [HB.out]; exact fidx_miss HQ.out)
        clear hlt
        go_wp2_with fail
        obtain ⟨wd, hwd⟩ : ∃ wd, wd = wr.drew := ⟨_, rfl⟩
        have bd : Below w2.heap.size w2 wd := by rw [hwd]; exact bel_then Hb.out (drew_bel _)
        have Bd := hidd (bel_then B2.out bd)
        have Kd := hidd (hp_bel K2.out bd)
        have Zd := hidd (hp_bel Z2.out bd)
        refine wp_region_held (S := fun W => W.heap[p]? = some (.cells M.1.cells 31 (0, 0))) (by kernel_rfl) ?_
        change wpAnyH _ _ _ _ _ _ _ _ (World.drew _)
        rw [← hwd]
        clear hwd bd q1
        refine wpAnyH_take (i := 0) (v := ?v0e) rfl (by kernel_rfl) (by kernel_rfl) (by kernel_rfl) (fun _ _ _ h => h) (Or.inl ⟨by rfl, ?h0e⟩) Kd.out ?_
        case h0e => (intro w4 hS; have x1 := run_loadM (W := w4) hS; clear hS; go_simp; first | done | with_reducible rfl)
        simp only [Act.put, List.getElem_toArray, List.getElem_cons_succ, List.getElem_cons_zero, List.setIfInBounds_toArray, List.set_cons_zero, List.set_cons_succ]
        refine wpAnyH_take (i := 1) (v := ?v1e) rfl (by kernel_rfl) (by kernel_rfl) (by kernel_rfl) (fun _ _ _ h => h) (Or.inl ⟨by rfl, ?h1e⟩) Kd.out ?_
        case h1e => (intro w4 hS; have x1 := run_loadM (W := w4) hS; clear hS; go_simp; first | done | with_reducible rfl)
        simp only [Act.put, List.getElem_toArray, List.getElem_cons_succ, List.getElem_cons_zero, List.setIfInBounds_toArray, List.set_cons_zero, List.set_cons_succ]
        refine wpAnyH_ready (rs := [2]) (by kernel_rfl) (by simp) (AllReadyH.cons rfl (fun K hK => ?_) AllReadyH.nil)
        have hk := run_storeM (W := wd) (m := M.1) Zd.out
        go_simp
        have S6 := hidd (hp_row Kd.out hpb M.1.cells)
        refine hK.out _ _ S6.out (fun _ => ?_)
        clear hK K hk
        refine wpAnyH_take (i := 3) (v := ?v3f) rfl (by kernel_rfl) (by kernel_rfl) (by kernel_rfl) (fun _ _ _ h => h) (Or.inl ⟨by rfl, ?h3f⟩) S6.out ?_
        case h3f => (intro w4 hS; clear hS; go_simp; first | done | with_reducible rfl)
        simp only [Act.put, List.getElem_toArray, List.getElem_cons_succ, List.getElem_cons_zero, List.setIfInBounds_toArray, List.set_cons_zero, List.set_cons_succ]
        refine wpAnyH_done (by kernel_rfl) ?_ _
        go_wp2_with fail
        refine bodyPost_ret (v := .tuple #[.int .i64 (-1), .agg M.1.cells, .int .i64 0]) (results_tmp_cell_tmp rfl _ _ b2 31 _ (0, 0) _ _ _ rfl rfl rfl (setRow_heap _ _ _ _ _ _ Zd.out) Try.underlying31 rfl (cells98i _)) rfl ⟨by rw [HF.out, Hc0.out], ?_⟩
        exact bel_row Bd.out hwb _
  · subst hc
    have HB2 : Hid (g.atI ms u = -1) := hidd (by rw [HB.out]; rfl)
    clear HB
    go_wp2_with ((with_reducible show wpList _ _ _ _ _ (World.alloc _ _)); refine stNew rfl (.tmp 9) (.tmp 16) (by rfl) Mc.zero w1.heap.size rfl (by rw [zeroC_M]; exact Mc.cells_size _) (by rfl) (by rfl) ?_)
    obtain ⟨p, hp⟩ : ∃ p, p = w1.heap.size := ⟨_, rfl⟩
    obtain ⟨wd, hwd⟩ : ∃ wd, wd = (w1.alloc (.cells Mc.zero.cells 31)).drew := ⟨_, rfl⟩
    have bd : Below w1.heap.size w1 wd := by rw [hwd]; exact bel_then (bel_alloc' _ _) (drew_bel _)
    have Bd := hidd (bel_then B1.out bd)
    have Kd := hidd (show wd.heap[p]? = some (.cells Mc.zero.cells 31 (0, 0)) by rw [hwd]; exact hp_bel (hp_new hp) (drew_bel _))
    have Zd := hidd (hp_bel Z1'.out bd)
    have hpb : p ≠ b2 := by omega
    refine wp_region_held (S := fun W => W.heap[p]? = some (.cells Mc.zero.cells 31 (0, 0))) (by kernel_rfl) ?_
    change wpAnyH _ _ _ _ _ _ _ _ (World.drew _)
    simp only [← hp]
    rw [← hwd]
    clear hwd bd hp
    refine wpAnyH_take (i := 0) (v := ?v0g) rfl (by kernel_rfl) (by kernel_rfl) (by kernel_rfl) (fun _ _ _ h => h) (Or.inl ⟨by rfl, ?h0g⟩) Kd.out ?_
    case h0g => (intro w4 hS; have x1 := run_loadM (W := w4) hS; clear hS; go_simp; first | done | with_reducible rfl)
    simp only [Act.put, List.getElem_toArray, List.getElem_cons_succ, List.getElem_cons_zero, List.setIfInBounds_toArray, List.set_cons_zero, List.set_cons_succ]
    refine wpAnyH_take (i := 1) (v := ?v1g) rfl (by kernel_rfl) (by kernel_rfl) (by kernel_rfl) (fun _ _ _ h => h) (Or.inl ⟨by rfl, ?h1g⟩) Kd.out ?_
    case h1g => (intro w4 hS; have x1 := run_loadM (W := w4) hS; clear hS; go_simp; first | done | with_reducible rfl)
    simp only [Act.put, List.getElem_toArray, List.getElem_cons_succ, List.getElem_cons_zero, List.setIfInBounds_toArray, List.set_cons_zero, List.set_cons_succ]
    refine wpAnyH_take (i := 2) (v := ?v2g) rfl (by kernel_rfl) (by kernel_rfl) (by kernel_rfl) (fun _ _ _ h => h) (Or.inl ⟨by rfl, ?h2g⟩) Kd.out ?_
    case h2g => (intro w4 hS; have x1 := run_loadM (W := w4) hS; clear hS; go_simp; first | done | with_reducible rfl)
    simp only [Act.put, List.getElem_toArray, List.getElem_cons_succ, List.getElem_cons_zero, List.setIfInBounds_toArray, List.set_cons_zero, List.set_cons_succ]
    refine wpAnyH_ready (rs := [3]) (by kernel_rfl) (by simp) (AllReadyH.cons rfl (fun K hK => ?_) AllReadyH.nil)
    have hk := run_storeM (W := wd) (m := Mc.zero) Zd.out
    go_simp
    have S6 := hidd (hp_row Kd.out hpb Mc.zero.cells)
    refine hK.out _ _ S6.out (fun _ => ?_)
    clear hK K hk
    refine wpAnyH_take (i := 4) (v := ?v4h) rfl (by kernel_rfl) (by kernel_rfl) (by kernel_rfl) (fun _ _ _ h => h) (Or.inl ⟨by rfl, ?h4h⟩) S6.out ?_
    case h4h => (intro w4 hS; clear hS; go_simp; first | done | with_reducible rfl)
    simp only [Act.put, List.getElem_toArray, List.getElem_cons_succ, List.getElem_cons_zero, List.setIfInBounds_toArray, List.set_cons_zero, List.set_cons_succ]
    refine wpAnyH_done (by kernel_rfl) ?_ _
    go_wp2_with fail
    refine bodyPost_ret (v := .tuple #[.int .i64 (-1), .agg Mc.zero.cells, .int .i64 3]) (results_tmp_cell_tmp rfl _ _ b2 31 _ (0, 0) _ _ _ rfl rfl rfl (setRow_heap _ _ _ _ _ _ Zd.out) Try.underlying31 rfl (cells98i _)) rfl ⟨by rw [HB2.out], ?_⟩
    exact bel_row Bd.out hwb _
end Go.Proofs.Ytcghcbdefajpgaa

/- Walks: whether a list's words are too long, and whether words stand in a list, of the reference. -/
import Derived.Test.YtcghcbdefajpgaaDop
import Derived.Test.YtcghcbdefajpgaaL4g
import Derived.Test.YtcghcbdefajpgaaL4a
namespace Go.Proofs.Ytcghcbdefajpgaa
open Go.RowKit
set_option linter.unusedSimpArgs false

/-- A whole list with its machines out of a variable. -/
def loadL4 (a : Addr) : Sem Value := loadVar 45 a
theorem loadVar_L4 (a : Addr) : loadVar 45 a = loadL4 a := rfl
theorem run_loadL4 {W : World} {b : Nat} {u v : Value} {t : TypeId} {fr : Nat × Nat} (h : W.heap[b]? = some (.cells #[u, v] t fr)) : (loadL4 ⟨b, 0, none⟩).run Try.prog W = .ok (.agg #[u, v]) W :=
  run_loadVar_at (P := Try.prog) W b 0 2 t 45 #[u, v] fr _ h Try.underlying45 rfl (by kernel_rfl) (by simp)
attribute [go_sem ↓ high] loadVar_L4

theorem mo_le {xss : List (List Int)} {L : Nat} (h : ∀ u ∈ xss, u.length ≤ L) : ∀ k, k ≤ xss.length → mo xss k ≤ L
  | 0, _ => Nat.zero_le _
  | k + 1, hk => by
    rw [mo]
    refine Nat.max_le.2 ⟨mo_le h k (by omega), ?_⟩
    rw [List.getD_eq_getElem?_getD, List.getElem?_eq_getElem (by omega)]
    exact h _ (List.getElem_mem (by omega))

set_option maxRecDepth 100000 in
set_option maxHeartbeats 1000000 in
theorem l04All_any (v : Value) (xss : List (List Int)) (hw : ∀ u ∈ xss, u.length ≤ 1048576) (w : World) (hr : RdLL w v xss) :
    Calls Try.prog 23 #[v] w fun e w' => e = .returned (.int .i64 (if lim xss = true then 3 else 0)) ∧ Below w.heap.size w w' := by
  have hle := hr.le
  obtain ⟨A, c, rows, rfl, h1, h2, h3⟩ := hr
  have H1 := hidd h1
  have H3 := hidd h3
  have HW := hidd hw
  obtain ⟨L, hL⟩ : ∃ L : Int, L = if lim xss = true then 3 else 0 := ⟨_, rfl⟩
  rw [← hL]
  have HLL := hidd hL
  clear h1 h3 hw hL
  go_enter Try.func23, Try.ntmps23
  go_wp2_with fail
  go_loopw [3, 4] (fun t y wr => ∃ i : Nat, y = .int .i64 i ∧ i ≤ xss.length ∧ t = .int .i64 (mo xss i : Nat) ∧ Hid (Below w.heap.size w wr)) (fun _ y _ => xss.length - (intOf y).toNat)
  case atStart => exact ⟨0, rfl, Nat.zero_le _, rfl, hidd (Below.refl _ _)⟩
  case round =>
    obtain ⟨i, rfl, hi, rfl, Hb⟩ := hrel
    by_cases hlt : i < xss.length
    · have i1 : (i : Int) < xss.length := by omega
      have i0 : (0 : Int) ≤ i := by omega
      have hir : i < rows.length := by rw [h2]; exact hlt
      have hri := (H3.out i rows[i] xss[i] (List.getElem?_eq_getElem hir) (List.getElem?_eq_getElem hlt)).below Hb.out
      obtain ⟨bq, oq, rfl, hcell⟩ := (H1.out.below Hb.out).at_ (List.getElem?_eq_getElem hir)
      obtain ⟨r, hrr⟩ : ∃ r, r = rows[i] := ⟨_, rfl⟩
      rw [← hrr] at hri hcell
      have HM := hidd (show mo xss (i + 1) = max (mo xss i) (xss[i]).length by rw [mo, List.getD_eq_getElem?_getD, List.getElem?_eq_getElem hlt]; rfl)
      have hm1 := mo_le HW.out i hi
      have hm2 := HW.out _ (List.getElem_mem hlt)
      obtain ⟨Ar, cr, rfl, _⟩ := hri
      obtain ⟨z, hz⟩ : ∃ z, z = (xss[i]).length := ⟨_, rfl⟩
      obtain ⟨M, hMM⟩ : ∃ M, M = mo xss i := ⟨_, rfl⟩
      rw [← hz] at HM hcell hm2
      rw [← hMM] at HM hm1 ⊢
      clear hrr hz hMM
      go_wp2_with fail
      go_roundw
      case rel =>
        refine ⟨i + 1, by go_num, by omega, ?_, Hb⟩
        rw [HM.out]
        congr 1
        split <;> omega
      case measure => first | (simp [intOf]; done) | (simp [intOf]; omega)
    · have he : i = xss.length := by omega
      have hm1 := mo_le HW.out i hi
      have e2 : IntKind.i64.wrap (2 * (mo xss i : Nat)) = 2 * (mo xss i : Nat) := IntWalk.i64_in _ (by omega)
      have HL : Hid (lim xss = decide (40 < 2 * mo xss i)) := hidd (by rw [he]; rfl)
      obtain ⟨M, hMM⟩ : ∃ M, M = mo xss i := ⟨_, rfl⟩
      rw [← hMM] at e2 HL hm1 ⊢
      subst he
      clear hlt hMM
      by_cases h40 : 40 < 2 * M
      · have i4 : (40 : Int) < 2 * M := by omega
        have HL2 := hidd (HL.out.trans (decide_eq_true h40))
        clear h40
        go_wp2_with fail
        go_ret
        exact ⟨by rw [HLL.out, HL2.out]; rfl, Hb.out⟩
      · have i4 : ¬ (40 : Int) < 2 * M := by omega
        have HL2 := hidd (HL.out.trans (decide_eq_false h40))
        clear h40
        go_wp2_with fail
        go_ret
        exact ⟨by rw [HLL.out, HL2.out]; rfl, Hb.out⟩

set_option maxRecDepth 100000 in
set_option maxHeartbeats 4000000 in
theorem l04Inside_any (g : Gm) (hok : g.Ok) (base : Nat) (vw vm : Value) (ms : List Mc) (hms : AllIs ms) (hl : ms.length ≤ 1000) (v : Value) (uss : List (List Int)) (hu : ∀ u ∈ uss, g.Nums u ∧ u.length ≤ 1048576) (w : World)
    (hvw : ∃ A n c, vw = .slice A n c) (hM : OwnW w base 31 98 vm (msC ms)) (hr : RdLL w v uss) :
    Calls Try.prog 24 #[.agg g.mc.cells, .agg #[vw, vm], v] w fun e w' => e = .returned (.tuple #[.bool (g.allR ms uss).1, .int .i64 (g.allR ms uss).2]) ∧ Below w.heap.size w w' := by
  have hle := hr.le
  have HA := hidd (fun (W : World) (hb : Below w.heap.size w W) (r : Value) (u : List Int) (hn : g.Nums u ∧ u.length ≤ 1048576) (hr' : RdI W r u) => l04At_any g hok base vw vm ms hms hl r u hn.1 hn.2 W hvw (hM.below hb) hr')
  have HU := hidd hu
  obtain ⟨Am, cm, hve⟩ := hM.slice
  subst hve
  obtain ⟨Aw, nw, cw, rfl⟩ := hvw
  obtain ⟨A, c, rows, rfl, h1, h2, h3⟩ := hr
  have H1 := hidd h1
  have H3 := hidd h3
  have HT : Hid (g.allR ms (uss.drop 0) = g.allR ms uss) := hidd rfl
  obtain ⟨T, hT⟩ : ∃ T, T = g.allR ms uss := ⟨_, rfl⟩
  rw [← hT] at HT ⊢
  obtain ⟨nm, hnm⟩ : ∃ nm, nm = (msC ms).length := ⟨_, rfl⟩
  rw [← hnm] at HA ⊢
  clear hok hM hu h1 h3 hT hnm hms hl
  go_enter Try.func24, Try.ntmps24
  go_wp2_with fail
  obtain ⟨w1, hw1⟩ : ∃ w1, w1 = (w.alloc (.cells g.mc.cells 31)).alloc (.cells #[.slice Aw nw cw, .slice Am nm cm] 45) := ⟨_, rfl⟩
  rw [← hw1]
  have B1 := hidd (show Below w.heap.size w w1 by rw [hw1]; exact bel_then (bel_alloc' _ _) (bel_alloc' _ _))
  have K1 := hidd (show w1.heap[w.heap.size]? = some (.cells g.mc.cells 31 (0, 0)) by rw [hw1]; exact hp_old (hp_new rfl))
  have L1 := hidd (show w1.heap[w.heap.size + 1]? = some (.cells #[.slice Aw nw cw, .slice Am nm cm] 45 (0, 0)) by rw [hw1]; exact hp_new (by simp))
  clear hw1
  go_loopw [8] (fun y wr => ∃ i : Nat, y = .int .i64 i ∧ i ≤ uss.length ∧ Hid (g.allR ms (uss.drop i) = T) ∧ Hid (Below w1.heap.size w1 wr)) (fun y _ => uss.length - (intOf y).toNat)
  case atStart => exact ⟨0, rfl, Nat.zero_le _, HT, hidd (Below.refl _ _)⟩
  case round =>
    clear HT
    obtain ⟨i, rfl, hi, HT, Hb⟩ := hrel
    by_cases hlt : i < uss.length
    · have i1 : (i : Int) < uss.length := by omega
      have i0 : (0 : Int) ≤ i := by omega
      have hir : i < rows.length := by rw [h2]; exact hlt
      have BB := bel_then B1.out Hb.out
      have hri := (H3.out i rows[i] uss[i] (List.getElem?_eq_getElem hir) (List.getElem?_eq_getElem hlt)).below BB
      obtain ⟨bq, oq, rfl, hcell⟩ := (H1.out.below BB).at_ (List.getElem?_eq_getElem hir)
      obtain ⟨r, hrr⟩ : ∃ r, r = rows[i] := ⟨_, rfl⟩
      rw [← hrr] at hri hcell
      have HTs := HT.out
      rw [List.drop_eq_getElem_cons hlt, Gm.allR] at HTs
      have hun := HU.out _ (List.getElem_mem hlt)
      obtain ⟨u, huu⟩ : ∃ u, u = uss[i] := ⟨_, rfl⟩
      rw [← huu] at hri HTs hun
      have HC := hidd (fun W (hb : Below wr.heap.size wr W) => HA.out W (bel_then BB hb) r u hun (hri.below hb))
      have hmc := g.moM_code u
      rw [Gm.inB_at] at HTs
      obtain ⟨t, ht⟩ : ∃ t, t = g.atI ms u := ⟨_, rfl⟩
      obtain ⟨M, hM⟩ : ∃ M, M = g.moM u := ⟨_, rfl⟩
      rw [← ht, ← hM] at HTs
      rw [← hM] at hmc
      simp only [← ht, ← hM] at HC
      have HTt := hidd HTs
      obtain ⟨Ar, cr, rfl, _⟩ := hri
      have Kr := hidd (hp_bel K1.out Hb.out)
      have Lr := hidd (hp_bel L1.out Hb.out)
      have Cr := hidd hcell
      clear HTs hrr huu hun hM ht BB hcell HT
      go_wp2_with fail
      refine cut_cont1 (fun W p => Below wr.heap.size wr W ∧ wr.heap.size ≤ p ∧ W.heap[p]? = some (.cells M.1.cells 31 (0, 0))) (fun cont => by
        obtain ⟨wd, hwd⟩ : ∃ wd, wd = wr.drew := ⟨_, rfl⟩
        have bd : Below wr.heap.size wr wd := by rw [hwd]; exact drew_bel wr
        have S0 : Below wr.heap.size wr wd := bd
        have HX := hidd (fun (W : World) (hb : Below wr.heap.size wr W) => (⟨run_loadM (hp_bel Kr.out hb), run_loadL4 (hp_bel Lr.out hb), cell_bel Cr.out hb⟩ : _ ∧ _ ∧ _))
        refine wp_region_held (S := fun W => Below wr.heap.size wr W) (by kernel_rfl) ?_
        change wpAnyH _ _ _ _ _ _ _ _ (World.drew _)
        rw [← hwd]
        clear hwd
        have zd := bd.size
        refine wpAnyH_take (i := 0) (v := ?v0) rfl (by kernel_rfl) (by kernel_rfl) (by kernel_rfl) (fun _ _ _ h => h) (Or.inl ⟨by rfl, ?h0⟩) S0 ?_
        case h0 => (intro w4 hS; have hx := HX.out w4 hS; have x1 := hx.1; have x2 := hx.2.1; have x3 := hx.2.2; clear hS hx; go_simp; first | done | with_reducible rfl)
        simp only [Act.put, List.getElem_toArray, List.getElem_cons_succ, List.getElem_cons_zero, List.setIfInBounds_toArray, List.set_cons_zero, List.set_cons_succ]
        refine wpAnyH_take (i := 1) (v := ?v1) rfl (by kernel_rfl) (by kernel_rfl) (by kernel_rfl) (fun _ _ _ h => h) (Or.inl ⟨by rfl, ?h1⟩) S0 ?_
        case h1 => (intro w4 hS; have hx := HX.out w4 hS; have x1 := hx.1; have x2 := hx.2.1; have x3 := hx.2.2; clear hS hx; go_simp; first | done | with_reducible rfl)
        simp only [Act.put, List.getElem_toArray, List.getElem_cons_succ, List.getElem_cons_zero, List.setIfInBounds_toArray, List.set_cons_zero, List.set_cons_succ]
        refine wpAnyH_take (i := 2) (v := ?v2) rfl (by kernel_rfl) (by kernel_rfl) (by kernel_rfl) (fun _ _ _ h => h) (Or.inl ⟨by rfl, ?h2⟩) S0 ?_
        case h2 => (intro w4 hS; have hx := HX.out w4 hS; have x1 := hx.1; have x2 := hx.2.1; have x3 := hx.2.2; clear hS hx; go_simp; first | done | with_reducible rfl)
        simp only [Act.put, List.getElem_toArray, List.getElem_cons_succ, List.getElem_cons_zero, List.setIfInBounds_toArray, List.set_cons_zero, List.set_cons_succ]
        refine wpAnyH_take (i := 3) (v := ?v3) rfl (by kernel_rfl) (by kernel_rfl) (by kernel_rfl) (fun _ _ _ h => h) (Or.inl ⟨by rfl, ?h3⟩) S0 ?_
        case h3 => (intro w4 hS; have hx := HX.out w4 hS; have x1 := hx.1; have x2 := hx.2.1; have x3 := hx.2.2; clear hS hx; go_simp; first | done | with_reducible rfl)
        simp only [Act.put, List.getElem_toArray, List.getElem_cons_succ, List.getElem_cons_zero, List.setIfInBounds_toArray, List.set_cons_zero, List.set_cons_succ]
        refine wpAnyH_take (i := 4) (v := ?v4) rfl (by kernel_rfl) (by kernel_rfl) (by kernel_rfl) (fun _ _ _ h => h) (Or.inl ⟨by rfl, ?h4⟩) S0 ?_
        case h4 => (intro w4 hS; have hx := HX.out w4 hS; have x1 := hx.1; have x2 := hx.2.1; have x3 := hx.2.2; clear hS hx; go_simp; first | done | with_reducible rfl)
        simp only [Act.put, List.getElem_toArray, List.getElem_cons_succ, List.getElem_cons_zero, List.setIfInBounds_toArray, List.set_cons_zero, List.set_cons_succ]
        refine wpAnyH_take (i := 5) (v := ?v5) rfl (by kernel_rfl) (by kernel_rfl) (by kernel_rfl) (fun _ _ _ h => h) (Or.inl ⟨by rfl, ?h5⟩) S0 ?_
        case h5 => (intro w4 hS; have hx := HX.out w4 hS; have x1 := hx.1; have x2 := hx.2.1; have x3 := hx.2.2; clear hS hx; go_simp; first | done | with_reducible rfl)
        simp only [Act.put, List.getElem_toArray, List.getElem_cons_succ, List.getElem_cons_zero, List.setIfInBounds_toArray, List.set_cons_zero, List.set_cons_succ]
        refine wpAnyH_ready (rs := [6, 11]) (by kernel_rfl) (by simp) (AllReadyH.cons rfl (fun K hK => ?_) (AllReadyH.cons rfl (fun K hK => ?_) AllReadyH.nil))
        · go_simp
          refine (HC.out _ bd).mono ?_
          rintro e w3 ⟨rfl, hb3⟩
          have b3 : Below wr.heap.size wr w3 := bel_then bd hb3
          refine hK.out _ _ b3 (fun _ => ?_)
          clear hK K
          try simp only [Act.put, List.getElem_toArray, List.getElem_cons_succ, List.getElem_cons_zero, List.setIfInBounds_toArray, List.set_cons_zero, List.set_cons_succ]
          refine wpAnyH_take (i := 7) (v := ?v7a) rfl (by kernel_rfl) (by kernel_rfl) (by kernel_rfl) (fun _ _ _ h => h) (Or.inl ⟨by rfl, ?h7a⟩) b3 ?_
          case h7a => (intro w4 hS; clear hS; go_simp; first | done | with_reducible rfl)
          simp only [Act.put, List.getElem_toArray, List.getElem_cons_succ, List.getElem_cons_zero, List.setIfInBounds_toArray, List.set_cons_zero, List.set_cons_succ]
          refine wpAnyH_take (i := 8) (v := ?v8a) rfl (by kernel_rfl) (by kernel_rfl) (by kernel_rfl) (fun _ _ _ h => h) (Or.inl ⟨by rfl, ?h8a⟩) b3 ?_
          case h8a => (intro w4 hS; clear hS; go_simp; first | done | with_reducible rfl)
          simp only [Act.put, List.getElem_toArray, List.getElem_cons_succ, List.getElem_cons_zero, List.setIfInBounds_toArray, List.set_cons_zero, List.set_cons_succ]
          refine wpAnyH_take (i := 9) (v := ?v9a) rfl (by kernel_rfl) (by kernel_rfl) (by kernel_rfl) (fun _ _ _ h => h) (Or.inl ⟨by rfl, ?h9a⟩) b3 ?_
          case h9a => (intro w4 hS; clear hS; go_simp; first | done | with_reducible rfl)
          simp only [Act.put, List.getElem_toArray, List.getElem_cons_succ, List.getElem_cons_zero, List.setIfInBounds_toArray, List.set_cons_zero, List.set_cons_succ]
          refine wpAnyH_take (i := 10) (v := ?v10a) rfl (by kernel_rfl) (by kernel_rfl) (by kernel_rfl) (fun _ _ _ h => h) (Or.inl ⟨by rfl, ?h10a⟩) b3 ?_
          case h10a => (intro w4 hS; clear hS; go_simp; first | done | with_reducible rfl)
          simp only [Act.put, List.getElem_toArray, List.getElem_cons_succ, List.getElem_cons_zero, List.setIfInBounds_toArray, List.set_cons_zero, List.set_cons_succ]
          refine wpAnyH_ready (rs := [11]) (by kernel_rfl) (by simp) (AllReadyH.cons rfl (fun K hK => ?_) AllReadyH.nil)
          go_simp
          obtain ⟨p, hp⟩ : ∃ p, p = w3.heap.size := ⟨_, rfl⟩
          obtain ⟨w5, hw5⟩ : ∃ w5, w5 = w3.alloc (.cells Try.zeroCells31 31) := ⟨_, rfl⟩
          have b5 : Below w3.heap.size w3 w5 := by rw [hw5]; exact bel_alloc' _ _
          have h5 : w5.heap[p]? = some (.cells Mc.zero.cells 31 (0, 0)) := by rw [hw5, ← zeroC_M]; exact hp_new hp
          have z5 := b3.size
          have lp : wr.heap.size ≤ p := by omega
          rw [← hp, ← hw5]
          have S5 : Below wr.heap.size wr w5 := bel_then b3 b5
          refine hK.out _ _ S5 (fun _ => ?_)
          clear hK K hw5 hp
          try simp only [Act.put, List.getElem_toArray, List.getElem_cons_succ, List.getElem_cons_zero, List.setIfInBounds_toArray, List.set_cons_zero, List.set_cons_succ]
          have Sx : Below wr.heap.size wr (w5.setRow p M.1.cells) := bel_row S5 lp _
          refine wpAnyH_take (i := 12) (v := ?v12a) rfl (by kernel_rfl) (by kernel_rfl) (by kernel_rfl) (fun _ _ _ h => h) (Or.inl ⟨by rfl, ?h12a⟩) S5 ?_
          case h12a => (intro w4 hS; clear hS; go_simp; first | done | with_reducible rfl)
          simp only [Act.put, List.getElem_toArray, List.getElem_cons_succ, List.getElem_cons_zero, List.setIfInBounds_toArray, List.set_cons_zero, List.set_cons_succ]
          refine wpAnyH_ready (rs := [13]) (by kernel_rfl) (by simp) (AllReadyH.cons rfl (fun K hK => ?_) AllReadyH.nil)
          have hk := run_storeM (W := w5) (m := M.1) h5
          go_simp
          refine hK.out _ _ Sx (fun _ => ?_)
          clear hK K hk
          try simp only [Act.put, List.getElem_toArray, List.getElem_cons_succ, List.getElem_cons_zero, List.setIfInBounds_toArray, List.set_cons_zero, List.set_cons_succ]
          refine wpAnyH_take (i := 14) (v := ?v14a) rfl (by kernel_rfl) (by kernel_rfl) (by kernel_rfl) (fun _ _ _ h => h) (Or.inl ⟨by rfl, ?h14a⟩) Sx ?_
          case h14a => (intro w4 hS; clear hS; go_simp; first | done | with_reducible rfl)
          simp only [Act.put, List.getElem_toArray, List.getElem_cons_succ, List.getElem_cons_zero, List.setIfInBounds_toArray, List.set_cons_zero, List.set_cons_succ]
          refine wpAnyH_done (by kernel_rfl) ?_ _
          have F := hidd (show Below wr.heap.size wr (w5.setRow p M.1.cells) ∧ wr.heap.size ≤ p ∧ (w5.setRow p M.1.cells).heap[p]? = some (.cells M.1.cells 31 (0, 0)) from ⟨Sx, lp, setRow_heap _ _ _ _ _ _ h5⟩)
          clear Sx
          obtain ⟨w6, hw6⟩ : ∃ w6, w6 = w5.setRow p M.1.cells := ⟨_, rfl⟩
          rw [← hw6] at F ⊢
          exact cont w6 p F.out
        · go_simp
          obtain ⟨p, hp⟩ : ∃ p, p = wd.heap.size := ⟨_, rfl⟩
          obtain ⟨w5, hw5⟩ : ∃ w5, w5 = wd.alloc (.cells Try.zeroCells31 31) := ⟨_, rfl⟩
          have b5 : Below wd.heap.size wd w5 := by rw [hw5]; exact bel_alloc' _ _
          have h5 : w5.heap[p]? = some (.cells Mc.zero.cells 31 (0, 0)) := by rw [hw5, ← zeroC_M]; exact hp_new hp
          have z5 := bd.size
          have lp : wr.heap.size ≤ p := by omega
          rw [← hp, ← hw5]
          have S5 : Below wr.heap.size wr w5 := bel_then bd b5
          refine hK.out _ _ S5 (fun _ => ?_)
          clear hK K hw5 hp
          try simp only [Act.put, List.getElem_toArray, List.getElem_cons_succ, List.getElem_cons_zero, List.setIfInBounds_toArray, List.set_cons_zero, List.set_cons_succ]
          refine wpAnyH_ready (rs := [6]) (by kernel_rfl) (by simp) (AllReadyH.cons rfl (fun K hK => ?_) AllReadyH.nil)
          go_simp
          refine (HC.out _ S5).mono ?_
          rintro e w3 ⟨rfl, hb3⟩
          have b3 : Below wr.heap.size wr w3 := bel_then S5 hb3
          refine hK.out _ _ b3 (fun _ => ?_)
          clear hK K
          try simp only [Act.put, List.getElem_toArray, List.getElem_cons_succ, List.getElem_cons_zero, List.setIfInBounds_toArray, List.set_cons_zero, List.set_cons_succ]
          have h6 := hp_bel h5 hb3
          refine wpAnyH_take (i := 7) (v := ?v7b) rfl (by kernel_rfl) (by kernel_rfl) (by kernel_rfl) (fun _ _ _ h => h) (Or.inl ⟨by rfl, ?h7b⟩) b3 ?_
          case h7b => (intro w4 hS; clear hS; go_simp; first | done | with_reducible rfl)
          simp only [Act.put, List.getElem_toArray, List.getElem_cons_succ, List.getElem_cons_zero, List.setIfInBounds_toArray, List.set_cons_zero, List.set_cons_succ]
          refine wpAnyH_take (i := 8) (v := ?v8b) rfl (by kernel_rfl) (by kernel_rfl) (by kernel_rfl) (fun _ _ _ h => h) (Or.inl ⟨by rfl, ?h8b⟩) b3 ?_
          case h8b => (intro w4 hS; clear hS; go_simp; first | done | with_reducible rfl)
          simp only [Act.put, List.getElem_toArray, List.getElem_cons_succ, List.getElem_cons_zero, List.setIfInBounds_toArray, List.set_cons_zero, List.set_cons_succ]
          refine wpAnyH_take (i := 9) (v := ?v9b) rfl (by kernel_rfl) (by kernel_rfl) (by kernel_rfl) (fun _ _ _ h => h) (Or.inl ⟨by rfl, ?h9b⟩) b3 ?_
          case h9b => (intro w4 hS; clear hS; go_simp; first | done | with_reducible rfl)
          simp only [Act.put, List.getElem_toArray, List.getElem_cons_succ, List.getElem_cons_zero, List.setIfInBounds_toArray, List.set_cons_zero, List.set_cons_succ]
          refine wpAnyH_take (i := 10) (v := ?v10b) rfl (by kernel_rfl) (by kernel_rfl) (by kernel_rfl) (fun _ _ _ h => h) (Or.inl ⟨by rfl, ?h10b⟩) b3 ?_
          case h10b => (intro w4 hS; clear hS; go_simp; first | done | with_reducible rfl)
          simp only [Act.put, List.getElem_toArray, List.getElem_cons_succ, List.getElem_cons_zero, List.setIfInBounds_toArray, List.set_cons_zero, List.set_cons_succ]
          refine wpAnyH_take (i := 12) (v := ?v12b) rfl (by kernel_rfl) (by kernel_rfl) (by kernel_rfl) (fun _ _ _ h => h) (Or.inl ⟨by rfl, ?h12b⟩) b3 ?_
          case h12b => (intro w4 hS; clear hS; go_simp; first | done | with_reducible rfl)
          simp only [Act.put, List.getElem_toArray, List.getElem_cons_succ, List.getElem_cons_zero, List.setIfInBounds_toArray, List.set_cons_zero, List.set_cons_succ]
          have Sx : Below wr.heap.size wr (w3.setRow p M.1.cells) := bel_row b3 lp _
          refine wpAnyH_ready (rs := [13]) (by kernel_rfl) (by simp) (AllReadyH.cons rfl (fun K hK => ?_) AllReadyH.nil)
          have hk := run_storeM (W := w3) (m := M.1) h6
          go_simp
          refine hK.out _ _ Sx (fun _ => ?_)
          clear hK K hk
          try simp only [Act.put, List.getElem_toArray, List.getElem_cons_succ, List.getElem_cons_zero, List.setIfInBounds_toArray, List.set_cons_zero, List.set_cons_succ]
          refine wpAnyH_take (i := 14) (v := ?v14b) rfl (by kernel_rfl) (by kernel_rfl) (by kernel_rfl) (fun _ _ _ h => h) (Or.inl ⟨by rfl, ?h14b⟩) Sx ?_
          case h14b => (intro w4 hS; clear hS; go_simp; first | done | with_reducible rfl)
          simp only [Act.put, List.getElem_toArray, List.getElem_cons_succ, List.getElem_cons_zero, List.setIfInBounds_toArray, List.set_cons_zero, List.set_cons_succ]
          refine wpAnyH_done (by kernel_rfl) ?_ _
          have F := hidd (show Below wr.heap.size wr (w3.setRow p M.1.cells) ∧ wr.heap.size ≤ p ∧ (w3.setRow p M.1.cells).heap[p]? = some (.cells M.1.cells 31 (0, 0)) from ⟨Sx, lp, setRow_heap _ _ _ _ _ _ h6⟩)
          clear Sx
          obtain ⟨w6, hw6⟩ : ∃ w6, w6 = w3.setRow p M.1.cells := ⟨_, rfl⟩
          rw [← hw6] at F ⊢
          exact cont w6 p F.out) ?_
      rintro w4 p ⟨hb4, hp4, h4⟩
      have Hb4 := hidd (bel_then Hb.out hb4)
      clear HC Kr Cr Lr hb4 hp4 h4
      rcases hmc with hc | hc
      · rw [hc] at HTt ⊢
        clear hc
        by_cases ht0 : 0 ≤ t
        · have j1 : ¬ t < 0 := by omega
          have HT2 : Hid (g.allR ms (uss.drop (i + 1)) = T) := hidd (by have h := HTt.out; rwa [if_pos (by simp [ht0])] at h)
          clear HTt ht0
          go_wp2_with fail
          go_roundw
          case rel => exact ⟨i + 1, by go_num, by omega, HT2, Hb4⟩
          case measure => first | (simp [intOf]; done) | (simp [intOf]; omega)
        · have j1 : t < 0 := by omega
          have HT2 : Hid ((false, (0 : Int)) = T) := hidd (by have h := HTt.out; rwa [if_neg (by simp [ht0])] at h)
          clear HTt ht0
          go_wp2_with fail
          go_ret2
          exact ⟨by rw [← HT2.out]; rfl, bel_then B1.out Hb4.out⟩
      · subst hc
        have HT2 : Hid ((false, (3 : Int)) = T) := hidd (by have h := HTt.out; rwa [if_neg (by simp)] at h)
        clear HTt
        go_wp2_with fail
        go_ret2
        exact ⟨by rw [← HT2.out]; rfl, bel_then B1.out Hb4.out⟩
    · have he : i = uss.length := by omega
      have HE := hidd (show T = (true, 0) by rw [← HT.out, List.drop_of_length_le (by omega)]; rfl)
      subst he
      clear hlt
      go_wp2_with fail
      go_ret2
      exact ⟨by rw [HE.out]; rfl, bel_then B1.out Hb.out⟩
end Go.Proofs.Ytcghcbdefajpgaa

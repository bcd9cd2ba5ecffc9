/- Walks: a list with the machines of its words, of the program. -/
import Derived.Test.YtcghcbdefajpgaaHal
import Derived.Test.YtcghcbdefajpgaaStw
import Derived.Test.YtcghcbdefajpgaaBsm
import Derived.Test.YtcghcbdefajpgaaBD
import Derived.Test.YtcghcbdefajpgaaRwp
import Derived.Test.YtcghcbdefajpgaaBB
namespace Go.Proofs.Ytcghcbdefajpgaa
open Go.RowKit
set_option linter.unusedSimpArgs false

def Gm.mks (g : Gm) (xss : List (List Int)) : List Mc := xss.map fun u => (g.moM u).1
def Gm.lofC (g : Gm) (xss : List (List Int)) : Int := if 32 < xss.length then 2 else if xss.all (fun u => decide ((g.moM u).2 = 0)) = true then 0 else 3
theorem Gm.lofC_ok {g : Gm} {xss : List (List Int)} (h : ¬ 32 < xss.length) (h2 : ∀ j, (hj : j < xss.length) → (g.moM xss[j]).2 = 0) : g.lofC xss = 0 := by
  unfold Gm.lofC
  rw [if_neg h, if_pos]
  rw [List.all_eq_true]
  intro u hu
  obtain ⟨j, hj, rfl⟩ := List.getElem_of_mem hu
  exact decide_eq_true (h2 j hj)
theorem Gm.lofC_bad {g : Gm} {xss : List (List Int)} (h : ¬ 32 < xss.length) {j : Nat} (hj : j < xss.length) (h2 : (g.moM xss[j]).2 ≠ 0) : g.lofC xss = 3 := by
  unfold Gm.lofC
  rw [if_neg h, if_neg]
  intro ha
  rw [List.all_eq_true] at ha
  exact h2 (of_decide_eq_true (ha _ (List.getElem_mem hj)))
theorem Gm.mks_is {g : Gm} (hok : g.Ok) {xss : List (List Int)} (h : ∀ u ∈ xss, g.Nums u) : AllIs (g.mks xss) := fun m hm => by
  obtain ⟨u, hu, rfl⟩ := List.mem_map.1 hm
  exact Gm.moM_is hok (h u hu)
theorem msC_snoc (g : Gm) (xss : List (List Int)) {i : Nat} (hi : i < xss.length) : msC (g.mks (xss.take i)) ++ [(g.moM xss[i]).1.cells.toList] = msC (g.mks (xss.take (i + 1))) := by
  unfold msC Gm.mks
  rw [List.take_add_one, List.getElem?_eq_getElem hi]
  simp only [List.map_append, Option.toList_some, List.map_cons, List.map_nil]
theorem info27 : (Try.prog.info? 31).map (fun i => (i.zero, i.size, i.bytes)) = some (some (.agg Mc.zero.cells), 98, 112) := by kernel_rfl

set_option maxRecDepth 100000 in
set_option maxHeartbeats 4000000 in
theorem listOf_yes (g : Gm) (hok : g.Ok) (v : Value) (xss : List (List Int)) (hall : xss.all (gwB g.s) = true) (w : World) (hr : RdLL w v xss) :
    Calls Try.prog 21 #[.agg g.mc.cells, v] w fun e w' => (∃ p, e = .returned (.tuple #[p, .int .i64 (g.lofC xss)]) ∧ (g.lofC xss = 0 → ∃ l G vo vt vm, p = .pointer (some ⟨l, 0, none⟩) ∧ GrpAt w' G g vo vt ∧ w'.heap[l]? = some (.cells #[.pointer (some ⟨G, 0, none⟩), v, vm] 64 (0, 0)) ∧ OwnW w' w.heap.size 31 98 vm (msC (g.mks xss)))) ∧ Below w.heap.size w w' := by
  have HO := hidd hok
  have Hr := hidd hr
  have HW := hidd (fun u (hu : u ∈ xss) => gwB_mem (List.all_eq_true.1 hall u hu))
  have HN := hidd (fun u (hu : u ∈ xss) => Gm.Nums.of (List.all_eq_true.1 hall u hu))
  have HA := hidd hall
  have HIs := hidd (Gm.is_cells hok)
  obtain ⟨A, c, rows, rfl, h1, h2, h3⟩ := hr
  have H1 := hidd h1
  have H3 := hidd h3
  clear hok hall h1 h3
  go_enter Try.func21, Try.ntmps21
  go_wp2_with (refine ldC rfl (.tmp 2) rfl _ g.mc (hp_new rfl) (by rfl) ?_)
  refine (groupOf_yes g HO.out _ HIs.out _ xss _ (Hr.out.below (bel_alloc' _ _)) HA.out).mono ?_
  rintro e w1 ⟨⟨G, vo, vt, rfl, hG, hle⟩, hb⟩
  have B1 := hidd (bel_then (bel_alloc' w (.cells g.mc.cells 31)) hb)
  have HG := hidd hG
  clear hb hG hle
  by_cases h32 : 32 < xss.length
  · have i1 : (32 : Int) < xss.length := by omega
    have HC := hidd (show g.lofC xss = 2 from if_pos h32)
    clear h32
    go_wp2_with fail
    go_ret2
    exact ⟨⟨_, by rw [HC.out]; rfl, fun h => by rw [HC.out] at h; cases h⟩, B1.out⟩
  · have i1 : ¬ (32 : Int) < xss.length := by omega
    have H32 := hidd h32
    have hx32 : xss.length ≤ 32 := by omega
    clear h32
    go_wp2_with fail
    obtain ⟨l, hl⟩ : ∃ l, l = w1.heap.size := ⟨_, rfl⟩
    obtain ⟨w2, hw2⟩ : ∃ w2, w2 = w1.alloc (.cells #[.pointer (some ⟨G, 0, none⟩), .slice A xss.length c, .slice none 0 0] 64) := ⟨_, rfl⟩
    simp only [← hl]
    rw [← hw2]
    have L2 := hidd (show w2.heap[l]? = some (.cells #[.pointer (some ⟨G, 0, none⟩), .slice A xss.length c, .slice none 0 0] 64 (0, 0)) by rw [hw2]; exact hp_new hl)
    have b2 := hidd (show Below l w1 w2 by rw [hw2, hl]; exact bel_alloc' _ _)
    have hwl : w.heap.size ≤ l := by rw [hl]; exact B1.out.size
    have Hl := hidd hl
    clear hw2 hl
    try rw [show decide ((32 : Int) < xss.length) = false from decide_eq_false i1]
    go_loopw [31] (fun y wr => ∃ (i : Nat) (vm : Value), y = .int .i64 i ∧ i ≤ xss.length ∧ Hid (∀ j, (hj : j < xss.length) → j < i → (g.moM xss[j]).2 = 0) ∧ Hid (wr.heap[l]? = some (.cells #[.pointer (some ⟨G, 0, none⟩), .slice A xss.length c, vm] 64 (0, 0))) ∧ Hid (OwnW wr (l + 1) 31 98 vm (msC (g.mks (xss.take i)))) ∧ Hid (Below l w1 wr)) (fun y _ => xss.length - (intOf y).toNat)
    case atStart => exact ⟨0, _, rfl, Nat.zero_le _, hidd (fun j _ hj => absurd hj (Nat.not_lt_zero _)), L2, hidd (OwnW.nil _ _ _ _), b2⟩
    case round =>
      clear L2 b2
      obtain ⟨i, vm, rfl, hi, HQ, HL, HV, Hb⟩ := hrel
      have HbW := hidd (show Below w1.heap.size w1 wr by rw [← Hl.out]; exact Hb.out)
      by_cases hlt : i < xss.length
      · have i2 : (i : Int) < xss.length := by omega
        have i0 : (0 : Int) ≤ i := by omega
        have hir : i < rows.length := by rw [h2]; exact hlt
        have BB := bel_then B1.out HbW.out
        have hri := (H3.out i rows[i] xss[i] (List.getElem?_eq_getElem hir) (List.getElem?_eq_getElem hlt)).below BB
        obtain ⟨bq, oq, rfl, hcell⟩ := (H1.out.below BB).at_ (List.getElem?_eq_getElem hir)
        obtain ⟨r, hrr⟩ : ∃ r, r = rows[i] := ⟨_, rfl⟩
        rw [← hrr] at hri hcell
        have HMc := hidd (machine_any g HO.out G vo vt r xss[i] (HN.out _ (List.getElem_mem hlt)) (by have := (HW.out _ (List.getElem_mem hlt)).1; omega) wr (HG.out.below HbW.out) hri)
        have hmc := g.moM_code xss[i]
        have HSn := hidd (msC_snoc g xss hlt)
        have HBd := hidd (fun (h : (g.moM xss[i]).2 ≠ 0) => Gm.lofC_bad H32.out hlt h)
        have HQs := hidd (show (g.moM xss[i]).2 = 0 → ∀ j, (hj : j < xss.length) → j < i + 1 → (g.moM xss[j]).2 = 0 from fun h0 j hj hji => by
          by_cases e : j = i
          · subst e; exact h0
          · exact HQ.out j hj (by omega))
        obtain ⟨M, hM⟩ : ∃ M, M = g.moM xss[i] := ⟨_, rfl⟩
        rw [← hM] at HMc hmc HSn HBd HQs
        obtain ⟨Ar, cr, rfl, _⟩ := hri
        clear hrr hM BB
        go_wp2_with fail
        refine HMc.out.mono ?_
        rintro e w2 ⟨rfl, hb2⟩
        have HL2 := hidd (hp_bel HL.out hb2)
        have HV2 := hidd (HV.out.below hb2)
        have hzl := hp_lt HL.out
        have Hb2 := hidd (show Below l w1 w2 from Hb.out.trans (hb2.mono (by omega)))
        clear hb2 HMc hcell HL HV Hb HbW
        rcases hmc with hc | hc
        · have HQn := hidd (HQs.out hc)
          rw [hc]
          clear hc HBd
          go_wp2_with ((with_reducible show wpList _ _ _ _ _ (World.alloc _ _)); refine stNew rfl (.tmp 11) (.tmp 39) (by rfl) M.1 w2.heap.size rfl (by rw [zeroC_M]; exact Mc.cells_size _) (by rfl) (by rfl) ?_)
          refine wp_region_any (by kernel_rfl) ?_
          change wpAny _ _ _ _ _ _ _ (World.drew _)
          obtain ⟨p, hp⟩ : ∃ p, p = w2.heap.size := ⟨_, rfl⟩
          obtain ⟨wd, hwd⟩ : ∃ wd, wd = (w2.alloc (.cells M.1.cells 31)).drew := ⟨_, rfl⟩
          have bwd : Below w2.heap.size w2 wd := by rw [hwd]; exact bel_then (bel_alloc' _ _) (drew_bel _)
          have Kp := hidd (show wd.heap[p]? = some (.cells M.1.cells 31 (0, 0)) by rw [hwd]; exact hp_bel (hp_new hp) (drew_bel _))
          simp only [← hp]
          rw [← hwd]
          have HLd := hidd (hp_bel HL2.out bwd)
          have HVd := hidd (HV2.out.below bwd)
          have hzl2 := hp_lt HL2.out
          have Bd := hidd (show Below l w1 wd from Hb2.out.trans (bwd.mono (by omega)))
          have hlp : l < p := by rw [hp]; exact hzl2
          have hzd := hp_lt Kp.out
          have HNp := hidd (show vm.ownBlock ≠ some p by rw [hp]; exact HV2.out.ne_new)
          clear hwd bwd HL2 HV2 Hb2 hp
          obtain ⟨Am, cm, hve⟩ := HVd.out.slice
          rw [show (msC (g.mks (xss.take i))).length = i by simp [msC, Gm.mks]; omega] at hve
          subst hve
          refine wpAny_take (i := 0) (v := ?v0) rfl (by kernel_rfl) (by kernel_rfl) (by kernel_rfl) (fun _ _ _ h => h) (Or.inl ⟨by rfl, ?h0⟩) ?_
          case h0 => (intro w4; go_simp; first | done | with_reducible rfl)
          simp only [Act.put, List.getElem_toArray, List.getElem_cons_succ, List.getElem_cons_zero, List.setIfInBounds_toArray, List.set_cons_zero, List.set_cons_succ]
          refine wpAny_take (i := 1) (v := ?v1) rfl (by kernel_rfl) (by kernel_rfl) (by kernel_rfl) (fun _ _ _ h => h) (Or.inl ⟨by rfl, ?h1⟩) ?_
          case h1 => (intro w4; go_simp; first | done | with_reducible rfl)
          simp only [Act.put, List.getElem_toArray, List.getElem_cons_succ, List.getElem_cons_zero, List.setIfInBounds_toArray, List.set_cons_zero, List.set_cons_succ]
          refine wpAny_take (i := 2) (v := ?v2) rfl (by kernel_rfl) (by kernel_rfl) (by kernel_rfl) (fun _ _ _ h => h) (Or.inl ⟨by rfl, ?h2⟩) ?_
          case h2 => (intro w4; go_simp; first | done | with_reducible rfl)
          simp only [Act.put, List.getElem_toArray, List.getElem_cons_succ, List.getElem_cons_zero, List.setIfInBounds_toArray, List.set_cons_zero, List.set_cons_succ]
          refine wpAny_take (i := 3) (v := ?v3) rfl (by kernel_rfl) (by kernel_rfl) (by kernel_rfl) (fun _ _ _ h => h) (Or.inl ⟨by rfl, ?h3⟩) ?_
          case h3 => (intro w4; go_simp; first | done | with_reducible rfl)
          simp only [Act.put, List.getElem_toArray, List.getElem_cons_succ, List.getElem_cons_zero, List.setIfInBounds_toArray, List.set_cons_zero, List.set_cons_succ]
          have S0 := hidd (show wd.cell? ⟨l, 2, none⟩ = some (.slice Am i cm) ∧ wd.heap[p]? = some (.cells M.1.cells 31 (0, 0)) from ⟨blkc HLd.out 2, Kp.out⟩)
          refine wpAny_of_C (S := fun W => W.cell? ⟨l, 2, none⟩ = some (.slice Am i cm) ∧ W.heap[p]? = some (.cells M.1.cells 31 (0, 0))) (ks := [6, 7]) _ _ _ _ ?_
          refine wpC_take (i := 5) 6 (v := ?v5) rfl (by kernel_rfl) (by kernel_rfl) (by kernel_rfl) (by kernel_rfl) (fun _ _ _ h => h) (Or.inl ⟨by rfl, ?h5⟩) S0.out ?_
          case h5 => (rintro wx ⟨hc1, hc2⟩; have x1 := run_loadM (W := wx) hc2; clear hc2; go_simp; first | done | with_reducible rfl)
          simp only [Act.put, List.getElem_toArray, List.getElem_cons_succ, List.getElem_cons_zero, List.setIfInBounds_toArray, List.set_cons_zero, List.set_cons_succ]
          refine wpC_take (i := 4) 7 (v := ?v4) rfl (by kernel_rfl) (by kernel_rfl) (by kernel_rfl) (by kernel_rfl) (fun _ _ _ h => h) (Or.inl ⟨by rfl, ?h4⟩) S0.out ?_
          case h4 => (rintro wx ⟨hc1, hc2⟩; have x1 := run_loadM (W := wx) hc2; clear hc2; go_simp; first | done | with_reducible rfl)
          simp only [Act.put, List.getElem_toArray, List.getElem_cons_succ, List.getElem_cons_zero, List.setIfInBounds_toArray, List.set_cons_zero, List.set_cons_succ]
          refine wpC_one (i := 6) (by kernel_rfl) rfl ?_
          intro K hK
          refine bs_M rfl _ rfl M.1 rfl ?_
          obtain ⟨pe, hpe⟩ : ∃ pe, pe = wd.heap.size := ⟨_, rfl⟩
          obtain ⟨we, hwe⟩ : ∃ we, we = wd.alloc (.cells M.1.cells 31) := ⟨_, rfl⟩
          have bwe : Below wd.heap.size wd we := by rw [hwe]; exact bel_alloc' _ _
          have EN := hidd (show we.heap[pe]? = some (.cells M.1.cells 31 (0, 0)) by rw [hwe]; exact hp_new hpe)
          rw [← hwe, ← hpe]
          have S1 := hidd (show we.cell? ⟨l, 2, none⟩ = some (.slice Am i cm) ∧ we.heap[p]? = some (.cells M.1.cells 31 (0, 0)) from ⟨blkc (hp_bel HLd.out bwe) 2, hp_bel Kp.out bwe⟩)
          have HLe := hidd (hp_bel HLd.out bwe)
          have HVe := hidd (HVd.out.below bwe)
          have hzd2 := hp_lt HLd.out
          have Be := hidd (show Below l w1 we from Bd.out.trans (bwe.mono (by omega)))
          have hze := hp_lt HLe.out
          refine hK _ _ S1.out ?_
          clear hK K hwe hpe bwe HLd HVd Bd S0
          simp only [Act.put, List.getElem_toArray, List.getElem_cons_succ, List.getElem_cons_zero, List.setIfInBounds_toArray, List.set_cons_zero, List.set_cons_succ]
          refine wpC_one (i := 7) (by kernel_rfl) rfl ?_
          intro K hK
          refine step_wide rfl _ _ _ rfl (l + 1) 31 (.agg Mc.zero.cells) 98 112 Try.underlying43 info27 (Mc.zero.cells_size) (by decide) HVe.out EN.out rfl rfl M.1.cells_size (fun u hu => all_mem M.1.cells_all u (by simpa using hu)) (by simp [msC, Gm.mks]; omega) (by decide) (by omega) ?_
          intro v' wf ho hgr hle hli
          obtain ⟨Av, cv, hvv⟩ := ho.slice
          rw [show (msC (g.mks (xss.take i)) ++ [M.1.cells.toList]).length = i + 1 by simp [msC, Gm.mks]; omega] at hvv
          have HLf := hidd (kept_own hgr HLe.out (HVe.out.ne_low (Nat.lt_succ_self l)))
          have Bf := hidd (show Below l w1 wf from Be.out.trans ((belW_own HVe.out hgr (by omega)).mono (by omega)))
          have HVf := hidd ho
          refine hK _ _ ⟨blkc HLf.out 2, ?_⟩ ?_
          · exact kept_own hgr S1.out.2 HNp.out
          clear hK K hgr hli ho
          subst hvv
          refine wpC_of_any _ _ _ _ (by decide) ?_
          simp only [Act.put, List.getElem_toArray, List.getElem_cons_succ, List.getElem_cons_zero, List.setIfInBounds_toArray, List.set_cons_zero, List.set_cons_succ]
          refine wpAny_take (i := 8) (v := ?v8) rfl (by kernel_rfl) (by kernel_rfl) (by kernel_rfl) (fun _ _ _ h => h) (Or.inl ⟨by rfl, ?h8⟩) ?_
          case h8 => (intro w4; go_simp; first | done | with_reducible rfl)
          simp only [Act.put, List.getElem_toArray, List.getElem_cons_succ, List.getElem_cons_zero, List.setIfInBounds_toArray, List.set_cons_zero, List.set_cons_succ]
          refine wpAny_take (i := 9) (v := ?v9) rfl (by kernel_rfl) (by kernel_rfl) (by kernel_rfl) (fun _ _ _ h => h) (Or.inl ⟨by rfl, ?h9⟩) ?_
          case h9 => (intro w4; go_simp; first | done | with_reducible rfl)
          simp only [Act.put, List.getElem_toArray, List.getElem_cons_succ, List.getElem_cons_zero, List.setIfInBounds_toArray, List.set_cons_zero, List.set_cons_succ]
          have t5 : wf.cell? ⟨l, 2, none⟩ = some (.slice Am i cm) := blkc HLf.out 2
          have t6 := blkf HLf.out 2
          refine wpAny_ready (rs := [10]) (by kernel_rfl) (by simp) (AllReady.cons rfl (fun K hK => ?_) AllReady.nil)
          go_simp
          refine hK _ _ ?_
          clear hK K t5 t6
          refine wpAny_done (by kernel_rfl) ?_ _
          go_wp2_with fail
          go_roundw
          case rel => exact ⟨i + 1, _, by go_num, by omega, HQn, hidd (hp_set HLf.out 2 _), hidd (by rw [← HSn.out]; exact HVf.out.grown (grown_set _ _ _ _) (.inr (HVf.out.ne_low (Nat.lt_succ_self l)))), hidd (Bf.out.setCell (p := ⟨l, 2, none⟩) (Nat.le_refl _) _)⟩
          case measure => first | (simp [intOf]; done) | (simp [intOf]; omega)
        · subst hc
          have HB3 := hidd (HBd.out (by decide))
          have B3 := hidd (bel_then (B1.out) (show Below w1.heap.size w1 w2 by rw [← Hl.out]; exact Hb2.out))
          have B4 := hidd (bel_then B3.out (bel_alloc' w2 (.cells Mc.zero.cells 31)))
          go_wp2_with ((with_reducible show wpList _ _ _ _ _ (World.alloc _ _)); refine stNew rfl (.tmp 11) (.tmp 39) (by rfl) Mc.zero w2.heap.size rfl (by rw [zeroC_M]; exact Mc.cells_size _) (by rfl) (by rfl) ?_)
          go_ret2
          exact ⟨⟨_, by rw [HB3.out]; rfl, fun h => by rw [HB3.out] at h; cases h⟩, B4.out⟩
      · have he : i = xss.length := by omega
        have HC := hidd (Gm.lofC_ok H32.out (fun j hj => HQ.out j hj (by omega)))
        have HV2 : Hid (OwnW wr (l + 1) 31 98 vm (msC (g.mks xss))) := hidd (by have h := HV.out; rwa [List.take_of_length_le (by omega)] at h)
        subst he
        clear hlt
        go_wp2_with fail
        go_ret2
        exact ⟨⟨_, by rw [HC.out]; rfl, fun _ => ⟨l, G, vo, vt, vm, rfl, HG.out.below HbW.out, HL.out, HV2.out.mono (by omega)⟩⟩, bel_then B1.out HbW.out⟩
end Go.Proofs.Ytcghcbdefajpgaa

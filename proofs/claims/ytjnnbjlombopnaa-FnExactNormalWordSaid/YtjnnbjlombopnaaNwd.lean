/- Walks: NormalWord, of the program and of the reference. -/
import Derived.Test.YtjnnbjlombopnaaBD
namespace Go.Proofs.Ytjnnbjlombopnaa
open Go.RowKit

def nwdR (m : Mc) (xs : List Int) : List Int × Int := if codeW m [xs] = 0 then (m.gm.nrm xs, 0) else ([], 1)
theorem nwdR_len (m : Mc) (xs : List Int) : (nwdR m xs).1.length ≤ 1048576 := by
  unfold nwdR
  split
  · rename_i h
    obtain ⟨g, rfl, hok, hw⟩ := codeW_zero h
    have h40 := (gwB_mem (hw xs (List.mem_singleton.2 rfl))).1
    have := g.nrm_len xs
    show (g.nrm xs).length ≤ _
    omega
  · exact Nat.zero_le _

set_option maxHeartbeats 1000000 in
theorem implNormalWord_any (m : Mc) (cs : Array Value) (hm : m.Is cs) (v : Value) (xs : List Int) (w : World) (hr : RdI w v xs) :
    Calls Try.prog 74 #[.agg cs, v] w fun e w' => (∃ u, e = .returned (.tuple #[u, .int .i64 (nwdR m xs).2]) ∧ Own w' w.heap.size 2 u (ints (nwdR m xs).1)) ∧ Below w.heap.size w w' := by
  have Hm := hidd hm
  have Hr := hidd hr
  obtain ⟨A0, c0, rfl, hq0⟩ := hr
  clear hm hq0
  by_cases hc : codeW m [xs] = 0
  · have HR : Hid (nwdR m xs = _) := hidd (if_pos hc)
    obtain ⟨g, rfl, hok, hw⟩ := codeW_zero hc
    have hgw := hw xs (List.mem_singleton.2 rfl)
    have HN := hidd (Gm.Nums.of hgw)
    have h40 := (gwB_mem hgw).1
    have HA := hidd (show [xs].all (gwB g.s) = true by simp [hgw])
    have HO := hidd hok
    clear hc hok hw hgw
    go_enter Try.func74, Try.ntmps74
    go_wp2_with (refine ldI rfl (.tmp 2) rfl w.heap.size rfl Hm.out (hp_new rfl) ?_)
    refine (groupOf_yes g HO.out cs ⟨Hm.out⟩ _ [xs] _ (RdLL.lit1 (Hr.out.alloc _) _ _ (by simp)) HA.out).mono ?_
    rintro e w1 ⟨⟨G, vo, vt, rfl, hG, hle⟩, hb⟩
    have B1 := hidd (bel_then ((bel_alloc w (.cells cs 27)).alloc (by simp) _) hb)
    have HG := hidd hG
    clear hb hG
    go_wp2_with fail
    refine (normal_any g HO.out G vo vt _ xs HN.out (by omega) _ HG.out (Hr.out.below B1.out)).mono ?_
    rintro e w2 ⟨⟨u, rfl, ho⟩, hb⟩
    have Ho := hidd ho
    have B2 := hidd (bel_then B1.out hb)
    clear ho hb
    go_wp2_with fail
    go_ret2
    exact ⟨⟨_, by rw [HR.out]; rfl, by rw [HR.out]; exact Ho.out.mono B1.out.size⟩, B2.out⟩
  · have HR : Hid (nwdR m xs = _) := hidd (if_neg hc)
    have Hc := hidd hc
    clear hc
    go_enter Try.func74, Try.ntmps74
    go_wp2_with (refine ldI rfl (.tmp 2) rfl w.heap.size rfl Hm.out (hp_new rfl) ?_)
    refine (groupOf_no m cs Hm.out _ [xs] _ (RdLL.lit1 (Hr.out.alloc _) _ _ (by simp)) Hc.out).mono ?_
    rintro e w1 ⟨rfl, hb⟩
    have B1 := hidd (bel_then ((bel_alloc w (.cells cs 27)).alloc (by simp) _) hb)
    clear hb
    go_wp2_with fail
    go_ret2
    exact ⟨⟨_, by rw [HR.out]; rfl, by rw [HR.out]; exact Own.nil _ _ _⟩, B1.out⟩

set_option linter.unusedSimpArgs false
set_option maxRecDepth 100000 in
set_option maxHeartbeats 1000000 in
theorem specNormalWord_any (m : Mc) (cs : Array Value) (hm : m.Is cs) (v : Value) (xs : List Int) (w : World) (hr : RdI w v xs) :
    Calls Try.prog 73 #[.agg cs, v] w fun e w' => (∃ u, e = .returned (.tuple #[u, .int .i64 (nwdR m xs).2]) ∧ Own w' w.heap.size 2 u (ints (nwdR m xs).1)) ∧ Below w.heap.size w w' := by
  obtain rfl := hm.eq_cells
  have Hm := hidd hm
  have Hr := hidd hr
  obtain ⟨A0, c0, rfl, hq0⟩ := hr
  clear hm hq0
  by_cases hc : codeW m [xs] = 0
  · have HR : Hid (nwdR m xs = _) := hidd (if_pos hc)
    have Hc := hidd hc
    obtain ⟨g, rfl, hok, hw⟩ := codeW_zero hc
    have hgw := hw xs (List.mem_singleton.2 rfl)
    have HN := hidd (Gm.Nums.of hgw)
    have h40 := (gwB_mem hgw).1
    have HO := hidd hok
    clear hc hok hw hgw
    go_enter Try.func73, Try.ntmps73
    go_wp2_with (refine ldI rfl (.tmp 2) rfl w.heap.size rfl Hm.out (hp_new rfl) ?_)
    refine (l02Code_any _ _ Hm.out _ [xs] _ ?_).mono ?_
    · exact RdLL.lit1 (Hr.out.alloc _) _ _ (by simp)
    rintro e w1 ⟨rfl, hb⟩
    rw [Hc.out]
    have B1 := hidd (bel_then ((bel_alloc w (.cells g.mc.cells 27)).alloc (by simp) _) hb)
    have K1 := hidd (hp_bel (hp_old (hp_new rfl)) hb : w1.heap[w.heap.size]? = some (.cells g.mc.cells 27 (0, 0)))
    clear hb
    go_wp2_with fail
    have S0 := hidd (show w1.drew.heap[w.heap.size]? = some (.cells g.mc.cells 27 (0, 0)) from K1.out)
    refine wp_region_held (S := fun w' => w'.heap[w.heap.size]? = some (.cells g.mc.cells 27 (0, 0))) (by kernel_rfl) ?_
    change wpAnyH _ _ _ _ _ _ _ _ (World.drew _)
    refine wpAnyH_take (i := 0) (v := ?v0) rfl (by kernel_rfl) (by kernel_rfl) (by kernel_rfl) (fun _ _ _ h => h) (Or.inl ⟨by rfl, ?h0⟩) S0.out ?_
    case h0 => (intro w2 hS; have hk := run_loadM (W := w2) hS; clear hS; go_simp; first | done | with_reducible rfl)
    simp only [Act.put, List.getElem_toArray, List.getElem_cons_succ, List.getElem_cons_zero, List.setIfInBounds_toArray, List.set_cons_zero, List.set_cons_succ]
    refine wpAnyH_take (i := 1) (v := ?v1) rfl (by kernel_rfl) (by kernel_rfl) (by kernel_rfl) (fun _ _ _ h => h) (Or.inl ⟨by rfl, ?h1⟩) S0.out ?_
    case h1 => (intro w2 hS; have hk := run_loadM (W := w2) hS; clear hS; go_simp; first | done | with_reducible rfl)
    simp only [Act.put, List.getElem_toArray, List.getElem_cons_succ, List.getElem_cons_zero, List.setIfInBounds_toArray, List.set_cons_zero, List.set_cons_succ]
    refine wpAnyH_take (i := 3) (v := ?v3) rfl (by kernel_rfl) (by kernel_rfl) (by kernel_rfl) (fun _ _ _ h => h) (Or.inl ⟨by rfl, ?h3⟩) S0.out ?_
    case h3 => (intro w2 hS; have hk := run_loadM (W := w2) hS; clear hS; go_simp; first | done | with_reducible rfl)
    simp only [Act.put, List.getElem_toArray, List.getElem_cons_succ, List.getElem_cons_zero, List.setIfInBounds_toArray, List.set_cons_zero, List.set_cons_succ]
    refine wpAnyH_ready (rs := [2]) (by kernel_rfl) (by simp) (AllReadyH.cons rfl (fun K hK => ?_) AllReadyH.nil)
    go_simp
    refine (l01Classes_any g HO.out _ ⟨Hm.out⟩ _).mono ?_
    rintro e w2 ⟨rfl, hb⟩
    have b12 := (drew_bel w1).trans hb
    have B2 := hidd (bel_then B1.out b12)
    have K2 := hidd (hp_bel K1.out b12)
    refine hK.out _ _ K2.out (fun _ => ?_)
    clear hK K hb b12
    refine wpAnyH_ready (rs := [4]) (by kernel_rfl) (by simp) (AllReadyH.cons rfl (fun K hK => ?_) AllReadyH.nil)
    go_simp
    refine (l01Trivial_any g HO.out _ ⟨Hm.out⟩ _).mono ?_
    rintro e w3 ⟨rfl, hb⟩
    have B3 := hidd (bel_then B2.out hb)
    have K3 := hidd (hp_bel K2.out hb)
    refine hK.out _ _ K3.out (fun _ => ?_)
    clear hK K hb
    refine wpAnyH_ready (rs := [5]) (by kernel_rfl) (by simp) (AllReadyH.cons rfl (fun K hK => ?_) AllReadyH.nil)
    go_simp
    refine (l02Normal_any g HO.out _ xs HN.out (by omega) _ (Hr.out.below B3.out)).mono ?_
    rintro e w4 ⟨⟨u, rfl, ho⟩, hb⟩
    have B4 := hidd (bel_then B3.out hb)
    have K4 := hidd (hp_bel K3.out hb)
    have Ho := hidd ho
    have hz3 := B3.out.size
    refine hK.out _ _ K4.out (fun _ => ?_)
    clear hK K hb ho
    refine wpAnyH_take (i := 6) (v := ?v6) rfl (by kernel_rfl) (by kernel_rfl) (by kernel_rfl) (fun _ _ _ h => h) (Or.inl ⟨by rfl, ?h6⟩) K4.out ?_
    case h6 => (intro w2 hS; clear hS; go_simp; first | done | with_reducible rfl)
    simp only [Act.put, List.getElem_toArray, List.getElem_cons_succ, List.getElem_cons_zero, List.setIfInBounds_toArray, List.set_cons_zero, List.set_cons_succ]
    refine wpAnyH_take (i := 7) (v := ?v7) rfl (by kernel_rfl) (by kernel_rfl) (by kernel_rfl) (fun _ _ _ h => h) (Or.inl ⟨by rfl, ?h7⟩) K4.out ?_
    case h7 => (intro w2 hS; clear hS; go_simp; first | done | with_reducible rfl)
    simp only [Act.put, List.getElem_toArray, List.getElem_cons_succ, List.getElem_cons_zero, List.setIfInBounds_toArray, List.set_cons_zero, List.set_cons_succ]
    refine wpAnyH_done (by kernel_rfl) ?_ _
    go_wp2_with fail
    go_ret2
    exact ⟨⟨_, by rw [HR.out]; rfl, by rw [HR.out]; exact Ho.out.mono hz3⟩, B4.out⟩
  · have HR : Hid (nwdR m xs = _) := hidd (if_neg hc)
    have Hc := hidd (codeW_one hc)
    clear hc
    go_enter Try.func73, Try.ntmps73
    go_wp2_with (refine ldI rfl (.tmp 2) rfl w.heap.size rfl Hm.out (hp_new rfl) ?_)
    refine (l02Code_any _ _ Hm.out _ [xs] _ ?_).mono ?_
    · exact RdLL.lit1 (Hr.out.alloc _) _ _ (by simp)
    rintro e w1 ⟨rfl, hb⟩
    rw [Hc.out]
    have B1 := hidd (bel_then ((bel_alloc w (.cells m.cells 27)).alloc (by simp) _) hb)
    clear hb
    go_wp2_with fail
    go_ret2
    exact ⟨⟨_, by rw [HR.out]; rfl, by rw [HR.out]; exact Own.nil _ _ _⟩, B1.out⟩
end Go.Proofs.Ytjnnbjlombopnaa

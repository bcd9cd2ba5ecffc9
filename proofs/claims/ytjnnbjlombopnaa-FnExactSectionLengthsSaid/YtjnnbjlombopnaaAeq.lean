/- Walks: AreEqualWords, of the program and of the reference. -/
import Derived.Test.YtjnnbjlombopnaaBI
import Derived.Test.YtjnnbjlombopnaaBB
namespace Go.Proofs.Ytjnnbjlombopnaa
open Go.RowKit

theorem Gm.Nums.inv {g : Gm} {xs : List Int} (h : g.Nums xs) : g.Nums (invW xs) := fun k hk => by
  unfold invW at hk
  obtain ⟨x, hx, rfl⟩ := List.mem_map.1 hk
  have := h x (List.mem_reverse.1 hx)
  unfold Gm.Num at this ⊢
  omega
theorem Gm.Nums.app {g : Gm} {xs ys : List Int} (h : g.Nums xs) (h' : g.Nums ys) : g.Nums (xs ++ ys) := fun k hk => by
  rcases List.mem_append.1 hk with h1 | h1
  · exact h k h1
  · exact h' k h1
theorem Gm.Nums.big {g : Gm} (hok : g.Ok) {xs : List Int} (h : g.Nums xs) : ∀ x ∈ xs, -1000 ≤ x ∧ x ≤ 1000 := fun x hx => by
  have := Gm.Nums.small hok h x hx
  omega

set_option maxRecDepth 100000 in
set_option maxHeartbeats 1000000 in
theorem areEqual_any (g : Gm) (hok : g.Ok) (G : Nat) (vo vt : Value) (v u : Value) (xs ys : List Int) (hx : g.Nums xs) (hy : g.Nums ys) (hlx : xs.length ≤ 10000) (hly : ys.length ≤ 10000) (hv : NilOk v) (w : World) (hG : GrpAt w G g vo vt) (hr : RdI w v xs) (hr' : RdI w u ys) :
    Calls Try.prog 160 #[.pointer (some ⟨G, 0, none⟩), v, u] w fun e w' => e = .returned (.tuple #[.bool (g.tri (xs ++ invW ys)).1, .int .i64 (g.tri (xs ++ invW ys)).2]) ∧ Below w.heap.size w w' := by
  have HO := hidd hok
  have HG := hidd hG
  have Hr := hidd hr
  have Hr' := hidd hr'
  have HX := hidd hx
  have HY := hidd hy
  have Hv := hidd hv
  have HI := hidd (inverseOf_any u ys (by omega) (hy.big hok) w hr')
  obtain ⟨A0, c0, rfl, hq0⟩ := hr
  obtain ⟨A1, c1, rfl, hq1⟩ := hr'
  clear hok hG hx hy hq0 hq1 hv
  go_enter Try.func160, Try.ntmps160
  go_wp2_with fail
  refine HI.out.mono ?_
  rintro e w1 ⟨v1, rfl, ho, hb⟩
  have B1 := hidd hb
  have O1 := hidd ho
  have hn1 := hidd ho.nilOk
  obtain ⟨A2, c2, rfl⟩ := ho.slice
  rw [ints_length, invW_len] at *
  clear ho hb
  go_wp2_with fail
  refine (concat64 _ [ints xs, ints (invW ys)] _ ?_ (two_one xs (invW ys)) (by rw [two_lens, invW_len]; omega)).mono ?_
  · exact RdVV.two (Hr.out.below B1.out) (by have := O1.out.rdI; exact this) Hv.out hn1.out _ _ rfl
  rintro e w2 ⟨⟨u2, rfl, ho⟩, hb⟩
  rw [two_flat] at ho
  have B2 := hidd (bel_then B1.out ((bel_alloc' w1 _).trans (hb.mono (by simp))))
  have Ho := hidd ho
  clear hb ho
  go_wp2_with fail
  refine (isTrivial_any g HO.out G vo vt _ (xs ++ invW ys) (HX.out.app HY.out.inv) (by rw [List.length_append, invW_len]; omega) _ (HG.out.below B2.out) Ho.out.rdI).mono ?_
  rintro e w3 ⟨rfl, hb⟩
  have B3 := hidd (bel_then B2.out hb)
  clear hb
  go_wp2_with fail
  go_ret2
  exact ⟨rfl, B3.out⟩

def aeqR (m : Mc) (xs ys : List Int) : Bool × Int := if codeW m [xs, ys] = 0 then m.gm.tri (xs ++ invW ys) else (false, 1)
set_option maxRecDepth 100000 in
set_option maxHeartbeats 1000000 in
theorem implAreEqualWords_any (m : Mc) (cs : Array Value) (hm : m.Is cs) (v u : Value) (xs ys : List Int) (w : World) (hr : RdI w v xs) (hr' : RdI w u ys) (hv : NilOk v) :
    Calls Try.prog 91 #[.agg cs, v, u] w fun e w' => e = .returned (.tuple #[.bool (aeqR m xs ys).1, .int .i64 (aeqR m xs ys).2]) ∧ Below w.heap.size w w' := by
  have Hm := hidd hm
  have Hr := hidd hr
  have Hr' := hidd hr'
  have Hv := hidd hv
  obtain ⟨A0, c0, rfl, hq0⟩ := hr
  obtain ⟨A1, c1, rfl, hq1⟩ := hr'
  clear hm hq0 hq1 hv
  by_cases hc : codeW m [xs, ys] = 0
  · have HR : Hid (aeqR m xs ys = _) := hidd (if_pos hc)
    obtain ⟨g, rfl, hok, hw⟩ := codeW_zero hc
    have hgx := hw xs (by simp)
    have hgy := hw ys (by simp)
    have NX := hidd (Gm.Nums.of hgx)
    have NY := hidd (Gm.Nums.of hgy)
    have hx40 := (gwB_mem hgx).1
    have hy40 := (gwB_mem hgy).1
    have HA := hidd (show [xs, ys].all (gwB g.s) = true by simp [hgx, hgy])
    have HO := hidd hok
    have HR2 : Hid (aeqR g.mc xs ys = g.tri (xs ++ invW ys)) := hidd HR.out
    clear hc hok hw hgx hgy HR
    go_enter Try.func91, Try.ntmps91
    go_wp2_with (refine ldI rfl (.tmp 3) rfl w.heap.size rfl Hm.out (hp_new rfl) ?_)
    refine (groupOf_yes g HO.out cs ⟨Hm.out⟩ _ [xs, ys] _ (RdLL.lit2 (Hr.out.alloc _) (Hr'.out.alloc _) _ _ (by simp)) HA.out).mono ?_
    rintro e w1 ⟨⟨G, vo, vt, rfl, hG, hle⟩, hb⟩
    have B1 := hidd (bel_then ((bel_alloc w (.cells cs 27)).alloc (by simp) _) hb)
    have HG := hidd hG
    clear hb hG
    go_wp2_with fail
    refine (areEqual_any g HO.out G vo vt _ _ xs ys NX.out NY.out (by omega) (by omega) Hv.out _ HG.out (Hr.out.below B1.out) (Hr'.out.below B1.out)).mono ?_
    rintro e w2 ⟨rfl, hb⟩
    have B2 := hidd (bel_then B1.out hb)
    clear hb
    go_wp2_with fail
    go_ret2
    exact ⟨by rw [HR2.out]; rfl, B2.out⟩
  · have HR : Hid (aeqR m xs ys = _) := hidd (if_neg hc)
    have Hc := hidd hc
    clear hc
    go_enter Try.func91, Try.ntmps91
    go_wp2_with (refine ldI rfl (.tmp 3) rfl w.heap.size rfl Hm.out (hp_new rfl) ?_)
    refine (groupOf_no m cs Hm.out _ [xs, ys] _ (RdLL.lit2 (Hr.out.alloc _) (Hr'.out.alloc _) _ _ (by simp)) Hc.out).mono ?_
    rintro e w1 ⟨rfl, hb⟩
    have B1 := hidd (bel_then ((bel_alloc w (.cells cs 27)).alloc (by simp) _) hb)
    clear hb
    go_wp2_with fail
    go_ret2
    exact ⟨by rw [HR.out]; rfl, B1.out⟩

set_option linter.unusedSimpArgs false
set_option maxRecDepth 100000 in
set_option maxHeartbeats 1000000 in
theorem specAreEqualWords_any (m : Mc) (cs : Array Value) (hm : m.Is cs) (v u : Value) (xs ys : List Int) (w : World) (hr : RdI w v xs) (hr' : RdI w u ys) (hv : NilOk v) :
    Calls Try.prog 90 #[.agg cs, v, u] w fun e w' => e = .returned (.tuple #[.bool (aeqR m xs ys).1, .int .i64 (aeqR m xs ys).2]) ∧ Below w.heap.size w w' := by
  obtain rfl := hm.eq_cells
  have Hm := hidd hm
  have Hr := hidd hr
  have Hr' := hidd hr'
  have Hv := hidd hv
  obtain ⟨A0, c0, rfl, hq0⟩ := hr
  obtain ⟨A1, c1, rfl, hq1⟩ := hr'
  clear hm hq0 hq1 hv
  by_cases hc : codeW m [xs, ys] = 0
  · have HR : Hid (aeqR m xs ys = _) := hidd (if_pos hc)
    have Hc := hidd hc
    obtain ⟨g, rfl, hok, hw⟩ := codeW_zero hc
    have hgx := hw xs (by simp)
    have hgy := hw ys (by simp)
    have NX := hidd (Gm.Nums.of hgx)
    have NY := hidd (Gm.Nums.of hgy)
    have hx40 := (gwB_mem hgx).1
    have hy40 := (gwB_mem hgy).1
    have HO := hidd hok
    have HR2 : Hid (aeqR g.mc xs ys = g.tri (xs ++ invW ys)) := hidd HR.out
    have hbig := hidd (NY.out.big hok)
    clear hc hok hw hgx hgy HR
    go_enter Try.func90, Try.ntmps90
    go_wp2_with (refine ldI rfl (.tmp 3) rfl w.heap.size rfl Hm.out (hp_new rfl) ?_)
    refine (l02Code_any _ _ Hm.out _ [xs, ys] _ ?_).mono ?_
    · exact RdLL.lit2 (Hr.out.alloc _) (Hr'.out.alloc _) _ _ (by simp)
    rintro e w1 ⟨rfl, hb⟩
    rw [Hc.out]
    have B1 := hidd (bel_then ((bel_alloc w (.cells g.mc.cells 27)).alloc (by simp) _) hb)
    have K1 := hidd (hp_bel (hp_old (hp_new rfl)) hb : w1.heap[w.heap.size]? = some (.cells g.mc.cells 27 (0, 0)))
    clear hb
    go_wp2_with fail
    have S0 := hidd (show Below w1.heap.size w1 w1.drew from drew_bel w1)
    have HX1 := hidd (fun W' (h : Below w1.heap.size w1 W') => hp_bel K1.out h)
    refine wp_region_held (S := fun w' => Below w1.heap.size w1 w') (by kernel_rfl) ?_
    change wpAnyH _ _ _ _ _ _ _ _ (World.drew _)
    refine wpAnyH_take (i := 0) (v := ?v0) rfl (by kernel_rfl) (by kernel_rfl) (by kernel_rfl) (fun _ _ _ h => h) (Or.inl ⟨by rfl, ?h0⟩) S0.out ?_
    case h0 => (intro w2 hS; have hk := run_loadM (W := w2) (HX1.out _ hS); clear hS; go_simp; first | done | with_reducible rfl)
    simp only [Act.put, List.getElem_toArray, List.getElem_cons_succ, List.getElem_cons_zero, List.setIfInBounds_toArray, List.set_cons_zero, List.set_cons_succ]
    refine wpAnyH_take (i := 1) (v := ?v1) rfl (by kernel_rfl) (by kernel_rfl) (by kernel_rfl) (fun _ _ _ h => h) (Or.inl ⟨by rfl, ?h1⟩) S0.out ?_
    case h1 => (intro w2 hS; have hk := run_loadM (W := w2) (HX1.out _ hS); clear hS; go_simp; first | done | with_reducible rfl)
    simp only [Act.put, List.getElem_toArray, List.getElem_cons_succ, List.getElem_cons_zero, List.setIfInBounds_toArray, List.set_cons_zero, List.set_cons_succ]
    refine wpAnyH_take (i := 2) (v := ?v2) rfl (by kernel_rfl) (by kernel_rfl) (by kernel_rfl) (fun _ _ _ h => h) (Or.inl ⟨by rfl, ?h2⟩) S0.out ?_
    case h2 => (intro w2 hS; have hk := run_loadM (W := w2) (HX1.out _ hS); clear hS; go_simp; first | done | with_reducible rfl)
    simp only [Act.put, List.getElem_toArray, List.getElem_cons_succ, List.getElem_cons_zero, List.setIfInBounds_toArray, List.set_cons_zero, List.set_cons_succ]
    refine wpAnyH_ready (rs := [3]) (by kernel_rfl) (by simp) (AllReadyH.cons rfl (fun K hK => ?_) AllReadyH.nil)
    go_simp
    refine (l02Inverse_any _ ys (by omega) hbig.out w1.drew ((Hr'.out.below B1.out).below S0.out)).mono ?_
    rintro e w2 ⟨v2, rfl, ho, hb⟩
    have S2 := hidd (bel_then S0.out hb)
    have O2 := hidd ho
    have hn2 := hidd ho.nilOk
    obtain ⟨A2, c2, rfl⟩ := ho.slice
    refine hK.out _ _ S2.out (fun _ => ?_)
    clear hK K hb ho
    refine wpAnyH_ready (rs := [4]) (by kernel_rfl) (by simp) (AllReadyH.cons rfl (fun K hK => ?_) AllReadyH.nil)
    go_simp
    have S3 := hidd (show Below w1.heap.size w1 (w2.alloc (.cells #[.slice A0 xs.length c0, .slice A2 (ints (invW ys)).length c2] 30)) from bel_then S2.out (bel_alloc' w2 _))
    refine hK.out _ _ S3.out (fun _ => ?_)
    clear hK K
    refine wpAnyH_ready (rs := [5]) (by kernel_rfl) (by simp) (AllReadyH.cons rfl (fun K hK => ?_) AllReadyH.nil)
    go_simp
    refine (l02Join_any _ [ints xs, ints (invW ys)] _ ?_ (two_one xs (invW ys)) (by rw [two_lens, invW_len]; omega)).mono ?_
    · exact RdVV.two ((Hr.out.below B1.out).below S2.out) O2.out.rdI Hv.out hn2.out _ _ rfl
    rintro e w4 ⟨⟨u4, rfl, ho⟩, hb⟩
    rw [two_flat] at ho
    have S4 := hidd (bel_then S2.out ((bel_alloc' w2 _).trans (hb.mono (by simp))))
    have O4 := hidd ho
    refine hK.out _ _ S4.out (fun _ => ?_)
    clear hK K hb ho
    refine wpAnyH_ready (rs := [6]) (by kernel_rfl) (by simp) (AllReadyH.cons rfl (fun K hK => ?_) AllReadyH.nil)
    go_simp
    refine (l02Trivial_any g HO.out _ (xs ++ invW ys) (NX.out.app NY.out.inv) (by rw [List.length_append, invW_len]; omega) _ O4.out.rdI).mono ?_
    rintro e w5 ⟨rfl, hb⟩
    have S5 := hidd (bel_then S4.out hb)
    refine hK.out _ _ S5.out (fun _ => ?_)
    clear hK K hb
    refine wpAnyH_take (i := 7) (v := ?v7) rfl (by kernel_rfl) (by kernel_rfl) (by kernel_rfl) (fun _ _ _ h => h) (Or.inl ⟨by rfl, ?h7⟩) S5.out ?_
    case h7 => (intro w2 hS; clear hS; go_simp; first | done | with_reducible rfl)
    simp only [Act.put, List.getElem_toArray, List.getElem_cons_succ, List.getElem_cons_zero, List.setIfInBounds_toArray, List.set_cons_zero, List.set_cons_succ]
    refine wpAnyH_take (i := 8) (v := ?v8) rfl (by kernel_rfl) (by kernel_rfl) (by kernel_rfl) (fun _ _ _ h => h) (Or.inl ⟨by rfl, ?h8⟩) S5.out ?_
    case h8 => (intro w2 hS; clear hS; go_simp; first | done | with_reducible rfl)
    simp only [Act.put, List.getElem_toArray, List.getElem_cons_succ, List.getElem_cons_zero, List.setIfInBounds_toArray, List.set_cons_zero, List.set_cons_succ]
    refine wpAnyH_take (i := 9) (v := ?v9) rfl (by kernel_rfl) (by kernel_rfl) (by kernel_rfl) (fun _ _ _ h => h) (Or.inl ⟨by rfl, ?h9⟩) S5.out ?_
    case h9 => (intro w2 hS; clear hS; go_simp; first | done | with_reducible rfl)
    simp only [Act.put, List.getElem_toArray, List.getElem_cons_succ, List.getElem_cons_zero, List.setIfInBounds_toArray, List.set_cons_zero, List.set_cons_succ]
    refine wpAnyH_take (i := 10) (v := ?v10) rfl (by kernel_rfl) (by kernel_rfl) (by kernel_rfl) (fun _ _ _ h => h) (Or.inl ⟨by rfl, ?h10⟩) S5.out ?_
    case h10 => (intro w2 hS; clear hS; go_simp; first | done | with_reducible rfl)
    simp only [Act.put, List.getElem_toArray, List.getElem_cons_succ, List.getElem_cons_zero, List.setIfInBounds_toArray, List.set_cons_zero, List.set_cons_succ]
    refine wpAnyH_take (i := 11) (v := ?v11) rfl (by kernel_rfl) (by kernel_rfl) (by kernel_rfl) (fun _ _ _ h => h) (Or.inl ⟨by rfl, ?h11⟩) S5.out ?_
    case h11 => (intro w2 hS; clear hS; go_simp; first | done | with_reducible rfl)
    simp only [Act.put, List.getElem_toArray, List.getElem_cons_succ, List.getElem_cons_zero, List.setIfInBounds_toArray, List.set_cons_zero, List.set_cons_succ]
    refine wpAnyH_done (by kernel_rfl) ?_ _
    go_wp2_with fail
    go_ret2
    exact ⟨by rw [HR2.out]; rfl, bel_then B1.out S5.out⟩
  · have HR : Hid (aeqR m xs ys = _) := hidd (if_neg hc)
    have Hc := hidd (codeW_one hc)
    clear hc
    go_enter Try.func90, Try.ntmps90
    go_wp2_with (refine ldI rfl (.tmp 3) rfl w.heap.size rfl Hm.out (hp_new rfl) ?_)
    refine (l02Code_any _ _ Hm.out _ [xs, ys] _ ?_).mono ?_
    · exact RdLL.lit2 (Hr.out.alloc _) (Hr'.out.alloc _) _ _ (by simp)
    rintro e w1 ⟨rfl, hb⟩
    rw [Hc.out]
    have B1 := hidd (bel_then ((bel_alloc w (.cells m.cells 27)).alloc (by simp) _) hb)
    clear hb
    go_wp2_with fail
    go_ret2
    exact ⟨by rw [HR.out]; rfl, B1.out⟩
end Go.Proofs.Ytjnnbjlombopnaa

/- Walks: a list with the machines of its words, of the reference. -/
import Derived.Test.YtcghcbdefajpgaaLof
import Derived.Test.YtcghcbdefajpgaaMos
import Derived.Test.YtcghcbdefajpgaaBI
namespace Go.Proofs.Ytcghcbdefajpgaa
open Go.RowKit
set_option linter.unusedSimpArgs false

theorem info143 : (Try.prog.info? 45).map (fun i => (i.zero, i.size)) = some (some (.agg #[.slice none 0 0, .slice none 0 0]), 2) := by kernel_rfl
theorem cells143 (a b : Value) : (Try.prog.info? 45).map (·.size) = some (#[a, b] : Array Value).size := by kernel_rfl
section
variable {ops : Array Oper} {rest : List Oper} {o : Oper} {a : Act} {w : World} {Q : Exit → Act → World → Prop}
/-- A list is read out of a variable. -/
theorem ld143 (hw : Region.wanted o (yielded ops a.tmps) = true) (x : Operand) (ho : o.op = .load 45 x) (g : Nat) (u v : Value) {t : TypeId} {fr : Nat × Nat}
    (hg : w.heap[g]? = some (.cells #[u, v] t fr)) (hx : a.eval x = .pointer (some ⟨g, 0, none⟩)) (h : wpList Try.prog ops Q rest (a.put o.dst (.agg #[u, v])) w) : wpList Try.prog ops Q (o :: rest) a w := by
  refine wpList_load_at_g hw 45 x ho g 0 2 hx t #[u, v] fr _ hg Try.underlying45 rfl (by kernel_rfl) (by simp) ?_
  exact h
/-- .. and written. -/
theorem st143 (hgd : o.guard = none) (x y : Operand) (ho : o.op = .store 45 x y) (g : Nat) (u v u' v' : Value) {t : TypeId}
    (hg : w.heap[g]? = some (.cells #[u', v'] t (0, 0))) (hx : a.eval x = .pointer (some ⟨g, 0, none⟩)) (hy : a.eval y = .agg #[u, v]) (h1 : u.oneCell' = true) (h2 : v.oneCell' = true) (h : wpList Try.prog ops Q rest (a.put o.dst undef) (w.setRow g #[u, v])) : wpList Try.prog ops Q (o :: rest) a w := by
  refine wpList_store_at hgd 45 x y ho g 0 2 #[u, v] hx hy t #[u', v'] hg (by kernel_rfl) rfl (by simp) (by intro i hi; simp only [List.mem_cons, List.not_mem_nil, or_false] at hi; rcases hi with rfl | rfl <;> assumption) ?_
  exact h
theorem st143New (hgd : o.guard = none) (x y : Operand) (ho : o.op = .store 45 x y) (g : Nat) (hn : g = w.heap.size) (u v u' v' : Value) {t : TypeId}
    (hx : a.eval x = .pointer (some ⟨g, 0, none⟩)) (hy : a.eval y = .agg #[u, v]) (h1 : u.oneCell' = true) (h2 : v.oneCell' = true) (h : wpList Try.prog ops Q rest (a.put o.dst undef) (w.alloc (.cells #[u, v] t))) : wpList Try.prog ops Q (o :: rest) a (w.alloc (.cells #[u', v'] t)) := by
  refine st143 hgd x y ho g u v u' v' (hp_new hn) hx hy h1 h2 ?_
  rw [setRow_alloc _ _ hn]
  exact h
end
theorem grown_row (w : World) (p : Nat) (cs : Array Value) : w.grownBy (w.setRow p cs) (some p) := ⟨rfl, rfl, rfl, by simp [World.setRow], fun k _ hk => setRow_other _ _ _ _ (fun e => hk (by rw [e]))⟩
theorem cell_bel {w w' : World} {p : Addr} {v : Value} (h : w.cell? p = some v) (hb : Below w.heap.size w w') : w'.cell? p = some v := (hb.cell (World.block_lt_of_cell? w _ h)).trans h
/-- What goes on behind several ways is shown once. -/
theorem cut_cont1 (F : World → Nat → Prop) {P : World → Nat → Prop} {G : Prop} (hmain : (∀ W a, F W a → P W a) → G) (hcont : ∀ W a, F W a → P W a) : G := hmain hcont

set_option maxRecDepth 100000 in
set_option maxHeartbeats 4000000 in
theorem l04Given_no (m : Mc) (cs : Array Value) (hm : m.Is cs) (v : Value) (xss : List (List Int)) (w : World) (hr : RdLL w v xss) (hc : codeW m xss ≠ 0) :
    Calls Try.prog 17 #[.agg cs, v] w fun e w' => (∃ a b, (∃ A n c, a = .slice A n c) ∧ (∃ A n c, b = .slice A n c) ∧ e = .returned (.tuple #[.agg #[a, b], .int .i64 1])) ∧ Below w.heap.size w w' := by
  have Hm := hidd hm
  have Hr := hidd hr
  have Hc := hidd (codeW_one hc)
  obtain ⟨A, c, rows, rfl, h1, h2, h3⟩ := hr
  clear hm hc h1 h2 h3
  go_enter Try.func17, Try.ntmps17
  go_wp2_with (refine ldI rfl (.tmp 2) rfl w.heap.size rfl Hm.out (hp_old (hp_new rfl)) ?_)
  refine (l02Code_any _ _ Hm.out _ xss _ (Hr.out.below (bel_then (bel_alloc' _ _) (bel_alloc' _ _)))).mono ?_
  rintro e w1 ⟨rfl, hb⟩
  rw [Hc.out]
  have B1 := hidd (bel_then (bel_then (bel_alloc' w (.cells cs 31)) (bel_alloc' _ (.cells #[.slice none 0 0, .slice none 0 0] 45))) hb)
  have Z1 := hidd (hp_bel (show ((w.alloc (.cells cs 31)).alloc (.cells #[.slice none 0 0, .slice none 0 0] 45)).heap[w.heap.size + 1]? = some (.cells #[.slice none 0 0, .slice none 0 0] 45 (0, 0)) from hp_new (by simp)) hb)
  clear hb
  go_wp2_with (refine st143 rfl (.tmp 4) (.tmp 16) rfl _ (.slice none 0 0) (.slice none 0 0) _ _ Z1.out (by rfl) (by rfl) rfl rfl ?_)
  refine bodyPost_ret (v := .tuple #[.agg #[.slice none 0 0, .slice none 0 0], .int .i64 1]) (results_cell_tmp rfl _ _ (w.heap.size + 1) 45 _ (0, 0) _ _ rfl rfl (setRow_heap _ _ _ _ _ _ Z1.out) Try.underlying45 rfl (cells143 _ _)) rfl ⟨⟨_, _, ⟨_, _, _, rfl⟩, ⟨_, _, _, rfl⟩, rfl⟩, ?_⟩
  exact bel_row B1.out (by omega) _

set_option maxRecDepth 100000 in
set_option maxHeartbeats 4000000 in
theorem l04Given_yes (g : Gm) (hok : g.Ok) (v : Value) (xss : List (List Int)) (hall : xss.all (gwB g.s) = true) (hIs : g.mc.Is g.mc.cells) (hc : codeW g.mc xss = 0) (w : World) (hr : RdLL w v xss) :
    Calls Try.prog 17 #[.agg g.mc.cells, v] w fun e w' => (∃ a b, (∃ A n c, a = .slice A n c) ∧ (∃ A n c, b = .slice A n c) ∧ e = .returned (.tuple #[.agg #[a, b], .int .i64 (g.lofC xss)]) ∧ (g.lofC xss = 0 → a = v ∧ OwnW w' w.heap.size 31 98 b (msC (g.mks xss)))) ∧ Below w.heap.size w w' := by
  have HO := hidd hok
  have Hr := hidd hr
  have HW := hidd (fun u (hu : u ∈ xss) => gwB_mem (List.all_eq_true.1 hall u hu))
  have HN := hidd (fun u (hu : u ∈ xss) => Gm.Nums.of (List.all_eq_true.1 hall u hu))
  have HIs := hidd hIs
  have Hc := hidd hc
  obtain ⟨A, c, rows, rfl, h1, h2, h3⟩ := hr
  have H1 := hidd h1
  have H3 := hidd h3
  clear hok hall h1 h3 hIs hc
  go_enter Try.func17, Try.ntmps17
  go_wp2_with (refine ldC rfl (.tmp 2) rfl _ g.mc (hp_old (hp_new rfl)) (by rfl) ?_)
  refine (l02Code_any _ _ HIs.out _ xss _ (Hr.out.below (bel_then (bel_alloc' _ _) (bel_alloc' _ _)))).mono ?_
  rintro e w1 ⟨rfl, hb⟩
  rw [Hc.out]
  have B1 := hidd (bel_then (bel_then (bel_alloc' w (.cells g.mc.cells 31)) (bel_alloc' _ (.cells #[.slice none 0 0, .slice none 0 0] 45))) hb)
  have Z1 := hidd (hp_bel (show ((w.alloc (.cells g.mc.cells 31)).alloc (.cells #[.slice none 0 0, .slice none 0 0] 45)).heap[w.heap.size + 1]? = some (.cells #[.slice none 0 0, .slice none 0 0] 45 (0, 0)) from hp_new (by simp)) hb)
  have K1 := hidd (hp_bel (show ((w.alloc (.cells g.mc.cells 31)).alloc (.cells #[.slice none 0 0, .slice none 0 0] 45)).heap[w.heap.size]? = some (.cells g.mc.cells 31 (0, 0)) from hp_old (hp_new rfl)) hb)
  obtain ⟨z, hz⟩ : ∃ z, z = w.heap.size + 1 := ⟨_, rfl⟩
  simp only [← hz] at Z1 ⊢
  have hzz := hp_lt Z1.out
  have hwz : w.heap.size ≠ z := by omega
  have hwz2 : w.heap.size ≤ z := by omega
  clear hb Hc hz
  by_cases h32 : 32 < xss.length
  · have i1 : (32 : Int) < xss.length := by omega
    have HC := hidd (show g.lofC xss = 2 from if_pos h32)
    clear h32
    go_wp2_with (refine st143 rfl (.tmp 4) (.tmp 21) rfl _ (.slice none 0 0) (.slice none 0 0) _ _ Z1.out (by rfl) (by rfl) rfl rfl ?_)
    refine bodyPost_ret (v := .tuple #[.agg #[.slice none 0 0, .slice none 0 0], .int .i64 2]) (results_cell_tmp rfl _ _ z 45 _ (0, 0) _ _ rfl rfl (setRow_heap _ _ _ _ _ _ Z1.out) Try.underlying45 rfl (cells143 _ _)) rfl ⟨⟨_, _, ⟨_, _, _, rfl⟩, ⟨_, _, _, rfl⟩, by rw [HC.out], fun h => by rw [HC.out] at h; cases h⟩, ?_⟩
    exact bel_row B1.out hwz2 _
  · have i1 : ¬ (32 : Int) < xss.length := by omega
    have H32 := hidd h32
    have hx32 : xss.length ≤ 32 := by omega
    clear h32
    go_wp2_with (refine st143New rfl (.tmp 7) (.tmp 23) rfl w1.heap.size rfl (.slice A xss.length c) (.slice none 0 0) _ _ (by rfl) (by rfl) rfl rfl ?_)
    obtain ⟨l, hl⟩ : ∃ l, l = w1.heap.size := ⟨_, rfl⟩
    obtain ⟨w2, hw2⟩ : ∃ w2, w2 = w1.alloc (.cells #[.slice A xss.length c, .slice none 0 0] 45) := ⟨_, rfl⟩
    simp only [← hl]
    rw [← hw2]
    have L2 := hidd (show w2.heap[l]? = some (.cells #[.slice A xss.length c, .slice none 0 0] 45 (0, 0)) by rw [hw2]; exact hp_new hl)
    have b2 := hidd (show Below l w1 w2 by rw [hw2, hl]; exact bel_alloc' _ _)
    have hwl : w.heap.size ≤ l := by rw [hl]; exact B1.out.size
    have Hl := hidd hl
    clear hw2 hl
    go_loopw [8] (fun y wr => ∃ (i : Nat) (vm : Value), y = .int .i64 i ∧ i ≤ xss.length ∧ Hid (∀ j, (hj : j < xss.length) → j < i → (g.moM xss[j]).2 = 0) ∧ Hid (wr.heap[l]? = some (.cells #[.slice A xss.length c, vm] 45 (0, 0))) ∧ Hid (OwnW wr (l + 1) 31 98 vm (msC (g.mks (xss.take i)))) ∧ Hid (Below l w1 wr)) (fun y _ => xss.length - (intOf y).toNat)
    case atStart => exact ⟨0, _, rfl, Nat.zero_le _, hidd (fun j _ hj => absurd hj (Nat.not_lt_zero _)), L2, hidd (OwnW.nil _ _ _ _), b2⟩
    case round =>
      clear L2 b2
      obtain ⟨i, vm, rfl, hi, HQ, HL, HV, Hb⟩ := hrel
      have HbW := hidd (show Below w1.heap.size w1 wr by rw [← Hl.out]; exact Hb.out)
      by_cases hlt : i < xss.length
      · have i2 : (i : Int) < xss.length := by omega
        have i0 : (0 : Int) ≤ i := by omega
        have hir : i < rows.length := by rw [h2]; exact hlt
        have BB := bel_then B1.out HbW.out
        have hri := (H3.out i rows[i] xss[i] (List.getElem?_eq_getElem hir) (List.getElem?_eq_getElem hlt)).below BB
        have hpt := (H1.out.below BB).at_ (List.getElem?_eq_getElem hir)
        obtain ⟨bq, oq, rfl, hcell⟩ := hpt
        obtain ⟨r, hrr⟩ : ∃ r, r = rows[i] := ⟨_, rfl⟩
        rw [← hrr] at hri hcell
        have HMc := hidd (fun W (hb : Below wr.heap.size wr W) => l02Machine_any g HO.out r xss[i] (HN.out _ (List.getElem_mem hlt)) (by have := (HW.out _ (List.getElem_mem hlt)).1; omega) W (hri.below hb))
        have hmc := g.moM_code xss[i]
        have HSn := hidd (msC_snoc g xss hlt)
        have HBd := hidd (fun (h : (g.moM xss[i]).2 ≠ 0) => Gm.lofC_bad H32.out hlt h)
        have HQs := hidd (show (g.moM xss[i]).2 = 0 → ∀ j, (hj : j < xss.length) → j < i + 1 → (g.moM xss[j]).2 = 0 from fun h0 j hj hji => by
          by_cases e : j = i
          · subst e; exact h0
          · exact HQ.out j hj (by omega))
        obtain ⟨M, hM⟩ : ∃ M, M = g.moM xss[i] := ⟨_, rfl⟩
        rw [← hM] at hmc HSn HBd HQs
        simp only [← hM] at HMc
        have Kr := hidd (hp_bel K1.out HbW.out)
        have Cr := hidd hcell
        clear hrr hM BB hri hcell
        go_wp2_with fail
        refine cut_cont1 (fun W p => Below wr.heap.size wr W ∧ wr.heap.size ≤ p ∧ W.heap[p]? = some (.cells M.1.cells 31 (0, 0))) (fun cont => by
          obtain ⟨wd, hwd⟩ : ∃ wd, wd = wr.drew := ⟨_, rfl⟩
          have bd : Below wr.heap.size wr wd := by rw [hwd]; exact drew_bel wr
          have S0 : wd.heap[w.heap.size]? = some (.cells g.mc.cells 31 (0, 0)) ∧ wd.cell? ⟨bq, oq + i, none⟩ = some r := ⟨hp_bel Kr.out bd, cell_bel Cr.out bd⟩
          refine wp_region_held (S := fun W => W.heap[w.heap.size]? = some (.cells g.mc.cells 31 (0, 0)) ∧ W.cell? ⟨bq, oq + i, none⟩ = some r) (by kernel_rfl) ?_
          change wpAnyH _ _ _ _ _ _ _ _ (World.drew _)
          rw [← hwd]
          clear hwd
          have zd := bd.size
          refine wpAnyH_take (i := 0) (v := ?v0) rfl (by kernel_rfl) (by kernel_rfl) (by kernel_rfl) (fun _ _ _ h => h) (Or.inl ⟨by rfl, ?h0⟩) S0 ?_
          case h0 => (intro w4 hS; have x1 := run_loadM (W := w4) hS.1; have x2 := hS.2; clear hS; go_simp; first | done | with_reducible rfl)
          simp only [Act.put, List.getElem_toArray, List.getElem_cons_succ, List.getElem_cons_zero, List.setIfInBounds_toArray, List.set_cons_zero, List.set_cons_succ]
          refine wpAnyH_take (i := 1) (v := ?v1) rfl (by kernel_rfl) (by kernel_rfl) (by kernel_rfl) (fun _ _ _ h => h) (Or.inl ⟨by rfl, ?h1⟩) S0 ?_
          case h1 => (intro w4 hS; have x1 := run_loadM (W := w4) hS.1; have x2 := hS.2; clear hS; go_simp; first | done | with_reducible rfl)
          simp only [Act.put, List.getElem_toArray, List.getElem_cons_succ, List.getElem_cons_zero, List.setIfInBounds_toArray, List.set_cons_zero, List.set_cons_succ]
          refine wpAnyH_take (i := 2) (v := ?v2) rfl (by kernel_rfl) (by kernel_rfl) (by kernel_rfl) (fun _ _ _ h => h) (Or.inl ⟨by rfl, ?h2⟩) S0 ?_
          case h2 => (intro w4 hS; have x1 := run_loadM (W := w4) hS.1; have x2 := hS.2; clear hS; go_simp; first | done | with_reducible rfl)
          simp only [Act.put, List.getElem_toArray, List.getElem_cons_succ, List.getElem_cons_zero, List.setIfInBounds_toArray, List.set_cons_zero, List.set_cons_succ]
          refine wpAnyH_take (i := 3) (v := ?v3) rfl (by kernel_rfl) (by kernel_rfl) (by kernel_rfl) (fun _ _ _ h => h) (Or.inl ⟨by rfl, ?h3⟩) S0 ?_
          case h3 => (intro w4 hS; have x1 := run_loadM (W := w4) hS.1; have x2 := hS.2; clear hS; go_simp; first | done | with_reducible rfl)
          simp only [Act.put, List.getElem_toArray, List.getElem_cons_succ, List.getElem_cons_zero, List.setIfInBounds_toArray, List.set_cons_zero, List.set_cons_succ]
          refine wpAnyH_take (i := 4) (v := ?v4) rfl (by kernel_rfl) (by kernel_rfl) (by kernel_rfl) (fun _ _ _ h => h) (Or.inl ⟨by rfl, ?h4⟩) S0 ?_
          case h4 => (intro w4 hS; have x1 := run_loadM (W := w4) hS.1; have x2 := hS.2; clear hS; go_simp; first | done | with_reducible rfl)
          simp only [Act.put, List.getElem_toArray, List.getElem_cons_succ, List.getElem_cons_zero, List.setIfInBounds_toArray, List.set_cons_zero, List.set_cons_succ]
          refine wpAnyH_ready (rs := [5, 9]) (by kernel_rfl) (by simp) (AllReadyH.cons rfl (fun K hK => ?_) (AllReadyH.cons rfl (fun K hK => ?_) AllReadyH.nil))
          · go_simp
            refine (HMc.out _ bd).mono ?_
            rintro e w3 ⟨rfl, hb3⟩
            have b3 : Below wr.heap.size wr w3 := bel_then bd hb3
            have S3 : w3.heap[w.heap.size]? = some (.cells g.mc.cells 31 (0, 0)) ∧ w3.cell? ⟨bq, oq + i, none⟩ = some r := ⟨hp_bel S0.1 hb3, cell_bel S0.2 hb3⟩
            refine hK.out _ _ S3 (fun _ => ?_)
            clear hK K
            try simp only [Act.put, List.getElem_toArray, List.getElem_cons_succ, List.getElem_cons_zero, List.setIfInBounds_toArray, List.set_cons_zero, List.set_cons_succ]
            refine wpAnyH_take (i := 6) (v := ?v6a) rfl (by kernel_rfl) (by kernel_rfl) (by kernel_rfl) (fun _ _ _ h => h) (Or.inl ⟨by rfl, ?h6a⟩) S3 ?_
            case h6a => (intro w4 hS; clear hS; go_simp; first | done | with_reducible rfl)
            simp only [Act.put, List.getElem_toArray, List.getElem_cons_succ, List.getElem_cons_zero, List.setIfInBounds_toArray, List.set_cons_zero, List.set_cons_succ]
            refine wpAnyH_take (i := 7) (v := ?v7a) rfl (by kernel_rfl) (by kernel_rfl) (by kernel_rfl) (fun _ _ _ h => h) (Or.inl ⟨by rfl, ?h7a⟩) S3 ?_
            case h7a => (intro w4 hS; clear hS; go_simp; first | done | with_reducible rfl)
            simp only [Act.put, List.getElem_toArray, List.getElem_cons_succ, List.getElem_cons_zero, List.setIfInBounds_toArray, List.set_cons_zero, List.set_cons_succ]
            refine wpAnyH_take (i := 8) (v := ?v8a) rfl (by kernel_rfl) (by kernel_rfl) (by kernel_rfl) (fun _ _ _ h => h) (Or.inl ⟨by rfl, ?h8a⟩) S3 ?_
            case h8a => (intro w4 hS; clear hS; go_simp; first | done | with_reducible rfl)
            simp only [Act.put, List.getElem_toArray, List.getElem_cons_succ, List.getElem_cons_zero, List.setIfInBounds_toArray, List.set_cons_zero, List.set_cons_succ]
            refine wpAnyH_ready (rs := [9]) (by kernel_rfl) (by simp) (AllReadyH.cons rfl (fun K hK => ?_) AllReadyH.nil)
            go_simp
            obtain ⟨p, hp⟩ : ∃ p, p = w3.heap.size := ⟨_, rfl⟩
            obtain ⟨w5, hw5⟩ : ∃ w5, w5 = w3.alloc (.cells Try.zeroCells31 31) := ⟨_, rfl⟩
            have b5 : Below w3.heap.size w3 w5 := by rw [hw5]; exact bel_alloc' _ _
            have h5 : w5.heap[p]? = some (.cells Mc.zero.cells 31 (0, 0)) := by rw [hw5, ← zeroC_M]; exact hp_new hp
            have z5 := b3.size
            have lp : wr.heap.size ≤ p := by omega
            rw [← hp, ← hw5]
            have S5 : w5.heap[w.heap.size]? = some (.cells g.mc.cells 31 (0, 0)) ∧ w5.cell? ⟨bq, oq + i, none⟩ = some r := ⟨hp_bel S3.1 b5, cell_bel S3.2 b5⟩
            refine hK.out _ _ S5 (fun _ => ?_)
            clear hK K hw5 hp
            try simp only [Act.put, List.getElem_toArray, List.getElem_cons_succ, List.getElem_cons_zero, List.setIfInBounds_toArray, List.set_cons_zero, List.set_cons_succ]
            have Sx : (w5.setRow p M.1.cells).heap[w.heap.size]? = some (.cells g.mc.cells 31 (0, 0)) ∧ (w5.setRow p M.1.cells).cell? ⟨bq, oq + i, none⟩ = some r := ⟨hp_row S5.1 (by have := hp_lt Kr.out; omega) _, by
              unfold World.cell?
              rw [setRow_other _ _ _ _ (show (⟨bq, oq + i, none⟩ : Addr).block ≠ p from by have := World.block_lt_of_cell? wr _ Cr.out; show bq ≠ p; simp only at this; omega)]
              exact S5.2⟩
            refine wpAnyH_ready (rs := [10]) (by kernel_rfl) (by simp) (AllReadyH.cons rfl (fun K hK => ?_) AllReadyH.nil)
            have hk := run_storeM (W := w5) (m := M.1) h5
            go_simp
            refine hK.out _ _ Sx (fun _ => ?_)
            clear hK K hk
            try simp only [Act.put, List.getElem_toArray, List.getElem_cons_succ, List.getElem_cons_zero, List.setIfInBounds_toArray, List.set_cons_zero, List.set_cons_succ]
            refine wpAnyH_take (i := 11) (v := ?v11a) rfl (by kernel_rfl) (by kernel_rfl) (by kernel_rfl) (fun _ _ _ h => h) (Or.inl ⟨by rfl, ?h11a⟩) Sx ?_
            case h11a => (intro w4 hS; clear hS; go_simp; first | done | with_reducible rfl)
            simp only [Act.put, List.getElem_toArray, List.getElem_cons_succ, List.getElem_cons_zero, List.setIfInBounds_toArray, List.set_cons_zero, List.set_cons_succ]
            refine wpAnyH_done (by kernel_rfl) ?_ _
            have F := hidd (show Below wr.heap.size wr (w5.setRow p M.1.cells) ∧ wr.heap.size ≤ p ∧ (w5.setRow p M.1.cells).heap[p]? = some (.cells M.1.cells 31 (0, 0)) from ⟨bel_row (bel_then b3 b5) lp _, lp, setRow_heap _ _ _ _ _ _ h5⟩)
            clear Sx
            obtain ⟨w6, hw6⟩ : ∃ w6, w6 = w5.setRow p M.1.cells := ⟨_, rfl⟩
            rw [← hw6] at F ⊢
            exact cont w6 p F.out
          · go_simp
            obtain ⟨p, hp⟩ : ∃ p, p = wd.heap.size := ⟨_, rfl⟩
            obtain ⟨w5, hw5⟩ : ∃ w5, w5 = wd.alloc (.cells Try.zeroCells31 31) := ⟨_, rfl⟩
            have b5 : Below wd.heap.size wd w5 := by rw [hw5]; exact bel_alloc' _ _
            have h5 : w5.heap[p]? = some (.cells Mc.zero.cells 31 (0, 0)) := by rw [hw5, ← zeroC_M]; exact hp_new hp
            have z5 := bd.size
            have lp : wr.heap.size ≤ p := by omega
            rw [← hp, ← hw5]
            have S5 : w5.heap[w.heap.size]? = some (.cells g.mc.cells 31 (0, 0)) ∧ w5.cell? ⟨bq, oq + i, none⟩ = some r := ⟨hp_bel S0.1 b5, cell_bel S0.2 b5⟩
            refine hK.out _ _ S5 (fun _ => ?_)
            clear hK K hw5 hp
            try simp only [Act.put, List.getElem_toArray, List.getElem_cons_succ, List.getElem_cons_zero, List.setIfInBounds_toArray, List.set_cons_zero, List.set_cons_succ]
            refine wpAnyH_ready (rs := [5]) (by kernel_rfl) (by simp) (AllReadyH.cons rfl (fun K hK => ?_) AllReadyH.nil)
            go_simp
            refine (HMc.out _ (bel_then bd b5)).mono ?_
            rintro e w3 ⟨rfl, hb3⟩
            have b3 : Below wr.heap.size wr w3 := bel_then (bel_then bd b5) hb3
            have S3 : w3.heap[w.heap.size]? = some (.cells g.mc.cells 31 (0, 0)) ∧ w3.cell? ⟨bq, oq + i, none⟩ = some r := ⟨hp_bel S5.1 hb3, cell_bel S5.2 hb3⟩
            refine hK.out _ _ S3 (fun _ => ?_)
            clear hK K
            try simp only [Act.put, List.getElem_toArray, List.getElem_cons_succ, List.getElem_cons_zero, List.setIfInBounds_toArray, List.set_cons_zero, List.set_cons_succ]
            have h6 := hp_bel h5 hb3
            refine wpAnyH_take (i := 6) (v := ?v6b) rfl (by kernel_rfl) (by kernel_rfl) (by kernel_rfl) (fun _ _ _ h => h) (Or.inl ⟨by rfl, ?h6b⟩) S3 ?_
            case h6b => (intro w4 hS; clear hS; go_simp; first | done | with_reducible rfl)
            simp only [Act.put, List.getElem_toArray, List.getElem_cons_succ, List.getElem_cons_zero, List.setIfInBounds_toArray, List.set_cons_zero, List.set_cons_succ]
            refine wpAnyH_take (i := 7) (v := ?v7b) rfl (by kernel_rfl) (by kernel_rfl) (by kernel_rfl) (fun _ _ _ h => h) (Or.inl ⟨by rfl, ?h7b⟩) S3 ?_
            case h7b => (intro w4 hS; clear hS; go_simp; first | done | with_reducible rfl)
            simp only [Act.put, List.getElem_toArray, List.getElem_cons_succ, List.getElem_cons_zero, List.setIfInBounds_toArray, List.set_cons_zero, List.set_cons_succ]
            refine wpAnyH_take (i := 8) (v := ?v8b) rfl (by kernel_rfl) (by kernel_rfl) (by kernel_rfl) (fun _ _ _ h => h) (Or.inl ⟨by rfl, ?h8b⟩) S3 ?_
            case h8b => (intro w4 hS; clear hS; go_simp; first | done | with_reducible rfl)
            simp only [Act.put, List.getElem_toArray, List.getElem_cons_succ, List.getElem_cons_zero, List.setIfInBounds_toArray, List.set_cons_zero, List.set_cons_succ]
            have Sx : (w3.setRow p M.1.cells).heap[w.heap.size]? = some (.cells g.mc.cells 31 (0, 0)) ∧ (w3.setRow p M.1.cells).cell? ⟨bq, oq + i, none⟩ = some r := ⟨hp_row S3.1 (by have := hp_lt Kr.out; omega) _, by
              unfold World.cell?
              rw [setRow_other _ _ _ _ (show (⟨bq, oq + i, none⟩ : Addr).block ≠ p from by have := World.block_lt_of_cell? wr _ Cr.out; show bq ≠ p; simp only at this; omega)]
              exact S3.2⟩
            refine wpAnyH_ready (rs := [10]) (by kernel_rfl) (by simp) (AllReadyH.cons rfl (fun K hK => ?_) AllReadyH.nil)
            have hk := run_storeM (W := w3) (m := M.1) h6
            go_simp
            refine hK.out _ _ Sx (fun _ => ?_)
            clear hK K hk
            try simp only [Act.put, List.getElem_toArray, List.getElem_cons_succ, List.getElem_cons_zero, List.setIfInBounds_toArray, List.set_cons_zero, List.set_cons_succ]
            refine wpAnyH_take (i := 11) (v := ?v11b) rfl (by kernel_rfl) (by kernel_rfl) (by kernel_rfl) (fun _ _ _ h => h) (Or.inl ⟨by rfl, ?h11b⟩) Sx ?_
            case h11b => (intro w4 hS; clear hS; go_simp; first | done | with_reducible rfl)
            simp only [Act.put, List.getElem_toArray, List.getElem_cons_succ, List.getElem_cons_zero, List.setIfInBounds_toArray, List.set_cons_zero, List.set_cons_succ]
            refine wpAnyH_done (by kernel_rfl) ?_ _
            have F := hidd (show Below wr.heap.size wr (w3.setRow p M.1.cells) ∧ wr.heap.size ≤ p ∧ (w3.setRow p M.1.cells).heap[p]? = some (.cells M.1.cells 31 (0, 0)) from ⟨bel_row b3 lp _, lp, setRow_heap _ _ _ _ _ _ h6⟩)
            clear Sx
            obtain ⟨w6, hw6⟩ : ∃ w6, w6 = w3.setRow p M.1.cells := ⟨_, rfl⟩
            rw [← hw6] at F ⊢
            exact cont w6 p F.out) ?_
        rintro w4 p ⟨hb4, hp4, h4⟩
        clear HMc Kr Cr
        have HL4 := hidd (hp_bel HL.out hb4)
        have HV4 := hidd (HV.out.below hb4)
        have hzl := hp_lt HL.out
        have Z4 := hidd (hp_bel Z1.out (bel_then HbW.out hb4))
        have B4 := hidd (show Below l w1 w4 from Hb.out.trans (hb4.mono (by omega)))
        have H4 := hidd h4
        have HNp := hidd (show vm.ownBlock ≠ some p from fun e => by have := (HV.out.block p e).2; omega)
        have hlp : l < p := by omega
        clear hb4 h4 HL HV Hb HbW
        rcases hmc with hc | hc
        · have HQn := hidd (HQs.out hc)
          rw [hc]
          clear hc HBd HQs
          obtain ⟨Am, cm, hve⟩ := HV4.out.slice
          rw [show (msC (g.mks (xss.take i))).length = i by simp [msC, Gm.mks]; omega] at hve
          subst hve
          have q1 : w4.cell? ⟨l, 1, none⟩ = some (.slice Am i cm) := blkc HL4.out 1
          go_wp2_with (first
            | (refine ldC rfl (.tmp 9) rfl _ M.1 H4.out (by rfl) ?_)
            | (refine bsl_M rfl (.tmp 45) rfl M.1 (by rfl) ?_)
            | (at_builtin; refine app_wide rfl _ _ _ rfl (l + 1) 31 (.agg Mc.zero.cells) 98 112 Try.underlying43 info27 (Mc.zero.cells_size) (by decide) HV4.out rfl rfl M.1.cells_size (fun u hu => all_mem M.1.cells_all u (by simpa using hu)) (by simp [msC, Gm.mks]; omega) (by decide) (by have := hp_lt HL4.out; omega) ?_
               intro v' wf ho hgr hle hli
               obtain ⟨Av, cv, hvv⟩ := ho.slice
               rw [show (msC (g.mks (xss.take i)) ++ [M.1.cells.toList]).length = i + 1 by simp [msC, Gm.mks]; omega] at hvv
               have HLf := hidd (kept_own hgr HL4.out (HV4.out.ne_low (Nat.lt_succ_self l)))
               have Bf := hidd (show Below l w1 wf from B4.out.trans ((belW_own HV4.out hgr (by have := hp_lt HL4.out; omega)).mono (by have := hp_lt HL4.out; omega)))
               have HVf := hidd ho
               subst hvv
               have t5 : wf.cell? ⟨l, 1, none⟩ = some (.slice Am i cm) := blkc HLf.out 1
               have t6 := blkf HLf.out 1
               clear hgr hli ho hle q1))
          go_roundw
          case rel => exact ⟨i + 1, _, by go_num, by omega, HQn, hidd (hp_set HLf.out 1 _), hidd (by rw [← HSn.out]; exact HVf.out.grown (grown_set _ _ _ _) (.inr (HVf.out.ne_low (Nat.lt_succ_self l)))), hidd (Bf.out.setCell (p := ⟨l, 1, none⟩) (Nat.le_refl _) _)⟩
          case measure => first | (simp [intOf]; done) | (simp [intOf]; omega)
        · subst hc
          have HB3 := hidd (HBd.out (by decide))
          clear HBd HQs
          go_wp2_with (refine st143 rfl (.tmp 4) (.tmp 41) rfl _ (.slice none 0 0) (.slice none 0 0) _ _ Z4.out (by rfl) (by rfl) rfl rfl ?_)
          refine bodyPost_ret (v := .tuple #[.agg #[.slice none 0 0, .slice none 0 0], .int .i64 3]) (results_cell_tmp rfl _ _ z 45 _ (0, 0) _ _ rfl rfl (setRow_heap _ _ _ _ _ _ Z4.out) Try.underlying45 rfl (cells143 _ _)) rfl ⟨⟨.slice none 0 0, ⟨none, 0, 0, rfl⟩, .slice none 0 0, ⟨none, 0, 0, rfl⟩, by rw [HB3.out], fun h => by rw [HB3.out] at h; cases h⟩, ?_⟩
          exact bel_row (bel_then B1.out (show Below w1.heap.size w1 w4 by rw [← Hl.out]; exact B4.out)) hwz2 _
      · have he : i = xss.length := by omega
        have HC := hidd (Gm.lofC_ok H32.out (fun j hj => HQ.out j hj (by omega)))
        have HV2 : Hid (OwnW wr (l + 1) 31 98 vm (msC (g.mks xss))) := hidd (by have h := HV.out; rwa [List.take_of_length_le (by omega)] at h)
        have Zr := hidd (hp_bel Z1.out HbW.out)
        obtain ⟨Av, cv, hvv⟩ := HV2.out.slice
        subst hvv
        subst he
        clear hlt
        go_wp2_with (first | (refine ld143 rfl (.tmp 7) rfl _ _ _ HL.out (by rfl) ?_) | (refine st143 rfl (.tmp 4) (.tmp 49) rfl _ _ _ _ _ Zr.out (by rfl) (by rfl) rfl rfl ?_))
        refine bodyPost_ret (v := .tuple #[.agg #[.slice A xss.length c, .slice Av (msC (g.mks xss)).length cv], .int .i64 0]) (results_cell_tmp rfl _ _ z 45 _ (0, 0) _ _ rfl rfl (setRow_heap _ _ _ _ _ _ Zr.out) Try.underlying45 rfl (cells143 _ _)) rfl ⟨⟨_, _, ⟨_, _, _, rfl⟩, ⟨_, _, _, rfl⟩, by rw [HC.out], fun _ => ⟨rfl, ?_⟩⟩, ?_⟩
        · exact (HV2.out.grown (grown_row _ _ _) (.inr (HV2.out.ne_low (by rw [← Hl.out] at hzz; omega)))).mono (by omega)
        · exact bel_row (bel_then B1.out HbW.out) hwz2 _
end Go.Proofs.Ytcghcbdefajpgaa

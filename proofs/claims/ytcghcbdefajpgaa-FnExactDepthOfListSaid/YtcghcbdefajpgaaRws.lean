/- Walks: the images and places of all sections of a word, of the reference. -/
import Derived.Test.YtcghcbdefajpgaaRwp
import Derived.Test.YtcghcbdefajpgaaBI
namespace Go.Proofs.Ytcghcbdefajpgaa
open Go.RowKit
set_option linter.unusedSimpArgs false

section
variable {ops : Array Oper} {rest : List Oper} {o : Oper} {a : Act} {w : World} {Q : Exit → Act → World → Prop}
/-- A whole array of three is read out of a variable. -/
theorem ld22 (hw : Region.wanted o (yielded ops a.tmps) = true) (x : Operand) (ho : o.op = .load 22 x) (g : Nat) (cs : Array Value) (hs : cs.size = 3) {t : TypeId} {fr : Nat × Nat}
    (hg : w.heap[g]? = some (.cells cs t fr)) (hx : a.eval x = .pointer (some ⟨g, 0, none⟩)) (h : wpList Try.prog ops Q rest (a.put o.dst (.agg cs)) w) : wpList Try.prog ops Q (o :: rest) a w := by
  have e : cs.extract 0 (0 + 3) = cs := by rw [show 0 + 3 = cs.size by omega]; simp
  refine wpList_load_at_g hw 22 x ho g 0 3 hx t cs fr _ hg Try.underlying22 rfl (by kernel_rfl) (by omega) ?_
  rw [e]; exact h
/-- A whole array of three is read out of a variable. -/
theorem ld207 (hw : Region.wanted o (yielded ops a.tmps) = true) (x : Operand) (ho : o.op = .load 102 x) (g : Nat) (cs : Array Value) (hs : cs.size = 3) {t : TypeId} {fr : Nat × Nat}
    (hg : w.heap[g]? = some (.cells cs t fr)) (hx : a.eval x = .pointer (some ⟨g, 0, none⟩)) (h : wpList Try.prog ops Q rest (a.put o.dst (.agg cs)) w) : wpList Try.prog ops Q (o :: rest) a w := by
  have e : cs.extract 0 (0 + 3) = cs := by rw [show 0 + 3 = cs.size by omega]; simp
  refine wpList_load_at_g hw 102 x ho g 0 3 hx t cs fr _ hg Try.underlying102 rfl (by kernel_rfl) (by omega) ?_
  rw [e]; exact h
end
theorem info22 : (Try.prog.info? 22).map (fun i => (i.zero, i.size, i.bytes)) = some (some (.agg #[.int .u8 0, .int .u8 0, .int .u8 0]), 3, 3) := by kernel_rfl
theorem info207 : (Try.prog.info? 102).map (fun i => (i.zero, i.size, i.bytes)) = some (some (.agg #[.int .i64 0, .int .i64 0, .int .i64 0]), 3, 24) := by kernel_rfl
theorem take_snoc {α : Type} (f : List Int → α) {W : List (List Int)} {i : Nat} {s : List Int} (hi : i < W.length) (h : W.getD i [] = s) : (W.take i).map f ++ [f s] = (W.take (i + 1)).map f := by
  rw [List.getD_eq_getElem?_getD, List.getElem?_eq_getElem hi, Option.getD_some] at h
  rw [List.take_add_one, List.getElem?_eq_getElem hi, h]
  simp

set_option maxRecDepth 100000 in
set_option maxHeartbeats 4000000 in
theorem l02Rows_any (g : Gm) (hok : g.Ok) (v : Value) (u : List Int) (hu : g.Nums u) (hlen : u.length ≤ 1048576) (w : World) (hr : RdI w v u) :
    Calls Try.prog 59 #[.agg g.mc.cells, v] w fun e w' => (∃ a b, e = .returned (.tuple #[a, b, .bool (decide ((g.secs (fun _ => true) u).2.2 = 0))]) ∧ OwnW w' w.heap.size 22 3 a ((g.secs (fun _ => true) u).1.map (oR g)) ∧ OwnW w' w.heap.size 102 3 b ((g.secs (fun _ => true) u).2.1.map nR)) ∧ Below w.heap.size w w' := by
  have HO := hidd hok
  have Hr := hidd hr
  have HU := hidd hu
  have l3 := hok.l3
  obtain ⟨A0, c0, rfl, hq0⟩ := hr
  clear hok hu hq0
  go_enter Try.func59, Try.ntmps59
  go_wp2_with fail
  obtain ⟨w1, hw1⟩ : ∃ w1, w1 = w.alloc (.cells g.mc.cells 31) := ⟨_, rfl⟩
  rw [← hw1]
  have B1 := hidd (show Below w.heap.size w w1 by rw [hw1]; exact bel_alloc' _ _)
  have K1 := hidd (show w1.heap[w.heap.size]? = some (.cells g.mc.cells 31 (0, 0)) by rw [hw1]; exact hp_new rfl)
  clear hw1
  refine wp_region_held (S := fun w' => w'.heap[w.heap.size]? = some (.cells g.mc.cells 31 (0, 0))) (by kernel_rfl) ?_
  change wpAnyH _ _ _ _ _ _ _ _ (World.drew _)
  have S0 := hidd (show w1.drew.heap[w.heap.size]? = some (.cells g.mc.cells 31 (0, 0)) from K1.out)
  refine wpAnyH_take (i := 0) (v := .agg g.mc.cells) rfl (by kernel_rfl) (by kernel_rfl) (by kernel_rfl) (fun _ _ _ h => h) (Or.inl ⟨by rfl, fun w2 hS => ?_⟩) S0.out ?_
  · have hk := run_loadM (W := w2) hS
    dsimp only at hS
    clear hS
    go_simp
  simp only [Act.put, List.getElem_toArray, List.getElem_cons_succ, List.getElem_cons_zero, List.setIfInBounds_toArray, List.set_cons_zero, List.set_cons_succ]
  refine wpAnyH_take (i := 2) (v := .agg g.mc.cells) rfl (by kernel_rfl) (by kernel_rfl) (by kernel_rfl) (fun _ _ _ h => h) (Or.inl ⟨by rfl, fun w2 hS => ?_⟩) S0.out ?_
  · have hk := run_loadM (W := w2) hS
    dsimp only at hS
    clear hS
    go_simp
  simp only [Act.put, List.getElem_toArray, List.getElem_cons_succ, List.getElem_cons_zero, List.setIfInBounds_toArray, List.set_cons_zero, List.set_cons_succ]
  refine wpAnyH_take (i := 4) (v := .agg g.mc.cells) rfl (by kernel_rfl) (by kernel_rfl) (by kernel_rfl) (fun _ _ _ h => h) (Or.inl ⟨by rfl, fun w2 hS => ?_⟩) S0.out ?_
  · have hk := run_loadM (W := w2) hS
    dsimp only at hS
    clear hS
    go_simp
  simp only [Act.put, List.getElem_toArray, List.getElem_cons_succ, List.getElem_cons_zero, List.setIfInBounds_toArray, List.set_cons_zero, List.set_cons_succ]
  refine wpAnyH_growC (fun w2 w3 hb h => hp_bel h hb) 3 #[true, true, true, true, true, true, true, true, true, false, false, false] [Ft.val 1 22 (.agg g.inv.mc.cells), Ft.val 3 24 (.agg (iv g.ls16 16)), Ft.val 5 26 (.agg (bv g.tr16 16)), Ft.blk 6 7 w1.heap.size (.cells Mc.zero.cells 31 (0, 0)), Ft.blk 7 8 w1.heap.size (.cells (iv (fun _ => 0) 16) 79 (0, 0)), Ft.blk 8 9 w1.heap.size (.cells (bv (fun _ => false) 16) 81 (0, 0))] [1, 3, 5, 6, 7, 8] [22, 24, 26, 7, 8, 9] rfl rfl (by kernel_rfl) ?_ S0.out ?_
  · simp only [List.forall_mem_cons]
    refine ⟨?_, ?_, ?_, ?_, ?_, ?_, fun _ h => by cases h⟩
    · refine ⟨_, rfl, rfl, fun u w2 hS hb hf K hK => ?_⟩
      simp only [putT, List.map_cons, List.map_nil, Ft.val, Ft.blk, putF, List.foldl_cons, List.foldl_nil, Act.put, List.setIfInBounds_toArray, List.set_cons_zero, List.set_cons_succ] at hK ⊢
      clear hf
      go_simp
      refine (l01Inverse_any g HO.out _ (Gm.is_cells HO.out) _).mono ?_
      rintro e w3 ⟨rfl, hb3⟩
      exact hK _ _ hb3 rfl (fun h => by cases h)
    · refine ⟨_, rfl, rfl, fun u w2 hS hb hf K hK => ?_⟩
      simp only [putT, List.map_cons, List.map_nil, Ft.val, Ft.blk, putF, List.foldl_cons, List.foldl_nil, Act.put, List.setIfInBounds_toArray, List.set_cons_zero, List.set_cons_succ] at hK ⊢
      clear hf
      go_simp
      refine (l01Classes_any g HO.out _ (Gm.is_cells HO.out) _).mono ?_
      rintro e w3 ⟨rfl, hb3⟩
      exact hK _ _ hb3 rfl (fun h => by cases h)
    · refine ⟨_, rfl, rfl, fun u w2 hS hb hf K hK => ?_⟩
      simp only [putT, List.map_cons, List.map_nil, Ft.val, Ft.blk, putF, List.foldl_cons, List.foldl_nil, Act.put, List.setIfInBounds_toArray, List.set_cons_zero, List.set_cons_succ] at hK ⊢
      clear hf
      go_simp
      refine (l01Trivial_any g HO.out _ (Gm.is_cells HO.out) _).mono ?_
      rintro e w3 ⟨rfl, hb3⟩
      exact hK _ _ hb3 rfl (fun h => by cases h)
    all_goals
      refine ⟨_, rfl, rfl, fun u w2 hS hb hf K hK => ?_⟩
      simp only [putT, List.map_cons, List.map_nil, Ft.val, Ft.blk, putF, List.foldl_cons, List.foldl_nil, Act.put, List.setIfInBounds_toArray, List.set_cons_zero, List.set_cons_succ] at hK ⊢
      clear hf
      go_simp
      have hz2 : w1.heap.size ≤ w2.heap.size := hb.size
      first
        | exact hK _ _ (bel_alloc' _ _) ⟨_, rfl, hz2, hp_new rfl⟩ (fun _ k e => by cases e; simp)
        | (rw [zeroC_M]; exact hK _ _ (bel_alloc' _ _) ⟨_, rfl, hz2, hp_new rfl⟩ (fun _ k e => by cases e; simp))
  intro uu w2 hS hb hf hne
  have e1 : uu 22 = .agg g.inv.mc.cells := fs_all hf 0 _ rfl
  have e2 : uu 24 = .agg (iv g.ls16 16) := fs_all hf 1 _ rfl
  have e3 : uu 26 = .agg (bv g.tr16 16) := fs_all hf 2 _ rfl
  obtain ⟨ib, e4, l4, h4⟩ := fs_all hf 3 _ rfl
  obtain ⟨cb, e5, l5, h5⟩ := fs_all hf 4 _ rfl
  obtain ⟨tb, e6, l6, h6⟩ := fs_all hf 5 _ rfl
  have n45 : ib ≠ cb := fs_ne hne 3 4 _ _ rfl rfl rfl rfl (by intro h; simp [Ft.blk] at h) (show blkOf (uu 7) = some ib from by rw [show uu 7 = _ from e4]; rfl) (show blkOf (uu 8) = some cb from by rw [show uu 8 = _ from e5]; rfl)
  have n46 : ib ≠ tb := fs_ne hne 3 5 _ _ rfl rfl rfl rfl (by intro h; simp [Ft.blk] at h) (show blkOf (uu 7) = some ib from by rw [show uu 7 = _ from e4]; rfl) (show blkOf (uu 9) = some tb from by rw [show uu 9 = _ from e6]; rfl)
  have n56 : cb ≠ tb := fs_ne hne 4 5 _ _ rfl rfl rfl rfl (by intro h; simp [Ft.blk] at h) (show blkOf (uu 8) = some cb from by rw [show uu 8 = _ from e5]; rfl) (show blkOf (uu 9) = some tb from by rw [show uu 9 = _ from e6]; rfl)
  clear hf hne
  have e4' : uu 7 = .pointer (some ⟨ib, 0, none⟩) := e4
  have e5' : uu 8 = .pointer (some ⟨cb, 0, none⟩) := e5
  have e6' : uu 9 = .pointer (some ⟨tb, 0, none⟩) := e6
  simp only [putT, List.map_cons, List.map_nil, Ft.val, Ft.blk, putF, List.foldl_cons, List.foldl_nil, Act.put, List.setIfInBounds_toArray, List.set_cons_zero, List.set_cons_succ, List.getElem_toArray, List.getElem_cons_succ, List.getElem_cons_zero, e1, e2, e3, e4', e5', e6']
  clear e4 e5 e6 e4' e5' e6' e1 e2 e3
  have hb' : Below w1.heap.size w1 w2 := (drew_bel w1).trans hb
  have hwl := B1.out.size
  have hbx : w.heap.size < w1.heap.size := hp_lt K1.out
  obtain ⟨w3, hw3⟩ : ∃ w3, w3 = ((w2.setRow ib g.inv.mc.cells).setRow cb (iv g.ls16 16)).setRow tb (bv g.tr16 16) := ⟨_, rfl⟩
  have P3w := hidd (show P3 g w1.heap.size w3 ib cb tb by
    rw [hw3]
    refine ⟨?_, ?_, ?_, l4, l5, l6⟩
    · exact hp_row (hp_row (setRow_heap _ _ _ _ _ _ h4) n45 _) n46 _
    · exact hp_row (setRow_heap _ _ _ _ _ _ (hp_row h5 (Ne.symm n45) _)) n56 _
    · exact setRow_heap _ _ _ _ _ _ (hp_row (hp_row h6 (Ne.symm n46) _) (Ne.symm n56) _))
  have K3 := hidd (show w3.heap[w.heap.size]? = some (.cells g.mc.cells 31 (0, 0)) by rw [hw3]; exact hp_row (hp_row (hp_row hS (by omega) _) (by omega) _) (by omega) _)
  have B3 := hidd (show Below w1.heap.size w1 w3 by rw [hw3]; exact bel_row (bel_row (bel_row hb' (by omega) _) (by omega) _) (by omega) _)
  refine wpAnyH_ready (rs := [9]) (by kernel_rfl) (by simp) (AllReadyH.cons rfl (fun K hK => ?_) AllReadyH.nil)
  have hk := run_storeM (W := w2) (m := g.inv.mc) h4
  go_simp
  refine hK.out _ _ (hp_row hS (by omega) _) (fun _ => ?_)
  clear hk hK K
  refine wpAnyH_ready (rs := [10]) (by kernel_rfl) (by simp) (AllReadyH.cons rfl (fun K hK => ?_) AllReadyH.nil)
  have hk := run_storeA (W := w2.setRow ib g.inv.mc.cells) (C := g.ls16) (hp_row h5 (Ne.symm n45) _)
  go_simp
  refine hK.out _ _ (hp_row (hp_row hS (by omega) _) (by omega) _) (fun _ => ?_)
  clear hk hK K
  refine wpAnyH_ready (rs := [11]) (by kernel_rfl) (by simp) (AllReadyH.cons rfl (fun K hK => ?_) AllReadyH.nil)
  have hk := run_storeB (W := (w2.setRow ib g.inv.mc.cells).setRow cb (iv g.ls16 16)) (C := g.tr16) (hp_row (hp_row h6 (Ne.symm n46) _) (Ne.symm n56) _)
  go_simp
  refine hK.out _ _ (hp_row (hp_row (hp_row hS (by omega) _) (by omega) _) (by omega) _) (fun _ => ?_)
  clear hk hK K
  refine wpAnyH_done (by kernel_rfl) ?_ _
  rw [← hw3]
  clear hw3 h4 h5 h6 hS hb hb' l4 l5 l6 n45 n46 n56
  obtain ⟨k1, k2, k3⟩ := P3w.out.ic
  have BW3 := hidd (bel_then B1.out B3.out)
  go_wp2_with fail
  clear k1 k2 k3
  refine (l02Normal_any g HO.out _ u HU.out hlen w3 (Hr.out.below BW3.out)).mono ?_
  rintro e w4 ⟨⟨s0, rfl, ho⟩, hb⟩
  have HS0 := hidd ho
  have b34 := hidd hb
  obtain ⟨As, cs, rfl⟩ := ho.slice
  clear ho hb
  go_wp2_with fail
  obtain ⟨w5, hw5⟩ : ∃ w5, w5 = ((w4.alloc (.cells #[.slice As (ints (g.nrm u)).length cs] 26)).alloc (.cells #[] 22)).alloc (.cells #[] 102) := ⟨_, rfl⟩
  rw [← hw5]
  have b35 := hidd (show Below w3.heap.size w3 w5 by rw [hw5]; exact bel_then b34.out (((bel_alloc' _ _).alloc (by simp) _).alloc (by simp; omega) _))
  have HN0 := hidd (show g.Nums (g.nrm u) ∧ (g.nrm u).length ≤ u.length from ⟨Gm.nrm_nums HU.out, g.nrm_len u⟩)
  have HQ0 := hidd (show Rq w5 w3.heap.size (.slice (some ⟨w4.heap.size, 0, none⟩) 1 1) (.slice (some ⟨w4.heap.size + 1, 0, none⟩) 0 0) (.slice (some ⟨w4.heap.size + 1 + 1, 0, none⟩) 0 0) [.slice As (ints (g.nrm u)).length cs] [g.nrm u] (([g.nrm u].take 0).map (oR g)) (([] : List (List Int)).map nR) by
    have hz := b34.out.size
    have hs : (w4.alloc (.cells #[.slice As (ints (g.nrm u)).length cs] 26)).heap.size = w4.heap.size + 1 := by simp
    have hs2 : ((w4.alloc (.cells #[.slice As (ints (g.nrm u)).length cs] 26)).alloc (.cells #[] 22)).heap.size = w4.heap.size + 1 + 1 := by simp
    have hE := OwnW.empty (w4.alloc (.cells #[.slice As (ints (g.nrm u)).length cs] 26)) 22 3 w3.heap.size (by rw [hs]; omega)
    rw [hs] at hE
    have hF := OwnW.empty ((w4.alloc (.cells #[.slice As (ints (g.nrm u)).length cs] 26)).alloc (.cells #[] 22)) 102 3 w3.heap.size (by rw [hs2]; omega)
    rw [hs2] at hF
    rw [hw5]
    exact ⟨LLr.lit1 (((HS0.out.alloc _).alloc _).alloc _) (hp_old (hp_old (hp_new rfl))) hz, hE.below (bel_alloc' _ _), hF⟩)
  have HT0 : Hid (g.bf (fun _ => true) (201 - 0) 0 [g.nrm u] [] = g.secs (fun _ => true) u) := hidd rfl
  have HW0 := hidd (show g.Wd u.length [g.nrm u] from fun s hs => by rw [List.mem_singleton.1 hs]; exact HN0.out)
  obtain ⟨q0, hq0⟩ : ∃ q0 : Value, q0 = .slice (some ⟨w4.heap.size, 0, none⟩) 1 1 := ⟨_, rfl⟩
  obtain ⟨o0, ho0⟩ : ∃ n0 : Value, n0 = .slice (some ⟨w4.heap.size + 1, 0, none⟩) 0 0 := ⟨_, rfl⟩
  obtain ⟨n0, hn0⟩ : ∃ n0 : Value, n0 = .slice (some ⟨w4.heap.size + 1 + 1, 0, none⟩) 0 0 := ⟨_, rfl⟩
  simp only [← hq0, ← hn0, ← ho0] at HQ0 ⊢
  obtain ⟨T, hT⟩ : ∃ T, T = g.secs (fun _ => true) u := ⟨_, rfl⟩
  rw [← hT] at HT0
  have HTe := hidd hT
  clear hw5 HN0 HS0 b34 hq0 hn0 ho0 hT
  go_loopw [10, 11, 12, 13] (fun q o n y wr => ∃ (i : Nat) (W R : List (List Int)) (rw : List Value), y = .int .i64 i ∧ (i ≤ W.length ∧ W.length ≤ 200) ∧ Hid (R.length = i) ∧ Hid (g.Wd u.length W) ∧ Hid (g.bf (fun _ => true) (201 - i) i W R = T) ∧ Hid (Rq wr w3.heap.size q o n rw W ((W.take i).map (oR g)) (R.map nR)) ∧ Hid (Below w3.heap.size w3 wr)) (fun _ _ _ y _ => 200 - (intOf y).toNat)
  case atStart => exact ⟨0, [g.nrm u], [], _, rfl, ⟨Nat.zero_le _, by simp⟩, hidd rfl, HW0, HT0, HQ0, b35⟩
  case round =>
    clear HW0 HT0 HQ0 b35
    obtain ⟨i, W, R, rw, rfl, ⟨hi, h200⟩, HRl, HW, HT, HQ, Hb⟩ := hrel
    obtain ⟨Aq, cq, hqe⟩ := HQ.out.q.v.slice
    rw [HQ.out.q.len] at hqe
    subst hqe
    obtain ⟨wo, rfl⟩ : ∃ wo, wo = wr := ⟨_, rfl⟩
    by_cases hlt : i < W.length
    · have i1 : (i : Int) < W.length := by omega
      obtain ⟨f, hf⟩ : ∃ f, 201 - i = f + 1 := ⟨200 - i, by omega⟩
      rw [hf] at HT
      have hgs := HW.out.get hlt
      obtain ⟨s, hs⟩ : ∃ s, s = W.getD i [] := ⟨_, rfl⟩
      have HS := hidd hs
      have HGS := hidd (show g.Nums s ∧ s.length ≤ u.length by rw [hs]; exact hgs)
      clear hgs hs
      have hzo := Hb.out.size
      obtain ⟨wp, hwp⟩ : ∃ wp, wp = (wo.alloc (.cells #[.int .u8 0, .int .u8 0, .int .u8 0] 22)).alloc (.cells #[.int .i64 0, .int .i64 0, .int .i64 0] 102) := ⟨_, rfl⟩
      have L1 := hidd (show Ri g wp w3.heap.size (.slice Aq W.length cq) u11 u12 rw W ((W.take i).map (oR g)) (R.map nR) wo.heap.size (wo.heap.size + 1) s 0 [] by
        rw [hwp]
        exact ⟨HQ.out.below ((bel_alloc' _ _).alloc (by simp) _), hp_old (hp_new rfl), hp_new (by simp), HQ.out.o.ne_new, fun h => by have := HQ.out.n.block _ h; omega, rfl, hzo, by omega⟩)
      have b0 := hidd (show Below w3.heap.size w3 wp by rw [hwp]; exact bel_then Hb.out ((bel_alloc' wo _).alloc (by simp) _))
      clear HQ Hb
      go_wp2_with fail
      rw [← hwp]
      clear hwp
      go_loopw [10, 16] (fun q y wr => ∃ (x : Nat) (W' : List (List Int)) (row : List Int) (rw' : List Value), y = .int .i64 x ∧ x ≤ g.l ∧ (i < W'.length ∧ W'.length ≤ 200) ∧ Hid (W'.getD i [] = s) ∧ Hid (g.bfRow s x W = some (W', row)) ∧ Hid (g.Wd u.length W') ∧ Hid (Ri g wr w3.heap.size q u11 u12 rw' W' ((W'.take i).map (oR g)) (R.map nR) wo.heap.size (wo.heap.size + 1) s x row) ∧ Hid (Below w3.heap.size w3 wr)) (fun _ y _ => g.l - (intOf y).toNat)
      case atStart => exact ⟨0, W, [], rw, rfl, Nat.zero_le _, ⟨hlt, h200⟩, hidd HS.out.symm, hidd rfl, HW, L1, b0⟩
      case round =>
        clear HW L1 b0
        obtain ⟨x, W', row, rw', rfl, hx, ⟨hi2, h2002⟩, HG1, HB, HW, HQ, Hb⟩ := hrel
        obtain ⟨wi, rfl⟩ : ∃ wi, wi = wr := ⟨_, rfl⟩
        obtain ⟨Aq2, cq2, hqe⟩ := HQ.out.r.q.v.slice
        rw [HQ.out.r.q.len] at hqe
        subst hqe
        have a1 := (Gm.At.of_is (Gm.is_cells HO.out) (hp_bel K3.out Hb.out)).l
        by_cases hlx : x < g.l
        · have k1 : (x : Int) < g.l := by omega
          have i2 : (x : Int) < 256 := by omega
          have i3 : (0 : Int) ≤ x := by omega
          have r8 : IntKind.u8.wrap (x : Int) = (x : Int) := IntWalk.u8_in _ (by omega)
          have i4 : (0 : Int) ≤ i := by omega
          have i5 : (i : Int) < W'.length := by omega
          have hir : i < rw'.length := by rw [HQ.out.r.q.len]; exact hi2
          have hrow := HQ.out.r.q.row i rw'[i] s (List.getElem?_eq_getElem hir) (by rw [← HG1.out, List.getD_eq_getElem?_getD, List.getElem?_eq_getElem hi2]; rfl)
          obtain ⟨bq, oq, rfl, hcell⟩ := HQ.out.r.q.v.rd.2.at_ (List.getElem?_eq_getElem hir)
          obtain ⟨r, hrr⟩ : ∃ r, r = rw'[i] := ⟨_, rfl⟩
          rw [← hrr] at hrow hcell
          have Hrow := hidd hrow
          have Hcell := hidd hcell
          obtain ⟨Ar, cr, rfl⟩ := hrow.slice
          clear hrow hrr hcell
          go_wp2_with fail
          clear a1
          have S0 := hidd (show Below wi.heap.size wi wi.drew from drew_bel wi)
          have HA := hidd (l02Led_any g HO.out _ s HGS.out.1 (Nat.le_trans HGS.out.2 hlen) x hlx wi.drew (Hrow.out.rdI.below S0.out))
          have HX1 := hidd (fun W' (h : Below wi.heap.size wi W') => hp_bel (hp_bel K3.out Hb.out) h)
          have HX2 := hidd (fun W' (h : Below wi.heap.size wi W') => hp_bel (hp_bel P3w.out.i Hb.out) h)
          have HX3 := hidd (fun W' (h : Below wi.heap.size wi W') => (h.cell (p := ⟨bq, oq + i, none⟩) (World.block_lt_of_cell? _ _ Hcell.out)).trans Hcell.out)
          refine wp_region_held (S := fun w' => Below wi.heap.size wi w') (by kernel_rfl) ?_
          change wpAnyH _ _ _ _ _ _ _ _ (World.drew _)
          refine wpAnyH_take (i := 0) (v := ?v0) rfl (by kernel_rfl) (by kernel_rfl) (by kernel_rfl) (fun _ _ _ h => h) (Or.inl ⟨by rfl, ?h0⟩) S0.out ?_
          case h0 => (intro w4 hS; have k1 := run_loadM (W := w4) (HX1.out _ hS); have k2 := run_loadM (W := w4) (HX2.out _ hS); have k3 := HX3.out _ hS; clear hS; go_simp; first | done | with_reducible rfl)
          simp only [Act.put, List.getElem_toArray, List.getElem_cons_succ, List.getElem_cons_zero, List.setIfInBounds_toArray, List.set_cons_zero, List.set_cons_succ]
          refine wpAnyH_take (i := 1) (v := ?v1) rfl (by kernel_rfl) (by kernel_rfl) (by kernel_rfl) (fun _ _ _ h => h) (Or.inl ⟨by rfl, ?h1⟩) S0.out ?_
          case h1 => (intro w4 hS; have k1 := run_loadM (W := w4) (HX1.out _ hS); have k2 := run_loadM (W := w4) (HX2.out _ hS); have k3 := HX3.out _ hS; clear hS; go_simp; first | done | with_reducible rfl)
          simp only [Act.put, List.getElem_toArray, List.getElem_cons_succ, List.getElem_cons_zero, List.setIfInBounds_toArray, List.set_cons_zero, List.set_cons_succ]
          refine wpAnyH_take (i := 2) (v := ?v2) rfl (by kernel_rfl) (by kernel_rfl) (by kernel_rfl) (fun _ _ _ h => h) (Or.inl ⟨by rfl, ?h2⟩) S0.out ?_
          case h2 => (intro w4 hS; have k1 := run_loadM (W := w4) (HX1.out _ hS); have k2 := run_loadM (W := w4) (HX2.out _ hS); have k3 := HX3.out _ hS; clear hS; go_simp; first | done | with_reducible rfl)
          simp only [Act.put, List.getElem_toArray, List.getElem_cons_succ, List.getElem_cons_zero, List.setIfInBounds_toArray, List.set_cons_zero, List.set_cons_succ]
          refine wpAnyH_take (i := 3) (v := ?v3) rfl (by kernel_rfl) (by kernel_rfl) (by kernel_rfl) (fun _ _ _ h => h) (Or.inl ⟨by rfl, ?h3⟩) S0.out ?_
          case h3 => (intro w4 hS; have k1 := run_loadM (W := w4) (HX1.out _ hS); have k2 := run_loadM (W := w4) (HX2.out _ hS); have k3 := HX3.out _ hS; clear hS; go_simp; first | done | with_reducible rfl)
          simp only [Act.put, List.getElem_toArray, List.getElem_cons_succ, List.getElem_cons_zero, List.setIfInBounds_toArray, List.set_cons_zero, List.set_cons_succ]
          refine wpAnyH_take (i := 4) (v := ?v4) rfl (by kernel_rfl) (by kernel_rfl) (by kernel_rfl) (fun _ _ _ h => h) (Or.inl ⟨by rfl, ?h4⟩) S0.out ?_
          case h4 => (intro w4 hS; have k1 := run_loadM (W := w4) (HX1.out _ hS); have k2 := run_loadM (W := w4) (HX2.out _ hS); have k3 := HX3.out _ hS; clear hS; go_simp; first | done | with_reducible rfl)
          simp only [Act.put, List.getElem_toArray, List.getElem_cons_succ, List.getElem_cons_zero, List.setIfInBounds_toArray, List.set_cons_zero, List.set_cons_succ]
          refine wpAnyH_take (i := 5) (v := ?v5) rfl (by kernel_rfl) (by kernel_rfl) (by kernel_rfl) (fun _ _ _ h => h) (Or.inl ⟨by rfl, ?h5⟩) S0.out ?_
          case h5 => (intro w4 hS; have k1 := run_loadM (W := w4) (HX1.out _ hS); have k2 := run_loadM (W := w4) (HX2.out _ hS); have k3 := HX3.out _ hS; clear hS; go_simp; first | done | with_reducible rfl)
          simp only [Act.put, List.getElem_toArray, List.getElem_cons_succ, List.getElem_cons_zero, List.setIfInBounds_toArray, List.set_cons_zero, List.set_cons_succ]
          refine wpAnyH_take (i := 6) (v := ?v6) rfl (by kernel_rfl) (by kernel_rfl) (by kernel_rfl) (fun _ _ _ h => h) (Or.inl ⟨by rfl, ?h6⟩) S0.out ?_
          case h6 => (intro w4 hS; have k1 := run_loadM (W := w4) (HX1.out _ hS); have k2 := run_loadM (W := w4) (HX2.out _ hS); have k3 := HX3.out _ hS; clear hS; go_simp; first | done | with_reducible rfl)
          simp only [Act.put, List.getElem_toArray, List.getElem_cons_succ, List.getElem_cons_zero, List.setIfInBounds_toArray, List.set_cons_zero, List.set_cons_succ]
          refine wpAnyH_take (i := 7) (v := ?v7) rfl (by kernel_rfl) (by kernel_rfl) (by kernel_rfl) (fun _ _ _ h => h) (Or.inl ⟨by rfl, ?h7⟩) S0.out ?_
          case h7 => (intro w4 hS; have k1 := run_loadM (W := w4) (HX1.out _ hS); have k2 := run_loadM (W := w4) (HX2.out _ hS); have k3 := HX3.out _ hS; clear hS; go_simp; first | done | with_reducible rfl)
          simp only [Act.put, List.getElem_toArray, List.getElem_cons_succ, List.getElem_cons_zero, List.setIfInBounds_toArray, List.set_cons_zero, List.set_cons_succ]
          refine wpAnyH_ready (rs := [8]) (by kernel_rfl) (by simp) (AllReadyH.cons rfl (fun K hK => ?_) AllReadyH.nil)
          go_simp
          refine HA.out.mono ?_
          rintro e w6 ⟨⟨u6, rfl, hu6⟩, hb6⟩
          have S6 := hidd (bel_then S0.out hb6)
          have HU6 := hidd hu6
          have Hb6 := hidd (bel_then Hb.out S6.out)
          obtain ⟨A6, c6, rfl⟩ := hu6.slice
          refine hK.out _ _ S6.out (fun _ => ?_)
          clear hK K hb6 HA hu6 S0 HX1 HX2 HX3
          have him := Gm.im_lt HO.out HGS.out.1 hlx
          obtain ⟨y, hy⟩ : ∃ y, y = g.im s x := ⟨_, rfl⟩
          have Hy := hidd hy
          rw [← hy] at him ⊢
          clear hy
          refine wpAnyH_take (i := 9) (v := ?v9) rfl (by kernel_rfl) (by kernel_rfl) (by kernel_rfl) (fun _ _ _ h => h) (Or.inl ⟨by rfl, ?h9⟩) S6.out ?_
          case h9 => (intro w4 hS; clear hS; go_simp; first | done | with_reducible rfl)
          simp only [Act.put, List.getElem_toArray, List.getElem_cons_succ, List.getElem_cons_zero, List.setIfInBounds_toArray, List.set_cons_zero, List.set_cons_succ]
          refine wpAnyH_take (i := 10) (v := ?v10) rfl (by kernel_rfl) (by kernel_rfl) (by kernel_rfl) (fun _ _ _ h => h) (Or.inl ⟨by rfl, ?h10⟩) S6.out ?_
          case h10 => (intro w4 hS; clear hS; go_simp; first | done | with_reducible rfl)
          simp only [Act.put, List.getElem_toArray, List.getElem_cons_succ, List.getElem_cons_zero, List.setIfInBounds_toArray, List.set_cons_zero, List.set_cons_succ]
          refine wpAnyH_take (i := 11) (v := ?v11) rfl (by kernel_rfl) (by kernel_rfl) (by kernel_rfl) (fun _ _ _ h => h) (Or.inl ⟨by rfl, ?h11⟩) S6.out ?_
          case h11 => (intro w4 hS; clear hS; go_simp; first | done | with_reducible rfl)
          simp only [Act.put, List.getElem_toArray, List.getElem_cons_succ, List.getElem_cons_zero, List.setIfInBounds_toArray, List.set_cons_zero, List.set_cons_succ]
          refine wpAnyH_take (i := 12) (v := ?v12) rfl (by kernel_rfl) (by kernel_rfl) (by kernel_rfl) (fun _ _ _ h => h) (Or.inl ⟨by rfl, ?h12⟩) S6.out ?_
          case h12 => (intro w4 hS; clear hS; go_simp; first | done | with_reducible rfl)
          simp only [Act.put, List.getElem_toArray, List.getElem_cons_succ, List.getElem_cons_zero, List.setIfInBounds_toArray, List.set_cons_zero, List.set_cons_succ]
          refine wpAnyH_take (i := 13) (v := ?v13) rfl (by kernel_rfl) (by kernel_rfl) (by kernel_rfl) (fun _ _ _ h => h) (Or.inl ⟨by rfl, ?h13⟩) S6.out ?_
          case h13 => (intro w4 hS; clear hS; go_simp; first | done | with_reducible rfl)
          simp only [Act.put, List.getElem_toArray, List.getElem_cons_succ, List.getElem_cons_zero, List.setIfInBounds_toArray, List.set_cons_zero, List.set_cons_succ]
          refine wpAnyH_done (by kernel_rfl) ?_ _
          have HSc := hidd (show g.Nums (g.sc s x) ∧ (g.sc s x).length ≤ u.length from ⟨Gm.sc_nums HO.out HGS.out.1 hlx, by rw [g.sc_len]; exact HGS.out.2⟩)
          have HNm := hidd (l02Normal_any g HO.out _ (g.sc s x) HSc.out.1 (Nat.le_trans HSc.out.2 hlen) w6 HU6.out.rdI)
          obtain ⟨k4, k5, k6⟩ := (P3w.out.below Hb6.out).ic
          go_wp2_with fail
          refine HNm.out.mono ?_
          clear k4 k5 k6
          rintro e w7 ⟨⟨nv, rfl, ho7⟩, hb7⟩
          have Hb7 := hidd (bel_then Hb6.out hb7)
          have HNs := hidd (Gm.nsc HO.out HGS.out hlx)
          have HH := hidd (HQ.out.below (bel_then S6.out hb7))
          have HNv := hidd (ho7.mono (Nat.le_trans Hb.out.size S6.out.size))
          have HOf := hidd (fun j t hj => by obtain ⟨ys, _, ho⟩ := HQ.out.r.q.list hj; exact own_ne ho ho7 S6.out.size : ∀ (j : Nat) (t : Value), rw'[j]? = some t → Apart t nv)
          obtain ⟨A7, c7, rfl⟩ := ho7.slice
          have hseen := fun h => Gm.bfRow_seen HB.out h
          have hnew := fun h h' => Gm.bfRow_new HB.out h h'
          have hfull := fun h h' => Gm.bfRow_full HB.out h h'
          obtain ⟨ns, hns⟩ : ∃ ns, ns = g.nrm (g.sc s x) := ⟨_, rfl⟩
          simp only [← hns] at HNs HNv HOf hseen hnew hfull ⊢
          have HFd := hidd (l02Find_any _ _ W' ns (by omega) w7 HH.out.r.q.rd HNv.out.rdI)
          clear HNm hb7 ho7 HSc HQ Hb Hb6 HU6 S6 hns Hrow Hcell
          by_cases hp : plc W' ns < W'.length
          · have hfn : fnd W' ns = (plc W' ns : Nat) := if_pos hp
            rw [hfn] at HFd
            have HBn := hidd (hseen hp)
            obtain ⟨p, hpe⟩ : ∃ p, p = plc W' ns := ⟨_, rfl⟩
            rw [← hpe] at HFd HBn
            clear hpe hseen hnew hfull hfn hp
            go_wp2_with fail
            refine HFd.out.mono ?_
            rintro e w8 ⟨rfl, hb8⟩
            have HH8 := hidd (HH.out.below hb8)
            have Hb8 := hidd (bel_then Hb7.out hb8)
            clear hb8 HH Hb7 HFd
            have j1 : ¬ (p : Int) < 0 := by omega
            have x3 : x < 3 := by omega
            have x4 : (x : Int) < 3 := by omega
            have d1 := (blkc HH8.out.hp x).trans (a3_get _ _ x3)
            have f1 := blkf HH8.out.hp x
            have d2 := (blkc HH8.out.hq x).trans (a3_get _ _ x3)
            have f2 := blkf HH8.out.hq x
            have H9 := hidd (HH8.out.set x3 (p : Int))
            have b9 := hidd ((Hb8.out.setCell (p := ⟨wo.heap.size, x, none⟩) HH8.out.bp (.int .u8 (g.im s x : Nat))).setCell (p := ⟨wo.heap.size + 1, x, none⟩) HH8.out.bq (.int .i64 (p : Int)))
            rw [← Hy.out] at H9 b9
            go_wp2_with fail
            go_roundw
            case rel => exact ⟨x + 1, W', _, _, by go_num, by omega, ⟨hi2, h2002⟩, HG1, HBn, HW, H9, b9⟩
            case measure => first | (simp [intOf]; done) | (simp [intOf]; omega)
          · have hfn : fnd W' ns = -1 := if_neg hp
            rw [hfn] at HFd
            by_cases h2 : W'.length = 200
            · have HE := hidd (HTe.out.symm.trans (HT.out.symm.trans (Gm.bf_full hlt rfl (by rw [← HS.out]; exact Gm.bfRow_none (hfull hp h2) g.l (by omega)))))
              have i5 : (W'.length : Int) = 200 := by omega
              clear hseen hnew hfull hp hfn h2
              go_wp2_with fail
              refine HFd.out.mono ?_
              rintro e w8 ⟨rfl, hb8⟩
              have Hb8 := hidd (bel_then Hb7.out hb8)
              go_wp2_with fail
              refine bodyPost_ret (results_tmp3 rfl _ _ _) rfl ?_
              exact ⟨⟨_, _, by rw [HE.out]; rfl, by rw [HE.out]; exact OwnW.nil _ _ _ _, by rw [HE.out]; exact OwnW.nil _ _ _ _⟩, bel_then BW3.out Hb8.out⟩
            · have HBn := hidd (hnew hp h2)
              have i6 : ¬ (W'.length : Int) = 200 := by omega
              clear hseen hnew hfull hp hfn h2
              go_wp2_with fail
              refine HFd.out.mono ?_
              rintro e w8 ⟨rfl, hb8⟩
              have HH8 := hidd (HH.out.below hb8)
              have HN8 := hidd (HNv.out.below hb8)
              have Hb8 := hidd (bel_then Hb7.out hb8)
              clear hb8 HH Hb7 HFd HNv
              have hlen3 : rw'.length + 1 ≤ 1099511627776 := by rw [HH8.out.r.q.len]; omega
              have hbase := Hb8.out.size
              have x3 : x < 3 := by omega
              have x4 : (x : Int) < 3 := by omega
              go_wp2_with (at_builtin; refine app_at rfl _ _ _ rfl w3.heap.size 26 (.slice none 0 0) 24 Try.underlying27 info_ints rfl HH8.out.r.q.v rfl rfl rfl hlen3 (by decide) hbase ?_; intro v' w9 ho hgr hle hli; have H9 := hidd (HH8.out.pushQ HN8.out HOf.out ho hgr); have b9 := hidd (Hb8.out.trans (bel_own HH8.out.r.q.v hgr hbase)); have d1 := (blkc H9.out.hp x).trans (a3_get _ _ x3); have f1 := blkf H9.out.hp x; have d2 := (blkc H9.out.hq x).trans (a3_get _ _ x3); have f2 := blkf H9.out.hq x; clear ho hgr hle hli)
              have H10 := hidd (H9.out.set x3 (W'.length : Int))
              have b10 := hidd ((b9.out.setCell (p := ⟨wo.heap.size, x, none⟩) H9.out.bp (.int .u8 (g.im s x : Nat))).setCell (p := ⟨wo.heap.size + 1, x, none⟩) H9.out.bq (.int .i64 (W'.length : Int)))
              rw [← Hy.out] at H10 b10
              go_roundw
              case rel => exact ⟨x + 1, W' ++ [ns], _, _, by go_num, by omega, ⟨by rw [List.length_append]; omega, by rw [List.length_append]; simp only [List.length_cons, List.length_nil]; omega⟩, hidd (by rw [getD_app hi2]; exact HG1.out), HBn, hidd (HW.out.push HNs.out), hidd (by rw [List.take_append_of_le_length (by omega)]; exact H10.out), b10⟩
              case measure => first | (simp [intOf]; done) | (simp [intOf]; omega)
        · have he : x = g.l := by omega
          subst he
          have HT2 := hidd ((Gm.bf_on hlt rfl (by rw [← HS.out]; exact HB.out)).symm.trans HT.out)
          have HO1 := HQ.out.r.o
          have hl1 : ((W'.take i).map (oR g)).length + 1 ≤ 1073741824 := by rw [List.length_map, List.length_take]; omega
          have hl2 : (R.map nR).length + 1 ≤ 1073741824 := by rw [List.length_map, HRl.out]; omega
          have hbase := Hb.out.size
          have HTk := hidd (take_snoc (oR g) hi2 HG1.out)
          obtain ⟨F, hF⟩ : ∃ F, F = oF g s g.l := ⟨_, rfl⟩
          have HhP : Hid (wi.heap[wo.heap.size]? = some (.cells #[.int .u8 (F 0), .int .u8 (F 1), .int .u8 (F 2)] 22 (0, 0))) := hidd (by rw [hF]; exact HQ.out.hp)
          have HoR : Hid (oR g s = [.int .u8 (F 0), .int .u8 (F 1), .int .u8 (F 2)]) := hidd (by rw [hF]; rfl)
          obtain ⟨G, hG⟩ : ∃ G, G = nF row := ⟨_, rfl⟩
          have HhQ : Hid (wi.heap[wo.heap.size + 1]? = some (.cells #[.int .i64 (G 0), .int .i64 (G 1), .int .i64 (G 2)] 102 (0, 0))) := hidd (by rw [hG]; exact HQ.out.hq)
          have HnR : Hid (nR row = [.int .i64 (G 0), .int .i64 (G 1), .int .i64 (G 2)]) := hidd (by rw [hG]; rfl)
          clear hlx hF hG
          go_wp2_with (first
            | (refine ld22 rfl (.tmp 14) rfl _ _ rfl HhP.out (by rfl) ?_)
            | (at_builtin; refine app_wide rfl _ _ _ rfl w3.heap.size 22 (.agg #[.int .u8 0, .int .u8 0, .int .u8 0]) 3 3 Try.underlying97 info22 rfl (by decide) HO1 rfl rfl rfl (a3_one .u8 F) hl1 (by decide) hbase ?_; intro v' w8 ho hgr hle hli; have H8 := hidd (HQ.out.r.pushO ho hgr); have Q8 := hidd (show w8.heap[wo.heap.size + 1]? = _ from kept_own hgr HhQ.out (owns_off HO1.2 HhQ.out (by decide))); have b8 := hidd (Hb.out.trans (belW_own HO1 hgr hbase)); have hbase8 := b8.out.size; clear ho hgr hle hli)
            | (refine ld207 rfl (.tmp 15) rfl _ _ rfl Q8.out (by rfl) ?_)
            | (at_builtin; refine app_wide rfl _ _ _ rfl w3.heap.size 102 (.agg #[.int .i64 0, .int .i64 0, .int .i64 0]) 3 24 Try.underlying98 info207 rfl (by decide) H8.out.n rfl rfl rfl (a3_one .i64 G) hl2 (by decide) hbase8 ?_; intro v'' w9 ho hgr hle hli; have H9 := hidd (H8.out.pushN ho hgr); have b9 := hidd (b8.out.trans (belW_own H8.out.n hgr hbase8)); clear ho hgr hle hli))
          go_roundw
          case rel => exact ⟨i + 1, W', R ++ [row], _, by go_num, ⟨by omega, h2002⟩, hidd (by rw [List.length_append, HRl.out]; rfl), HW, hidd (by rw [show 201 - (i + 1) = f by omega]; exact HT2.out), hidd (by rw [← HTk.out, HoR.out, List.map_append, List.map_cons, List.map_nil, HnR.out]; exact H9.out), b9⟩
          case measure => first | (simp [intOf]; done) | (simp [intOf]; omega)
    · have he : i = W.length := by omega
      subst he
      obtain ⟨f, hf⟩ : ∃ f, 201 - W.length = f + 1 := ⟨200 - W.length, by omega⟩
      rw [hf] at HT
      have HE := hidd (HTe.out.symm.trans (HT.out.symm.trans (Gm.bf_end hlt)))
      clear hlt hf
      go_wp2_with fail
      refine bodyPost_ret (results_tmp3 rfl _ _ _) rfl ?_
      have hz := BW3.out.size
      exact ⟨⟨_, _, by rw [HE.out]; rfl, by rw [HE.out]; have h := HQ.out.o.mono hz; rwa [List.take_of_length_le (Nat.le_refl _)] at h, by rw [HE.out]; exact HQ.out.n.mono hz⟩, bel_then BW3.out Hb.out⟩
end Go.Proofs.Ytcghcbdefajpgaa

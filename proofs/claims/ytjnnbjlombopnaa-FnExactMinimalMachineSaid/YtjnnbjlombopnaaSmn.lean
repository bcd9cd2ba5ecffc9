/- Walks: the minimal machine, of the reference. -/
import Derived.Test.YtjnnbjlombopnaaIdx
import Derived.Test.YtjnnbjlombopnaaReg
import Derived.Deep.RegionHeld3
namespace Go.Proofs.Ytjnnbjlombopnaa
open Go.RowKit

/-- The numbers, as the array of the reference says. -/
def Gm.nmP (g : Gm) (q j : Nat) : Nat := if j < q then g.num j else 0
def Gm.nm16 (g : Gm) (j : Nat) : Nat := g.nmP g.s j
theorem Gm.nmP_step (g : Gm) (q : Nat) : updN (g.nmP q) q (g.num q) = g.nmP (q + 1) := by
  funext j
  unfold updN Gm.nmP
  by_cases e : j = q
  · subst e; simp
  · simp only [if_neg e]
    by_cases h : j < q
    · rw [if_pos h, if_pos (by omega)]
    · rw [if_neg h, if_neg (by omega)]
/-- What lies in memory. -/
structure SmI (g : Gm) (w0 wr : World) (cb nb ob : Nat) (N : Nat → Nat) (m : Mc) : Prop where
  bel : Below w0.heap.size w0 wr
  cl : w0.heap.size + 3 ≤ cb
  nl : w0.heap.size + 3 ≤ nb
  ol : w0.heap.size + 3 ≤ ob
  cn : cb ≠ nb
  co : cb ≠ ob
  no : nb ≠ ob
  hm : wr.heap[w0.heap.size]? = some (.cells g.mc.cells 27 (0, 0))
  h2 : wr.heap[w0.heap.size + 1]? = some (.cells Mc.zero.cells 27 (0, 0))
  h3 : wr.heap[w0.heap.size + 2]? = some (.cells (iv (fun _ => 0) 16) 105 (0, 0))
  hc : wr.heap[cb]? = some (.cells (iv g.ls16 16) 105 (0, 0))
  hn : wr.heap[nb]? = some (.cells (iv N 16) 105 (0, 0))
  ho : wr.heap[ob]? = some (.cells m.cells 27 (0, 0))
theorem SmI.drewN {g : Gm} {w0 wr : World} {cb nb ob : Nat} {N : Nat → Nat} {m : Mc} (h : SmI g w0 wr cb nb ob N m) (n : Nat) : SmI g w0 (wr.drewN n) cb nb ob N m :=
  ⟨bel_drewN h.bel n, h.cl, h.nl, h.ol, h.cn, h.co, h.no, h.hm, h.h2, h.h3, h.hc, h.hn, h.ho⟩
theorem SmI.setN {g : Gm} {w0 wr : World} {cb nb ob : Nat} {N : Nat → Nat} {m : Mc} (h : SmI g w0 wr cb nb ob N m) (q v : Nat) : SmI g w0 (wr.setCell ⟨nb, q, none⟩ (.int .i64 (v : Nat))) cb nb ob (updN N q v) m := by
  have hl := h.nl
  refine ⟨h.bel.setCell (by dsimp only; omega) _, h.cl, h.nl, h.ol, h.cn, h.co, h.no, hp_far h.hm (by dsimp only; omega) _, hp_far h.h2 (by dsimp only; omega) _, hp_far h.h3 (by dsimp only; omega) _, hp_far h.hc h.cn _, ?_, hp_far h.ho (Ne.symm h.no) _⟩
  rw [← iv_set]
  exact hp_set h.hn q _
theorem SmI.setO {g : Gm} {w0 wr : World} {cb nb ob : Nat} {N : Nat → Nat} {m m' : Mc} (h : SmI g w0 wr cb nb ob N m) (i : Nat) (v : Value) (he : m.cells.setIfInBounds i v = m'.cells) : SmI g w0 (wr.setCell ⟨ob, i, none⟩ v) cb nb ob N m' := by
  have hl := h.ol
  refine ⟨h.bel.setCell (by dsimp only; omega) _, h.cl, h.nl, h.ol, h.cn, h.co, h.no, hp_far h.hm (by dsimp only; omega) _, hp_far h.h2 (by dsimp only; omega) _, hp_far h.h3 (by dsimp only; omega) _, hp_far h.hc h.co _, hp_far h.hn h.no _, ?_⟩
  rw [← he]
  exact hp_set h.ho i _
/-- What the rows of states below q, and the first letters of q, have put down. -/
def Gm.mnQ (g : Gm) (q x : Nat) : Mc := if g.isR q = true then g.mnP (cnt g.isR q) x else g.mnP (cnt g.isR q) 0
theorem Gm.mnQ_zero (g : Gm) : g.mnQ 0 0 = ⟨g.l, g.ns, fun _ _ => 0, fun _ _ => 0⟩ := by
  unfold Gm.mnQ
  rw [show cnt g.isR 0 = 0 from rfl, g.mnP_zero]
  split <;> rfl
theorem Gm.mnQ_step {g : Gm} (hok : g.Ok) {q x : Nat} (hq : q < g.s) (hx : x < g.l) : ((g.mnQ q x).setO (g.num q) x (g.ou q x)).setN (g.num q) x (g.num (g.nx q x)) = g.mnQ q (x + 1) := by
  rw [← Gm.mn_ou hok hq hx, ← Gm.mn_nx hok hq hx]
  unfold Gm.mnQ
  by_cases h : g.isR q = true
  · rw [if_pos h, if_pos h, g.num_rep h, g.mnP_setN]
  · rw [if_neg h, if_neg h]
    refine g.mnP_again ?_
    unfold Gm.num
    have h1 : g.lst q < q := by
      have := g.lst_le' q
      have h2 : ¬ g.lst q = q := fun e => h (decide_eq_true e)
      omega
    exact cnt_lt h1 (g.isR_lst q)
theorem Gm.mnQ_row (g : Gm) (q : Nat) : g.mnQ q g.l = g.mnQ (q + 1) 0 := by
  unfold Gm.mnQ
  by_cases h : g.isR q = true
  · rw [if_pos h, g.mnP_row, cnt_succ, if_pos h]
    split <;> rfl
  · rw [if_neg h, cnt_succ, if_neg h, Nat.add_zero]
    split <;> rfl
theorem Gm.mnQ_end (g : Gm) : g.mnQ g.s 0 = g.mn.mc := by
  rw [← g.mnP_end]
  unfold Gm.mnQ Gm.ns
  split <;> rfl
/-- Before the rows: how many states there are. -/
def Gm.mnS (g : Gm) (q : Nat) : Mc := ⟨g.l, (cnt g.isR q : Nat), fun _ _ => 0, fun _ _ => 0⟩
theorem zeros16 : (#[Value.int .i64 0, Value.int .i64 0, Value.int .i64 0, Value.int .i64 0, Value.int .i64 0, Value.int .i64 0, Value.int .i64 0, Value.int .i64 0, Value.int .i64 0, Value.int .i64 0, Value.int .i64 0, Value.int .i64 0, Value.int .i64 0, Value.int .i64 0, Value.int .i64 0, Value.int .i64 0] : Array Value) = iv (fun _ => 0) 16 := rfl

/-- A whole array into a variable. -/
def storeA (a : Addr) (v : Value) : Sem Unit := storeVar 105 a v
theorem storeVar_A (a : Addr) (v : Value) : storeVar 105 a v = storeA a v := rfl
theorem splice_whole (old vs : Array Value) (h : old.size = vs.size) : splice old 0 vs = vs := by
  apply Array.ext_getElem?
  intro j
  rw [splice_get _ _ _ (by omega)]
  by_cases hj : j < vs.size
  · rw [if_pos (by omega), Nat.sub_zero]
  · rw [if_neg (by omega), Array.getElem?_eq_none (by omega), Array.getElem?_eq_none (by omega)]
theorem run_storeA {W : World} {b : Nat} {C C' : Nat → Nat} {t : TypeId} (h : W.heap[b]? = some (.cells (iv C' 16) t (0, 0))) : (storeA ⟨b, 0, none⟩ (.agg (iv C 16))).run Try.prog W = .ok () (W.setRow b (iv C 16)) := by
  have := run_storeVar_at (P := Try.prog) W b 0 16 t 105 (iv C' 16) (iv C 16) h (by kernel_rfl) (av_size _ _) (by rw [show (iv C' 16).size = 16 from av_size _ _]; omega) (av_one fun _ => rfl)
  rw [splice_whole (iv C' 16) (iv C 16) ((av_size _ _).trans (av_size _ _).symm)] at this
  exact this
attribute [go_sem ↓ high] storeVar_A
attribute [go_sem] run_storeA
def Mc.setS (m : Mc) (v : Int) : Mc := ⟨m.L, v, m.nx, m.ou⟩
theorem Mc.cells_setS (m : Mc) (v : Int) : m.cells.setIfInBounds 1 (.int .i64 v) = (m.setS v).cells := by
  apply Array.ext_getElem?
  intro i
  rw [Array.getElem?_setIfInBounds, m.cells_size, m.cells_get, Mc.cells_get]
  by_cases hi : 1 = i
  · subst hi
    rfl
  · rw [if_neg hi]
    by_cases h : i < 98
    · rw [if_pos h, if_pos h]
      unfold Mc.cellAt Mc.setS
      by_cases h0 : i = 0
      · simp only [if_pos h0]
      · simp only [if_neg h0, if_neg (fun e => hi (Eq.symm e) : ¬ i = 1)]
    · rw [if_neg h, if_neg h]
theorem bldL (L : Int) : Mc.zero.cells.setIfInBounds 0 (.int .i64 L) = (⟨L, 0, fun _ _ => 0, fun _ _ => 0⟩ : Mc).cells := by
  rw [← bld_cells, ← zeroM_cells]
  unfold bld
  apply Array.ext_getElem?
  intro j
  rw [Array.getElem?_setIfInBounds (i := 1)]
  by_cases h : 1 = j
  · subst h
    rw [if_pos rfl, Array.size_setIfInBounds, if_pos (by rw [zeroM_size]; omega), Array.getElem?_setIfInBounds_ne (by omega)]
    rfl
  · rw [if_neg h]
theorem zeroC_M : Try.zeroCells27 = Mc.zero.cells := by rw [← zeroM_cells]; kernel_rfl

theorem results_cell_cell {P : Program} {fn : Func} {p q : Tmp} {ty ty' : TypeId} (h : fn.results = #[.cell p ty, .cell q ty']) (tmps : Array Value) (w : World) (g g' : Nat) (t t' : TypeId) (cs cs' : Array Value) (fr fr' : Nat × Nat) (d d' : TypeDesc)
    (hp : tmps.getD p undef = .pointer (some ⟨g, 0, none⟩)) (hq : tmps.getD q undef = .pointer (some ⟨g', 0, none⟩)) (hg : w.heap[g]? = some (.cells cs t fr)) (hg' : w.heap[g']? = some (.cells cs' t' fr'))
    (hu : P.underlying ty = some d) (hd : (match d with | .struct _ | .array _ _ => true | _ => false) = true) (hi : (P.info? ty).map (·.size) = some cs.size)
    (hu' : P.underlying ty' = some d') (hd' : (match d' with | .struct _ | .array _ _ => true | _ => false) = true) (hi' : (P.info? ty').map (·.size) = some cs'.size) :
    (results fn tmps).run P w = .ok (.tuple #[.agg cs, .agg cs']) w := by
  have hp' : tmps[p]?.getD undef = .pointer (some ⟨g, 0, none⟩) := by simpa using hp
  have hq' : tmps[q]?.getD undef = .pointer (some ⟨g', 0, none⟩) := by simpa using hq
  simp [results, h, hp', hq', asAddr, run_loadVar_row w g t ty cs fr d hg hu hd hi, run_loadVar_row w g' t' ty' cs' fr' d' hg' hu' hd' hi']
set_option linter.unusedSimpArgs false
set_option maxRecDepth 100000 in
set_option maxHeartbeats 2000000 in
theorem l01Minimal_any (g : Gm) (hok : g.Ok) (cs : Array Value) (hg : g.Is cs) (w : World) :
    Calls Try.prog 141 #[.agg cs] w fun e w' => e = .returned (.tuple #[.agg g.mn.mc.cells, .agg (iv g.nm16 16)]) ∧ Below w.heap.size w w' := by
  obtain rfl := hg.is.eq_cells
  have HG := hidd hg
  have HO := hidd hok
  have s16 := hok.s16
  have l3 := hok.l3
  clear hg hok
  go_enter Try.func141, Try.ntmps141
  go_wp2_with fail
  rw [zeros16, zeroC_M]
  obtain ⟨w1, hw1⟩ : ∃ w1, w1 = ((w.alloc (.cells g.mc.cells 27)).alloc (.cells Mc.zero.cells 27)).alloc (.cells (iv (fun _ => 0) 16) 105) := ⟨_, rfl⟩
  rw [← hw1]
  have Bel := hidd (show Below w.heap.size w w1 by rw [hw1]; exact (((Below.refl _ _).alloc (Nat.le_refl _) _).alloc (by simp) _).alloc (by simp; omega) _)
  have hz1 : w1.heap.size = w.heap.size + 3 := by rw [hw1]; simp
  have NA := hidd (show w1.heap[w.heap.size]? = some (.cells g.mc.cells 27 (0, 0)) by rw [hw1]; exact hp_old (hp_old (hp_new rfl)))
  have N0 := hidd (show w1.heap[w.heap.size + 1]? = some (.cells Mc.zero.cells 27 (0, 0)) by rw [hw1]; exact hp_old (hp_new (by simp)))
  have N1 := hidd (show w1.heap[w.heap.size + 2]? = some (.cells (iv (fun _ => 0) 16) 105 (0, 0)) by rw [hw1]; exact hp_new (by simp))
  have Z1 := hidd hz1
  clear hw1 hz1
  refine wp_region_held (S := fun w' => w'.heap[w.heap.size]? = some (.cells g.mc.cells 27 (0, 0))) (by kernel_rfl) ?_
  change wpAnyH _ _ _ _ _ _ _ _ (World.drew _)
  refine wpAnyH_take (i := 2) (v := .agg (iv (fun _ => 0) 16)) rfl (by kernel_rfl) (by kernel_rfl) (by kernel_rfl) (fun _ _ _ h => h) (Or.inl ⟨by rfl, fun w2 hS => ?_⟩) NA.out ?_
  · have hl := (Gm.At.of_is HG.out hS).l
    have hk := run_loadM (W := w2) hS
    dsimp only at hS
    go_simp
    exact zeros16
  simp only [Act.put, List.getElem_toArray, List.getElem_cons_succ, List.getElem_cons_zero, List.setIfInBounds_toArray, List.set_cons_zero, List.set_cons_succ]
  refine wpAnyH_take (i := 3) (v := .pointer (some ⟨w.heap.size, 0, none⟩)) rfl (by kernel_rfl) (by kernel_rfl) (by kernel_rfl) (fun _ _ _ h => h) (Or.inl ⟨by rfl, fun w2 hS => ?_⟩) NA.out ?_
  · have hl := (Gm.At.of_is HG.out hS).l
    have hk := run_loadM (W := w2) hS
    dsimp only at hS
    go_simp
    skip
  simp only [Act.put, List.getElem_toArray, List.getElem_cons_succ, List.getElem_cons_zero, List.setIfInBounds_toArray, List.set_cons_zero, List.set_cons_succ]
  refine wpAnyH_take (i := 0) (v := .agg g.mc.cells) rfl (by kernel_rfl) (by kernel_rfl) (by kernel_rfl) (fun _ _ _ h => h) (Or.inl ⟨by rfl, fun w2 hS => ?_⟩) NA.out ?_
  · have hl := (Gm.At.of_is HG.out hS).l
    have hk := run_loadM (W := w2) hS
    dsimp only at hS
    go_simp
    skip
  simp only [Act.put, List.getElem_toArray, List.getElem_cons_succ, List.getElem_cons_zero, List.setIfInBounds_toArray, List.set_cons_zero, List.set_cons_succ]
  refine wpAnyH_take (i := 4) (v := .int .i64 g.l) rfl (by kernel_rfl) (by kernel_rfl) (by kernel_rfl) (fun _ _ _ h => h) (Or.inl ⟨by rfl, fun w2 hS => ?_⟩) NA.out ?_
  · have hl := (Gm.At.of_is HG.out hS).l
    have hk := run_loadM (W := w2) hS
    dsimp only at hS
    go_simp
    skip
  simp only [Act.put, List.getElem_toArray, List.getElem_cons_succ, List.getElem_cons_zero, List.setIfInBounds_toArray, List.set_cons_zero, List.set_cons_succ]
  refine wpAnyH_take (i := 5) (v := .agg (⟨g.l, 0, fun _ _ => 0, fun _ _ => 0⟩ : Mc).cells) rfl (by kernel_rfl) (by kernel_rfl) (by kernel_rfl) (fun _ _ _ h => h) (Or.inl ⟨by rfl, fun w2 hS => ?_⟩) NA.out ?_
  · have hl := (Gm.At.of_is HG.out hS).l
    have hk := run_loadM (W := w2) hS
    dsimp only at hS
    go_simp
    (rw [zeroC_M]; exact bldL _)
  simp only [Act.put, List.getElem_toArray, List.getElem_cons_succ, List.getElem_cons_zero, List.setIfInBounds_toArray, List.set_cons_zero, List.set_cons_succ]
  refine wpAnyH_grow (fun w2 w3 hb h => hp_bel h hb) 3 #[true, true, true, true, true, true, true, true, true, false, false, false] [Ft.val 1 11 (.agg (iv g.ls16 16)), Ft.blk 6 4 (w.heap.size + 3) (.cells (iv (fun _ => 0) 16) 105 (0, 0)), Ft.blk 7 5 (w.heap.size + 3) (.cells (iv (fun _ => 0) 16) 105 (0, 0)), Ft.blk 8 6 (w.heap.size + 3) (.cells Mc.zero.cells 27 (0, 0))] [1, 6, 7, 8] [11, 4, 5, 6] rfl rfl (by kernel_rfl) ?_ NA.out ?_
  · simp only [List.forall_mem_cons]
    refine ⟨?_, ?_, ?_, ?_, fun _ h => by cases h⟩
    · refine ⟨_, rfl, rfl, fun u w2 hS hb hf K hK => ?_⟩
      simp only [putT, List.map_cons, List.map_nil, Ft.val, Ft.blk, putF, List.foldl_cons, List.foldl_nil, Act.put, List.setIfInBounds_toArray, List.set_cons_zero, List.set_cons_succ] at hK ⊢
      go_simp
      refine (l01Classes_any g HO.out _ HG.out _).mono ?_
      rintro e w3 ⟨rfl, hb3⟩
      exact hK _ _ hb3 rfl (fun h => by cases h)
    all_goals
      refine ⟨_, rfl, rfl, fun u w2 hS hb hf K hK => ?_⟩
      simp only [putT, List.map_cons, List.map_nil, Ft.val, Ft.blk, putF, List.foldl_cons, List.foldl_nil, Act.put, List.setIfInBounds_toArray, List.set_cons_zero, List.set_cons_succ] at hK ⊢
      go_simp
      have hz2 : w.heap.size + 3 ≤ w2.heap.size := by rw [← Z1.out]; exact hb.size
      first
        | exact hK _ _ (bel_alloc' _ _) ⟨_, rfl, hz2, hp_new rfl⟩ (fun _ k e => by cases e; simp)
        | (rw [zeroC_M]; exact hK _ _ (bel_alloc' _ _) ⟨_, rfl, hz2, hp_new rfl⟩ (fun _ k e => by cases e; simp))
  · intro u w2 hS hb hf hne
    have e11 : u 11 = .agg (iv g.ls16 16) := fs_all hf 0 _ rfl
    obtain ⟨cb, e4, l4, h4⟩ := fs_all hf 1 _ rfl
    obtain ⟨nb, e5, l5, h5⟩ := fs_all hf 2 _ rfl
    obtain ⟨ob, e6, l6, h6⟩ := fs_all hf 3 _ rfl
    have n45 : cb ≠ nb := fs_ne hne 1 2 _ _ rfl rfl rfl rfl (by intro h; simp [Ft.blk] at h) (show blkOf (u 4) = some cb from by rw [show u 4 = _ from e4]; rfl) (show blkOf (u 5) = some nb from by rw [show u 5 = _ from e5]; rfl)
    have n46 : cb ≠ ob := fs_ne hne 1 3 _ _ rfl rfl rfl rfl (by intro h; simp [Ft.blk] at h) (show blkOf (u 4) = some cb from by rw [show u 4 = _ from e4]; rfl) (show blkOf (u 6) = some ob from by rw [show u 6 = _ from e6]; rfl)
    have n56 : nb ≠ ob := fs_ne hne 2 3 _ _ rfl rfl rfl rfl (by intro h; simp [Ft.blk] at h) (show blkOf (u 5) = some nb from by rw [show u 5 = _ from e5]; rfl) (show blkOf (u 6) = some ob from by rw [show u 6 = _ from e6]; rfl)
    clear hf hne
    have e4' : u 4 = .pointer (some ⟨cb, 0, none⟩) := e4
    have e5' : u 5 = .pointer (some ⟨nb, 0, none⟩) := e5
    have e6' : u 6 = .pointer (some ⟨ob, 0, none⟩) := e6
    simp only [putT, List.map_cons, List.map_nil, Ft.val, Ft.blk, putF, List.foldl_cons, List.foldl_nil, Act.put, List.setIfInBounds_toArray, List.set_cons_zero, List.set_cons_succ, List.getElem_toArray, List.getElem_cons_succ, List.getElem_cons_zero, e11, e4', e5', e6']
    clear e4 e5 e6 e4' e5' e6' e11
    have hb' : Below w1.heap.size w1 w2 := (drew_bel w1).trans hb
    have I0 : SmI g w ((w2.setRow cb (iv g.ls16 16)).setRow nb (iv (fun _ => 0) 16) |>.setRow ob (⟨g.l, 0, fun _ _ => 0, fun _ _ => 0⟩ : Mc).cells) cb nb ob (fun _ => 0) ⟨g.l, 0, fun _ _ => 0, fun _ _ => 0⟩ := by
      have far : ∀ {k : Nat} {x : Obj}, w2.heap[k]? = some x → k ≠ cb → k ≠ nb → k ≠ ob → ((w2.setRow cb (iv g.ls16 16)).setRow nb (iv (fun _ => 0) 16) |>.setRow ob (⟨g.l, 0, fun _ _ => 0, fun _ _ => 0⟩ : Mc).cells).heap[k]? = some x := fun h a b c => hp_row (hp_row (hp_row h a _) b _) c _
      refine ⟨bel_row (bel_row (bel_row (bel_then Bel.out hb') (by omega) _) (by omega) _) (by omega) _, l4, l5, l6, n45, n46, n56, far hS (by omega) (by omega) (by omega), far (hp_bel N0.out hb') (by omega) (by omega) (by omega), far (hp_bel N1.out hb') (by omega) (by omega) (by omega), ?_, ?_, ?_⟩
      · exact hp_row (hp_row (setRow_heap _ _ _ _ _ _ h4) n45 _) n46 _
      · exact hp_row (setRow_heap _ _ _ _ _ _ (hp_row h5 (Ne.symm n45) _)) n56 _
      · exact setRow_heap _ _ _ _ _ _ (hp_row (hp_row h6 (Ne.symm n46) _) (Ne.symm n56) _)
    have HI0 := hidd I0
    clear I0 hb hb'
    refine wpAnyH_ready (rs := [9]) (by kernel_rfl) (by simp) (AllReadyH.cons rfl (fun K hK => ?_) AllReadyH.nil)
    have hk := run_storeA (W := w2) (C := g.ls16) h4
    go_simp
    refine hK.out _ _ (hp_row hS (by omega) _) (fun _ => ?_)
    clear hk hK K
    refine wpAnyH_ready (rs := [10]) (by kernel_rfl) (by simp) (AllReadyH.cons rfl (fun K hK => ?_) AllReadyH.nil)
    have hk := run_storeA (W := w2.setRow cb (iv g.ls16 16)) (C := fun _ => 0) (hp_row h5 (Ne.symm n45) _)
    go_simp
    refine hK.out _ _ (hp_row (hp_row hS (by omega) _) (by omega) _) (fun _ => ?_)
    clear hk hK K
    refine wpAnyH_ready (rs := [11]) (by kernel_rfl) (by simp) (AllReadyH.cons rfl (fun K hK => ?_) AllReadyH.nil)
    have hk := run_storeM (W := (w2.setRow cb (iv g.ls16 16)).setRow nb (iv (fun _ => 0) 16)) (m := ⟨g.l, 0, fun _ _ => 0, fun _ _ => 0⟩) (hp_row (hp_row h6 (Ne.symm n46) _) (Ne.symm n56) _)
    go_simp
    refine hK.out _ _ (hp_row (hp_row (hp_row hS (by omega) _) (by omega) _) (by omega) _) (fun _ => ?_)
    clear hk hK K
    refine wpAnyH_done (by kernel_rfl) ?_ _
    obtain ⟨w3, hw3⟩ : ∃ w3, w3 = ((w2.setRow cb (iv g.ls16 16)).setRow nb (iv (fun _ => 0) 16)).setRow ob (⟨g.l, 0, fun _ _ => 0, fun _ _ => 0⟩ : Mc).cells := ⟨_, rfl⟩
    rw [← hw3] at HI0 ⊢
    clear hw3 h4 h5 h6 hS Bel NA N0 N1 Z1
    have m1 := Ne.symm n45
    have m2 := Ne.symm n46
    have m3 := Ne.symm n56
    go_wp2_with fail
    go_loopw [7] (fun i wr => ∃ q : Nat, q ≤ g.s ∧ i = .int .i64 q ∧ Hid (SmI g w wr cb nb ob (g.nmP q) (g.mnS q))) (fun i _ => g.s - (intOf i).toNat)
    case atStart => exact ⟨0, Nat.zero_le _, rfl, HI0⟩
    case round =>
      clear HI0
      obtain ⟨q, hq, rfl, HI⟩ := hrel
      have a1 := (Gm.At.of_is HG.out HI.out.hm).s
      by_cases hqs : q < g.s
      · have c1 := (blkc HI.out.hc q).trans (iv_get g.ls16 (by omega))
        rw [show g.ls16 q = g.lst q from if_pos hqs] at c1
        have n1 := (blkc HI.out.hn q).trans (iv_get (g.nmP q) (by omega))
        have n2 := blkf HI.out.hn q
        have o1 : wr.cell? ⟨ob, 1, none⟩ = some (.int .i64 (cnt g.isR q : Nat)) := (blkc HI.out.ho 1).trans ((Mc.cells_get _ _).trans (if_pos (by omega)))
        have o2 := blkf HI.out.ho 1
        have hcn := cnt_le g.isR q
        have j1 : (q : Int) < 16 := by omega
        have j2 : (0 : Int) ≤ q := by omega
        by_cases hr : g.lst q = q
        · have hd : ((g.lst q : Int) == (q : Int)) = true := beq_iff_eq.2 (by omega)
          have hR : g.isR q = true := decide_eq_true hr
          have HN := hidd (show SmI g w ((wr.setCell ⟨nb, q, none⟩ (.int .i64 (cnt g.isR q : Nat))).setCell ⟨ob, 1, none⟩ (.int .i64 ((cnt g.isR q : Nat) + 1 : Int))) cb nb ob (g.nmP (q + 1)) (g.mnS (q + 1)) from by
            have h1 := HI.out.setN q (cnt g.isR q)
            rw [← g.num_rep hR, g.nmP_step, g.num_rep hR] at h1
            refine h1.setO 1 _ ?_
            rw [Mc.cells_setS]
            show (⟨g.l, ((cnt g.isR q : Nat) + 1 : Int), fun _ _ => 0, fun _ _ => 0⟩ : Mc).cells = (⟨g.l, (cnt g.isR (q + 1) : Nat), fun _ _ => 0, fun _ _ => 0⟩ : Mc).cells
            rw [cnt_succ, hR]
            rfl)
          have Hr := hidd hr
          have HR := hidd hR
          clear hr hR
          go_wp2_with fail
          go_roundw
          case rel => exact ⟨q + 1, by omega, by go_num, HN⟩
          case measure => simp [intOf]; omega
        · have hd : ((g.lst q : Int) == (q : Int)) = false := beq_eq_false_iff_ne.2 (by omega)
          have hR : g.isR q = false := decide_eq_false hr
          have hlq : g.lst q < q := by have := g.lst_le' q; omega
          have n3 := (blkc HI.out.hn (g.lst q)).trans (iv_get (g.nmP q) (by omega))
          rw [show g.nmP q (g.lst q) = g.num q from by unfold Gm.nmP; rw [if_pos hlq, g.num_lst]] at n3
          have j3 : (g.lst q : Int) < 16 := by omega
          have HN := hidd (show SmI g w (wr.setCell ⟨nb, q, none⟩ (.int .i64 (g.num q : Nat))) cb nb ob (g.nmP (q + 1)) (g.mnS (q + 1)) from by
            have h1 := HI.out.setN q (g.num q)
            rw [g.nmP_step] at h1
            rw [show g.mnS (q + 1) = g.mnS q from by unfold Gm.mnS; rw [cnt_succ, hR]; rfl]
            exact h1)
          clear hr hR
          go_wp2_with fail
          go_roundw
          case rel => exact ⟨q + 1, by omega, by go_num, HN⟩
          case measure => simp [intOf]; omega
      · have he : q = g.s := by omega
        subst he
        have HI2 := hidd (show SmI g w wr cb nb ob g.nm16 (g.mnQ 0 0) by rw [g.mnQ_zero]; exact HI.out)
        clear HI
        go_wp2_with fail
        obtain ⟨wp, rfl⟩ : ∃ wp : World, wp = wr := ⟨_, rfl⟩
        go_loopw [8] (fun i wr => ∃ q : Nat, q ≤ g.s ∧ i = .int .i64 q ∧ Hid (SmI g w wr cb nb ob g.nm16 (g.mnQ q 0))) (fun i _ => g.s - (intOf i).toNat)
        case atStart => exact ⟨0, Nat.zero_le _, rfl, HI2⟩
        case round =>
          clear HI2 a1
          obtain ⟨q, hq, rfl, HI⟩ := hrel
          have a1 := (Gm.At.of_is HG.out HI.out.hm).s
          by_cases hqs : q < g.s
          · go_wp2_with fail
            clear a1
            obtain ⟨wo, rfl⟩ : ∃ wo : World, wo = wr := ⟨_, rfl⟩
            go_loopw [9] (fun i wr => ∃ x : Nat, x ≤ g.l ∧ i = .int .i64 x ∧ Hid (SmI g w wr cb nb ob g.nm16 (g.mnQ q x))) (fun i _ => g.l - (intOf i).toNat)
            case atStart => exact ⟨0, Nat.zero_le _, rfl, HI⟩
            case round =>
              clear HI
              obtain ⟨x, hx, rfl, HI⟩ := hrel
              have A2 := hidd (Gm.At.of_is HG.out HI.out.hm)
              have a1 := A2.out.l
              by_cases hxl : x < g.l
              · have hnum := g.num_lt hqs
                have hns := g.ns_le
                have hnlt := HO.out.nlt q x hqs hxl
                have hnum2 := g.num_lt hnlt
                have n1 := (blkc HI.out.hn q).trans (iv_get g.nm16 (by omega))
                rw [show g.nm16 q = g.num q from if_pos hqs] at n1
                have a3 := A2.out.o q x (by omega) (by omega)
                rw [Nat.zero_add] at a3
                have d1 := (blkc HI.out.ho (50 + g.num q * 3 + x)).trans ((Mc.cells_get _ _).trans (if_pos (by omega)))
                obtain ⟨x1, hx1⟩ : ∃ v, v = (g.mnQ q x).cellAt (50 + g.num q * 3 + x) := ⟨_, rfl⟩
                rw [← hx1] at d1
                have f1 := blkf HI.out.ho (50 + g.num q * 3 + x)
                have j1 : (q : Int) < 16 := by omega
                have j2 : (x : Int) < 3 := by omega
                have j3 : (g.num q : Int) < 16 := by omega
                have j4 : (0 : Int) ≤ q := by omega
                have j5 : (0 : Int) ≤ x := by omega
                have j6 : (0 : Int) ≤ (g.num q : Int) := by omega
                have HN := hidd (HI.out.setO (50 + g.num q * 3 + x) (.int .u8 (g.ou q x : Nat)) (Mc.cells_setO (g.mnQ q x) (g.num q) x (g.ou q x) (by omega) (by omega)))
                clear hx1
                go_wp2_with fail
                go_region
                obtain ⟨w5, hw5⟩ : ∃ w5, w5 = (wr.setCell ⟨ob, 50 + g.num q * 3 + x, none⟩ (.int .u8 (g.ou q x : Nat))).drew := ⟨_, rfl⟩
                rw [← hw5]
                have HI5 := hidd (show SmI g w w5 cb nb ob g.nm16 ((g.mnQ q x).setO (g.num q) x (g.ou q x)) by rw [hw5]; exact HN.out.drewN 1)
                clear hw5 HN n1 a3 d1 f1 a1 A2 HI
                have A2 := hidd (Gm.At.of_is HG.out HI5.out.hm)
                have n1 := (blkc HI5.out.hn q).trans (iv_get g.nm16 (by omega))
                rw [show g.nm16 q = g.num q from if_pos hqs] at n1
                have a3 := A2.out.n q x (by omega) (by omega)
                rw [Nat.zero_add] at a3
                have n2 := (blkc HI5.out.hn (g.nx q x)).trans (iv_get g.nm16 (by omega))
                rw [show g.nm16 (g.nx q x) = g.num (g.nx q x) from if_pos hnlt] at n2
                have d1 := (blkc HI5.out.ho (2 + g.num q * 3 + x)).trans ((Mc.cells_get _ _).trans (if_pos (by omega)))
                obtain ⟨x1, hx1⟩ : ∃ v, v = ((g.mnQ q x).setO (g.num q) x (g.ou q x)).cellAt (2 + g.num q * 3 + x) := ⟨_, rfl⟩
                rw [← hx1] at d1
                have f1 := blkf HI5.out.ho (2 + g.num q * 3 + x)
                have j7 : (g.num (g.nx q x) : Int) < 256 := by omega
                have j8 : (g.nx q x : Int) < 16 := by omega
                have HN := hidd (HI5.out.setO (2 + g.num q * 3 + x) (.int .u8 (g.num (g.nx q x) : Nat)) (Mc.cells_setN _ (g.num q) x (g.num (g.nx q x)) (by omega) (by omega)))
                clear hx1
                go_wp2_with fail
                go_region
                go_wp2_with fail
                go_roundw
                case rel => exact ⟨x + 1, by omega, by go_num, hidd (by have := HN.out.drewN 1; rw [Gm.mnQ_step HO.out hqs hxl] at this; exact this)⟩
                case measure => simp [intOf]; omega
              · have he : x = g.l := by omega
                subst he
                go_wp2_with fail
                go_roundw
                case rel => exact ⟨q + 1, by omega, by go_num, hidd (by have := HI.out; rw [g.mnQ_row] at this; exact this)⟩
                case measure => simp [intOf]; omega
          · have he : q = g.s := by omega
            subst he
            rw [g.mnQ_end] at HI
            go_wp2_with fail
            clear a1 hq hqs
            have S0 := hidd (And.intro HI.out.ho HI.out.hn)
            refine wp_region_held (S := fun w' => w'.heap[ob]? = some (.cells g.mn.mc.cells 27 (0, 0)) ∧ w'.heap[nb]? = some (.cells (iv g.nm16 16) 105 (0, 0))) (by kernel_rfl) ?_
            change wpAnyH _ _ _ _ _ _ _ _ (World.drew _)
            refine wpAnyH_take (i := 0) (v := .agg g.mn.mc.cells) rfl (by kernel_rfl) (by kernel_rfl) (by kernel_rfl) (fun _ _ _ h => h) (Or.inl ⟨by rfl, fun w2 hS => ?_⟩) S0.out ?_
            · have hk := run_loadM (W := w2) hS.1
              have hk2 := run_loadA (W := w2) hS.2
              go_simp
            simp only [Act.put, List.getElem_toArray, List.getElem_cons_succ, List.getElem_cons_zero, List.setIfInBounds_toArray, List.set_cons_zero, List.set_cons_succ]
            refine wpAnyH_take (i := 1) (v := .agg (iv g.nm16 16)) rfl (by kernel_rfl) (by kernel_rfl) (by kernel_rfl) (fun _ _ _ h => h) (Or.inl ⟨by rfl, fun w2 hS => ?_⟩) S0.out ?_
            · have hk := run_loadM (W := w2) hS.1
              have hk2 := run_loadA (W := w2) hS.2
              go_simp
            simp only [Act.put, List.getElem_toArray, List.getElem_cons_succ, List.getElem_cons_zero, List.setIfInBounds_toArray, List.set_cons_zero, List.set_cons_succ]
            refine wpAnyH_ready (rs := [2]) (by kernel_rfl) (by simp) (AllReadyH.cons rfl (fun K hK => ?_) AllReadyH.nil)
            have hk := run_storeM (W := wr.drew) (m := g.mn.mc) HI.out.h2
            go_simp
            refine hK.out _ _ ⟨hp_row (w := wr.drew) HI.out.ho (by omega) _, hp_row (w := wr.drew) HI.out.hn (by omega) _⟩ (fun _ => ?_)
            clear hk hK K
            refine wpAnyH_ready (rs := [3]) (by kernel_rfl) (by simp) (AllReadyH.cons rfl (fun K hK => ?_) AllReadyH.nil)
            have hk := run_storeA (W := wr.drew.setRow (w.heap.size + 1) g.mn.mc.cells) (C := g.nm16) (hp_row (w := wr.drew) HI.out.h3 (by omega) _)
            go_simp
            refine hK.out _ _ ⟨hp_row (hp_row (w := wr.drew) HI.out.ho (by omega) _) (by omega) _, hp_row (hp_row (w := wr.drew) HI.out.hn (by omega) _) (by omega) _⟩ (fun _ => ?_)
            clear hk hK K
            refine wpAnyH_done (by kernel_rfl) ?_ _
            go_wp2_with fail
            refine bodyPost_ret (v := .tuple #[.agg g.mn.mc.cells, .agg (iv g.nm16 16)]) (results_cell_cell rfl _ _ (w.heap.size + 1) (w.heap.size + 2) 27 105 _ _ (0, 0) (0, 0) _ _ rfl rfl (hp_row (setRow_heap (wr.drew) _ _ _ _ _ HI.out.h2) (by omega) _) (setRow_heap _ _ _ _ _ _ (hp_row (w := wr.drew) HI.out.h3 (by omega) _)) Try.underlying27 rfl (cells98i _) Try.underlying105 rfl (a16iI _)) rfl ⟨rfl, ?_⟩
            exact bel_row (bel_row (bel_drewN HI.out.bel 1) (by omega) _) (by omega) _
end Go.Proofs.Ytjnnbjlombopnaa

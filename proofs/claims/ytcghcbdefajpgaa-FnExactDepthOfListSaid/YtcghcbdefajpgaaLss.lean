/- Walks: the sections of a word at a level, of the reference. -/
import Derived.Test.YtcghcbdefajpgaaLsc
import Derived.Test.YtcghcbdefajpgaaRgd
namespace Go.Proofs.Ytcghcbdefajpgaa
open Go.RowKit
set_option linter.unusedSimpArgs false

/-- A slice's block is none of the three. -/
def NP (v : Value) (ib cb tb : Nat) : Prop := v.ownBlock ≠ some ib ∧ v.ownBlock ≠ some cb ∧ v.ownBlock ≠ some tb
theorem P3.keep {g : Gm} {B : Nat} {w w' : World} {ib cb tb : Nat} {v : Value} (h : P3 g B w ib cb tb) (hg : w.grownBy w' v.ownBlock) (hn : NP v ib cb tb) : P3 g B w' ib cb tb :=
  ⟨kept_own hg h.i hn.1, kept_own hg h.c hn.2.1, kept_own hg h.t hn.2.2, h.il, h.cl, h.tl⟩
theorem NP.lies {g : Gm} {B : Nat} {w : World} {ib cb tb : Nat} {v v' : Value} (h : NP v ib cb tb) (hl : Lies w.heap.size v v') (hp : P3 g B w ib cb tb) : NP v' ib cb tb := by
  have h1 := hp_lt hp.i
  have h2 := hp_lt hp.c
  have h3 := hp_lt hp.t
  rcases hl with e | ⟨q, e, hq⟩
  · unfold NP; rw [e]; exact h
  · unfold NP
    rw [e]
    exact ⟨fun e => by have := Option.some.inj e; omega, fun e => by have := Option.some.inj e; omega, fun e => by have := Option.some.inj e; omega⟩
/-- What lies in memory between the writes. -/
structure F3i (g : Gm) (B : Nat) (b : Bool) (k : Nat) (u : Nat → Value) (w : World) (ib cb tb : Nat) : Prop where
  p1 : u 7 = .pointer (some ⟨ib, 0, none⟩)
  p2 : u 8 = .pointer (some ⟨cb, 0, none⟩)
  p3 : u 9 = .pointer (some ⟨tb, 0, none⟩)
  l1 : B ≤ ib
  l2 : B ≤ cb
  l3 : B ≤ tb
  n1 : ib ≠ cb
  n2 : ib ≠ tb
  n3 : cb ≠ tb
  h1 : w.heap[ib]? = some (.cells (if 0 < k then g.inv.mc else Mc.zero).cells 31 (0, 0))
  h2 : w.heap[cb]? = some (.cells (iv (if 1 < k then g.ls16 else fun _ => 0) 16) 79 (0, 0))
  h3 : w.heap[tb]? = some (.cells (bv (if 2 < k then g.tr16 else fun _ => false) 16) 81 (0, 0))
  sl : b = true → ∃ lb, u 21 = .slice (some ⟨lb, 0, none⟩) 0 0 ∧ B ≤ lb ∧ lb ≠ ib ∧ lb ≠ cb ∧ lb ≠ tb ∧ w.heap[lb]? = some (.cells #[] 26 (0, 0))
structure F3 (g : Gm) (bx : Nat) (w1 : World) (b : Bool) (k : Nat) (u : Nat → Value) (w : World) : Prop where
  v1 : u 16 = .agg g.inv.mc.cells
  v2 : u 18 = .agg (iv g.ls16 16)
  v3 : u 20 = .agg (bv g.tr16 16)
  ex : ∃ ib cb tb, F3i g w1.heap.size b k u w ib cb tb
  bel : Below w1.heap.size w1 w
  box : w.heap[bx]? = some (.cells g.mc.cells 31 (0, 0))

set_option maxRecDepth 100000 in
set_option maxHeartbeats 4000000 in
theorem l04Sections_any (g : Gm) (hok : g.Ok) (v : Value) (u : List Int) (hu : g.Nums u) (hv : NilOk v) (hlen : u.length ≤ 1048576) (n : Nat) (hn : n ≤ 5) (w : World) (hr : RdI w v u) :
    Calls Try.prog 25 #[.agg g.mc.cells, v, .int .i64 (n : Nat)] w fun e w' => (∃ a rows, e = .returned a ∧ LLr w' w.heap.size a rows (g.lsc u n)) ∧ Below w.heap.size w w' := by
  have HO := hidd hok
  have Hr := hidd hr
  have HU := hidd hu
  have Hv := hidd hv
  have l2 := hok.l2
  have l3 := hok.l3
  have HP := hidd (fun W => l01Power_any g.l n l3 hn W)
  have hN := pow_bd l3 hn
  have HE : Hid (g.lsc u n = g.lvS u n (g.l ^ n)) := hidd rfl
  obtain ⟨N, hNN⟩ : ∃ N, N = g.l ^ n := ⟨_, rfl⟩
  rw [← hNN] at HP hN HE
  obtain ⟨A0, c0, rfl, hq0⟩ := hr
  clear hok hu hq0 hv hNN
  go_enter Try.func25, Try.ntmps25
  go_wp2_with fail
  obtain ⟨w1, hw1⟩ : ∃ w1, w1 = w.alloc (.cells g.mc.cells 31) := ⟨_, rfl⟩
  rw [← hw1]
  have B1 := hidd (show Below w.heap.size w w1 by rw [hw1]; exact bel_alloc' _ _)
  have K1 := hidd (show w1.heap[w.heap.size]? = some (.cells g.mc.cells 31 (0, 0)) by rw [hw1]; exact hp_new rfl)
  clear hw1
  refine wp_region_held (S := fun w' => w'.heap[w.heap.size]? = some (.cells g.mc.cells 31 (0, 0))) (by kernel_rfl) ?_
  change wpAnyH _ _ _ _ _ _ _ _ (World.drew _)
  have S0 := hidd (show w1.drew.heap[w.heap.size]? = some (.cells g.mc.cells 31 (0, 0)) from K1.out)
  refine wpAnyH_take (i := 0) (v := .agg g.mc.cells) rfl (by kernel_rfl) (by kernel_rfl) (by kernel_rfl) (fun _ _ _ h => h) (Or.inl ⟨by rfl, fun w2 hS => ?_⟩) S0.out ?_
  · have hk := run_loadM (W := w2) hS
    dsimp only at hS
    clear hS
    go_simp
  simp only [Act.put, List.getElem_toArray, List.getElem_cons_succ, List.getElem_cons_zero, List.setIfInBounds_toArray, List.set_cons_zero, List.set_cons_succ]
  refine wpAnyH_take (i := 2) (v := .agg g.mc.cells) rfl (by kernel_rfl) (by kernel_rfl) (by kernel_rfl) (fun _ _ _ h => h) (Or.inl ⟨by rfl, fun w2 hS => ?_⟩) S0.out ?_
  · have hk := run_loadM (W := w2) hS
    dsimp only at hS
    clear hS
    go_simp
  simp only [Act.put, List.getElem_toArray, List.getElem_cons_succ, List.getElem_cons_zero, List.setIfInBounds_toArray, List.set_cons_zero, List.set_cons_succ]
  refine wpAnyH_take (i := 4) (v := .agg g.mc.cells) rfl (by kernel_rfl) (by kernel_rfl) (by kernel_rfl) (fun _ _ _ h => h) (Or.inl ⟨by rfl, fun w2 hS => ?_⟩) S0.out ?_
  · have hk := run_loadM (W := w2) hS
    dsimp only at hS
    clear hS
    go_simp
  simp only [Act.put, List.getElem_toArray, List.getElem_cons_succ, List.getElem_cons_zero, List.setIfInBounds_toArray, List.set_cons_zero, List.set_cons_succ]
  have hwl := B1.out.size
  have hbx : w.heap.size < w1.heap.size := hp_lt K1.out
  refine wpAnyH_growF [0, 1, 2, 3, 4, 5, 6, 7, 8, 9, 10, 11, 12, 13] 6 (fun w2 w3 hb h => hp_bel h hb) 1 3 [Ft.val 1 16 (.agg g.inv.mc.cells), Ft.val 3 18 (.agg (iv g.ls16 16)), Ft.val 5 20 (.agg (bv g.tr16 16)), Ft.sl 6 21 w1.heap.size 0 (.cells #[] 26 (0, 0)), Ft.blk 7 7 w1.heap.size (.cells Mc.zero.cells 31 (0, 0)), Ft.blk 8 8 w1.heap.size (.cells (iv (fun _ => 0) 16) 79 (0, 0)), Ft.blk 9 9 w1.heap.size (.cells (bv (fun _ => false) 16) 81 (0, 0))] [1, 3, 5, 6, 7, 8, 9] [16, 18, 20, 21, 7, 8, 9] rfl rfl
    (fun k => 10 + k) (fun k => #[true, true, true, true, true, true, true, true, true, true, decide (0 < k), decide (1 < k), decide (2 < k), false]) (fun k => #[true, true, true, true, true, true, false, true, true, true, decide (0 < k), decide (1 < k), decide (2 < k), false])
    (by kernel_rfl) ?hs S0.out ?rA ?rB (by kernel_rfl) ?sA ?sB ?sBA (fun b k u w2 => F3 g w.heap.size w1 b k u w2) (fun b k u w2 h => h.box) ?hst ?hfl ?hi1 ?hi0 ?fin
  case rA =>
    intro k hk
    have hk3 : k = 0 ∨ k = 1 ∨ k = 2 := by omega
    rcases hk3 with rfl | rfl | rfl
    · show _ = _
      kernel_rfl
    · show _ = _
      kernel_rfl
    · show _ = _
      kernel_rfl
  case rB =>
    intro k hk
    have hk3 : k = 0 ∨ k = 1 ∨ k = 2 := by omega
    rcases hk3 with rfl | rfl | rfl
    · show _ = _
      kernel_rfl
    · show _ = _
      kernel_rfl
    · show _ = _
      kernel_rfl
  case sA =>
    intro k hk
    have hk3 : k = 0 ∨ k = 1 ∨ k = 2 := by omega
    rcases hk3 with rfl | rfl | rfl
    · show _ = _
      kernel_rfl
    · show _ = _
      kernel_rfl
    · show _ = _
      kernel_rfl
  case sB =>
    intro k hk
    have hk3 : k = 0 ∨ k = 1 ∨ k = 2 := by omega
    rcases hk3 with rfl | rfl | rfl
    · show _ = _
      kernel_rfl
    · show _ = _
      kernel_rfl
    · show _ = _
      kernel_rfl
  case sBA =>
    intro k hk
    rfl
  case hs =>
    simp only [List.forall_mem_cons]
    refine ⟨?_, ?_, ?_, ?_, ?_, ?_, ?_, fun _ h => by cases h⟩
    · refine ⟨_, rfl, rfl, fun u w2 hS hb hf K hK => ?_⟩
      simp only [putT, List.map_cons, List.map_nil, Ft.val, Ft.blk, Ft.sl, putF, List.foldl_cons, List.foldl_nil, Act.put, List.setIfInBounds_toArray, List.set_cons_zero, List.set_cons_succ] at hK ⊢
      clear hf
      go_simp
      refine (l01Inverse_any g HO.out _ (Gm.is_cells HO.out) _).mono ?_
      rintro e w3 ⟨rfl, hb3⟩
      exact hK _ _ hb3 rfl (fun h => by cases h)
    · refine ⟨_, rfl, rfl, fun u w2 hS hb hf K hK => ?_⟩
      simp only [putT, List.map_cons, List.map_nil, Ft.val, Ft.blk, Ft.sl, putF, List.foldl_cons, List.foldl_nil, Act.put, List.setIfInBounds_toArray, List.set_cons_zero, List.set_cons_succ] at hK ⊢
      clear hf
      go_simp
      refine (l01Classes_any g HO.out _ (Gm.is_cells HO.out) _).mono ?_
      rintro e w3 ⟨rfl, hb3⟩
      exact hK _ _ hb3 rfl (fun h => by cases h)
    · refine ⟨_, rfl, rfl, fun u w2 hS hb hf K hK => ?_⟩
      simp only [putT, List.map_cons, List.map_nil, Ft.val, Ft.blk, Ft.sl, putF, List.foldl_cons, List.foldl_nil, Act.put, List.setIfInBounds_toArray, List.set_cons_zero, List.set_cons_succ] at hK ⊢
      clear hf
      go_simp
      refine (l01Trivial_any g HO.out _ (Gm.is_cells HO.out) _).mono ?_
      rintro e w3 ⟨rfl, hb3⟩
      exact hK _ _ hb3 rfl (fun h => by cases h)
    all_goals
      refine ⟨_, rfl, rfl, fun u w2 hS hb hf K hK => ?_⟩
      simp only [putT, List.map_cons, List.map_nil, Ft.val, Ft.blk, Ft.sl, putF, List.foldl_cons, List.foldl_nil, Act.put, List.setIfInBounds_toArray, List.set_cons_zero, List.set_cons_succ] at hK ⊢
      clear hf
      go_simp
      have hz2 : w1.heap.size ≤ w2.heap.size := hb.size
      first
        | exact hK _ _ (bel_alloc' _ _) ⟨_, rfl, hz2, hp_new rfl⟩ (fun _ k e => by cases e; simp)
        | (rw [zeroC_M]; exact hK _ _ (bel_alloc' _ _) ⟨_, rfl, hz2, hp_new rfl⟩ (fun _ k e => by cases e; simp))
  case hst =>
    intro b k u2 w2 o hk ho hF K hK
    obtain ⟨v1, v2, v3, ⟨ib, cb, tb, hF⟩, hbel, hbox⟩ := hF
    have p1 := hF.p1
    have p2 := hF.p2
    have p3 := hF.p3
    have hk3 : k = 0 ∨ k = 1 ∨ k = 2 := by omega
    have hz := hbel.size
    have q1 := hF.l1
    have q2 := hF.l2
    have q3 := hF.l3
    rcases hk3 with rfl | rfl | rfl
    · cases ho
      have hFF : F3 g w.heap.size w1 b (0 + 1) u2 (w2.setRow ib g.inv.mc.cells) := by
        refine ⟨v1, v2, v3, ⟨ib, cb, tb, ⟨p1, p2, p3, q1, q2, q3, hF.n1, hF.n2, hF.n3, setRow_heap _ _ _ _ _ _ hF.h1, hp_row hF.h2 (Ne.symm hF.n1) _, hp_row hF.h3 (Ne.symm hF.n2) _, fun hb => ?_⟩⟩, bel_row hbel (by omega) _, hp_row hbox (by omega) _⟩
        obtain ⟨lb, e1, e2, e3, e4, e5, e6⟩ := hF.sl hb
        exact ⟨lb, e1, e2, e3, e4, e5, hp_row e6 (by assumption) _⟩
      have hKK := hK _ hFF
      have hk := run_storeM (W := w2) (m := g.inv.mc) hF.h1
      simp only [putT, List.map_cons, List.map_nil, Ft.val, Ft.blk, Ft.sl, putF, List.foldl_cons, List.foldl_nil, Act.put, List.setIfInBounds_toArray, List.set_cons_zero, List.set_cons_succ, v1, v2, v3, p1, p2, p3] at hKK ⊢
      clear hK hFF hF hbel hbox v1 v2 v3 p1 p2 p3
      go_simp
      exact hKK
    · cases ho
      have hFF : F3 g w.heap.size w1 b (1 + 1) u2 (w2.setRow cb (iv g.ls16 16)) := by
        refine ⟨v1, v2, v3, ⟨ib, cb, tb, ⟨p1, p2, p3, q1, q2, q3, hF.n1, hF.n2, hF.n3, hp_row hF.h1 hF.n1 _, setRow_heap _ _ _ _ _ _ hF.h2, hp_row hF.h3 (Ne.symm hF.n3) _, fun hb => ?_⟩⟩, bel_row hbel (by omega) _, hp_row hbox (by omega) _⟩
        obtain ⟨lb, e1, e2, e3, e4, e5, e6⟩ := hF.sl hb
        exact ⟨lb, e1, e2, e3, e4, e5, hp_row e6 (by assumption) _⟩
      have hKK := hK _ hFF
      have hk := run_storeA (W := w2) (C := g.ls16) hF.h2
      simp only [putT, List.map_cons, List.map_nil, Ft.val, Ft.blk, Ft.sl, putF, List.foldl_cons, List.foldl_nil, Act.put, List.setIfInBounds_toArray, List.set_cons_zero, List.set_cons_succ, v1, v2, v3, p1, p2, p3] at hKK ⊢
      clear hK hFF hF hbel hbox v1 v2 v3 p1 p2 p3
      go_simp
      exact hKK
    · cases ho
      have hFF : F3 g w.heap.size w1 b (2 + 1) u2 (w2.setRow tb (bv g.tr16 16)) := by
        refine ⟨v1, v2, v3, ⟨ib, cb, tb, ⟨p1, p2, p3, q1, q2, q3, hF.n1, hF.n2, hF.n3, hp_row hF.h1 hF.n2 _, hp_row hF.h2 hF.n3 _, setRow_heap _ _ _ _ _ _ hF.h3, fun hb => ?_⟩⟩, bel_row hbel (by omega) _, hp_row hbox (by omega) _⟩
        obtain ⟨lb, e1, e2, e3, e4, e5, e6⟩ := hF.sl hb
        exact ⟨lb, e1, e2, e3, e4, e5, hp_row e6 (by assumption) _⟩
      have hKK := hK _ hFF
      have hk := run_storeB (W := w2) (C := g.tr16) hF.h3
      simp only [putT, List.map_cons, List.map_nil, Ft.val, Ft.blk, Ft.sl, putF, List.foldl_cons, List.foldl_nil, Act.put, List.setIfInBounds_toArray, List.set_cons_zero, List.set_cons_succ, v1, v2, v3, p1, p2, p3] at hKK ⊢
      clear hK hFF hF hbel hbox v1 v2 v3 p1 p2 p3
      go_simp
      exact hKK
  case hfl =>
    intro k u2 w2 o hk ho hF K hK
    cases ho
    obtain ⟨v1, v2, v3, ⟨ib, cb, tb, hF⟩, hbel, hbox⟩ := hF
    have hKK := hK (updU u2 (some 21) (.slice (some ⟨w2.heap.size, 0, none⟩) 0 0)) (w2.alloc (.cells #[] 26)) ⟨v1, v2, v3, ⟨ib, cb, tb, ⟨hF.p1, hF.p2, hF.p3, hF.l1, hF.l2, hF.l3, hF.n1, hF.n2, hF.n3, hp_old hF.h1, hp_old hF.h2, hp_old hF.h3, fun _ => ⟨w2.heap.size, rfl, hbel.size, Ne.symm (Nat.ne_of_lt (hp_lt hF.h1)), Ne.symm (Nat.ne_of_lt (hp_lt hF.h2)), Ne.symm (Nat.ne_of_lt (hp_lt hF.h3)), hp_new rfl⟩⟩⟩, bel_then hbel (bel_alloc' _ _), hp_old hbox⟩
    simp only [putT, List.map_cons, List.map_nil, Ft.val, Ft.blk, Ft.sl, putF, List.foldl_cons, List.foldl_nil, Act.put, List.setIfInBounds_toArray, List.set_cons_zero, List.set_cons_succ] at hKK ⊢
    clear hK hF hbel hbox v1 v2 v3
    go_simp
    exact hKK
  case hi1 =>
    intro u2 w2 hS hb hf hne
    have e1 : u2 16 = .agg g.inv.mc.cells := fs_all hf 0 _ rfl
    have e2 : u2 18 = .agg (iv g.ls16 16) := fs_all hf 1 _ rfl
    have e3 : u2 20 = .agg (bv g.tr16 16) := fs_all hf 2 _ rfl
    obtain ⟨ib, e4, l4, h4⟩ := fs_all hf 4 _ rfl
    obtain ⟨cb, e5, l5, h5⟩ := fs_all hf 5 _ rfl
    obtain ⟨tb, e6, l6, h6⟩ := fs_all hf 6 _ rfl
    have n45 : ib ≠ cb := fs_ne hne 4 5 _ _ rfl rfl rfl rfl (by intro h; simp [Ft.blk, Ft.sl] at h) (show blkOf (u2 7) = some ib from by rw [show u2 7 = _ from e4]; rfl) (show blkOf (u2 8) = some cb from by rw [show u2 8 = _ from e5]; rfl)
    have n46 : ib ≠ tb := fs_ne hne 4 6 _ _ rfl rfl rfl rfl (by intro h; simp [Ft.blk, Ft.sl] at h) (show blkOf (u2 7) = some ib from by rw [show u2 7 = _ from e4]; rfl) (show blkOf (u2 9) = some tb from by rw [show u2 9 = _ from e6]; rfl)
    have n56 : cb ≠ tb := fs_ne hne 5 6 _ _ rfl rfl rfl rfl (by intro h; simp [Ft.blk, Ft.sl] at h) (show blkOf (u2 8) = some cb from by rw [show u2 8 = _ from e5]; rfl) (show blkOf (u2 9) = some tb from by rw [show u2 9 = _ from e6]; rfl)
    obtain ⟨lb, e7, l7, h7⟩ := fs_all hf 3 _ rfl
    have n74 : lb ≠ ib := fs_ne hne 3 4 _ _ rfl rfl rfl rfl (by intro h; simp [Ft.blk, Ft.sl] at h) (show blkOf (u2 21) = some lb from by rw [show u2 21 = _ from e7]; rfl) (show blkOf (u2 7) = some ib from by rw [show u2 7 = _ from e4]; rfl)
    have n75 : lb ≠ cb := fs_ne hne 3 5 _ _ rfl rfl rfl rfl (by intro h; simp [Ft.blk, Ft.sl] at h) (show blkOf (u2 21) = some lb from by rw [show u2 21 = _ from e7]; rfl) (show blkOf (u2 8) = some cb from by rw [show u2 8 = _ from e5]; rfl)
    have n76 : lb ≠ tb := fs_ne hne 3 6 _ _ rfl rfl rfl rfl (by intro h; simp [Ft.blk, Ft.sl] at h) (show blkOf (u2 21) = some lb from by rw [show u2 21 = _ from e7]; rfl) (show blkOf (u2 9) = some tb from by rw [show u2 9 = _ from e6]; rfl)
    exact ⟨e1, e2, e3, ⟨ib, cb, tb, ⟨e4, e5, e6, l4, l5, l6, n45, n46, n56, h4, h5, h6, fun _ => ⟨lb, e7, l7, n74, n75, n76, h7⟩⟩⟩, (drew_bel w1).trans hb, hS⟩
  case hi0 =>
    intro u2 w2 hS hb hf hne
    have e1 : u2 16 = .agg g.inv.mc.cells := fs_at (p := fun f => f.op ≠ 6) hf 0 _ rfl (by simp [Ft.val, Ft.blk])
    have e2 : u2 18 = .agg (iv g.ls16 16) := fs_at (p := fun f => f.op ≠ 6) hf 1 _ rfl (by simp [Ft.val, Ft.blk])
    have e3 : u2 20 = .agg (bv g.tr16 16) := fs_at (p := fun f => f.op ≠ 6) hf 2 _ rfl (by simp [Ft.val, Ft.blk])
    obtain ⟨ib, e4, l4, h4⟩ := fs_at (p := fun f => f.op ≠ 6) hf 4 _ rfl (by simp [Ft.val, Ft.blk])
    obtain ⟨cb, e5, l5, h5⟩ := fs_at (p := fun f => f.op ≠ 6) hf 5 _ rfl (by simp [Ft.val, Ft.blk])
    obtain ⟨tb, e6, l6, h6⟩ := fs_at (p := fun f => f.op ≠ 6) hf 6 _ rfl (by simp [Ft.val, Ft.blk])
    have n45 : ib ≠ cb := fs_neO hne 4 5 _ _ rfl rfl (by simp [Ft.blk]) (by simp [Ft.blk]) rfl rfl (by intro h; simp [Ft.blk] at h) (show blkOf (u2 7) = some ib from by rw [show u2 7 = _ from e4]; rfl) (show blkOf (u2 8) = some cb from by rw [show u2 8 = _ from e5]; rfl)
    have n46 : ib ≠ tb := fs_neO hne 4 6 _ _ rfl rfl (by simp [Ft.blk]) (by simp [Ft.blk]) rfl rfl (by intro h; simp [Ft.blk] at h) (show blkOf (u2 7) = some ib from by rw [show u2 7 = _ from e4]; rfl) (show blkOf (u2 9) = some tb from by rw [show u2 9 = _ from e6]; rfl)
    have n56 : cb ≠ tb := fs_neO hne 5 6 _ _ rfl rfl (by simp [Ft.blk]) (by simp [Ft.blk]) rfl rfl (by intro h; simp [Ft.blk] at h) (show blkOf (u2 8) = some cb from by rw [show u2 8 = _ from e5]; rfl) (show blkOf (u2 9) = some tb from by rw [show u2 9 = _ from e6]; rfl)
    exact ⟨e1, e2, e3, ⟨ib, cb, tb, ⟨e4, e5, e6, l4, l5, l6, n45, n46, n56, h4, h5, h6, fun h => by cases h⟩⟩, (drew_bel w1).trans hb, hS⟩
  case fin =>
    intro u2 w2 hF
    obtain ⟨v1, v2, v3, ⟨ib, cb, tb, hF⟩, hbel, hbox⟩ := hF
    obtain ⟨lb, p4, q4, m1, m2, m3, h4⟩ := hF.sl rfl
    have p1 := hF.p1
    have p2 := hF.p2
    have p3 := hF.p3
    simp only [putT, List.map_cons, List.map_nil, Ft.val, Ft.blk, Ft.sl, putF, List.foldl_cons, List.foldl_nil, Act.put, List.setIfInBounds_toArray, List.set_cons_zero, List.set_cons_succ, List.getElem_toArray, List.getElem_cons_succ, List.getElem_cons_zero, v1, v2, v3, p1, p2, p3, p4]
    have P3w := hidd (show P3 g w1.heap.size w2 ib cb tb from ⟨hF.h1, hF.h2, hF.h3, hF.l1, hF.l2, hF.l3⟩)
    have K3 := hidd hbox
    have B3 := hidd hbel
    have L4 := hidd (show LLr w2 w1.heap.size (.slice (some ⟨lb, 0, none⟩) 0 0) [] (g.lvS u n 0) from ⟨Own.of_full (vs := []) h4 rfl q4 (by omega), rfl, fun j r xs h => by simp at h, fun i j r u h => by simp at h⟩)
    have N4 := hidd (show NP (.slice (some ⟨lb, 0, none⟩) 0 0) ib cb tb from ⟨fun e => m1 (Option.some.inj e), fun e => m2 (Option.some.inj e), fun e => m3 (Option.some.inj e)⟩)
    clear v1 v2 v3 p1 p2 p3 p4 hF hbel hbox q4 m1 m2 m3 h4
    refine wpAnyH_take (i := 13) (v := ?v13z) rfl (by kernel_rfl) (by kernel_rfl) (by kernel_rfl) (fun _ _ _ h => h) (Or.inl ⟨by rfl, ?h13z⟩) K3.out ?_
    case h13z => (intro w4 hS; clear hS; go_simp; first | done | with_reducible rfl)
    simp only [Act.put, List.getElem_toArray, List.getElem_cons_succ, List.getElem_cons_zero, List.setIfInBounds_toArray, List.set_cons_zero, List.set_cons_succ]
    refine wpAnyH_done (by kernel_rfl) ?_ _
    have BW3 := hidd (bel_then B1.out B3.out)
    go_wp2_with fail
    go_loopw [10, 11] (fun q y wr => ∃ (k : Nat) (rows : List Value), k ≤ N ∧ y = .int .i64 k ∧ Hid (LLr wr w1.heap.size q rows (g.lvS u n k)) ∧ Hid (Below w1.heap.size w1 wr) ∧ Hid (P3 g w1.heap.size wr ib cb tb) ∧ Hid (NP q ib cb tb)) (fun _ y _ => N - (intOf y).toNat)
    case atStart => exact ⟨0, [], Nat.zero_le _, rfl, L4, B3, P3w, N4⟩
    case round =>
      clear L4 B3 P3w N4 BW3 K3
      obtain ⟨k, rows, hk, rfl, HQ, Hb, HP3, HNP⟩ := hrel
      obtain ⟨wo, rfl⟩ : ∃ wo, wo = wr := ⟨_, rfl⟩
      obtain ⟨Aq, cq, hqe⟩ := HQ.out.v.slice
      rw [HQ.out.len] at hqe
      subst hqe
      have a1 := (Gm.At.of_is (Gm.is_cells HO.out) (hp_bel K1.out Hb.out)).l
      by_cases hlt : k < N
      · have i1 : (k : Int) < N := by omega
        go_wp2_with (go_at_call 45; refine (HP.out _).mono ?_; rintro e w9 ⟨rfl, rfl⟩)
        clear a1
        have hlts := wd_lts (show 1 ≤ g.l by omega) l3 n k
        have S0 := hidd (show Below wo.heap.size wo wo.drew from drew_bel wo)
        have HX1 := hidd (fun W' (h : Below wo.heap.size wo W') => hp_bel (hp_bel K1.out Hb.out) h)
        have HX2 := hidd (fun W' (h : Below wo.heap.size wo W') => hp_bel HP3.out.i h)
        have HX3 := hidd (fun W' (h : Below wo.heap.size wo W') => (Gm.At.of_is (Gm.is_cells HO.out) (hp_bel (hp_bel K1.out Hb.out) h)).l)
        have HNk := hidd (Gm.nsl_ok HO.out HU.out n k)
        have HGn := hidd (show g.Nums (g.gW u (wd g.l n k) n) ∧ (g.gW u (wd g.l n k) n).length ≤ 1048576 from ⟨Gm.gW_nums HO.out HU.out hlts n (by rw [wd_size]; exact Nat.le_refl _), by rw [g.gW_len]; exact hlen⟩)
        have HSt : Hid (g.lvS u n (k + 1) = ex1 (g.lvS u n k) (g.nsl u n k)) := hidd rfl
        have HNs : Hid (g.nsl u n k = g.nrm (g.gW u (wd g.l n k) n)) := hidd rfl
        have HAc := hidd (fun W (h : RdI W (.slice A0 u.length c0) u) => l02Act_any g HO.out _ u HU.out Hv.out hlen (wd g.l n k) hlts (by rw [wd_size]; omega) W h)
        have HWo := hidd (l01WordOf_any g.l l2 l3 n k hn (by omega) wo.drew)
        rw [wd_size] at HAc
        obtain ⟨s, hs⟩ : ∃ s, s = wd g.l n k := ⟨_, rfl⟩
        rw [← hs] at HAc HGn HNs HWo
        clear hs hlts
        refine wp_region_held (S := fun w' => Below wo.heap.size wo w') (by kernel_rfl) ?_
        change wpAnyH _ _ _ _ _ _ _ _ (World.drew _)
        refine wpAnyH_take (i := 0) (v := ?v0) rfl (by kernel_rfl) (by kernel_rfl) (by kernel_rfl) (fun _ _ _ h => h) (Or.inl ⟨by rfl, ?h0⟩) S0.out ?_
        case h0 => (intro w4 hS; have k1 := run_loadM (W := w4) (HX1.out _ hS); have k2 := run_loadM (W := w4) (HX2.out _ hS); have k3 := HX3.out _ hS; clear hS; go_simp; first | done | with_reducible rfl)
        simp only [Act.put, List.getElem_toArray, List.getElem_cons_succ, List.getElem_cons_zero, List.setIfInBounds_toArray, List.set_cons_zero, List.set_cons_succ]
        refine wpAnyH_take (i := 1) (v := ?v1) rfl (by kernel_rfl) (by kernel_rfl) (by kernel_rfl) (fun _ _ _ h => h) (Or.inl ⟨by rfl, ?h1⟩) S0.out ?_
        case h1 => (intro w4 hS; have k1 := run_loadM (W := w4) (HX1.out _ hS); have k2 := run_loadM (W := w4) (HX2.out _ hS); have k3 := HX3.out _ hS; clear hS; go_simp; first | done | with_reducible rfl)
        simp only [Act.put, List.getElem_toArray, List.getElem_cons_succ, List.getElem_cons_zero, List.setIfInBounds_toArray, List.set_cons_zero, List.set_cons_succ]
        refine wpAnyH_take (i := 2) (v := ?v2) rfl (by kernel_rfl) (by kernel_rfl) (by kernel_rfl) (fun _ _ _ h => h) (Or.inl ⟨by rfl, ?h2⟩) S0.out ?_
        case h2 => (intro w4 hS; have k1 := run_loadM (W := w4) (HX1.out _ hS); have k2 := run_loadM (W := w4) (HX2.out _ hS); have k3 := HX3.out _ hS; clear hS; go_simp; first | done | with_reducible rfl)
        simp only [Act.put, List.getElem_toArray, List.getElem_cons_succ, List.getElem_cons_zero, List.setIfInBounds_toArray, List.set_cons_zero, List.set_cons_succ]
        refine wpAnyH_take (i := 3) (v := ?v3) rfl (by kernel_rfl) (by kernel_rfl) (by kernel_rfl) (fun _ _ _ h => h) (Or.inl ⟨by rfl, ?h3⟩) S0.out ?_
        case h3 => (intro w4 hS; have k1 := run_loadM (W := w4) (HX1.out _ hS); have k2 := run_loadM (W := w4) (HX2.out _ hS); have k3 := HX3.out _ hS; clear hS; go_simp; first | done | with_reducible rfl)
        simp only [Act.put, List.getElem_toArray, List.getElem_cons_succ, List.getElem_cons_zero, List.setIfInBounds_toArray, List.set_cons_zero, List.set_cons_succ]
        refine wpAnyH_take (i := 4) (v := ?v4) rfl (by kernel_rfl) (by kernel_rfl) (by kernel_rfl) (fun _ _ _ h => h) (Or.inl ⟨by rfl, ?h4⟩) S0.out ?_
        case h4 => (intro w4 hS; have k1 := run_loadM (W := w4) (HX1.out _ hS); have k2 := run_loadM (W := w4) (HX2.out _ hS); have k3 := HX3.out _ hS; clear hS; go_simp; first | done | with_reducible rfl)
        simp only [Act.put, List.getElem_toArray, List.getElem_cons_succ, List.getElem_cons_zero, List.setIfInBounds_toArray, List.set_cons_zero, List.set_cons_succ]
        refine wpAnyH_take (i := 5) (v := ?v5) rfl (by kernel_rfl) (by kernel_rfl) (by kernel_rfl) (fun _ _ _ h => h) (Or.inl ⟨by rfl, ?h5⟩) S0.out ?_
        case h5 => (intro w4 hS; have k1 := run_loadM (W := w4) (HX1.out _ hS); have k2 := run_loadM (W := w4) (HX2.out _ hS); have k3 := HX3.out _ hS; clear hS; go_simp; first | done | with_reducible rfl)
        simp only [Act.put, List.getElem_toArray, List.getElem_cons_succ, List.getElem_cons_zero, List.setIfInBounds_toArray, List.set_cons_zero, List.set_cons_succ]
        refine wpAnyH_take (i := 6) (v := ?v6) rfl (by kernel_rfl) (by kernel_rfl) (by kernel_rfl) (fun _ _ _ h => h) (Or.inl ⟨by rfl, ?h6⟩) S0.out ?_
        case h6 => (intro w4 hS; have k1 := run_loadM (W := w4) (HX1.out _ hS); have k2 := run_loadM (W := w4) (HX2.out _ hS); have k3 := HX3.out _ hS; clear hS; go_simp; first | done | with_reducible rfl)
        simp only [Act.put, List.getElem_toArray, List.getElem_cons_succ, List.getElem_cons_zero, List.setIfInBounds_toArray, List.set_cons_zero, List.set_cons_succ]
        refine wpAnyH_ready (rs := [7]) (by kernel_rfl) (by simp) (AllReadyH.cons rfl (fun K hK => ?_) AllReadyH.nil)
        go_simp
        refine HWo.out.mono ?_
        rintro e w5 ⟨rfl, hb5⟩
        have S5 := hidd (bel_then S0.out hb5)
        refine hK.out _ _ S5.out (fun _ => ?_)
        clear hK K hb5 S0
        refine wpAnyH_ready (rs := [8]) (by kernel_rfl) (by simp) (AllReadyH.cons rfl (fun K hK => ?_) AllReadyH.nil)
        go_simp
        refine (HAc.out _ (((Hr.out.below B1.out).below Hb.out).below S5.out)).mono ?_
        rintro e w6 ⟨⟨r6, rfl, ho6⟩, hb6⟩
        have S6 := hidd (bel_then S5.out hb6)
        have HR6 := hidd ho6.rdI
        obtain ⟨A6, c6, rfl⟩ := ho6.slice
        refine hK.out _ _ S6.out (fun _ => ?_)
        clear hK K hb6 S5 ho6 HX1 HX2 HX3
        refine wpAnyH_take (i := 9) (v := ?v9) rfl (by kernel_rfl) (by kernel_rfl) (by kernel_rfl) (fun _ _ _ h => h) (Or.inl ⟨by rfl, ?h9⟩) S6.out ?_
        case h9 => (intro w4 hS; clear hS; go_simp; first | done | with_reducible rfl)
        simp only [Act.put, List.getElem_toArray, List.getElem_cons_succ, List.getElem_cons_zero, List.setIfInBounds_toArray, List.set_cons_zero, List.set_cons_succ]
        refine wpAnyH_take (i := 10) (v := ?v10) rfl (by kernel_rfl) (by kernel_rfl) (by kernel_rfl) (fun _ _ _ h => h) (Or.inl ⟨by rfl, ?h10⟩) S6.out ?_
        case h10 => (intro w4 hS; clear hS; go_simp; first | done | with_reducible rfl)
        simp only [Act.put, List.getElem_toArray, List.getElem_cons_succ, List.getElem_cons_zero, List.setIfInBounds_toArray, List.set_cons_zero, List.set_cons_succ]
        refine wpAnyH_take (i := 11) (v := ?v11) rfl (by kernel_rfl) (by kernel_rfl) (by kernel_rfl) (fun _ _ _ h => h) (Or.inl ⟨by rfl, ?h11⟩) S6.out ?_
        case h11 => (intro w4 hS; clear hS; go_simp; first | done | with_reducible rfl)
        simp only [Act.put, List.getElem_toArray, List.getElem_cons_succ, List.getElem_cons_zero, List.setIfInBounds_toArray, List.set_cons_zero, List.set_cons_succ]
        refine wpAnyH_take (i := 12) (v := ?v12) rfl (by kernel_rfl) (by kernel_rfl) (by kernel_rfl) (fun _ _ _ h => h) (Or.inl ⟨by rfl, ?h12⟩) S6.out ?_
        case h12 => (intro w4 hS; clear hS; go_simp; first | done | with_reducible rfl)
        simp only [Act.put, List.getElem_toArray, List.getElem_cons_succ, List.getElem_cons_zero, List.setIfInBounds_toArray, List.set_cons_zero, List.set_cons_succ]
        refine wpAnyH_take (i := 13) (v := ?v13) rfl (by kernel_rfl) (by kernel_rfl) (by kernel_rfl) (fun _ _ _ h => h) (Or.inl ⟨by rfl, ?h13⟩) S6.out ?_
        case h13 => (intro w4 hS; clear hS; go_simp; first | done | with_reducible rfl)
        simp only [Act.put, List.getElem_toArray, List.getElem_cons_succ, List.getElem_cons_zero, List.setIfInBounds_toArray, List.set_cons_zero, List.set_cons_succ]
        refine wpAnyH_done (by kernel_rfl) ?_ _
        have HQ6 := hidd (HQ.out.below S6.out)
        have Hb6 := hidd (bel_then Hb.out S6.out)
        have hz6 := Hb6.out.size
        obtain ⟨k1, k2, k3⟩ := (HP3.out.below S6.out).ic
        go_wp2_with fail
        clear k1 k2 k3
        refine (l02Normal_any g HO.out _ (g.gW u s n) HGn.out.1 HGn.out.2 w6 HR6.out).mono ?_
        rintro e w7 ⟨⟨r7, rfl, ho7⟩, hb7⟩
        rw [← HNs.out] at ho7
        have HR7 := hidd (ho7.mono hz6)
        have HNw : Hid (∀ (j : Nat) (t : Value), rows[j]? = some t → Apart t r7) := hidd (fun j t hj => by obtain ⟨ys, _, ho⟩ := HQ6.out.list hj; exact own_ne ho ho7 (Nat.le_refl _))
        obtain ⟨A7, c7, rfl⟩ := ho7.slice
        have HQ7 := hidd (HQ6.out.below hb7)
        have Hb7 := hidd (bel_then Hb6.out hb7)
        have HP7 := hidd ((HP3.out.below S6.out).below hb7)
        have hL := g.lvS_len u n k
        obtain ⟨W, hW⟩ : ∃ W, W = g.lvS u n k := ⟨_, rfl⟩
        obtain ⟨z, hzz⟩ : ∃ z, z = g.nsl u n k := ⟨_, rfl⟩
        simp only [← hW, ← hzz] at HQ7 HR7 HNw HSt hL HNP ⊢
        have HFd := hidd (l02Find_any _ _ W z (by omega) w7 HQ7.out.rd HR7.out.rdI)
        clear ho7 hb7 HQ HQ6 Hb Hb6 hW hzz HNk HGn HNs HR6 S6 HWo HAc
        by_cases hp : plc W z < W.length
        · have hfn : fnd W z = (plc W z : Nat) := if_pos hp
          rw [hfn] at HFd
          have HS1 := hidd (HSt.out.trans (if_pos hp))
          obtain ⟨p, hpe⟩ : ∃ p, p = plc W z := ⟨_, rfl⟩
          rw [← hpe] at HFd
          clear hfn hp hpe
          go_wp2_with fail
          refine HFd.out.mono ?_
          rintro e w8 ⟨rfl, hb8⟩
          have HQ8 := hidd (HQ7.out.below hb8)
          have Hb8 := hidd (bel_then Hb7.out hb8)
          have HP8 := hidd (HP7.out.below hb8)
          have j1 : ¬ (p : Int) < 0 := by omega
          clear hb8
          go_wp2_with fail
          go_roundw
          case rel => exact ⟨k + 1, rows, by omega, by go_num, hidd (by rw [HS1.out]; exact HQ8.out), Hb8, HP8, HNP⟩
          case measure => first | (simp [intOf]; done) | (simp [intOf]; omega)
        · have hfn : fnd W z = -1 := if_neg hp
          rw [hfn] at HFd
          have HS1 := hidd (HSt.out.trans (if_neg hp))
          clear hfn hp
          go_wp2_with fail
          refine HFd.out.mono ?_
          rintro e w8 ⟨rfl, hb8⟩
          have HQ8 := hidd (HQ7.out.below hb8)
          have HR8 := hidd (HR7.out.below hb8)
          have Hb8 := hidd (bel_then Hb7.out hb8)
          have HP8 := hidd (HP7.out.below hb8)
          have hbase := Hb8.out.size
          have hlen3 : rows.length + 1 ≤ 1099511627776 := by rw [HQ8.out.len]; omega
          clear hb8
          go_wp2_with (at_builtin; refine app_at rfl _ _ _ rfl w1.heap.size 26 (.slice none 0 0) 24 Try.underlying27 info_ints rfl HQ8.out.v rfl rfl rfl hlen3 (by decide) hbase ?_; intro v' w9 ho9 hgr9 hle9 hli9; have HQ9 := hidd (HQ8.out.push HR8.out HNw.out ho9 hgr9); have b9 := hidd (Hb8.out.trans (bel_own HQ8.out.v hgr9 hbase)); have HP9 := hidd (HP8.out.keep hgr9 HNP.out); have HN9 := hidd (HNP.out.lies hli9 HP8.out); clear ho9 hgr9 hle9 hli9)
          go_roundw
          case rel => exact ⟨k + 1, _, by omega, by go_num, hidd (by rw [HS1.out]; exact HQ9.out), b9, HP9, HN9⟩
          case measure => first | (simp [intOf]; done) | (simp [intOf]; omega)
      · have he : k = N := by omega
        subst he
        clear hlt
        go_wp2_with (go_at_call 45; refine (HP.out _).mono ?_; rintro e w9 ⟨rfl, rfl⟩)
        go_ret
        exact ⟨⟨_, rows, rfl, by rw [HE.out]; exact HQ.out.mono (B1.out.size)⟩, bel_then B1.out Hb.out⟩
end Go.Proofs.Ytcghcbdefajpgaa

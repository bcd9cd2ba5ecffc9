/- Small texts of the walks under one roof. -/
import Derived.Test.YtighjpnjbgjgaaaDoorBA
import Derived.Deep.RegionWith
import Derived.Maps.AppendAt
import Derived.Deep.AppendLies
import Derived.Lib.AppendZerosOnto
import Derived.Lib.SliceRun
import Derived.Laws.AppendOwnNone
import Derived.OrdersHeld
import Derived.Deep.RegionLaw
import Derived.RangeFuncBox
import Derived.RangeFuncLeaves
import Derived.RangeFuncNested
import Derived.Shelf.Abstract
import Derived.WalkKit
import Derived.OwnWalkIn
import Derived.TacticsInMore
import Derived.LoopNIn
import Derived.LoopIn
import Derived.Shelf.Bits.Mul64
import Derived.Shelf.Lay
import Derived.Ground.NamesProg
import Derived.Laws.CopyOwn
import Derived.BigRegion
/- Rules of the walk: a whole machine is read out of a variable and written into one in one step. -/
namespace Go.Proofs.YtighjpnjbgjgaaaDoor
open Go.RowKit

/-- A whole machine out of a variable. -/
def loadM (a : Addr) : Sem Value := loadVar 25 a
theorem loadVar_M (a : Addr) : loadVar 25 a = loadM a := rfl
theorem run_loadM {W : World} {b : Nat} {m : Mc} {t : TypeId} {fr : Nat × Nat} (h : W.heap[b]? = some (.cells m.cells t fr)) : (loadM ⟨b, 0, none⟩).run Tryd.prog W = .ok (.agg m.cells) W := by
  have := run_loadVar_at (P := Tryd.prog) W b 0 98 t 25 m.cells fr _ h Tryd.underlying25 rfl (by kernel_rfl) (by rw [m.cells_size]; omega)
  have e : m.cells.extract 0 (0 + 98) = m.cells := by rw [← m.cells_size]; simp
  rw [e] at this
  exact this
/-- A whole machine into a variable. -/
def storeM (a : Addr) (v : Value) : Sem Unit := storeVar 25 a v
theorem storeVar_M (a : Addr) (v : Value) : storeVar 25 a v = storeM a v := rfl
theorem run_storeM {W : World} {b : Nat} {m m' : Mc} {t : TypeId} (h : W.heap[b]? = some (.cells m'.cells t (0, 0))) : (storeM ⟨b, 0, none⟩ (.agg m.cells)).run Tryd.prog W = .ok () (W.setRow b m.cells) := by
  have := run_storeVar_at (P := Tryd.prog) W b 0 98 t 25 m'.cells m.cells h (by kernel_rfl) m.cells_size (by rw [m'.cells_size]; omega) (all_mem m.cells_all)
  have e : splice m'.cells 0 m.cells = m.cells := by
    apply Array.ext_getElem?
    intro j
    rw [splice_get _ _ _ (by rw [m.cells_size, m'.cells_size]; omega), m.cells_size]
    by_cases hj : j < 98
    · rw [if_pos (by omega), Nat.sub_zero]
    · rw [if_neg (by omega), Array.getElem?_eq_none (by rw [m'.cells_size]; omega), Array.getElem?_eq_none (by rw [m.cells_size]; omega)]
  rw [e] at this
  exact this
/-- .. into one that has just been laid. -/
theorem run_storeM_new {w : World} {n : Nat} {m m' : Mc} {t : TypeId} (hn : n = w.heap.size) : (storeM ⟨n, 0, none⟩ (.agg m.cells)).run Tryd.prog (w.alloc (.cells m'.cells t)) = .ok () (w.alloc (.cells m.cells t)) := by
  rw [run_storeM (hp_new hn), setRow_alloc _ _ hn]
theorem heap_alloc_rule {w : World} {o : Obj} {n : Nat} {x : Obj} (h : w.heap[n]? = some x) : (w.alloc o).heap[n]? = some x := hp_old h
theorem heap_alloc_new' {w : World} {o : Obj} : (w.alloc o).heap[w.heap.size]? = some o := hp_new rfl
theorem heap_drew (w : World) (n : Nat) : w.drew.heap[n]? = w.heap[n]? := rfl
theorem heap_drewN (w : World) (k n : Nat) : (w.drewN k).heap[n]? = w.heap[n]? := rfl
theorem heap_setCell_rule {w : World} {p : Addr} {v : Value} {n : Nat} {x : Obj} (h : w.heap[n]? = some x) (hne : n ≠ p.block) : (w.setCell p v).heap[n]? = some x := hp_far h hne v
theorem zeroValue_M (w : World) : (zeroValue 25).run Tryd.prog w = .ok (.agg Mc.zero.cells) w := by
  rw [← zeroM_cells]; exact zeroM_run w
attribute [go_sem ↓ high] loadVar_M storeVar_M
attribute [go_sem] run_loadM run_storeM run_storeM_new zeroValue_M heap_drew heap_drewN
end Go.Proofs.YtighjpnjbgjgaaaDoor

/- Walks: slices of slices; the codes of group words, of the program and of the reference. -/
namespace Go.Proofs.YtighjpnjbgjgaaaDoor
open Go.RowKit

/-- The code of a machine and group words. -/
def codeW (m : Mc) (xss : List (List Int)) : Int := if m.ok && xss.all (gwB m.S.toNat) then 0 else 1
theorem codeW_bad {m : Mc} {xss : List (List Int)} (h : m.ok = false) : codeW m xss = 1 := by unfold codeW; rw [h]; rfl
theorem codeW_no {g : Gm} {xss : List (List Int)} (h : xss.all (gwB g.s) = false) : codeW g.mc xss = 1 := by
  unfold codeW
  rw [show g.mc.S.toNat = g.s from rfl, h, Bool.and_false]; rfl
theorem codeW_yes {g : Gm} {xss : List (List Int)} (h0 : g.mc.ok = true) (h : xss.all (gwB g.s) = true) : codeW g.mc xss = 0 := by
  unfold codeW
  rw [show g.mc.S.toNat = g.s from rfl, h, h0]; rfl
theorem codeW_zero {m : Mc} {xss : List (List Int)} (h : codeW m xss = 0) : ∃ g : Gm, m = g.mc ∧ g.Ok ∧ ∀ xs ∈ xss, gwB g.s xs = true := by
  unfold codeW at h
  cases h1 : m.ok with
  | false => rw [h1] at h; simp at h
  | true =>
    obtain ⟨g, rfl, hok⟩ := Mc.to_gm h1
    cases h2 : xss.all (gwB g.mc.S.toNat) with
    | false => rw [h2, Bool.and_false] at h; simp at h
    | true => exact ⟨g, rfl, hok, fun xs hx => List.all_eq_true.1 h2 xs hx⟩
theorem codeW_one {m : Mc} {xss : List (List Int)} (h : ¬ codeW m xss = 0) : codeW m xss = 1 := by
  unfold codeW at *
  split
  · rename_i hc; rw [if_pos hc] at h; exact absurd rfl h
  · rfl
theorem gwB_mem {s : Nat} {xs : List Int} (h : gwB s xs = true) : xs.length ≤ 40 ∧ ∀ k ∈ xs, k ≠ 0 ∧ -(s : Int) ≤ k ∧ k ≤ s := by
  unfold gwB at h
  rw [Bool.and_eq_true, List.all_eq_true] at h
  exact ⟨of_decide_eq_true h.1, fun k hk => of_decide_eq_true (h.2 k hk)⟩

end Go.Proofs.YtighjpnjbgjgaaaDoor

/- Words of the walks: append to a slice of the call's own, with the word on where the new slice lies; slices of slices of the call's own. -/
namespace Go.Proofs.YtighjpnjbgjgaaaDoor
open Go.RowKit

/-- The new slice lies where the old one lay, or in a block laid since a world of H blocks. -/
def Lies (H : Nat) (v v' : Value) : Prop := v'.ownBlock = v.ownBlock ∨ ∃ k, v'.ownBlock = some k ∧ H ≤ k
theorem Lies.trans {H : Nat} {v v' v'' : Value} (h : Lies H v v') (h' : Lies H v' v'') : Lies H v v'' := by
  rcases h' with e | e
  · rcases h with e2 | ⟨k, e2, e3⟩
    · exact .inl (e.trans e2)
    · exact .inr ⟨k, e.trans e2, e3⟩
  · exact .inr e
theorem Lies.refl (H : Nat) (v : Value) : Lies H v v := .inl rfl
theorem Lies.mono {H H' : Nat} {v v' : Value} (h : Lies H v v') (hh : H' ≤ H) : Lies H' v v' := by
  rcases h with e | ⟨k, e, h⟩
  · exact .inl e
  · exact .inr ⟨k, e, by omega⟩
/-- Two slices do not share a block. -/
def Apart (v u : Value) : Prop := v.ownBlock = none ∨ v.ownBlock ≠ u.ownBlock
theorem Apart.symm {v u : Value} (h : Apart v u) : Apart u v := by
  rcases h with e | e
  · cases hu : u.ownBlock with
    | none => exact .inl hu
    | some k => right; rw [hu, e]; exact fun h => by cases h
  · exact .inr (Ne.symm e)
/-- A slice that lay there stays apart from one that is appended to. -/
theorem Apart.lies {w : World} {base H : Nat} {e : TypeId} {v v' u : Value} {vs : List Value} (h : Apart u v) (hu : Own w base e u vs) (hH : w.heap.size ≤ H) (hl : Lies H v v') : Apart u v' := by
  rcases hl with e2 | ⟨k, e2, h2⟩
  · unfold Apart; rw [e2]; exact h
  · cases hb : u.ownBlock with
    | none => exact .inl hb
    | some j =>
      right
      rw [hb, e2]
      intro hh
      cases hh
      have := (hu.block k hb).2
      omega
/-- Slices of elements of different types are apart. -/
theorem Own.apart {w : World} {b b' : Nat} {e e' : TypeId} {v u : Value} {vs us : List Value} (h : Own w b e v vs) (h' : Own w b' e' u us) (hne : e ≠ e') : Apart v u := by
  rcases h.2 with ⟨h1, _⟩ | ⟨g, cap, cur, h1, _, hg, _⟩
  · left; rw [h1]; rfl
  · right
    rcases h'.2 with ⟨h2, _⟩ | ⟨g', cap', cur', h2, _, hg', _⟩
    · rw [h1, h2]; exact fun h => by cases h
    · rw [h1, h2]
      intro hh
      have : g = g' := by simpa [Value.ownBlock] using hh
      subst this
      rw [hg] at hg'
      cases hg'
      exact hne rfl
theorem Own.keep {w w' : World} {base : Nat} {e : TypeId} {v u : Value} {vs : List Value} (h : Own w base e u vs) (hg : w.grownBy w' v.ownBlock) (ha : Apart u v) : Own w' base e u vs := h.grown hg ha
theorem RdI.keep {w w' : World} {base : Nat} {e : TypeId} {v u : Value} {xs : List Int} (h : Own w base e u (ints xs)) (hg : w.grownBy w' v.ownBlock) (ha : Apart u v) : RdI w' u xs := (h.keep hg ha).rdI

section
variable {P : Program} {w : World} {ops : Array Oper} {rest : List Oper} {o : Oper} {a : Act} {Q : Exit → Act → World → Prop}
/-- append(v, u): behind the box of the variadic. -/
theorem app_at (hgd : o.guard = none) (s x : Operand) (t : TypeId) (hop : o.op = .call { callee := .builtin .append, args := #[s, x], argTypes := #[t, t] }) (base : Nat) (e : TypeId) (z : Value) (bytes : Nat) (h1 : P.underlying t = some (.slice e))
    (hinfo : (P.info? e).map (fun i => (i.zero, i.size, i.bytes)) = some (some z, 1, bytes)) (hz : z.cells.size = 1) {v u : Value} {vs : List Value} {te : TypeId} (hown : Own w base e v vs) (hs : a.eval s = v) (hx : a.eval x = .slice (some ⟨w.heap.size, 0, none⟩) 1 1) (h1c : u.oneCell' = true)
    (hlen : vs.length + 1 ≤ 1099511627776) (hby : bytes ≤ 64) (hbase : base ≤ w.heap.size)
    (hK : ∀ v' w', Own w' base e v' (vs ++ [u]) → w.grownBy w' v.ownBlock → w.heap.size < w'.heap.size → Lies w.heap.size v v' → wpList P ops Q rest (a.put o.dst v') w') : wpList P ops Q (o :: rest) a (w.alloc (.cells #[u] te)) := by
  obtain ⟨i, hi, hz0, hz1, hz2⟩ := info_parts hinfo
  refine wpList_append_own_at _ hgd s x t hop base e i z 1 bytes h1 hi hz0 hz1 hz2 hz (by decide) v vs.length vs hs (World.ownsRow.alloc hown _) ⟨w.heap.size, 0, none⟩ 1 1 [u] hx rfl ?_ ?_ ?_ ?_ ?_ ?_
  · intro j y hj
    match j, hj with
    | 0, hj =>
      simp at hj
      subst hj
      show (w.alloc (.cells #[u] te)).cell? ⟨w.heap.size, 0, none⟩ = some u
      rw [blkc (hp_new rfl)]
      rfl
  · intro y hy; simp at hy; subst hy; exact h1c
  · unfold maxLen; omega
  · have : (vs.length + 1) * bytes ≤ 1099511627776 * 64 := Nat.mul_le_mul hlen hby
    omega
  · simp; omega
  · intro v' w' ho hg _ hat
    have ho' : Own w' base e v' (vs ++ [u]) := by unfold Own; rw [List.length_append]; exact ho
    refine hK v' w' ho' ⟨hg.os, hg.tape, hg.output, ?_, fun k hk hr => ?_⟩ ?_ ?_
    · have := hg.size; simp at this; omega
    · rw [hg.block k (by simp; omega) hr, hpA, if_neg (by omega)]
    · have := hg.size; simp at this; omega
    · rcases hat with h | h
      · exact .inl h
      · exact .inr ⟨_, h, by simp⟩

/-- The same as one step of a region that draws; the element lies in block p. -/
theorem step_app {K : Act → World → Prop} {E : Prop} (hgd : o.guard = none) (s x : Operand) (t : TypeId) (hop : o.op = .call { callee := .builtin .append, args := #[s, x], argTypes := #[t, t] }) (base : Nat) (e : TypeId) (z : Value) (bytes : Nat) (h1 : P.underlying t = some (.slice e))
    (hinfo : (P.info? e).map (fun i => (i.zero, i.size, i.bytes)) = some (some z, 1, bytes)) (hz : z.cells.size = 1) {v u : Value} {vs : List Value} {te : TypeId} {p : Nat} (hown : Own w base e v vs) (hp : w.heap[p]? = some (.cells #[u] te (0, 0))) (hs : a.eval s = v) (hx : a.eval x = .slice (some ⟨p, 0, none⟩) 1 1) (h1c : u.oneCell' = true)
    (hlen : vs.length + 1 ≤ 1099511627776) (hby : bytes ≤ 64) (hbase : base ≤ w.heap.size)
    (hK : ∀ v' w', Own w' base e v' (vs ++ [u]) → w.grownBy w' v.ownBlock → w.heap.size ≤ w'.heap.size → Lies w.heap.size v v' → K (a.put o.dst v') w') :
    if Region.wanted o (yielded ops a.tmps) = true then Oper.wp P o a w K Q else E := by
  obtain ⟨i, hi, hz0, hz1, hz2⟩ := info_parts hinfo
  have hw : Region.wanted o (yielded ops a.tmps) = true := by simp [Region.wanted, hgd]
  rw [if_pos hw]
  obtain ⟨v', w', hr, h2, h3, h4, h5⟩ := run_append_own_at (P := P) w base t o.type e i z 1 bytes h1 hi hz0 hz1 hz2 hz (by decide) v vs.length vs hown ⟨p, 0, none⟩ 1 1 [u] rfl (fun j y hj => by
    match j, hj with
    | 0, hj =>
      simp at hj
      subst hj
      show w.cell? ⟨p, 0, none⟩ = some u
      rw [blkc hp]
      rfl) (fun y hy => by simp at hy; subst hy; exact h1c) (by unfold maxLen; omega) (by
    have : (vs.length + 1) * bytes ≤ 1099511627776 * 64 := Nat.mul_le_mul hlen hby
    omega) hbase
  have ho' : Own w' base e v' (vs ++ [u]) := by unfold Own; rw [List.length_append]; exact h2
  unfold Oper.wp execOp
  simp only [hop, resolve, invoke, builtin, Sem.run_bind, Sem.run_pure, Result.andThen_ok, List.map_toArray, List.map_cons, List.map_nil, hs, hx, hr]
  refine hK v' w' ho' h3 h3.size ?_
  rcases h5 with h | h
  · exact .inl h
  · exact .inr ⟨_, h, Nat.le_refl _⟩
end
end Go.Proofs.YtighjpnjbgjgaaaDoor

/- Words of the walks: all on slices of the call's own. -/

/- Walks: slices.Grow on a nil slice, slices.Concat; the reference's join. -/
namespace Go.Proofs.YtighjpnjbgjgaaaDoor
open Go.RowKit

section
variable {P : Program} {w : World} {ops : Array Oper} {rest : List Oper} {o : Oper} {a : Act} {Q : Exit → Act → World → Prop}
/-- append(v, src...): a slice of the call's own, whatever is read behind it. -/
theorem app_src (hgd : o.guard = none) (s x : Operand) (t : TypeId) (hop : o.op = .call { callee := .builtin .append, args := #[s, x], argTypes := #[t, t] }) (base : Nat) (e : TypeId) (z : Value) (bytes : Nat) (h1 : P.underlying t = some (.slice e))
    (hinfo : (P.info? e).map (fun i => (i.zero, i.size, i.bytes)) = some (some z, 1, bytes)) (hz : z.cells.size = 1) {v : Value} {vs us : List Value} {A : Option Addr} {n c : Nat} (hown : Own w base e v vs) (hr : Rd w A us) (hn : n = us.length) (hs : a.eval s = v) (hx : a.eval x = .slice A n c) (h1c : ∀ u ∈ us, u.oneCell' = true)
    (hnil : A = none → c = 0) (hlen : vs.length + us.length ≤ 1099511627776) (hby : bytes ≤ 64) (hbase : base ≤ w.heap.size)
    (hK : ∀ v' w', Own w' base e v' (vs ++ us) → w.grownBy w' v.ownBlock → wpList P ops Q rest (a.put o.dst v') w') : wpList P ops Q (o :: rest) a w := by
  obtain ⟨i, hi, hz0, hz1, hz2⟩ := info_parts hinfo
  subst hn
  have hmul : (vs.length + us.length) * bytes ≤ 1099511627776 * 64 := Nat.mul_le_mul hlen hby
  cases A with
  | none =>
    have hu : us = [] := by
      apply Decidable.byContradiction
      intro hne
      obtain ⟨b, o, h, _⟩ := hr.2 hne
      cases h
    subst hu
    rw [hnil rfl] at hx
    refine wpList_append_own_none hgd s x t hop base e i 1 h1 hi v vs.length vs hs hown hx ?_
    exact hK v w (by rw [List.append_nil]; exact hown) (World.grownBy.refl _ _)
  | some ad =>
    refine wpList_append_own _ hgd s x t hop base e i z 1 bytes h1 hi hz0 hz1 hz2 hz (by decide) v vs.length vs hs hown ad us.length c us hx (by omega) ?_ h1c (by unfold maxLen; omega) (by omega) hbase ?_
    · intro j u hj
      obtain ⟨b, o, hA, hc⟩ := hr.2 (fun e => by rw [e] at hj; simp at hj)
      cases hA
      have hadd : (⟨b, o, none⟩ : Addr).add j = ⟨b, o + j, none⟩ := by unfold Addr.add; split <;> simp_all
      rw [hadd]; exact hc j u hj
    · intro v' w' ho hg _
      have ho' : Own w' base e v' (vs ++ us) := by unfold Own; rw [List.length_append]; exact ho
      exact hK v' w' ho' hg
end

/-! ### Grow on a nil slice -/
theorem infoE64 : (Tryd.prog.info? 2).map (fun i => (i.zero, i.size, i.bytes)) = some (some (.int .i64 0), 1, 8) := by kernel_rfl
/-! ### Concat -/
/-- A slice of slices reads as these lists of values. -/
def RdVV (w : World) (v : Value) (uss : List (List Value)) : Prop :=
  ∃ (A : Option Addr) (c : Nat) (rows : List Value), v = .slice A uss.length c ∧ Rd w A rows ∧ rows.length = uss.length ∧ ∀ (j : Nat) (r : Value) (us : List Value), rows[j]? = some r → uss[j]? = some us → ∃ (B : Option Addr) (d : Nat), r = .slice B us.length d ∧ (B = none → d = 0) ∧ Rd w B us
theorem RdVV.below {w w' : World} {v : Value} {uss : List (List Value)} (h : RdVV w v uss) (hb : Below w.heap.size w w') : RdVV w' v uss := by
  obtain ⟨A, c, rows, e, hr, hl, h⟩ := h
  refine ⟨A, c, rows, e, hr.below hb, hl, fun j r us h1 h2 => ?_⟩
  obtain ⟨B, d, e2, e3, hr2⟩ := h j r us h1 h2
  exact ⟨B, d, e2, e3, hr2.below hb⟩
/-- How many elements the first so many lists have. -/
def lens (uss : List (List Value)) (k : Nat) : Nat := ((uss.take k).map List.length).sum
theorem lens_succ (uss : List (List Value)) (k : Nat) (us : List Value) (h : uss[k]? = some us) : lens uss (k + 1) = lens uss k + us.length := by
  unfold lens
  rw [List.take_add_one, h]
  simp
theorem lens_le (uss : List (List Value)) (k : Nat) (hk : k ≤ uss.length) : lens uss k ≤ lens uss uss.length := by
  induction uss generalizing k with
  | nil => simp at hk; subst hk; exact Nat.le_refl _
  | cons u us ih =>
    cases k with
    | zero => exact Nat.zero_le _
    | succ k =>
      have := ih k (by simpa using hk)
      unfold lens at *
      simp only [List.take_succ_cons, List.map_cons, List.sum_cons, List.length_cons] at *
      omega
theorem flat_succ {α : Type} (uss : List (List α)) (k : Nat) (us : List α) (h : uss[k]? = some us) : (uss.take (k + 1)).flatten = (uss.take k).flatten ++ us := by
  rw [List.take_add_one, h]
  simp
theorem flat_len (uss : List (List Value)) (k : Nat) : (uss.take k).flatten.length = lens uss k := by
  unfold lens
  rw [List.length_flatten]

end Go.Proofs.YtighjpnjbgjgaaaDoor

/- A region that draws its order: a load may be taken first while no operation that waits for it has come up, where the cell is kept till then. -/
namespace Go.Proofs.YtighjpnjbgjgaaaDoor
open Go.RowKit

section
variable {P : Program} {ops : Array Oper} {Q : Exit → Act → World → Prop} {md : Region.Mode} {S : World → Prop} {ks : List Nat}

/-- One of the operations ks has not come up. -/
def Waits (ks : List Nat) (l : Array Bool) : Prop := ∃ k ∈ ks, l.getD k true = false

/-- Whatever order is picked, and S holds behind each operation as long as one of ks has not come up. -/
def wpC (P : Program) (md : Region.Mode) (ops : Array Oper) (Q : Exit → Act → World → Prop) (S : World → Prop) (ks : List Nat) : Nat → Array Bool → Act → World → Prop
  | 0, l, a, w => Region.ready md ops l = [] ∧ Q .normal a w
  | n + 1, l, a, w =>
    (Region.ready md ops l = [] → Q .normal a w) ∧
    ∀ i ∈ Region.ready md ops l, wpOp P ops Q i (fun a' w' => (Waits ks (l.setIfInBounds i true) → S w') ∧ wpC P md ops Q S ks n (l.setIfInBounds i true) a' w') a w

theorem wpAny_of_C : ∀ (n : Nat) (l : Array Bool) (a : Act) (w : World), wpC P md ops Q S ks n l a w → wpAny P md ops Q n l a w
  | 0, _, _, _, h => h
  | n + 1, _, _, _, h => ⟨h.1, fun i hi => wpOp_mono (fun a' w' h' => wpAny_of_C n _ a' w' h'.2) (h.2 i hi)⟩

theorem wpC_of_any : ∀ (n : Nat) (l : Array Bool) (a : Act) (w : World), (∀ k ∈ ks, l.getD k true = true) → wpAny P md ops Q n l a w → wpC P md ops Q S ks n l a w
  | 0, _, _, _, _, h => h
  | n + 1, l, _, _, hk, h => ⟨h.1, fun i hi => wpOp_mono (fun a' w' h' => by
      have hk' : ∀ k ∈ ks, (l.setIfInBounds i true).getD k true = true := fun k hkm => by
        by_cases he : i = k
        · subst he; simp [Array.getD]
        · rw [getD_set_ne true he]; exact hk k hkm
      exact ⟨fun ⟨k, h1, h2⟩ => (by rw [hk' k h1] at h2; cases h2), wpC_of_any n _ a' w' hk' h'⟩) (h.2 i hi)⟩

theorem wpC_first {i k : Nat} {oi ok : Oper} {v : Value} (hi : ops[i]? = some oi) (hsel : ∀ (j : Nat) (o : Oper) cs b, ops[j]? = some o → o.op ≠ .select cs b)
    (hQ : ∀ c a w, Q (.panic c) (a.put oi.dst v) w → Q (.panic c) a w) (hk : k ∈ ks) (hki : k ≠ i) (hok : ops[k]? = some ok) (hon : ∃ e ∈ ok.after, Region.binds md e = true ∧ e.on = i) :
    ∀ (fuel : Nat) (listed : Array Bool) (a : Act) (w : World),
      (∀ j oj, ops[j]? = some oj → j ≠ i → listed.getD j true = false → (∀ e ∈ oj.after, Region.binds md e = true → e.on ≠ i) → oi.apart ops oj = true) →
      i ∈ Region.ready md ops listed → listed.getD k true = false → YieldsIf P ops S oi v a → S w →
      wpC P md ops Q S ks fuel (listed.setIfInBounds i true) (a.put oi.dst v) w → wpC P md ops Q S ks (fuel + 1) listed a w := by
  intro fuel
  induction fuel with
  | zero =>
    intro listed a w _ hr hkl hy hS H
    refine ⟨fun h => (by rw [h] at hr; cases hr), fun j hj => ?_⟩
    by_cases hji : j = i
    · subst hji; exact hy.wpOp hi hS ⟨fun _ => hS, H⟩
    · have := ready_mono hj hji
      rw [H.1] at this
      cases this
  | succ fuel ih =>
    intro listed a w hfree hr hkl hy hS H
    refine ⟨fun h => (by rw [h] at hr; cases hr), fun j hj => ?_⟩
    by_cases hji : j = i
    · subst hji; exact hy.wpOp hi hS ⟨fun _ => hS, H⟩
    · have h1 := H.2 j (ready_mono hj hji)
      obtain ⟨hjun, oj, hoj, hall⟩ := mem_ready.1 hj
      have hnot : ∀ e ∈ oj.after, Region.binds md e = true → e.on ≠ i := fun e he hb heq => by
        have h1 := hall e he hb
        have h0 := (mem_ready.1 hr).1
        rw [heq] at h1
        rcases Nat.lt_or_ge i listed.size with h' | h'
        · simp [h'] at h0 h1; rw [h0] at h1; cases h1
        · simp [Array.getElem?_eq_none h'] at h1
      have hjk : j ≠ k := by
        rintro rfl
        rw [hoj] at hok
        cases hok
        obtain ⟨e, he, hb, hon⟩ := hon
        exact hnot e he hb hon
      have hkl' : (listed.setIfInBounds j true).getD k true = false := by rw [getD_set_ne true hjk]; exact hkl
      have hW : Waits ks ((listed.setIfInBounds i true).setIfInBounds j true) := ⟨k, hk, by rw [getD_set_ne true hjk, getD_set_ne true (Ne.symm hki)]; exact hkl⟩
      have h2 := wpOp_putIf hoj (hfree j oj hoj hji hjun hnot) (fun cs b => hsel i oi cs b hi) (fun cs b => hsel j oj cs b hoj) hQ hy h1
      have hfree' : ∀ k ok, ops[k]? = some ok → k ≠ i → (listed.setIfInBounds j true).getD k true = false →
          (∀ e ∈ ok.after, Region.binds md e = true → e.on ≠ i) → oi.apart ops ok = true := fun k ok hk hki hun hno => by
        refine hfree k ok hk hki ?_ hno
        by_cases hjk : j = k
        · subst hjk; exact hjun
        · rw [getD_set_ne true hjk] at hun; exact hun
      refine wpOp_mono (fun a' w' h3 => ?_) h2
      have hS' := h3.2.1 hW
      refine ⟨fun _ => hS', ih (listed.setIfInBounds j true) a' w' hfree' (ready_mono hr (Ne.symm hji)) hkl' h3.1 hS' ?_⟩
      rw [Array.setIfInBounds_comm _ _ hji]
      exact h3.2.2

/-- Take the load i first; k waits for it. -/
theorem wpC_take {i : Nat} (k : Nat) {oi : Oper} {v : Value} {fuel : Nat} {listed : Array Bool} {a : Act} {w : World} (hi : ops[i]? = some oi)
    (hs : Region.noSelect ops = true) (hf : Region.free md ops listed i = true) (hr : (Region.ready md ops listed).contains i = true) (hkl : (ks.contains k && k != i && !listed.getD k true && ((ops[k]?).map fun o => o.after.any fun e => Region.binds md e && e.on == i).getD false) = true)
    (hQ : ∀ c a w, Q (.panic c) (a.put oi.dst v) w → Q (.panic c) a w) (hy : YieldsIf P ops S oi v a) (hS : S w)
    (h : wpC P md ops Q S ks fuel (listed.setIfInBounds i true) (a.put oi.dst v) w) : wpC P md ops Q S ks (fuel + 1) listed a w := by
  simp only [Bool.and_eq_true, bne_iff_ne, ne_eq, Bool.not_eq_true'] at hkl
  obtain ⟨⟨⟨h1, h2⟩, h3⟩, h4⟩ := hkl
  cases hok : ops[k]? with
  | none => rw [hok] at h4; simp at h4
  | some ok =>
    rw [hok] at h4
    simp only [Option.map_some, Option.getD_some] at h4
    rw [Array.any_eq_true'] at h4
    refine wpC_first (k := k) hi (Region.noSelect_spec hs) hQ (by simpa using h1) h2 hok ?_ fuel listed a w (Region.free_spec hi hf) (by simpa using hr) h3 hy hS h
    simpa using h4

theorem wpC_done {listed : Array Bool} {a : Act} {w : World} (hr : Region.ready md ops listed = []) (h : Q .normal a w) : ∀ fuel, wpC P md ops Q S ks fuel listed a w
  | 0 => ⟨hr, h⟩
  | _ + 1 => ⟨fun _ => h, by rw [hr]; simp⟩

/-- Those that may come up come up: each is a step; behind it S is shown and the rest follows. -/
theorem wpC_one {i : Nat} {o : Oper} {fuel : Nat} {listed : Array Bool} {a : Act} {w : World} (hr : Region.ready md ops listed = [i]) (ho : ops[i]? = some o)
    (h : ∀ K : Act → World → Prop, (∀ a w, S w → wpC P md ops Q S ks fuel (listed.setIfInBounds i true) a w → K a w) → if Region.wanted o (yielded ops a.tmps) = true then Oper.wp P o a w K Q else K (a.put o.dst undef) w) :
    wpC P md ops Q S ks (fuel + 1) listed a w := by
  refine ⟨fun h0 => (by rw [hr] at h0; cases h0), ?_⟩
  rw [hr]
  intro j hj
  rcases List.mem_singleton.1 hj with rfl
  exact wpOp_step ho fun K' hK => h K' fun a w hs hw => hK a w ⟨fun _ => hs, hw⟩
theorem wpC_two {i j : Nat} {o o' : Oper} {fuel : Nat} {listed : Array Bool} {a : Act} {w : World} (hr : Region.ready md ops listed = [i, j]) (ho : ops[i]? = some o) (ho' : ops[j]? = some o')
    (h : ∀ K : Act → World → Prop, (∀ a w, S w → wpC P md ops Q S ks fuel (listed.setIfInBounds i true) a w → K a w) → if Region.wanted o (yielded ops a.tmps) = true then Oper.wp P o a w K Q else K (a.put o.dst undef) w)
    (h' : ∀ K : Act → World → Prop, (∀ a w, S w → wpC P md ops Q S ks fuel (listed.setIfInBounds j true) a w → K a w) → if Region.wanted o' (yielded ops a.tmps) = true then Oper.wp P o' a w K Q else K (a.put o'.dst undef) w) :
    wpC P md ops Q S ks (fuel + 1) listed a w := by
  refine ⟨fun h0 => (by rw [hr] at h0; cases h0), ?_⟩
  rw [hr]
  intro k hk
  rcases List.mem_cons.1 hk with rfl | hk
  · exact wpOp_step ho fun K' hK => h K' fun a w hs hw => hK a w ⟨fun _ => hs, hw⟩
  · rcases List.mem_singleton.1 hk with rfl
    exact wpOp_step ho' fun K' hK => h' K' fun a w hs hw => hK a w ⟨fun _ => hs, hw⟩
end
end Go.Proofs.YtighjpnjbgjgaaaDoor

/- Walks: the table of a machine. -/
namespace Go.Proofs.YtighjpnjbgjgaaaDoor
open Go.RowKit
/-- The rows of a machine. -/
def Gm.nr (g : Gm) (q : Nat) : List Int := (List.range g.l).map fun x => (g.nx q x : Int)
def Gm.or (g : Gm) (q : Nat) : List Int := (List.range g.l).map fun x => (g.ou q x : Int)
def Gm.nxs (g : Gm) (n : Nat) : List (List Int) := (List.range n).map g.nr
def Gm.ous (g : Gm) (n : Nat) : List (List Int) := (List.range n).map g.or
theorem ints_snoc' (xs : List Int) (x : Int) : ints (xs ++ [x]) = ints xs ++ [.int .i64 x] := by simp [ints]
theorem Gm.nxs_succ (g : Gm) (n : Nat) : g.nxs (n + 1) = g.nxs n ++ [g.nr n] := by simp [Gm.nxs, List.range_succ]
theorem Gm.ous_succ (g : Gm) (n : Nat) : g.ous (n + 1) = g.ous n ++ [g.or n] := by simp [Gm.ous, List.range_succ]
def upto (f : Nat → Int) (n : Nat) : List Int := (List.range n).map f
theorem upto_len (f : Nat → Int) (n : Nat) : (upto f n).length = n := by simp [upto]
theorem upto_succ (f : Nat → Int) (n : Nat) : upto f (n + 1) = upto f n ++ [f n] := by simp [upto, List.range_succ]
/-- The own block of a slice is none that lay there before its base. -/
theorem Own.ne_low {w : World} {B T : Nat} {e : TypeId} {v : Value} {vs : List Value} (h : Own w B e v vs) (hT : T < B) : v.ownBlock ≠ some T := fun hb => by have := (h.block T hb).1; omega
theorem Own.ne_new {w : World} {B : Nat} {e : TypeId} {v : Value} {vs : List Value} (h : Own w B e v vs) : v.ownBlock ≠ some w.heap.size := fun hb => by have := (h.block _ hb).2; omega
theorem kept_own {w w' : World} {v : Value} {p : Nat} {x : Obj} (hg : w.grownBy w' v.ownBlock) (h : w.heap[p]? = some x) (hne : v.ownBlock ≠ some p) : w'.heap[p]? = some x := (hg.block p (hp_lt h) (fun e => hne e.symm)).trans h
theorem drew_bel (w : World) : Below w.heap.size w w.drew := (bel_drewN (Below.refl _ w) 1)
theorem tcells {w : World} {T : Nat} {vn vo : Value} {t : TypeId} (h : w.heap[T]? = some (.cells #[vn, vo] t (0, 0))) : w.cell? ⟨T, 0, none⟩ = some vn ∧ w.cell? ⟨T, 1, none⟩ = some vo := ⟨by rw [blkc h]; rfl, by rw [blkc h]; rfl⟩

end Go.Proofs.YtighjpnjbgjgaaaDoor

/- Walks: the text of a group word, of the program and of the reference. -/
namespace Go.Proofs.YtighjpnjbgjgaaaDoor
open Go.RowKit

def gch (k : Int) : Int := if 0 < k then 96 + k else 64 - k
def gtx (xs : List Int) : List Int := xs.map gch
theorem gtx_length (xs : List Int) : (gtx xs).length = xs.length := by simp [gtx]
theorem gtx_get (xs : List Int) (k : Nat) (hk : k < xs.length) : (gtx xs)[k]? = some (gch xs[k]) := by simp [gtx, hk]
/-- Numbers of states, or of their inverses. -/
def Nums (xs : List Int) : Prop := ∀ k, (hk : k < xs.length) → xs[k] ≠ 0 ∧ -16 ≤ xs[k] ∧ xs[k] ≤ 16
theorem Nums.of {g : Gm} (h : g.Ok) {xs : List Int} (hw : gwB g.s xs = true) : Nums xs := fun k hk => by
  have := (gwB_mem hw).2 _ (List.getElem_mem hk)
  have := h.s16
  omega
theorem take_succ_get {α : Type} (l : List α) (k : Nat) (hk : k < l.length) : l.take (k + 1) = l.take k ++ [l[k]] := by
  rw [List.take_add_one, List.getElem?_eq_getElem hk]; rfl

/-! ### GroupText -/
def gtR (m : Mc) (xs : List Int) : ByteArray × Int := if codeW m [xs] = 0 then (strOfNums (gtx xs), 0) else (⟨#[]⟩, 1)
theorem gw_code (m : Mc) (xs : List Int) : m.gwB xs = decide (codeW m [xs] = 0) := by
  unfold Mc.gwB codeW
  rw [all_one1]
  cases m.ok && gwB m.S.toNat xs <;> rfl
end Go.Proofs.YtighjpnjbgjgaaaDoor

/- Walks: MultiplyWords, of the program and of the reference. -/
namespace Go.Proofs.YtighjpnjbgjgaaaDoor
open Go.RowKit

/-- A nil slice has no capacity. -/
def NilOk (v : Value) : Prop := ∀ n c, v = .slice none n c → c = 0
theorem Own.nilOk {w : World} {base : Nat} {e : TypeId} {v : Value} {vs : List Value} (h : Own w base e v vs) : NilOk v := by
  intro n c hv
  rcases h.2 with ⟨h1, _⟩ | ⟨g, cap, cur, h1, _⟩
  · rw [h1] at hv; cases hv; rfl
  · rw [h1] at hv; cases hv
theorem RdI.row {w : World} {v : Value} {xs : List Int} (h : RdI w v xs) (hn : NilOk v) : ∃ (B : Option Addr) (d : Nat), v = .slice B (ints xs).length d ∧ (B = none → d = 0) ∧ Rd w B (ints xs) := by
  obtain ⟨A, c, e, hr⟩ := h
  exact ⟨A, c, by rw [ints_length]; exact e, fun hA => hn _ _ (by rw [e, hA]), hr⟩
theorem RdVV.lit {w : World} {rows : List Value} {uss : List (List Value)} (hl : rows.length = uss.length) (hl2 : rows.length ≤ 9223372036854775807)
    (h : ∀ (j : Nat) (r : Value) (us : List Value), rows[j]? = some r → uss[j]? = some us → ∃ (B : Option Addr) (d : Nat), r = .slice B us.length d ∧ (B = none → d = 0) ∧ Rd w B us) (t : TypeId) (n k c : Nat) (hn : n = w.heap.size) (hk : k = uss.length) :
    RdVV (w.alloc (.cells rows.toArray t)) (.slice (some ⟨n, 0, none⟩) k c) uss := by
  subst hk
  refine ⟨some ⟨n, 0, none⟩, c, rows, rfl, ⟨hl2, fun _ => ⟨n, 0, rfl, fun j v hj => ?_⟩⟩, hl, fun j r us h1 h2 => ?_⟩
  · rw [blkc (hp_new hn), Nat.zero_add]
    simpa using hj
  · obtain ⟨B, d, e1, e2, e3⟩ := h j r us h1 h2
    exact ⟨B, d, e1, e2, e3.below (bel_alloc _ _)⟩
theorem ints_one (xs : List Int) : ∀ u ∈ ints xs, u.oneCell' = true := by
  intro u hu
  unfold ints at hu
  rw [List.mem_map] at hu
  obtain ⟨x, _, rfl⟩ := hu
  rfl
theorem ints_flat (xss : List (List Int)) : (xss.map ints).flatten = ints xss.flatten := by
  induction xss with
  | nil => rfl
  | cons x xs ih => simp only [List.map_cons, List.flatten_cons, ih, ints_append]

/-! ### A list that is not too long -/
def limR (xs : List Int) : List Int × Int := if xs.length ≤ 40 then (xs, 0) else ([], 3)
/-! ### MultiplyWords -/
def mulR (m : Mc) (xs ys : List Int) : List Int × Int := if codeW m [xs, ys] = 0 then limR (xs ++ ys) else ([], 1)
theorem gw_code2 (m : Mc) (xs ys : List Int) : (m.gwB xs && m.gwB ys) = decide (codeW m [xs, ys] = 0) := by
  unfold Mc.gwB codeW
  cases h0 : m.ok <;> cases h1 : gwB m.S.toNat xs <;> cases h2 : gwB m.S.toNat ys <;> simp [h1, h2]
/-- Two lists, one behind the other. -/
theorem RdVV.two {w : World} {v u : Value} {xs ys : List Int} (h : RdI w v xs) (h' : RdI w u ys) (hv : NilOk v) (hu : NilOk u) (t : TypeId) (n : Nat) (hn : n = w.heap.size) :
    RdVV (w.alloc (.cells #[v, u] t)) (.slice (some ⟨n, 0, none⟩) 2 2) [ints xs, ints ys] :=
  RdVV.lit (rows := [v, u]) rfl (by simp) (fun j r us h1 h2 => by
    match j, h1, h2 with
    | 0, h1, h2 =>
      simp at h1 h2
      subst h1 h2
      exact h.row hv
    | 1, h1, h2 =>
      simp at h1 h2
      subst h1 h2
      exact h'.row hu) t n 2 2 hn rfl
theorem two_one (xs ys : List Int) : ∀ us ∈ [ints xs, ints ys], ∀ u ∈ us, u.oneCell' = true := by
  intro us hus
  simp at hus
  rcases hus with rfl | rfl
  · exact ints_one _
  · exact ints_one _
theorem two_flat (xs ys : List Int) : [ints xs, ints ys].flatten = ints (xs ++ ys) := by simp [ints]
theorem two_lens (xs ys : List Int) : lens [ints xs, ints ys] [ints xs, ints ys].length = xs.length + ys.length := by simp [lens, ints_length]

theorem limR_len (xs : List Int) : (limR xs).1.length ≤ 1048576 := by
  unfold limR
  split
  · rename_i h; exact Nat.le_trans h (by omega)
  · exact Nat.zero_le _
theorem mulR_len (m : Mc) (xs ys : List Int) : (mulR m xs ys).1.length ≤ 1048576 := by
  unfold mulR
  split
  · exact limR_len _
  · exact Nat.zero_le _
end Go.Proofs.YtighjpnjbgjgaaaDoor

/- Walks: inverseOf of the program: a range over slices.Backward, by the kit's law for ranges over functions. -/
namespace Go.Proofs.YtighjpnjbgjgaaaDoor
open Go.RowKit Go.Shelf

attribute [local go_sem] Oper.semAt_some

/-- What a round is handed: a place and a number of a small size. -/
abbrev BkEl := { p : Nat × Int // -1000 ≤ p.2 ∧ p.2 ≤ 1000 }
def bkEnc (x : BkEl) : Array Value := #[.int .i64 (x.1.1 : Int), .int .i64 x.1.2]
/-- What a round that goes on keeps: what lay below n, and the box that the iterator reads. -/
def BkKeeps (n B : Nat) (W W' : World) : Prop := Below n W W' ∧ ∀ x : Obj, W.heap[B]? = some x → x.isCells = true → W'.heap[B]? = some x
theorem bkK_t {n B : Nat} {a b c : World} (h : BkKeeps n B a b) (k : BkKeeps n B b c) : BkKeeps n B a c := ⟨h.1.trans k.1, fun x h1 h2 => k.2 x (h.2 x h1 h2) h2⟩
theorem bkK_b {n B : Nat} {w : World} (hn : n ≤ w.heap.size) (W : World) (l : Nat) (o o' : Obj) (hl : w.heap.size ≤ l) (h : W.heap[l]? = some o) (hc : o.isCells = false) (hw : o.isWalk = false) : BkKeeps n B W (W.putObj l o') :=
  ⟨belowK_b hn W l o o' hl h hc hw, fun x h1 h2 => by
    have hne : B ≠ l := by
      rintro rfl
      rw [h] at h1
      cases h1
      rw [hc] at h2
      cases h2
    exact (World.putObj_heap_other hne).trans h1⟩
/-- The last k of zs, the last one first. -/
def lastOnes (zs : List Int) (k : Nat) : List Int := (zs.drop (zs.length - k)).reverse
theorem lastOnes_zero (zs : List Int) : lastOnes zs 0 = [] := by simp [lastOnes]
theorem lastOnes_all (zs : List Int) : lastOnes zs zs.length = zs.reverse := by simp [lastOnes]
theorem lastOnes_succ (zs : List Int) {k : Nat} (h : k < zs.length) : lastOnes zs (k + 1) = lastOnes zs k ++ [zs[zs.length - 1 - k]'(by omega)] := by
  unfold lastOnes
  rw [show zs.length - (k + 1) = zs.length - 1 - k by omega, List.drop_eq_getElem_cons (by omega), show zs.length - 1 - k + 1 = zs.length - k by omega]
  simp

/-- The inverse of a word. -/
def invW (xs : List Int) : List Int := xs.reverse.map fun x => -x
def bkOut (ys : List BkEl) : List Int := ys.map fun y => -y.1.2
theorem bkOut_snoc (ys : List BkEl) (y : BkEl) : bkOut (ys ++ [y]) = bkOut ys ++ [-y.1.2] := by simp [bkOut]

end Go.Proofs.YtighjpnjbgjgaaaDoor

/- Walks: InverseWord and CommutatorOf, of the program and of the reference. -/
namespace Go.Proofs.YtighjpnjbgjgaaaDoor
open Go.RowKit

theorem invW_take (xs : List Int) {k : Nat} (h : k < xs.length) : ints ((lastOnes xs (k + 1)).map fun x => -x) = ints ((lastOnes xs k).map fun x => -x) ++ [.int .i64 (-(xs[xs.length - 1 - k]'(by omega)))] := by
  rw [lastOnes_succ xs h]
  simp [ints]
theorem lastOnes_len (xs : List Int) {k : Nat} (h : k ≤ xs.length) : (lastOnes xs k).length = k := by simp [lastOnes]; omega
theorem invW_len (xs : List Int) : (invW xs).length = xs.length := by simp [invW]
theorem gwB_small {g : Gm} (hok : g.Ok) {xs : List Int} (h : gwB g.s xs = true) : ∀ x ∈ xs, -1000 ≤ x ∧ x ≤ 1000 := fun x hx => by
  have h1 := (gwB_mem h).2 x hx
  have := hok.s16
  omega

/-! ### InverseWord -/
def ivwR (m : Mc) (xs : List Int) : List Int × Int := if codeW m [xs] = 0 then (invW xs, 0) else ([], 1)
theorem ivwR_len (m : Mc) (xs : List Int) (h : xs.length ≤ 1048576) : (ivwR m xs).1.length ≤ 1048576 := by
  unfold ivwR
  split
  · rw [invW_len]; exact h
  · exact Nat.zero_le _
end Go.Proofs.YtighjpnjbgjgaaaDoor

/- Walks: CommutatorOf, of the program and of the reference. -/
namespace Go.Proofs.YtighjpnjbgjgaaaDoor
open Go.RowKit

/-- Four lists, one behind the other. -/
theorem RdVV.four {w : World} {v1 v2 v3 v4 : Value} {a b c d : List Int} (h1 : RdI w v1 a) (h2 : RdI w v2 b) (h3 : RdI w v3 c) (h4 : RdI w v4 d) (n1 : NilOk v1) (n2 : NilOk v2) (n3 : NilOk v3) (n4 : NilOk v4) (t : TypeId) (n : Nat) (hn : n = w.heap.size) :
    RdVV (w.alloc (.cells #[v1, v2, v3, v4] t)) (.slice (some ⟨n, 0, none⟩) 4 4) [ints a, ints b, ints c, ints d] :=
  RdVV.lit (rows := [v1, v2, v3, v4]) rfl (by simp) (fun j r us e1 e2 => by
    match j, e1, e2 with
    | 0, e1, e2 =>
      simp at e1 e2
      subst e1 e2
      exact h1.row n1
    | 1, e1, e2 =>
      simp at e1 e2
      subst e1 e2
      exact h2.row n2
    | 2, e1, e2 =>
      simp at e1 e2
      subst e1 e2
      exact h3.row n3
    | 3, e1, e2 =>
      simp at e1 e2
      subst e1 e2
      exact h4.row n4) t n 4 4 hn rfl
theorem four_one (a b c d : List Int) : ∀ us ∈ [ints a, ints b, ints c, ints d], ∀ u ∈ us, u.oneCell' = true := by
  intro us hus
  simp at hus
  rcases hus with rfl | rfl | rfl | rfl <;> exact ints_one _
def com (xs ys : List Int) : List Int := invW xs ++ (invW ys ++ (xs ++ ys))
theorem four_flat (xs ys : List Int) : [ints (invW xs), ints (invW ys), ints xs, ints ys].flatten = ints (com xs ys) := by simp [ints, com]
theorem four_lens (xs ys : List Int) : lens [ints (invW xs), ints (invW ys), ints xs, ints ys] [ints (invW xs), ints (invW ys), ints xs, ints ys].length = 2 * xs.length + 2 * ys.length := by
  simp [lens, ints_length, invW_len]
  omega
def comR (m : Mc) (xs ys : List Int) : List Int × Int := if codeW m [xs, ys] = 0 then limR (com xs ys) else ([], 1)
theorem comR_len (m : Mc) (xs ys : List Int) : (comR m xs ys).1.length ≤ 1048576 := by
  unfold comR
  split
  · exact limR_len _
  · exact Nat.zero_le _

end Go.Proofs.YtighjpnjbgjgaaaDoor

/- Walks: slices.Repeat of the program's dump, l02Power of the reference, PowerWord of both. -/
namespace Go.Proofs
open Go.Shelf Go.RowKit
end Go.Proofs
namespace Go.Proofs.YtighjpnjbgjgaaaDoor
open Go.RowKit
/-! ### The list, so many times -/
def repl {α : Type} (l : List α) (c : Nat) : List α := (List.replicate c l).flatten
theorem repl_succ {α : Type} (l : List α) (c : Nat) : repl l (c + 1) = l ++ repl l c := by simp [repl, List.replicate_succ]
theorem repl_len {α : Type} (l : List α) (c : Nat) : (repl l c).length = l.length * c := by
  induction c with
  | zero => simp [repl]
  | succ c ih => rw [repl_succ, List.length_append, ih, Nat.mul_succ]; omega
theorem repl_get {α : Type} (l : List α) (c i : Nat) (h : i < l.length * c) : (repl l c)[i]? = l[i % l.length]? := by
  induction c generalizing i with
  | zero => simp at h
  | succ c ih =>
    rw [repl_succ, List.getElem?_append]
    by_cases hi : i < l.length
    · rw [if_pos hi, Nat.mod_eq_of_lt hi]
    · rw [if_neg hi, ih (i - l.length) (by rw [Nat.mul_succ] at h; omega), ← Nat.mod_eq_sub_mod (by omega)]
theorem repl_snoc {α : Type} (l : List α) (c : Nat) : repl l (c + 1) = repl l c ++ l := by
  induction c with
  | zero => simp [repl]
  | succ c ih => rw [repl_succ, ih, ← List.append_assoc, ← repl_succ, ih]
/-- The first m of it stand again at each multiple of the list's length. -/
theorem repl_shift {α : Type} (l : List α) (c n m : Nat) (hn : l.length ∣ n) (hm : n + m ≤ l.length * c) : ((repl l c).drop n).take m = (repl l c).take m := by
  apply List.ext_getElem?
  intro i
  rw [List.getElem?_take, List.getElem?_take]
  by_cases hi : i < m
  · rw [if_pos hi, if_pos hi, List.getElem?_drop, repl_get l c (n + i) (by omega), repl_get l c i (by omega)]
    obtain ⟨d, rfl⟩ := hn
    rw [Nat.mul_add_mod]
  · rw [if_neg hi, if_neg hi]
/-- A copy of what stands there behind it. -/
theorem part_splice (l : List Value) (n k m : Nat) (z : Value) (hl : l.length = n) (hk : k + m ≤ n) (cs : List Value) (hc : (l.drop k).take m = cs) : _root_.Go.splice (part l n k z) k cs = part l n (k + m) z := by
  subst hc
  have hm : ((l.drop k).take m).length = m := by simp; omega
  unfold _root_.Go.splice part
  rw [hm]
  have h1 : (l.take k ++ List.replicate (n - k) z).take k = l.take k := by
    have e : (l.take k).length = k := by simp; omega
    rw [List.take_append_of_le_length (by omega), List.take_of_length_le (by omega)]
  have h2 : (l.take k ++ List.replicate (n - k) z).drop (k + m) = List.replicate (n - (k + m)) z := by
    have e : (l.take k).length = k := by simp; omega
    rw [List.drop_append, e, show k + m - k = m by omega, List.drop_eq_nil_of_le (by rw [e]; omega), List.nil_append, List.drop_replicate]
    congr 1
    omega
  rw [h1, h2, ← List.append_assoc, List.take_add]
theorem part_take (l : List Value) (n k m : Nat) (z : Value) (hl : l.length = n) (hk : k ≤ n) (hm : m ≤ k) : (part l n k z).take m = l.take m := by
  unfold part
  rw [List.take_append_of_le_length (by simp; omega), List.take_take, Nat.min_eq_left hm]
theorem info_sz64 : (Tryd.prog.info? 2).map (·.size) = some 1 := by kernel_rfl

/-- A slice of the call's own that is as long as it is roomy. -/
theorem Own.full {w : World} {base g n : Nat} {e : TypeId} {vs : List Value} (h : Own w base e (.slice (some ⟨g, 0, none⟩) n n) vs) : ∃ cur : Array Value, w.heap[g]? = some (.cells cur e (0, 0)) ∧ cur.size = n ∧ cur.toList = vs := by
  have hn := h.rd.1
  rcases h.2 with ⟨h1, _⟩ | ⟨g', cap, cur, h1, _, h3, _, h5, h6, h7⟩
  · cases h1
  · simp only [Value.slice.injEq, Option.some.injEq, Addr.mk.injEq] at h1
    obtain ⟨⟨rfl, _⟩, h8, rfl⟩ := h1
    refine ⟨cur, h3, by omega, ?_⟩
    rw [Nat.mul_one, List.take_of_length_le (by rw [Array.length_toList, h6]; omega)] at h7
    exact h7
theorem Own.of_full {w : World} {base g n : Nat} {e : TypeId} {vs : List Value} (h : w.heap[g]? = some (.cells vs.toArray e (0, 0))) (hn : vs.length = n) (hb : base ≤ g) (hm : n ≤ 1099511627776) : Own w base e (.slice (some ⟨g, 0, none⟩) n n) vs :=
  ⟨by omega, .inr ⟨g, n, _, by rw [hn], hb, h, by omega, by unfold maxLen; omega, by simp [hn], by simp⟩⟩

theorem rep_prep {w w1 : World} {A : Option Addr} {xs : List Int} {c tot n0 : Nat} {L : List Value} (HR : Rd w A (ints xs)) (Htot : tot = xs.length * c) (hn1 : n0 ≤ tot) (hn2 : n0 ≤ xs.length) (HLd : L = (repl (ints xs) c).take n0) (hcl : L.length = n0)
    (ho : Own w1 w.heap.size 2 (.slice (some ⟨w.heap.size, 0, none⟩) tot tot) (List.replicate tot (.int .i64 0))) (hg : w.grownBy w1 none) :
    Hid (Below w.heap.size w w1) ∧ Hid (w1.heap[w.heap.size]? = some (.cells (List.replicate tot (Value.int .i64 0)).toArray 2 (0, 0))) ∧ Hid (0 < L.length → ∃ ad, A = some ad ∧ ∀ (j : Nat) (v : Value), L[j]? = some v → w1.cell? (ad.add j) = some v) := by
  have Bel : Below w.heap.size w w1 := bel_grown (Below.refl _ w) hg (Nat.le_refl _) (fun k e => by cases e)
  refine ⟨hidd Bel, hidd ?_, hidd fun hpos => ?_⟩
  · obtain ⟨cur, h3, h6, h7⟩ := ho.full
    rw [h3, ← h7]
  · rw [hcl] at hpos
    have hne : ints xs ≠ [] := fun e => by rw [← List.length_eq_zero_iff, ints_length] at e; omega
    obtain ⟨b, o, hA, hcc⟩ := (HR.below Bel).2 hne
    refine ⟨⟨b, o, none⟩, hA, fun j v hj => ?_⟩
    have ha : (⟨b, o, none⟩ : Addr).add j = ⟨b, o + j, none⟩ := by unfold Addr.add; split <;> simp_all
    rw [ha]
    rw [HLd, List.getElem?_take] at hj
    split at hj
    · rename_i hlt
      rw [repl_get (ints xs) c j (by rw [ints_length, ← Htot]; omega), ints_length, Nat.mod_eq_of_lt (by omega)] at hj
      exact hcc j v hj
    · cases hj
theorem repl_one (xs : List Int) (c : Nat) : ∀ v ∈ (repl (ints xs) c), v.oneCell' = true := fun v hv => by
  unfold repl at hv
  obtain ⟨l, hl1, hl2⟩ := List.mem_flatten.1 hv
  rw [List.mem_replicate] at hl1
  rw [hl1.2] at hl2
  exact ints_one xs v hl2

end Go.Proofs.YtighjpnjbgjgaaaDoor

/- Walks: PowerWord, of the program and of the reference. -/
namespace Go.Proofs.YtighjpnjbgjgaaaDoor
open Go.RowKit

theorem repl_ints (xs : List Int) (c : Nat) : repl (ints xs) c = ints (repl xs c) := by
  induction c with
  | zero => simp [repl, ints]
  | succ c ih => rw [repl_succ, repl_succ, ints_append, ih]
def powL (xs : List Int) (k : Int) : List Int := repl (if k < 0 then invW xs else xs) k.natAbs
section
variable {P : Program} {w : World} {ops : Array Oper} {rest : List Oper} {o : Oper} {a : Act} {Q : Exit → Act → World → Prop}
/-- append(v, src...), with the word on where the new slice lies. -/
theorem app_srcL (hgd : o.guard = none) (s x : Operand) (t : TypeId) (hop : o.op = .call { callee := .builtin .append, args := #[s, x], argTypes := #[t, t] }) (base : Nat) (e : TypeId) (z : Value) (bytes : Nat) (h1 : P.underlying t = some (.slice e))
    (hinfo : (P.info? e).map (fun i => (i.zero, i.size, i.bytes)) = some (some z, 1, bytes)) (hz : z.cells.size = 1) {v : Value} {vs us : List Value} {A : Option Addr} {n c : Nat} (hown : Own w base e v vs) (hr : Rd w A us) (hn : n = us.length) (hs : a.eval s = v) (hx : a.eval x = .slice A n c) (h1c : ∀ u ∈ us, u.oneCell' = true)
    (hnil : A = none → c = 0) (hlen : vs.length + us.length ≤ 1099511627776) (hby : bytes ≤ 64) (hbase : base ≤ w.heap.size)
    (hK : ∀ v' w', Own w' base e v' (vs ++ us) → w.grownBy w' v.ownBlock → Lies w.heap.size v v' → wpList P ops Q rest (a.put o.dst v') w') : wpList P ops Q (o :: rest) a w := by
  obtain ⟨i, hi, hz0, hz1, hz2⟩ := info_parts hinfo
  subst hn
  have hmul : (vs.length + us.length) * bytes ≤ 1099511627776 * 64 := Nat.mul_le_mul hlen hby
  cases A with
  | none =>
    have hu : us = [] := by
      apply Decidable.byContradiction
      intro hne
      obtain ⟨b, o, h, _⟩ := hr.2 hne
      cases h
    subst hu
    rw [hnil rfl] at hx
    refine wpList_append_own_none hgd s x t hop base e i 1 h1 hi v vs.length vs hs hown hx ?_
    exact hK v w (by rw [List.append_nil]; exact hown) (World.grownBy.refl _ _) (Lies.refl _ _)
  | some ad =>
    refine wpList_append_own_at _ hgd s x t hop base e i z 1 bytes h1 hi hz0 hz1 hz2 hz (by decide) v vs.length vs hs hown ad us.length c us hx (by omega) ?_ h1c (by unfold maxLen; omega) (by omega) hbase ?_
    · intro j u hj
      obtain ⟨b, o, hA, hc⟩ := hr.2 (fun e => by rw [e] at hj; simp at hj)
      cases hA
      have hadd : (⟨b, o, none⟩ : Addr).add j = ⟨b, o + j, none⟩ := by unfold Addr.add; split <;> simp_all
      rw [hadd]; exact hc j u hj
    · intro v' w' ho hg _ hat
      have ho' : Own w' base e v' (vs ++ us) := by unfold Own; rw [List.length_append]; exact ho
      refine hK v' w' ho' hg ?_
      rcases hat with h | h
      · exact .inl h
      · exact .inr ⟨_, h, Nat.le_refl _⟩
end
/-! ### PowerWord -/
def powR (m : Mc) (xs : List Int) (k : Int) : List Int × Int := if codeW m [xs] = 0 then (if -40 ≤ k ∧ k ≤ 40 then limR (powL xs k) else ([], 2)) else ([], 1)
theorem powR_len (m : Mc) (xs : List Int) (k : Int) : (powR m xs k).1.length ≤ 1048576 := by
  unfold powR
  split
  · split
    · exact limR_len _
    · exact Nat.zero_le _
  · exact Nat.zero_le _
end Go.Proofs.YtighjpnjbgjgaaaDoor

/- Walks: the trivial states, of the reference. -/
namespace Go.Proofs.YtighjpnjbgjgaaaDoor
open Go.RowKit

/-! ### An array of so many cells -/
def av (f : Nat → Value) (n : Nat) : Array Value := ((List.range n).map f).toArray
theorem av_size (f : Nat → Value) (n : Nat) : (av f n).size = n := by simp [av]
theorem av_get (f : Nat → Value) {n j : Nat} (h : j < n) : (av f n)[j]? = some (f j) := by simp [av, h]
theorem av_set (f : Nat → Value) (n q : Nat) (v : Value) : (av f n).setIfInBounds q v = av (fun j => if j = q then v else f j) n := by
  apply Array.ext_getElem?
  intro j
  by_cases hj : j < n
  · rw [av_get _ hj, Array.getElem?_setIfInBounds]
    by_cases e : q = j
    · subst e
      simp [av, hj]
    · rw [if_neg e, av_get _ hj, if_neg (fun h => e h.symm)]
  · rw [Array.getElem?_eq_none (by simp [av]; omega), Array.getElem?_eq_none (by simp [av]; omega)]
theorem av_congr {f f' : Nat → Value} {n : Nat} (h : ∀ j, j < n → f j = f' j) : av f n = av f' n := by
  unfold av
  congr 1
  exact List.map_congr_left fun j hj => h j (List.mem_range.1 hj)
theorem av_one {f : Nat → Value} {n : Nat} (h : ∀ j, (f j).oneCell' = true) : ∀ v ∈ (av f n).toList, v.oneCell' = true := by
  intro v hv
  simp [av] at hv
  obtain ⟨j, _, rfl⟩ := hv
  exact h j
def bv (F : Nat → Bool) (n : Nat) : Array Value := av (fun j => .bool (F j)) n
def upd (F : Nat → Bool) (q : Nat) (b : Bool) : Nat → Bool := fun j => if j = q then b else F j
theorem upd_same (F : Nat → Bool) (q : Nat) (b : Bool) : upd F q b q = b := by simp [upd]
theorem upd_ne (F : Nat → Bool) (b : Bool) {q j : Nat} (h : j ≠ q) : upd F q b j = F j := by simp [upd, h]
theorem bv_set (F : Nat → Bool) (n q : Nat) (b : Bool) : (bv F n).setIfInBounds q (.bool b) = bv (upd F q b) n := by
  unfold bv
  rw [av_set]
  refine av_congr fun j _ => ?_
  unfold upd
  split <;> rfl
theorem bv_get (F : Nat → Bool) {n j : Nat} (h : j < n) : (bv F n)[j]? = some (.bool (F j)) := av_get _ h

/-! ### Trivial states of a machine -/
def Gm.idr (g : Gm) (q : Nat) : Bool := (List.range g.l).all fun x => decide (g.ou q x = x)
def Gm.tv (g : Gm) : Nat → Nat → Bool := YtighjpnjbgjgaaaDoor.tv g.l g.nx g.idr
def Gm.tr (g : Gm) (q : Nat) : Bool := trv g.s g.l g.nx g.idr q
/-- The states that are trivial, as the array of the reference says. -/
def Gm.tr16 (g : Gm) (q : Nat) : Bool := decide (q < g.s) && g.tr q
theorem Gm.idr_iff (g : Gm) (q : Nat) : g.idr q = true ↔ ∀ x, x < g.l → g.ou q x = x := by simp [Gm.idr]

def TI (g : Gm) (r : Nat) (F : Nat → Bool) : Prop := (∀ j, g.s ≤ j → F j = false) ∧ (∀ q, q < g.s → g.tr q = true → F q = true) ∧ (∀ q, q < g.s → F q = true → ∀ j, j < r → g.tv j q = true)
def TQ (g : Gm) (r q : Nat) (F : Nat → Bool) : Prop := TI g r F ∧ ∀ p, p < q → F p = true → ∀ j, j < r + 1 → g.tv j p = true
def TX (g : Gm) (r q x : Nat) (F : Nat → Bool) : Prop := TQ g r q F ∧ (F q = true → ∀ y, y < x → g.ou q y = y ∧ ∀ j, j < r → g.tv j (g.nx q y) = true)
theorem TI.start (g : Gm) : TI g 0 (fun j => decide (j < g.s)) := ⟨fun j hj => by simp; omega, fun q hq _ => by simp [hq], fun q hq _ j hj => by omega⟩
theorem TI.row {g : Gm} {r : Nat} {F : Nat → Bool} (h : TI g r F) : TQ g r 0 F := ⟨h, fun p hp => by omega⟩
theorem TQ.row {g : Gm} {r q : Nat} {F : Nat → Bool} (h : TQ g r q F) : TX g r q 0 F := ⟨h, fun _ y hy => by omega⟩
theorem TX.step {g : Gm} (hok : g.Ok) {r q x : Nat} {F : Nat → Bool} (h : TX g r q x F) (hq : q < g.s) (hx : x < g.l) {b : Bool} (hb : b = (F q && (decide (g.ou q x = x) && F (g.nx q x)))) : TX g r q (x + 1) (upd F q b) := by
  obtain ⟨⟨⟨h1, h2, h3⟩, h4⟩, h5⟩ := h
  have hle : ∀ p, upd F q b p = true → F p = true := fun p hp => by
    by_cases e : p = q
    · subst e
      rw [upd_same, hb, Bool.and_eq_true] at hp
      exact hp.1
    · rwa [upd_ne F b e] at hp
  refine ⟨⟨⟨fun j hj => ?_, fun p hp ht => ?_, fun p hp hF => h3 p hp (hle p hF)⟩, fun p hp hF => ?_⟩, fun hF y hy => ?_⟩
  · rw [upd_ne F b (by omega)]; exact h1 j hj
  · by_cases e : p = q
    · subst e
      rw [upd_same, hb, h2 p hp ht, Bool.true_and, h2 _ (hok.nlt p x hp hx) (trv_next g.s hok.nlt hp hx ht), Bool.and_true]
      exact decide_eq_true ((g.idr_iff p).1 (trv_idr g.s ht) x hx)
    · rw [upd_ne F b e]; exact h2 p hp ht
  · exact h4 p hp (hle p hF)
  · rw [upd_same, hb] at hF
    simp only [Bool.and_eq_true, decide_eq_true_eq] at hF
    by_cases e : y < x
    · exact h5 hF.1 y e
    · obtain rfl : y = x := by omega
      exact ⟨hF.2.1, h3 _ (hok.nlt q y hq hx) hF.2.2⟩
theorem TX.row_end {g : Gm} {r q : Nat} {F : Nat → Bool} (h : TX g r q g.l F) (hq : q < g.s) : TQ g r (q + 1) F := by
  obtain ⟨h1, h2⟩ := h
  refine ⟨h1.1, fun p hp hF => ?_⟩
  by_cases e : p < q
  · exact h1.2 p e hF
  · obtain rfl : p = q := by omega
    have h3 := h2 hF
    intro j hj
    cases j with
    | zero => exact (g.idr_iff p).2 fun y hy => (h3 y hy).1
    | succ j => exact (tv_succ j p).2 ⟨h1.1.2.2 p hq hF j (by omega), fun y hy => (h3 y hy).2 j (by omega)⟩
theorem TQ.all {g : Gm} {r : Nat} {F : Nat → Bool} (h : TQ g r g.s F) : TI g (r + 1) F := ⟨h.1.1, h.1.2.1, fun q hq hF => h.2 q hq hF⟩
theorem TI.all {g : Gm} {F : Nat → Bool} (h : TI g (g.s + 1) F) : bv F 16 = bv g.tr16 16 := by
  refine av_congr fun j _ => ?_
  congr 1
  unfold Gm.tr16
  by_cases hj : j < g.s
  · rw [decide_eq_true hj, Bool.true_and, Bool.eq_iff_iff]
    exact ⟨fun hF => h.2.2 j hj hF g.s (Nat.lt_succ_self _), fun ht => h.2.1 j hj ht⟩
  · rw [decide_eq_false hj, Bool.false_and]
    exact h.1 j (by omega)

end Go.Proofs.YtighjpnjbgjgaaaDoor

/- Walks: TrivialStates, of the reference. -/
namespace Go.Proofs.YtighjpnjbgjgaaaDoor
open Go.RowKit

/-- The trivial states below k. -/
def Gm.trL (g : Gm) (k : Nat) : List Int := ((List.range k).filter g.tr).map fun (q : Nat) => (q : Int)
theorem Gm.trL_zero (g : Gm) : g.trL 0 = [] := rfl
theorem Gm.trL_yes (g : Gm) {k : Nat} (h : g.tr k = true) : ints (g.trL (k + 1)) = ints (g.trL k) ++ [.int .i64 k] := by simp [Gm.trL, List.range_succ, h, ints]
theorem Gm.trL_no (g : Gm) {k : Nat} (h : g.tr k = false) : g.trL (k + 1) = g.trL k := by simp [Gm.trL, List.range_succ, h]
theorem Gm.trL_len (g : Gm) (k : Nat) : (g.trL k).length ≤ k := by
  unfold Gm.trL
  rw [List.length_map]
  exact Nat.le_trans (List.length_filter_le _ _) (by simp)
theorem Mc.gm_or (m : Mc) : (m.ok = false) ∨ ∃ g : Gm, m = g.mc ∧ g.Ok := by
  cases h : m.ok with
  | false => exact .inl rfl
  | true => exact .inr (Mc.to_gm h)
def tsR (m : Mc) : List Int × Int := if m.ok then (m.gm.trL m.gm.s, 0) else ([], 1)
theorem tsR_len (m : Mc) : (tsR m).1.length ≤ 1048576 := by
  unfold tsR
  cases h : m.ok with
  | false => exact Nat.zero_le _
  | true =>
    obtain ⟨g, rfl, hok⟩ := Mc.to_gm h
    have := hok.s16
    have h2 := g.trL_len g.s
    show (g.trL g.s).length ≤ _
    omega

end Go.Proofs.YtighjpnjbgjgaaaDoor

/- Walks: the trivial states of a table, TrivialStates of the program. -/
namespace Go.Proofs.YtighjpnjbgjgaaaDoor
open Go.RowKit

def Gm.idrTo (g : Gm) (q x : Nat) : Bool := (List.range x).all fun y => decide (g.ou q y = y)
theorem Gm.idrTo_zero (g : Gm) (q : Nat) : g.idrTo q 0 = true := rfl
theorem Gm.idrTo_succ (g : Gm) (q x : Nat) : g.idrTo q (x + 1) = (g.idrTo q x && decide (g.ou q x = x)) := by simp [Gm.idrTo, List.range_succ]
theorem Gm.idrTo_all (g : Gm) (q : Nat) : g.idrTo q g.l = g.idr q := rfl
/-- The first rows' answers. -/
def Gm.idrs (g : Gm) (q : Nat) : Nat → Bool := fun j => decide (j < q) && g.idr j
theorem Gm.idrs_step (g : Gm) (q : Nat) : upd (g.idrs q) q (g.idr q) = g.idrs (q + 1) := by
  funext j
  unfold upd Gm.idrs
  by_cases e : j = q
  · subst e; simp
  · rw [if_neg e]
    congr 1
    rw [Bool.eq_iff_iff]
    simp only [decide_eq_true_eq]
    omega
theorem upd_upd (F : Nat → Bool) (q : Nat) (a b : Bool) : upd (upd F q a) q b = upd F q b := by
  funext j
  unfold upd
  split <;> rfl
theorem cnt_upd {F : Nat → Bool} {q n : Nat} (hq : q < n) (hF : F q = true) : cnt (upd F q false) n < cnt F n := by
  obtain ⟨a, b⟩ := cnt_mono (p := F) (p' := upd F q false) n (fun j _ h => by
    by_cases e : j = q
    · subst e; exact hF
    · rwa [upd_ne F false e] at h)
  rcases Nat.lt_or_ge (cnt (upd F q false) n) (cnt F n) with h | h
  · exact h
  · have := b (by omega) q hq
    rw [upd_same, hF] at this
    cases this
/-- What is kept: the trivial ones are in, and what is in keeps all letters. -/
def TS (g : Gm) (F : Nat → Bool) : Prop := (∀ q, q < g.s → g.tr q = true → F q = true) ∧ ∀ q, q < g.s → F q = true → g.idr q = true
theorem TS.start (g : Gm) : TS g (g.idrs g.s) := ⟨fun q hq ht => by unfold Gm.idrs; rw [decide_eq_true hq, Bool.true_and]; exact trv_idr g.s ht, fun q hq h => by unfold Gm.idrs at h; rw [Bool.and_eq_true] at h; exact h.2⟩
def Shut' (g : Gm) (F : Nat → Bool) (q : Nat) : Prop := ∀ p, p < q → F p = true → ∀ x, x < g.l → F (g.nx p x) = true
theorem TS.all {g : Gm} (hok : g.Ok) {F : Nat → Bool} (h : TS g F) (hs : Shut' g F g.s) : bv F g.s = bv g.tr g.s := by
  refine av_congr fun j hj => ?_
  congr 1
  rw [Bool.eq_iff_iff]
  exact ⟨fun hF => trv_of_closed g.s F h.2 (fun q x hq hx hF => hs q hq hF x hx) hok.nlt g.s j hj hF, h.1 j hj⟩
theorem TS.drop {g : Gm} (hok : g.Ok) {F : Nat → Bool} (h : TS g F) {q : Nat} (hq : q < g.s) (hx : (List.range g.l).any (fun x => !F (g.nx q x)) = true) : TS g (upd F q false) := by
  refine ⟨fun p hp ht => ?_, fun p hp hF => ?_⟩
  · by_cases e : p = q
    · subst e
      rw [List.any_eq_true] at hx
      obtain ⟨x, hx1, hx2⟩ := hx
      rw [h.1 _ (hok.nlt p x hp (List.mem_range.1 hx1)) (trv_next g.s hok.nlt hp (List.mem_range.1 hx1) ht)] at hx2
      cases hx2
    · rw [upd_ne F false e]; exact h.1 p hp ht
  · by_cases e : p = q
    · subst e; rw [upd_same] at hF; cases hF
    · rw [upd_ne F false e] at hF; exact h.2 p hp hF
theorem Shut'.step_no {g : Gm} {F : Nat → Bool} {q : Nat} (h : Shut' g F q) (hF : F q = false) : Shut' g F (q + 1) := fun p hp hp2 => by
  by_cases e : p = q
  · subst e; rw [hF] at hp2; cases hp2
  · exact h p (by omega) hp2
theorem Shut'.step_yes {g : Gm} {F : Nat → Bool} {q : Nat} (h : Shut' g F q) (hx : (List.range g.l).any (fun x => !F (g.nx q x)) = false) : Shut' g F (q + 1) := fun p hp hp2 x hxl => by
  by_cases e : p = q
  · subst e
    rw [List.any_eq_false] at hx
    have := hx x (List.mem_range.2 hxl)
    simpa using this
  · exact h p (by omega) hp2 x hxl
def bN : Value → Nat
  | .bool true => 1
  | _ => 0
open Classical in
/-- How many cells of a block hold true. -/
noncomputable def cntW (B n : Nat) (w : World) : Nat := cnt (fun j => decide (w.cell? ⟨B, j, none⟩ = some (.bool true))) n
theorem cnt_congr {p p' : Nat → Bool} (n : Nat) (h : ∀ j, j < n → p j = p' j) : cnt p n = cnt p' n := by
  induction n with
  | zero => rfl
  | succ n ih => unfold cnt; rw [ih (fun j hj => h j (by omega)), h n (by omega)]
theorem cntW_eq {B n : Nat} {w : World} {F : Nat → Bool} {t : TypeId} (h : w.heap[B]? = some (.cells (bv F n) t (0, 0))) : cntW B n w = cnt F n := by
  unfold cntW
  refine cnt_congr n fun j hj => ?_
  rw [blkc h, bv_get F hj]
  cases F j <;> simp

theorem info_bool : (Tryd.prog.info? 4).map (fun i => (i.zero, i.size, i.bytes)) = some (some (.bool false), 1, 1) := by kernel_rfl

end Go.Proofs.YtighjpnjbgjgaaaDoor

/- Walks: TrivialStates of the program. -/
namespace Go.Proofs.YtighjpnjbgjgaaaDoor
open Go.RowKit
end Go.Proofs.YtighjpnjbgjgaaaDoor

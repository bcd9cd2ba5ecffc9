/- Small texts of the walks under one roof. -/
import Derived.Test.YtighjpnjbgjgaaaDoorProg
import Derived.WalkKit
import Derived.Below
import Derived.KernelRfl
import Derived.Handy
import Derived.Laws.CopyOwn
import Derived.Deep.Draws
import Derived.BigQuiet
import Derived.Deep.QuietTactic
import Derived.OwnWalk
import Derived.WalkSmall
import Derived.Laws.BytesArg
import Derived.Shelf.Abstract
import Derived.BigRegion
import Derived.Deep.RegionWith
/- Words of the walks: small facts on worlds, blocks of cells and stores at a place of a block; nothing of the program. -/
namespace Go.Proofs.YtighjpnjbgjgaaaDoor
open Go.RowKit

theorem hidd {p : Prop} (h : p) : Hid p := h
theorem blkc {w : World} {g : Nat} {t : TypeId} {cs : Array Value} {fr : Nat × Nat} (h : w.heap[g]? = some (.cells cs t fr)) (i : Nat) : w.cell? ⟨g, i, none⟩ = cs[i]? := cell_of_row w g i cs t fr h
theorem blkf {w : World} {g : Nat} {t : TypeId} {cs : Array Value} (h : w.heap[g]? = some (.cells cs t (0, 0))) (i : Nat) : w.frozen? ⟨g, i, none⟩ = false := by simp [World.frozen?, h]
theorem hpA (w : World) (o : Obj) (k : Nat) : (w.alloc o).heap[k]? = if k = w.heap.size then some o else w.heap[k]? := by
  show (w.heap.push o)[k]? = _
  rw [Array.getElem?_push]
theorem hp_new {w : World} {o : Obj} {k : Nat} (hk : k = w.heap.size) : (w.alloc o).heap[k]? = some o := by rw [hpA, if_pos hk]
theorem hp_old {w : World} {o x : Obj} {k : Nat} (h : w.heap[k]? = some x) : (w.alloc o).heap[k]? = some x := by
  rw [hpA, if_neg (fun e => by rw [e] at h; simp at h)]; exact h
theorem hp_lt {w : World} {k : Nat} {x : Obj} (h : w.heap[k]? = some x) : k < w.heap.size := (Array.getElem?_eq_some_iff.1 h).1
theorem hp_bel {w w1 : World} {k : Nat} {x : Obj} (h : w.heap[k]? = some x) (hb : Below w.heap.size w w1) : w1.heap[k]? = some x := (hb.block k (hp_lt h)).trans h
theorem hp_set {w : World} {g : Nat} {t : TypeId} {cs : Array Value} (h : w.heap[g]? = some (.cells cs t (0, 0))) (i : Nat) (u : Value) : (w.setCell ⟨g, i, none⟩ u).heap[g]? = some (.cells (cs.setIfInBounds i u) t (0, 0)) := heap_setCell_same w g i cs t u h
theorem hp_far {w : World} {g : Nat} {x : Obj} (h : w.heap[g]? = some x) {p : Addr} (hp : g ≠ p.block) (u : Value) : (w.setCell p u).heap[g]? = some x := (Below.heap_setCell w p u g hp).trans h
theorem hp_row {w : World} {g g' : Nat} {x : Obj} (h : w.heap[g]? = some x) (hp : g ≠ g') (cs : Array Value) : (w.setRow g' cs).heap[g]? = some x := (setRow_other w g' g cs hp).trans h
theorem bel_row {B : Nat} {a w : World} (h : Below B a w) {g : Nat} (hg : B ≤ g) (cs : Array Value) : Below B a (w.setRow g cs) :=
  h.trans ⟨rfl, rfl, rfl, by simp [World.setRow], fun k hk => setRow_other w g k cs (by omega)⟩
/-- A step behind another one, both below the first block of the call's own. -/
theorem bel_then {w w1 w2 : World} (h : Below w.heap.size w w1) (k : Below w1.heap.size w1 w2) : Below w.heap.size w w2 := h.trans (k.mono h.size)
/-- A block that is laid. -/
theorem bel_alloc' (w : World) (o : Obj) : Below w.heap.size w (w.alloc o) := (Below.refl _ _).alloc (Nat.le_refl _) _
theorem bel_drewN {B : Nat} {a w : World} (h : Below B a w) (n : Nat) : Below B a (w.drewN n) := ⟨h.os, h.tape, h.output, h.size, h.block⟩

/-- Cells of a block with some of them, from place o on, written anew. -/
def splice (cs : Array Value) (o : Nat) (vs : Array Value) : Array Value := (cs.toList.take o ++ vs.toList ++ cs.toList.drop (o + vs.size)).toArray
theorem splice_size (cs : Array Value) (o : Nat) (vs : Array Value) (h : o + vs.size ≤ cs.size) : (splice cs o vs).size = cs.size := by
  simp [splice]; omega
theorem splice_get (cs : Array Value) (o : Nat) (vs : Array Value) (h : o + vs.size ≤ cs.size) (j : Nat) : (splice cs o vs)[j]? = if o ≤ j ∧ j < o + vs.size then vs[j - o]? else cs[j]? := by
  unfold splice
  rw [List.getElem?_toArray, List.getElem?_append, List.getElem?_append]
  simp only [List.length_append, List.length_take, Array.length_toList, List.getElem?_drop, List.getElem?_take, Array.getElem?_toList]
  have e : min o cs.size = o := by omega
  rw [e]
  by_cases h1 : j < o
  · rw [if_pos (by omega), if_pos h1, if_pos h1, if_neg (by omega)]
  · by_cases h2 : j < o + vs.size
    · rw [if_pos h2, if_neg h1, if_pos ⟨by omega, h2⟩]
    · rw [if_neg h2, if_neg (by omega)]
      congr 1
      omega

section
variable {P : Program}

theorem run_loadVar_at (w : World) (g off n : Nat) (t ty : TypeId) (cs : Array Value) (fr : Nat × Nat) (d : TypeDesc) (hg : w.heap[g]? = some (.cells cs t fr))
    (hu : P.underlying ty = some d) (hd : (match d with | .struct _ | .array _ _ => true | _ => false) = true) (hi : (P.info? ty).map (·.size) = some n) (hn : off + n ≤ cs.size) :
    (loadVar ty ⟨g, off, none⟩).run P w = .ok (.agg (cs.extract off (off + n))) w := by
  have hsz : (cs.extract off (off + n)).toList.length = n := by simp; omega
  have hl : (loadCells ⟨g, off, none⟩ (cs.extract off (off + n)).toList.length).run P w = .ok (cs.extract off (off + n)).toList.toArray w :=
    run_loadCells_list (P := P) w ⟨g, off, none⟩ (cs.extract off (off + n)).toList (fun j v hv => by
      have hadd : (⟨g, off, none⟩ : Addr).add j = ⟨g, off + j, none⟩ := by unfold Addr.add; split <;> simp_all
      rw [hadd, cell_of_row w g _ cs t fr hg]
      have hj : j < n := by
        have := (List.getElem?_eq_some_iff.1 hv).1
        omega
      rw [Array.getElem?_toList, Array.getElem?_extract] at hv
      rw [if_pos (by omega)] at hv
      exact hv)
  cases hq : P.info? ty with
  | none => simp [hq] at hi
  | some i =>
    have hs : i.size = n := by simpa [hq] using hi
    have hagg : (isAgg ty).run P w = .ok true w := by
      unfold isAgg
      rw [Sem.run_bind, run_underlying hu w]
      cases d <;> simp_all
    rw [hsz] at hl
    simp only [Array.toArray_toList] at hl
    simp [loadVar, Sem.run_bind, hagg, sizeOf, typeInfo, hq, hs, hl]

/-- A struct or array is read out of the middle of a block. -/
theorem wpList_load_at {ops : Array Oper} {rest : List Oper} {o : Oper} {a : Act} {w : World} {Q : Exit → Act → World → Prop} (hgd : o.guard = none) (ty : TypeId) (x : Operand) (ho : o.op = .load ty x)
    (g off n : Nat) (hx : a.eval x = .pointer (some ⟨g, off, none⟩)) (t : TypeId) (cs : Array Value) (fr : Nat × Nat) (d : TypeDesc) (hg : w.heap[g]? = some (.cells cs t fr))
    (hu : P.underlying ty = some d) (hd : (match d with | .struct _ | .array _ _ => true | _ => false) = true) (hi : (P.info? ty).map (·.size) = some n) (hn : off + n ≤ cs.size)
    (h : wpList P ops Q rest (a.put o.dst (.agg (cs.extract off (off + n)))) w) : wpList P ops Q (o :: rest) a w :=
  wpList_plain hgd fun _ hK => by
    unfold Oper.wp execOp
    simp only [ho, hx, Instr.loadAt, Instr.sureAddr, Sem.run_bind, Sem.run_pure, Result.andThen_ok, run_loadVar_at w g off n t ty cs fr d hg hu hd hi hn]
    exact hK _ _ h

theorem run_storeVar_at (w : World) (g off n : Nat) (t ty : TypeId) (old vs : Array Value) (hg : w.heap[g]? = some (.cells old t (0, 0))) (hi : (P.info? ty).map (·.size) = some n)
    (hv : vs.size = n) (ho : off + n ≤ old.size) (h1 : ∀ v ∈ vs.toList, v.oneCell' = true) :
    (storeVar ty ⟨g, off, none⟩ (.agg vs)).run P w = .ok () (w.setRow g (splice old off vs)) := by
  have := run_storeCells_at (P := P) g off t vs.toList 0 old w hg (by simp; omega) h1
  cases hq : P.info? ty with
  | none => simp [hq] at hi
  | some i =>
    have hs : vs.size = i.size := by simp [hq] at hi; omega
    simp only [Nat.add_zero, Array.length_toList] at this
    simp [storeVar, sizeOf, typeInfo, hq, Value.cells, hs, this, splice]

/-- The same of an operation that may be guarded. -/
theorem wpList_load_at_g {ops : Array Oper} {rest : List Oper} {o : Oper} {a : Act} {w : World} {Q : Exit → Act → World → Prop} (hw : Region.wanted o (yielded ops a.tmps) = true) (ty : TypeId) (x : Operand) (ho : o.op = .load ty x)
    (g off n : Nat) (hx : a.eval x = .pointer (some ⟨g, off, none⟩)) (t : TypeId) (cs : Array Value) (fr : Nat × Nat) (d : TypeDesc) (hg : w.heap[g]? = some (.cells cs t fr))
    (hu : P.underlying ty = some d) (hd : (match d with | .struct _ | .array _ _ => true | _ => false) = true) (hi : (P.info? ty).map (·.size) = some n) (hn : off + n ≤ cs.size)
    (h : wpList P ops Q rest (a.put o.dst (.agg (cs.extract off (off + n)))) w) : wpList P ops Q (o :: rest) a w :=
  wpList_step fun _ hK => by
    rw [if_pos hw]
    unfold Oper.wp execOp
    simp only [ho, hx, Instr.loadAt, Instr.sureAddr, Sem.run_bind, Sem.run_pure, Result.andThen_ok, run_loadVar_at w g off n t ty cs fr d hg hu hd hi hn]
    exact hK _ _ h

/-- A struct or array is written into the middle of a block. -/
theorem wpList_store_at {ops : Array Oper} {rest : List Oper} {o : Oper} {a : Act} {w : World} {Q : Exit → Act → World → Prop} (hgd : o.guard = none) (ty : TypeId) (x y : Operand) (ho : o.op = .store ty x y)
    (g off n : Nat) (vs : Array Value) (hx : a.eval x = .pointer (some ⟨g, off, none⟩)) (hy : a.eval y = .agg vs)
    (t : TypeId) (old : Array Value) (hg : w.heap[g]? = some (.cells old t (0, 0))) (hi : (P.info? ty).map (·.size) = some n)
    (hv : vs.size = n) (hold : off + n ≤ old.size) (h1 : ∀ v ∈ vs.toList, v.oneCell' = true)
    (h : wpList P ops Q rest (a.put o.dst undef) (w.setRow g (splice old off vs))) : wpList P ops Q (o :: rest) a w :=
  wpList_plain hgd fun _ hK => by
    unfold Oper.wp execOp
    simp only [ho, hx, hy, Instr.storeAt, Instr.sureAddr, Sem.run_bind, Sem.run_pure, Result.andThen_ok, run_storeVar_at w g off n t ty old vs hg hi hv hold h1]
    exact hK _ _ h
end
end Go.Proofs.YtighjpnjbgjgaaaDoor

/- Walks: small callees; words of the walks. -/
namespace Go.Proofs.YtighjpnjbgjgaaaDoor
open Go.RowKit

theorem ret_b {a b : Bool} (h : a = b) : Ending.returned (.bool a) = .returned (.bool b) := by rw [h]
theorem ret_i {k : IntKind} {a b : Int} (h : a = b) : Ending.returned (.int k a) = .returned (.int k b) := by rw [h]
theorem within_yes (n a b : Int) (w : World) (h1 : a ≤ n) (h2 : n ≤ b) : Calls Tryd.prog 18 #[.int .i64 n, .int .i64 a, .int .i64 b] w fun e w' => e = .returned (.bool true) ∧ w = w' := by
  go_enter Tryd.func18, Tryd.ntmps18
  go_wp2
  go_ret
  exact ⟨rfl, rfl⟩
theorem within_no (n a b : Int) (w : World) (h : n < a ∨ b < n) : Calls Tryd.prog 18 #[.int .i64 n, .int .i64 a, .int .i64 b] w fun e w' => e = .returned (.bool false) ∧ w = w' := by
  by_cases h1 : a ≤ n
  · have h2 : ¬ n ≤ b := by omega
    go_enter Tryd.func18, Tryd.ntmps18
    go_wp2
    go_ret
    exact ⟨rfl, rfl⟩
  · go_enter Tryd.func18, Tryd.ntmps18
    go_wp2
    go_ret
    exact ⟨rfl, rfl⟩
theorem areLetters_yes (n : Int) (w : World) (h1 : 2 ≤ n) (h2 : n ≤ 3) : Calls Tryd.prog 17 #[.int .i64 n] w fun e w' => e = .returned (.bool true) ∧ w = w' := by
  go_enter Tryd.func17, Tryd.ntmps17
  go_wp2_with (go_at_call 18; refine (within_yes _ _ _ _ (by omega) (by omega)).mono ?_; rintro e w1 ⟨rfl, rfl⟩)
  go_ret
  exact ⟨rfl, rfl⟩
theorem areLetters_no (n : Int) (w : World) (h : n < 2 ∨ 3 < n) : Calls Tryd.prog 17 #[.int .i64 n] w fun e w' => e = .returned (.bool false) ∧ w = w' := by
  go_enter Tryd.func17, Tryd.ntmps17
  go_wp2_with (go_at_call 18; refine (within_no _ _ _ _ (by omega)).mono ?_; rintro e w1 ⟨rfl, rfl⟩)
  go_ret
  exact ⟨rfl, rfl⟩

theorem l01In_yes (n a b : Int) (w : World) (h1 : a ≤ n) (h2 : n ≤ b) : Calls Tryd.prog 24 #[.int .i64 n, .int .i64 a, .int .i64 b] w fun e w' => e = .returned (.bool true) ∧ w = w' := by
  go_enter Tryd.func24, Tryd.ntmps24
  go_wp2
  go_ret
  exact ⟨rfl, rfl⟩
theorem l01In_no (n a b : Int) (w : World) (h : n < a ∨ b < n) : Calls Tryd.prog 24 #[.int .i64 n, .int .i64 a, .int .i64 b] w fun e w' => e = .returned (.bool false) ∧ w = w' := by
  by_cases h1 : a ≤ n
  · have h2 : ¬ n ≤ b := by omega
    go_enter Tryd.func24, Tryd.ntmps24
    go_wp2
    go_ret
    exact ⟨rfl, rfl⟩
  · go_enter Tryd.func24, Tryd.ntmps24
    go_wp2
    go_ret
    exact ⟨rfl, rfl⟩
theorem getD_lt {α : Type} {l : List α} {j : Nat} (d : α) (hj : j < l.length) : l.getD j d = l[j] := by rw [List.getD_eq_getElem?_getD, List.getElem?_eq_getElem hj, Option.getD_some]
end Go.Proofs.YtighjpnjbgjgaaaDoor

/- Words of the walks: a machine as a Lean structure, how it lies in memory and in a value; small facts on worlds. -/
namespace Go.Proofs.YtighjpnjbgjgaaaDoor
open Go.RowKit

/-- A machine: letters, states, and for each state and letter where it goes on and what it puts out. -/
structure Mc where
  L : Int
  S : Int
  nx : Nat → Nat → Nat
  ou : Nat → Nat → Nat

/-- The cells of a machine as a value. -/
structure Mc.Is (m : Mc) (cs : Array Value) : Prop where
  size : cs.size = 98
  l : cs[0]? = some (.int .i64 m.L)
  s : cs[1]? = some (.int .i64 m.S)
  n : ∀ q x, q < 16 → x < 3 → cs[2 + q * 3 + x]? = some (.int .u8 (m.nx q x))
  o : ∀ q x, q < 16 → x < 3 → cs[50 + q * 3 + x]? = some (.int .u8 (m.ou q x))
  nb : ∀ q x, q < 16 → x < 3 → m.nx q x < 256
  ob : ∀ q x, q < 16 → x < 3 → m.ou q x < 256
  lw : (Lit.int .i64 m.L).wf = true
  sw : (Lit.int .i64 m.S).wf = true

/-- A machine lies in memory from cell o of block b on. -/
structure Mc.At (m : Mc) (w : World) (b o : Nat) : Prop where
  l : w.cell? ⟨b, o, none⟩ = some (.int .i64 m.L)
  s : w.cell? ⟨b, o + 1, none⟩ = some (.int .i64 m.S)
  n : ∀ q x, q < 16 → x < 3 → w.cell? ⟨b, o + 2 + q * 3 + x, none⟩ = some (.int .u8 (m.nx q x))
  o : ∀ q x, q < 16 → x < 3 → w.cell? ⟨b, o + 50 + q * 3 + x, none⟩ = some (.int .u8 (m.ou q x))
  nb : ∀ q x, q < 16 → x < 3 → m.nx q x < 256
  ob : ∀ q x, q < 16 → x < 3 → m.ou q x < 256
  lw : (Lit.int .i64 m.L).wf = true
  sw : (Lit.int .i64 m.S).wf = true

theorem Mc.At.below {m : Mc} {w w' : World} {b o : Nat} (h : m.At w b o) (hb : Below w.heap.size w w') : m.At w' b o := by
  have hlt : b < w.heap.size := World.block_lt_of_cell? w _ h.l
  have k : ∀ i, w'.cell? ⟨b, i, none⟩ = w.cell? ⟨b, i, none⟩ := fun i => hb.cell (p := ⟨b, i, none⟩) hlt
  exact ⟨by rw [k]; exact h.l, by rw [k]; exact h.s, fun q x hq hx => by rw [k]; exact h.n q x hq hx, fun q x hq hx => by rw [k]; exact h.o q x hq hx, h.nb, h.ob, h.lw, h.sw⟩

theorem Mc.At.of_is {m : Mc} {cs : Array Value} (h : m.Is cs) {w : World} {b : Nat} {t : TypeId} {fr : Nat × Nat} (hb : w.heap[b]? = some (.cells cs t fr)) : m.At w b 0 := by
  have k : ∀ i, w.cell? ⟨b, i, none⟩ = cs[i]? := fun i => cell_of_row w b i cs t fr hb
  exact ⟨by rw [k]; exact h.l, by rw [k]; exact h.s, fun q x hq hx => by rw [k, Nat.zero_add]; exact h.n q x hq hx, fun q x hq hx => by rw [k, Nat.zero_add]; exact h.o q x hq hx, h.nb, h.ob, h.lw, h.sw⟩

theorem Mc.At.n0 {m : Mc} {w : World} {b : Nat} (h : m.At w b 0) (q x : Nat) (hq : q < 16) (hx : x < 3) : w.cell? ⟨b, 2 + q * 3 + x, none⟩ = some (.int .u8 (m.nx q x)) := by
  have := h.n q x hq hx
  rwa [Nat.zero_add] at this
theorem Mc.At.o0 {m : Mc} {w : World} {b : Nat} (h : m.At w b 0) (q x : Nat) (hq : q < 16) (hx : x < 3) : w.cell? ⟨b, 50 + q * 3 + x, none⟩ = some (.int .u8 (m.ou q x)) := by
  have := h.o q x hq hx
  rwa [Nat.zero_add] at this

/-- One entry is right, the ones ahead of it in the row being right. -/
def Mc.entryOk (m : Mc) (q x : Nat) : Bool :=
  if m.S ≤ q ∨ m.L ≤ x then decide (m.nx q x = 0) && decide (m.ou q x = 0)
  else decide ((m.nx q x : Int) < m.S) && decide ((m.ou q x : Int) < m.L) && (List.range x).all fun y => decide (m.ou q y ≠ m.ou q x)
def Mc.rowOk (m : Mc) (q : Nat) : Bool := (List.range 3).all (m.entryOk q)
def Mc.ok (m : Mc) : Bool := decide (2 ≤ m.L ∧ m.L ≤ 3) && decide (1 ≤ m.S ∧ m.S ≤ 16) && (List.range 16).all m.rowOk

section
variable {ops : Array Oper} {rest : List Oper} {o : Oper} {a : Act} {w : World} {Q : Exit → Act → World → Prop}
/-- A whole machine is read out of a variable. -/
theorem ldI (hw : Region.wanted o (yielded ops a.tmps) = true) (x : Operand) (ho : o.op = .load 25 x) (g : Nat) (hx : a.eval x = .pointer (some ⟨g, 0, none⟩)) {m : Mc} {cs : Array Value} (hm : m.Is cs) {t : TypeId} {fr : Nat × Nat}
    (hg : w.heap[g]? = some (.cells cs t fr)) (h : wpList Tryd.prog ops Q rest (a.put o.dst (.agg cs)) w) : wpList Tryd.prog ops Q (o :: rest) a w := by
  have e : cs.extract 0 (0 + 98) = cs := by rw [← hm.size]; simp
  refine wpList_load_at_g hw 25 x ho g 0 98 hx t cs fr _ hg Tryd.underlying25 rfl (by kernel_rfl) (by rw [hm.size]; omega) ?_
  rw [e]; exact h
end
end Go.Proofs.YtighjpnjbgjgaaaDoor

/- Walks: IsMachine of the program and of the reference both tell Mc.ok. -/
namespace Go.Proofs.YtighjpnjbgjgaaaDoor
open Go.RowKit

/-- The letters that the entries ahead put out, as bits. -/
def Mc.seen (m : Mc) (q : Nat) : Nat → Nat
  | 0 => 0
  | k + 1 => if (q : Int) < m.S ∧ (k : Int) < m.L then m.seen q k ||| 2 ^ m.ou q k else m.seen q k

theorem Mc.seen_bit (m : Mc) (q : Nat) (v : Nat) : ∀ k, (m.seen q k).testBit v = decide (∃ y, y < k ∧ (q : Int) < m.S ∧ (y : Int) < m.L ∧ m.ou q y = v)
  | 0 => by simp [Mc.seen]
  | k + 1 => by
    have ih := Mc.seen_bit m q v k
    unfold Mc.seen
    by_cases h : (q : Int) < m.S ∧ (k : Int) < m.L
    · rw [if_pos h, Nat.testBit_or, ih, Nat.testBit_two_pow, ← Bool.decide_or]
      congr 1
      apply propext
      constructor
      · rintro (⟨y, h1, h2⟩ | h1)
        · exact ⟨y, by omega, h2⟩
        · exact ⟨k, by omega, h.1, h.2, h1⟩
      · rintro ⟨y, h1, h2, h3, h4⟩
        by_cases e : y = k
        · subst e; exact .inr h4
        · exact .inl ⟨y, by omega, h2, h3, h4⟩
    · rw [if_neg h, ih]
      congr 1
      apply propext
      constructor
      · rintro ⟨y, h1, h2⟩; exact ⟨y, by omega, h2⟩
      · rintro ⟨y, h1, h2, h3, h4⟩
        by_cases e : y = k
        · subst e; exact absurd ⟨h2, h3⟩ h
        · exact ⟨y, by omega, h2, h3, h4⟩

theorem Mc.entry_iff (m : Mc) (q k : Nat) : m.entryOk q k = true ↔
    if m.S ≤ q ∨ m.L ≤ k then m.nx q k = 0 ∧ m.ou q k = 0 else (m.nx q k : Int) < m.S ∧ (m.ou q k : Int) < m.L ∧ ∀ y, y < k → m.ou q y ≠ m.ou q k := by
  unfold Mc.entryOk
  split <;> simp [and_assoc]

theorem Mc.seen_lt (m : Mc) (q : Nat) (hL3 : m.L ≤ 3) : ∀ k, (∀ x, x < k → m.entryOk q x = true) → m.seen q k < 8
  | 0, _ => by simp [Mc.seen]
  | k + 1, h => by
    have ih := Mc.seen_lt m q hL3 k (fun x hx => h x (by omega))
    unfold Mc.seen
    split
    · rename_i hc
      have he := (m.entry_iff q k).1 (h k (by omega))
      rw [if_neg (by omega)] at he
      have ho : m.ou q k < 3 := by omega
      have h8 : 2 ^ m.ou q k < 2 ^ 3 := Nat.pow_lt_pow_right (by omega) ho
      exact Nat.or_lt_two_pow (n := 3) ih h8
    · exact ih

theorem bits_and8 : ∀ s, s < 8 → ∀ v, v < 3 → (bits BinOp.and IntKind.i64 ((s : Nat) / 2 ^ v : Int) 1 == 1) = s.testBit v := by decide
theorem bits_or8 : ∀ s, s < 8 → ∀ v, v < 3 → bits BinOp.or IntKind.i64 ((s : Nat) : Int) (wrap64 (2 ^ v)) = ((s ||| 2 ^ v : Nat) : Int) := by decide +kernel

section
variable {m : Mc} {q k : Nat}
theorem Mc.e1 (h : m.S ≤ q ∨ m.L ≤ k) (_ : m.nx q k = 0) (h2 : ((m.ou q k : Int) != 0) = true) : m.entryOk q k = false := by
  rw [Bool.eq_false_iff]
  intro hc
  have := (m.entry_iff q k).1 hc
  rw [if_pos h] at this
  simp [this.2] at h2
theorem Mc.e2 (h : m.S ≤ q ∨ m.L ≤ k) (h1 : m.nx q k = 0) (h2 : ((m.ou q k : Int) != 0) = false) : m.entryOk q k = true := by
  rw [Mc.entry_iff, if_pos h]
  exact ⟨h1, by simpa using h2⟩
theorem Mc.e3 (h : m.S ≤ q ∨ m.L ≤ k) (h1 : ¬ m.nx q k = 0) : m.entryOk q k = false := by
  rw [Bool.eq_false_iff]
  intro hc
  have := (m.entry_iff q k).1 hc
  rw [if_pos h] at this
  exact h1 this.1
theorem Mc.e7 (h : (q : Int) < m.S ∧ (k : Int) < m.L) (h1 : m.S ≤ m.nx q k) : m.entryOk q k = false := by
  rw [Bool.eq_false_iff]
  intro hc
  have := (m.entry_iff q k).1 hc
  rw [if_neg (by omega)] at this
  omega
theorem Mc.e6 (h : (q : Int) < m.S ∧ (k : Int) < m.L) (h1 : m.L ≤ m.ou q k) : m.entryOk q k = false := by
  rw [Bool.eq_false_iff]
  intro hc
  have := (m.entry_iff q k).1 hc
  rw [if_neg (by omega)] at this
  omega
theorem Mc.e_bit (hL3 : m.L ≤ 3) (hp : ∀ x, x < k → m.entryOk q x = true) (h : (q : Int) < m.S ∧ (k : Int) < m.L) (h1 : (m.nx q k : Int) < m.S) (h2 : (m.ou q k : Int) < m.L) :
    m.entryOk q k = !(bits BinOp.and IntKind.i64 ((m.seen q k : Int) / 2 ^ m.ou q k) 1 == 1) := by
  have b := bits_and8 (m.seen q k) (m.seen_lt q hL3 k hp) (m.ou q k) (by omega)
  rw [b, Mc.seen_bit, Bool.eq_iff_iff, Mc.entry_iff, if_neg (by omega)]
  simp only [Bool.not_eq_true', decide_eq_false_iff_not]
  constructor
  · rintro ⟨_, _, h3⟩ ⟨y, hy, _, _, e⟩
    exact h3 y hy e
  · intro h3
    exact ⟨h1, h2, fun y hy e => h3 ⟨y, hy, h.1, by omega, e⟩⟩
theorem Mc.e4 (hL3 : m.L ≤ 3) (hp : ∀ x, x < k → m.entryOk q x = true) (h : (q : Int) < m.S ∧ (k : Int) < m.L) (h1 : (m.nx q k : Int) < m.S) (h2 : (m.ou q k : Int) < m.L)
    (h3 : (m.S ≤ m.nx q k ∨ m.L ≤ m.ou q k) ∨ (bits BinOp.and IntKind.i64 ((m.seen q k : Int) / 2 ^ m.ou q k) 1 == 1) = true) : m.entryOk q k = false := by
  rw [Mc.e_bit hL3 hp h h1 h2]
  rcases h3 with h3 | h3
  · omega
  · rw [h3]; rfl
theorem Mc.e5 (hL3 : m.L ≤ 3) (hp : ∀ x, x < k → m.entryOk q x = true) (h : (q : Int) < m.S ∧ (k : Int) < m.L) (h1 : (m.nx q k : Int) < m.S) (h2 : (m.ou q k : Int) < m.L)
    (h3 : ((m.nx q k : Int) < m.S ∧ (m.ou q k : Int) < m.L) ∧ (bits BinOp.and IntKind.i64 ((m.seen q k : Int) / 2 ^ m.ou q k) 1 == 1) = false) : m.entryOk q k = true := by
  rw [Mc.e_bit hL3 hp h h1 h2, h3.2]; rfl
theorem Mc.s1 (h : m.S ≤ q ∨ m.L ≤ k) : (m.seen q (k + 1) : Int) = m.seen q k := by
  rw [Mc.seen, if_neg (by omega)]
theorem Mc.s2 (hL3 : m.L ≤ 3) (hp : ∀ x, x < k → m.entryOk q x = true) (h : (q : Int) < m.S ∧ (k : Int) < m.L) (h2 : (m.ou q k : Int) < m.L) :
    bits BinOp.or IntKind.i64 (m.seen q k) (wrap64 (2 ^ m.ou q k)) = (m.seen q (k + 1) : Int) := by
  rw [bits_or8 _ (m.seen_lt q hL3 k hp) _ (by omega), Mc.seen, if_pos h]
theorem Mc.row_false (hk : k < 3) (h : m.entryOk q k = false) : m.rowOk q = false := by
  rw [Bool.eq_false_iff]
  intro hc
  have := List.all_eq_true.1 hc k (List.mem_range.2 hk)
  rw [h] at this
  cases this
theorem Mc.ok_succ (h : ∀ x, x < k → m.entryOk q x = true) (he : m.entryOk q k = true) : ∀ x, x < k + 1 → m.entryOk q x = true := by
  intro x hx
  by_cases e : x = k
  · rw [e]; exact he
  · exact h x (by omega)
theorem Mc.row_true (h : ∀ x, x < 3 → m.entryOk q x = true) : m.rowOk q = true :=
  List.all_eq_true.2 fun x hx => h x (List.mem_range.1 hx)
end
theorem ret_s {k : IntKind} {a b : Int} (h : a = b) : Value.int k a = .int k b := by rw [h]

set_option maxHeartbeats 400000 in
theorem isRow_any (m : Mc) (b o q : Nat) (w : World) (hm : m.At w b o) (hq : q < 16) (hL3 : m.L ≤ 3) :
    Calls Tryd.prog 19 #[.pointer (some ⟨b, o, none⟩), .int .i64 q] w fun e w' => e = .returned (.bool (m.rowOk q)) ∧ Below w.heap.size w w' := by
  have c0 := hm.l
  have c1 := hm.s
  have Hm := hidd hm
  clear hm
  go_enter Tryd.func19, Tryd.ntmps19
  go_wp2
  go_loopw [5, 9] (fun s i wr => ∃ k : Nat, k ≤ 3 ∧ i = .int .i64 k ∧ s = .int .i64 (m.seen q k) ∧ (∃ n, wr = w.drewN n) ∧ (∀ x, x < k → m.entryOk q x = true)) (fun _ i _ => 3 - (intOf i).toNat)
  case atStart => exact ⟨0, by omega, rfl, rfl, ⟨0, rfl⟩, fun x hx => by omega⟩
  case round =>
    obtain ⟨k, hk, rfl, rfl, ⟨n, rfl⟩, hok⟩ := hrel
    have Hok := hidd hok
    clear hok
    by_cases hlt : k < 3
    · have d1 := Hm.out.n q k hq hlt
      have d2 := Hm.out.o q k hq hlt
      have d3 := Hm.out.nb q k hq hlt
      have d4 := Hm.out.ob q k hq hlt
      have i1 : (q : Int) < 16 := by omega
      have i2 : (k : Int) < 3 := by omega
      have i3 : (0 : Int) ≤ q := by omega
      have i4 : (0 : Int) ≤ k := by omega
      go_wp2
      go_quiet (fail)
      go_wp2
      all_goals first
        | (go_ret
           refine ⟨ret_b (Mc.row_false hlt ?_).symm, bel_drewN (Below.refl _ _) _⟩
           first
             | (refine Mc.e1 ?_ ?_ ?_ <;> first | assumption | omega)
             | (refine Mc.e3 ?_ ?_ <;> first | assumption | omega)
             | (refine Mc.e4 hL3 Hok.out ?_ ?_ ?_ ?_ <;> first | assumption | omega)
             | (refine Mc.e6 ?_ ?_ <;> first | assumption | omega)
             | (refine Mc.e7 ?_ ?_ <;> first | assumption | omega))
        | (refine ⟨⟨k + 1, by omega, by go_num, ?_, ⟨_, rfl⟩, Mc.ok_succ Hok.out ?_⟩, by simp [intOf]; omega⟩
           · first
               | (refine ret_s (Mc.s1 ?_).symm <;> first | assumption | omega)
               | (refine ret_s (Mc.s2 hL3 Hok.out ?_ ?_) <;> first | assumption | omega)
           · first
               | (refine Mc.e2 ?_ ?_ ?_ <;> first | assumption | omega)
               | (refine Mc.e5 hL3 Hok.out ?_ ?_ ?_ ?_ <;> first | assumption | omega))
    · go_wp2
      go_ret
      exact ⟨ret_b (Mc.row_true fun x hx => Hok.out x (by omega)).symm, bel_drewN (Below.refl _ _) _⟩
end Go.Proofs.YtighjpnjbgjgaaaDoor

/- Walks: the reference's l01Is tells Mc.ok. -/
namespace Go.Proofs.YtighjpnjbgjgaaaDoor
open Go.RowKit

theorem Mc.ok_iff (m : Mc) : m.ok = true ↔ (2 ≤ m.L ∧ m.L ≤ 3) ∧ (1 ≤ m.S ∧ m.S ≤ 16) ∧ ∀ q, q < 16 → m.rowOk q = true := by
  unfold Mc.ok
  simp [and_assoc]

def Mc.met (m : Mc) (q k : Nat) : Array Value := #[.bool ((m.seen q k).testBit 0), .bool ((m.seen q k).testBit 1), .bool ((m.seen q k).testBit 2)]
theorem seen_bits (m : Mc) (q k : Nat) (hc : (q : Int) < m.S ∧ (k : Int) < m.L) (ho : m.ou q k < 3) :
    (m.met q k).setIfInBounds (m.ou q k) (.bool true) = m.met q (k + 1) := by
  unfold Mc.met
  have h : m.ou q k = 0 ∨ m.ou q k = 1 ∨ m.ou q k = 2 := by omega
  rcases h with h | h | h <;> simp [Mc.seen, hc, h, Nat.testBit_or, show Nat.testBit 1 1 = false from by decide, show Nat.testBit 1 2 = false from by decide, show Nat.testBit 2 1 = true from by decide, show Nat.testBit 2 2 = false from by decide, show Nat.testBit 4 1 = false from by decide, show Nat.testBit 4 2 = true from by decide]
theorem seen_keep (m : Mc) (q k : Nat) (hc : m.S ≤ q ∨ m.L ≤ k) : m.met q (k + 1) = m.met q k := by
  unfold Mc.met
  rw [Mc.seen, if_neg (by omega)]
theorem Mc.e4b {m : Mc} {q k : Nat} (h : (q : Int) < m.S ∧ (k : Int) < m.L) (h3 : (m.S ≤ m.nx q k ∨ m.L ≤ m.ou q k) ∨ (m.seen q k).testBit (m.ou q k) = true) : m.entryOk q k = false := by
  rw [Bool.eq_false_iff]
  intro hc
  have := (m.entry_iff q k).1 hc
  rw [if_neg (by omega)] at this
  rcases h3 with h3 | h3
  · omega
  · rw [Mc.seen_bit] at h3
    obtain ⟨y, hy, _, _, e⟩ := of_decide_eq_true h3
    exact this.2.2 y hy e
theorem Mc.e5b {m : Mc} {q k : Nat} (h : (q : Int) < m.S ∧ (k : Int) < m.L) (h3 : ((m.nx q k : Int) < m.S ∧ (m.ou q k : Int) < m.L) ∧ (m.seen q k).testBit (m.ou q k) = false) : m.entryOk q k = true := by
  rw [Mc.entry_iff, if_neg (by omega)]
  refine ⟨h3.1.1, h3.1.2, fun y hy e => ?_⟩
  have := h3.2
  rw [Mc.seen_bit] at this
  exact of_decide_eq_false this ⟨y, hy, h.1, by omega, e⟩
theorem Mc.ok_row {m : Mc} {q : Nat} (hq : q < 16) (h : m.rowOk q = false) : m.ok = false := by
  rw [Bool.eq_false_iff]
  intro hc
  have := ((m.ok_iff).1 hc).2.2 q hq
  rw [h] at this; cases this
theorem Mc.ok_L {m : Mc} (h : ¬ (2 ≤ m.L ∧ m.L ≤ 3)) : m.ok = false := by
  rw [Bool.eq_false_iff]
  exact fun hc => h ((m.ok_iff).1 hc).1
theorem Mc.ok_S {m : Mc} (h : ¬ (1 ≤ m.S ∧ m.S ≤ 16)) : m.ok = false := by
  rw [Bool.eq_false_iff]
  exact fun hc => h ((m.ok_iff).1 hc).2.1
set_option maxHeartbeats 1000000 in
theorem l01Is_any (m : Mc) (cs : Array Value) (hm : m.Is cs) (w : World) :
    Calls Tryd.prog 14 #[.agg cs] w fun e w' => e = .returned (.bool m.ok) ∧ Below w.heap.size w w' := by
  have c0 := hm.l
  have c1 := hm.s
  have Hm := hidd hm
  clear hm
  go_enter Tryd.func14, Tryd.ntmps14
  by_cases hL : 2 ≤ m.L ∧ m.L ≤ 3
  · by_cases hS : 1 ≤ m.S ∧ m.S ≤ 16
    · obtain ⟨hL2, hL3⟩ := hL
      obtain ⟨hS1, hS2⟩ := hS
      go_wp2_with (first | (go_at_call 24; refine (l01In_yes _ _ _ _ (by omega) (by omega)).mono ?_; rintro e w1 ⟨rfl, rfl⟩) | (go_at_call 24; refine (l01In_no _ _ _ _ (by omega)).mono ?_; rintro e w1 ⟨rfl, rfl⟩))
      go_loopw [3] (fun i wr => ∃ k : Nat, k ≤ 16 ∧ i = .int .i64 k ∧ (∀ q, q < k → m.rowOk q = true) ∧ Below w.heap.size w wr ∧ wr.heap[w.heap.size]? = some (.cells cs 25 (0, 0))) (fun i _ => 16 - (intOf i).toNat)
      case atStart => exact ⟨0, by omega, rfl, fun q hq => by omega, (Below.refl _ _).alloc (Nat.le_refl _) _, hp_new rfl⟩
      case round =>
        obtain ⟨q, hq, rfl, hrows, hbel, hb0⟩ := hrel
        have Hrows := hidd hrows
        have Hbel := hidd hbel
        have Hb0 := hidd hb0
        clear hrows hbel hb0
        by_cases hlt : q < 16
        · have e0 := (blkc Hb0.out 0).trans Hm.out.l
          have e1 := (blkc Hb0.out 1).trans Hm.out.s
          have i1 : (q : Int) < 16 := by omega
          have i3 : (0 : Int) ≤ q := by omega
          obtain ⟨wo, rfl⟩ : ∃ wo : World, wo = wr := ⟨_, rfl⟩
          go_wp2_with (first | (go_at_call 24; refine (l01In_yes _ _ _ _ (by omega) (by omega)).mono ?_; rintro e w1 ⟨rfl, rfl⟩) | (go_at_call 24; refine (l01In_no _ _ _ _ (by omega)).mono ?_; rintro e w1 ⟨rfl, rfl⟩))
          go_loopw [5] (fun i wr => ∃ k : Nat, k ≤ 3 ∧ i = .int .i64 k ∧ (∀ x, x < k → m.entryOk q x = true) ∧ Below w.heap.size w wr ∧ wr.heap[w.heap.size]? = some (.cells cs 25 (0, 0)) ∧ wr.heap[wo.heap.size]? = some (.cells (m.met q k) 48 (0, 0))) (fun i _ => 3 - (intOf i).toNat)
          case atStart => exact ⟨0, by omega, rfl, fun q hq => by omega, Hbel.out.alloc Hbel.out.size _, hp_old Hb0.out, by unfold Mc.met; simp only [Mc.seen, Nat.zero_testBit]; exact hp_new rfl⟩
          case round =>
            obtain ⟨k, hk, rfl, hent, hbel2, hb02, hbm⟩ := hrel
            have Hent := hidd hent
            have Hbel2 := hidd hbel2
            have Hb02 := hidd hb02
            have Hbm := hidd hbm
            clear hent hbel2 hb02 hbm
            by_cases hk3 : k < 3
            · have A := Mc.At.of_is Hm.out Hb02.out
              have a0 := A.l
              have a1 := A.s
              have a2 := A.n0 q k hlt hk3
              have a3 := A.o0 q k hlt hk3
              have a4 := A.nb q k hlt hk3
              have a5 := A.ob q k hlt hk3
              clear A
              have i2 : (k : Int) < 3 := by omega
              have i4 : (0 : Int) ≤ k := by omega
              by_cases hA : (q : Int) < m.S ∧ (k : Int) < m.L ∧ (m.nx q k : Int) < m.S ∧ (m.ou q k : Int) < m.L
              · obtain ⟨hA1, hA2, hA3, hA4⟩ := hA
                have ho : m.ou q k < 3 := by omega
                have mc : wr.cell? ⟨wo.heap.size, m.ou q k, none⟩ = some (.bool ((m.seen q k).testBit (m.ou q k))) := by
                  rw [blkc Hbm.out]
                  have h : m.ou q k = 0 ∨ m.ou q k = 1 ∨ m.ou q k = 2 := by omega
                  rcases h with h | h | h <;> rw [h] <;> rfl
                have mf := blkf Hbm.out (m.ou q k)
                go_wp2_with (first | (go_at_call 24; refine (l01In_yes _ _ _ _ (by omega) (by omega)).mono ?_; rintro e w1 ⟨rfl, rfl⟩) | (go_at_call 24; refine (l01In_no _ _ _ _ (by omega)).mono ?_; rintro e w1 ⟨rfl, rfl⟩))
                go_quiet (fail)
                go_wp2_with (first | (go_at_call 24; refine (l01In_yes _ _ _ _ (by omega) (by omega)).mono ?_; rintro e w1 ⟨rfl, rfl⟩) | (go_at_call 24; refine (l01In_no _ _ _ _ (by omega)).mono ?_; rintro e w1 ⟨rfl, rfl⟩))
                · go_ret
                  exact ⟨ret_b (Mc.ok_row hlt (Mc.row_false hk3 (Mc.e4b ⟨hA1, hA2⟩ (by assumption)))).symm, bel_drewN Hbel2.out _⟩
                · go_roundw
                  case rel =>
                    refine ⟨k + 1, by omega, by go_num, Mc.ok_succ Hent.out (Mc.e5b ⟨hA1, hA2⟩ (by assumption)), ?_, ?_, ?_⟩
                    · exact (bel_drewN Hbel2.out nq).setCell (by have := Hbel.out.size; exact this) _
                    · exact hp_far (w := wr.drewN nq) Hb02.out (by have := hp_lt Hb0.out; dsimp only; omega) _
                    · have := hp_set (w := wr.drewN nq) Hbm.out (m.ou q k) (.bool true)
                      rw [seen_bits m q k ⟨hA1, hA2⟩ ho] at this
                      exact this
                  case measure => simp [intOf]; omega
              · go_wp2_with (first | (go_at_call 24; refine (l01In_yes _ _ _ _ (by omega) (by omega)).mono ?_; rintro e w1 ⟨rfl, rfl⟩) | (go_at_call 24; refine (l01In_no _ _ _ _ (by omega)).mono ?_; rintro e w1 ⟨rfl, rfl⟩))
                go_quiet (fail)
                go_wp2_with (first | (go_at_call 24; refine (l01In_yes _ _ _ _ (by omega) (by omega)).mono ?_; rintro e w1 ⟨rfl, rfl⟩) | (go_at_call 24; refine (l01In_no _ _ _ _ (by omega)).mono ?_; rintro e w1 ⟨rfl, rfl⟩))
                all_goals first
                  | (go_ret
                     refine ⟨ret_b (Mc.ok_row hlt (Mc.row_false hk3 ?_)).symm, bel_drewN Hbel2.out _⟩
                     first
                       | (refine Mc.e1 ?_ ?_ ?_ <;> first | assumption | omega)
                       | (refine Mc.e3 ?_ ?_ <;> first | assumption | omega)
                       | (refine Mc.e6 ?_ ?_ <;> first | assumption | omega)
                       | (refine Mc.e7 ?_ ?_ <;> first | assumption | omega))
                  | (go_roundw
                     (case rel =>
                       refine ⟨k + 1, by omega, by go_num, Mc.ok_succ Hent.out ?_, bel_drewN Hbel2.out nq, Hb02.out, ?_⟩
                       · refine Mc.e2 ?_ ?_ ?_ <;> first | assumption | omega
                       · rw [seen_keep m q k (by omega)]; exact Hbm.out)
                     (case measure => simp [intOf]; omega))
            · go_wp2_with (first | (go_at_call 24; refine (l01In_yes _ _ _ _ (by omega) (by omega)).mono ?_; rintro e w1 ⟨rfl, rfl⟩) | (go_at_call 24; refine (l01In_no _ _ _ _ (by omega)).mono ?_; rintro e w1 ⟨rfl, rfl⟩))
              go_roundw
              case rel => exact ⟨q + 1, by omega, by go_num, fun x hx => by
                by_cases e : x = q
                · rw [e]; exact Mc.row_true fun y hy => Hent.out y (by omega)
                · exact Hrows.out x (by omega), Hbel2.out, Hb02.out⟩
              case measure => simp [intOf]; omega
        · go_wp2_with (first | (go_at_call 24; refine (l01In_yes _ _ _ _ (by omega) (by omega)).mono ?_; rintro e w1 ⟨rfl, rfl⟩) | (go_at_call 24; refine (l01In_no _ _ _ _ (by omega)).mono ?_; rintro e w1 ⟨rfl, rfl⟩))
          go_ret
          exact ⟨ret_b ((m.ok_iff).2 ⟨⟨hL2, hL3⟩, ⟨hS1, hS2⟩, fun x hx => Hrows.out x (by omega)⟩).symm, Hbel.out⟩
    · obtain ⟨hL2, hL3⟩ := hL
      by_cases h1 : 1 ≤ m.S
      · have h2 : 16 < m.S := by omega
        go_wp2_with (first | (go_at_call 24; refine (l01In_yes _ _ _ _ (by omega) (by omega)).mono ?_; rintro e w1 ⟨rfl, rfl⟩) | (go_at_call 24; refine (l01In_no _ _ _ _ (by omega)).mono ?_; rintro e w1 ⟨rfl, rfl⟩))
        go_ret
        exact ⟨ret_b (Mc.ok_S hS).symm, (Below.refl _ _).alloc (Nat.le_refl _) _⟩
      · go_wp2_with (first | (go_at_call 24; refine (l01In_yes _ _ _ _ (by omega) (by omega)).mono ?_; rintro e w1 ⟨rfl, rfl⟩) | (go_at_call 24; refine (l01In_no _ _ _ _ (by omega)).mono ?_; rintro e w1 ⟨rfl, rfl⟩))
        go_ret
        exact ⟨ret_b (Mc.ok_S hS).symm, (Below.refl _ _).alloc (Nat.le_refl _) _⟩
  · by_cases h1 : 2 ≤ m.L
    · have h2 : 3 < m.L := by omega
      go_wp2_with (first | (go_at_call 24; refine (l01In_yes _ _ _ _ (by omega) (by omega)).mono ?_; rintro e w1 ⟨rfl, rfl⟩) | (go_at_call 24; refine (l01In_no _ _ _ _ (by omega)).mono ?_; rintro e w1 ⟨rfl, rfl⟩))
      go_ret
      exact ⟨ret_b (Mc.ok_L hL).symm, (Below.refl _ _).alloc (Nat.le_refl _) _⟩
    · go_wp2_with (first | (go_at_call 24; refine (l01In_yes _ _ _ _ (by omega) (by omega)).mono ?_; rintro e w1 ⟨rfl, rfl⟩) | (go_at_call 24; refine (l01In_no _ _ _ _ (by omega)).mono ?_; rintro e w1 ⟨rfl, rfl⟩))
      go_ret
      exact ⟨ret_b (Mc.ok_L hL).symm, (Below.refl _ _).alloc (Nat.le_refl _) _⟩
end Go.Proofs.YtighjpnjbgjgaaaDoor

/- Walks: IsMachine of the reference and of the program tell Mc.ok; small callees of the program. -/
namespace Go.Proofs.YtighjpnjbgjgaaaDoor
open Go.RowKit
set_option maxHeartbeats 400000 in
theorem implIsMachine_any (m : Mc) (cs : Array Value) (hm : m.Is cs) (w : World) :
    Calls Tryd.prog 10 #[.agg cs] w fun e w' => e = .returned (.bool m.ok) ∧ Below w.heap.size w w' := by
  have c0 := hm.l
  have c1 := hm.s
  have Hm := hidd hm
  clear hm
  go_enter Tryd.func10, Tryd.ntmps10
  by_cases hL : 2 ≤ m.L ∧ m.L ≤ 3
  · obtain ⟨hL2, hL3⟩ := hL
    by_cases hS : 1 ≤ m.S ∧ m.S ≤ 16
    · obtain ⟨hS1, hS2⟩ := hS
      go_wp2_with (first | (go_at_call 17; refine (areLetters_yes _ _ hL2 hL3).mono ?_; rintro e w1 ⟨rfl, rfl⟩) | (go_at_call 18; refine (within_yes _ _ _ _ hS1 hS2).mono ?_; rintro e w1 ⟨rfl, rfl⟩))
      go_loopw [14] (fun i wr => ∃ k : Nat, k ≤ 16 ∧ i = .int .i64 k ∧ (∀ q, q < k → m.rowOk q = true) ∧ Below w.heap.size w wr ∧ wr.heap[w.heap.size]? = some (.cells cs 25 (0, 0))) (fun i _ => 16 - (intOf i).toNat)
      case atStart => exact ⟨0, by omega, rfl, fun q hq => by omega, (Below.refl _ _).alloc (Nat.le_refl _) _, hp_new rfl⟩
      case round =>
        obtain ⟨q, hq, rfl, hrows, hbel, hb0⟩ := hrel
        have Hrows := hidd hrows
        have Hbel := hidd hbel
        have Hb0 := hidd hb0
        clear hrows hbel hb0
        by_cases hlt : q < 16
        · cases hr : m.rowOk q with
          | true =>
            have Hr := hidd hr
            clear hr
            go_wp2_with (go_at_call 19; refine (isRow_any m _ 0 q _ (Mc.At.of_is Hm.out Hb0.out) hlt hL3).mono ?_; rintro e w1 ⟨rfl, hb⟩; rw [Hr.out])
            go_roundw
            case rel => exact ⟨q + 1, by omega, by go_num, fun x hx => by
              by_cases e : x = q
              · rw [e]; exact Hr.out
              · exact Hrows.out x (by omega), bel_then Hbel.out (by assumption), hp_bel Hb0.out (by assumption)⟩
            case measure => simp [intOf]; omega
          | false =>
            have Hr := hidd hr
            clear hr
            go_wp2_with (go_at_call 19; refine (isRow_any m _ 0 q _ (Mc.At.of_is Hm.out Hb0.out) hlt hL3).mono ?_; rintro e w1 ⟨rfl, hb⟩; rw [Hr.out])
            go_ret
            exact ⟨ret_b (Mc.ok_row hlt Hr.out).symm, bel_then Hbel.out (by assumption)⟩
        · go_wp2
          go_ret
          exact ⟨ret_b ((m.ok_iff).2 ⟨⟨hL2, hL3⟩, ⟨hS1, hS2⟩, fun x hx => Hrows.out x (by omega)⟩).symm, Hbel.out⟩
    · go_wp2_with (first | (go_at_call 17; refine (areLetters_yes _ _ hL2 hL3).mono ?_; rintro e w1 ⟨rfl, rfl⟩) | (go_at_call 18; refine (within_no _ _ _ _ (by omega)).mono ?_; rintro e w1 ⟨rfl, rfl⟩))
      go_ret
      exact ⟨ret_b (Mc.ok_S hS).symm, (Below.refl _ _).alloc (Nat.le_refl _) _⟩
  · go_wp2_with (go_at_call 17; refine (areLetters_no _ _ (by omega)).mono ?_; rintro e w1 ⟨rfl, rfl⟩)
    go_ret
    exact ⟨ret_b (Mc.ok_L hL).symm, (Below.refl _ _).alloc (Nat.le_refl _) _⟩
end Go.Proofs.YtighjpnjbgjgaaaDoor

/- Plain laws: the least of equal states, and the states that keep all letters: what rounds of refinement come to, however they are gone through. -/
namespace Go.Proofs.YtighjpnjbgjgaaaDoor

/-! ### The first number with a property -/
def first (p : Nat → Bool) (q : Nat) : Nat := ((List.range q).find? p).getD q
theorem first_spec (p : Nat → Bool) (q : Nat) : first p q ≤ q ∧ (first p q < q → p (first p q) = true) ∧ ∀ r, r < first p q → p r = false := by
  unfold first
  cases h : (List.range q).find? p with
  | none =>
    refine ⟨Nat.le_refl _, fun h => absurd h (Nat.lt_irrefl _), fun r hr => ?_⟩
    have := List.find?_eq_none.1 h r (List.mem_range.2 hr)
    simpa using this
  | some v =>
    obtain ⟨h1, i, hi, rfl, h2⟩ := List.find?_eq_some_iff_getElem.1 h
    simp only [List.length_range] at hi
    simp only [List.getElem_range, Option.getD_some] at *
    refine ⟨by omega, fun _ => h1, fun r hr => ?_⟩
    have := h2 r hr
    simpa using this
theorem first_le (p : Nat → Bool) (q : Nat) : first p q ≤ q := (first_spec p q).1
theorem first_eq {p : Nat → Bool} {q v : Nat} (h1 : v ≤ q) (h2 : v < q → p v = true) (h3 : ∀ r, r < v → p r = false) : first p q = v := by
  obtain ⟨a, b, c⟩ := first_spec p q
  rcases Nat.lt_trichotomy (first p q) v with h | h | h
  · have := h3 _ h
    rw [b (by omega)] at this; cases this
  · exact h
  · have := c _ h
    rw [h2 (by omega)] at this; cases this
theorem first_congr {p p' : Nat → Bool} {q : Nat} (h : ∀ r, r < q → p r = p' r) : first p q = first p' q := by
  obtain ⟨a, b, c⟩ := first_spec p' q
  exact first_eq a (fun hv => by rw [h _ (by omega)]; exact b hv) (fun r hr => by rw [h _ (by omega)]; exact c r hr)

/-! ### A chain of numbers that goes down till it stands -/
theorem chain_stands (f : Nat → Nat) (hd : ∀ k, f (k + 1) ≤ f k) (hs : ∀ k, f (k + 1) = f k → f (k + 2) = f (k + 1)) : ∀ n, f 0 ≤ n → f (n + 1) = f n := by
  have key : ∀ k, (f k = f (k + 1)) ∨ f (k + 1) + k + 1 ≤ f 0 := by
    intro k
    induction k with
    | zero => by_cases h : f 0 = f 1
              · exact .inl h
              · right; have := hd 0; simp only [Nat.zero_add] at *; omega
    | succ k ih =>
      rcases ih with h | h
      · exact .inl (hs k h.symm).symm
      · by_cases e : f (k + 1) = f (k + 2)
        · exact .inl e
        · right; have := hd (k + 1); have e2 : f (k + 1 + 1) = f (k + 2) := rfl; omega
  intro n hn
  rcases key n with h | h
  · exact h.symm
  · omega

/-! ### Refinement -/
section
variable (n l : Nat) (nx : Nat → Nat → Nat) (oe : Nat → Nat → Bool)
/-- One round: the first state that has the same mark, the same outputs, and goes on to the same marks. -/
def rel (c : Nat → Nat) (q r : Nat) : Bool := decide (c r = c q) && oe q r && (List.range l).all fun x => decide (c (nx q x) = c (nx r x))
def rnd (c : Nat → Nat) (q : Nat) : Nat := first (rel l nx oe c q) q
def cl : Nat → Nat → Nat
  | 0 => fun _ => 0
  | k + 1 => rnd l nx oe (cl k)
/-- The least equal state. -/
def lst (q : Nat) : Nat := cl l nx oe (n + 1) q

structure Eqv : Prop where
  rfl' : ∀ q, oe q q = true
  symm : ∀ q r, oe q r = true → oe r q = true
  trans : ∀ q r t, oe q r = true → oe r t = true → oe q t = true

variable {l nx oe}
theorem rel_iff (c : Nat → Nat) (q r : Nat) : rel l nx oe c q r = true ↔ c r = c q ∧ oe q r = true ∧ ∀ x, x < l → c (nx q x) = c (nx r x) := by
  unfold rel
  simp [and_assoc]
variable (E : Eqv oe)
include E
theorem rel_refl (c : Nat → Nat) (q : Nat) : rel l nx oe c q q = true := (rel_iff c q q).2 ⟨rfl, E.rfl' q, fun _ _ => rfl⟩
theorem rel_symm {c : Nat → Nat} {q r : Nat} (h : rel l nx oe c q r = true) : rel l nx oe c r q = true := by
  obtain ⟨a, b, d⟩ := (rel_iff c q r).1 h
  exact (rel_iff c r q).2 ⟨a.symm, E.symm _ _ b, fun x hx => (d x hx).symm⟩
theorem rel_trans {c : Nat → Nat} {q r t : Nat} (h : rel l nx oe c q r = true) (h2 : rel l nx oe c r t = true) : rel l nx oe c q t = true := by
  obtain ⟨a, b, d⟩ := (rel_iff c q r).1 h
  obtain ⟨a', b', d'⟩ := (rel_iff c r t).1 h2
  exact (rel_iff c q t).2 ⟨a'.trans a, E.trans _ _ _ b b', fun x hx => (d x hx).trans (d' x hx)⟩
theorem rnd_rel (c : Nat → Nat) (q : Nat) : rel l nx oe c q (rnd l nx oe c q) = true := by
  obtain ⟨a, b, d⟩ := first_spec (rel l nx oe c q) q
  by_cases h : first (rel l nx oe c q) q < q
  · exact b h
  · have e : first (rel l nx oe c q) q = q := by omega
    show rel l nx oe c q (first (rel l nx oe c q) q) = true
    rw [e]; exact rel_refl E c q
theorem rnd_eq_iff (c : Nat → Nat) (q r : Nat) : rnd l nx oe c q = rnd l nx oe c r ↔ rel l nx oe c q r = true := by
  constructor
  · intro h
    have a := rnd_rel E c q (l := l) (nx := nx)
    have b := rnd_rel E c r (l := l) (nx := nx)
    rw [h] at a
    exact rel_trans E a (rel_symm E b)
  · intro h
    obtain ⟨a1, b1, d1⟩ := first_spec (rel l nx oe c q) q
    obtain ⟨a2, b2, d2⟩ := first_spec (rel l nx oe c r) r
    have p1 := rnd_rel E c q (l := l) (nx := nx)
    have p2 := rnd_rel E c r (l := l) (nx := nx)
    rcases Nat.lt_trichotomy (rnd l nx oe c q) (rnd l nx oe c r) with hh | hh | hh
    · have := d2 _ hh
      rw [rel_trans E (rel_symm E h) p1] at this; cases this
    · exact hh
    · have := d1 _ hh
      rw [rel_trans E h p2] at this; cases this
/-- A mark is a first one. -/
theorem rnd_idem (c : Nat → Nat) (q : Nat) : rnd l nx oe c (rnd l nx oe c q) = rnd l nx oe c q := (rnd_eq_iff E c _ _).2 (rel_symm E (rnd_rel E c q))
omit E in
theorem rnd_le (c : Nat → Nat) (q : Nat) : rnd l nx oe c q ≤ q := first_le _ _
omit E in
theorem cl_le (k q : Nat) : cl l nx oe k q ≤ q := by
  cases k with
  | zero => exact Nat.zero_le _
  | succ k => exact rnd_le _ _
theorem cl_idem (k q : Nat) : cl l nx oe k (cl l nx oe k q) = cl l nx oe k q := by
  cases k with
  | zero => rfl
  | succ k => exact rnd_idem E _ _
/-- A later round parts at least what an earlier one parts. -/
theorem cl_fine (k q r : Nat) (h : cl l nx oe (k + 1) q = cl l nx oe (k + 1) r) : cl l nx oe k q = cl l nx oe k r :=
  ((rel_iff _ _ _).1 ((rnd_eq_iff E _ _ _).1 h)).1.symm
/-- The same mark is told from what the letters do alone. -/
theorem cl_plain (k q r : Nat) (h1 : oe q r = true) (h2 : ∀ x, x < l → cl l nx oe k (nx q x) = cl l nx oe k (nx r x)) : cl l nx oe k q = cl l nx oe k r := by
  induction k with
  | zero => rfl
  | succ k ih =>
    have h3 : ∀ x, x < l → cl l nx oe k (nx q x) = cl l nx oe k (nx r x) := fun x hx => cl_fine E k _ _ (h2 x hx)
    exact (rnd_eq_iff E _ _ _).2 ((rel_iff _ _ _).2 ⟨(ih h3).symm, h1, h3⟩)
/-- A round that asks for the outputs and the marks of what follows alone is the same round. -/
theorem rnd_plain (k q : Nat) : rnd l nx oe (cl l nx oe k) q = first (fun r => oe q r && (List.range l).all fun x => decide (cl l nx oe k (nx q x) = cl l nx oe k (nx r x))) q := by
  refine first_congr fun r _ => ?_
  rw [Bool.eq_iff_iff, rel_iff]
  simp only [Bool.and_eq_true, List.all_eq_true, List.mem_range, decide_eq_true_eq]
  constructor
  · rintro ⟨_, a, b⟩; exact ⟨a, b⟩
  · rintro ⟨a, b⟩; exact ⟨(cl_plain E k q r a b).symm, a, b⟩
theorem cl_up (k q : Nat) : cl l nx oe k q ≤ cl l nx oe (k + 1) q := by
  have h := ((rel_iff _ _ _).1 (rnd_rel E (cl l nx oe k) q (l := l) (nx := nx))).1
  have := cl_le k (rnd l nx oe (cl l nx oe k) q) (l := l) (nx := nx) (oe := oe)
  rw [h] at this
  exact this
omit E in
/-- A round from which nothing turns. -/
theorem cl_stands_from (k : Nat) (h : ∀ q, q < n → cl l nx oe (k + 1) q = cl l nx oe k q) (hn : ∀ q x, q < n → x < l → nx q x < n) : ∀ j, k ≤ j → ∀ q, q < n → cl l nx oe j q = cl l nx oe k q := by
  intro j hj
  induction j with
  | zero => obtain rfl : k = 0 := by omega
            exact fun _ _ => rfl
  | succ j ih =>
    by_cases e : k = j + 1
    · rw [e]; exact fun _ _ => rfl
    · have ih := ih (by omega)
      intro q hq
      rw [← h q hq]
      show rnd l nx oe (cl l nx oe j) q = rnd l nx oe (cl l nx oe k) q
      refine first_congr fun r hr => ?_
      rw [Bool.eq_iff_iff, rel_iff, rel_iff, ih q hq, ih r (by omega)]
      constructor
      · rintro ⟨a, b, c⟩
        exact ⟨a, b, fun x hx => by rw [← ih _ (hn q x hq hx), ← ih _ (hn r x (by omega) hx)]; exact c x hx⟩
      · rintro ⟨a, b, c⟩
        exact ⟨a, b, fun x hx => by rw [ih _ (hn q x hq hx), ih _ (hn r x (by omega) hx)]; exact c x hx⟩
end

/-! ### Counting -/
def cnt (p : Nat → Bool) : Nat → Nat
  | 0 => 0
  | n + 1 => cnt p n + if p n then 1 else 0
theorem cnt_le (p : Nat → Bool) : ∀ n, cnt p n ≤ n
  | 0 => Nat.le_refl _
  | n + 1 => by have := cnt_le p n; unfold cnt; split <;> omega
theorem cnt_mono {p p' : Nat → Bool} : ∀ n, (∀ q, q < n → p' q = true → p q = true) → cnt p' n ≤ cnt p n ∧ (cnt p' n = cnt p n → ∀ q, q < n → p' q = p q)
  | 0, _ => ⟨Nat.le_refl _, fun _ q hq => by omega⟩
  | n + 1, h => by
    obtain ⟨a, b⟩ := cnt_mono n (fun q hq => h q (by omega))
    have hn := h n (by omega)
    unfold cnt
    cases h1 : p' n with
    | true =>
      rw [hn h1]
      simp only [if_true]
      refine ⟨by omega, fun e q hq => ?_⟩
      by_cases he : q = n
      · rw [he, h1, hn h1]
      · exact b (by omega) q (by omega)
    | false =>
      cases h2 : p n with
      | true => simp only [if_true]; exact ⟨by simp; omega, fun e => by simp at e; omega⟩
      | false =>
        simp only [Bool.false_eq_true, if_false]
        refine ⟨by omega, fun e q hq => ?_⟩
        by_cases he : q = n
        · rw [he, h1, h2]
        · exact b (by omega) q (by omega)
section
variable (n l : Nat) (nx : Nat → Nat → Nat) (oe : Nat → Nat → Bool)
variable {l nx oe} (E : Eqv oe)
include E
theorem cl_stands (hn : ∀ q x, q < n → x < l → nx q x < n) : ∀ q, q < n → cl l nx oe (n + 1) q = cl l nx oe n q := by
  let f : Nat → Nat := fun k => cnt (fun q => decide (cl l nx oe k q ≠ q)) n
  have hm : ∀ k, ∀ q, q < n → decide (cl l nx oe (k + 1) q ≠ q) = true → decide (cl l nx oe k q ≠ q) = true := by
    intro k q _ h
    have h' := of_decide_eq_true h
    have a := cl_up E k q (l := l) (nx := nx)
    have b := cl_le (k + 1) q (l := l) (nx := nx) (oe := oe)
    exact decide_eq_true (by omega)
  have hst : ∀ k, f (k + 1) = f k → ∀ q, q < n → cl l nx oe (k + 1) q = cl l nx oe k q := by
    intro k e q hq
    have hp := (cnt_mono n (hm k)).2 e
    have hr := cl_le (k + 1) q (l := l) (nx := nx) (oe := oe)
    have h1 := hp (cl l nx oe (k + 1) q) (by omega)
    rw [decide_eq_decide] at h1
    have h2 : cl l nx oe k (cl l nx oe (k + 1) q) = cl l nx oe (k + 1) q := by
      have := cl_idem E (k + 1) q (l := l) (nx := nx)
      exact Decidable.of_not_not fun hc => (h1.2 hc) this
    have h3 : cl l nx oe k (cl l nx oe (k + 1) q) = cl l nx oe k q := ((rel_iff _ _ _).1 (rnd_rel E (cl l nx oe k) q)).1
    rw [← h2, h3]
  have main := chain_stands f (fun k => (cnt_mono n (hm k)).1) (fun k e => by
    have h := hst k e
    have h2 := cl_stands_from n k h hn
    show cnt _ n = cnt _ n
    have e2 : ∀ q, q < n → decide (cl l nx oe (k + 2) q ≠ q) = decide (cl l nx oe (k + 1) q ≠ q) := by
      intro q hq
      rw [h2 (k + 2) (by omega) q hq, h2 (k + 1) (by omega) q hq]
    have a := (cnt_mono n (p := fun q => decide (cl l nx oe (k + 1) q ≠ q)) (p' := fun q => decide (cl l nx oe (k + 2) q ≠ q)) (fun q hq h => by rw [← e2 q hq]; exact h)).1
    have b := (cnt_mono n (p' := fun q => decide (cl l nx oe (k + 1) q ≠ q)) (p := fun q => decide (cl l nx oe (k + 2) q ≠ q)) (fun q hq h => by rw [e2 q hq]; exact h)).1
    omega) n (cnt_le _ n)
  exact hst n main
/-- Whichever round it is from which nothing turns: its marks are the least equal states. -/
theorem lst_of_stands (k : Nat) (h : ∀ q, q < n → cl l nx oe (k + 1) q = cl l nx oe k q) (hn : ∀ q x, q < n → x < l → nx q x < n) : ∀ q, q < n → cl l nx oe k q = lst n l nx oe q := by
  intro q hq
  unfold lst
  have h2 := cl_stands n E hn
  have a := cl_stands_from n k h hn
  have b := cl_stands_from n n h2 hn
  by_cases hk : k ≤ n + 1
  · exact (a (n + 1) hk q hq).symm
  · rw [b k (by omega) q hq, b (n + 1) (by omega) q hq]
theorem lst_stands (hn : ∀ q x, q < n → x < l → nx q x < n) : ∀ q, q < n → rnd l nx oe (lst n l nx oe) q = lst n l nx oe q := by
  intro q hq
  have h2 := cl_stands n E hn
  have b := cl_stands_from n n h2 hn
  have := b (n + 2) (by omega) q hq
  have c := b (n + 1) (by omega) q hq
  show cl l nx oe (n + 2) q = cl l nx oe (n + 1) q
  rw [this, c]
omit E in
theorem lst_le (q : Nat) : lst n l nx oe q ≤ q := cl_le _ _
theorem lst_idem (q : Nat) : lst n l nx oe (lst n l nx oe q) = lst n l nx oe q := cl_idem E _ _
theorem lst_eq_iff (hn : ∀ q x, q < n → x < l → nx q x < n) (q r : Nat) (hq : q < n) (hr : r < n) : lst n l nx oe q = lst n l nx oe r ↔ oe q r = true ∧ ∀ x, x < l → lst n l nx oe (nx q x) = lst n l nx oe (nx r x) := by
  rw [← lst_stands n E hn q hq, ← lst_stands n E hn r hr, rnd_eq_iff E, rel_iff]
  constructor
  · rintro ⟨_, a, b⟩; exact ⟨a, b⟩
  · rintro ⟨a, b⟩; exact ⟨(cl_plain E (n + 1) q r a b).symm, a, b⟩
end

/-! ### The states that keep all letters -/
section
variable (n l : Nat) (nx : Nat → Nat → Nat) (idr : Nat → Bool)
/-- What keeps all letters for so many steps. -/
def tv : Nat → Nat → Bool
  | 0 => idr
  | k + 1 => fun q => tv k q && (List.range l).all fun x => tv k (nx q x)
def trv (q : Nat) : Bool := tv l nx idr n q
variable {l nx idr}
theorem tv_succ (k q : Nat) : tv l nx idr (k + 1) q = true ↔ tv l nx idr k q = true ∧ ∀ x, x < l → tv l nx idr k (nx q x) = true := by
  simp [tv]
theorem tv_down (k q : Nat) (h : tv l nx idr (k + 1) q = true) : tv l nx idr k q = true := ((tv_succ k q).1 h).1
theorem tv_idr (k q : Nat) (h : tv l nx idr k q = true) : idr q = true := by
  induction k with
  | zero => exact h
  | succ k ih => exact ih (tv_down k q h)
theorem tv_same (k : Nat) (h : ∀ q, q < n → tv l nx idr (k + 1) q = tv l nx idr k q) (hn : ∀ q x, q < n → x < l → nx q x < n) : ∀ q, q < n → tv l nx idr (k + 2) q = tv l nx idr (k + 1) q := by
  intro q hq
  rw [Bool.eq_iff_iff]
  constructor
  · exact tv_down (k + 1) q
  · intro a
    exact (tv_succ (k + 1) q).2 ⟨a, fun x hx => by rw [h _ (hn q x hq hx)]; exact ((tv_succ k q).1 a).2 x hx⟩
theorem tv_stands (hn : ∀ q x, q < n → x < l → nx q x < n) : ∀ q, q < n → tv l nx idr (n + 1) q = tv l nx idr n q := by
  have hm : ∀ k, ∀ q, q < n → tv l nx idr (k + 1) q = true → tv l nx idr k q = true := fun k q _ h => tv_down k q h
  have main := chain_stands (fun k => cnt (tv l nx idr k) n) (fun k => (cnt_mono n (hm k)).1) (fun k e => by
    have h := (cnt_mono n (hm k)).2 e
    have h2 := tv_same n k h hn
    have a := (cnt_mono n (p := tv l nx idr (k + 1)) (p' := tv l nx idr (k + 2)) (hm (k + 1))).1
    have b := (cnt_mono n (p' := tv l nx idr (k + 1)) (p := tv l nx idr (k + 2)) (fun q hq h => by rw [h2 q hq]; exact h)).1
    show cnt _ n = cnt _ n
    omega) n (cnt_le _ n)
  exact (cnt_mono n (hm n)).2 main
theorem trv_idr {q : Nat} (h : trv n l nx idr q = true) : idr q = true := tv_idr _ _ h
theorem trv_next (hn : ∀ q x, q < n → x < l → nx q x < n) {q x : Nat} (hq : q < n) (hx : x < l) (h : trv n l nx idr q = true) : trv n l nx idr (nx q x) = true := by
  have := tv_stands n (idr := idr) hn q hq
  unfold trv at *
  rw [h, tv_succ] at this
  exact this.2 x hx
/-- Whatever is closed lies in it. -/
theorem trv_of_closed (F : Nat → Bool) (h1 : ∀ q, q < n → F q = true → idr q = true) (h2 : ∀ q x, q < n → x < l → F q = true → F (nx q x) = true) (hn : ∀ q x, q < n → x < l → nx q x < n) : ∀ k q, q < n → F q = true → tv l nx idr k q = true := by
  intro k
  induction k with
  | zero => exact h1
  | succ k ih =>
    intro q hq h
    exact (tv_succ k q).2 ⟨ih q hq h, fun x hx => ih _ (hn q x hq hx) (h2 q x hq hx h)⟩
end
end Go.Proofs.YtighjpnjbgjgaaaDoor

/- Words of the walks: slices that are read, slices that the call itself made, append and make. Nothing of the program but its types' rows. -/
namespace Go.Proofs.YtighjpnjbgjgaaaDoor
open Go.RowKit

/-! ### Reading -/
/-- A slice at address A reads as these values, each one cell. -/
def Rd (w : World) (A : Option Addr) (vs : List Value) : Prop :=
  vs.length ≤ 9223372036854775807 ∧ (vs ≠ [] → ∃ b o, A = some ⟨b, o, none⟩ ∧ ∀ j v, vs[j]? = some v → w.cell? ⟨b, o + j, none⟩ = some v)
def ints (xs : List Int) : List Value := xs.map fun x => .int .i64 x
theorem ints_length (xs : List Int) : (ints xs).length = xs.length := by simp [ints]
theorem ints_get (xs : List Int) (j : Nat) : (ints xs)[j]? = xs[j]?.map (Value.int .i64) := by simp [ints]
theorem ints_append (xs ys : List Int) : ints (xs ++ ys) = ints xs ++ ints ys := by simp [ints]

theorem Rd.at_ {w : World} {A : Option Addr} {vs : List Value} (h : Rd w A vs) {j : Nat} {v : Value} (hj : vs[j]? = some v) : ∃ b o, A = some ⟨b, o, none⟩ ∧ w.cell? ⟨b, o + j, none⟩ = some v := by
  obtain ⟨b, o, hA, hc⟩ := h.2 (fun e => by rw [e] at hj; simp at hj)
  exact ⟨b, o, hA, hc j v hj⟩
theorem Rd.below {w w' : World} {A : Option Addr} {vs : List Value} (h : Rd w A vs) (hb : Below w.heap.size w w') : Rd w' A vs := by
  refine ⟨h.1, fun hn => ?_⟩
  obtain ⟨b, o, hA, hc⟩ := h.2 hn
  refine ⟨b, o, hA, fun j v hj => ?_⟩
  have := hc j v hj
  exact (hb.cell (p := ⟨b, o + j, none⟩) (World.block_lt_of_cell? w _ this)).trans this
theorem Rd.get {w : World} {A : Option Addr} {xs : List Int} (h : Rd w A (ints xs)) {j : Nat} (hj : j < xs.length) : ∃ b o, A = some ⟨b, o, none⟩ ∧ w.cell? ⟨b, o + j, none⟩ = some (.int .i64 (xs[j]'hj)) :=
  h.at_ (by rw [ints_get, List.getElem?_eq_getElem hj]; rfl)

/-- A slice value reads as these whole numbers. -/
def RdI (w : World) (v : Value) (xs : List Int) : Prop := ∃ A c, v = .slice A xs.length c ∧ Rd w A (ints xs)
theorem RdI.below {w w' : World} {v : Value} {xs : List Int} (h : RdI w v xs) (hb : Below w.heap.size w w') : RdI w' v xs := by
  obtain ⟨A, c, e, h⟩ := h
  exact ⟨A, c, e, h.below hb⟩
theorem RdI.le {w : World} {v : Value} {xs : List Int} (h : RdI w v xs) : xs.length ≤ 9223372036854775807 := by
  obtain ⟨A, c, e, h⟩ := h
  have := h.1
  rwa [ints_length] at this
theorem RdI.alloc {w : World} {v : Value} {xs : List Int} (h : RdI w v xs) (o : Obj) : RdI (w.alloc o) v xs := h.below ((Below.refl _ _).alloc (Nat.le_refl _) _)

/-! ### Owning -/
/-- A slice value of the call's own (its block from 'base' on), whose elements are these values, each one cell. -/
def Own (w : World) (base : Nat) (e : TypeId) (v : Value) (vs : List Value) : Prop := w.ownsRow base e 1 v vs.length vs
theorem Own.nil (w : World) (base : Nat) (e : TypeId) : Own w base e (.slice none 0 0) [] := ⟨rfl, .inl ⟨rfl, rfl⟩⟩
theorem Own.slice {w : World} {base : Nat} {e : TypeId} {v : Value} {vs : List Value} (h : Own w base e v vs) : ∃ A c, v = .slice A vs.length c := by
  rcases h.2 with ⟨h1, h2⟩ | ⟨g, cap, cur, h1, _⟩
  · exact ⟨none, 0, by rw [h1, h2]⟩
  · exact ⟨_, _, h1⟩
theorem Own.form {w : World} {base : Nat} {e : TypeId} {v : Value} {vs : List Value} (h : Own w base e v vs) (hp : 0 < vs.length) : ∃ g c, v = .slice (some ⟨g, 0, none⟩) vs.length c ∧ base ≤ g ∧ g < w.heap.size := by
  rcases h.2 with ⟨h1, h2⟩ | ⟨g, cap, cur, h1, hb, hg, _⟩
  · omega
  · exact ⟨g, cap, h1, hb, hp_lt hg⟩
theorem Own.le {w : World} {base : Nat} {e : TypeId} {v : Value} {vs : List Value} (h : Own w base e v vs) : vs.length ≤ 9223372036854775807 := by
  rcases h.2 with ⟨h1, h2⟩ | ⟨g, cap, cur, h1, hb, hg, hn, hm, _⟩
  · omega
  · unfold maxLen at hm; omega
theorem Own.rd {w : World} {base : Nat} {e : TypeId} {A : Option Addr} {n c : Nat} {vs : List Value} (h : Own w base e (.slice A n c) vs) : n = vs.length ∧ Rd w A vs := by
  obtain ⟨A', c', he⟩ := h.slice
  simp only [Value.slice.injEq] at he
  refine ⟨he.2.1, h.le, fun hn => ?_⟩
  have hp : 0 < vs.length := List.length_pos_iff.2 hn
  obtain ⟨g, c2, h1, _⟩ := h.form hp
  simp only [Value.slice.injEq] at h1
  refine ⟨g, 0, h1.1, fun j v hj => ?_⟩
  have := World.ownsRow.cells (g := g) h (by rw [h1.1]; rfl) j v hj
  have ha : (⟨g, 0, none⟩ : Addr).add j = ⟨g, 0 + j, none⟩ := by unfold Addr.add; split <;> simp_all
  rwa [ha] at this
theorem Own.rdI {w : World} {base : Nat} {e : TypeId} {v : Value} {xs : List Int} (h : Own w base e v (ints xs)) : RdI w v xs := by
  obtain ⟨A, c, rfl⟩ := h.slice
  exact ⟨A, c, by rw [ints_length], h.rd.2⟩
theorem Own.grown {w w' : World} {base : Nat} {e : TypeId} {v : Value} {vs : List Value} {row : Option Nat} (h : Own w base e v vs) (hg : w.grownBy w' row) (hne : v.ownBlock = none ∨ v.ownBlock ≠ row) : Own w' base e v vs := World.ownsRow.kept h hg hne
theorem grown_bel {w w' : World} (h : Below w.heap.size w w') : w.grownBy w' none := ⟨h.os, h.tape, h.output, h.size, fun k hk _ => h.block k hk⟩
theorem Own.below {w w' : World} {base : Nat} {e : TypeId} {v : Value} {vs : List Value} (h : Own w base e v vs) (hb : Below w.heap.size w w') : Own w' base e v vs :=
  h.grown (grown_bel hb) (by cases hv : v.ownBlock <;> simp)
theorem Own.alloc {w : World} {base : Nat} {e : TypeId} {v : Value} {vs : List Value} (h : Own w base e v vs) (o : Obj) : Own (w.alloc o) base e v vs := h.below ((Below.refl _ _).alloc (Nat.le_refl _) _)
theorem Own.mono {w : World} {base base' : Nat} {e : TypeId} {v : Value} {vs : List Value} (h : Own w base e v vs) (hb : base' ≤ base) : Own w base' e v vs := by
  refine ⟨h.1, ?_⟩
  rcases h.2 with h1 | ⟨g, cap, cur, h1, hg, rest⟩
  · exact .inl h1
  · exact .inr ⟨g, cap, cur, h1, by omega, rest⟩
theorem Own.block {w : World} {base : Nat} {e : TypeId} {v : Value} {vs : List Value} (h : Own w base e v vs) : ∀ k, v.ownBlock = some k → base ≤ k ∧ k < w.heap.size := World.ownsRow.lt h
theorem Own.cell {w : World} {base g c n : Nat} {e : TypeId} {vs : List Value} (h : Own w base e (.slice (some ⟨g, 0, none⟩) n c) vs) {j : Nat} {v : Value} (hj : vs[j]? = some v) : w.cell? ⟨g, j, none⟩ = some v := by
  have := World.ownsRow.cells (g := g) h rfl j v hj
  have ha : (⟨g, 0, none⟩ : Addr).add j = ⟨g, j, none⟩ := by unfold Addr.add; split <;> simp_all
  rwa [ha] at this
theorem Own.frozen {w : World} {base g c n : Nat} {e : TypeId} {vs : List Value} (h : Own w base e (.slice (some ⟨g, 0, none⟩) n c) vs) (j : Nat) : w.frozen? ⟨g, j, none⟩ = false := by
  have hn := h.rd.1
  subst hn
  exact World.ownsRow.frozenAt h j
theorem Own.store {w : World} {base g c n : Nat} {e : TypeId} {vs : List Value} (h : Own w base e (.slice (some ⟨g, 0, none⟩) n c) vs) (j : Nat) (u : Value) : Own (w.setCell ⟨g, j, none⟩ u) base e (.slice (some ⟨g, 0, none⟩) n c) (vs.set j u) := by
  have hn := h.rd.1
  subst hn
  have := (World.ownsRow.stored h j u).1
  unfold Own
  rwa [List.length_set]
/-- A store into another block. -/
theorem Own.far {w : World} {base : Nat} {e : TypeId} {v : Value} {vs : List Value} (h : Own w base e v vs) {p : Addr} (hp : v.ownBlock ≠ some p.block) (u : Value) : Own (w.setCell p u) base e v vs :=
  h.grown (row := some p.block) ⟨rfl, rfl, rfl, by simp [World.setCell], fun k _ hk => Below.heap_setCell _ _ _ _ (fun e => hk (by rw [e]))⟩ (.inr hp)

/-! ### A list that is filled place by place -/
def part (l : List Value) (n k : Nat) (z : Value) : List Value := l.take k ++ List.replicate (n - k) z
theorem part_length (l : List Value) (n k : Nat) (z : Value) (hl : l.length = n) (hk : k ≤ n) : (part l n k z).length = n := by simp [part]; omega
theorem part_zero (l : List Value) (n : Nat) (z : Value) : part l n 0 z = List.replicate n z := by simp [part]
theorem part_all (l : List Value) (n : Nat) (z : Value) (hl : l.length = n) : part l n n z = l := by simp [part, ← hl]
theorem part_get (l : List Value) (n k : Nat) (z : Value) (hl : l.length = n) (hk : k < n) : (part l n k z)[k]? = some z := by
  have h1 : ¬ k < min k l.length := by omega
  have h2 : k - min k l.length < n - k := by omega
  simp [part, List.getElem?_append, h1, h2]
theorem part_set (l : List Value) (n k : Nat) (z v : Value) (hl : l.length = n) (hk : k < n) (hv : l[k]? = some v) : (part l n k z).set k v = part l n (k + 1) z := by
  have e : n - k = (n - (k + 1)) + 1 := by omega
  have ht : l.take (k + 1) = l.take k ++ [v] := by rw [List.take_add_one, hv]; rfl
  unfold part
  rw [ht, e, List.replicate_succ, List.set_append_right _ _ (by simp; omega)]
  simp [show min k l.length = k by omega]

/-! ### make and append -/
section
variable {P : Program} {w : World} {ops : Array Oper} {rest : List Oper} {o : Oper} {a : Act} {Q : Exit → Act → World → Prop}
theorem mk_own (hgd : o.guard = none) (l c : Operand) (t : TypeId) (hop : o.op = Op.makeSlice t l c) (base : Nat) (e : TypeId) (z : Value) (bytes : Nat) (h1 : P.underlying t = some (.slice e))
    (hinfo : (P.info? e).map (fun i => (i.zero, i.size, i.bytes)) = some (some z, 1, bytes)) (hz : z.cells = #[z]) (n : Nat) (hl : a.eval l = .int .i64 n) (hc : a.eval c = .int .i64 n) (b2 : bytes * n ≤ 281474976710656) (b3 : n ≤ 9223372036854775807) (b4 : base ≤ w.heap.size)
    (hK : ∀ w', Own w' base e (.slice (some ⟨w.heap.size, 0, none⟩) n n) (List.replicate n z) → w.grownBy w' none → w.heap.size < w'.heap.size → wpList P ops Q rest (a.put o.dst (.slice (some ⟨w.heap.size, 0, none⟩) n n)) w') :
    wpList P ops Q (o :: rest) a w := by
  obtain ⟨i, hi, hz0, hz1, hz2⟩ := info_parts hinfo
  refine wpList_make_full w hgd l c t hop base e i z 1 h1 hi hz0 hz1 .i64 .i64 n n n hl hc rfl rfl (by rw [hz2]; exact b2) (by unfold maxLen; omega) b4 fun w' ho hg => ?_
  rw [hz, Nat.mul_one, toList_madeCells_one] at ho
  have ho' : Own w' base e (.slice (some ⟨w.heap.size, 0, none⟩) n n) (List.replicate n z) := by unfold Own; rw [List.length_replicate]; exact ho
  refine hK w' ho' hg ?_
  have := World.ownsRow.lt ho w.heap.size rfl
  omega

/-- append(v, u) of one element of one cell: behind the box of the variadic. -/
theorem app_own (hgd : o.guard = none) (s x : Operand) (t : TypeId) (hop : o.op = .call { callee := .builtin .append, args := #[s, x], argTypes := #[t, t] }) (base : Nat) (e : TypeId) (z : Value) (bytes : Nat) (h1 : P.underlying t = some (.slice e))
    (hinfo : (P.info? e).map (fun i => (i.zero, i.size, i.bytes)) = some (some z, 1, bytes)) (hz : z.cells.size = 1) {v u : Value} {vs : List Value} {te : TypeId} (hown : Own w base e v vs) (hs : a.eval s = v) (hx : a.eval x = .slice (some ⟨w.heap.size, 0, none⟩) 1 1) (h1c : u.oneCell' = true)
    (hlen : vs.length + 1 ≤ 1099511627776) (hby : bytes ≤ 64) (hbase : base ≤ w.heap.size)
    (hK : ∀ v' w', Own w' base e v' (vs ++ [u]) → w.grownBy w' v.ownBlock → w.heap.size < w'.heap.size → wpList P ops Q rest (a.put o.dst v') w') : wpList P ops Q (o :: rest) a (w.alloc (.cells #[u] te)) := by
  obtain ⟨i, hi, hz0, hz1, hz2⟩ := info_parts hinfo
  refine wpList_append_own _ hgd s x t hop base e i z 1 bytes h1 hi hz0 hz1 hz2 hz (by decide) v vs.length vs hs (World.ownsRow.alloc hown _) ⟨w.heap.size, 0, none⟩ 1 1 [u] hx rfl ?_ ?_ ?_ ?_ ?_ ?_
  · intro j y hj
    match j, hj with
    | 0, hj =>
      simp at hj
      subst hj
      show (w.alloc (.cells #[u] te)).cell? ⟨w.heap.size, 0, none⟩ = some u
      rw [blkc (hp_new rfl)]
      rfl
  · intro y hy; simp at hy; subst hy; exact h1c
  · unfold maxLen; omega
  · have : (vs.length + 1) * bytes ≤ 1099511627776 * 64 := Nat.mul_le_mul hlen hby
    omega
  · simp; omega
  · intro v' w' ho hg _
    have ho' : Own w' base e v' (vs ++ [u]) := by unfold Own; rw [List.length_append]; exact ho
    refine hK v' w' ho' ⟨hg.os, hg.tape, hg.output, ?_, fun k hk hr => ?_⟩ ?_
    · have := hg.size; simp at this; omega
    · rw [hg.block k (by simp; omega) hr, hpA, if_neg (by omega)]
    · have := hg.size; simp at this; omega
end
/-- What stands below is as it was behind a make or an append to a slice of the call's own. -/
theorem bel_grown {B : Nat} {w w1 w2 : World} (h : Below B w w1) {row : Option Nat} (hg : w1.grownBy w2 row) (hB : B ≤ w1.heap.size) (hr : ∀ k, row = some k → B ≤ k) : Below B w w2 := h.grown hg hB hr

theorem bel_own {w w2 : World} {B : Nat} {e : TypeId} {v : Value} {vs : List Value} (ho : Own w B e v vs) (hg : w.grownBy w2 v.ownBlock) (hB : B ≤ w.heap.size) : Below B w w2 :=
  (Below.refl B w).grown hg hB (fun k hk => (ho.block k hk).1)
theorem info_i64 : (Tryd.prog.info? 2).map (fun i => (i.zero, i.size, i.bytes)) = some (some (.int .i64 0), 1, 8) := by kernel_rfl
theorem info_u8 : (Tryd.prog.info? 5).map (fun i => (i.zero, i.size, i.bytes)) = some (some (.int .u8 0), 1, 1) := by kernel_rfl
end Go.Proofs.YtighjpnjbgjgaaaDoor

/- Words of the walks: slices of slices; lists all of whose members fit. -/
namespace Go.Proofs.YtighjpnjbgjgaaaDoor
open Go.RowKit

theorem all_no {α : Type} {p : α → Bool} {l : List α} {k : Nat} (hk : k < l.length) (h : p l[k] = false) : l.all p = false := by
  rw [Bool.eq_false_iff]
  intro hc
  have := List.all_eq_true.1 hc l[k] (List.getElem_mem hk)
  rw [h] at this; cases this
theorem all_yes {α : Type} {p : α → Bool} {l : List α} (h : ∀ k, (hk : k < l.length) → p l[k] = true) : l.all p = true :=
  List.all_eq_true.2 fun x hx => by
    obtain ⟨i, hi, rfl⟩ := List.getElem_of_mem hx
    exact h i hi
theorem ltSucc' {n : Nat} {p : (k : Nat) → k < n → Prop} {k : Nat} (hk : k < n) (h : ∀ j, (hj : j < n) → j < k → p j hj) (hp : p k hk) : ∀ j, (hj : j < n) → j < k + 1 → p j hj := by
  intro j hj hlt
  by_cases e : j = k
  · subst e; exact hp
  · exact h j hj (by omega)

/-- A slice value reads as these lists of whole numbers. -/
def RdLL (w : World) (v : Value) (xss : List (List Int)) : Prop :=
  ∃ (A : Option Addr) (c : Nat) (rows : List Value), v = .slice A xss.length c ∧ Rd w A rows ∧ rows.length = xss.length ∧ ∀ (j : Nat) (r : Value) (xs : List Int), rows[j]? = some r → xss[j]? = some xs → RdI w r xs
theorem RdLL.below {w w' : World} {v : Value} {xss : List (List Int)} (h : RdLL w v xss) (hb : Below w.heap.size w w') : RdLL w' v xss := by
  obtain ⟨A, c, rows, e, hr, hl, h⟩ := h
  exact ⟨A, c, rows, e, hr.below hb, hl, fun j r xs h1 h2 => (h j r xs h1 h2).below hb⟩
theorem RdLL.le {w : World} {v : Value} {xss : List (List Int)} (h : RdLL w v xss) : xss.length ≤ 9223372036854775807 := by
  obtain ⟨A, c, rows, e, hr, hl, h⟩ := h
  have := hr.1
  omega
theorem RdLL.lit1 {w : World} {v : Value} {xs : List Int} (h : RdI w v xs) (t : TypeId) (n : Nat) (hn : n = w.heap.size) : RdLL (w.alloc (.cells #[v] t)) (.slice (some ⟨n, 0, none⟩) 1 1) [xs] :=
  ⟨some ⟨n, 0, none⟩, 1, [v], rfl, ⟨by simp, fun _ => ⟨n, 0, rfl, fun j y hj => by
    match j, hj with
    | 0, hj =>
      rw [blkc (hp_new hn)]
      exact hj⟩⟩, rfl, fun j r ys h1 h2 => by
    match j, h1, h2 with
    | 0, h1, h2 =>
      simp at h1 h2
      subst h1 h2
      exact h.alloc _⟩
theorem RdLL.lit2 {w : World} {v u : Value} {xs ys : List Int} (h : RdI w v xs) (h' : RdI w u ys) (t : TypeId) (n : Nat) (hn : n = w.heap.size) : RdLL (w.alloc (.cells #[v, u] t)) (.slice (some ⟨n, 0, none⟩) 2 2) [xs, ys] :=
  ⟨some ⟨n, 0, none⟩, 2, [v, u], rfl, ⟨by simp, fun _ => ⟨n, 0, rfl, fun j y hj => by
    match j, hj with
    | 0, hj =>
      rw [blkc (hp_new hn)]
      exact hj
    | 1, hj =>
      rw [blkc (hp_new hn)]
      exact hj⟩⟩, rfl, fun j r zs h1 h2 => by
    match j, h1, h2 with
    | 0, h1, h2 =>
      simp at h1 h2
      subst h1 h2
      exact h.alloc _
    | 1, h1, h2 =>
      simp at h1 h2
      subst h1 h2
      exact h'.alloc _⟩
end Go.Proofs.YtighjpnjbgjgaaaDoor

/- Walks of the laws' own helpers over slices of whole numbers: the copy, the comparison, the marks. -/
namespace Go.Proofs.YtighjpnjbgjgaaaDoor
open Go.RowKit

theorem retv {v v' : Value} (h : v = v') : Ending.returned v = .returned v' := by rw [h]

/-- The marks from s on. -/
def marks (s : Int) (n : Nat) : List Int := (List.range n).map fun i : Nat => s + i
theorem marks_length (s : Int) (n : Nat) : (marks s n).length = n := by simp [marks]
theorem marks_get (s : Int) (n i : Nat) (h : i < n) : (marks s n)[i]? = some (s + i) := by simp [marks, h]
/-- The first k places marked, the rest as it was. -/
def marked (vs : List Value) (s : Int) (k : Nat) : List Value := ints (marks s k) ++ vs.drop k
theorem marked_zero (vs : List Value) (s : Int) : marked vs s 0 = vs := by simp [marked, marks, ints]
theorem marked_all (vs : List Value) (s : Int) : marked vs s vs.length = ints (marks s vs.length) := by simp [marked]
theorem marked_length (vs : List Value) (s : Int) (k : Nat) (hk : k ≤ vs.length) : (marked vs s k).length = vs.length := by simp [marked, ints_length, marks_length]; omega
theorem marked_get (vs : List Value) (s : Int) (k : Nat) : (marked vs s k)[k]? = vs[k]? := by
  unfold marked
  rw [List.getElem?_append_right (by rw [ints_length, marks_length]; omega), ints_length, marks_length]
  simp
theorem marked_set (vs : List Value) (s : Int) (k : Nat) (hk : k < vs.length) : (marked vs s k).set k (.int .i64 (s + k)) = marked vs s (k + 1) := by
  unfold marked
  rw [List.set_append_right _ _ (by rw [ints_length, marks_length]; omega), ints_length, marks_length, Nat.sub_self]
  have e : marks s (k + 1) = marks s k ++ [s + k] := by simp [marks, List.range_succ]
  have e2 : vs.drop k = vs[k] :: vs.drop (k + 1) := List.drop_eq_getElem_cons hk
  rw [e, ints_append, e2]
  rw [List.append_assoc]
  rfl

theorem _root_.Go.World.grownBy.setCell_own {w wr : World} {g n c : Nat} (h : w.grownBy wr (Value.slice (some ⟨g, 0, none⟩) n c).ownBlock) (k : Nat) (u : Value) : w.grownBy (wr.setCell ⟨g, k, none⟩ u) (Value.slice (some ⟨g, 0, none⟩) n c).ownBlock :=
  ⟨h.os, h.tape, h.output, by simpa [World.setCell] using h.size, fun i hi hne => by
    rw [Below.heap_setCell _ _ _ _ (fun e => hne (by rw [e]; rfl))]
    exact h.block i hi hne⟩

/-! ### What stays as it was where a slice of the law's own is written -/
theorem own_ne {wa wb : World} {ba bb : Nat} {ea eb : TypeId} {va vb : Value} {la lb : List Value} (ha : Own wa ba ea va la) (hb : Own wb bb eb vb lb) (h : wa.heap.size ≤ bb) : va.ownBlock = none ∨ va.ownBlock ≠ vb.ownBlock := by
  cases hv : va.ownBlock with
  | none => exact .inl rfl
  | some k =>
    right
    intro e
    have h1 := (ha.block k hv).2
    have h2 := (hb.block k e.symm).1
    omega
theorem own_ne' {wa wb : World} {ba bb : Nat} {ea eb : TypeId} {va vb : Value} {la lb : List Value} (ha : Own wa ba ea va la) (hb : Own wb bb eb vb lb) (h : wa.heap.size ≤ bb) : vb.ownBlock = none ∨ vb.ownBlock ≠ va.ownBlock := by
  rcases own_ne ha hb h with h1 | h1
  · cases hv : vb.ownBlock with
    | none => exact .inl rfl
    | some k => right; rw [h1]; exact fun e => by cases e
  · exact .inr (Ne.symm h1)
theorem bel_mark {w wa wb : World} {base : Nat} {e : TypeId} {v : Value} {vs : List Value} (B : Below w.heap.size w wa) (ho : Own wa base e v vs) (hg : wa.grownBy wb v.ownBlock) (hb : w.heap.size ≤ base) : Below w.heap.size w wb :=
  B.grown hg B.size (fun k hk => Nat.le_trans hb (ho.block k hk).1)
theorem hp_mark {wa wb : World} {base : Nat} {e : TypeId} {v : Value} {vs : List Value} {k : Nat} {x : Obj} (h : wa.heap[k]? = some x) (ho : Own wa base e v vs) (hg : wa.grownBy wb v.ownBlock) (hb : k < base) : wb.heap[k]? = some x :=
  (hg.block k (hp_lt h) (fun hh => by have := (ho.block k hh.symm).1; omega)).trans h
end Go.Proofs.YtighjpnjbgjgaaaDoor

/- Walks: slices.IndexFunc and ContainsFunc for whatever predicate; the words of letters. -/
namespace Go.Proofs.YtighjpnjbgjgaaaDoor
open Go.RowKit

theorem quietS {P : Program} {f : FuncId} {args : Array Value} {w : World} {n : Nat} {v : Value}
    (h : Calls P f args (w.drewN n) fun e w' => e = .returned v ∧ w.drewN n = w') : Calls P f args (w.drewN n) fun e w'' => e = .returned v ∧ ∃ m, w'' = w.drewN m :=
  h.mono fun _ _ ⟨he, hm⟩ => ⟨he, n, hm.symm⟩

/-! ### A predicate that is handed to the library -/
def PredB (g : Nat) (lb : Array Value) (e : Nat → Value) (p : Nat → Bool) (n : Nat) (w : World) : Prop :=
  ∀ j W, j < n → Below w.heap.size w W → Calls Tryd.prog g (#[e j] ++ lb) W fun x w' => x = .returned (.bool (p j)) ∧ Below W.heap.size W w'
def fidx (p : Nat → Bool) (n : Nat) : Int := if first p n < n then (first p n : Nat) else -1
theorem fidx_hit {p : Nat → Bool} {n k : Nat} (hk : k < n) (h1 : p k = true) (h2 : ∀ j, j < k → p j = false) : fidx p n = k := by
  unfold fidx
  rw [first_eq (v := k) (by omega) (fun _ => h1) h2, if_pos hk]
theorem fidx_miss {p : Nat → Bool} {n : Nat} (h2 : ∀ j, j < n → p j = false) : fidx p n = -1 := by
  unfold fidx
  rw [first_eq (v := n) (Nat.le_refl _) (fun h => absurd h (Nat.lt_irrefl _)) h2, if_neg (Nat.lt_irrefl _)]
theorem fidx_any (p : Nat → Bool) (n : Nat) : decide (0 ≤ fidx p n) = (List.range n).any p := by
  unfold fidx
  obtain ⟨h1, h2, h3⟩ := first_spec p n
  rw [Bool.eq_iff_iff]
  simp only [List.any_eq_true, List.mem_range, decide_eq_true_eq]
  constructor
  · intro h
    by_cases hk : first p n < n
    · exact ⟨_, hk, h2 hk⟩
    · rw [if_neg hk] at h; omega
  · rintro ⟨k, hk, hp⟩
    have : first p n < n := by
      apply Decidable.byContradiction
      intro hc
      have := h3 k (by omega)
      rw [hp] at this; cases this
    rw [if_pos this]; omega
theorem fidx_bd (p : Nat → Bool) (n : Nat) : -1 ≤ fidx p n ∧ fidx p n < n ∨ fidx p n = -1 := by
  unfold fidx
  split
  · left; omega
  · right; rfl

/-! ### Words of letters -/
def lOk (d : Int) (s : ByteArray) (k : Nat) : Bool := decide (48 ≤ s[k]!.toNat ∧ (s[k]!.toNat : Int) - 48 < d)
def lettersB (d : Int) (s : ByteArray) : Bool := (List.range s.size).all (lOk d s)
def wordB (d : Int) (s : ByteArray) : Bool := lettersB d s && decide (s.size ≤ 40)
theorem letters_no {d : Int} {s : ByteArray} {k : Nat} (hk : k < s.size) (h : lOk d s k = false) : lettersB d s = false := by
  rw [Bool.eq_false_iff]
  intro hc
  have := List.all_eq_true.1 hc k (List.mem_range.2 hk)
  rw [h] at this; cases this
theorem letters_yes {d : Int} {s : ByteArray} (h : ∀ k, k < s.size → lOk d s k = true) : lettersB d s = true := List.all_eq_true.2 fun k hk => h k (List.mem_range.1 hk)
theorem lOk_yes {d : Int} {s : ByteArray} {k : Nat} (hk : k < s.size) (h1 : 48 ≤ s[k].toNat) (h2 : (s[k].toNat : Int) - 48 < d) : lOk d s k = true := by
  unfold lOk; rw [getElem!_pos s k hk]; exact decide_eq_true ⟨h1, h2⟩
theorem lOk_no {d : Int} {s : ByteArray} {k : Nat} (hk : k < s.size) (h : ¬ (48 ≤ s[k].toNat ∧ (s[k].toNat : Int) - 48 < d)) : lOk d s k = false := by
  unfold lOk; rw [getElem!_pos s k hk]; exact decide_eq_false h
theorem ltSucc {p : Nat → Prop} {k : Nat} (h : ∀ j, j < k → p j) (hk : p k) : ∀ j, j < k + 1 → p j := by
  intro j hj
  by_cases e : j = k
  · rw [e]; exact hk
  · exact h j (by omega)

end Go.Proofs.YtighjpnjbgjgaaaDoor

/- Walks: bytes, letters, words of letters. -/
namespace Go.Proofs.YtighjpnjbgjgaaaDoor
open Go.RowKit

/-! ### Bytes -/
def u8s (xs : List Int) : List Value := xs.map fun x => .int .u8 x
theorem u8s_length (xs : List Int) : (u8s xs).length = xs.length := by simp [u8s]
theorem u8s_get (xs : List Int) (j : Nat) : (u8s xs)[j]? = xs[j]?.map (Value.int .u8) := by simp [u8s]
theorem u8s_append (xs ys : List Int) : u8s (xs ++ ys) = u8s xs ++ u8s ys := by simp [u8s]
def RdU (w : World) (v : Value) (xs : List Int) : Prop := ∃ A c, v = .slice A xs.length c ∧ Rd w A (u8s xs)
theorem Own.rdU {w : World} {base : Nat} {e : TypeId} {v : Value} {xs : List Int} (h : Own w base e v (u8s xs)) : RdU w v xs := by
  obtain ⟨A, c, rfl⟩ := h.slice
  exact ⟨A, c, by rw [u8s_length], h.rd.2⟩
/-- A slice of bytes, as a string. -/
theorem run_toString {w : World} {v : Value} {xs : List Int} (h : RdU w v xs) : (convert 43 9 v).run Tryd.prog w = .ok (.string (strOfNums xs)) w := by
  obtain ⟨A, c, rfl, hl, hr⟩ := h
  by_cases hx : xs = []
  · subst hx
    cases A with
    | none => exact run_convert_bytes_nil w 43 5 Tryd.underlying43 Tryd.underlying5 _ _ _ Tryd.underlying9
    | some a =>
      have h0 : (loadCells a 0).run Tryd.prog w = .ok (([] : List Int).map (Value.int .u8)).toArray w := run_loadCells_list (P := Tryd.prog) w a [] (fun j v hj => by simp at hj)
      rw [show ([] : List Int).length = 0 from rfl, run_convert_bytes_string w 43 9 5 _ _ c Tryd.underlying43 Tryd.underlying5 Tryd.underlying9, run_bytesToString w a 0 c [] h0]
      rfl
  · obtain ⟨b, o, rfl, hc⟩ := hr (fun e => hx (by simpa [u8s] using e))
    exact run_convert_bytes_arg w 43 5 Tryd.underlying43 Tryd.underlying5 b o _ c xs rfl (fun i hi => by
      have := hc i (.int .u8 (xs.getD i 0)) (by rw [u8s_get, List.getElem?_eq_getElem hi, getD_lt 0 hi]; rfl)
      exact this) _ Tryd.underlying9

/-! ### Small callees -/
theorem letter_any (x : Int) (w : World) (h0 : 0 ≤ x) (h1 : x ≤ 200) : Calls Tryd.prog 20 #[.int .i64 x] w fun e w' => e = .returned (.int .u8 (48 + x)) ∧ w = w' := by
  go_enter Tryd.func20, Tryd.ntmps20
  go_wp2
  go_ret
  exact ⟨rfl, rfl⟩

def lt (s : ByteArray) (k : Nat) : Nat := s[k]!.toNat - 48
theorem lt_of {s : ByteArray} {k : Nat} (hk : k < s.size) (h : 48 ≤ s[k].toNat) : ((s[k].toNat : Int) - 48) = lt s k := by
  unfold lt; rw [getElem!_pos s k hk]; omega
/-- A word of letters, place by place. -/
structure Lts (l : Nat) (s : ByteArray) : Prop where
  lo : ∀ k, (hk : k < s.size) → 48 ≤ s[k].toNat
  hi : ∀ k, k < s.size → lt s k < l
theorem Lts.of {l : Nat} {s : ByteArray} (h : lettersB l s = true) : Lts l s := by
  have key : ∀ k, (hk : k < s.size) → 48 ≤ s[k].toNat ∧ (s[k].toNat : Int) - 48 < l := by
    intro k hk
    have := List.all_eq_true.1 h k (List.mem_range.2 hk)
    unfold lOk at this
    rw [getElem!_pos s k hk] at this
    exact of_decide_eq_true this
  refine ⟨fun k hk => (key k hk).1, fun k hk => ?_⟩
  have := key k hk
  unfold lt
  rw [getElem!_pos s k hk]
  omega
end Go.Proofs.YtighjpnjbgjgaaaDoor

/- Words of the walks: a machine that is one, in natural numbers; how it lies in memory and in a value. -/
namespace Go.Proofs.YtighjpnjbgjgaaaDoor
open Go.RowKit

/-- A machine in natural numbers: letters, states, where it goes on and what it puts out. -/
structure Gm where
  l : Nat
  s : Nat
  nx : Nat → Nat → Nat
  ou : Nat → Nat → Nat
def Gm.mc (g : Gm) : Mc := ⟨g.l, g.s, g.nx, g.ou⟩
/-- It is a machine. -/
structure Gm.Ok (g : Gm) : Prop where
  l2 : 2 ≤ g.l
  l3 : g.l ≤ 3
  s1 : 1 ≤ g.s
  s16 : g.s ≤ 16
  nlt : ∀ q x, q < g.s → x < g.l → g.nx q x < g.s
  olt : ∀ q x, q < g.s → x < g.l → g.ou q x < g.l
  inj : ∀ q x y, q < g.s → x < g.l → y < g.l → g.ou q x = g.ou q y → x = y
  zn : ∀ q x, q < 16 → x < 3 → g.s ≤ q ∨ g.l ≤ x → g.nx q x = 0
  zo : ∀ q x, q < 16 → x < 3 → g.s ≤ q ∨ g.l ≤ x → g.ou q x = 0

theorem Mc.rowOk_iff (m : Mc) (q : Nat) : m.rowOk q = true ↔ ∀ x, x < 3 → m.entryOk q x = true := by
  unfold Mc.rowOk
  simp
theorem Mc.to_gm {m : Mc} (h : m.ok = true) : ∃ g : Gm, m = g.mc ∧ g.Ok := by
  obtain ⟨hL, hS, hr⟩ := m.ok_iff.1 h
  have he : ∀ q x, q < 16 → x < 3 → m.entryOk q x = true := fun q x hq hx => (m.rowOk_iff q).1 (hr q hq) x hx
  refine ⟨⟨m.L.toNat, m.S.toNat, m.nx, m.ou⟩, ?_, ?_⟩
  · cases m with
    | mk L S nx ou =>
      show Mc.mk L S nx ou = Mc.mk (L.toNat : Int) (S.toNat : Int) nx ou
      have h1 : (L.toNat : Int) = L := by have := hL.1; simp only at this; omega
      have h2 : (S.toNat : Int) = S := by have := hS.1; simp only at this; omega
      rw [h1, h2]
  · have key : ∀ q x, q < m.S.toNat → x < m.L.toNat → (m.nx q x : Int) < m.S ∧ (m.ou q x : Int) < m.L ∧ ∀ y, y < x → m.ou q y ≠ m.ou q x := by
      intro q x hq hx
      have := (m.entry_iff q x).1 (he q x (by omega) (by omega))
      rwa [if_neg (by omega)] at this
    have key0 : ∀ q x, q < 16 → x < 3 → m.S.toNat ≤ q ∨ m.L.toNat ≤ x → m.nx q x = 0 ∧ m.ou q x = 0 := by
      intro q x hq hx hh
      have := (m.entry_iff q x).1 (he q x hq hx)
      rwa [if_pos (by omega)] at this
    refine ⟨by show 2 ≤ m.L.toNat; omega, by show m.L.toNat ≤ 3; omega, by show 1 ≤ m.S.toNat; omega, by show m.S.toNat ≤ 16; omega, ?_, ?_, ?_, fun q x hq hx hh => (key0 q x hq hx hh).1, fun q x hq hx hh => (key0 q x hq hx hh).2⟩
    · intro q x hq hx
      have := (key q x hq hx).1
      show m.nx q x < m.S.toNat
      omega
    · intro q x hq hx
      have := (key q x hq hx).2.1
      show m.ou q x < m.L.toNat
      omega
    · intro q x y hq hx hy e
      by_cases h1 : x < y
      · exact absurd e ((key q y hq hy).2.2 x h1)
      · by_cases h2 : y < x
        · exact absurd e.symm ((key q x hq hx).2.2 y h2)
        · omega

theorem Gm.ok {g : Gm} (h : g.Ok) : g.mc.ok = true := by
  rw [Mc.ok_iff]
  have h2 := h.l2
  have h3 := h.l3
  have h4 := h.s1
  have h5 := h.s16
  refine ⟨⟨by show (2 : Int) ≤ (g.l : Int); omega, by show (g.l : Int) ≤ 3; omega⟩, ⟨by show (1 : Int) ≤ (g.s : Int); omega, by show (g.s : Int) ≤ 16; omega⟩, fun q hq => (g.mc.rowOk_iff q).2 fun x hx => (g.mc.entry_iff q x).2 ?_⟩
  by_cases hh : g.s ≤ q ∨ g.l ≤ x
  · rw [if_pos (by show (g.s : Int) ≤ q ∨ (g.l : Int) ≤ x; omega)]
    exact ⟨h.zn q x hq hx hh, h.zo q x hq hx hh⟩
  · rw [if_neg (by show ¬ ((g.s : Int) ≤ q ∨ (g.l : Int) ≤ x); omega)]
    refine ⟨?_, ?_, ?_⟩
    · have := h.nlt q x (by omega) (by omega); show (g.nx q x : Int) < (g.s : Int); omega
    · have := h.olt q x (by omega) (by omega); show (g.ou q x : Int) < (g.l : Int); omega
    · intro y hy e
      have := h.inj q y x (by omega) (by omega) (by omega) e
      omega

/-- A machine lies in memory from cell o of block b on. -/
structure Gm.At (g : Gm) (w : World) (b o : Nat) : Prop where
  l : w.cell? ⟨b, o, none⟩ = some (.int .i64 g.l)
  s : w.cell? ⟨b, o + 1, none⟩ = some (.int .i64 g.s)
  n : ∀ q x, q < 16 → x < 3 → w.cell? ⟨b, o + 2 + q * 3 + x, none⟩ = some (.int .u8 (g.nx q x))
  o : ∀ q x, q < 16 → x < 3 → w.cell? ⟨b, o + 50 + q * 3 + x, none⟩ = some (.int .u8 (g.ou q x))
  nb : ∀ q x, q < 16 → x < 3 → g.nx q x < 256
  ob : ∀ q x, q < 16 → x < 3 → g.ou q x < 256
/-- The cells of a machine as a value. -/
structure Gm.Is (g : Gm) (cs : Array Value) : Prop where
  is : g.mc.Is cs
theorem Gm.Is.l {g : Gm} {cs : Array Value} (h : g.Is cs) : cs[0]? = some (.int .i64 g.l) := h.is.l
theorem Gm.Is.s {g : Gm} {cs : Array Value} (h : g.Is cs) : cs[1]? = some (.int .i64 g.s) := h.is.s
theorem Gm.At.of {g : Gm} {w : World} {b o : Nat} (h : g.mc.At w b o) : g.At w b o := ⟨h.l, h.s, h.n, h.o, h.nb, h.ob⟩
theorem Gm.At.of_is {g : Gm} {cs : Array Value} (h : g.Is cs) {w : World} {b : Nat} {t : TypeId} {fr : Nat × Nat} (hb : w.heap[b]? = some (.cells cs t fr)) : g.At w b 0 := Gm.At.of (Mc.At.of_is h.is hb)
theorem Gm.At.lt {g : Gm} {w : World} {b o : Nat} (h : g.At w b o) : b < w.heap.size := World.block_lt_of_cell? w _ h.l
theorem Gm.At.same {g : Gm} {w w' : World} {b o : Nat} (h : g.At w b o) (k : ∀ i, w'.cell? ⟨b, i, none⟩ = w.cell? ⟨b, i, none⟩) : g.At w' b o :=
  ⟨by rw [k]; exact h.l, by rw [k]; exact h.s, fun q x hq hx => by rw [k]; exact h.n q x hq hx, fun q x hq hx => by rw [k]; exact h.o q x hq hx, h.nb, h.ob⟩
theorem Gm.At.below {g : Gm} {w w' : World} {b o B : Nat} (h : g.At w b o) (hb : Below B w w') (hlt : b < B) : g.At w' b o := h.same fun i => hb.cell (p := ⟨b, i, none⟩) hlt
theorem Gm.At.bel {g : Gm} {w w' : World} {b o : Nat} (h : g.At w b o) (hb : Below w.heap.size w w') : g.At w' b o := h.below hb h.lt
theorem Gm.At.alloc {g : Gm} {w : World} {b o : Nat} (h : g.At w b o) (x : Obj) : g.At (w.alloc x) b o := h.bel ((Below.refl _ _).alloc (Nat.le_refl _) _)
theorem Gm.At.drewN {g : Gm} {w : World} {b o : Nat} (h : g.At w b o) (n : Nat) : g.At (w.drewN n) b o := h.bel (bel_drewN (Below.refl _ _) _)
end Go.Proofs.YtighjpnjbgjgaaaDoor

/- Walks: words over a machine's letters. -/
namespace Go.Proofs.YtighjpnjbgjgaaaDoor
open Go.RowKit
end Go.Proofs.YtighjpnjbgjgaaaDoor

/- Walks: IsGroupWord and the codes of arguments, of the program and of the reference. -/
namespace Go.Proofs.YtighjpnjbgjgaaaDoor
open Go.RowKit

def numOk (s : Nat) (k : Int) : Bool := decide (k ≠ 0 ∧ -(s : Int) ≤ k ∧ k ≤ s)
def gwB (s : Nat) (xs : List Int) : Bool := decide (xs.length ≤ 40) && xs.all (numOk s)
theorem num_no0 {s : Nat} {k : Int} (h : k = 0) : numOk s k = false := by unfold numOk; simp [h]
theorem num_no1 {s : Nat} {k : Int} (h : ¬ (-(s : Int) ≤ k ∧ k ≤ s)) : numOk s k = false := by unfold numOk; simp only [decide_eq_false_iff_not]; omega
theorem num_yes {s : Nat} {k : Int} (h0 : ¬ k = 0) (h : -(s : Int) ≤ k ∧ k ≤ s) : numOk s k = true := by unfold numOk; simp only [decide_eq_true_eq]; omega
/-- A group word of something that need not be a machine. -/
def Mc.gwB (m : Mc) (xs : List Int) : Bool := m.ok && YtighjpnjbgjgaaaDoor.gwB m.S.toNat xs
theorem any_not {α : Type} (p : α → Bool) (l : List α) (d : α) : (List.range l.length).any (fun j => !p (l.getD j d)) = !l.all p := by
  rw [Bool.eq_iff_iff, Bool.not_eq_true', List.all_eq_false]
  simp only [List.any_eq_true, List.mem_range, Bool.not_eq_true']
  constructor
  · rintro ⟨j, hj, h⟩
    exact ⟨l.getD j d, by rw [getD_lt d hj]; exact List.getElem_mem hj, by rw [h]; exact Bool.false_ne_true⟩
  · rintro ⟨x, hx, h⟩
    obtain ⟨i, hi, rfl⟩ := List.getElem_of_mem hx
    exact ⟨i, hi, by rw [getD_lt d hi]; simpa using h⟩
theorem ints_e (xs : List Int) : ∀ j, j < (ints xs).length → (ints xs)[j]? = some ((fun j => .int .i64 (xs.getD j 0)) j) := by
  intro j hj
  rw [ints_length] at hj
  rw [ints_get, List.getElem?_eq_getElem hj]
  simp [List.getElem?_eq_getElem hj]
end Go.Proofs.YtighjpnjbgjgaaaDoor

/- Walks: what a state makes of a word: the program's lead and the reference's l01Act. -/
namespace Go.Proofs.YtighjpnjbgjgaaaDoor
open Go.RowKit
theorem mout_any (g : Gm) (b o q x : Nat) (Q X : Int) (w : World) (hA : g.At w b o) (hQ : Q = q) (hX : X = x) (hq : q < 16) (hx : x < 3) :
    Calls Tryd.prog 21 #[.pointer (some ⟨b, o, none⟩), .int .i64 Q, .int .i64 X] w fun e w' => e = .returned (.int .i64 (g.ou q x)) ∧ w = w' := by
  subst hQ hX
  have a := hA.o q x hq hx
  have ab := hA.ob q x hq hx
  clear hA
  have i1 : (q : Int) < 16 := by omega
  have i2 : (x : Int) < 3 := by omega
  have i3 : (0 : Int) ≤ q := by omega
  have i4 : (0 : Int) ≤ x := by omega
  go_enter Tryd.func21, Tryd.ntmps21
  go_wp2
  go_ret
  exact ⟨rfl, rfl⟩

/-! ### What a state makes of a word -/
def Gm.st (g : Gm) (q : Nat) (s : ByteArray) : Nat → Nat
  | 0 => q
  | k + 1 => g.nx (g.st q s k) (lt s k)
/-- The letters that a state puts out, as bytes. -/
def Gm.ob (g : Gm) (q : Nat) (s : ByteArray) (n : Nat) : List Int := (List.range n).map fun k => 48 + (g.ou (g.st q s k) (lt s k) : Int)
def Gm.act (g : Gm) (q : Nat) (s : ByteArray) : ByteArray := strOfNums (g.ob q s s.size)
theorem Gm.ob_length (g : Gm) (q : Nat) (s : ByteArray) (n : Nat) : (g.ob q s n).length = n := by simp [Gm.ob]
theorem Gm.ob_succ (g : Gm) (q : Nat) (s : ByteArray) (n : Nat) : g.ob q s (n + 1) = g.ob q s n ++ [48 + (g.ou (g.st q s n) (lt s n) : Int)] := by simp [Gm.ob, List.range_succ]
theorem Gm.ob_get (g : Gm) (q : Nat) (s : ByteArray) (n k : Nat) (hk : k < n) : (g.ob q s n)[k]? = some (48 + (g.ou (g.st q s k) (lt s k) : Int)) := by simp [Gm.ob, hk]
theorem Gm.st_lt {g : Gm} (h : g.Ok) {q : Nat} (hq : q < g.s) {s : ByteArray} (hs : Lts g.l s) : ∀ k, k ≤ s.size → g.st q s k < g.s
  | 0, _ => hq
  | k + 1, hk => h.nlt _ _ (Gm.st_lt h hq hs k (by omega)) (hs.hi k (by omega))

end Go.Proofs.YtighjpnjbgjgaaaDoor

/- Walks: ActOnWord and SectionAt, of the program and of the reference, with the codes of their arguments. -/
namespace Go.Proofs.YtighjpnjbgjgaaaDoor
open Go.RowKit

/-- An empty slice that is not nil. -/
theorem Own.empty (w : World) (e : TypeId) (base : Nat) (hb : base ≤ w.heap.size) : Own (w.alloc (.cells #[] e)) base e (.slice (some ⟨w.heap.size, 0, none⟩) 0 0) [] :=
  ⟨rfl, .inr ⟨w.heap.size, 0, #[], rfl, hb, hp_new rfl, Nat.le_refl _, by unfold maxLen; omega, rfl, rfl⟩⟩

/-! ### Codes -/
def inS (m : Mc) (q : Int) : Bool := decide (0 ≤ q ∧ q ≤ m.S - 1)
/-- The code of a machine, a word and states. -/
def codeB (m : Mc) (s : ByteArray) (sts : List Int) : Int := if m.ok && wordB m.L s then (if sts.all (inS m) then 0 else 2) else 1
theorem codeB_bad {m : Mc} {s : ByteArray} {sts : List Int} (h : m.ok = false) : codeB m s sts = 1 := by unfold codeB; rw [h]; rfl
theorem codeB_word {m : Mc} {s : ByteArray} {sts : List Int} (h : wordB m.L s = false) : codeB m s sts = 1 := by unfold codeB; rw [h, Bool.and_false]; rfl
theorem codeB_no {m : Mc} {s : ByteArray} {sts : List Int} (h0 : m.ok = true) (h : wordB m.L s = true) (h2 : sts.all (inS m) = false) : codeB m s sts = 2 := by unfold codeB; rw [h0, h, h2]; rfl
theorem codeB_yes {m : Mc} {s : ByteArray} {sts : List Int} (h0 : m.ok = true) (h : wordB m.L s = true) (h2 : sts.all (inS m) = true) : codeB m s sts = 0 := by unfold codeB; rw [h0, h, h2]; rfl
theorem codeB_zero {m : Mc} {s : ByteArray} {sts : List Int} (h : codeB m s sts = 0) : m.ok = true ∧ wordB m.L s = true ∧ sts.all (inS m) = true := by
  unfold codeB at h
  cases h1 : m.ok <;> cases h2 : wordB m.L s <;> cases h3 : sts.all (inS m) <;> rw [h1, h2, h3] at h <;> simp at h ⊢
theorem all_one1 {α : Type} (p : α → Bool) (x : α) : [x].all p = p x := by simp
theorem RdI.lit1 (w : World) (x : Int) (t : TypeId) (n : Nat) (hn : n = w.heap.size) : RdI (w.alloc (.cells #[.int .i64 x] t)) (.slice (some ⟨n, 0, none⟩) 1 1) [x] :=
  ⟨some ⟨n, 0, none⟩, 1, rfl, by simp [ints], fun _ => ⟨n, 0, rfl, fun j v hj => by
    match j, hj with
    | 0, hj =>
      rw [blkc (hp_new hn)]
      exact hj⟩⟩
theorem RdI.lit2 (w : World) (x y : Int) (t : TypeId) (n : Nat) (hn : n = w.heap.size) : RdI (w.alloc (.cells #[.int .i64 x, .int .i64 y] t)) (.slice (some ⟨n, 0, none⟩) 2 2) [x, y] :=
  ⟨some ⟨n, 0, none⟩, 2, rfl, by simp [ints], fun _ => ⟨n, 0, rfl, fun j v hj => by
    match j, hj with
    | 0, hj =>
      rw [blkc (hp_new hn)]
      exact hj
    | 1, hj =>
      rw [blkc (hp_new hn)]
      exact hj⟩⟩
/-- A block that is laid, and what follows below it. -/
theorem bel_alloc (w : World) (o : Obj) : Below w.heap.size w (w.alloc o) := (Below.refl _ _).alloc (Nat.le_refl _) _

/-! ### ActOnWord, SectionAt -/
def Mc.gm (m : Mc) : Gm := ⟨m.L.toNat, m.S.toNat, m.nx, m.ou⟩
theorem Gm.mc_gm (g : Gm) : g.mc.gm = g := rfl
def actR (m : Mc) (a : Int) (s : ByteArray) : ByteArray × Int := if codeB m s [a] = 0 then (m.gm.act a.toNat s, 0) else (⟨#[]⟩, codeB m s [a])
def secR (m : Mc) (a : Int) (s : ByteArray) : Int × Int := if codeB m s [a] = 0 then (m.gm.st a.toNat s s.size, 0) else (0, codeB m s [a])
/-- What a code of naught says. -/
theorem code_zero {m : Mc} {s : ByteArray} {a : Int} (h : codeB m s [a] = 0) : ∃ (g : Gm) (q : Nat), m = g.mc ∧ a = q ∧ g.Ok ∧ q < g.s ∧ Lts g.l s ∧ s.size ≤ 40 := by
  obtain ⟨h1, h2, h3⟩ := codeB_zero h
  obtain ⟨g, rfl, hok⟩ := Mc.to_gm h1
  rw [all_one1] at h3
  have h3' : 0 ≤ a ∧ a ≤ (g.s : Int) - 1 := of_decide_eq_true h3
  unfold wordB at h2
  rw [Bool.and_eq_true] at h2
  exact ⟨g, a.toNat, rfl, by omega, hok, by omega, Lts.of h2.1, of_decide_eq_true h2.2⟩

end Go.Proofs.YtighjpnjbgjgaaaDoor

/- Walks: the laws' copy of a machine returns the same cells. -/
namespace Go.Proofs.YtighjpnjbgjgaaaDoor
open Go.RowKit
/-- A zero machine's cells. -/
def zeroM : Array Value := #[.int .i64 0, .int .i64 0] ++ Array.replicate 96 (.int .u8 0)
theorem zeroM_run (w : World) : (zeroValue 25).run Tryd.prog w = .ok (.agg zeroM) w := by kernel_rfl
theorem zeroM_size : zeroM.size = 98 := rfl
theorem all_one {vs : Array Value} (h : ∀ j, j < vs.size → ∃ v : Value, vs[j]? = some v ∧ v.oneCell' = true) : ∀ v ∈ vs.toList, v.oneCell' = true := by
  intro v hv
  obtain ⟨j, hj, rfl⟩ := List.getElem_of_mem hv
  obtain ⟨u, hu, hu1⟩ := h j (by simpa using hj)
  have : vs[j]? = some (vs.toList[j]) := by simp at hj; simp [hj]
  rw [hu] at this
  rw [← Option.some.inj this]; exact hu1
theorem Mc.Is.nxs {m : Mc} {cs : Array Value} (h : m.Is cs) : (cs.extract 2 50).size = 48 ∧ ∀ j, j < 48 → (cs.extract 2 50)[j]? = some (.int .u8 (m.nx (j / 3) (j % 3))) :=
  ⟨by simp [h.size], fun j hj => by rw [Array.getElem?_extract, if_pos (by have := h.size; omega), ← h.n (j / 3) (j % 3) (by omega) (by omega)]; congr 1; omega⟩
theorem Mc.Is.ous {m : Mc} {cs : Array Value} (h : m.Is cs) : (cs.extract 50 98).size = 48 ∧ ∀ j, j < 48 → (cs.extract 50 98)[j]? = some (.int .u8 (m.ou (j / 3) (j % 3))) :=
  ⟨by simp [h.size], fun j hj => by rw [Array.getElem?_extract, if_pos (by have := h.size; omega), ← h.o (j / 3) (j % 3) (by omega) (by omega)]; congr 1; omega⟩
theorem Mc.Is.cell {m : Mc} {cs : Array Value} (h : m.Is cs) : ∀ j, j < 98 → ∃ v : Value, cs[j]? = some v ∧ v.oneCell' = true := by
  intro j hj
  by_cases h0 : j = 0
  · subst h0; exact ⟨_, h.l, rfl⟩
  by_cases h1 : j = 1
  · subst h1; exact ⟨_, h.s, rfl⟩
  by_cases h2 : j < 50
  · refine ⟨.int .u8 (m.nx ((j - 2) / 3) ((j - 2) % 3)), ?_, rfl⟩
    rw [← h.n ((j - 2) / 3) ((j - 2) % 3) (by omega) (by omega)]; congr 1; omega
  · refine ⟨.int .u8 (m.ou ((j - 50) / 3) ((j - 50) % 3)), ?_, rfl⟩
    rw [← h.o ((j - 50) / 3) ((j - 50) % 3) (by omega) (by omega)]; congr 1; omega
theorem Mc.Is.all {m : Mc} {cs : Array Value} (h : m.Is cs) : cs.all (·.oneCell') = true := by
  rw [Array.all_eq_true]
  intro i hi
  obtain ⟨v, hv, h1⟩ := h.cell i (by have := h.size; omega)
  rw [Array.getElem?_eq_getElem hi] at hv
  rw [Option.some.inj hv]; exact h1
/-- What has been put together field by field is the machine again. -/
theorem Mc.Is.joined {m : Mc} {cs : Array Value} (h : m.Is cs) {zs : Array Value} (hz : zs.size = 98) :
    splice (splice ((zs.setIfInBounds 0 (.int .i64 m.L)).setIfInBounds 1 (.int .i64 m.S)) 2 (cs.extract 2 50)) 50 (cs.extract 50 98) = cs := by
  have s1 : ((zs.setIfInBounds 0 (.int .i64 m.L)).setIfInBounds 1 (.int .i64 m.S)).size = 98 := by simp [hz]
  have n1 := h.nxs.1
  have n2 := h.ous.1
  have s2 := splice_size ((zs.setIfInBounds 0 (.int .i64 m.L)).setIfInBounds 1 (.int .i64 m.S)) 2 (cs.extract 2 50) (by omega)
  apply Array.ext_getElem?
  intro j
  rw [splice_get _ _ _ (by omega), splice_get _ _ _ (by omega), n1, n2]
  by_cases h98 : j < 98
  · by_cases h0 : j = 0
    · subst h0; simp [hz]; exact h.l.symm
    by_cases h1 : j = 1
    · subst h1; simp [hz]; exact h.s.symm
    by_cases h2 : j < 50
    · rw [if_neg (by omega), if_pos (by omega), Array.getElem?_extract, if_pos (by have := h.size; omega)]
      congr 1; omega
    · rw [if_pos (by omega), Array.getElem?_extract, if_pos (by have := h.size; omega)]
      congr 1; omega
  · rw [if_neg (by omega), if_neg (by omega), Array.getElem?_eq_none (by omega), Array.getElem?_eq_none (by have := h.size; omega)]
end Go.Proofs.YtighjpnjbgjgaaaDoor

/- Walks: the inverse machine, of the program and of the reference. -/
namespace Go.Proofs.YtighjpnjbgjgaaaDoor
open Go.RowKit

/-! ### The cells of a machine, written out -/
def Mc.cellAt (m : Mc) (i : Nat) : Value := if i = 0 then .int .i64 m.L else if i = 1 then .int .i64 m.S else if i < 50 then .int .u8 (m.nx ((i - 2) / 3) ((i - 2) % 3)) else .int .u8 (m.ou ((i - 50) / 3) ((i - 50) % 3))
def Mc.cells (m : Mc) : Array Value := ((List.range 98).map m.cellAt).toArray
theorem Mc.cells_size (m : Mc) : m.cells.size = 98 := by simp [Mc.cells]
theorem Mc.cells_get (m : Mc) (i : Nat) : m.cells[i]? = if i < 98 then some (m.cellAt i) else none := by
  unfold Mc.cells
  rw [List.getElem?_toArray, List.getElem?_map]
  by_cases h : i < 98
  · rw [List.getElem?_range h, if_pos h]; rfl
  · rw [List.getElem?_eq_none (by simp; omega), if_neg h]; rfl
theorem Mc.cellAt_n (m : Mc) (q x : Nat) (hq : q < 16) (hx : x < 3) : m.cellAt (2 + q * 3 + x) = .int .u8 (m.nx q x) := by
  unfold Mc.cellAt
  rw [if_neg (by omega), if_neg (by omega), if_pos (by omega), show (2 + q * 3 + x - 2) / 3 = q by omega, show (2 + q * 3 + x - 2) % 3 = x by omega]
theorem Mc.cellAt_o (m : Mc) (q x : Nat) (_ : q < 16) (hx : x < 3) : m.cellAt (50 + q * 3 + x) = .int .u8 (m.ou q x) := by
  unfold Mc.cellAt
  rw [if_neg (by omega), if_neg (by omega), if_neg (by omega), show (50 + q * 3 + x - 50) / 3 = q by omega, show (50 + q * 3 + x - 50) % 3 = x by omega]
theorem Mc.Is.of_cells (m : Mc) (nb : ∀ q x, q < 16 → x < 3 → m.nx q x < 256) (ob : ∀ q x, q < 16 → x < 3 → m.ou q x < 256) (lw : (Lit.int .i64 m.L).wf = true) (sw : (Lit.int .i64 m.S).wf = true) : m.Is m.cells where
  size := m.cells_size
  l := by rw [m.cells_get, if_pos (by omega)]; rfl
  s := by rw [m.cells_get, if_pos (by omega)]; rfl
  n q x hq hx := by rw [m.cells_get, if_pos (by omega), m.cellAt_n q x hq hx]
  o q x hq hx := by rw [m.cells_get, if_pos (by omega), m.cellAt_o q x hq hx]
  nb := nb
  ob := ob
  lw := lw
  sw := sw
theorem Mc.Is.eq_cells {m : Mc} {cs : Array Value} (h : m.Is cs) : cs = m.cells := by
  apply Array.ext_getElem?
  intro i
  rw [m.cells_get]
  by_cases hi : i < 98
  · rw [if_pos hi]
    unfold Mc.cellAt
    by_cases h0 : i = 0
    · rw [if_pos h0, h0]; exact h.l
    by_cases h1 : i = 1
    · rw [if_neg h0, if_pos h1, h1]; exact h.s
    by_cases h2 : i < 50
    · rw [if_neg h0, if_neg h1, if_pos h2, ← h.n ((i - 2) / 3) ((i - 2) % 3) (by omega) (by omega)]; congr 1; omega
    · rw [if_neg h0, if_neg h1, if_neg h2, ← h.o ((i - 50) / 3) ((i - 50) % 3) (by omega) (by omega)]; congr 1; omega
  · rw [if_neg hi, Array.getElem?_eq_none (by have := h.size; omega)]
theorem Mc.cells_all (m : Mc) : m.cells.all (·.oneCell') = true := by
  rw [Array.all_eq_true]
  intro i hi
  rw [m.cells_size] at hi
  have := m.cells_get i
  rw [if_pos hi, Array.getElem?_eq_getElem (by rw [m.cells_size]; exact hi)] at this
  rw [Option.some.inj this]
  unfold Mc.cellAt
  split
  · rfl
  · split
    · rfl
    · split <;> rfl
def Mc.setO (m : Mc) (q y v : Nat) : Mc := ⟨m.L, m.S, m.nx, fun a b => if a = q ∧ b = y then v else m.ou a b⟩
def Mc.setN (m : Mc) (q y v : Nat) : Mc := ⟨m.L, m.S, fun a b => if a = q ∧ b = y then v else m.nx a b, m.ou⟩
theorem Mc.cells_setO (m : Mc) (q y v : Nat) (hq : q < 16) (hy : y < 3) : m.cells.setIfInBounds (50 + q * 3 + y) (.int .u8 v) = (m.setO q y v).cells := by
  apply Array.ext_getElem?
  intro i
  rw [Array.getElem?_setIfInBounds, m.cells_size, m.cells_get, Mc.cells_get]
  by_cases hi : 50 + q * 3 + y = i
  · subst hi
    rw [if_pos rfl, if_pos (by omega), if_pos (by omega), Mc.cellAt_o _ q y hq hy]
    simp [Mc.setO]
  · rw [if_neg hi]
    by_cases h : i < 98
    · rw [if_pos h, if_pos h]
      unfold Mc.cellAt Mc.setO
      by_cases h0 : i = 0
      · simp only [if_pos h0]
      by_cases h1 : i = 1
      · simp only [if_neg h0, if_pos h1]
      by_cases h2 : i < 50
      · simp only [if_neg h0, if_neg h1, if_pos h2]
      · simp only [if_neg h0, if_neg h1, if_neg h2]
        rw [if_neg (by omega)]
    · rw [if_neg h, if_neg h]
theorem Mc.cells_setN (m : Mc) (q y v : Nat) (hq : q < 16) (hy : y < 3) : m.cells.setIfInBounds (2 + q * 3 + y) (.int .u8 v) = (m.setN q y v).cells := by
  apply Array.ext_getElem?
  intro i
  rw [Array.getElem?_setIfInBounds, m.cells_size, m.cells_get, Mc.cells_get]
  by_cases hi : 2 + q * 3 + y = i
  · subst hi
    rw [if_pos rfl, if_pos (by omega), if_pos (by omega), Mc.cellAt_n _ q y hq hy]
    simp [Mc.setN]
  · rw [if_neg hi]
    by_cases h : i < 98
    · rw [if_pos h, if_pos h]
      unfold Mc.cellAt Mc.setN
      by_cases h0 : i = 0
      · simp only [if_pos h0]
      by_cases h1 : i = 1
      · simp only [if_neg h0, if_pos h1]
      by_cases h2 : i < 50
      · simp only [if_neg h0, if_neg h1, if_pos h2]
        rw [if_neg (by omega)]
      · simp only [if_neg h0, if_neg h1, if_neg h2]
    · rw [if_neg h, if_neg h]

/-! ### A machine that is made of letters and states alone -/
def Mc.zero : Mc := ⟨0, 0, fun _ _ => 0, fun _ _ => 0⟩
theorem zeroM_cells : zeroM = Mc.zero.cells := by
  apply Array.ext_getElem?
  intro i
  rw [Mc.cells_get]
  by_cases h : i < 98
  · rw [if_pos h]
    unfold zeroM Mc.cellAt Mc.zero
    by_cases h0 : i = 0
    · subst h0; rfl
    by_cases h1 : i = 1
    · subst h1; rfl
    rw [if_neg h0, if_neg h1, Array.getElem?_append_right (by simp; omega), Array.getElem?_replicate, if_pos (by simp; omega)]
    split <;> rfl
  · rw [if_neg h, Array.getElem?_eq_none (by rw [zeroM_size]; omega)]
def bld (L S : Int) : Array Value := (zeroM.setIfInBounds 0 (.int .i64 L)).setIfInBounds 1 (.int .i64 S)
theorem bld_size (L S : Int) : (bld L S).size = 98 := by simp [bld, zeroM_size]
theorem bld_cells (L S : Int) : bld L S = (⟨L, S, fun _ _ => 0, fun _ _ => 0⟩ : Mc).cells := by
  apply Array.ext_getElem?
  intro i
  unfold bld
  rw [Array.getElem?_setIfInBounds, Array.getElem?_setIfInBounds, zeroM_cells, Mc.cells_get, Mc.cells_get]
  simp only [Array.size_setIfInBounds, Mc.cells_size]
  by_cases h1 : 1 = i
  · subst h1; rfl
  by_cases h0 : 0 = i
  · subst h0; rfl
  rw [if_neg h1, if_neg h0]
  by_cases h : i < 98
  · rw [if_pos h, if_pos h]
    unfold Mc.cellAt Mc.zero
    have n0 : ¬ i = 0 := fun e => h0 e.symm
    have n1 : ¬ i = 1 := fun e => h1 e.symm
    simp only [if_neg n0, if_neg n1]
  · rw [if_neg h, if_neg h]
theorem all_mem {vs : Array Value} (h : vs.all (·.oneCell') = true) : ∀ v ∈ vs.toList, v.oneCell' = true := by
  rw [Array.all_eq_true] at h
  intro v hv
  obtain ⟨i, hi, rfl⟩ := List.getElem_of_mem hv
  exact h i (by simpa using hi)
theorem setRow_alloc (w : World) (n : Nat) (hn : n = w.heap.size) (zs vs : Array Value) (t : TypeId) : (w.alloc (.cells zs t)).setRow n vs = w.alloc (.cells vs t) := by
  subst hn
  have h : (w.heap.push (.cells zs t)).modify w.heap.size (fun o => match o with | .cells _ e fr => .cells vs e fr | o => o) = w.heap.push (.cells vs t) := by
    apply Array.ext
    · simp
    · intro i h1 h2
      simp only [Array.getElem_modify, Array.getElem_push]
      by_cases h : w.heap.size = i
      · subst h; simp
      · have hi : i < w.heap.size := by simp at h1; omega
        simp [h, hi]
  unfold World.setRow
  have h2 : (w.alloc (.cells zs t)).heap = w.heap.push (.cells zs t) := rfl
  rw [h2]
  exact congrArg (fun hh => ({ heap := hh, tape := w.tape, drawn := w.drawn, os := w.os, output := w.output } : World)) h
theorem bld_list (L S : Int) : ((zeroM.toList.set 0 (.int .i64 L)).set 1 (.int .i64 S)) = (bld L S).toList := by simp [bld]
theorem st_new (w : World) (n : Nat) (hn : n = w.heap.size) (L S : Int) :
    (storeCells ⟨n, 0, none⟩ ((zeroM.toList.set 0 (.int .i64 L)).set 1 (.int .i64 S))).run Tryd.prog (w.alloc (.cells zeroM 25)) = .ok () (w.alloc (.cells (bld L S) 25)) := by
  rw [bld_list]
  have := run_storeCells_at (P := Tryd.prog) n 0 25 (bld L S).toList 0 zeroM (w.alloc (.cells zeroM 25)) (hp_new hn) (by rw [zeroM_size]; simp [bld_size]) (all_mem (by rw [bld_cells]; exact Mc.cells_all _))
  have e : (List.take (0 + 0) zeroM.toList ++ (bld L S).toList ++ List.drop (0 + 0 + (bld L S).toList.length) zeroM.toList).toArray = bld L S := by
    have : (bld L S).toList.length = 98 := by simp [bld_size]
    rw [this, List.drop_eq_nil_of_le (by simp [zeroM_size])]
    simp
  rw [e, setRow_alloc _ _ hn] at this
  exact this
theorem st_new_d (w : World) (n : Nat) (hn : n = w.heap.size) (L S : Int) :
    (storeCells ⟨n, 0, none⟩ ((zeroM.toList.set 0 (.int .i64 L)).set 1 (.int .i64 S))).run Tryd.prog (w.alloc (.cells zeroM 25)).drew = .ok () (w.alloc (.cells (bld L S) 25)).drew :=
  st_new w.drew n hn L S
theorem zeroM_ne : zeroM ≠ #[] := fun h => by
  have := congrArg Array.size h
  rw [zeroM_size] at this
  simp at this

/-! ### The inverse -/
def Gm.pre (g : Gm) (q y : Nat) : Nat := first (fun x => decide (g.ou q x = y)) g.l
theorem Gm.pre_spec {g : Gm} (h : g.Ok) {q y : Nat} (hq : q < g.s) (hy : y < g.l) : g.pre q y < g.l ∧ g.ou q (g.pre q y) = y := by
  obtain ⟨a, b, c⟩ := first_spec (fun x => decide (g.ou q x = y)) g.l
  have key : first (fun x => decide (g.ou q x = y)) g.l < g.l := by
    apply Decidable.byContradiction
    intro hc
    have hno : ∀ x, x < g.l → g.ou q x ≠ y := fun x hx => by
      have := c x (by omega)
      simpa using this
    have l2 := h.l2
    have l3 := h.l3
    have o0 := h.olt q 0 hq (by omega)
    have o1 := h.olt q 1 hq (by omega)
    have n0 := hno 0 (by omega)
    have n1 := hno 1 (by omega)
    have i01 : g.ou q 0 ≠ g.ou q 1 := fun e => by have := h.inj q 0 1 hq (by omega) (by omega) e; omega
    by_cases e3 : g.l = 3
    · have o2 := h.olt q 2 hq (by omega)
      have n2 := hno 2 (by omega)
      have i02 : g.ou q 0 ≠ g.ou q 2 := fun e => by have := h.inj q 0 2 hq (by omega) (by omega) e; omega
      have i12 : g.ou q 1 ≠ g.ou q 2 := fun e => by have := h.inj q 1 2 hq (by omega) (by omega) e; omega
      omega
    · omega
  exact ⟨key, of_decide_eq_true (b key)⟩
theorem Gm.pre_ou {g : Gm} (h : g.Ok) {q k : Nat} (hq : q < g.s) (hk : k < g.l) : g.pre q (g.ou q k) = k := by
  obtain ⟨a, b⟩ := g.pre_spec h hq (h.olt q k hq hk)
  exact h.inj q _ k hq a hk b
/-- What has been filled when rows below q and the letters below k of row q are done. -/
def Gm.invP (g : Gm) (q k : Nat) : Mc :=
  ⟨g.l, g.s, fun r y => if r < g.s ∧ y < g.l ∧ (r < q ∨ (r = q ∧ g.pre r y < k)) then g.nx r (g.pre r y) else 0, fun r y => if r < g.s ∧ y < g.l ∧ (r < q ∨ (r = q ∧ g.pre r y < k)) then g.pre r y else 0⟩
def Gm.inv (g : Gm) : Gm := ⟨g.l, g.s, fun r y => if r < g.s ∧ y < g.l then g.nx r (g.pre r y) else 0, fun r y => if r < g.s ∧ y < g.l then g.pre r y else 0⟩
theorem mc_ext {a b : Mc} (h1 : a.L = b.L) (h2 : a.S = b.S) (h3 : ∀ q x, a.nx q x = b.nx q x) (h4 : ∀ q x, a.ou q x = b.ou q x) : a = b := by
  cases a; cases b
  simp only at h1 h2 h3 h4
  subst h1 h2
  congr
  · funext q x; exact h3 q x
  · funext q x; exact h4 q x
theorem Gm.invP_zero (g : Gm) : g.invP 0 0 = ⟨g.l, g.s, fun _ _ => 0, fun _ _ => 0⟩ :=
  mc_ext rfl rfl (fun q x => if_neg (by omega)) (fun q x => if_neg (by omega))
theorem Gm.invP_step {g : Gm} (h : g.Ok) (q k : Nat) (hq : q < g.s) (hk : k < g.l) : ((g.invP q k).setO q (g.ou q k) k).setN q (g.ou q k) (g.nx q k) = g.invP q (k + 1) := by
  have hp := g.pre_ou h hq hk
  have ho := h.olt q k hq hk
  have other : ∀ y, y < g.l → y ≠ g.ou q k → g.pre q y ≠ k := fun y hy hne e => hne (by have := (g.pre_spec h hq hy).2; rw [e] at this; exact this.symm)
  refine mc_ext rfl rfl (fun r y => ?_) (fun r y => ?_)
  · show (if r = q ∧ y = g.ou q k then g.nx q k else if r < g.s ∧ y < g.l ∧ (r < q ∨ (r = q ∧ g.pre r y < k)) then g.nx r (g.pre r y) else 0) = if r < g.s ∧ y < g.l ∧ (r < q ∨ (r = q ∧ g.pre r y < k + 1)) then g.nx r (g.pre r y) else 0
    by_cases e : r = q ∧ y = g.ou q k
    · obtain ⟨rfl, rfl⟩ := e
      rw [if_pos ⟨rfl, rfl⟩, if_pos ⟨hq, ho, .inr ⟨rfl, by omega⟩⟩, hp]
    · rw [if_neg e]
      by_cases e2 : r = q
      · subst e2
        by_cases hy : y < g.l
        · have := other y hy (fun e3 => e ⟨rfl, e3⟩)
          by_cases hlt : g.pre r y < k
          · rw [if_pos ⟨hq, hy, .inr ⟨rfl, hlt⟩⟩, if_pos ⟨hq, hy, .inr ⟨rfl, by omega⟩⟩]
          · rw [if_neg (by omega), if_neg (by omega)]
        · rw [if_neg (by omega), if_neg (by omega)]
      · by_cases hc : r < g.s ∧ y < g.l ∧ r < q
        · rw [if_pos ⟨hc.1, hc.2.1, .inl hc.2.2⟩, if_pos ⟨hc.1, hc.2.1, .inl hc.2.2⟩]
        · rw [if_neg (by omega), if_neg (by omega)]
  · show (if r = q ∧ y = g.ou q k then k else if r < g.s ∧ y < g.l ∧ (r < q ∨ (r = q ∧ g.pre r y < k)) then g.pre r y else 0) = if r < g.s ∧ y < g.l ∧ (r < q ∨ (r = q ∧ g.pre r y < k + 1)) then g.pre r y else 0
    by_cases e : r = q ∧ y = g.ou q k
    · obtain ⟨rfl, rfl⟩ := e
      rw [if_pos ⟨rfl, rfl⟩, if_pos ⟨hq, ho, .inr ⟨rfl, by omega⟩⟩, hp]
    · rw [if_neg e]
      by_cases e2 : r = q
      · subst e2
        by_cases hy : y < g.l
        · have := other y hy (fun e3 => e ⟨rfl, e3⟩)
          by_cases hlt : g.pre r y < k
          · rw [if_pos ⟨hq, hy, .inr ⟨rfl, hlt⟩⟩, if_pos ⟨hq, hy, .inr ⟨rfl, by omega⟩⟩]
          · rw [if_neg (by omega), if_neg (by omega)]
        · rw [if_neg (by omega), if_neg (by omega)]
      · by_cases hc : r < g.s ∧ y < g.l ∧ r < q
        · rw [if_pos ⟨hc.1, hc.2.1, .inl hc.2.2⟩, if_pos ⟨hc.1, hc.2.1, .inl hc.2.2⟩]
        · rw [if_neg (by omega), if_neg (by omega)]
theorem Gm.invP_row {g : Gm} (h : g.Ok) (q : Nat) (hq : q < g.s) : g.invP q g.l = g.invP (q + 1) 0 := by
  have hc : ∀ r y, (r < g.s ∧ y < g.l ∧ (r < q ∨ (r = q ∧ g.pre r y < g.l))) ↔ (r < g.s ∧ y < g.l ∧ (r < q + 1 ∨ (r = q + 1 ∧ g.pre r y < 0))) := by
    intro r y
    constructor
    · rintro ⟨a, b, c⟩; exact ⟨a, b, .inl (by omega)⟩
    · rintro ⟨a, b, c⟩
      refine ⟨a, b, ?_⟩
      by_cases e : r = q
      · subst e; exact .inr ⟨rfl, (g.pre_spec h hq b).1⟩
      · exact .inl (by omega)
  refine mc_ext rfl rfl (fun r y => ?_) (fun r y => ?_)
  · show (if _ then _ else _) = if _ then _ else _
    simp only [hc r y]
  · show (if _ then _ else _) = if _ then _ else _
    simp only [hc r y]
theorem Gm.invP_end (g : Gm) : g.invP g.s 0 = g.inv.mc := by
  have hc : ∀ r y, (r < g.s ∧ y < g.l ∧ (r < g.s ∨ (r = g.s ∧ g.pre r y < 0))) ↔ (r < g.s ∧ y < g.l) := by
    intro r y; omega
  refine mc_ext rfl rfl (fun r y => ?_) (fun r y => ?_)
  · show (if _ then _ else _) = if _ then _ else _
    simp only [hc r y]
  · show (if _ then _ else _) = if _ then _ else _
    simp only [hc r y]
theorem Gm.inv_ok {g : Gm} (h : g.Ok) : g.inv.Ok where
  l2 := h.l2
  l3 := h.l3
  s1 := h.s1
  s16 := h.s16
  nlt q x hq hx := by
    show (if _ then _ else _) < g.s
    rw [if_pos ⟨hq, hx⟩]
    exact h.nlt q _ hq (g.pre_spec h hq hx).1
  olt q x hq hx := by
    show (if _ then _ else _) < g.l
    rw [if_pos ⟨hq, hx⟩]
    exact (g.pre_spec h hq hx).1
  inj q x y hq hx hy e := by
    have e' : (if q < g.s ∧ x < g.l then g.pre q x else 0) = if q < g.s ∧ y < g.l then g.pre q y else 0 := e
    rw [if_pos ⟨hq, hx⟩, if_pos ⟨hq, hy⟩] at e'
    have a := (g.pre_spec h hq hx).2
    have b := (g.pre_spec h hq hy).2
    rw [e', b] at a
    exact a.symm
  zn q x _ _ hh := by
    have hh' : g.s ≤ q ∨ g.l ≤ x := hh
    exact if_neg (by omega)
  zo q x _ _ hh := by
    have hh' : g.s ≤ q ∨ g.l ≤ x := hh
    exact if_neg (by omega)
theorem Gm.n256 {g : Gm} (h : g.Ok) (q x : Nat) (hq : q < 16) (hx : x < 3) : g.nx q x < 256 := by
  by_cases hh : g.s ≤ q ∨ g.l ≤ x
  · rw [h.zn q x hq hx hh]; omega
  · have := h.nlt q x (by omega) (by omega)
    have := h.s16
    omega
theorem Gm.o256 {g : Gm} (h : g.Ok) (q x : Nat) (hq : q < 16) (hx : x < 3) : g.ou q x < 256 := by
  by_cases hh : g.s ≤ q ∨ g.l ≤ x
  · rw [h.zo q x hq hx hh]; omega
  · have := h.olt q x (by omega) (by omega)
    have := h.l3
    omega
theorem Gm.is_cells {g : Gm} (h : g.Ok) : g.Is g.mc.cells := ⟨Mc.Is.of_cells _ (g.n256 h) (g.o256 h) (WalkArith.wf_i64 (by show -9223372036854775808 ≤ (g.l : Int) ∧ (g.l : Int) ≤ 9223372036854775807; have := h.l3; omega)) (WalkArith.wf_i64 (by show -9223372036854775808 ≤ (g.s : Int) ∧ (g.s : Int) ≤ 9223372036854775807; have := h.s16; omega))⟩
theorem Gm.Is.eq {g : Gm} {cs : Array Value} (h : g.Is cs) : cs = g.mc.cells := h.is.eq_cells
/-- What a whole machine variable holds behind two stores. -/
theorem blk_two {w : World} {g : Nat} {t : TypeId} {cs : Array Value} (h : w.heap[g]? = some (.cells cs t (0, 0))) (i j : Nat) (u v : Value) : ((w.setCell ⟨g, i, none⟩ u).setCell ⟨g, j, none⟩ v).heap[g]? = some (.cells ((cs.setIfInBounds i u).setIfInBounds j v) t (0, 0)) := hp_set (hp_set h i u) j v
end Go.Proofs.YtighjpnjbgjgaaaDoor

/- Walks: the inverse machine, of the program and of the reference; the laws' comparison of machines. -/
namespace Go.Proofs.YtighjpnjbgjgaaaDoor
open Go.RowKit

section
variable {P : Program}
theorem results_cell_tmp {fn : Func} {p t2 : Tmp} {ty : TypeId} (h : fn.results = #[.cell p ty, .tmp t2]) (tmps : Array Value) (w : World) (g : Nat) (t : TypeId) (cs : Array Value) (fr : Nat × Nat) (d : TypeDesc) (v : Value)
    (hp : tmps.getD p undef = .pointer (some ⟨g, 0, none⟩)) (hv : tmps.getD t2 undef = v) (hg : w.heap[g]? = some (.cells cs t fr))
    (hu : P.underlying ty = some d) (hd : (match d with | .struct _ | .array _ _ => true | _ => false) = true) (hi : (P.info? ty).map (·.size) = some cs.size) :
    (results fn tmps).run P w = .ok (.tuple #[.agg cs, v]) w := by
  have hp' : tmps[p]?.getD undef = .pointer (some ⟨g, 0, none⟩) := by simpa using hp
  have hv' : tmps[t2]?.getD undef = v := by simpa using hv
  simp [results, h, hp', hv', asAddr, run_loadVar_row w g t ty cs fr d hg hu hd hi]
end
theorem cells98i (m : Mc) : (Tryd.prog.info? 25).map (·.size) = some m.cells.size := by rw [m.cells_size]; kernel_rfl

/-- A whole machine is read out of a variable. -/
theorem ldC {ops : Array Oper} {rest : List Oper} {o : Oper} {a : Act} {w : World} {Q : Exit → Act → World → Prop} (hw : Region.wanted o (yielded ops a.tmps) = true) (x : Operand) (ho : o.op = .load 25 x) (g : Nat) (m : Mc) {t : TypeId} {fr : Nat × Nat}
    (hg : w.heap[g]? = some (.cells m.cells t fr)) (hx : a.eval x = .pointer (some ⟨g, 0, none⟩)) (h : wpList Tryd.prog ops Q rest (a.put o.dst (.agg m.cells)) w) : wpList Tryd.prog ops Q (o :: rest) a w := by
  have e : m.cells.extract 0 (0 + 98) = m.cells := by rw [← m.cells_size]; simp
  refine wpList_load_at_g hw 25 x ho g 0 98 hx t m.cells fr _ hg Tryd.underlying25 rfl (by kernel_rfl) (by rw [m.cells_size]; omega) ?_
  rw [e]; exact h
/-- A whole machine is written into a variable. -/
theorem stC {ops : Array Oper} {rest : List Oper} {o : Oper} {a : Act} {w : World} {Q : Exit → Act → World → Prop} (hgd : o.guard = none) (x y : Operand) (ho : o.op = .store 25 x y) (g : Nat) (m : Mc) {t : TypeId} {old : Array Value}
    (hg : w.heap[g]? = some (.cells old t (0, 0))) (hold : old.size = 98) (hx : a.eval x = .pointer (some ⟨g, 0, none⟩)) (hy : a.eval y = .agg m.cells) (h : wpList Tryd.prog ops Q rest (a.put o.dst undef) (w.setRow g m.cells)) : wpList Tryd.prog ops Q (o :: rest) a w := by
  have e : splice old 0 m.cells = m.cells := by
    apply Array.ext_getElem?
    intro j
    rw [splice_get _ _ _ (by rw [m.cells_size, hold]; omega), m.cells_size]
    by_cases hj : j < 98
    · rw [if_pos (by omega), Nat.sub_zero]
    · rw [if_neg (by omega), Array.getElem?_eq_none (by rw [hold]; omega), Array.getElem?_eq_none (by rw [m.cells_size]; omega)]
  refine wpList_store_at hgd 25 x y ho g 0 98 m.cells hx hy t old hg (by kernel_rfl) m.cells_size (by rw [hold]; omega) (all_mem m.cells_all) ?_
  rw [e]; exact h

/-- A whole machine is written into a variable that has just been laid. -/
theorem stNew {ops : Array Oper} {rest : List Oper} {o : Oper} {a : Act} {w : World} {Q : Exit → Act → World → Prop} (hgd : o.guard = none) (x y : Operand) (ho : o.op = .store 25 x y) (m : Mc) (n : Nat) (hn : n = w.heap.size) {t : TypeId} {zs : Array Value} (hz : zs.size = 98)
    (hx : a.eval x = .pointer (some ⟨n, 0, none⟩)) (hy : a.eval y = .agg m.cells) (h : wpList Tryd.prog ops Q rest (a.put o.dst undef) (w.alloc (.cells m.cells t))) : wpList Tryd.prog ops Q (o :: rest) a (w.alloc (.cells zs t)) := by
  refine stC hgd x y ho n m (hp_new hn) hz hx hy ?_
  rw [setRow_alloc _ _ hn]
  exact h

end Go.Proofs.YtighjpnjbgjgaaaDoor

/- Walks: the inverse machine of the reference. -/
namespace Go.Proofs.YtighjpnjbgjgaaaDoor
open Go.RowKit
end Go.Proofs.YtighjpnjbgjgaaaDoor

/- Walks: InverseMachine, of the program and of the reference. -/
namespace Go.Proofs.YtighjpnjbgjgaaaDoor
open Go.RowKit
/-! ### InverseMachine -/
def invR (m : Mc) : Mc × Int := if m.ok then (m.gm.inv.mc, 0) else (Mc.zero, 1)
theorem Mc.zero_is : Mc.zero.Is Mc.zero.cells := Mc.Is.of_cells _ (fun _ _ _ _ => by show 0 < 256; omega) (fun _ _ _ _ => by show 0 < 256; omega) (by decide) (by decide)
theorem invR_is (m : Mc) : (invR m).1.Is (invR m).1.cells := by
  unfold invR
  cases h : m.ok with
  | false => exact Mc.zero_is
  | true =>
    obtain ⟨g, rfl, hok⟩ := Mc.to_gm h
    exact (g.inv.is_cells (g.inv_ok hok)).is
end Go.Proofs.YtighjpnjbgjgaaaDoor

/- Walks: the laws' comparison of machines. -/
namespace Go.Proofs.YtighjpnjbgjgaaaDoor
open Go.RowKit

set_option maxHeartbeats 400000 in
theorem eqByteA3_any (a b c : Int) (w : World) :
    Calls Tryd.prog 23 #[.agg #[.int .u8 a, .int .u8 b, .int .u8 c], .agg #[.int .u8 a, .int .u8 b, .int .u8 c]] w fun e w' => e = .returned (.bool true) ∧ Below w.heap.size w w' := by
  go_enter Tryd.func23, Tryd.ntmps23
  go_wp2
  obtain ⟨w1, hw1⟩ : ∃ w1, w1 = (w.alloc (.cells #[.int .u8 a, .int .u8 b, .int .u8 c] 22)).alloc (.cells #[.int .u8 a, .int .u8 b, .int .u8 c] 22) := ⟨_, rfl⟩
  rw [← hw1]
  have Bel := hidd (show Below w.heap.size w w1 by rw [hw1]; exact ((Below.refl _ _).alloc (Nat.le_refl _) _).alloc (by simp) _)
  have N0 := hidd (show w1.heap[w.heap.size]? = some (.cells #[.int .u8 a, .int .u8 b, .int .u8 c] 22 (0, 0)) by rw [hw1]; exact hp_old (hp_new rfl))
  have N1 := hidd (show w1.heap[w.heap.size + 1]? = some (.cells #[.int .u8 a, .int .u8 b, .int .u8 c] 22 (0, 0)) by rw [hw1]; exact hp_new (by simp))
  clear hw1
  go_loopw [5] (fun i wr => ∃ k : Nat, k ≤ 3 ∧ i = .int .i64 k ∧ Hid (Below w1.heap.size w1 wr)) (fun i _ => 3 - (intOf i).toNat)
  case atStart => exact ⟨0, Nat.zero_le _, rfl, Below.refl _ _⟩
  case round =>
    obtain ⟨k, hk, rfl, Hb⟩ := hrel
    by_cases hlt : k < 3
    · obtain ⟨x, hx⟩ : ∃ x : Int, (#[Value.int .u8 a, .int .u8 b, .int .u8 c] : Array Value)[k]? = some (.int .u8 x) := by
        have h3 : k = 0 ∨ k = 1 ∨ k = 2 := by omega
        rcases h3 with rfl | rfl | rfl
        · exact ⟨a, rfl⟩
        · exact ⟨b, rfl⟩
        · exact ⟨c, rfl⟩
      have d0 := (blkc (hp_bel N0.out Hb.out) k).trans hx
      have d1 := (blkc (hp_bel N1.out Hb.out) k).trans hx
      clear hx
      have i1 : (k : Int) < 3 := by omega
      have i2 : (0 : Int) ≤ k := by omega
      go_wp2
      go_quiet (fail)
      go_wp2
      go_roundw
      case rel => exact ⟨k + 1, by omega, by go_num, bel_drewN Hb.out _⟩
      case measure => simp [intOf]; omega
    · go_wp2
      go_ret
      exact ⟨rfl, bel_then Bel.out Hb.out⟩

set_option maxHeartbeats 400000 in
theorem eqByteA3A16_any (cs : Array Value) (f : Nat → Nat) (hc : ∀ j, j < 48 → cs[j]? = some (.int .u8 (f j))) (w : World) :
    Calls Tryd.prog 12 #[.agg cs, .agg cs] w fun e w' => e = .returned (.bool true) ∧ Below w.heap.size w w' := by
  have Hc := hidd hc
  clear hc
  go_enter Tryd.func12, Tryd.ntmps12
  go_wp2
  obtain ⟨w1, hw1⟩ : ∃ w1, w1 = (w.alloc (.cells cs 23)).alloc (.cells cs 23) := ⟨_, rfl⟩
  rw [← hw1]
  have Bel := hidd (show Below w.heap.size w w1 by rw [hw1]; exact ((Below.refl _ _).alloc (Nat.le_refl _) _).alloc (by simp) _)
  have N0 := hidd (show w1.heap[w.heap.size]? = some (.cells cs 23 (0, 0)) by rw [hw1]; exact hp_old (hp_new rfl))
  have N1 := hidd (show w1.heap[w.heap.size + 1]? = some (.cells cs 23 (0, 0)) by rw [hw1]; exact hp_new (by simp))
  clear hw1
  go_loopw [5] (fun i wr => ∃ k : Nat, k ≤ 16 ∧ i = .int .i64 k ∧ Hid (Below w1.heap.size w1 wr)) (fun i _ => 16 - (intOf i).toNat)
  case atStart => exact ⟨0, Nat.zero_le _, rfl, Below.refl _ _⟩
  case round =>
    obtain ⟨k, hk, rfl, Hb⟩ := hrel
    by_cases hlt : k < 16
    · have H0 := hp_bel N0.out Hb.out
      have H1 := hp_bel N1.out Hb.out
      have c0 := (blkc H0 (k * 3)).trans (Hc.out _ (by omega))
      have c1 := (blkc H0 (k * 3 + 1)).trans (Hc.out _ (by omega))
      have c2 := (blkc H0 (k * 3 + 2)).trans (Hc.out _ (by omega))
      have d0 := (blkc H1 (k * 3)).trans (Hc.out _ (by omega))
      have d1 := (blkc H1 (k * 3 + 1)).trans (Hc.out _ (by omega))
      have d2 := (blkc H1 (k * 3 + 2)).trans (Hc.out _ (by omega))
      clear H0 H1
      have i1 : (k : Int) < 16 := by omega
      have i2 : (0 : Int) ≤ k := by omega
      go_wp2
      go_region_with ((go_at_call 23; refine (eqByteA3_any _ _ _ _).mono ?_; rintro e w2 ⟨rfl, hb⟩))
      all_goals
        go_wp2
        go_roundw
        (case rel => exact ⟨k + 1, by omega, by go_num, bel_then (bel_drewN Hb.out 1) hb⟩)
        (case measure => simp [intOf]; omega)
    · go_wp2
      go_ret
      exact ⟨rfl, bel_then Bel.out Hb.out⟩

set_option maxHeartbeats 400000 in
theorem eqMachine_any (m : Mc) (cs : Array Value) (hm : m.Is cs) (w : World) :
    Calls Tryd.prog 6 #[.agg cs, .agg cs] w fun e w' => e = .returned (.bool true) ∧ Below w.heap.size w w' := by
  have c0 := hm.l
  have c1 := hm.s
  have Hm := hidd hm
  clear hm
  go_enter Tryd.func6, Tryd.ntmps6
  go_wp2_with (first | (refine wpList_load_at rfl 23 (.tmp 15) rfl w.heap.size 2 48 rfl 25 cs (0, 0) _ (hp_old (hp_new rfl)) Tryd.underlying23 rfl (by kernel_rfl) (by have := Hm.out.size; omega) ?_) | (refine wpList_load_at rfl 23 (.tmp 17) rfl (w.heap.size + 1) 2 48 rfl 25 cs (0, 0) _ (hp_new (by simp)) Tryd.underlying23 rfl (by kernel_rfl) (by have := Hm.out.size; omega) ?_))
  refine (eqByteA3A16_any _ (fun j => m.nx (j / 3) (j % 3)) Hm.out.nxs.2 _).mono ?_
  rintro e w1 ⟨rfl, hb⟩
  have B1 := hidd (bel_then ((bel_alloc' w (.cells cs 25)).alloc (by simp) _) hb)
  have K0 := hidd (hp_bel (hp_old (hp_new rfl)) hb : w1.heap[w.heap.size]? = some (.cells cs 25 (0, 0)))
  have K1 := hidd (hp_bel (hp_new (by simp)) hb : w1.heap[w.heap.size + 1]? = some (.cells cs 25 (0, 0)))
  clear hb
  go_wp2_with (first | (refine wpList_load_at rfl 23 (.tmp 21) rfl w.heap.size 50 48 rfl 25 cs (0, 0) _ K0.out Tryd.underlying23 rfl (by kernel_rfl) (by have := Hm.out.size; omega) ?_) | (refine wpList_load_at rfl 23 (.tmp 23) rfl (w.heap.size + 1) 50 48 rfl 25 cs (0, 0) _ K1.out Tryd.underlying23 rfl (by kernel_rfl) (by have := Hm.out.size; omega) ?_))
  refine (eqByteA3A16_any _ (fun j => m.ou (j / 3) (j % 3)) Hm.out.ous.2 _).mono ?_
  rintro e w2 ⟨rfl, hb⟩
  go_wp2
  go_ret
  exact ⟨rfl, bel_then B1.out hb⟩
end Go.Proofs.YtighjpnjbgjgaaaDoor

/- Words of the laws' walks: what stays where a slice is marked. -/
namespace Go.Proofs.YtighjpnjbgjgaaaDoor
open Go.RowKit
theorem hp_mark' {wa wb wc : World} {base base' : Nat} {e e' : TypeId} {v : Value} {vs vs' : List Value} {k : Nat} {x : Obj} (h : wa.heap[k]? = some x) (ho : Own wa base e v vs) (hc : Own wc base' e' v vs') (hg : wa.grownBy wb v.ownBlock) (hk : k < base ∨ wc.heap.size ≤ k) : wb.heap[k]? = some x :=
  (hg.block k (hp_lt h) (fun hh => by
    have h1 := (ho.block k hh.symm).1
    have h2 := (hc.block k hh.symm).2
    omega)).trans h
end Go.Proofs.YtighjpnjbgjgaaaDoor

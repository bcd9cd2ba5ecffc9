/- Words of the walks: a machine as a Lean structure, how it lies in memory and in a value; small facts on worlds. -/
import Derived.Test.YtjnnbjlombopnaaProg
import Derived.WalkKit
import Derived.Below
import Derived.KernelRfl
import Derived.Test.YtjnnbjlombopnaaLib
namespace Go.Proofs.Ytjnnbjlombopnaa
open Go.RowKit

/-- A machine: letters, states, and for each state and letter where it goes on and what it puts out. -/
structure Mc where
  L : Int
  S : Int
  nx : Nat → Nat → Nat
  ou : Nat → Nat → Nat

/-- The cells of a machine as a value. -/
structure Mc.Is (m : Mc) (cs : Array Value) : Prop where
  size : cs.size = 98
  l : cs[0]? = some (.int .i64 m.L)
  s : cs[1]? = some (.int .i64 m.S)
  n : ∀ q x, q < 16 → x < 3 → cs[2 + q * 3 + x]? = some (.int .u8 (m.nx q x))
  o : ∀ q x, q < 16 → x < 3 → cs[50 + q * 3 + x]? = some (.int .u8 (m.ou q x))
  nb : ∀ q x, q < 16 → x < 3 → m.nx q x < 256
  ob : ∀ q x, q < 16 → x < 3 → m.ou q x < 256
  lw : (Lit.int .i64 m.L).wf = true
  sw : (Lit.int .i64 m.S).wf = true

/-- A machine lies in memory from cell o of block b on. -/
structure Mc.At (m : Mc) (w : World) (b o : Nat) : Prop where
  l : w.cell? ⟨b, o, none⟩ = some (.int .i64 m.L)
  s : w.cell? ⟨b, o + 1, none⟩ = some (.int .i64 m.S)
  n : ∀ q x, q < 16 → x < 3 → w.cell? ⟨b, o + 2 + q * 3 + x, none⟩ = some (.int .u8 (m.nx q x))
  o : ∀ q x, q < 16 → x < 3 → w.cell? ⟨b, o + 50 + q * 3 + x, none⟩ = some (.int .u8 (m.ou q x))
  nb : ∀ q x, q < 16 → x < 3 → m.nx q x < 256
  ob : ∀ q x, q < 16 → x < 3 → m.ou q x < 256
  lw : (Lit.int .i64 m.L).wf = true
  sw : (Lit.int .i64 m.S).wf = true

theorem Mc.At.below {m : Mc} {w w' : World} {b o : Nat} (h : m.At w b o) (hb : Below w.heap.size w w') : m.At w' b o := by
  have hlt : b < w.heap.size := World.block_lt_of_cell? w _ h.l
  have k : ∀ i, w'.cell? ⟨b, i, none⟩ = w.cell? ⟨b, i, none⟩ := fun i => hb.cell (p := ⟨b, i, none⟩) hlt
  exact ⟨by rw [k]; exact h.l, by rw [k]; exact h.s, fun q x hq hx => by rw [k]; exact h.n q x hq hx, fun q x hq hx => by rw [k]; exact h.o q x hq hx, h.nb, h.ob, h.lw, h.sw⟩

theorem Mc.At.of_is {m : Mc} {cs : Array Value} (h : m.Is cs) {w : World} {b : Nat} {t : TypeId} {fr : Nat × Nat} (hb : w.heap[b]? = some (.cells cs t fr)) : m.At w b 0 := by
  have k : ∀ i, w.cell? ⟨b, i, none⟩ = cs[i]? := fun i => cell_of_row w b i cs t fr hb
  exact ⟨by rw [k]; exact h.l, by rw [k]; exact h.s, fun q x hq hx => by rw [k, Nat.zero_add]; exact h.n q x hq hx, fun q x hq hx => by rw [k, Nat.zero_add]; exact h.o q x hq hx, h.nb, h.ob, h.lw, h.sw⟩

theorem Mc.At.n0 {m : Mc} {w : World} {b : Nat} (h : m.At w b 0) (q x : Nat) (hq : q < 16) (hx : x < 3) : w.cell? ⟨b, 2 + q * 3 + x, none⟩ = some (.int .u8 (m.nx q x)) := by
  have := h.n q x hq hx
  rwa [Nat.zero_add] at this
theorem Mc.At.o0 {m : Mc} {w : World} {b : Nat} (h : m.At w b 0) (q x : Nat) (hq : q < 16) (hx : x < 3) : w.cell? ⟨b, 50 + q * 3 + x, none⟩ = some (.int .u8 (m.ou q x)) := by
  have := h.o q x hq hx
  rwa [Nat.zero_add] at this

/-- One entry is right, the ones ahead of it in the row being right. -/
def Mc.entryOk (m : Mc) (q x : Nat) : Bool :=
  if m.S ≤ q ∨ m.L ≤ x then decide (m.nx q x = 0) && decide (m.ou q x = 0)
  else decide ((m.nx q x : Int) < m.S) && decide ((m.ou q x : Int) < m.L) && (List.range x).all fun y => decide (m.ou q y ≠ m.ou q x)
def Mc.rowOk (m : Mc) (q : Nat) : Bool := (List.range 3).all (m.entryOk q)
def Mc.ok (m : Mc) : Bool := decide (2 ≤ m.L ∧ m.L ≤ 3) && decide (1 ≤ m.S ∧ m.S ≤ 16) && (List.range 16).all m.rowOk

section
variable {ops : Array Oper} {rest : List Oper} {o : Oper} {a : Act} {w : World} {Q : Exit → Act → World → Prop}
/-- A whole machine is read out of a variable. -/
theorem ldI (hw : Region.wanted o (yielded ops a.tmps) = true) (x : Operand) (ho : o.op = .load 27 x) (g : Nat) (hx : a.eval x = .pointer (some ⟨g, 0, none⟩)) {m : Mc} {cs : Array Value} (hm : m.Is cs) {t : TypeId} {fr : Nat × Nat}
    (hg : w.heap[g]? = some (.cells cs t fr)) (h : wpList Try.prog ops Q rest (a.put o.dst (.agg cs)) w) : wpList Try.prog ops Q (o :: rest) a w := by
  have e : cs.extract 0 (0 + 98) = cs := by rw [← hm.size]; simp
  refine wpList_load_at_g hw 27 x ho g 0 98 hx t cs fr _ hg Try.underlying27 rfl (by kernel_rfl) (by rw [hm.size]; omega) ?_
  rw [e]; exact h
theorem ldL (hw : Region.wanted o (yielded ops a.tmps) = true) (x : Operand) (ho : o.op = .load 25 x) (g : Nat) (hx : a.eval x = .pointer (some ⟨g, 0, none⟩)) {m : Mc} {cs : Array Value} (hm : m.Is cs) {t : TypeId} {fr : Nat × Nat}
    (hg : w.heap[g]? = some (.cells cs t fr)) (h : wpList Try.prog ops Q rest (a.put o.dst (.agg cs)) w) : wpList Try.prog ops Q (o :: rest) a w := by
  have e : cs.extract 0 (0 + 98) = cs := by rw [← hm.size]; simp
  refine wpList_load_at_g hw 25 x ho g 0 98 hx t cs fr _ hg Try.underlying25 rfl (by kernel_rfl) (by rw [hm.size]; omega) ?_
  rw [e]; exact h
end
end Go.Proofs.Ytjnnbjlombopnaa

/- Walks: what is reached in a graph from a point, of the program and of the reference. -/
import Derived.Test.YtcghcbdefajpgaaBH
import Derived.Test.YtcghcbdefajpgaaBI
namespace Go.Proofs.Ytcghcbdefajpgaa
open Go.RowKit
set_option linter.unusedSimpArgs false

def bvs (bs : List Bool) : List Value := bs.map Value.bool
theorem bvs_len (bs : List Bool) : (bvs bs).length = bs.length := by simp [bvs]
theorem bvs_set (bs : List Bool) (p : Nat) (b : Bool) : (bvs bs).set p (.bool b) = bvs (bs.set p b) := by simp [bvs, List.map_set]
theorem bvs_get {bs : List Bool} {p : Nat} (h : p < bs.length) : (bvs bs)[p]? = some (.bool (bs.getD p false)) := by simp [bvs, List.getD_eq_getElem?_getD, h]
theorem infoB : (Try.prog.info? 4).map (fun i => (i.zero, i.size, i.bytes)) = some (some (.bool false), 1, 1) := by kernel_rfl
theorem int_ne_bool : 2 ≠ 4 := by decide
theorem own_far_bool {w : World} {base base' g n c : Nat} {u : Value} {vs ws : List Value} (h : Own w base 2 u vs) (h' : Own w base' 4 (.slice (some ⟨g, 0, none⟩) n c) ws) (j : Nat) (x : Value) : Own (w.setCell ⟨g, j, none⟩ x) base 2 u vs := by
  refine h.far ?_ x
  rcases h.apart h' int_ne_bool with e | e
  · rw [e]; exact fun h => by cases h
  · exact e

section
variable {P : Program} {w : World} {ops : Array Oper} {rest : List Oper} {o : Oper} {a : Act} {Q : Exit → Act → World → Prop}
/-- The same as app_at, where the box's place is spelt otherwise. -/
theorem app_atP (hgd : o.guard = none) (s x : Operand) (t : TypeId) (hop : o.op = .call { callee := .builtin .append, args := #[s, x], argTypes := #[t, t] }) (base : Nat) (e : TypeId) (z : Value) (bytes : Nat) (h1 : P.underlying t = some (.slice e))
    (hinfo : (P.info? e).map (fun i => (i.zero, i.size, i.bytes)) = some (some z, 1, bytes)) (hz : z.cells.size = 1) {v u : Value} {vs : List Value} {te : TypeId} {p : Nat} (hown : Own w base e v vs) (hs : a.eval s = v) (hx : a.eval x = .slice (some ⟨p, 0, none⟩) 1 1) (hp : p = w.heap.size) (h1c : u.oneCell' = true)
    (hlen : vs.length + 1 ≤ 1099511627776) (hby : bytes ≤ 64) (hbase : base ≤ w.heap.size)
    (hK : ∀ v' w', Own w' base e v' (vs ++ [u]) → w.grownBy w' v.ownBlock → w.heap.size < w'.heap.size → Lies w.heap.size v v' → wpList P ops Q rest (a.put o.dst v') w') : wpList P ops Q (o :: rest) a (w.alloc (.cells #[u] te)) := by
  subst hp
  exact app_at hgd s x t hop base e z bytes h1 hinfo hz hown hs hx h1c hlen hby hbase hK
end
end Go.Proofs.Ytcghcbdefajpgaa

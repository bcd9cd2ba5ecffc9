/- Words of the walks: slices of slices; lists all of whose members fit. -/
import Derived.Test.YtecdjmfohcnadaaSl
import Derived.Test.YtecdjmfohcnadaaWi
namespace Go.Proofs.Ytecdjmfohcnadaa
open Go.RowKit

theorem all_no {α : Type} {p : α → Bool} {l : List α} {k : Nat} (hk : k < l.length) (h : p l[k] = false) : l.all p = false := by
  rw [Bool.eq_false_iff]
  intro hc
  have := List.all_eq_true.1 hc l[k] (List.getElem_mem hk)
  rw [h] at this; cases this
theorem all_yes {α : Type} {p : α → Bool} {l : List α} (h : ∀ k, (hk : k < l.length) → p l[k] = true) : l.all p = true :=
  List.all_eq_true.2 fun x hx => by
    obtain ⟨i, hi, rfl⟩ := List.getElem_of_mem hx
    exact h i hi
theorem ltSucc' {n : Nat} {p : (k : Nat) → k < n → Prop} {k : Nat} (hk : k < n) (h : ∀ j, (hj : j < n) → j < k → p j hj) (hp : p k hk) : ∀ j, (hj : j < n) → j < k + 1 → p j hj := by
  intro j hj hlt
  by_cases e : j = k
  · subst e; exact hp
  · exact h j hj (by omega)

/-- A slice value reads as these lists of whole numbers. -/
def RdLL (w : World) (v : Value) (xss : List (List Int)) : Prop :=
  ∃ (A : Option Addr) (c : Nat) (rows : List Value), v = .slice A xss.length c ∧ Rd w A rows ∧ rows.length = xss.length ∧ ∀ (j : Nat) (r : Value) (xs : List Int), rows[j]? = some r → xss[j]? = some xs → RdI w r xs
theorem RdLL.below {w w' : World} {v : Value} {xss : List (List Int)} (h : RdLL w v xss) (hb : Below w.heap.size w w') : RdLL w' v xss := by
  obtain ⟨A, c, rows, e, hr, hl, h⟩ := h
  exact ⟨A, c, rows, e, hr.below hb, hl, fun j r xs h1 h2 => (h j r xs h1 h2).below hb⟩
theorem RdLL.le {w : World} {v : Value} {xss : List (List Int)} (h : RdLL w v xss) : xss.length ≤ 9223372036854775807 := by
  obtain ⟨A, c, rows, e, hr, hl, h⟩ := h
  have := hr.1
  omega
theorem RdLL.lit1 {w : World} {v : Value} {xs : List Int} (h : RdI w v xs) (t : TypeId) (n : Nat) (hn : n = w.heap.size) : RdLL (w.alloc (.cells #[v] t)) (.slice (some ⟨n, 0, none⟩) 1 1) [xs] :=
  ⟨some ⟨n, 0, none⟩, 1, [v], rfl, ⟨by simp, fun _ => ⟨n, 0, rfl, fun j y hj => by
    match j, hj with
    | 0, hj =>
      rw [blkc (hp_new hn)]
      exact hj⟩⟩, rfl, fun j r ys h1 h2 => by
    match j, h1, h2 with
    | 0, h1, h2 =>
      simp at h1 h2
      subst h1 h2
      exact h.alloc _⟩
theorem RdLL.lit2 {w : World} {v u : Value} {xs ys : List Int} (h : RdI w v xs) (h' : RdI w u ys) (t : TypeId) (n : Nat) (hn : n = w.heap.size) : RdLL (w.alloc (.cells #[v, u] t)) (.slice (some ⟨n, 0, none⟩) 2 2) [xs, ys] :=
  ⟨some ⟨n, 0, none⟩, 2, [v, u], rfl, ⟨by simp, fun _ => ⟨n, 0, rfl, fun j y hj => by
    match j, hj with
    | 0, hj =>
      rw [blkc (hp_new hn)]
      exact hj
    | 1, hj =>
      rw [blkc (hp_new hn)]
      exact hj⟩⟩, rfl, fun j r zs h1 h2 => by
    match j, h1, h2 with
    | 0, h1, h2 =>
      simp at h1 h2
      subst h1 h2
      exact h.alloc _
    | 1, h1, h2 =>
      simp at h1 h2
      subst h1 h2
      exact h'.alloc _⟩
end Go.Proofs.Ytecdjmfohcnadaa

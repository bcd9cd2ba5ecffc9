/- Words of the walks: append to a slice of the call's own, with the word on where the new slice lies; slices of slices of the call's own. -/
import Derived.Test.YtecdjmfohcnadaaSl
import Derived.Maps.AppendAt
import Derived.Deep.AppendLies
namespace Go.Proofs.Ytecdjmfohcnadaa
open Go.RowKit

/-- The new slice lies where the old one lay, or in a block laid since a world of H blocks. -/
def Lies (H : Nat) (v v' : Value) : Prop := v'.ownBlock = v.ownBlock ∨ ∃ k, v'.ownBlock = some k ∧ H ≤ k
theorem Lies.trans {H : Nat} {v v' v'' : Value} (h : Lies H v v') (h' : Lies H v' v'') : Lies H v v'' := by
  rcases h' with e | e
  · rcases h with e2 | ⟨k, e2, e3⟩
    · exact .inl (e.trans e2)
    · exact .inr ⟨k, e.trans e2, e3⟩
  · exact .inr e
theorem Lies.refl (H : Nat) (v : Value) : Lies H v v := .inl rfl
theorem Lies.mono {H H' : Nat} {v v' : Value} (h : Lies H v v') (hh : H' ≤ H) : Lies H' v v' := by
  rcases h with e | ⟨k, e, h⟩
  · exact .inl e
  · exact .inr ⟨k, e, by omega⟩
/-- Two slices do not share a block. -/
def Apart (v u : Value) : Prop := v.ownBlock = none ∨ v.ownBlock ≠ u.ownBlock
theorem Apart.symm {v u : Value} (h : Apart v u) : Apart u v := by
  rcases h with e | e
  · cases hu : u.ownBlock with
    | none => exact .inl hu
    | some k => right; rw [hu, e]; exact fun h => by cases h
  · exact .inr (Ne.symm e)
/-- A slice that lay there stays apart from one that is appended to. -/
theorem Apart.lies {w : World} {base H : Nat} {e : TypeId} {v v' u : Value} {vs : List Value} (h : Apart u v) (hu : Own w base e u vs) (hH : w.heap.size ≤ H) (hl : Lies H v v') : Apart u v' := by
  rcases hl with e2 | ⟨k, e2, h2⟩
  · unfold Apart; rw [e2]; exact h
  · cases hb : u.ownBlock with
    | none => exact .inl hb
    | some j =>
      right
      rw [hb, e2]
      intro hh
      cases hh
      have := (hu.block k hb).2
      omega
/-- Slices of elements of different types are apart. -/
theorem Own.apart {w : World} {b b' : Nat} {e e' : TypeId} {v u : Value} {vs us : List Value} (h : Own w b e v vs) (h' : Own w b' e' u us) (hne : e ≠ e') : Apart v u := by
  rcases h.2 with ⟨h1, _⟩ | ⟨g, cap, cur, h1, _, hg, _⟩
  · left; rw [h1]; rfl
  · right
    rcases h'.2 with ⟨h2, _⟩ | ⟨g', cap', cur', h2, _, hg', _⟩
    · rw [h1, h2]; exact fun h => by cases h
    · rw [h1, h2]
      intro hh
      have : g = g' := by simpa [Value.ownBlock] using hh
      subst this
      rw [hg] at hg'
      cases hg'
      exact hne rfl
theorem Own.keep {w w' : World} {base : Nat} {e : TypeId} {v u : Value} {vs : List Value} (h : Own w base e u vs) (hg : w.grownBy w' v.ownBlock) (ha : Apart u v) : Own w' base e u vs := h.grown hg ha
theorem RdI.keep {w w' : World} {base : Nat} {e : TypeId} {v u : Value} {xs : List Int} (h : Own w base e u (ints xs)) (hg : w.grownBy w' v.ownBlock) (ha : Apart u v) : RdI w' u xs := (h.keep hg ha).rdI

section
variable {P : Program} {w : World} {ops : Array Oper} {rest : List Oper} {o : Oper} {a : Act} {Q : Exit → Act → World → Prop}
/-- append(v, u): behind the box of the variadic. -/
theorem app_at (hgd : o.guard = none) (s x : Operand) (t : TypeId) (hop : o.op = .call { callee := .builtin .append, args := #[s, x], argTypes := #[t, t] }) (base : Nat) (e : TypeId) (z : Value) (bytes : Nat) (h1 : P.underlying t = some (.slice e))
    (hinfo : (P.info? e).map (fun i => (i.zero, i.size, i.bytes)) = some (some z, 1, bytes)) (hz : z.cells.size = 1) {v u : Value} {vs : List Value} {te : TypeId} (hown : Own w base e v vs) (hs : a.eval s = v) (hx : a.eval x = .slice (some ⟨w.heap.size, 0, none⟩) 1 1) (h1c : u.oneCell' = true)
    (hlen : vs.length + 1 ≤ 1099511627776) (hby : bytes ≤ 64) (hbase : base ≤ w.heap.size)
    (hK : ∀ v' w', Own w' base e v' (vs ++ [u]) → w.grownBy w' v.ownBlock → w.heap.size < w'.heap.size → Lies w.heap.size v v' → wpList P ops Q rest (a.put o.dst v') w') : wpList P ops Q (o :: rest) a (w.alloc (.cells #[u] te)) := by
  obtain ⟨i, hi, hz0, hz1, hz2⟩ := info_parts hinfo
  refine wpList_append_own_at _ hgd s x t hop base e i z 1 bytes h1 hi hz0 hz1 hz2 hz (by decide) v vs.length vs hs (World.ownsRow.alloc hown _) ⟨w.heap.size, 0, none⟩ 1 1 [u] hx rfl ?_ ?_ ?_ ?_ ?_ ?_
  · intro j y hj
    match j, hj with
    | 0, hj =>
      simp at hj
      subst hj
      show (w.alloc (.cells #[u] te)).cell? ⟨w.heap.size, 0, none⟩ = some u
      rw [blkc (hp_new rfl)]
      rfl
  · intro y hy; simp at hy; subst hy; exact h1c
  · unfold maxLen; omega
  · have : (vs.length + 1) * bytes ≤ 1099511627776 * 64 := Nat.mul_le_mul hlen hby
    omega
  · simp; omega
  · intro v' w' ho hg _ hat
    have ho' : Own w' base e v' (vs ++ [u]) := by unfold Own; rw [List.length_append]; exact ho
    refine hK v' w' ho' ⟨hg.os, hg.tape, hg.output, ?_, fun k hk hr => ?_⟩ ?_ ?_
    · have := hg.size; simp at this; omega
    · rw [hg.block k (by simp; omega) hr, hpA, if_neg (by omega)]
    · have := hg.size; simp at this; omega
    · rcases hat with h | h
      · exact .inl h
      · exact .inr ⟨_, h, by simp⟩

/-- The same as one step of a region that draws; the element lies in block p. -/
theorem step_app {K : Act → World → Prop} {E : Prop} (hgd : o.guard = none) (s x : Operand) (t : TypeId) (hop : o.op = .call { callee := .builtin .append, args := #[s, x], argTypes := #[t, t] }) (base : Nat) (e : TypeId) (z : Value) (bytes : Nat) (h1 : P.underlying t = some (.slice e))
    (hinfo : (P.info? e).map (fun i => (i.zero, i.size, i.bytes)) = some (some z, 1, bytes)) (hz : z.cells.size = 1) {v u : Value} {vs : List Value} {te : TypeId} {p : Nat} (hown : Own w base e v vs) (hp : w.heap[p]? = some (.cells #[u] te (0, 0))) (hs : a.eval s = v) (hx : a.eval x = .slice (some ⟨p, 0, none⟩) 1 1) (h1c : u.oneCell' = true)
    (hlen : vs.length + 1 ≤ 1099511627776) (hby : bytes ≤ 64) (hbase : base ≤ w.heap.size)
    (hK : ∀ v' w', Own w' base e v' (vs ++ [u]) → w.grownBy w' v.ownBlock → w.heap.size ≤ w'.heap.size → Lies w.heap.size v v' → K (a.put o.dst v') w') :
    if Region.wanted o (yielded ops a.tmps) = true then Oper.wp P o a w K Q else E := by
  obtain ⟨i, hi, hz0, hz1, hz2⟩ := info_parts hinfo
  have hw : Region.wanted o (yielded ops a.tmps) = true := by simp [Region.wanted, hgd]
  rw [if_pos hw]
  obtain ⟨v', w', hr, h2, h3, h4, h5⟩ := run_append_own_at (P := P) w base t o.type e i z 1 bytes h1 hi hz0 hz1 hz2 hz (by decide) v vs.length vs hown ⟨p, 0, none⟩ 1 1 [u] rfl (fun j y hj => by
    match j, hj with
    | 0, hj =>
      simp at hj
      subst hj
      show w.cell? ⟨p, 0, none⟩ = some u
      rw [blkc hp]
      rfl) (fun y hy => by simp at hy; subst hy; exact h1c) (by unfold maxLen; omega) (by
    have : (vs.length + 1) * bytes ≤ 1099511627776 * 64 := Nat.mul_le_mul hlen hby
    omega) hbase
  have ho' : Own w' base e v' (vs ++ [u]) := by unfold Own; rw [List.length_append]; exact h2
  unfold Oper.wp execOp
  simp only [hop, resolve, invoke, builtin, Sem.run_bind, Sem.run_pure, Result.andThen_ok, List.map_toArray, List.map_cons, List.map_nil, hs, hx, hr]
  refine hK v' w' ho' h3 h3.size ?_
  rcases h5 with h | h
  · exact .inl h
  · exact .inr ⟨_, h, Nat.le_refl _⟩
end
end Go.Proofs.Ytecdjmfohcnadaa

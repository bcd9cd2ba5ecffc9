/- Slices of the call's own whose elements lie in several cells each. -/
import Derived.Test.YtcghcbdefajpgaaLas
namespace Go.Proofs.Ytcghcbdefajpgaa
open Go.RowKit

/-- A slice value of the call's own, whose elements are these lists of k cells. -/
def OwnW (w : World) (base : Nat) (e : TypeId) (k : Nat) (v : Value) (es : List (List Value)) : Prop := (∀ c ∈ es, c.length = k) ∧ w.ownsRow base e k v es.length es.flatten
theorem OwnW.nil (w : World) (base : Nat) (e : TypeId) (k : Nat) : OwnW w base e k (.slice none 0 0) [] := ⟨(fun c h => by cases h), (by simp), .inl ⟨rfl, rfl⟩⟩
theorem OwnW.slice {w : World} {base : Nat} {e : TypeId} {k : Nat} {v : Value} {es : List (List Value)} (h : OwnW w base e k v es) : ∃ A c, v = .slice A es.length c := by
  rcases h.2.2 with ⟨h1, h2⟩ | ⟨g, cap, cur, h1, _⟩
  · exact ⟨none, 0, by rw [h1, h2]⟩
  · exact ⟨_, _, h1⟩
theorem OwnW.form {w : World} {base : Nat} {e : TypeId} {k : Nat} {v : Value} {es : List (List Value)} (h : OwnW w base e k v es) (hp : 0 < es.length) : ∃ g c, v = .slice (some ⟨g, 0, none⟩) es.length c ∧ base ≤ g ∧ g < w.heap.size := by
  rcases h.2.2 with ⟨h1, h2⟩ | ⟨g, cap, cur, h1, hb, hg, _⟩
  · omega
  · exact ⟨g, cap, h1, hb, hp_lt hg⟩
theorem flat_get {k : Nat} : ∀ {es : List (List Value)}, (∀ c ∈ es, c.length = k) → ∀ {j i : Nat} {c : List Value} {x : Value}, es[j]? = some c → c[i]? = some x → es.flatten[j * k + i]? = some x
  | [], _, j, i, c, x, h, _ => by simp at h
  | d :: es, hl, 0, i, c, x, h, hx => by
    simp at h
    subst h
    have hi := (List.getElem?_eq_some_iff.1 hx).1
    rw [List.flatten_cons, Nat.zero_mul, Nat.zero_add, List.getElem?_append_left hi]
    exact hx
  | d :: es, hl, j + 1, i, c, x, h, hx => by
    have hd := hl d (List.mem_cons_self ..)
    rw [List.flatten_cons, List.getElem?_append_right (by rw [hd, Nat.succ_mul]; omega), hd]
    rw [show (j + 1) * k + i - k = j * k + i by rw [Nat.succ_mul]; omega]
    exact flat_get (fun c hc => hl c (List.mem_cons_of_mem _ hc)) (by simpa using h) hx
theorem OwnW.cell {w : World} {base g n c : Nat} {e : TypeId} {k : Nat} {es : List (List Value)} (h : OwnW w base e k (.slice (some ⟨g, 0, none⟩) n c) es) {j i : Nat} {cs : List Value} {x : Value} (hj : es[j]? = some cs) (hi : cs[i]? = some x) : w.cell? ⟨g, j * k + i, none⟩ = some x := by
  have := World.ownsRow.cells (g := g) h.2 rfl _ _ (flat_get h.1 hj hi)
  have ha : (⟨g, 0, none⟩ : Addr).add (j * k + i) = ⟨g, j * k + i, none⟩ := by unfold Addr.add; split <;> simp_all
  rwa [ha] at this
theorem OwnW.grown {w w' : World} {base : Nat} {e : TypeId} {k : Nat} {v : Value} {es : List (List Value)} {row : Option Nat} (h : OwnW w base e k v es) (hg : w.grownBy w' row) (hne : v.ownBlock = none ∨ v.ownBlock ≠ row) : OwnW w' base e k v es := ⟨h.1, World.ownsRow.kept h.2 hg hne⟩
theorem OwnW.below {w w' : World} {base : Nat} {e : TypeId} {k : Nat} {v : Value} {es : List (List Value)} (h : OwnW w base e k v es) (hb : Below w.heap.size w w') : OwnW w' base e k v es :=
  h.grown (grown_bel hb) (by cases hv : v.ownBlock <;> simp)
theorem OwnW.mono {w : World} {base base' : Nat} {e : TypeId} {k : Nat} {v : Value} {es : List (List Value)} (h : OwnW w base e k v es) (hb : base' ≤ base) : OwnW w base' e k v es := by
  refine ⟨h.1, h.2.1, ?_⟩
  rcases h.2.2 with h1 | ⟨g, cap, cur, h1, hg, rest⟩
  · exact .inl h1
  · exact .inr ⟨g, cap, cur, h1, by omega, rest⟩
theorem OwnW.block {w : World} {base : Nat} {e : TypeId} {k : Nat} {v : Value} {es : List (List Value)} (h : OwnW w base e k v es) : ∀ g, v.ownBlock = some g → base ≤ g ∧ g < w.heap.size := World.ownsRow.lt h.2
theorem OwnW.ne_low {w : World} {B T : Nat} {e : TypeId} {k : Nat} {v : Value} {es : List (List Value)} (h : OwnW w B e k v es) (hT : T < B) : v.ownBlock ≠ some T := fun hb => by have := (h.block T hb).1; omega
theorem OwnW.ne_new {w : World} {B : Nat} {e : TypeId} {k : Nat} {v : Value} {es : List (List Value)} (h : OwnW w B e k v es) : v.ownBlock ≠ some w.heap.size := fun hb => by have := (h.block _ hb).2; omega
theorem OwnW.empty (w : World) (e : TypeId) (k base : Nat) (hb : base ≤ w.heap.size) : OwnW (w.alloc (.cells #[] e)) base e k (.slice (some ⟨w.heap.size, 0, none⟩) 0 0) [] :=
  ⟨(fun c h => by cases h), World.ownsRow_made w #[] 0 hb (Nat.zero_le _) (by simp)⟩
theorem owns_block {w : World} {base : Nat} {e : TypeId} {k : Nat} {v : Value} {n : Nat} {xs : List Value} (h : w.ownsRow base e k v n xs) {g : Nat} (hg : v.ownBlock = some g) : ∃ cur, w.heap[g]? = some (.cells cur e (0, 0)) := by
  rcases h.2 with ⟨h1, _⟩ | ⟨g', cap, cur, h1, _, hgg, _⟩
  · rw [h1] at hg; cases hg
  · rw [h1] at hg
    have : g' = g := by simpa [Value.ownBlock] using hg
    subst this
    exact ⟨cur, hgg⟩
/-- Slices of elements of different types are apart. -/
theorem owns_apart {w : World} {b b' : Nat} {e e' : TypeId} {k k' : Nat} {v u : Value} {n n' : Nat} {vs us : List Value} (h : w.ownsRow b e k v n vs) (h' : w.ownsRow b' e' k' u n' us) (hne : e ≠ e') : Apart v u := by
  cases hv : v.ownBlock with
  | none => exact .inl hv
  | some g =>
    right
    rw [hv]
    intro hu
    obtain ⟨c, hc⟩ := owns_block h hv
    obtain ⟨c', hc'⟩ := owns_block h' hu.symm
    rw [hc] at hc'
    cases hc'
    exact hne rfl
theorem OwnW.apartI {w : World} {b b' : Nat} {e e' : TypeId} {k : Nat} {v u : Value} {es : List (List Value)} {us : List Value} (h : OwnW w b e k v es) (h' : Own w b' e' u us) (hne : e ≠ e') : Apart v u := owns_apart h.2 h' hne
theorem Own.apartW {w : World} {b b' : Nat} {e e' : TypeId} {k : Nat} {v u : Value} {es : List (List Value)} {us : List Value} (h : Own w b e v us) (h' : OwnW w b' e' k u es) (hne : e ≠ e') : Apart v u := owns_apart h h'.2 hne
theorem OwnW.apart {w : World} {b b' : Nat} {e e' : TypeId} {k k' : Nat} {v u : Value} {es es' : List (List Value)} (h : OwnW w b e k v es) (h' : OwnW w b' e' k' u es') (hne : e ≠ e') : Apart v u := owns_apart h.2 h'.2 hne
theorem belW_own {w w2 : World} {B : Nat} {e : TypeId} {k : Nat} {v : Value} {es : List (List Value)} (ho : OwnW w B e k v es) (hg : w.grownBy w2 v.ownBlock) (hB : B ≤ w.heap.size) : Below B w w2 :=
  (Below.refl B w).grown hg hB (fun k hk => (ho.block k hk).1)
section
variable {P : Program} {w : World} {ops : Array Oper} {rest : List Oper} {o : Oper} {a : Act} {Q : Exit → Act → World → Prop}
/-- append(v, u) of one element of k cells: behind the box of the variadic. -/
theorem app_wide (hgd : o.guard = none) (s x : Operand) (t : TypeId) (hop : o.op = .call { callee := .builtin .append, args := #[s, x], argTypes := #[t, t] }) (base : Nat) (e : TypeId) (z : Value) (k bytes : Nat) (h1 : P.underlying t = some (.slice e))
    (hinfo : (P.info? e).map (fun i => (i.zero, i.size, i.bytes)) = some (some z, k, bytes)) (hz : z.cells.size = k) (hk : 0 < k) {v : Value} {es : List (List Value)} {cs : Array Value} {te : TypeId} (hown : OwnW w base e k v es) (hs : a.eval s = v) (hx : a.eval x = .slice (some ⟨w.heap.size, 0, none⟩) 1 1) (hc : cs.size = k) (h1c : ∀ u ∈ cs.toList, u.oneCell' = true)
    (hlen : es.length + 1 ≤ 1073741824) (hby : bytes ≤ 65536) (hbase : base ≤ w.heap.size)
    (hK : ∀ v' w', OwnW w' base e k v' (es ++ [cs.toList]) → w.grownBy w' v.ownBlock → w.heap.size < w'.heap.size → Lies w.heap.size v v' → wpList P ops Q rest (a.put o.dst v') w') : wpList P ops Q (o :: rest) a (w.alloc (.cells cs te)) := by
  cases hi : P.info? e with
  | none => rw [hi] at hinfo; cases hinfo
  | some i =>
  rw [hi] at hinfo
  simp only [Option.map_some, Option.some.injEq, Prod.mk.injEq] at hinfo
  obtain ⟨hz0, hz1, hz2⟩ := hinfo
  refine wpList_append_own_at _ hgd s x t hop base e i z k bytes h1 hi hz0 hz1 hz2 hz hk v es.length es.flatten hs (World.ownsRow.alloc hown.2 _) ⟨w.heap.size, 0, none⟩ 1 1 cs.toList hx (by simp [hc]) ?_ h1c ?_ ?_ ?_ ?_
  · intro j y hj
    have ha : (⟨w.heap.size, 0, none⟩ : Addr).add j = ⟨w.heap.size, j, none⟩ := by unfold Addr.add; split <;> simp_all
    rw [ha, blkc (hp_new rfl)]
    simpa using hj
  · unfold maxLen; omega
  · have : (es.length + 1) * bytes ≤ 1073741824 * 65536 := Nat.mul_le_mul hlen hby
    omega
  · simp; omega
  · intro v' w' ho hg _ hat
    refine hK v' w' ⟨fun c hcm => ?_, ?_⟩ ⟨hg.os, hg.tape, hg.output, ?_, fun k hk hr => ?_⟩ ?_ ?_
    · rcases List.mem_append.1 hcm with h | h
      · exact hown.1 c h
      · rw [List.mem_singleton.1 h]; simp [hc]
    · rw [List.length_append, List.flatten_append]
      simpa using ho
    · have := hg.size; simp at this; omega
    · rw [hg.block k (by simp; omega) hr, hpA, if_neg (by omega)]
    · have := hg.size; simp at this; omega
    · rcases hat with h | h
      · exact .inl h
      · exact .inr ⟨_, h, by simp⟩
end
end Go.Proofs.Ytcghcbdefajpgaa

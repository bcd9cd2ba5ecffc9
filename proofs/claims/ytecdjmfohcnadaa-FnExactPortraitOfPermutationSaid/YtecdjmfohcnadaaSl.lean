/- Words of the walks: slices that are read, slices that the call itself made, append and make. Nothing of the program but its types' rows. -/
import Derived.Test.YtecdjmfohcnadaaLib
import Derived.OwnWalk
import Derived.WalkSmall
import Derived.Laws.BytesArg
namespace Go.Proofs.Ytecdjmfohcnadaa
open Go.RowKit

/-! ### Reading -/
/-- A slice at address A reads as these values, each one cell. -/
def Rd (w : World) (A : Option Addr) (vs : List Value) : Prop :=
  vs.length ≤ 9223372036854775807 ∧ (vs ≠ [] → ∃ b o, A = some ⟨b, o, none⟩ ∧ ∀ j v, vs[j]? = some v → w.cell? ⟨b, o + j, none⟩ = some v)
def ints (xs : List Int) : List Value := xs.map fun x => .int .i64 x
theorem ints_length (xs : List Int) : (ints xs).length = xs.length := by simp [ints]
theorem ints_get (xs : List Int) (j : Nat) : (ints xs)[j]? = xs[j]?.map (Value.int .i64) := by simp [ints]
theorem ints_append (xs ys : List Int) : ints (xs ++ ys) = ints xs ++ ints ys := by simp [ints]

theorem Rd.at_ {w : World} {A : Option Addr} {vs : List Value} (h : Rd w A vs) {j : Nat} {v : Value} (hj : vs[j]? = some v) : ∃ b o, A = some ⟨b, o, none⟩ ∧ w.cell? ⟨b, o + j, none⟩ = some v := by
  obtain ⟨b, o, hA, hc⟩ := h.2 (fun e => by rw [e] at hj; simp at hj)
  exact ⟨b, o, hA, hc j v hj⟩
theorem Rd.below {w w' : World} {A : Option Addr} {vs : List Value} (h : Rd w A vs) (hb : Below w.heap.size w w') : Rd w' A vs := by
  refine ⟨h.1, fun hn => ?_⟩
  obtain ⟨b, o, hA, hc⟩ := h.2 hn
  refine ⟨b, o, hA, fun j v hj => ?_⟩
  have := hc j v hj
  exact (hb.cell (p := ⟨b, o + j, none⟩) (World.block_lt_of_cell? w _ this)).trans this
theorem Rd.get {w : World} {A : Option Addr} {xs : List Int} (h : Rd w A (ints xs)) {j : Nat} (hj : j < xs.length) : ∃ b o, A = some ⟨b, o, none⟩ ∧ w.cell? ⟨b, o + j, none⟩ = some (.int .i64 (xs[j]'hj)) :=
  h.at_ (by rw [ints_get, List.getElem?_eq_getElem hj]; rfl)

/-- A slice value reads as these whole numbers. -/
def RdI (w : World) (v : Value) (xs : List Int) : Prop := ∃ A c, v = .slice A xs.length c ∧ Rd w A (ints xs)
theorem RdI.below {w w' : World} {v : Value} {xs : List Int} (h : RdI w v xs) (hb : Below w.heap.size w w') : RdI w' v xs := by
  obtain ⟨A, c, e, h⟩ := h
  exact ⟨A, c, e, h.below hb⟩
theorem RdI.le {w : World} {v : Value} {xs : List Int} (h : RdI w v xs) : xs.length ≤ 9223372036854775807 := by
  obtain ⟨A, c, e, h⟩ := h
  have := h.1
  rwa [ints_length] at this
theorem RdI.alloc {w : World} {v : Value} {xs : List Int} (h : RdI w v xs) (o : Obj) : RdI (w.alloc o) v xs := h.below ((Below.refl _ _).alloc (Nat.le_refl _) _)

/-! ### Owning -/
/-- A slice value of the call's own (its block from 'base' on), whose elements are these values, each one cell. -/
def Own (w : World) (base : Nat) (e : TypeId) (v : Value) (vs : List Value) : Prop := w.ownsRow base e 1 v vs.length vs
theorem Own.nil (w : World) (base : Nat) (e : TypeId) : Own w base e (.slice none 0 0) [] := ⟨rfl, .inl ⟨rfl, rfl⟩⟩
theorem Own.slice {w : World} {base : Nat} {e : TypeId} {v : Value} {vs : List Value} (h : Own w base e v vs) : ∃ A c, v = .slice A vs.length c := by
  rcases h.2 with ⟨h1, h2⟩ | ⟨g, cap, cur, h1, _⟩
  · exact ⟨none, 0, by rw [h1, h2]⟩
  · exact ⟨_, _, h1⟩
theorem Own.form {w : World} {base : Nat} {e : TypeId} {v : Value} {vs : List Value} (h : Own w base e v vs) (hp : 0 < vs.length) : ∃ g c, v = .slice (some ⟨g, 0, none⟩) vs.length c ∧ base ≤ g ∧ g < w.heap.size := by
  rcases h.2 with ⟨h1, h2⟩ | ⟨g, cap, cur, h1, hb, hg, _⟩
  · omega
  · exact ⟨g, cap, h1, hb, hp_lt hg⟩
theorem Own.le {w : World} {base : Nat} {e : TypeId} {v : Value} {vs : List Value} (h : Own w base e v vs) : vs.length ≤ 9223372036854775807 := by
  rcases h.2 with ⟨h1, h2⟩ | ⟨g, cap, cur, h1, hb, hg, hn, hm, _⟩
  · omega
  · unfold maxLen at hm; omega
theorem Own.rd {w : World} {base : Nat} {e : TypeId} {A : Option Addr} {n c : Nat} {vs : List Value} (h : Own w base e (.slice A n c) vs) : n = vs.length ∧ Rd w A vs := by
  obtain ⟨A', c', he⟩ := h.slice
  simp only [Value.slice.injEq] at he
  refine ⟨he.2.1, h.le, fun hn => ?_⟩
  have hp : 0 < vs.length := List.length_pos_iff.2 hn
  obtain ⟨g, c2, h1, _⟩ := h.form hp
  simp only [Value.slice.injEq] at h1
  refine ⟨g, 0, h1.1, fun j v hj => ?_⟩
  have := World.ownsRow.cells (g := g) h (by rw [h1.1]; rfl) j v hj
  have ha : (⟨g, 0, none⟩ : Addr).add j = ⟨g, 0 + j, none⟩ := by unfold Addr.add; split <;> simp_all
  rwa [ha] at this
theorem Own.rdI {w : World} {base : Nat} {e : TypeId} {v : Value} {xs : List Int} (h : Own w base e v (ints xs)) : RdI w v xs := by
  obtain ⟨A, c, rfl⟩ := h.slice
  exact ⟨A, c, by rw [ints_length], h.rd.2⟩
theorem Own.grown {w w' : World} {base : Nat} {e : TypeId} {v : Value} {vs : List Value} {row : Option Nat} (h : Own w base e v vs) (hg : w.grownBy w' row) (hne : v.ownBlock = none ∨ v.ownBlock ≠ row) : Own w' base e v vs := World.ownsRow.kept h hg hne
theorem grown_bel {w w' : World} (h : Below w.heap.size w w') : w.grownBy w' none := ⟨h.os, h.tape, h.output, h.size, fun k hk _ => h.block k hk⟩
theorem Own.below {w w' : World} {base : Nat} {e : TypeId} {v : Value} {vs : List Value} (h : Own w base e v vs) (hb : Below w.heap.size w w') : Own w' base e v vs :=
  h.grown (grown_bel hb) (by cases hv : v.ownBlock <;> simp)
theorem Own.alloc {w : World} {base : Nat} {e : TypeId} {v : Value} {vs : List Value} (h : Own w base e v vs) (o : Obj) : Own (w.alloc o) base e v vs := h.below ((Below.refl _ _).alloc (Nat.le_refl _) _)
theorem Own.mono {w : World} {base base' : Nat} {e : TypeId} {v : Value} {vs : List Value} (h : Own w base e v vs) (hb : base' ≤ base) : Own w base' e v vs := by
  refine ⟨h.1, ?_⟩
  rcases h.2 with h1 | ⟨g, cap, cur, h1, hg, rest⟩
  · exact .inl h1
  · exact .inr ⟨g, cap, cur, h1, by omega, rest⟩
theorem Own.block {w : World} {base : Nat} {e : TypeId} {v : Value} {vs : List Value} (h : Own w base e v vs) : ∀ k, v.ownBlock = some k → base ≤ k ∧ k < w.heap.size := World.ownsRow.lt h
theorem Own.cell {w : World} {base g c n : Nat} {e : TypeId} {vs : List Value} (h : Own w base e (.slice (some ⟨g, 0, none⟩) n c) vs) {j : Nat} {v : Value} (hj : vs[j]? = some v) : w.cell? ⟨g, j, none⟩ = some v := by
  have := World.ownsRow.cells (g := g) h rfl j v hj
  have ha : (⟨g, 0, none⟩ : Addr).add j = ⟨g, j, none⟩ := by unfold Addr.add; split <;> simp_all
  rwa [ha] at this
theorem Own.frozen {w : World} {base g c n : Nat} {e : TypeId} {vs : List Value} (h : Own w base e (.slice (some ⟨g, 0, none⟩) n c) vs) (j : Nat) : w.frozen? ⟨g, j, none⟩ = false := by
  have hn := h.rd.1
  subst hn
  exact World.ownsRow.frozenAt h j
theorem Own.store {w : World} {base g c n : Nat} {e : TypeId} {vs : List Value} (h : Own w base e (.slice (some ⟨g, 0, none⟩) n c) vs) (j : Nat) (u : Value) : Own (w.setCell ⟨g, j, none⟩ u) base e (.slice (some ⟨g, 0, none⟩) n c) (vs.set j u) := by
  have hn := h.rd.1
  subst hn
  have := (World.ownsRow.stored h j u).1
  unfold Own
  rwa [List.length_set]
/-- A store into another block. -/
theorem Own.far {w : World} {base : Nat} {e : TypeId} {v : Value} {vs : List Value} (h : Own w base e v vs) {p : Addr} (hp : v.ownBlock ≠ some p.block) (u : Value) : Own (w.setCell p u) base e v vs :=
  h.grown (row := some p.block) ⟨rfl, rfl, rfl, by simp [World.setCell], fun k _ hk => Below.heap_setCell _ _ _ _ (fun e => hk (by rw [e]))⟩ (.inr hp)

/-! ### A list that is filled place by place -/
def part (l : List Value) (n k : Nat) (z : Value) : List Value := l.take k ++ List.replicate (n - k) z
theorem part_length (l : List Value) (n k : Nat) (z : Value) (hl : l.length = n) (hk : k ≤ n) : (part l n k z).length = n := by simp [part]; omega
theorem part_zero (l : List Value) (n : Nat) (z : Value) : part l n 0 z = List.replicate n z := by simp [part]
theorem part_all (l : List Value) (n : Nat) (z : Value) (hl : l.length = n) : part l n n z = l := by simp [part, ← hl]
theorem part_get (l : List Value) (n k : Nat) (z : Value) (hl : l.length = n) (hk : k < n) : (part l n k z)[k]? = some z := by
  have h1 : ¬ k < min k l.length := by omega
  have h2 : k - min k l.length < n - k := by omega
  simp [part, List.getElem?_append, h1, h2]
theorem part_set (l : List Value) (n k : Nat) (z v : Value) (hl : l.length = n) (hk : k < n) (hv : l[k]? = some v) : (part l n k z).set k v = part l n (k + 1) z := by
  have e : n - k = (n - (k + 1)) + 1 := by omega
  have ht : l.take (k + 1) = l.take k ++ [v] := by rw [List.take_add_one, hv]; rfl
  unfold part
  rw [ht, e, List.replicate_succ, List.set_append_right _ _ (by simp; omega)]
  simp [show min k l.length = k by omega]

/-! ### make and append -/
section
variable {P : Program} {w : World} {ops : Array Oper} {rest : List Oper} {o : Oper} {a : Act} {Q : Exit → Act → World → Prop}
theorem mk_own (hgd : o.guard = none) (l c : Operand) (t : TypeId) (hop : o.op = Op.makeSlice t l c) (base : Nat) (e : TypeId) (z : Value) (bytes : Nat) (h1 : P.underlying t = some (.slice e))
    (hinfo : (P.info? e).map (fun i => (i.zero, i.size, i.bytes)) = some (some z, 1, bytes)) (hz : z.cells = #[z]) (n : Nat) (hl : a.eval l = .int .i64 n) (hc : a.eval c = .int .i64 n) (b2 : bytes * n ≤ 281474976710656) (b3 : n ≤ 9223372036854775807) (b4 : base ≤ w.heap.size)
    (hK : ∀ w', Own w' base e (.slice (some ⟨w.heap.size, 0, none⟩) n n) (List.replicate n z) → w.grownBy w' none → w.heap.size < w'.heap.size → wpList P ops Q rest (a.put o.dst (.slice (some ⟨w.heap.size, 0, none⟩) n n)) w') :
    wpList P ops Q (o :: rest) a w := by
  obtain ⟨i, hi, hz0, hz1, hz2⟩ := info_parts hinfo
  refine wpList_make_full w hgd l c t hop base e i z 1 h1 hi hz0 hz1 .i64 .i64 n n n hl hc rfl rfl (by rw [hz2]; exact b2) (by unfold maxLen; omega) b4 fun w' ho hg => ?_
  rw [hz, Nat.mul_one, toList_madeCells_one] at ho
  have ho' : Own w' base e (.slice (some ⟨w.heap.size, 0, none⟩) n n) (List.replicate n z) := by unfold Own; rw [List.length_replicate]; exact ho
  refine hK w' ho' hg ?_
  have := World.ownsRow.lt ho w.heap.size rfl
  omega

/-- append(v, u) of one element of one cell: behind the box of the variadic. -/
theorem app_own (hgd : o.guard = none) (s x : Operand) (t : TypeId) (hop : o.op = .call { callee := .builtin .append, args := #[s, x], argTypes := #[t, t] }) (base : Nat) (e : TypeId) (z : Value) (bytes : Nat) (h1 : P.underlying t = some (.slice e))
    (hinfo : (P.info? e).map (fun i => (i.zero, i.size, i.bytes)) = some (some z, 1, bytes)) (hz : z.cells.size = 1) {v u : Value} {vs : List Value} {te : TypeId} (hown : Own w base e v vs) (hs : a.eval s = v) (hx : a.eval x = .slice (some ⟨w.heap.size, 0, none⟩) 1 1) (h1c : u.oneCell' = true)
    (hlen : vs.length + 1 ≤ 1099511627776) (hby : bytes ≤ 64) (hbase : base ≤ w.heap.size)
    (hK : ∀ v' w', Own w' base e v' (vs ++ [u]) → w.grownBy w' v.ownBlock → w.heap.size < w'.heap.size → wpList P ops Q rest (a.put o.dst v') w') : wpList P ops Q (o :: rest) a (w.alloc (.cells #[u] te)) := by
  obtain ⟨i, hi, hz0, hz1, hz2⟩ := info_parts hinfo
  refine wpList_append_own _ hgd s x t hop base e i z 1 bytes h1 hi hz0 hz1 hz2 hz (by decide) v vs.length vs hs (World.ownsRow.alloc hown _) ⟨w.heap.size, 0, none⟩ 1 1 [u] hx rfl ?_ ?_ ?_ ?_ ?_ ?_
  · intro j y hj
    match j, hj with
    | 0, hj =>
      simp at hj
      subst hj
      show (w.alloc (.cells #[u] te)).cell? ⟨w.heap.size, 0, none⟩ = some u
      rw [blkc (hp_new rfl)]
      rfl
  · intro y hy; simp at hy; subst hy; exact h1c
  · unfold maxLen; omega
  · have : (vs.length + 1) * bytes ≤ 1099511627776 * 64 := Nat.mul_le_mul hlen hby
    omega
  · simp; omega
  · intro v' w' ho hg _
    have ho' : Own w' base e v' (vs ++ [u]) := by unfold Own; rw [List.length_append]; exact ho
    refine hK v' w' ho' ⟨hg.os, hg.tape, hg.output, ?_, fun k hk hr => ?_⟩ ?_
    · have := hg.size; simp at this; omega
    · rw [hg.block k (by simp; omega) hr, hpA, if_neg (by omega)]
    · have := hg.size; simp at this; omega
end
/-- What stands below is as it was behind a make or an append to a slice of the call's own. -/
theorem bel_grown {B : Nat} {w w1 w2 : World} (h : Below B w w1) {row : Option Nat} (hg : w1.grownBy w2 row) (hB : B ≤ w1.heap.size) (hr : ∀ k, row = some k → B ≤ k) : Below B w w2 := h.grown hg hB hr

theorem bel_own {w w2 : World} {B : Nat} {e : TypeId} {v : Value} {vs : List Value} (ho : Own w B e v vs) (hg : w.grownBy w2 v.ownBlock) (hB : B ≤ w.heap.size) : Below B w w2 :=
  (Below.refl B w).grown hg hB (fun k hk => (ho.block k hk).1)
theorem info_i64 : (Try.prog.info? 2).map (fun i => (i.zero, i.size, i.bytes)) = some (some (.int .i64 0), 1, 8) := by kernel_rfl
theorem info_u8 : (Try.prog.info? 5).map (fun i => (i.zero, i.size, i.bytes)) = some (some (.int .u8 0), 1, 1) := by kernel_rfl
end Go.Proofs.Ytecdjmfohcnadaa

/- A slice literal of one machine. -/
import Derived.Test.YtcghcbdefajpgaaMnm
import Derived.Great.BuildSlice
namespace Go.Proofs.Ytcghcbdefajpgaa
open Go.RowKit

theorem fold_get : ∀ (l : List Value) (k : Nat) (zs : Array Value) (j : Nat), ((l.zipIdx k).foldl (fun (a : Array Value) (x : Value × Nat) => a.setIfInBounds x.2 x.1) zs)[j]? = if k ≤ j ∧ j < k + l.length ∧ j < zs.size then l[j - k]? else zs[j]?
  | [], k, zs, j => by
    rw [if_neg (by simp; omega)]; rfl
  | a :: l, k, zs, j => by
    rw [List.zipIdx_cons, List.foldl_cons, fold_get l (k + 1) _ j]
    simp only [Array.size_setIfInBounds, List.length_cons, Array.getElem?_setIfInBounds]
    by_cases e : k = j
    · subst e
      have h1 : ¬ (k + 1 ≤ k ∧ k < k + 1 + l.length ∧ k < zs.size) := by omega
      rw [if_neg h1, if_pos rfl]
      by_cases h : k < zs.size
      · have h2 : k ≤ k ∧ k < k + (l.length + 1) ∧ k < zs.size := ⟨Nat.le_refl _, by omega, h⟩
        rw [if_pos h, if_pos h2]; simp
      · have h2 : ¬ (k ≤ k ∧ k < k + (l.length + 1) ∧ k < zs.size) := by omega
        rw [if_neg h, if_neg h2]; exact (Array.getElem?_eq_none (by omega)).symm
    · by_cases h : k + 1 ≤ j ∧ j < k + 1 + l.length ∧ j < zs.size
      · have h2 : k ≤ j ∧ j < k + (l.length + 1) ∧ j < zs.size := by omega
        rw [if_pos h, if_pos h2, show j - k = (j - (k + 1)) + 1 by omega, List.getElem?_cons_succ]
      · have h2 : ¬ (k ≤ j ∧ j < k + (l.length + 1) ∧ j < zs.size) := by omega
        rw [if_neg h, if_neg e, if_neg h2]
theorem fold_zip (cs zs : Array Value) (h : zs.size = cs.size) : (cs.toList.zipIdx 0).foldl (fun (a : Array Value) (x : Value × Nat) => a.setIfInBounds x.2 x.1) zs = cs := by
  apply Array.ext_getElem?
  intro j
  rw [fold_get]
  by_cases hj : j < cs.size
  · rw [if_pos ⟨Nat.zero_le _, by simpa using hj, by omega⟩]; simp
  · rw [if_neg (by simp; omega), Array.getElem?_eq_none (by omega), Array.getElem?_eq_none (by omega)]
theorem infoM : ∃ i : TypeInfo, Try.prog.info? 31 = some i ∧ i.size = 98 ∧ ∃ z, i.zero = some z := by
  have h : ((Try.prog.info? 31).map fun i => (i.size, i.zero.isSome)) = some (98, true) := by kernel_rfl
  cases hi : Try.prog.info? 31 with
  | none => rw [hi] at h; cases h
  | some i =>
    rw [hi] at h
    simp only [Option.map_some, Option.some.injEq, Prod.mk.injEq] at h
    exact ⟨i, rfl, h.1, Option.isSome_iff_exists.1 h.2⟩
set_option maxHeartbeats 1000000 in
theorem fillM (m : Mc) (zs : Array Value) (hz : zs.size = 98) : Instr.fill (fun i => some (i * 98, 98)) zs [(0, .agg m.cells)] = some m.cells := by
  have h := fold_zip m.cells zs (by rw [hz, m.cells_size])
  have e1 : (Value.agg m.cells).cells = m.cells := rfl
  simp only [Instr.fill, e1, m.cells_size, hz]
  rw [if_neg (by simp)]
  have h2 : m.cells.zipIdx.foldl (fun (cs : Array Value) (x : Value × Nat) => cs.setIfInBounds (0 * 98 + x.2) x.1) zs = m.cells := by
    rw [← Array.foldl_toList, Array.toList_zipIdx]
    simp only [Nat.zero_mul, Nat.zero_add]
    exact h
  exact congrArg some h2
section
variable {o : Oper} {a : Act} {w : World} {K : Act → World → Prop} {Q : Exit → Act → World → Prop} {ops : Array Oper} {rest : List Oper}
theorem fillM' (m : Mc) (x : Operand) (hx : a.eval x = .agg m.cells) {i : TypeInfo} (hs : i.size = 98) (z : Value) : Instr.fill (fun j => some (j * i.size, i.size)) ((Array.range (1 * i.size)).map (z.cells[· % z.cells.size]!)) ((#[(0, x)] : Array (Nat × Operand)).map fun (j, y) => (j, a.eval y)).toList = some m.cells := by
  have h := fillM m ((Array.range (1 * i.size)).map (z.cells[· % z.cells.size]!)) (by simp [hs])
  rw [hs] at h ⊢
  simpa [hx] using h
/-- A slice literal of one machine, as a step of a region that draws. -/
theorem bs_M (hg : o.guard = none) (x : Operand) (ho : o.op = .buildSlice 43 1 #[(0, x)]) (m : Mc) (hx : a.eval x = .agg m.cells) {E : Prop} (h : K (a.put o.dst (.slice (some ⟨w.heap.size, 0, none⟩) 1 1)) (w.alloc (.cells m.cells 31))) :
    if Region.wanted o (yielded ops a.tmps) = true then Oper.wp Try.prog o a w K Q else E := by
  have hw : Region.wanted o (yielded ops a.tmps) = true := by simp [Region.wanted, hg]
  rw [if_pos hw]
  obtain ⟨i, hi, hs, z, hz⟩ := infoM
  exact wp_buildSlice _ 31 1 _ ho m.cells i z Try.underlying43 hi hz (by rw [hs]; decide) (by rw [hs]; decide) (fillM' m x hx hs z) h
/-- .. and in order. -/
theorem bsl_M (hg : o.guard = none) (x : Operand) (ho : o.op = .buildSlice 43 1 #[(0, x)]) (m : Mc) (hx : a.eval x = .agg m.cells) (h : wpList Try.prog ops Q rest (a.put o.dst (.slice (some ⟨w.heap.size, 0, none⟩) 1 1)) (w.alloc (.cells m.cells 31))) :
    wpList Try.prog ops Q (o :: rest) a w := by
  obtain ⟨i, hi, hs, z, hz⟩ := infoM
  exact wpList_buildSlice hg _ 31 1 _ ho m.cells i z Try.underlying43 hi hz (by rw [hs]; decide) (by rw [hs]; decide) (fillM' m x hx hs z) h
end
end Go.Proofs.Ytcghcbdefajpgaa

/- Opening of the laws' arguments: slices of whole numbers. -/
import Derived.Test.YtcghcbdefajpgaaBA
import Derived.ChangeSlices
import Derived.ProofKit
import Derived.OpenShut
import Derived.Lib.SmallJoins
import Derived.ChangeOld
import Derived.SizedLaws
namespace Go.Proofs.Ytcghcbdefajpgaa
open Go.RowKit Go.ChangeShapes Go.WideShapes Go.ChangeAt

theorem getD_lt' {α : Type} {l : List α} {j : Nat} (d : α) (hj : j < l.length) : l.getD j d = l[j] := by rw [List.getD_eq_getElem?_getD, List.getElem?_eq_getElem hj, Option.getD_some]
section
variable {H : Type} {enc : TypeId × Value → H} {w : World} {base : Nat} {spare : Nat → Bool} {held : Bool}

theorem spot_none {w : World} {a : Addr} {v : Value} (h : w.cell? a = some v) : a.spot = none := by
  unfold World.cell? at h
  cases hs : a.spot with
  | none => rfl
  | some x =>
    split at h
    · rw [hs] at h; simp at h
    · cases h
theorem add_plain {a : Addr} (h : a.spot = none) (i : Nat) : a.add i = ⟨a.block, a.off + i, none⟩ := by
  unfold Addr.add
  split
  · rename_i e
    subst e
    cases a
    simp_all
  · rfl
set_option maxRecDepth 100000 in
theorem open_L {v : Value} {d : DataW H} {p : List MemPlace} {r : Reach} {b : Nat} {W : World} (hv : Value.okWide Try.prog W r b 26 v) (h : DataW.Trod enc Try.prog w base (fun _ => true) held 26 v d p) :
    ∃ xs, RdI w v xs := by
  obtain ⟨a0, n0, c0, rfl⟩ := okWide_slice Try.underlying26 hv
  obtain ⟨fuel, hf⟩ := h
  rcases Go.ChangeShapes.open_ints Try.underlying26 Try.underlying2 (by kernel_rfl) hf with ⟨h1, _⟩ | ⟨a, len, cap, zs, h1, _, hlc, hm, hz, _, hc, _⟩
  · have e := congrArg (fun l : List Value => l[0]?) h1
    simp [Value.cells] at e
    obtain ⟨rfl, rfl, rfl⟩ := e
    exact ⟨[], none, 0, rfl, by simp [ints], fun h => absurd rfl h⟩
  · have e := congrArg (fun l : List Value => l[0]?) h1
    simp [Value.cells] at e
    obtain ⟨rfl, rfl, rfl⟩ := e
    have hz' : zs.length = c0 := by simpa using hz
    have hl : (zs.take n0).length = n0 := by rw [List.length_take]; omega
    refine ⟨zs.take n0, some a, c0, by rw [hl], ?_, ?_⟩
    · rw [ints_length, hl]; unfold maxLen at hm; omega
    · intro hne
      have hpos : 0 < n0 := by
        have : ints (zs.take n0) ≠ [] := hne
        have h2 : (ints (zs.take n0)).length ≠ 0 := fun h => this (List.length_eq_zero_iff.1 h)
        rw [ints_length, hl] at h2
        omega
      have hs : a.spot = none := by
        have := hc 0 (by omega)
        have e0 : a.add 0 = a := by simp [Addr.add]
        rw [e0] at this
        exact spot_none this
      refine ⟨a.block, a.off, ?_, fun j x hj => ?_⟩
      · cases a; simp_all
      · rw [ints_get, List.getElem?_take] at hj
        by_cases hjn : j < n0
        · rw [if_pos hjn] at hj
          have := hc j (by omega)
          rw [add_plain hs] at this
          rw [this, ← hj, List.getElem?_eq_getElem (by omega)]
          rw [getD_lt' 0 (show j < zs.length by omega)]
          rfl
        · rw [if_neg hjn] at hj; cases hj
end
end Go.Proofs.Ytcghcbdefajpgaa

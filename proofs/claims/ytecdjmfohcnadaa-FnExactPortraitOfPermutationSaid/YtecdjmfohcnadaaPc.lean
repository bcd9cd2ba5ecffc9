/- Plain laws: the cycles of a list of numbers, as a loop finds them. -/
import Derived.Test.YtecdjmfohcnadaaPq
namespace Go.Proofs.Ytecdjmfohcnadaa
open Go.RowKit

/-- From one place on, as long as no place comes that was met. -/
def cyR (L : List Int) : Nat → List Bool → Nat → List Bool × Nat
  | 0, bs, _ => (bs, 0)
  | f + 1, bs, a => if bs.getD a true then (bs, 0) else ((cyR L f (bs.set a true) (L.getD a 0).toNat).1, (cyR L f (bs.set a true) (L.getD a 0).toNat).2 + 1)
def cyA (L : List Int) : Nat → List Bool × List Int
  | 0 => (List.replicate L.length false, [])
  | k + 1 => ((cyR L (L.length + 1) (cyA L k).1 k).1, if 0 < (cyR L (L.length + 1) (cyA L k).1 k).2 then (cyA L k).2 ++ [((cyR L (L.length + 1) (cyA L k).1 k).2 : Int)] else (cyA L k).2)
theorem cyR_stop {L : List Int} {f a : Nat} {bs : List Bool} (h : bs.getD a true = true) : cyR L (f + 1) bs a = (bs, 0) := by rw [cyR, if_pos h]
theorem cyR_on {L : List Int} {f a : Nat} {bs : List Bool} (h : bs.getD a true = false) : (cyR L (f + 1) bs a).1 = (cyR L f (bs.set a true) (L.getD a 0).toNat).1 ∧ (cyR L (f + 1) bs a).2 = (cyR L f (bs.set a true) (L.getD a 0).toNat).2 + 1 := by
  rw [cyR, if_neg (by rw [h]; decide)]
  exact ⟨rfl, rfl⟩
theorem cyR_len (L : List Int) : ∀ (f : Nat) (bs : List Bool) (a : Nat), (cyR L f bs a).1.length = bs.length
  | 0, _, _ => rfl
  | f + 1, bs, a => by
    rw [cyR]
    split
    · rfl
    · show (cyR L f (bs.set a true) (L.getD a 0).toNat).1.length = _
      rw [cyR_len L f, List.length_set]
theorem cyA_len (L : List Int) : ∀ k, (cyA L k).1.length = L.length
  | 0 => by simp [cyA]
  | k + 1 => by
    show (cyR L (L.length + 1) (cyA L k).1 k).1.length = _
    rw [cyR_len, cyA_len L k]
theorem cyA_out (L : List Int) : ∀ k, (cyA L k).2.length ≤ k
  | 0 => Nat.le_refl _
  | k + 1 => by
    have := cyA_out L k
    show (if 0 < (cyR L (L.length + 1) (cyA L k).1 k).2 then (cyA L k).2 ++ [((cyR L (L.length + 1) (cyA L k).1 k).2 : Int)] else (cyA L k).2).length ≤ k + 1
    split
    · rw [List.length_append]; simp; omega
    · omega
/-- How many places were not met. -/
def unm (bs : List Bool) : Nat := bs.countP (fun b => !b)
theorem unm_le (bs : List Bool) : unm bs ≤ bs.length := List.countP_le_length
theorem unm_set {bs : List Bool} {a : Nat} (ha : a < bs.length) (h : bs.getD a true = false) : unm (bs.set a true) + 1 = unm bs := by
  rw [List.getD_eq_getElem?_getD, List.getElem?_eq_getElem ha, Option.getD_some] at h
  have hp : 0 < unm bs := List.countP_pos_iff.2 ⟨bs[a], List.getElem_mem ha, by rw [h]; rfl⟩
  have := List.countP_set (p := fun b => !b) (a := true) ha
  unfold unm at *
  rw [this, h]
  simp
  omega
theorem cyR_bd (L : List Int) : ∀ (f : Nat) (bs : List Bool) (a : Nat), (cyR L f bs a).2 ≤ f
  | 0, _, _ => Nat.le_refl _
  | f + 1, bs, a => by
    rw [cyR]
    split
    · exact Nat.zero_le _
    · exact Nat.succ_le_succ (cyR_bd L f _ _)
end Go.Proofs.Ytecdjmfohcnadaa

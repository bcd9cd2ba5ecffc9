/- Plain: a text cut into its pieces from the left, one byte after the other. -/
import Derived.Test.YtighjpnjbgjgaaaDoorPmp
namespace Go.Proofs.YtighjpnjbgjgaaaDoor
open Go.RowKit

/-- The first i bytes are seen, the last piece begins at a, the pieces ahead are out. -/
structure SpI (c : UInt8) (s : List UInt8) (i a : Nat) (out : List (List UInt8)) : Prop where
  le : a ≤ i
  li : i ≤ s.length
  no : ∀ j, a ≤ j → j < i → s[j]? ≠ some c
  eq : spl c s = out ++ spl c (s.drop a)
theorem SpI.start (c : UInt8) (s : List UInt8) : SpI c s 0 0 [] := ⟨Nat.le_refl _, Nat.zero_le _, fun _ _ h => absurd h (Nat.not_lt_zero _), by simp⟩
theorem SpI.piece {c : UInt8} {s : List UInt8} {i a : Nat} {out : List (List UInt8)} (h : SpI c s i a out) : c ∉ (s.drop a).take (i - a) := by
  intro hm
  obtain ⟨j, hj, e⟩ := List.getElem_of_mem hm
  rw [List.length_take] at hj
  rw [List.getElem_take, List.getElem_drop] at e
  refine h.no (a + j) (by omega) (by omega) ?_
  rw [List.getElem?_eq_getElem (by have := h.li; omega), e]
theorem SpI.hit {c : UInt8} {s : List UInt8} {i a : Nat} {out : List (List UInt8)} (h : SpI c s i a out) (hi : i < s.length) (hc : s[i] = c) : SpI c s (i + 1) (i + 1) (out ++ [(s.drop a).take (i - a)]) := by
  refine ⟨Nat.le_refl _, hi, fun j h1 h2 => absurd h2 (by omega), ?_⟩
  have e : s.drop a = (s.drop a).take (i - a) ++ c :: s.drop (i + 1) := by
    have h1 := (List.take_append_drop (i - a) (s.drop a)).symm
    have h2 : (s.drop a).drop (i - a) = c :: s.drop (i + 1) := by
      rw [List.drop_drop, show a + (i - a) = i by have := h.le; omega, List.drop_eq_getElem_cons hi, hc]
    rwa [h2] at h1
  rw [h.eq]
  have e2 : spl c (s.drop a) = (s.drop a).take (i - a) :: spl c (s.drop (i + 1)) := by
    have h3 := spl_app (t := s.drop (i + 1)) h.piece
    rwa [← e] at h3
  rw [e2, List.append_assoc]
  rfl
theorem SpI.miss {c : UInt8} {s : List UInt8} {i a : Nat} {out : List (List UInt8)} (h : SpI c s i a out) (hi : i < s.length) (hc : s[i] ≠ c) : SpI c s (i + 1) a out := by
  refine ⟨by have := h.le; omega, hi, fun j h1 h2 => ?_, h.eq⟩
  by_cases e : j = i
  · subst e
    rw [List.getElem?_eq_getElem hi]
    exact fun e => hc (Option.some.inj e)
  · exact h.no j h1 (by omega)
theorem SpI.done {c : UInt8} {s : List UInt8} {a : Nat} {out : List (List UInt8)} (h : SpI c s s.length a out) : spl c s = out ++ [s.drop a] := by
  have hp := h.piece
  rw [List.take_of_length_le (by rw [List.length_drop]; omega)] at hp
  rw [h.eq, spl_none hp]
theorem SpI.count {c : UInt8} {s : List UInt8} {i a : Nat} {out : List (List UInt8)} (h : SpI c s i a out) (hl : out.length ≤ a) : (out ++ [(s.drop a).take (i - a)]).length ≤ i + 1 := by
  have := h.le
  rw [List.length_append, List.length_singleton]
  omega

/-! ### The machine, as far as it is read -/
def rdP (L S : Int) (ps : List (List UInt8)) (q x : Nat) : Mc := ⟨L, S, fun a b => if a < q ∨ a = q ∧ b < x then rdN ps a b else 0, fun a b => if a < q ∨ a = q ∧ b < x then rdO ps a b else 0⟩
theorem rdP_zero (L S : Int) (ps : List (List UInt8)) : rdP L S ps 0 0 = ⟨L, S, fun _ _ => 0, fun _ _ => 0⟩ :=
  mc_ext rfl rfl (fun a b => if_neg (by omega)) (fun a b => if_neg (by omega))
theorem rdP_step (L S : Int) (ps : List (List UInt8)) (q x : Nat) : ((rdP L S ps q x).setO q x (rdO ps q x)).setN q x (rdN ps q x) = rdP L S ps q (x + 1) := by
  refine mc_ext rfl rfl (fun a b => ?_) (fun a b => ?_)
  · show (if a = q ∧ b = x then rdN ps q x else if a < q ∨ a = q ∧ b < x then rdN ps a b else 0) = if a < q ∨ a = q ∧ b < x + 1 then rdN ps a b else 0
    by_cases h : a = q ∧ b = x
    · rw [if_pos h, if_pos (by omega), h.1, h.2]
    · rw [if_neg h]
      by_cases h2 : a < q ∨ a = q ∧ b < x
      · rw [if_pos h2, if_pos (by omega)]
      · rw [if_neg h2, if_neg (by omega)]
  · show (if a = q ∧ b = x then rdO ps q x else if a < q ∨ a = q ∧ b < x then rdO ps a b else 0) = if a < q ∨ a = q ∧ b < x + 1 then rdO ps a b else 0
    by_cases h : a = q ∧ b = x
    · rw [if_pos h, if_pos (by omega), h.1, h.2]
    · rw [if_neg h]
      by_cases h2 : a < q ∨ a = q ∧ b < x
      · rw [if_pos h2, if_pos (by omega)]
      · rw [if_neg h2, if_neg (by omega)]
theorem rd_out {ps : List (List UInt8)} {q x : Nat} (h : (ps.getD q []).length ≤ 2 * x) : rdN ps q x = 0 ∧ rdO ps q x = 0 := by
  unfold rdN rdO
  rw [List.getElem?_eq_none (by omega), List.getElem?_eq_none (by omega)]
  exact ⟨rfl, rfl⟩
theorem rdP_row (L S : Int) {ps : List (List UInt8)} {q x : Nat} (h : (ps.getD q []).length ≤ 2 * x) : rdP L S ps q x = rdP L S ps (q + 1) 0 := by
  refine mc_ext rfl rfl (fun a b => ?_) (fun a b => ?_)
  · show (if a < q ∨ a = q ∧ b < x then rdN ps a b else 0) = if a < q + 1 ∨ a = q + 1 ∧ b < 0 then rdN ps a b else 0
    by_cases h2 : a < q ∨ a = q ∧ b < x
    · rw [if_pos h2, if_pos (by omega)]
    · rw [if_neg h2]
      split
      · have e : a = q := by omega
        subst e
        exact (rd_out (by omega)).1.symm
      · rfl
  · show (if a < q ∨ a = q ∧ b < x then rdO ps a b else 0) = if a < q + 1 ∨ a = q + 1 ∧ b < 0 then rdO ps a b else 0
    by_cases h2 : a < q ∨ a = q ∧ b < x
    · rw [if_pos h2, if_pos (by omega)]
    · rw [if_neg h2]
      split
      · have e : a = q := by omega
        subst e
        exact (rd_out (by omega)).2.symm
      · rfl
theorem rdP_end (L S : Int) (ps : List (List UInt8)) : rdP L S ps ps.length 0 = ⟨L, S, rdN ps, rdO ps⟩ := by
  refine mc_ext rfl rfl (fun a b => ?_) (fun a b => ?_)
  · show (if a < ps.length ∨ a = ps.length ∧ b < 0 then rdN ps a b else 0) = rdN ps a b
    split
    · rfl
    · exact (rd_out (by rw [List.getD_eq_getElem?_getD, List.getElem?_eq_none (by omega)]; exact Nat.zero_le _)).1.symm
  · show (if a < ps.length ∨ a = ps.length ∧ b < 0 then rdO ps a b else 0) = rdO ps a b
    split
    · rfl
    · exact (rd_out (by rw [List.getD_eq_getElem?_getD, List.getElem?_eq_none (by omega)]; exact Nat.zero_le _)).2.symm
theorem rdN_lt (ps : List (List UInt8)) (q x : Nat) : rdN ps q x < 256 := by
  unfold rdN
  split
  · exact Nat.mod_lt _ (by decide)
  · decide
theorem rdO_lt (ps : List (List UInt8)) (q x : Nat) : rdO ps q x < 256 := by
  unfold rdO
  split
  · exact Nat.mod_lt _ (by decide)
  · decide
theorem rd_at {ps : List (List UInt8)} {q x : Nat} (h : 2 * x + 1 < (ps.getD q []).length) : rdN ps q x = ((ps.getD q [])[2 * x + 1].toNat + 159) % 256 ∧ rdO ps q x = ((ps.getD q [])[2 * x].toNat + 208) % 256 := by
  unfold rdN rdO
  rw [List.getElem?_eq_getElem h, List.getElem?_eq_getElem (by omega)]
  exact ⟨rfl, rfl⟩
end Go.Proofs.YtighjpnjbgjgaaaDoor

/- Plain laws: the order in which classes are met is closed; sizes of a word's table. -/
import Derived.Test.YtcghcbdefajpgaaBH
import Derived.Test.YtcghcbdefajpgaaWid
namespace Go.Proofs.Ytcghcbdefajpgaa
open Go.RowKit

theorem pre_getD {O O' : List Nat} (h : O <+: O') {i : Nat} (hi : i < O.length) : O'.getD i 0 = O.getD i 0 := by
  obtain ⟨t, rfl⟩ := h
  rw [List.getD_eq_getElem?_getD, List.getD_eq_getElem?_getD, List.getElem?_append_left hi]
theorem Gm.bof_next {g : Gm} (hok : g.Tb) {i : Nat} (hi : i < g.bof.length) : i < (g.bo i).length ∧ g.bof.getD i 0 = (g.bo i).getD i 0 ∧ ∀ x, x < g.l → g.lst (g.nx (g.bof.getD i 0) x) ∈ g.bof := by
  have h1 : i < (g.bo i).length := by
    apply Decidable.byContradiction
    intro hn
    rw [Gm.bof_of hok (k := i) (by omega)] at hi
    omega
  have h2 := pre_getD (Gm.bo_bof hok i) h1
  refine ⟨h1, h2, fun x hx => ?_⟩
  rw [h2]
  have h3 : g.bo (i + 1) = g.boX ((g.bo i).getD i 0) g.l (g.bo i) := by rw [Gm.bo, if_pos h1]
  refine (Gm.bo_bof hok (i + 1)).subset ?_
  rw [h3]
  exact g.boX_mem _ _ hx
theorem Gm.bof_lt {g : Gm} (hok : g.Tb) {i : Nat} (hi : i < g.bof.length) : g.bof.getD i 0 < g.s := Gm.bo_at hok hi
theorem Gm.bof_ok {g : Gm} (hok : g.Tb) : g.Bo g.bof := Gm.bo_ok hok _
def onl (O : List Nat) : List Int := O.map fun (q : Nat) => (q : Int)
theorem onl_len (O : List Nat) : (onl O).length = O.length := by simp [onl]
theorem onl_get {O : List Nat} {i : Nat} (h : i < O.length) : (onl O)[i]'(by rw [onl_len]; exact h) = (O.getD i 0 : Nat) := by
  simp [onl, List.getD_eq_getElem?_getD, h]
theorem onl_push (O : List Nat) (r : Nat) : onl (O ++ [r]) = onl O ++ [(r : Int)] := by simp [onl]
theorem onl_has (O : List Nat) (r : Nat) : (onl O).contains (r : Int) = decide (r ∈ O) := by
  rw [Bool.eq_iff_iff]
  simp only [onl, List.contains_iff_mem, List.mem_map, decide_eq_true_eq]
  constructor
  · rintro ⟨a, ha, e⟩
    have : a = r := by omega
    rwa [← this]
  · exact fun h => ⟨r, h, rfl⟩
theorem onl_ix {O : List Nat} {q : Nat} (h : q ∈ O) : (onl O)[ixO O q]? = some (q : Int) ∧ ∀ j, j < ixO O q → (onl O)[j]? ≠ some (q : Int) := by
  obtain ⟨a, b⟩ := (ixO_spec O q).1 h
  refine ⟨by unfold onl; rw [List.getElem?_map, b]; rfl, fun j hj he => ?_⟩
  have := (first_spec (fun j => decide (O[j]? = some q)) O.length).2.2 j hj
  unfold onl at he
  rw [List.getElem?_map] at he
  cases h2 : O[j]? with
  | none => rw [h2] at he; cases he
  | some p =>
    rw [h2] at he
    simp at he
    rw [h2] at this
    have e : p = q := by omega
    rw [e] at this
    simp at this
theorem Gm.toM_big {g : Gm} (h : 16 < g.bof.length) : g.toM = (Mc.zero, 3) := if_pos h
theorem Gm.toM_ok {g : Gm} (h : ¬ 16 < g.bof.length) : g.toM = (gaM g g.bof g.nuO, 0) := if_neg h
theorem Gm.nuO_lt {g : Gm} (hok : g.Tb) {i x : Nat} (hi : i < g.bof.length) (hx : x < g.l) : g.nuO (g.nx (g.bof.getD i 0) x) < g.bof.length :=
  ((ixO_spec g.bof _).1 ((Gm.bof_next hok hi).2.2 x hx)).1
/-- The table of a word's sections may be told apart. -/
theorem Gm.sT_tb {g : Gm} (hok : g.Ok) {L : Nat} {W R : List (List Int)} (h : g.SecOk L W R) : (g.sT W R).Tb := by
  have hp := h.pos
  have hl := h.le
  refine ⟨hok.l2, hok.l3, hp, ?_, fun q x hq hx => ?_, fun q x hq hx => ?_⟩
  · show W.length ≤ _
    omega
  · obtain ⟨r, hr, hrn⟩ := (h.grf.2 q hq).2 x hx
    show ((R.getD q []).getD x 0).toNat < W.length
    rw [hr, Int.toNat_natCast]
    exact hrn
  · exact Gm.im_lt hok (h.wd.get hq).1 hx
theorem Gm.sT_nxs {g : Gm} {L : Nat} {W R : List (List Int)} (h : g.SecOk L W R) : (g.sT W R).nxs W.length = R := by
  have hR := h.grf.1
  apply List.ext_getElem
  · simp [Gm.nxs, hR]
  · intro q h1 h2
    have hq : q < W.length := by simpa [Gm.nxs] using h1
    obtain ⟨hl, hx⟩ := h.grf.2 q hq
    have e : R.getD q [] = R[q] := by rw [List.getD_eq_getElem?_getD, List.getElem?_eq_getElem h2]; rfl
    rw [e] at hl hx
    have e2 : ((g.sT W R).nxs W.length)[q] = (g.sT W R).nr q := by simp [Gm.nxs]
    rw [e2]
    apply List.ext_getElem
    · simp [Gm.nr, hl]; rfl
    · intro x h3 h4
      obtain ⟨r, hr, _⟩ := hx x (by rw [← hl]; exact h4)
      have e3 : ((g.sT W R).nr q)[x] = ((g.sT W R).nx q x : Int) := by simp [Gm.nr]
      rw [e3]
      show ((((R.getD q []).getD x 0).toNat : Nat) : Int) = _
      rw [e, hr, Int.toNat_natCast, ← hr, List.getD_eq_getElem?_getD, List.getElem?_eq_getElem h4]
      rfl
theorem Gm.sT_or (g : Gm) (W R : List (List Int)) (q : Nat) : (g.sT W R).or q = upto (fun x => (g.im (W.getD q []) x : Int)) g.l := rfl
theorem Gm.moM_ok {g : Gm} {u : List Int} (h : (g.secs (fun _ => true) u).2.2 = 0) : g.moM u = (g.sT (g.secs (fun _ => true) u).1 (g.secs (fun _ => true) u).2.1).toM := if_pos h
theorem Gm.moM_bad {g : Gm} {u : List Int} (h : (g.secs (fun _ => true) u).2.2 ≠ 0) : (g.secs (fun _ => true) u).2.2 = 3 ∧ g.moM u = (Mc.zero, 3) := by
  have h5 : (g.secs (fun _ => true) u).2.2 ≠ 5 := Gm.bf_all _ _ _ _
  rcases g.secs_code (fun _ => true) u with h1 | ⟨h1, _, _⟩
  · exact absurd h1 h
  · have h3 : (g.secs (fun _ => true) u).2.2 = 3 := h1.resolve_right h5
    exact ⟨h3, by unfold Gm.moM; rw [if_neg h, h3]⟩
end Go.Proofs.Ytcghcbdefajpgaa

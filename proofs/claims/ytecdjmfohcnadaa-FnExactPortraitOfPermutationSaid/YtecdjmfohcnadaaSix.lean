/- Walks: slices.Index and slices.Contains over whole numbers. -/
import Derived.Test.YtecdjmfohcnadaaSeq
import Derived.Test.YtecdjmfohcnadaaGw0
namespace Go.Proofs.Ytecdjmfohcnadaa
open Go.RowKit

def eqP (xs : List Int) (y : Int) (j : Nat) : Bool := decide (xs.getD j 0 = y)
theorem any_contains (xs : List Int) (y : Int) : (List.range xs.length).any (eqP xs y) = xs.contains y := by
  rw [Bool.eq_iff_iff]
  simp only [List.any_eq_true, List.mem_range, eqP, decide_eq_true_eq, List.contains_iff_mem]
  constructor
  · rintro ⟨j, hj, h⟩
    rw [List.getD_eq_getElem?_getD, List.getElem?_eq_getElem hj, Option.getD_some] at h
    rw [← h]
    exact List.getElem_mem hj
  · intro h
    obtain ⟨j, hj, e⟩ := List.getElem_of_mem h
    exact ⟨j, hj, by rw [List.getD_eq_getElem?_getD, List.getElem?_eq_getElem hj, Option.getD_some]; exact e⟩
set_option maxHeartbeats 400000 in
/-- The first place of a number, or -1. -/
theorem slicesIdx_any (v : Value) (xs : List Int) (y : Int) (w : World) (hr : RdI w v xs) :
    Calls Try.prog 91 #[v, .int .i64 y] w fun e w' => e = .returned (.int .i64 (fidx (eqP xs y) xs.length)) ∧ w = w' := by
  obtain ⟨A, c, rfl, hr⟩ := hr
  have hl := hr.1
  rw [ints_length] at hl
  have Hr := hidd hr
  clear hr
  go_enter Try.func91, Try.ntmps91
  go_wp2
  go_loopw [8] (fun i wr => ∃ j : Nat, j ≤ xs.length ∧ i = .int .i64 j ∧ wr = w ∧ Hid (∀ k, k < j → eqP xs y k = false)) (fun i _ => xs.length - (intOf i).toNat)
  case atStart => exact ⟨0, Nat.zero_le _, rfl, rfl, hidd (fun k hk => absurd hk (Nat.not_lt_zero _))⟩
  case round =>
    obtain ⟨j, hj, rfl, rfl, HQ⟩ := hrel
    by_cases hjl : j < xs.length
    · obtain ⟨b, o, rfl, hc⟩ := Hr.out.get hjl
      have i1 : (j : Int) < xs.length := by omega
      obtain ⟨a, ha⟩ : ∃ a, a = xs[j] := ⟨_, rfl⟩
      rw [← ha] at hc
      have Ha := hidd (show xs.getD j 0 = a by rw [List.getD_eq_getElem?_getD, List.getElem?_eq_getElem hjl, ha]; rfl)
      clear ha
      by_cases e : y = a
      · subst e
        have H1 := hidd (show eqP xs y j = true from decide_eq_true Ha.out)
        go_wp2
        go_ret
        exact ⟨ret_i (fidx_hit hjl H1.out HQ.out).symm, rfl⟩
      · have H1 := hidd (show eqP xs y j = false from decide_eq_false (fun h => e (by rw [← h, Ha.out])))
        go_wp2
        go_roundw
        case rel =>
          refine ⟨j + 1, by omega, by go_num, trivial, hidd (fun k hk => ?_)⟩
          by_cases e2 : k = j
          · subst e2; exact H1.out
          · exact HQ.out k (by omega)
        case measure => simp [intOf]; omega
    · have he : j = xs.length := by omega
      subst he
      clear hjl
      go_wp2
      go_ret
      exact ⟨ret_i (fidx_miss HQ.out).symm, rfl⟩
theorem slicesContains_any (v : Value) (xs : List Int) (y : Int) (w : World) (hr : RdI w v xs) :
    Calls Try.prog 86 #[v, .int .i64 y] w fun e w' => e = .returned (.bool (xs.contains y)) ∧ w = w' := by
  have HI := hidd (slicesIdx_any v xs y w hr)
  have HA := hidd (show decide (0 ≤ fidx (eqP xs y) xs.length) = xs.contains y by rw [fidx_any, any_contains])
  obtain ⟨A, c, rfl, hq⟩ := hr
  obtain ⟨f, hf⟩ : ∃ f, f = fidx (eqP xs y) xs.length := ⟨_, rfl⟩
  rw [← hf] at HI HA
  clear hq hf
  go_enter Try.func86, Try.ntmps86
  go_wp2_with (go_at_call 91; refine HI.out.mono ?_; rintro e w1 ⟨rfl, rfl⟩)
  go_ret
  exact ⟨ret_b HA.out, rfl⟩
end Go.Proofs.Ytecdjmfohcnadaa

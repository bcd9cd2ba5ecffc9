/- The law FnExactWordOfNumber answers true for all whole numbers: outside the ranges both sides give the same error, inside them each of the finitely many words is the same. No condition but that the arguments are int64. -/
import Derived.Test.YtlkigmklcfnlbaaPFnExactWordOfNumberx2
namespace Go.Proofs.Ytlkigmklcfnlbaa.Pure
open Go.RowKit Go.Proofs.Ytlkigmklcfnlbaa.PFnExactWordOfNumber Go.Proofs.YtlkigmklcfnlbaaW.PrintWords Go.Proofs.YtlkigmklcfnlbaaW.PrintLast

theorem won_in : ∀ d ∈ [2, 3], ∀ n ∈ [0, 1, 2, 3, 4, 5], ∀ k ∈ List.range 243, k < d ^ n → laws_FnExactWordOfNumber.f 8 (d : Nat) (n : Nat) (k : Nat) = some true := by
  decide +kernel

theorem won_pow : ∀ d ∈ [2, 3], ∀ n ∈ [0, 1, 2, 3, 4, 5], spec_l01Power.f 8 (d : Nat) (n : Nat) = some ((d ^ n : Nat) : Int) ∧ impl_power.f 8 (d : Nat) (n : Nat) = some ((d ^ n : Nat) : Int) ∧ d ^ n ≤ 243 := by
  decide +kernel

theorem won_out (d n k : Int) (h : ¬ (2 ≤ d ∧ d ≤ 3 ∧ 0 ≤ n ∧ n ≤ 5)) : laws_FnExactWordOfNumber.f 8 d n k = some true := by
  unfold laws_FnExactWordOfNumber.f spec_WordOfNumber.f impl_WordOfNumber.f spec_l01In.f impl_areLetters.f impl_within.f
  by_cases h1 : 2 ≤ d
  · by_cases h2 : d ≤ 3
    · by_cases h3 : 0 ≤ n
      · have h4 : ¬ n ≤ 5 := fun h4 => h ⟨h1, h2, h3, h4⟩
        simp [h1, h2, h3, h4]
      · simp [h1, h2, h3]
    · simp [h1, h2]
  · simp [h1]

theorem won_far (d n : Nat) (k : Int) (hd : d ∈ [2, 3]) (hn : n ∈ [0, 1, 2, 3, 4, 5]) (h : ¬ (0 ≤ k ∧ k < (d ^ n : Nat))) : laws_FnExactWordOfNumber.f 8 d n k = some true := by
  obtain ⟨p1, p2, p3⟩ := won_pow d hd n hn
  have hw : wrap64 (((d ^ n : Nat) : Int) - 1) = ((d ^ n : Nat) : Int) - 1 := by unfold wrap64; omega
  have hd1 : (d : Int) ≥ 2 ∧ (d : Int) ≤ 3 := by simp at hd; omega
  have hn1 : (n : Int) ≥ 0 ∧ (n : Int) ≤ 5 := by simp at hn; omega
  generalize hq : ((d ^ n : Nat) : Int) = q at *
  unfold laws_FnExactWordOfNumber.f spec_WordOfNumber.f impl_WordOfNumber.f
  rw [p1, p2]
  unfold spec_l01In.f impl_areLetters.f impl_within.f
  by_cases h1 : k ≥ 0
  · have h2 : ¬ k ≤ q - 1 := by omega
    simp [hd1, hn1, hw, h1, h2]
  · simp [hd1, hn1, h1]

theorem FnExactWordOfNumber : laws_FnExactWordOfNumber.Pure := by
  intro d n k _ _ _
  refine ⟨8, ?_⟩
  by_cases h : 2 ≤ d ∧ d ≤ 3 ∧ 0 ≤ n ∧ n ≤ 5
  · obtain ⟨a, rfl⟩ := Int.eq_ofNat_of_zero_le (show 0 ≤ d by omega)
    obtain ⟨b, rfl⟩ := Int.eq_ofNat_of_zero_le (show 0 ≤ n by omega)
    have ha : a ∈ [2, 3] := by simp; omega
    have hb : b ∈ [0, 1, 2, 3, 4, 5] := by simp; omega
    by_cases hk : 0 ≤ k ∧ k < (a ^ b : Nat)
    · obtain ⟨c, rfl⟩ := Int.eq_ofNat_of_zero_le hk.1
      have hc : c < a ^ b := by exact_mod_cast hk.2
      exact won_in a ha b hb c (by simp; have := (won_pow a ha b hb).2.2; omega) hc
    · exact won_far a b k ha hb hk
  · exact won_out d n k h

end Go.Proofs.Ytlkigmklcfnlbaa.Pure

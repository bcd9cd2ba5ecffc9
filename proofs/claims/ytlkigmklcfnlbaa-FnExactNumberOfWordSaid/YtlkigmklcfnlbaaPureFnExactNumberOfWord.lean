/- The law FnExactNumberOfWord answers true for every number of letters and every word: both sides read the word byte by byte in the same way. No condition but that the number is an int64 and the word a Go string. -/
import Derived.Test.YtlkigmklcfnlbaaPFnExactNumberOfWordx1
namespace Go.Proofs.Ytlkigmklcfnlbaa.Pure
open Go.RowKit Go.Proofs.Ytlkigmklcfnlbaa.PFnExactNumberOfWord Go.Proofs.YtlkigmklcfnlbaaW.PrintWords Go.Proofs.YtlkigmklcfnlbaaW.PrintLast

theorem now_wrap {i : Int} {n : Nat} (h0 : 0 ≤ i) (h : i < (n : Int)) (hn : n ≤ 1048576) : wrap64 (i + 1) = i + 1 := by
  unfold wrap64
  omega

/-- From letter i on both sides look at the same letters. -/
theorem now_letters (d : Int) (s : ByteArray) (hn : s.size ≤ 1048576) (m : Nat) : ∀ (k : Nat) (i : Int), 0 ≤ i → i ≤ s.size → (s.size : Int) - i = m → m < k →
    ∃ b, spec_l01Letters.l0 k d s i = some b ∧ impl_isWord.l0 k d s (s.size : Int) i = some (b && decide ((s.size : Int) ≤ 40)) := by
  induction m with
  | zero =>
    intro k i h0 h1 hd hk
    obtain ⟨k, rfl⟩ : ∃ m, k = m + 1 := ⟨k - 1, by omega⟩
    refine ⟨true, ?_, ?_⟩
    · simp only [spec_l01Letters.l0]; rw [if_neg (by omega)]
    · simp only [impl_isWord.l0]; rw [if_neg (by omega)]; simp
  | succ m ih =>
    intro k i h0 h1 hd hk
    obtain ⟨k, rfl⟩ : ∃ m, k = m + 1 := ⟨k - 1, by omega⟩
    have hlt : i < (s.size : Int) := by omega
    simp only [spec_l01Letters.l0, impl_isWord.l0]
    rw [if_pos hlt, if_pos h0, if_pos hlt, if_pos h0, if_pos hlt, now_wrap h0 hlt hn]
    by_cases h48 : bt s i < 48
    · rw [if_pos h48, if_pos h48]; exact ⟨false, rfl, by simp⟩
    · rw [if_neg h48, if_neg h48]
      by_cases hge : (bt s i - 48) % 256 ≥ d
      · rw [if_pos hge, if_pos hge]; exact ⟨false, rfl, by simp⟩
      · rw [if_neg hge, if_neg hge]
        exact ih k (i + 1) (by omega) (by omega) (by omega) (by omega)

theorem now_number (d : Int) (s : ByteArray) (hn : s.size ≤ 1048576) (m : Nat) : ∀ (k : Nat) (i x : Int), 0 ≤ i → i ≤ s.size → (s.size : Int) - i = m → m < k →
    ∃ r, spec_l01NumberOf.l0 k d s x i = some r ∧ impl_numberOf.l0 k d s x (s.size : Int) i = some r := by
  induction m with
  | zero =>
    intro k i x h0 h1 hd hk
    obtain ⟨k, rfl⟩ : ∃ m, k = m + 1 := ⟨k - 1, by omega⟩
    refine ⟨x, ?_, ?_⟩
    · simp only [spec_l01NumberOf.l0]; rw [if_neg (by omega)]
    · simp only [impl_numberOf.l0]; rw [if_neg (by omega)]
  | succ m ih =>
    intro k i x h0 h1 hd hk
    obtain ⟨k, rfl⟩ : ∃ m, k = m + 1 := ⟨k - 1, by omega⟩
    have hlt : i < (s.size : Int) := by omega
    simp only [spec_l01NumberOf.l0, impl_numberOf.l0]
    rw [if_pos hlt, if_pos h0, if_pos hlt, if_pos h0, if_pos hlt, now_wrap h0 hlt hn]
    exact ih k (i + 1) _ (by omega) (by omega) (by omega) (by omega)

theorem FnExactNumberOfWord : laws_FnExactNumberOfWord.Pure := by
  intro d s _ _
  refine ⟨s.size + 2, ?_⟩
  unfold laws_FnExactNumberOfWord.f
  by_cases hbig : (s.size : Int) > 1048576
  · rw [if_pos hbig]
  · rw [if_neg hbig]
    have hn : s.size ≤ 1048576 := by omega
    obtain ⟨b, e1, e2⟩ := now_letters d s hn s.size (s.size + 2) 0 (by omega) (by omega) (by omega) (by omega)
    obtain ⟨r, e3, e4⟩ := now_number d s hn s.size (s.size + 2) 0 0 (by omega) (by omega) (by omega) (by omega)
    unfold spec_NumberOfWord.f impl_NumberOfWord.f spec_l01In.f impl_areLetters.f impl_within.f impl_isWord.f impl_numberOf.f spec_l01Letters.f
    rw [e1, e2, e4]
    simp only [spec_NumberOfWord.j0, spec_l01NumberOf.f]
    obtain ⟨r', e5, e6⟩ := now_number d s hn s.size (s.size + 1) 0 0 (by omega) (by omega) (by omega) (by omega)
    have hm := spec_l01NumberOf.mono_l (s.size + 1) d s 0 0 r' e5
    have hr : r' = r := by rw [e3] at hm; exact (Option.some.inj hm).symm
    subst hr
    rw [e5]
    by_cases h1 : 2 ≤ d
    · by_cases h2 : d ≤ 3
      · by_cases h40 : (s.size : Int) ≤ 40
        · have h40' : ¬ (s.size : Int) > 40 := by omega
          by_cases h5 : (s.size : Int) > 5
          · cases b <;> simp [h1, h2, h40, h40', h5]
          · cases b <;> simp [h1, h2, h40, h40', h5]
        · have h40' : (s.size : Int) > 40 := by omega
          simp [h1, h2, h40, h40']
      · simp [h1, h2]
    · simp [h1]

end Go.Proofs.Ytlkigmklcfnlbaa.Pure

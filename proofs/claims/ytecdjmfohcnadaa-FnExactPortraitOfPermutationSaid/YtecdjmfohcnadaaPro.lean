/- Walks: PortraitOfPermutation, of the program and of the reference. -/
import Derived.Test.YtecdjmfohcnadaaPrd
import Derived.Test.YtecdjmfohcnadaaPfh
namespace Go.Proofs.Ytecdjmfohcnadaa
open Go.RowKit
set_option linter.unusedSimpArgs false

def ppR (d n : Int) (L : List Int) : List Int × Int := if szB d n then (if (pfR d.toNat n.toNat L).isSome then ((pfR d.toNat n.toNat L).getD [], 0) else ([], 5)) else ([], 2)
theorem pfR_len {d n : Nat} (hd : Dd d) (hn : n ≤ 4) (L : List Int) : ((pfR d n L).getD []).length ≤ 121 := by
  have : (pfO d n L).length ≤ 121 := by unfold pfO; rw [pby_len]; exact pst_bd hd (by omega)
  unfold pfR
  split
  · split
    · simp
    · split
      · exact this
      · simp
  · simp
theorem ppR_len (d n : Int) (L : List Int) : (ppR d n L).1.length ≤ 1048576 := by
  unfold ppR
  split
  · rename_i h
    obtain ⟨d', n', rfl, rfl, hd, _, hn⟩ := szB_nat h
    split
    · have := pfR_len hd hn L
      show ((pfR _ _ _).getD []).length ≤ _
      rw [Int.toNat_natCast, Int.toNat_natCast]; omega
    · simp
  · simp
set_option maxRecDepth 100000 in
set_option maxHeartbeats 1000000 in
theorem implPortraitOfPermutation_any (d n : Int) (v : Value) (xs : List Int) (w : World) (hr : RdI w v xs) :
    Calls Try.prog 27 #[.int .i64 d, .int .i64 n, v] w fun e w' => (∃ u, e = .returned (.tuple #[u, .int .i64 (ppR d n xs).2]) ∧ Own w' w.heap.size 2 u (ints (ppR d n xs).1)) ∧ Below w.heap.size w w' := by
  have Hr := hidd hr
  obtain ⟨A, c, rfl, hr⟩ := hr
  have HS := hidd (areDepths_any d n w)
  clear hr
  cases h : szB d n with
  | true =>
    rw [h] at HS
    obtain ⟨d', n', rfl, rfl, hd, hn1, hn⟩ := szB_nat h
    have HR : Hid (ppR (d' : Int) (n' : Int) xs = _) := hidd (if_pos h)
    rw [Int.toNat_natCast, Int.toNat_natCast] at HR
    have HF := hidd (portraitFrom_any d' n' hd hn _ xs w Hr.out)
    obtain ⟨R, hR⟩ : ∃ R, R = pfR d' n' xs := ⟨_, rfl⟩
    rw [← hR] at HR HF
    clear h hd hR
    go_enter Try.func27, Try.ntmps27
    go_wp2_with fail
    refine HS.out.mono ?_
    rintro e w1 ⟨rfl, rfl⟩
    go_wp2_with fail
    refine HF.out.mono ?_
    rintro e w2 ⟨⟨u, rfl, ho⟩, hb⟩
    have Ho := hidd ho
    have Hb := hidd hb
    clear ho hb HF
    obtain ⟨b, hb⟩ : ∃ b, b = R.isSome := ⟨_, rfl⟩
    rw [← hb] at HR ⊢
    cases b with
    | true =>
      clear hb
      go_wp2_with fail
      go_ret2
      exact ⟨⟨_, by rw [HR.out]; rfl, by rw [HR.out]; exact Ho.out⟩, Hb.out⟩
    | false =>
      clear hb
      go_wp2_with fail
      go_ret2
      exact ⟨⟨_, by rw [HR.out]; rfl, by rw [HR.out]; exact Own.nil _ _ _⟩, Hb.out⟩
  | false =>
    rw [h] at HS
    have HR : Hid (ppR d n xs = _) := hidd (if_neg (by rw [h]; decide))
    clear h
    go_enter Try.func27, Try.ntmps27
    go_wp2_with fail
    refine HS.out.mono ?_
    rintro e w1 ⟨rfl, rfl⟩
    go_wp2_with fail
    go_ret2
    exact ⟨⟨_, by rw [HR.out]; rfl, by rw [HR.out]; exact Own.nil _ _ _⟩, Below.refl _ _⟩
set_option maxRecDepth 100000 in
set_option maxHeartbeats 1000000 in
theorem specPortraitOfPermutation_any (d n : Int) (v : Value) (xs : List Int) (w : World) (hr : RdI w v xs) :
    Calls Try.prog 26 #[.int .i64 d, .int .i64 n, v] w fun e w' => (∃ u, e = .returned (.tuple #[u, .int .i64 (ppR d n xs).2]) ∧ Own w' w.heap.size 2 u (ints (ppR d n xs).1)) ∧ Below w.heap.size w w' := by
  have Hr := hidd hr
  obtain ⟨A, c, rfl, hr⟩ := hr
  have HS := hidd (l03Sizes_any d n w)
  clear hr
  cases h : szB d n with
  | true =>
    rw [h] at HS
    obtain ⟨d', n', rfl, rfl, hd, hn1, hn⟩ := szB_nat h
    have HR : Hid (ppR (d' : Int) (n' : Int) xs = _) := hidd (if_pos h)
    rw [Int.toNat_natCast, Int.toNat_natCast] at HR
    have HF := hidd (l03Read_any d' n' hd hn _ xs w Hr.out)
    obtain ⟨R, hR⟩ : ∃ R, R = pfR d' n' xs := ⟨_, rfl⟩
    rw [← hR] at HR HF
    clear h hd hR
    go_enter Try.func26, Try.ntmps26
    go_wp2_with fail
    refine HS.out.mono ?_
    rintro e w1 ⟨rfl, rfl⟩
    go_wp2_with fail
    refine HF.out.mono ?_
    rintro e w2 ⟨⟨u, rfl, ho⟩, hb⟩
    have Ho := hidd ho
    have Hb := hidd hb
    clear ho hb HF
    obtain ⟨b, hb⟩ : ∃ b, b = R.isSome := ⟨_, rfl⟩
    rw [← hb] at HR ⊢
    cases b with
    | true =>
      clear hb
      go_wp2_with fail
      go_ret2
      exact ⟨⟨_, by rw [HR.out]; rfl, by rw [HR.out]; exact Ho.out⟩, Hb.out⟩
    | false =>
      clear hb
      go_wp2_with fail
      go_ret2
      exact ⟨⟨_, by rw [HR.out]; rfl, by rw [HR.out]; exact Own.nil _ _ _⟩, Hb.out⟩
  | false =>
    rw [h] at HS
    have HR : Hid (ppR d n xs = _) := hidd (if_neg (by rw [h]; decide))
    clear h
    go_enter Try.func26, Try.ntmps26
    go_wp2_with fail
    refine HS.out.mono ?_
    rintro e w1 ⟨rfl, rfl⟩
    go_wp2_with fail
    go_ret2
    exact ⟨⟨_, by rw [HR.out]; rfl, by rw [HR.out]; exact Own.nil _ _ _⟩, Below.refl _ _⟩
end Go.Proofs.Ytecdjmfohcnadaa

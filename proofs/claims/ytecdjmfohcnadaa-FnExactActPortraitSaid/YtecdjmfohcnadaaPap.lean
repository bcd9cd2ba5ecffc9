/- Walks: ActPortrait, of the program and of the reference. -/
import Derived.Test.YtecdjmfohcnadaaPac
namespace Go.Proofs.Ytecdjmfohcnadaa
open Go.RowKit
set_option linter.unusedSimpArgs false

/-- The code of letters, a depth, a portrait and a word of at most some letters. -/
def wyC (d n : Int) (xs : List Int) (s : ByteArray) (most : Int) : Int := if codeP d n [xs] = 0 then (if wordB d s = true then (if (s.size : Int) ≤ most then 0 else 2) else 1) else codeP d n [xs]
def apR (d n : Int) (xs : List Int) (s : ByteArray) : ByteArray × Int := if wyC d n xs s n = 0 then (acT d.toNat xs s, 0) else (⟨#[]⟩, wyC d n xs s n)

set_option maxRecDepth 100000 in
set_option maxHeartbeats 2000000 in
theorem implActPortrait_any (d n : Int) (v : Value) (xs : List Int) (s : ByteArray) (hsz : s.size ≤ 1048576) (w : World) (hr : RdI w v xs) :
    Calls Try.prog 23 #[.int .i64 d, .int .i64 n, v, .string s] w fun e w' => e = .returned (.tuple #[.string (apR d n xs s).1, .int .i64 (apR d n xs s).2]) ∧ Below w.heap.size w w' := by
  have Hr := hidd hr
  obtain ⟨A, c, rfl, hr⟩ := hr
  have HP := hidd (portraitCode_any d n _ [xs] _ (RdLL.lit1 ⟨A, c, rfl, hr⟩ 22 w.heap.size rfl))
  have HW := hidd (fun W => isWord_any d s W (by omega))
  clear hr
  by_cases h0 : codeP d n [xs] = 0
  · rw [h0] at HP
    have H0 := hidd h0
    by_cases hw : wordB d s = true
    · rw [hw] at HW
      by_cases hn : (s.size : Int) ≤ n
      · have HC := hidd (show wyC d n xs s n = 0 by unfold wyC; rw [if_pos h0, if_pos hw, if_pos hn])
        have HR := hidd (show apR d n xs s = (acT d.toNat xs s, 0) by unfold apR; rw [if_pos HC.out])
        obtain ⟨d', n', rfl, rfl, hd, hn1, hn4, hall⟩ := codeP_zero h0
        have hl : Lts d' s := by
          unfold wordB at hw
          rw [Bool.and_eq_true] at hw
          exact Lts.of hw.1
        have HA := hidd (fun W (hrW : RdI W (.slice A xs.length c) xs) => act_any d' n' hd hn4 _ xs (hall xs (List.mem_singleton.2 rfl)) s hl (by omega) W hrW)
        rw [Int.toNat_natCast] at HR
        clear h0 hw hall hd hl
        go_enter Try.func23, Try.ntmps23
        go_wp2_with fail
        refine HP.out.mono ?_
        rintro e w1 ⟨rfl, hb⟩
        have B1 := hidd (bel_then (bel_alloc' _ _) hb)
        clear hb HP
        go_wp2_with (go_at_call 52; refine (HW.out _).mono ?_; rintro e w2 ⟨rfl, rfl⟩)
        refine (HA.out _ (Hr.out.below B1.out)).mono ?_
        rintro e w2 ⟨rfl, hb⟩
        go_wp2_with fail
        go_ret2
        exact ⟨by rw [HR.out]; rfl, bel_then B1.out hb⟩
      · have HC := hidd (show wyC d n xs s n = 2 by unfold wyC; rw [if_pos h0, if_pos hw, if_neg hn])
        have HR := hidd (show apR d n xs s = (⟨#[]⟩, 2) by unfold apR; rw [HC.out]; rfl)
        have i1 : n < (s.size : Int) := by omega
        clear h0 hw hn
        go_enter Try.func23, Try.ntmps23
        go_wp2_with fail
        refine HP.out.mono ?_
        rintro e w1 ⟨rfl, hb⟩
        have B1 := hidd (bel_then (bel_alloc' _ _) hb)
        clear hb HP
        go_wp2_with (go_at_call 52; refine (HW.out _).mono ?_; rintro e w2 ⟨rfl, rfl⟩)
        go_ret2
        exact ⟨by rw [HR.out]; rfl, B1.out⟩
    · have HC := hidd (show wyC d n xs s n = 1 by unfold wyC; rw [if_pos h0, if_neg hw])
      have HR := hidd (show apR d n xs s = (⟨#[]⟩, 1) by unfold apR; rw [HC.out]; rfl)
      have hw2 : wordB d s = false := by cases h : wordB d s <;> simp_all
      rw [hw2] at HW
      clear h0 hw hw2
      go_enter Try.func23, Try.ntmps23
      go_wp2_with fail
      refine HP.out.mono ?_
      rintro e w1 ⟨rfl, hb⟩
      have B1 := hidd (bel_then (bel_alloc' _ _) hb)
      clear hb HP
      go_wp2_with (go_at_call 52; refine (HW.out _).mono ?_; rintro e w2 ⟨rfl, rfl⟩)
      go_ret2
      exact ⟨by rw [HR.out]; rfl, B1.out⟩
  · have HC := hidd (show wyC d n xs s n = codeP d n [xs] by unfold wyC; rw [if_neg h0])
    have HR := hidd (show apR d n xs s = (⟨#[]⟩, codeP d n [xs]) by unfold apR; rw [HC.out, if_neg h0])
    obtain ⟨cd, hcd⟩ : ∃ cd, cd = codeP d n [xs] := ⟨_, rfl⟩
    rw [← hcd] at HR HP h0
    have h1 : (cd == 0) = false := by simp [h0]
    have h2 : (cd != 0) = true := by simp [h0]
    clear h0 hcd
    go_enter Try.func23, Try.ntmps23
    go_wp2_with fail
    refine HP.out.mono ?_
    rintro e w1 ⟨rfl, hb⟩
    go_wp2_with fail
    go_ret2
    exact ⟨by rw [HR.out]; rfl, bel_then (bel_alloc' _ _) hb⟩

set_option maxRecDepth 100000 in
set_option maxHeartbeats 2000000 in
theorem l03Wordy_any (d n : Int) (v : Value) (xs : List Int) (s : ByteArray) (hsz : s.size ≤ 1048576) (most : Int) (w : World) (hr : RdI w v xs) :
    Calls Try.prog 50 #[.int .i64 d, .int .i64 n, v, .string s, .int .i64 most] w fun e w' => e = .returned (.int .i64 (wyC d n xs s most)) ∧ Below w.heap.size w w' := by
  obtain ⟨A, c, rfl, hr⟩ := hr
  have HP := hidd (l03Code_any d n _ [xs] _ (RdLL.lit1 ⟨A, c, rfl, hr⟩ 22 w.heap.size rfl))
  have HW := hidd (fun W => l01Letters_any d s W (by omega))
  clear hr
  by_cases h0 : codeP d n [xs] = 0
  · rw [h0] at HP
    by_cases h40 : s.size ≤ 40
    · cases hl : lettersB d s with
      | true =>
        have hw : wordB d s = true := by unfold wordB; rw [hl, decide_eq_true h40]; rfl
        rw [hl] at HW
        by_cases hn : (s.size : Int) ≤ most
        · have HC := hidd (show wyC d n xs s most = 0 by unfold wyC; rw [if_pos h0, if_pos hw, if_pos hn])
          clear h0 hw hl
          go_enter Try.func50, Try.ntmps50
          go_wp2_with fail
          refine HP.out.mono ?_
          rintro e w1 ⟨rfl, q, rfl⟩
          go_wp2_with (go_at_call 75; refine (HW.out _).mono ?_; rintro e w2 ⟨rfl, rfl⟩)
          go_ret
          exact ⟨ret_i HC.out.symm, bel_drewN (bel_alloc' _ _) _⟩
        · have HC := hidd (show wyC d n xs s most = 2 by unfold wyC; rw [if_pos h0, if_pos hw, if_neg hn])
          have i1 : most < (s.size : Int) := by omega
          clear h0 hw hl hn
          go_enter Try.func50, Try.ntmps50
          go_wp2_with fail
          refine HP.out.mono ?_
          rintro e w1 ⟨rfl, q, rfl⟩
          go_wp2_with (go_at_call 75; refine (HW.out _).mono ?_; rintro e w2 ⟨rfl, rfl⟩)
          go_ret
          exact ⟨ret_i HC.out.symm, bel_drewN (bel_alloc' _ _) _⟩
      | false =>
        have hw : ¬ wordB d s = true := by unfold wordB; rw [hl]; simp
        have HC := hidd (show wyC d n xs s most = 1 by unfold wyC; rw [if_pos h0, if_neg hw])
        rw [hl] at HW
        clear h0 hw hl
        go_enter Try.func50, Try.ntmps50
        go_wp2_with fail
        refine HP.out.mono ?_
        rintro e w1 ⟨rfl, q, rfl⟩
        go_wp2_with (go_at_call 75; refine (HW.out _).mono ?_; rintro e w2 ⟨rfl, rfl⟩)
        go_ret
        exact ⟨ret_i HC.out.symm, bel_drewN (bel_alloc' _ _) _⟩
    · have hw : ¬ wordB d s = true := by unfold wordB; rw [decide_eq_false h40]; simp
      have HC := hidd (show wyC d n xs s most = 1 by unfold wyC; rw [if_pos h0, if_neg hw])
      have i1 : (40 : Int) < s.size := by omega
      clear h0 hw h40
      go_enter Try.func50, Try.ntmps50
      go_wp2_with fail
      refine HP.out.mono ?_
      rintro e w1 ⟨rfl, q, rfl⟩
      go_wp2_with fail
      go_ret
      exact ⟨ret_i HC.out.symm, bel_drewN (bel_alloc' _ _) _⟩
  · have HC := hidd (show wyC d n xs s most = codeP d n [xs] by unfold wyC; rw [if_neg h0])
    obtain ⟨cd, hcd⟩ : ∃ cd, cd = codeP d n [xs] := ⟨_, rfl⟩
    rw [← hcd] at HP h0 HC
    have h1 : (cd == 0) = false := by simp [h0]
    have h2 : (cd != 0) = true := by simp [h0]
    clear h0 hcd
    go_enter Try.func50, Try.ntmps50
    go_wp2_with fail
    refine HP.out.mono ?_
    rintro e w1 ⟨rfl, q, rfl⟩
    go_wp2_with fail
    go_ret
    exact ⟨ret_i HC.out.symm, bel_drewN (bel_alloc' _ _) _⟩

set_option maxRecDepth 100000 in
set_option maxHeartbeats 2000000 in
theorem specActPortrait_any (d n : Int) (v : Value) (xs : List Int) (s : ByteArray) (hsz : s.size ≤ 1048576) (w : World) (hr : RdI w v xs) :
    Calls Try.prog 22 #[.int .i64 d, .int .i64 n, v, .string s] w fun e w' => e = .returned (.tuple #[.string (apR d n xs s).1, .int .i64 (apR d n xs s).2]) ∧ Below w.heap.size w w' := by
  have Hr := hidd hr
  have HP := hidd (l03Wordy_any d n v xs s hsz n w hr)
  obtain ⟨A, c, rfl, hr⟩ := hr
  clear hr
  by_cases h0 : wyC d n xs s n = 0
  · have HR := hidd (show apR d n xs s = (acT d.toNat xs s, 0) by unfold apR; rw [if_pos h0])
    rw [h0] at HP
    have h1 : codeP d n [xs] = 0 := by
      apply Decidable.byContradiction
      intro h
      unfold wyC at h0
      rw [if_neg h] at h0
      exact h h0
    have h2 : wordB d s = true := by
      apply Decidable.byContradiction
      intro h
      unfold wyC at h0
      rw [if_pos h1, if_neg h] at h0
      cases h0
    have h3 : (s.size : Int) ≤ n := by
      apply Decidable.byContradiction
      intro h
      unfold wyC at h0
      rw [if_pos h1, if_pos h2, if_neg h] at h0
      cases h0
    obtain ⟨d', n', rfl, rfl, hd, hn1, hn4, hall⟩ := codeP_zero h1
    have hl : Lts d' s := by
      unfold wordB at h2
      rw [Bool.and_eq_true] at h2
      exact Lts.of h2.1
    have HA := hidd (fun W (hrW : RdI W (.slice A xs.length c) xs) => l03Act_any d' n' hd hn4 _ xs (hall xs (List.mem_singleton.2 rfl)) s hl (by omega) W hrW)
    rw [Int.toNat_natCast] at HR
    clear h0 h1 h2 hall hd hl
    go_enter Try.func22, Try.ntmps22
    go_wp2_with fail
    refine HP.out.mono ?_
    rintro e w1 ⟨rfl, hb⟩
    have B1 := hidd hb
    clear hb HP
    go_wp2_with fail
    refine (HA.out _ (Hr.out.below B1.out)).mono ?_
    rintro e w2 ⟨rfl, hb⟩
    go_wp2_with fail
    go_ret2
    exact ⟨by rw [HR.out]; rfl, bel_then B1.out hb⟩
  · have HR := hidd (show apR d n xs s = (⟨#[]⟩, wyC d n xs s n) by unfold apR; rw [if_neg h0])
    obtain ⟨cd, hcd⟩ : ∃ cd, cd = wyC d n xs s n := ⟨_, rfl⟩
    rw [← hcd] at HR HP h0
    have h1 : (cd == 0) = false := by simp [h0]
    have h2 : (cd != 0) = true := by simp [h0]
    clear h0 hcd
    go_enter Try.func22, Try.ntmps22
    go_wp2_with fail
    refine HP.out.mono ?_
    rintro e w1 ⟨rfl, hb⟩
    go_wp2_with fail
    go_ret2
    exact ⟨by rw [HR.out]; rfl, hb⟩
end Go.Proofs.Ytecdjmfohcnadaa

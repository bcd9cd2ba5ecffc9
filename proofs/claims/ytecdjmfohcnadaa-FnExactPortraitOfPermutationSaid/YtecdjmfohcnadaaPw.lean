/- Walks: the sizes of portraits; the permutations of two or three letters. -/
import Derived.Test.YtecdjmfohcnadaaPc
namespace Go.Proofs.Ytecdjmfohcnadaa
open Go.RowKit

theorem szB_yes {d n : Int} (h1 : 2 ≤ d ∧ d ≤ 3) (h2 : 1 ≤ n ∧ n ≤ 4) : szB d n = true := decide_eq_true ⟨h1.1, h1.2, h2⟩
theorem szB_no1 {d n : Int} (h1 : ¬ (2 ≤ d ∧ d ≤ 3)) : szB d n = false := decide_eq_false (fun h => h1 ⟨h.1, h.2.1⟩)
theorem szB_no2 {d n : Int} (h2 : ¬ (1 ≤ n ∧ n ≤ 4)) : szB d n = false := decide_eq_false (fun h => h2 h.2.2)
theorem areDepths_any (d n : Int) (w : World) : Calls Try.prog 36 #[.int .i64 d, .int .i64 n] w fun e w' => e = .returned (.bool (szB d n)) ∧ w = w' := by
  by_cases h1 : 2 ≤ d ∧ d ≤ 3
  · by_cases h2 : 1 ≤ n ∧ n ≤ 4
    · have H := hidd (szB_yes h1 h2)
      go_enter Try.func36, Try.ntmps36
      go_wp2_with (first | (go_at_call 65; refine (areLetters_yes _ _ h1.1 h1.2).mono ?_; rintro e w1 ⟨rfl, rfl⟩) | (go_at_call 40; refine (within_yes _ _ _ _ h2.1 h2.2).mono ?_; rintro e w1 ⟨rfl, rfl⟩))
      go_ret
      exact ⟨ret_b H.out.symm, rfl⟩
    · have H := hidd (szB_no2 (d := d) h2)
      go_enter Try.func36, Try.ntmps36
      go_wp2_with (first | (go_at_call 65; refine (areLetters_yes _ _ h1.1 h1.2).mono ?_; rintro e w1 ⟨rfl, rfl⟩) | (go_at_call 40; refine (within_no _ _ _ _ (by omega)).mono ?_; rintro e w1 ⟨rfl, rfl⟩))
      go_ret
      exact ⟨ret_b H.out.symm, rfl⟩
  · have H := hidd (szB_no1 (n := n) h1)
    go_enter Try.func36, Try.ntmps36
    go_wp2_with (go_at_call 65; refine (areLetters_no _ _ (by omega)).mono ?_; rintro e w1 ⟨rfl, rfl⟩)
    go_ret
    exact ⟨ret_b H.out.symm, rfl⟩
theorem l03Sizes_any (d n : Int) (w : World) : Calls Try.prog 34 #[.int .i64 d, .int .i64 n] w fun e w' => e = .returned (.bool (szB d n)) ∧ w = w' := by
  by_cases h1 : 2 ≤ d ∧ d ≤ 3
  · by_cases h2 : 1 ≤ n ∧ n ≤ 4
    · have H := hidd (szB_yes h1 h2)
      go_enter Try.func34, Try.ntmps34
      go_wp2_with (go_at_call 42; refine (l01In_yes _ _ _ _ (by omega) (by omega)).mono ?_; rintro e w1 ⟨rfl, rfl⟩)
      go_ret
      exact ⟨ret_b H.out.symm, rfl⟩
    · have H := hidd (szB_no2 (d := d) h2)
      go_enter Try.func34, Try.ntmps34
      go_wp2_with (go_at_call 42; first | (refine (l01In_yes _ _ _ _ (by omega) (by omega)).mono ?_; rintro e w1 ⟨rfl, rfl⟩) | (refine (l01In_no _ _ _ _ (by omega)).mono ?_; rintro e w1 ⟨rfl, rfl⟩))
      go_ret
      exact ⟨ret_b H.out.symm, rfl⟩
  · have H := hidd (szB_no1 (n := n) h1)
    go_enter Try.func34, Try.ntmps34
    go_wp2_with (go_at_call 42; refine (l01In_no _ _ _ _ (by omega)).mono ?_; rintro e w1 ⟨rfl, rfl⟩)
    go_ret
    exact ⟨ret_b H.out.symm, rfl⟩

theorem size_any (d n : Nat) (hd : Dd d) (hn : n ≤ 5) (w : World) :
    Calls Try.prog 37 #[.int .i64 (d : Nat), .int .i64 (n : Nat)] w fun e w' => e = .returned (.int .i64 (pst d n : Nat)) ∧ w = w' := by
  have h := hd.le
  have HP := hidd (power_any d n h.2 hn w)
  have e := pst_eq hd hn
  have hb := pow_bd h.2 hn
  have hp : 0 < d ^ n := Nat.pow_pos (by omega)
  obtain ⟨p, hp2⟩ : ∃ p, p = d ^ n := ⟨_, rfl⟩
  obtain ⟨q, hq⟩ : ∃ q, q = pst d n := ⟨_, rfl⟩
  rw [← hp2] at e hb hp HP
  rw [← hq] at e ⊢
  have e2 : ((p : Int) - 1) / ((d : Int) - 1) = (q : Int) := by
    rcases hd with rfl | rfl
    · omega
    · omega
  have hqb : q ≤ p := by rw [← e]; exact Nat.le_trans (Nat.div_le_self _ _) (by omega)
  have E2 := hidd e2
  clear hp2 hq e hd
  go_enter Try.func37, Try.ntmps37
  go_wp2_with (go_at_call 66; refine HP.out.mono ?_; rintro e w1 ⟨rfl, rfl⟩)
  go_ret
  exact ⟨ret_i E2.out, rfl⟩
theorem l03Start_any (d n : Nat) (hd : Dd d) (hn : n ≤ 5) (w : World) :
    Calls Try.prog 46 #[.int .i64 (d : Nat), .int .i64 (n : Nat)] w fun e w' => e = .returned (.int .i64 (pst d n : Nat)) ∧ w = w' := by
  have h := hd.le
  have HP := hidd (fun k (hk : k ≤ 5) => l01Power_any d k h.2 hk w)
  have HB := hidd (fun k (hk : k ≤ 5) => pst_bd hd hk)
  clear hd
  go_enter Try.func46, Try.ntmps46
  go_wp2
  go_loop [5, 6] (fun t i => ∃ k : Nat, k ≤ n ∧ i = .int .i64 k ∧ t = .int .i64 (pst d k : Nat)) (fun _ i => n - (intOf i).toNat)
  case atStart => exact ⟨0, Nat.zero_le _, rfl, rfl⟩
  case round =>
    obtain ⟨k, hk, rfl, rfl⟩ := hrel
    by_cases hlt : k < n
    · have i1 : (k : Int) < n := by omega
      have hb1 := HB.out k (by omega)
      have hb2 := HB.out (k + 1) (by omega)
      obtain ⟨p, hp⟩ : ∃ p, p = pst d k := ⟨_, rfl⟩
      obtain ⟨q, hq⟩ : ∃ q, q = d ^ k := ⟨_, rfl⟩
      have HE := hidd (show pst d (k + 1) = p + q by rw [hp, hq]; rfl)
      have HQ := hidd (HP.out k (by omega))
      rw [HE.out] at hb2
      rw [← hp] at hb1 ⊢
      rw [← hq] at HQ
      clear hp hq
      go_wp2_with (go_at_call 72; refine HQ.out.mono ?_; rintro e w1 ⟨rfl, rfl⟩)
      go_round
      case rel => exact ⟨k + 1, by omega, by go_num, by rw [HE.out]; go_num⟩
      case measure => simp [intOf]; omega
    · have he : k = n := by omega
      subst he
      go_wp2
      go_ret
      exact ⟨rfl, rfl⟩
theorem l03Count_any (d : Nat) (w : World) : Calls Try.prog 64 #[.int .i64 (d : Nat)] w fun e w' => e = .returned (.int .i64 (pcn d : Nat)) ∧ w = w' := by
  by_cases h : d = 2
  · subst h
    go_enter Try.func64, Try.ntmps64
    go_wp2
    go_ret
    exact ⟨rfl, rfl⟩
  · have H := hidd (show pcn d = 6 from if_neg h)
    go_enter Try.func64, Try.ntmps64
    go_wp2
    go_ret
    exact ⟨ret_i (by rw [H.out]; rfl), rfl⟩

/-! ### Literals of slices -/
theorem RdI.cells {w : World} {g n : Nat} {cs : Array Value} {t : TypeId} {xs : List Int} (h : w.heap[g]? = some (.cells cs t (0, 0))) (hc : cs.toList = ints xs) (hn : n = xs.length) (hl : xs.length ≤ 1048576) : RdI w (.slice (some ⟨g, 0, none⟩) n n) xs := by
  subst hn
  refine ⟨some ⟨g, 0, none⟩, xs.length, rfl, by rw [ints_length]; omega, fun _ => ⟨g, 0, rfl, fun j v hj => ?_⟩⟩
  rw [blkc h, Nat.zero_add, ← Array.getElem?_toList, hc]
  exact hj
theorem RdLL.cells {w : World} {g n : Nat} {rows : List Value} {t : TypeId} {xss : List (List Int)} (h : w.heap[g]? = some (.cells rows.toArray t (0, 0))) (hn : n = xss.length) (hl : rows.length = xss.length) (hb : xss.length ≤ 1048576) (hr : ∀ (j : Nat) (r : Value) (xs : List Int), rows[j]? = some r → xss[j]? = some xs → RdI w r xs) : RdLL w (.slice (some ⟨g, 0, none⟩) n n) xss := by
  subst hn
  refine ⟨some ⟨g, 0, none⟩, xss.length, rows, rfl, ⟨by omega, fun _ => ⟨g, 0, rfl, fun j v hj => ?_⟩⟩, hl, hr⟩
  rw [blkc h, Nat.zero_add, List.getElem?_toArray]
  exact hj

set_option maxRecDepth 100000 in
set_option maxHeartbeats 1000000 in
theorem permutations_any (d : Nat) (hd : Dd d) (w : World) : Calls Try.prog 41 #[.int .i64 (d : Nat)] w fun e w' => (∃ v, e = .returned v ∧ RdLL w' v (pms d)) ∧ Below w.heap.size w w' := by
  rcases hd with rfl | rfl
  · go_enter Try.func41, Try.ntmps41
    go_wp2_with fail
    go_ret
    refine ⟨⟨_, rfl, RdLL.cells (rows := [_, _]) (hp_new (by simp)) rfl rfl (by decide) fun j r xs h1 h2 => ?_⟩, (((bel_alloc' _ _).alloc (by simp) _).alloc (by simp; omega) _)⟩
    obtain _ | _ | j := j
    · cases h1; cases h2; exact RdI.cells (hp_old (hp_old (hp_new rfl))) rfl rfl (by decide)
    · cases h1; cases h2; exact RdI.cells (hp_old (hp_new (by simp))) rfl rfl (by decide)
    · cases h1
  · go_enter Try.func41, Try.ntmps41
    go_wp2_with fail
    go_ret
    refine ⟨⟨_, rfl, RdLL.cells (rows := [_, _, _, _, _, _]) (hp_new (by simp)) rfl rfl (by decide) fun j r xs h1 h2 => ?_⟩, (((((((bel_alloc' _ _).alloc (by simp) _).alloc (by simp; omega) _).alloc (by simp; omega) _).alloc (by simp; omega) _).alloc (by simp; omega) _).alloc (by simp; omega) _)⟩
    obtain _ | _ | _ | _ | _ | _ | j := j
    · cases h1; cases h2; exact RdI.cells (hp_old (hp_old (hp_old (hp_old (hp_old (hp_old (hp_new rfl))))))) rfl rfl (by decide)
    · cases h1; cases h2; exact RdI.cells (hp_old (hp_old (hp_old (hp_old (hp_old (hp_new (by simp))))))) rfl rfl (by decide)
    · cases h1; cases h2; exact RdI.cells (hp_old (hp_old (hp_old (hp_old (hp_new (by simp)))))) rfl rfl (by decide)
    · cases h1; cases h2; exact RdI.cells (hp_old (hp_old (hp_old (hp_new (by simp))))) rfl rfl (by decide)
    · cases h1; cases h2; exact RdI.cells (hp_old (hp_old (hp_new (by simp)))) rfl rfl (by decide)
    · cases h1; cases h2; exact RdI.cells (hp_old (hp_new (by simp))) rfl rfl (by decide)
    · cases h1
end Go.Proofs.Ytecdjmfohcnadaa

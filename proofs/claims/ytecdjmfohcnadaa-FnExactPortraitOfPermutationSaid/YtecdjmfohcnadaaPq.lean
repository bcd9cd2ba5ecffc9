/- Plain laws: the product of portraits, the portrait that leads back. -/
import Derived.Test.YtecdjmfohcnadaaPp
namespace Go.Proofs.Ytecdjmfohcnadaa
open Go.RowKit

theorem div_lt' {d i k : Nat} (hd : 0 < d) (h : k < d ^ (i + 1)) : k / d < d ^ i := by
  rw [Nat.pow_succ] at h
  exact (Nat.div_lt_iff_lt_mul hd).2 h
theorem split_d {d k : Nat} : k / d * d + k % d = k := by
  have := Nat.div_add_mod k d
  rw [Nat.mul_comm] at this
  exact this
theorem im_idx {d n i k x : Nat} (hi : i < n) (hk : k < d ^ i) (hx : x < d) : (k * d + x) * d ^ (n - i - 1) < d ^ n := by
  have h1 : k * d + x < d ^ (i + 1) := by
    rw [Nat.pow_succ]
    have : (k + 1) * d ≤ d ^ i * d := Nat.mul_le_mul_right d hk
    rw [Nat.add_mul, Nat.one_mul] at this
    omega
  have h2 : d ^ n = d ^ (i + 1) * d ^ (n - i - 1) := by rw [← Nat.pow_add]; congr 1; omega
  rw [h2]
  have h3 : 0 < d ^ (n - i - 1) := Nat.pow_pos (by omega)
  exact Nat.mul_lt_mul_of_pos_right h1 h3
/-- The images at a word, of a list of numbers. -/
theorem pfI_of {d n i k : Nat} {L : List Int} {Q : Nat → Nat} (hQ : ∀ k, k < d ^ n → L.getD k 0 = Q k) (hi : i < n) (hk : k < d ^ i) {f : Nat → Nat} (hf : ∀ x, x < d → Q ((k * d + x) * d ^ (n - i - 1)) / d ^ (n - i - 1) % d = f x) :
    pfI d n L i k = (List.range d).map fun x => (f x : Int) := by
  unfold pfI
  refine List.map_congr_left fun x hx => ?_
  have hx := List.mem_range.1 hx
  rw [hQ _ (im_idx hi hk hx), ← hf x hx]
  rfl

/-! ### The product -/
def muF (d : Nat) (a b : List Int) (i k : Nat) : Nat := thN d (a.getD (pst d i + k) 0).toNat (b.getD (pst d i + aN d a i k) 0).toNat
def muL (d n : Nat) (a b : List Int) : List Int := pby d (fun i k => (muF d a b i k : Int)) n
def muP (d n : Nat) (a b : List Int) : List Int := (List.range (d ^ n)).map fun k => (aN d b n (aN d a n k) : Int)
theorem mu_at {d n : Nat} (hd : Dd d) {a b : List Int} (ha : isP d n a = true) (hb : isP d n b = true) {i k : Nat} (hi : i < n) (hk : k < d ^ i) :
    (a.getD (pst d i + k) 0).toNat < pcn d ∧ (b.getD (pst d i + aN d a i k) 0).toNat < pcn d := by
  obtain ⟨u, h1, h2⟩ := isP_get ha (pst_lt hi hk)
  obtain ⟨v, h3, h4⟩ := isP_get hb (pst_lt hi (aN_lt hd a i k))
  rw [h1, h3]
  exact ⟨h2, h4⟩
theorem mu_law {d n : Nat} (hd : Dd d) {a b : List Int} (ha : isP d n a = true) (hb : isP d n b = true) : pfR d n (muP d n a b) = some (muL d n a b) := by
  have h2 := hd.le
  have hQ : ∀ k, k < d ^ n → (muP d n a b).getD k 0 = (aN d b n (aN d a n k) : Nat) ∧ aN d b n (aN d a n k) < d ^ n := fun k hk =>
    ⟨by simp [muP, List.getD_eq_getElem?_getD, hk], aN_lt hd b n _⟩
  refine pfR_of hd (by simp [muP]) hQ (fun i k hi hk => (thN_spec hd (mu_at hd ha hb hi hk).1 (mu_at hd ha hb hi hk).2).1) (fun i k hi hk => ?_) ?_
  · have hc := mu_at hd ha hb hi hk
    rw [muF, (thN_spec hd hc.1 hc.2).2]
    refine pfI_of (fun k hk => (hQ k hk).1) hi hk fun x hx => ?_
    have hn : n = (i + 1) + (n - i - 1) := by omega
    have hp : 0 < d ^ (n - i - 1) := Nat.pow_pos (by omega)
    have e1 := aN_pre hd b (i + 1) (n - i - 1) (aN d a n ((k * d + x) * d ^ (n - i - 1)))
    have e2 := aN_pre hd a (i + 1) (n - i - 1) ((k * d + x) * d ^ (n - i - 1))
    rw [← hn] at e1 e2
    rw [e1, e2, Nat.mul_div_cancel _ hp, aN_step a i k hx]
    have hy := pim_lt hd (a.getD (pst d i + k) 0).toNat x
    rw [aN_step b i _ hy]
    have hz := pim_lt hd (b.getD (pst d i + aN d a i k) 0).toNat (pim d (a.getD (pst d i + k) 0).toNat x)
    exact (divmod hz).2
  · have key : ∀ i, i ≤ n → ∀ k, k < d ^ i → aN d (muL d n a b) i k = aN d b i (aN d a i k) := by
      intro i
      induction i with
      | zero => intro _ k _; rfl
      | succ i ih =>
        intro hi k hk
        have hkd := div_lt' (by omega) hk
        have hm : k % d < d := Nat.mod_lt _ (by omega)
        have hc := mu_at hd ha hb (show i < n by omega) hkd
        have hg : (muL d n a b).getD (pst d i + k / d) 0 = (muF d a b i (k / d) : Nat) := by
          unfold muL
          rw [List.getD_eq_getElem?_getD, pby_get _ _ n (by omega) hkd]
          rfl
        have hy := pim_lt hd (a.getD (pst d i + k / d) 0).toNat (k % d)
        rw [aN, ih (by omega) _ hkd, hg, Int.toNat_natCast, muF, thN_im hd hc.1 hc.2 hm, aN.eq_2 (L := a), aN_step b i _ hy]
    exact fun k hk => key n (Nat.le_refl _) k hk

/-! ### The portrait that leads back -/
def vN (d : Nat) (L : List Int) : Nat → Nat → Nat
  | 0, _ => 0
  | n + 1, k => vN d L n (k / d) * d + pim d (bkN d (L.getD (pst d n + vN d L n (k / d)) 0).toNat) (k % d)
theorem vN_step {d : Nat} (L : List Int) (n m : Nat) {x : Nat} (hx : x < d) : vN d L (n + 1) (m * d + x) = vN d L n m * d + pim d (bkN d (L.getD (pst d n + vN d L n m) 0).toNat) x := by
  rw [vN, (divmod hx).1, (divmod hx).2]
theorem vN_lt {d : Nat} (hd : Dd d) (L : List Int) : ∀ (n k : Nat), vN d L n k < d ^ n
  | 0, _ => by simp [vN]
  | n + 1, k => by
    have h1 := vN_lt hd L n (k / d)
    have h2 := pim_lt hd (bkN d (L.getD (pst d n + vN d L n (k / d)) 0).toNat) (k % d)
    rw [vN, Nat.pow_succ]
    have h3 : (vN d L n (k / d) + 1) * d ≤ d ^ n * d := Nat.mul_le_mul_right d h1
    rw [Nat.add_mul, Nat.one_mul] at h3
    omega
theorem vN_pre {d : Nat} (hd : Dd d) (L : List Int) (i : Nat) : ∀ (j k : Nat), vN d L (i + j) k / d ^ j = vN d L i (k / d ^ j)
  | 0, k => by simp
  | j + 1, k => by
    have h2 := pim_lt hd (bkN d (L.getD (pst d (i + j) + vN d L (i + j) (k / d)) 0).toNat) (k % d)
    rw [show i + (j + 1) = (i + j) + 1 by omega, vN, Nat.pow_succ', ← Nat.div_div_eq_div_mul, (divmod h2).1, vN_pre hd L i j, Nat.div_div_eq_div_mul]
theorem aN_vN {d N : Nat} (hd : Dd d) {L : List Int} (hL : isP d N L = true) : ∀ n, n ≤ N → ∀ k, k < d ^ n → aN d L n (vN d L n k) = k
  | 0, _, k, hk => by simp at hk; rw [hk]; rfl
  | n + 1, hn, k, hk => by
    have h2 := hd.le
    have hkd := div_lt' (by omega) hk
    have hm : k % d < d := Nat.mod_lt _ (by omega)
    obtain ⟨u, e, hu⟩ := isP_get hL (pst_lt (show n < N by omega) (vN_lt hd L n (k / d)))
    have hx := pim_lt hd (bkN d (L.getD (pst d n + vN d L n (k / d)) 0).toNat) (k % d)
    rw [vN, aN_step L n _ hx, aN_vN hd hL n (by omega) _ hkd, e, Int.toNat_natCast, (bkN_spec hd hu hm).2.2, split_d]
theorem vN_aN {d N : Nat} (hd : Dd d) {L : List Int} (hL : isP d N L = true) : ∀ n, n ≤ N → ∀ k, k < d ^ n → vN d L n (aN d L n k) = k
  | 0, _, k, hk => by simp at hk; rw [hk]; rfl
  | n + 1, hn, k, hk => by
    have h2 := hd.le
    have hkd := div_lt' (by omega) hk
    have hm : k % d < d := Nat.mod_lt _ (by omega)
    obtain ⟨u, e, hu⟩ := isP_get hL (pst_lt (show n < N by omega) hkd)
    have hx := pim_lt hd (L.getD (pst d n + k / d) 0).toNat (k % d)
    rw [aN, vN_step L n _ hx, vN_aN hd hL n (by omega) _ hkd, e, Int.toNat_natCast, (bkN_spec hd hu hm).2.1, split_d]
def bkF (d : Nat) (L : List Int) (i k : Nat) : Nat := bkN d (L.getD (pst d i + vN d L i k) 0).toNat
def bkL (d n : Nat) (L : List Int) : List Int := pby d (fun i k => (bkF d L i k : Int)) n
def bkP (d n : Nat) (L : List Int) : List Int := (List.range (d ^ n)).map fun k => (vN d L n k : Int)
theorem bk_at {d n : Nat} (hd : Dd d) {L : List Int} (hL : isP d n L = true) {i k : Nat} (hi : i < n) : bkF d L i k < pcn d := by
  obtain ⟨u, h1, h2⟩ := isP_get hL (pst_lt hi (vN_lt hd L i k))
  have := hd.le
  unfold bkF
  rw [h1]
  exact (bkN_spec (x := 0) hd h2 (by omega)).1
theorem bk_law {d n : Nat} (hd : Dd d) {L : List Int} (hL : isP d n L = true) : pfR d n (bkP d n L) = some (bkL d n L) := by
  have h2 := hd.le
  have hQ : ∀ k, k < d ^ n → (bkP d n L).getD k 0 = (vN d L n k : Nat) ∧ vN d L n k < d ^ n := fun k hk =>
    ⟨by simp [bkP, List.getD_eq_getElem?_getD, hk], vN_lt hd L n _⟩
  refine pfR_of hd (by simp [bkP]) hQ (fun i k hi hk => bk_at hd hL hi) (fun i k hi hk => ?_) ?_
  · refine pfI_of (fun k hk => (hQ k hk).1) hi hk fun x hx => ?_
    have hn : n = (i + 1) + (n - i - 1) := by omega
    have hp : 0 < d ^ (n - i - 1) := Nat.pow_pos (by omega)
    have e1 := vN_pre hd L (i + 1) (n - i - 1) ((k * d + x) * d ^ (n - i - 1))
    rw [← hn] at e1
    rw [e1, Nat.mul_div_cancel _ hp, vN_step L i k hx]
    exact (divmod (pim_lt hd _ _)).2
  · have key : ∀ i, i ≤ n → ∀ k, k < d ^ i → aN d (bkL d n L) i k = vN d L i k := by
      intro i
      induction i with
      | zero => intro _ k _; rfl
      | succ i ih =>
        intro hi k hk
        have hkd := div_lt' (by omega) hk
        have hg : (bkL d n L).getD (pst d i + k / d) 0 = (bkF d L i (k / d) : Nat) := by
          unfold bkL
          rw [List.getD_eq_getElem?_getD, pby_get _ _ n (by omega) hkd]
          rfl
        rw [aN, ih (by omega) _ hkd, hg, Int.toNat_natCast, vN]
        rfl
    exact fun k hk => key n (Nat.le_refl _) k hk
end Go.Proofs.Ytecdjmfohcnadaa

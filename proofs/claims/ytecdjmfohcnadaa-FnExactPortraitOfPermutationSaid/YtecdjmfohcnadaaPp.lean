/- Plain laws: permutations of two or three letters, portraits, what they make of words. -/
import Derived.Test.YtecdjmfohcnadaaPr0
namespace Go.Proofs.Ytecdjmfohcnadaa
open Go.RowKit

/-! ### Permutations of two or three letters -/
def pms (d : Nat) : List (List Int) := if d = 2 then [[0, 1], [1, 0]] else [[0, 1, 2], [0, 2, 1], [1, 0, 2], [1, 2, 0], [2, 0, 1], [2, 1, 0]]
def pcn (d : Nat) : Nat := if d = 2 then 2 else 6
def pim (d n x : Nat) : Nat := (((pms d).getD n []).getD x 0).toNat
def Dd (d : Nat) : Prop := d = 2 ∨ d = 3
theorem Dd.le {d : Nat} (h : Dd d) : 2 ≤ d ∧ d ≤ 3 := by unfold Dd at h; omega
theorem Dd.of {d : Nat} (h2 : 2 ≤ d) (h3 : d ≤ 3) : Dd d := by unfold Dd; omega
theorem pms_len {d : Nat} : (pms d).length = pcn d := by unfold pms pcn; split <;> rfl
theorem pcn_le {d : Nat} : 2 ≤ pcn d ∧ pcn d ≤ 6 := by unfold pcn; split <;> omega
theorem pim_lt {d : Nat} (hd : Dd d) (n x : Nat) : pim d n x < d := by
  by_cases hn : n < 6
  · by_cases hx : x < 3
    · rcases hd with rfl | rfl
      · exact (by decide : ∀ n, n < 6 → ∀ x, x < 3 → pim 2 n x < 2) n hn x hx
      · exact (by decide : ∀ n, n < 6 → ∀ x, x < 3 → pim 3 n x < 3) n hn x hx
    · have h3 : ∀ l ∈ pms d, l.length ≤ 3 := by rcases hd with rfl | rfl <;> decide
      have hl : ((pms d).getD n []).length ≤ 3 := by
        by_cases h : n < (pms d).length
        · rw [List.getD_eq_getElem?_getD, List.getElem?_eq_getElem h]; exact h3 _ (List.getElem_mem h)
        · rw [List.getD_eq_getElem?_getD, List.getElem?_eq_none (by omega)]; simp
      unfold pim
      rw [List.getD_eq_getElem?_getD (i := x), List.getElem?_eq_none (by omega)]
      have := hd.le
      simp; omega
  · have hl : (pms d).length ≤ 6 := by rw [pms_len]; exact pcn_le.2
    unfold pim
    rw [List.getD_eq_getElem?_getD (i := n), List.getElem?_eq_none (by omega)]
    have := hd.le
    simp; omega
/-- The number of a list of images, or -1. -/
def pix (d : Nat) (xs : List Int) : Nat := first (fun k => decide ((pms d).getD k [] = xs)) (pcn d)
def pno (d : Nat) (xs : List Int) : Int := if pix d xs < pcn d then (pix d xs : Nat) else -1
theorem pno_bd (d : Nat) (xs : List Int) : -1 ≤ pno d xs ∧ pno d xs < pcn d := by unfold pno; split <;> omega
/-- The images of a permutation. -/
def pil (d n : Nat) : List Int := (List.range d).map fun x => (pim d n x : Int)
theorem pil_eq {d n : Nat} (hd : Dd d) (hn : n < pcn d) : (pms d).getD n [] = pil d n := by
  rcases hd with rfl | rfl
  · exact (by decide : ∀ n, n < 2 → (pms 2).getD n [] = pil 2 n) n hn
  · exact (by decide : ∀ n, n < 6 → (pms 3).getD n [] = pil 3 n) n hn
theorem pno_pil {d n : Nat} (hd : Dd d) (hn : n < pcn d) : pno d (pil d n) = n := by
  rcases hd with rfl | rfl
  · exact (by decide : ∀ n, n < 2 → pno 2 (pil 2 n) = n) n hn
  · exact (by decide : ∀ n, n < 6 → pno 3 (pil 3 n) = n) n hn
/-- One permutation and then another one; the one that leads back. -/
def thN (d a b : Nat) : Nat := (pno d ((List.range d).map fun x => (pim d b (pim d a x) : Int))).toNat
def bkN (d a : Nat) : Nat := first (fun b => decide (thN d a b = 0)) (pcn d)
theorem thN_spec {d a b : Nat} (hd : Dd d) (ha : a < pcn d) (hb : b < pcn d) : thN d a b < pcn d ∧ pil d (thN d a b) = (List.range d).map fun x => (pim d b (pim d a x) : Int) := by
  rcases hd with rfl | rfl
  · exact (by decide : ∀ a, a < 2 → ∀ b, b < 2 → thN 2 a b < 2 ∧ pil 2 (thN 2 a b) = (List.range 2).map fun x => (pim 2 b (pim 2 a x) : Int)) a ha b hb
  · exact (by decide : ∀ a, a < 6 → ∀ b, b < 6 → thN 3 a b < 6 ∧ pil 3 (thN 3 a b) = (List.range 3).map fun x => (pim 3 b (pim 3 a x) : Int)) a ha b hb
theorem thN_im {d a b x : Nat} (hd : Dd d) (ha : a < pcn d) (hb : b < pcn d) (hx : x < d) : pim d (thN d a b) x = pim d b (pim d a x) := by
  rcases hd with rfl | rfl
  · exact (by decide : ∀ a, a < 2 → ∀ b, b < 2 → ∀ x, x < 2 → pim 2 (thN 2 a b) x = pim 2 b (pim 2 a x)) a ha b hb x hx
  · exact (by decide : ∀ a, a < 6 → ∀ b, b < 6 → ∀ x, x < 3 → pim 3 (thN 3 a b) x = pim 3 b (pim 3 a x)) a ha b hb x hx
theorem bkN_spec {d a x : Nat} (hd : Dd d) (ha : a < pcn d) (hx : x < d) : bkN d a < pcn d ∧ pim d (bkN d a) (pim d a x) = x ∧ pim d a (pim d (bkN d a) x) = x := by
  rcases hd with rfl | rfl
  · exact (by decide : ∀ a, a < 2 → ∀ x, x < 2 → bkN 2 a < 2 ∧ pim 2 (bkN 2 a) (pim 2 a x) = x ∧ pim 2 a (pim 2 (bkN 2 a) x) = x) a ha x hx
  · exact (by decide : ∀ a, a < 6 → ∀ x, x < 3 → bkN 3 a < 6 ∧ pim 3 (bkN 3 a) (pim 3 a x) = x ∧ pim 3 a (pim 3 (bkN 3 a) x) = x) a ha x hx

/-! ### The places of a portrait -/
def pst (d : Nat) : Nat → Nat
  | 0 => 0
  | n + 1 => pst d n + d ^ n
theorem pst_mono (d : Nat) {m n : Nat} (h : m ≤ n) : pst d m ≤ pst d n := by
  induction h with
  | refl => exact Nat.le_refl _
  | step _ ih => rw [pst]; omega
theorem pst_bd {d n : Nat} (hd : Dd d) (hn : n ≤ 5) : pst d n ≤ 121 := by
  rcases hd with rfl | rfl
  · exact (by decide : ∀ n, n < 6 → pst 2 n ≤ 121) n (by omega)
  · exact (by decide : ∀ n, n < 6 → pst 3 n ≤ 121) n (by omega)
theorem pst_eq {d n : Nat} (hd : Dd d) (hn : n ≤ 5) : (d ^ n - 1) / (d - 1) = pst d n := by
  rcases hd with rfl | rfl
  · exact (by decide : ∀ n, n < 6 → (2 ^ n - 1) / (2 - 1) = pst 2 n) n (by omega)
  · exact (by decide : ∀ n, n < 6 → (3 ^ n - 1) / (3 - 1) = pst 3 n) n (by omega)
/-- Letters and a depth that are in their ranges. -/
def szB (d n : Int) : Bool := decide (2 ≤ d ∧ d ≤ 3 ∧ 1 ≤ n ∧ n ≤ 4)
def nuB (d : Nat) (k : Int) : Bool := decide (0 ≤ k ∧ k ≤ (pcn d : Int) - 1)
def isP (d n : Nat) (xs : List Int) : Bool := decide (xs.length = pst d n) && xs.all (nuB d)
theorem isP_len {d n : Nat} {xs : List Int} (h : isP d n xs = true) : xs.length = pst d n := by
  unfold isP at h
  rw [Bool.and_eq_true] at h
  exact of_decide_eq_true h.1
theorem isP_get {d n : Nat} {xs : List Int} (h : isP d n xs = true) {i : Nat} (hi : i < pst d n) : ∃ k : Nat, xs.getD i 0 = k ∧ k < pcn d := by
  have hl := isP_len h
  unfold isP at h
  rw [Bool.and_eq_true] at h
  have h2 := List.all_eq_true.1 h.2 xs[i] (List.getElem_mem (by omega))
  have h3 := of_decide_eq_true h2
  rw [List.getD_eq_getElem?_getD, List.getElem?_eq_getElem (by omega), Option.getD_some]
  exact ⟨xs[i].toNat, by omega, by omega⟩
/-- The code of letters, a depth and portraits. -/
def codeP (d n : Int) (xss : List (List Int)) : Int := if szB d n then (if xss.all (isP d.toNat n.toNat) then 0 else 1) else 2
theorem codeP_zero {d n : Int} {xss : List (List Int)} (h : codeP d n xss = 0) : ∃ d' n' : Nat, d = d' ∧ n = n' ∧ Dd d' ∧ 1 ≤ n' ∧ n' ≤ 4 ∧ ∀ xs ∈ xss, isP d' n' xs = true := by
  unfold codeP at h
  split at h
  · rename_i h1
    have h1 := of_decide_eq_true h1
    split at h
    · rename_i h2
      exact ⟨d.toNat, n.toNat, by omega, by omega, by unfold Dd; omega, by omega, by omega, fun xs hx => List.all_eq_true.1 h2 xs hx⟩
    · cases h
  · cases h

/-! ### What a portrait makes of a word -/
/-- The portrait's number at the first i letters. -/
def ptA (d : Nat) (L : List Int) (w : ByteArray) (i : Nat) : Nat := (L.getD (pst d i + nbr d w i) 0).toNat
def acB (d : Nat) (L : List Int) (w : ByteArray) (n : Nat) : List Int := (List.range n).map fun i => 48 + (pim d (ptA d L w i) (lt w i) : Int)
def acT (d : Nat) (L : List Int) (w : ByteArray) : ByteArray := strOfNums (acB d L w w.size)
theorem acB_len (d : Nat) (L : List Int) (w : ByteArray) (n : Nat) : (acB d L w n).length = n := by simp [acB]
theorem acB_get (d : Nat) (L : List Int) (w : ByteArray) {n i : Nat} (h : i < n) : (acB d L w n)[i]? = some (48 + (pim d (ptA d L w i) (lt w i) : Int)) := by simp [acB, h]
theorem acT_size (d : Nat) (L : List Int) (w : ByteArray) : (acT d L w).size = w.size := by unfold acT; rw [strOfNums_size, acB_len]
theorem acB_mem {d : Nat} (hd : Dd d) {L : List Int} {w : ByteArray} {n : Nat} : ∀ x ∈ acB d L w n, 48 ≤ x ∧ x < 48 + d := fun x hx => by
  obtain ⟨i, _, rfl⟩ := List.mem_map.1 hx
  have := pim_lt hd (ptA d L w i) (lt w i)
  omega
theorem bytes_get {xs : List Int} (h : ∀ x ∈ xs, 48 ≤ x ∧ x < 51) {i : Nat} (hi : i < xs.length) : lt (strOfNums xs) i = (xs[i] - 48).toNat ∧ 48 ≤ ((strOfNums xs)[i]'(by rw [strOfNums_size]; exact hi)).toNat := by
  have h := h _ (List.getElem_mem hi)
  have e : (strOfNums xs)[i]'(by rw [strOfNums_size]; exact hi) = UInt8.ofNat (xs[i]).toNat := str_get _ hi
  have e2 : ((strOfNums xs)[i]'(by rw [strOfNums_size]; exact hi)).toNat = xs[i].toNat := by rw [e, UInt8.toNat_ofNat']; omega
  refine ⟨?_, by omega⟩
  unfold lt
  rw [getElem!_pos _ i (by rw [strOfNums_size]; exact hi), e2]
  omega
theorem acT_lt {d : Nat} (hd : Dd d) (L : List Int) (w : ByteArray) {i : Nat} (hi : i < w.size) : lt (acT d L w) i = pim d (ptA d L w i) (lt w i) := by
  have hl : i < (acB d L w w.size).length := by rw [acB_len]; exact hi
  have h3 := hd.le
  have := (bytes_get (xs := acB d L w w.size) (fun x hx => by have := acB_mem hd x hx; omega) hl).1
  unfold acT
  rw [this]
  have e := acB_get d L w hi
  rw [List.getElem?_eq_getElem hl] at e
  rw [Option.some.inj e]
  omega
theorem acT_lts {d : Nat} (hd : Dd d) (L : List Int) (w : ByteArray) : Lts d (acT d L w) := by
  have h3 := hd.le
  have sz : (acT d L w).size = w.size := acT_size d L w
  refine ⟨fun i hi => ?_, fun i hi => ?_⟩
  · exact (bytes_get (xs := acB d L w w.size) (fun x hx => by have := acB_mem hd x hx; omega) (by rw [acB_len]; omega)).2
  · rw [acT_lt hd L w (by omega)]
    exact pim_lt hd _ _
/-- The same on numbers. -/
def aN (d : Nat) (L : List Int) : Nat → Nat → Nat
  | 0, _ => 0
  | n + 1, k => aN d L n (k / d) * d + pim d (L.getD (pst d n + k / d) 0).toNat (k % d)
theorem divmod {d m x : Nat} (hx : x < d) : (m * d + x) / d = m ∧ (m * d + x) % d = x := by
  have hd : 0 < d := by omega
  constructor
  · rw [Nat.mul_comm, Nat.mul_add_div hd, Nat.div_eq_of_lt hx, Nat.add_zero]
  · rw [Nat.mul_comm, Nat.mul_add_mod, Nat.mod_eq_of_lt hx]
theorem aN_step {d : Nat} (L : List Int) (n m : Nat) {x : Nat} (hx : x < d) : aN d L (n + 1) (m * d + x) = aN d L n m * d + pim d (L.getD (pst d n + m) 0).toNat x := by
  rw [aN, (divmod hx).1, (divmod hx).2]
theorem aN_lt {d : Nat} (hd : Dd d) (L : List Int) : ∀ (n k : Nat), aN d L n k < d ^ n
  | 0, _ => by simp [aN]
  | n + 1, k => by
    have h1 := aN_lt hd L n (k / d)
    have h2 := pim_lt hd (L.getD (pst d n + k / d) 0).toNat (k % d)
    rw [aN, Nat.pow_succ]
    have h3 : (aN d L n (k / d) + 1) * d ≤ d ^ n * d := Nat.mul_le_mul_right d h1
    rw [Nat.add_mul, Nat.one_mul] at h3
    omega
theorem nbr_act {d : Nat} (hd : Dd d) (L : List Int) {w : ByteArray} (hw : Lts d w) : ∀ n, n ≤ w.size → nbr d (acT d L w) n = aN d L n (nbr d w n)
  | 0, _ => rfl
  | n + 1, hn => by
    have hl := hw.hi n (by omega)
    rw [nbr, nbr, aN_step L n _ hl, nbr_act hd L hw n (by omega), acT_lt hd L w (by omega)]
    rfl
theorem aN_pre {d : Nat} (hd : Dd d) (L : List Int) (i : Nat) : ∀ (j k : Nat), aN d L (i + j) k / d ^ j = aN d L i (k / d ^ j)
  | 0, k => by simp
  | j + 1, k => by
    have h2 := pim_lt hd (L.getD (pst d (i + j) + k / d) 0).toNat (k % d)
    rw [show i + (j + 1) = (i + j) + 1 by omega, aN, Nat.pow_succ', ← Nat.div_div_eq_div_mul, (divmod h2).1, aN_pre hd L i j, Nat.div_div_eq_div_mul]

/-! ### A portrait by its numbers -/
/-- The lists of all levels less than n, one behind the other. -/
def pby (d : Nat) (F : Nat → Nat → Int) : Nat → List Int
  | 0 => []
  | n + 1 => pby d F n ++ (List.range (d ^ n)).map (F n)
theorem pby_len (d : Nat) (F : Nat → Nat → Int) : ∀ n, (pby d F n).length = pst d n
  | 0 => rfl
  | n + 1 => by rw [pby, List.length_append, pby_len d F n, List.length_map, List.length_range, pst]
theorem pby_get (d : Nat) (F : Nat → Nat → Int) : ∀ (n : Nat) {i k : Nat}, i < n → k < d ^ i → (pby d F n)[pst d i + k]? = some (F i k)
  | 0, i, k, h, _ => absurd h (Nat.not_lt_zero _)
  | n + 1, i, k, h, hk => by
    by_cases e : i = n
    · subst e
      rw [pby, List.getElem?_append_right (by rw [pby_len]; omega), pby_len, show pst d i + k - pst d i = k by omega]
      simp [hk]
    · have h1 : pst d (i + 1) ≤ pst d n := pst_mono d (by omega)
      rw [pst] at h1
      rw [pby, List.getElem?_append_left (by rw [pby_len]; omega)]
      exact pby_get d F n (by omega) hk
theorem pby_mem {d : Nat} {F : Nat → Nat → Int} : ∀ {n : Nat} {x : Int}, x ∈ pby d F n → ∃ i k, i < n ∧ k < d ^ i ∧ x = F i k
  | 0, x, h => by cases h
  | n + 1, x, h => by
    rw [pby] at h
    rcases List.mem_append.1 h with h | h
    · obtain ⟨i, k, a, b, c⟩ := pby_mem h
      exact ⟨i, k, by omega, b, c⟩
    · obtain ⟨k, hk, rfl⟩ := List.mem_map.1 h
      exact ⟨n, k, by omega, List.mem_range.1 hk, rfl⟩
/-- Every place is one of a level. -/
theorem pst_split (d : Nat) : ∀ (n : Nat) {p : Nat}, p < pst d n → ∃ i k, i < n ∧ k < d ^ i ∧ p = pst d i + k
  | 0, p, h => by rw [pst] at h; omega
  | n + 1, p, h => by
    by_cases e : p < pst d n
    · obtain ⟨i, k, a, b, c⟩ := pst_split d n e
      exact ⟨i, k, by omega, b, c⟩
    · rw [pst] at h
      exact ⟨n, p - pst d n, by omega, by omega, by omega⟩
theorem pst_lt {d i k n : Nat} (hi : i < n) (hk : k < d ^ i) : pst d i + k < pst d n := by
  have h1 : pst d (i + 1) ≤ pst d n := pst_mono d (by omega)
  rw [pst] at h1
  omega
theorem isP_by {d n : Nat} {F : Nat → Nat → Int} (h : ∀ i k, i < n → k < d ^ i → 0 ≤ F i k ∧ F i k < pcn d) : isP d n (pby d F n) = true := by
  unfold isP
  rw [Bool.and_eq_true]
  refine ⟨decide_eq_true (pby_len d F n), List.all_eq_true.2 fun x hx => ?_⟩
  obtain ⟨i, k, a, b, rfl⟩ := pby_mem hx
  have := h i k a b
  exact decide_eq_true (by omega)
/-- The permutation of a level that a portrait makes. -/
def prP (d n : Nat) (L : List Int) : List Int := (List.range (d ^ n)).map fun k => (aN d L n k : Int)
theorem prP_len (d n : Nat) (L : List Int) : (prP d n L).length = d ^ n := by simp [prP]
theorem prP_get (d n : Nat) (L : List Int) {k : Nat} (h : k < d ^ n) : (prP d n L).getD k 0 = aN d L n k := by simp [prP, List.getD_eq_getElem?_getD, h]

/-! ### The portrait of a permutation -/
/-- The images that a list of a level's numbers gives at a word. -/
def pfI (d n : Nat) (L : List Int) (i k : Nat) : List Int := (List.range d).map fun x => L.getD ((k * d + x) * d ^ (n - i - 1)) 0 / (d ^ (n - i - 1) : Nat) % (d : Int)
def pfO (d n : Nat) (L : List Int) : List Int := pby d (fun i k => pno d (pfI d n L i k)) n
def lvB (d n : Nat) (L : List Int) : Bool := decide (L.length = d ^ n) && L.all fun k => decide (0 ≤ k ∧ k ≤ (d ^ n : Nat) - 1)
def pfR (d n : Nat) (L : List Int) : Option (List Int) := if lvB d n L then (if (pfO d n L).contains (-1) then none else if prP d n (pfO d n L) = L then some (pfO d n L) else none) else none

/-- A list of numbers that a portrait makes is read back. -/
theorem pfR_of {d n : Nat} (hd : Dd d) {L : List Int} {Q : Nat → Nat} (hl : L.length = d ^ n) (hQ : ∀ k, k < d ^ n → L.getD k 0 = Q k ∧ Q k < d ^ n) {F : Nat → Nat → Nat}
    (hF : ∀ i k, i < n → k < d ^ i → F i k < pcn d) (hI : ∀ i k, i < n → k < d ^ i → pfI d n L i k = pil d (F i k)) (hA : ∀ k, k < d ^ n → aN d (pby d (fun i k => (F i k : Int)) n) n k = Q k) :
    pfR d n L = some (pby d (fun i k => (F i k : Int)) n) := by
  have e : pfO d n L = pby d (fun i k => (F i k : Int)) n := by
    unfold pfO
    apply List.ext_getElem?
    intro p
    by_cases hp : p < pst d n
    · obtain ⟨i, k, hi, hk, rfl⟩ := pst_split d n hp
      rw [pby_get _ _ n hi hk, pby_get _ _ n hi hk, hI i k hi hk, pno_pil hd (hF i k hi hk)]
    · rw [List.getElem?_eq_none (by rw [pby_len]; omega), List.getElem?_eq_none (by rw [pby_len]; omega)]
  have h0 : ∀ k, k < d ^ n → L[k]? = some (Q k : Int) := fun k hk => by
    have := (hQ k hk).1
    rw [List.getD_eq_getElem?_getD, List.getElem?_eq_getElem (by omega), Option.getD_some] at this
    rw [List.getElem?_eq_getElem (by omega), this]
  have h1 : lvB d n L = true := by
    unfold lvB
    rw [Bool.and_eq_true]
    refine ⟨decide_eq_true hl, List.all_eq_true.2 fun x hx => ?_⟩
    obtain ⟨k, hk, rfl⟩ := List.getElem_of_mem hx
    have := h0 k (by omega)
    rw [List.getElem?_eq_getElem hk] at this
    rw [Option.some.inj this]
    have := (hQ k (by omega)).2
    exact decide_eq_true (by omega)
  have h2 : ¬ (pby d (fun i k => (F i k : Int)) n).contains (-1) = true := by
    intro h
    have := List.contains_iff_mem.1 h
    obtain ⟨i, k, _, _, h⟩ := pby_mem this
    omega
  have h3 : prP d n (pby d (fun i k => (F i k : Int)) n) = L := by
    apply List.ext_getElem?
    intro k
    by_cases hk : k < d ^ n
    · rw [h0 k hk, ← hA k hk]; simp [prP, hk]
    · rw [List.getElem?_eq_none (by rw [prP_len]; omega), List.getElem?_eq_none (by omega)]
  unfold pfR
  rw [if_pos h1, e, if_neg h2, if_pos h3]
end Go.Proofs.Ytecdjmfohcnadaa

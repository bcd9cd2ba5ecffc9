/- Small texts of the walks under one roof. -/
import Derived.Test.YtighjpnjbgjgaaaDoorBD
import Derived.Test.YtighjpnjbgjgaaaDoorBA
import Derived.IntWalk
import Derived.Test.YtighjpnjbgjgaaaDoorBC
import Derived.Deep.RegionHeld3
import Derived.Test.YtighjpnjbgjgaaaDoorBB
/- Walks: NormalWord, of the program and of the reference. -/
namespace Go.Proofs.YtighjpnjbgjgaaaDoor
open Go.RowKit

def nwdR (m : Mc) (xs : List Int) : List Int × Int := if codeW m [xs] = 0 then (m.gm.nrm xs, 0) else ([], 1)
theorem nwdR_len (m : Mc) (xs : List Int) : (nwdR m xs).1.length ≤ 1048576 := by
  unfold nwdR
  split
  · rename_i h
    obtain ⟨g, rfl, hok, hw⟩ := codeW_zero h
    have h40 := (gwB_mem (hw xs (List.mem_singleton.2 rfl))).1
    have := g.nrm_len xs
    show (g.nrm xs).length ≤ _
    omega
  · exact Nat.zero_le _

set_option linter.unusedSimpArgs false
end Go.Proofs.YtighjpnjbgjgaaaDoor

/- Walks: the step of one number and the section at a letter, of the reference. -/
namespace Go.Proofs.YtighjpnjbgjgaaaDoor
open Go.RowKit

theorem Gm.stp_pos (g : Gm) (q x : Nat) : g.stp ((q : Int) + 1) x = (g.ou q x, (g.nx q x : Int) + 1) := by
  unfold Gm.stp
  rw [if_pos (by omega), show ((q : Int) + 1 - 1).toNat = q by omega]
theorem Gm.stp_neg (g : Gm) (q x : Nat) : g.stp (-((q : Int) + 1)) x = (g.inv.ou q x, -(g.inv.nx q x : Int) - 1) := by
  unfold Gm.stp
  rw [if_neg (by omega), show (-(-((q : Int) + 1)) - 1).toNat = q by omega]

theorem Gm.At.n0' {g : Gm} {w : World} {b : Nat} (h : g.At w b 0) (q x : Nat) (hq : q < 16) (hx : x < 3) : w.cell? ⟨b, 2 + q * 3 + x, none⟩ = some (.int .u8 (g.nx q x)) := by
  have := h.n q x hq hx
  rwa [Nat.zero_add] at this
theorem Gm.At.o0' {g : Gm} {w : World} {b : Nat} (h : g.At w b 0) (q x : Nat) (hq : q < 16) (hx : x < 3) : w.cell? ⟨b, 50 + q * 3 + x, none⟩ = some (.int .u8 (g.ou q x)) := by
  have := h.o q x hq hx
  rwa [Nat.zero_add] at this
set_option linter.unusedSimpArgs false
end Go.Proofs.YtighjpnjbgjgaaaDoor

/- Walks: the image of a word under a group word, and the section there, of the program and of the reference. -/
namespace Go.Proofs.YtighjpnjbgjgaaaDoor
open Go.RowKit

/-- The section behind the first k letters. -/
def Gm.gW (g : Gm) (W : List Int) (s : ByteArray) : Nat → List Int
  | 0 => W
  | k + 1 => g.sc (Gm.gW g W s k) (lt s k)
/-- The first n letters of the image, as bytes. -/
def Gm.gb (g : Gm) (W : List Int) (s : ByteArray) (n : Nat) : List Int := (List.range n).map fun k => 48 + (g.im (g.gW W s k) (lt s k) : Int)
def Gm.gim (g : Gm) (W : List Int) (s : ByteArray) : ByteArray := strOfNums (g.gb W s s.size)
theorem Gm.gb_len (g : Gm) (W : List Int) (s : ByteArray) (n : Nat) : (g.gb W s n).length = n := by simp [Gm.gb]
theorem Gm.gb_succ (g : Gm) (W : List Int) (s : ByteArray) (n : Nat) : g.gb W s (n + 1) = g.gb W s n ++ [48 + (g.im (g.gW W s n) (lt s n) : Int)] := by simp [Gm.gb, List.range_succ]
theorem Gm.gb_get (g : Gm) (W : List Int) (s : ByteArray) {n k : Nat} (hk : k < n) : (g.gb W s n)[k]? = some (48 + (g.im (g.gW W s k) (lt s k) : Int)) := by simp [Gm.gb, hk]
theorem Gm.gW_len (g : Gm) (W : List Int) (s : ByteArray) : ∀ k, (g.gW W s k).length = W.length
  | 0 => rfl
  | k + 1 => (g.sc_len _ _).trans (Gm.gW_len g W s k)
theorem Gm.gW_nums {g : Gm} (hok : g.Ok) {W : List Int} (hW : g.Nums W) {s : ByteArray} (hs : Lts g.l s) : ∀ k, k ≤ s.size → g.Nums (g.gW W s k)
  | 0, _ => hW
  | k + 1, hk => Gm.sc_nums hok (Gm.gW_nums hok hW hs k (by omega)) (hs.hi k (by omega))
theorem Gm.gim_size (g : Gm) (W : List Int) (s : ByteArray) : (g.gim W s).size = s.size := by unfold Gm.gim; rw [strOfNums_size, g.gb_len]

set_option linter.unusedSimpArgs false
end Go.Proofs.YtighjpnjbgjgaaaDoor

/- Walks: powers, words of a level, their numbers; the words of a level in order. -/
namespace Go.Proofs.YtighjpnjbgjgaaaDoor
open Go.RowKit

/-! ### Plain laws -/
theorem pow_bd {d n : Nat} (hd : d ≤ 3) (hn : n ≤ 5) : d ^ n ≤ 243 :=
  Nat.le_trans (Nat.pow_le_pow_left hd n) (Nat.pow_le_pow_right (by omega) hn : 3 ^ n ≤ 3 ^ 5)
/-- The last n letters of a number, as bytes. -/
def tl (d : Nat) : Nat → Nat → List Int
  | 0, _ => []
  | n + 1, k => (48 + (k / d ^ n % d : Nat) : Int) :: tl d n k
theorem tl_len (d : Nat) : ∀ n k, (tl d n k).length = n
  | 0, _ => rfl
  | n + 1, k => by rw [tl, List.length_cons, tl_len d n k]
theorem tl_snoc (d : Nat) : ∀ n k, tl d (n + 1) k = tl d n (k / d) ++ [(48 + (k % d : Nat) : Int)]
  | 0, k => by simp [tl]
  | n + 1, k => by
    rw [tl, tl_snoc d n k, tl, List.cons_append, Nat.div_div_eq_div_mul, Nat.pow_succ', Nat.mul_comm d]
theorem tl_byte (d : Nat) (hd : 1 ≤ d) (h3 : d ≤ 3) : ∀ n k, ∀ x ∈ tl d n k, 48 ≤ x ∧ x < 48 + d
  | 0, _, x, hx => by cases hx
  | n + 1, k, x, hx => by
    rw [tl] at hx
    rcases List.mem_cons.1 hx with rfl | hx
    · have := Nat.mod_lt (k / d ^ n) (show 0 < d by omega)
      omega
    · exact tl_byte d hd h3 n k x hx
/-- The word with a number. -/
def wd (d n k : Nat) : ByteArray := strOfNums (tl d n k)
theorem wd_size (d n k : Nat) : (wd d n k).size = n := by unfold wd; rw [strOfNums_size, tl_len]
theorem str_get (xs : List Int) {i : Nat} (h : i < xs.length) : (strOfNums xs)[i]'(by rw [strOfNums_size]; exact h) = UInt8.ofNat (xs[i]).toNat := by
  show (strOfNums xs).data[i]'_ = _
  simp [strOfNums]
theorem wd_lts {d : Nat} (hd : 1 ≤ d) (h3 : d ≤ 3) (n k : Nat) : Lts d (wd d n k) := by
  have key : ∀ i, (hi : i < (wd d n k).size) → 48 ≤ (wd d n k)[i].toNat ∧ (wd d n k)[i].toNat < 48 + d := fun i hi => by
    have hl : i < (tl d n k).length := by rw [wd_size] at hi; rw [tl_len]; exact hi
    have h := tl_byte d hd h3 n k _ (List.getElem_mem hl)
    have e : (wd d n k)[i] = UInt8.ofNat ((tl d n k)[i]).toNat := str_get _ hl
    rw [e, UInt8.toNat_ofNat']
    omega
  refine ⟨fun i hi => (key i hi).1, fun i hi => ?_⟩
  have := key i hi
  unfold lt
  rw [getElem!_pos _ i hi]
  omega
/-- The number of a word's first letters. -/
def nbr (d : Nat) (s : ByteArray) : Nat → Nat
  | 0 => 0
  | k + 1 => nbr d s k * d + lt s k
theorem nbr_lt {d : Nat} {s : ByteArray} (h : Lts d s) : ∀ k, k ≤ s.size → nbr d s k < d ^ k
  | 0, _ => by simp [nbr]
  | k + 1, hk => by
    have h1 := nbr_lt h k (by omega)
    have h2 := h.hi k (by omega)
    rw [nbr, Nat.pow_succ]
    have h3 : nbr d s k * d + d ≤ d ^ k * d := by
      have : (nbr d s k + 1) * d ≤ d ^ k * d := Nat.mul_le_mul_right d h1
      rw [Nat.add_mul, Nat.one_mul] at this
      exact this
    omega

/-! ### The word of a number -/
theorem tl_step (d n j k : Nat) (hj : j < n) : (List.replicate (n - j) (Value.int .u8 0) ++ u8s (tl d j k)).set (n - j - 1) (.int .u8 (48 + (k / d ^ j % d : Nat) : Int)) = List.replicate (n - (j + 1)) (Value.int .u8 0) ++ u8s (tl d (j + 1) k) := by
  have e : n - j = (n - (j + 1)) + 1 := by omega
  rw [e, List.replicate_succ', List.append_assoc]
  rw [show n - (j + 1) + 1 - 1 = n - (j + 1) by omega, List.set_append_right _ _ (by simp)]
  simp [tl, u8s]
theorem strOfNums_append (xs ys : List Int) : strOfNums (xs ++ ys) = strOfNums xs ++ strOfNums ys := by
  apply ByteArray.ext
  apply Array.toList_inj.1
  rw [strOfNums_data, ByteArray.data_append, Array.toList_append, strOfNums_data, strOfNums_data, List.map_append]
theorem drew_bel' (w : World) : Below w.heap.size w w.drew := (bel_drewN (Below.refl _ w) 1)
theorem RdU.one {w : World} {g : Nat} {x : Int} {t : TypeId} (h : w.heap[g]? = some (.cells #[.int .u8 x] t (0, 0))) : RdU w (.slice (some ⟨g, 0, none⟩) 1 1) [x] :=
  ⟨_, 1, rfl, by simp [u8s], fun _ => ⟨g, 0, rfl, fun j v hj => by
    match j, hj with
    | 0, hj => rw [blkc h]; simpa [u8s] using hj⟩⟩
set_option linter.unusedSimpArgs false
end Go.Proofs.YtighjpnjbgjgaaaDoor

/- Walks: powers, words of a level. -/

/- Walks: the words of a level in order, the permutation of a level. -/
namespace Go.Proofs.YtighjpnjbgjgaaaDoor
open Go.RowKit

/-- The first k words of a level. -/
def lv (d n k : Nat) : List Value := (List.range k).map fun i => .string (wd d n i)
theorem lv_len (d n k : Nat) : (lv d n k).length = k := by simp [lv]
theorem lv_succ (d n k : Nat) : lv d n (k + 1) = lv d n k ++ [.string (wd d n k)] := by simp [lv, List.range_succ]
theorem lv_get (d n : Nat) {k i : Nat} (h : i < k) : (lv d n k)[i]? = some (.string (wd d n i)) := by simp [lv, h]
theorem info_str : (Tryd.prog.info? 9).map (fun i => (i.zero, i.size, i.bytes)) = some (some (.string ⟨#[]⟩), 1, 16) := by kernel_rfl

/-! ### The permutation of a level -/
def prmK (d n : Nat) (F : ByteArray → ByteArray) (k : Nat) : List Int := (List.range k).map fun i => (nbr d (F (wd d n i)) n : Int)
theorem prmK_len (d n : Nat) (F : ByteArray → ByteArray) (k : Nat) : (prmK d n F k).length = k := by simp [prmK]
theorem prmK_succ (d n : Nat) (F : ByteArray → ByteArray) (k : Nat) : prmK d n F (k + 1) = prmK d n F k ++ [(nbr d (F (wd d n k)) n : Int)] := by simp [prmK, List.range_succ]

end Go.Proofs.YtighjpnjbgjgaaaDoor

/- Walks: levels and their permutations, beside the groups. -/

/- Walks: PermutationOf, of the program and of the reference. -/
namespace Go.Proofs.YtighjpnjbgjgaaaDoor
open Go.RowKit

theorem bytes_lts {d : Nat} (h3 : d ≤ 3) (xs : List Int) (h : ∀ x ∈ xs, 48 ≤ x ∧ x < 48 + d) : Lts d (strOfNums xs) := by
  have key : ∀ i, (hi : i < (strOfNums xs).size) → 48 ≤ (strOfNums xs)[i].toNat ∧ (strOfNums xs)[i].toNat < 48 + d := fun i hi => by
    have hl : i < xs.length := by rw [strOfNums_size] at hi; exact hi
    have h := h _ (List.getElem_mem hl)
    have e : (strOfNums xs)[i] = UInt8.ofNat (xs[i]).toNat := str_get _ hl
    rw [e, UInt8.toNat_ofNat']
    omega
  refine ⟨fun i hi => (key i hi).1, fun i hi => ?_⟩
  have := key i hi
  unfold lt
  rw [getElem!_pos _ i hi]
  omega
theorem Gm.gim_lts {g : Gm} (hok : g.Ok) {W : List Int} (hW : g.Nums W) {s : ByteArray} (hs : Lts g.l s) : Lts g.l (g.gim W s) := by
  refine bytes_lts hok.l3 _ fun x hx => ?_
  obtain ⟨k, hk, rfl⟩ := List.mem_map.1 hx
  have := Gm.im_lt hok (Gm.gW_nums hok hW hs k (Nat.le_of_lt (List.mem_range.1 hk))) (hs.hi k (List.mem_range.1 hk))
  omega
/-- The permutation of a level. -/
def Gm.prm (g : Gm) (W : List Int) (n : Nat) : List Int := prmK g.l n (g.gim W) (g.l ^ n)

/-! ### The reference -/
set_option linter.unusedSimpArgs false
/-! ### PermutationOf -/
def pmoR (m : Mc) (xs : List Int) (n : Int) : List Int × Int := if codeW m [xs] = 0 then (if 0 ≤ n ∧ n ≤ 5 then (m.gm.prm xs n.toNat, 0) else ([], 2)) else ([], 1)
theorem Gm.prm_len (g : Gm) (W : List Int) (n : Nat) : (g.prm W n).length = g.l ^ n := prmK_len _ _ _ _
theorem pmoR_len (m : Mc) (xs : List Int) (n : Int) : (pmoR m xs n).1.length ≤ 1048576 := by
  unfold pmoR
  split
  · rename_i h
    obtain ⟨g, rfl, hok, hw⟩ := codeW_zero h
    split
    · rename_i hn
      show (g.prm xs n.toNat).length ≤ _
      rw [g.prm_len]
      have := pow_bd hok.l3 (show n.toNat ≤ 5 by omega)
      omega
    · exact Nat.zero_le _
  · exact Nat.zero_le _

set_option linter.unusedSimpArgs false
end Go.Proofs.YtighjpnjbgjgaaaDoor

/- Walks: FirstDifference, of the program and of the reference. -/
namespace Go.Proofs.YtighjpnjbgjgaaaDoor
open Go.RowKit

/-! ### Plain laws -/
theorem str_ne {a b : ByteArray} (h : ¬ a = b) : (a.toList == b.toList) = false := by
  rw [beq_eq_false_iff_ne]
  intro e
  rw [ByteArray.toList_eq, ByteArray.toList_eq] at e
  exact h (ByteArray.ext (Array.toList_inj.1 e))
def Gm.fne (g : Gm) (X Y : List Int) (n k : Nat) : Bool := decide (g.gim X (wd g.l n k) ≠ g.gim Y (wd g.l n k))
def Gm.fdk (g : Gm) (X Y : List Int) (n : Nat) : Nat := first (g.fne X Y n) (g.l ^ n)
def Gm.fdn (g : Gm) (X Y : List Int) : Nat := first (fun n => decide (g.fdk X Y n < g.l ^ n)) 6
/-- The first word where two group words differ. -/
def Gm.fd (g : Gm) (X Y : List Int) : ByteArray × Int := if g.fdn X Y < 6 then (wd g.l (g.fdn X Y) (g.fdk X Y (g.fdn X Y)), 0) else (⟨#[]⟩, 4)
/-- No difference in the levels before n. -/
def Gm.Sm (g : Gm) (X Y : List Int) (n k : Nat) : Prop := ∀ i, i < k → g.gim X (wd g.l n i) = g.gim Y (wd g.l n i)
theorem Gm.Sm.step {g : Gm} {X Y : List Int} {n k : Nat} (h : g.Sm X Y n k) (he : g.gim X (wd g.l n k) = g.gim Y (wd g.l n k)) : g.Sm X Y n (k + 1) := fun i hi => by
  by_cases h' : i = k
  · subst h'; exact he
  · exact h i (by omega)
theorem Gm.Sm.zero (g : Gm) (X Y : List Int) (n : Nat) : g.Sm X Y n 0 := fun i hi => by omega
theorem Gm.sm_zero (g : Gm) (X Y : List Int) (k : Nat) : g.Sm X Y 0 k := fun i hi => by
  have e : ∀ W, g.gim W (wd g.l 0 i) = ⟨#[]⟩ := fun W => by
    have h := g.gim_size W (wd g.l 0 i)
    rw [wd_size] at h
    have h2 : (g.gim W (wd g.l 0 i)).data.size = 0 := h
    exact ByteArray.ext (Array.eq_empty_of_size_eq_zero h2)
  rw [e, e]
def Gm.Sml (g : Gm) (X Y : List Int) (n : Nat) : Prop := ∀ r, r < n → g.Sm X Y r (g.l ^ r)
theorem Gm.Sml.step {g : Gm} {X Y : List Int} {n : Nat} (h : g.Sml X Y n) (he : g.Sm X Y n (g.l ^ n)) : g.Sml X Y (n + 1) := fun i hi => by
  by_cases h' : i = n
  · subst h'; exact he
  · exact h i (by omega)
theorem Gm.Sml.zero (g : Gm) (X Y : List Int) : g.Sml X Y 0 := fun i hi => by omega
theorem Gm.Sml.one (g : Gm) (X Y : List Int) : g.Sml X Y 1 := (Gm.Sml.zero g X Y).step (g.sm_zero X Y _)
theorem Gm.Sm.fdk {g : Gm} {X Y : List Int} {n : Nat} (h : g.Sm X Y n (g.l ^ n)) : ¬ g.fdk X Y n < g.l ^ n := fun hlt => by
  have h1 := (first_spec (g.fne X Y n) (g.l ^ n)).2.1 hlt
  have h2 := h (g.fdk X Y n) hlt
  unfold Gm.fne at h1
  exact of_decide_eq_true h1 h2
theorem Gm.fd_at {g : Gm} {X Y : List Int} {n k : Nat} (hn : n < 6) (hk : k < g.l ^ n) (hl : g.Sml X Y n) (hs : g.Sm X Y n k) (hne : ¬ g.gim X (wd g.l n k) = g.gim Y (wd g.l n k)) : g.fd X Y = (wd g.l n k, 0) := by
  have ek : g.fdk X Y n = k := first_eq (Nat.le_of_lt hk) (fun _ => decide_eq_true hne) (fun r hr => decide_eq_false (fun h => h (hs r hr)))
  have en : g.fdn X Y = n := first_eq (Nat.le_of_lt hn) (fun _ => decide_eq_true (by rw [ek]; exact hk)) (fun r hr => decide_eq_false (hl r hr).fdk)
  unfold Gm.fd
  rw [en, if_pos hn, ek]
theorem Gm.fd_no {g : Gm} {X Y : List Int} (hl : g.Sml X Y 6) : g.fd X Y = (⟨#[]⟩, 4) := by
  have en : g.fdn X Y = 6 := first_eq (Nat.le_refl _) (fun h => absurd h (by omega)) (fun r hr => decide_eq_false (hl r hr).fdk)
  unfold Gm.fd
  rw [en, if_neg (by omega)]
def fdR (m : Mc) (xs ys : List Int) : ByteArray × Int := if codeW m [xs, ys] = 0 then m.gm.fd xs ys else (⟨#[]⟩, 1)

theorem codeW_ne {m : Mc} {xss : List (List Int)} (h : ¬ codeW m xss = 0) : codeW m xss = 1 := codeW_one h

set_option linter.unusedSimpArgs false
end Go.Proofs.YtighjpnjbgjgaaaDoor

/- A slice of slices with its rows in sight; a slice of numbers beside it. -/
namespace Go.Proofs.YtighjpnjbgjgaaaDoor
open Go.RowKit
/-- A slice lies apart from all rows. -/
def Off (u : Value) (rows : List Value) : Prop := ∀ (j : Nat) (r : Value), rows[j]? = some r → Apart r u
end Go.Proofs.YtighjpnjbgjgaaaDoor

/- The laws' helpers for slices of slices of numbers: compared, marked, the marks looked for. -/
namespace Go.Proofs.YtighjpnjbgjgaaaDoor
open Go.RowKit

def szs (xss : List (List Int)) : Nat := (xss.map List.length).sum
theorem szs_nil : szs [] = 0 := rfl
theorem szs_take {xss : List (List Int)} {k : Nat} (h : k < xss.length) : szs (xss.take (k + 1)) = szs (xss.take k) + xss[k].length := by
  unfold szs
  rw [List.take_succ_eq_append_getElem h, List.map_append, List.sum_append]
  simp only [List.map_cons, List.map_nil, List.sum_cons, List.sum_nil, Nat.add_zero]
theorem szs_le (xss : List (List Int)) (k : Nat) : szs (xss.take k) ≤ szs xss := by
  have h : szs xss = szs (xss.take k) + szs (xss.drop k) := by
    have : xss = xss.take k ++ xss.drop k := (List.take_append_drop k xss).symm
    conv => lhs; rw [this]
    unfold szs
    rw [List.map_append, List.sum_append]
  omega
/-- The marks from s on, list by list. -/
def mkk (s : Int) (xss : List (List Int)) (k : Nat) : List (List Int) := (List.range xss.length).map fun j => if j < k then marks (s + szs (xss.take j)) (xss.getD j []).length else xss.getD j []
def mks (s : Int) (xss : List (List Int)) : List (List Int) := mkk s xss xss.length
theorem mkk_len (s : Int) (xss : List (List Int)) (k : Nat) : (mkk s xss k).length = xss.length := by simp [mkk]
theorem mkk_zero (s : Int) (xss : List (List Int)) : mkk s xss 0 = xss := by
  apply List.ext_getElem
  · rw [mkk_len]
  · intro i h1 h2
    simp [mkk, h2]
theorem mkk_get (s : Int) (xss : List (List Int)) {k : Nat} (h : k < xss.length) : (mkk s xss k)[k]? = some xss[k] := by simp [mkk, h]
theorem mkk_set (s : Int) (xss : List (List Int)) {k : Nat} (h : k < xss.length) : (mkk s xss k).set k (marks (s + szs (xss.take k)) xss[k].length) = mkk s xss (k + 1) := by
  apply List.ext_getElem
  · rw [List.length_set, mkk_len, mkk_len]
  · intro i h1 h2
    rw [mkk_len] at h2
    rw [List.getElem_set]
    by_cases e : k = i
    · subst e
      rw [if_pos rfl]
      simp [mkk, h]
    · rw [if_neg e]
      simp only [mkk, List.getElem_map, List.getElem_range]
      by_cases h3 : i < k
      · rw [if_pos h3, if_pos (by omega)]
      · rw [if_neg h3, if_neg (by omega)]
theorem mks_get (s : Int) (xss : List (List Int)) {k : Nat} (h : k < xss.length) : (mks s xss)[k]? = some (marks (s + szs (xss.take k)) xss[k].length) := by simp [mks, mkk, h]
/-- What lies apart from all rows is kept. -/
def KeptOff (w w2 : World) (rows : List Value) : Prop := ∀ (B : Nat) (e : TypeId) (u : Value) (us : List Value), Own w B e u us → (∀ (j : Nat) (r : Value), rows[j]? = some r → Apart u r) → Own w2 B e u us
set_option linter.unusedSimpArgs false
end Go.Proofs.YtighjpnjbgjgaaaDoor

/- Walks: WreathOf, of the program and of the reference. -/
namespace Go.Proofs.YtighjpnjbgjgaaaDoor
open Go.RowKit
theorem results_tmp3 {fn : Func} {t u x : Tmp} (h : fn.results = #[.tmp t, .tmp u, .tmp x]) (tmps : Array Value) (P : Program) (w : World) :
    (results fn tmps).run P w = .ok (.tuple #[tmps.getD t undef, tmps.getD u undef, tmps.getD x undef]) w := by
  simp [results, h]

/-- The images of the first letters, and the sections there. -/
def Gm.ims (g : Gm) (W : List Int) (n : Nat) : List Int := upto (fun x => (g.im W x : Int)) n
def Gm.scs (g : Gm) (W : List Int) (n : Nat) : List (List Int) := (List.range n).map (g.sc W)
theorem Gm.ims_succ (g : Gm) (W : List Int) (n : Nat) : ints (g.ims W (n + 1)) = ints (g.ims W n) ++ [.int .i64 (g.im W n : Nat)] := by unfold Gm.ims; rw [upto_succ, ints_append]; rfl
theorem Gm.scs_succ (g : Gm) (W : List Int) (n : Nat) : g.scs W (n + 1) = g.scs W n ++ [g.sc W n] := by simp [Gm.scs, List.range_succ]
theorem Gm.scs_len (g : Gm) (W : List Int) (n : Nat) : (g.scs W n).length = n := by simp [Gm.scs]
def wreR (m : Mc) (xs : List Int) : List Int × List (List Int) × Int := if codeW m [xs] = 0 then (m.gm.ims xs m.gm.l, m.gm.scs xs m.gm.l, 0) else ([], [], 1)

set_option linter.unusedSimpArgs false
theorem wreR_len (m : Mc) (xs : List Int) : (wreR m xs).1.length ≤ 1048576 := by
  unfold wreR
  split
  · rename_i h
    obtain ⟨g, rfl, hok, hw⟩ := codeW_zero h
    show (g.ims xs g.l).length ≤ _
    unfold Gm.ims
    rw [upto_len]
    have := hok.l3
    omega
  · exact Nat.zero_le _
theorem szs_const {xss : List (List Int)} {c : Nat} (h : ∀ xs ∈ xss, xs.length ≤ c) : szs xss ≤ xss.length * c := by
  induction xss with
  | nil => simp [szs]
  | cons x r ih =>
    have h1 := h x (by simp)
    have h2 := ih (fun xs hx => h xs (by simp [hx]))
    simp only [szs, List.map_cons, List.sum_cons, List.length_cons] at h2 ⊢
    rw [Nat.succ_mul]
    omega
theorem wreR_szs (m : Mc) (xs : List Int) : szs (wreR m xs).2.1 ≤ 1048576 := by
  unfold wreR
  split
  · rename_i h
    obtain ⟨g, rfl, hok, hw⟩ := codeW_zero h
    have h40 := (gwB_mem (hw xs (List.mem_singleton.2 rfl))).1
    show szs (g.scs xs g.l) ≤ _
    have h1 := szs_const (xss := g.scs xs g.l) (c := 40) (fun ys hy => by
      obtain ⟨k, _, rfl⟩ := List.mem_map.1 hy
      rw [g.sc_len]
      exact h40)
    rw [g.scs_len] at h1
    have := hok.l3
    omega
  · exact Nat.zero_le _
end Go.Proofs.YtighjpnjbgjgaaaDoor

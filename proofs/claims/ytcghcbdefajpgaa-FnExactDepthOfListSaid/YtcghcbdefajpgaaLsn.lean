/- Walks: SectionLengths, of the program and of the reference. -/
import Derived.Test.YtcghcbdefajpgaaLsf
namespace Go.Proofs.Ytcghcbdefajpgaa
open Go.RowKit
set_option linter.unusedSimpArgs false

/-- The greatest length of the first k words. -/
def mxl (W : List (List Int)) : Nat → Nat
  | 0 => 0
  | k + 1 => max (mxl W k) (W.getD k []).length
def Gm.lgs (g : Gm) (u : List Int) (k : Nat) : List Int := upto (fun j => (mxl (g.lsc u j) (g.lsc u j).length : Int)) k
theorem Gm.lgs_succ (g : Gm) (u : List Int) (k : Nat) : ints (g.lgs u (k + 1)) = ints (g.lgs u k) ++ [.int .i64 (mxl (g.lsc u k) (g.lsc u k).length : Nat)] := by unfold Gm.lgs; rw [upto_succ, ints_append]; rfl
theorem Gm.lgs_len (g : Gm) (u : List Int) (k : Nat) : (g.lgs u k).length = k := by unfold Gm.lgs; rw [upto_len]
theorem mxl_le {W : List (List Int)} {L : Nat} (h : ∀ s ∈ W, s.length ≤ L) : ∀ k, k ≤ W.length → mxl W k ≤ L
  | 0, _ => Nat.zero_le _
  | k + 1, hk => by
    have h1 := mxl_le h k (by omega)
    have h2 : (W.getD k []).length ≤ L := by
      rw [List.getD_eq_getElem?_getD, List.getElem?_eq_getElem (by omega)]
      exact h _ (List.getElem_mem _)
    show max _ _ ≤ L
    omega
def slnR (m : Mc) (xs : List Int) (n : Int) : List Int × Int := if codeW m [xs] = 0 then (if 0 ≤ n ∧ n ≤ 5 then (m.gm.lgs xs (n.toNat + 1), 0) else ([], 2)) else ([], 1)
theorem slnR_len (m : Mc) (xs : List Int) (n : Int) : (slnR m xs n).1.length ≤ 1048576 := by
  unfold slnR
  split
  · split
    · rename_i hn
      show (Gm.lgs _ _ _).length ≤ _
      rw [Gm.lgs_len]; omega
    · exact Nat.zero_le _
  · exact Nat.zero_le _

end Go.Proofs.Ytcghcbdefajpgaa

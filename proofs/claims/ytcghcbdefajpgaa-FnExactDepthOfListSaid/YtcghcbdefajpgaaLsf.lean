/- Walks: SectionsOfLevel, of the program and of the reference. -/
import Derived.Test.YtcghcbdefajpgaaLss
import Derived.Test.YtcghcbdefajpgaaBE
namespace Go.Proofs.Ytcghcbdefajpgaa
open Go.RowKit
set_option linter.unusedSimpArgs false

def lcC (m : Mc) (xs : List Int) (n : Int) : Int := if codeW m [xs] = 0 then (if 0 ≤ n ∧ n ≤ 5 then 0 else 2) else 1
def solR (m : Mc) (xs : List Int) (n : Int) : List (List Int) × Int := if codeW m [xs] = 0 then (if 0 ≤ n ∧ n ≤ 5 then (m.gm.lsc xs n.toNat, 0) else ([], 2)) else ([], 1)
theorem Gm.lsc_len {g : Gm} (hok : g.Ok) (u : List Int) {n : Nat} (hn : n ≤ 5) : (g.lsc u n).length ≤ 243 := Nat.le_trans (g.lvS_len u n _) (pow_bd hok.l3 hn)
theorem solR_szs (m : Mc) (xs : List Int) (n : Int) : szs (solR m xs n).1 ≤ 1048576 := by
  unfold solR
  split
  · rename_i h
    obtain ⟨g, rfl, hok, hw⟩ := codeW_zero h
    have hgw := hw xs (List.mem_singleton.2 rfl)
    have h40 := (gwB_mem hgw).1
    split
    · rename_i hn
      show szs (g.lsc xs n.toNat) ≤ _
      have h1 := szs_const (xss := g.lsc xs n.toNat) (c := 40) (fun ys hy => Nat.le_trans (Gm.lvS_wd hok (Gm.Nums.of hgw) _ _ ys hy).2 h40)
      have := Gm.lsc_len hok xs (show n.toNat ≤ 5 by omega)
      have := Nat.mul_le_mul_right 40 this
      omega
    · exact Nat.zero_le _
  · exact Nat.zero_le _

end Go.Proofs.Ytcghcbdefajpgaa

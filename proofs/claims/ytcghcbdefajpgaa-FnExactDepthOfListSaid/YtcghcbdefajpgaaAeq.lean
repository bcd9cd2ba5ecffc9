/- Walks: AreEqualWords, of the program and of the reference. -/
import Derived.Test.YtcghcbdefajpgaaBI
import Derived.Test.YtcghcbdefajpgaaBB
namespace Go.Proofs.Ytcghcbdefajpgaa
open Go.RowKit

theorem Gm.Nums.inv {g : Gm} {xs : List Int} (h : g.Nums xs) : g.Nums (invW xs) := fun k hk => by
  unfold invW at hk
  obtain ⟨x, hx, rfl⟩ := List.mem_map.1 hk
  have := h x (List.mem_reverse.1 hx)
  unfold Gm.Num at this ⊢
  omega
theorem Gm.Nums.app {g : Gm} {xs ys : List Int} (h : g.Nums xs) (h' : g.Nums ys) : g.Nums (xs ++ ys) := fun k hk => by
  rcases List.mem_append.1 hk with h1 | h1
  · exact h k h1
  · exact h' k h1
theorem Gm.Nums.big {g : Gm} (hok : g.Ok) {xs : List Int} (h : g.Nums xs) : ∀ x ∈ xs, -1000 ≤ x ∧ x ≤ 1000 := fun x hx => by
  have := Gm.Nums.small hok h x hx
  omega

def aeqR (m : Mc) (xs ys : List Int) : Bool × Int := if codeW m [xs, ys] = 0 then m.gm.tri (xs ++ invW ys) else (false, 1)
set_option linter.unusedSimpArgs false
end Go.Proofs.Ytcghcbdefajpgaa

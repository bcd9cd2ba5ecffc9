/- Walks: the lasting sections of a word, of the program and of the reference. -/
import Derived.Test.YtcghcbdefajpgaaLgr
import Derived.Test.YtcghcbdefajpgaaRcw
namespace Go.Proofs.Ytcghcbdefajpgaa
open Go.RowKit
set_option linter.unusedSimpArgs false

set_option maxHeartbeats 400000 in
theorem all_any (v : Value) (w : World) : Calls Try.prog 67 #[v] w fun e w' => e = .returned (.bool true) ∧ Below w.heap.size w w' := by
  go_enter Try.func67, Try.ntmps67
  go_wp2_with fail
  go_ret
  exact ⟨rfl, Below.refl _ _⟩

end Go.Proofs.Ytcghcbdefajpgaa

/- Walks: the graph of all sections of a word, of the reference. -/
import Derived.Test.YtcghcbdefajpgaaLas
import Derived.Test.YtcghcbdefajpgaaBI
namespace Go.Proofs.Ytcghcbdefajpgaa
open Go.RowKit
set_option linter.unusedSimpArgs false
end Go.Proofs.Ytcghcbdefajpgaa

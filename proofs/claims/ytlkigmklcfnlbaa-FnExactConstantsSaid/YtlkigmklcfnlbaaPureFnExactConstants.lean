/- The law FnExactConstants answers true: every exported constant has the value that it names. No condition. -/
import Derived.Test.YtlkigmklcfnlbaaPFnExactConstantsx1
namespace Go.Proofs.Ytlkigmklcfnlbaa.Pure
open Go.RowKit Go.Proofs.Ytlkigmklcfnlbaa.PFnExactConstants Go.Proofs.YtlkigmklcfnlbaaW.PrintWords Go.Proofs.YtlkigmklcfnlbaaW.PrintLast

theorem FnExactConstants : laws_FnExactConstants.Pure := by
  rfl

end Go.Proofs.Ytlkigmklcfnlbaa.Pure

/-
  DERIVED. The contracts of the laws FnExactSymmetricOf, FnExactIsImage.
-/
import Derived.Test.YtcpbaagnjofjfaaImg
namespace Go.Proofs.Ytcpbaagnjofjfaa
open Go.RowKit
set_option linter.unusedVariables false
end Go.Proofs.Ytcpbaagnjofjfaa

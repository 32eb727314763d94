/-
  DERIVED. The contracts of the laws FnExactSymmetricOf, FnExactIsImage.
-/
import Derived.Test.YtmcbhpaajjlmmaaImg
namespace Go.Proofs.Ytmcbhpaajjlmmaa
open Go.RowKit
set_option linter.unusedVariables false
end Go.Proofs.Ytmcbhpaajjlmmaa

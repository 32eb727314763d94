/-
  DERIVED. The contracts of the laws FnExactSymmetricOf, FnExactIsImage.
-/
import Derived.Test.YtpecjobpihinoaaImg
namespace Go.Proofs.Ytpecjobpihinoaa
open Go.RowKit
set_option linter.unusedVariables false
end Go.Proofs.Ytpecjobpihinoaa

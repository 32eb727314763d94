/-
  DERIVED. The contracts of the laws FnExactSymmetricOf, FnExactIsImage.
-/
import Derived.Test.YtfiilpamekpmpaaImg
namespace Go.Proofs.Ytfiilpamekpmpaa
open Go.RowKit
set_option linter.unusedVariables false
theorem laws_toRatio (a b : Int) (w : World) : Calls Try.prog 83 #[.agg #[.int .i64 a, .int .i64 b]] w (BV (.agg #[.int .i64 a, .int .i64 b]) w) := by
  go_enter Try.func83, Try.ntmps83
  go_wp2_with fail
  go_returns
  exact BV.mk rfl (by (repeat (first | (with_reducible exact Below.refl _ _) | (with_reducible assumption) | (with_reducible refine below_drewN ?_ _) | (with_reducible refine Below.drew ?_) | (with_reducible refine Below.alloc ?_ ?_ _) | (with_reducible refine Below.setCell ?_ ?_ _) | (with_reducible refine below_into ?_ (by assumption) (by first | omega | (simp; done) | (simp; omega))) | go_size)))

end Go.Proofs.Ytfiilpamekpmpaa

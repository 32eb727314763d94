/-
  DERIVED. The contracts of the laws FnExactIsPrime, FnExactSymmetricOf.
-/
import Derived.Test.YtdnooamnjkibgaaNum
namespace Go.Proofs.Ytdnooamnjkibgaa
open Go.RowKit
set_option linter.unusedVariables false
theorem law_FnExactIsPrime (a : Int) (ha : -9223372036854775808 ≤ a ∧ a ≤ 9223372036854775807) (w : World) :
    Calls Try.prog 3 #[.int .i64 a] w fun e w' => e = .returned (.bool true) ∧ Below w.heap.size w w' := by
  go_enter Try.func3, Try.ntmps3
  go_wp2_with (first
    | (go_at_call 16; refine (impl_IsPrime _ _).mono ?_; rintro e w' ⟨rfl, rfl⟩)
    | (go_at_call 15; refine (spec_IsPrime _ _).mono ?_; rintro e w' ⟨rfl, rfl⟩))
  go_ret
  exact ⟨rfl, Below.refl _ _⟩
end Go.Proofs.Ytdnooamnjkibgaa

/-
  DERIVED. leastIn and others of a work.
-/
import Derived.Test.YtcpbaagnjofjfaaWork2q
namespace Go.Proofs.Ytcpbaagnjofjfaa
open Go.RowKit
set_option linter.unusedVariables false
set_option linter.unusedSimpArgs false
theorem lst_succ {f : Fn2} {j t i : Nat} (h : t ≤ i) : lstK f j t (i + 1 - t) = if f i j ≠ 0 ∧ (lstK f j t (i - t) < 0 ∨ (f i j).natAbs < (f (lstK f j t (i - t)).toNat j).natAbs) then (i : Int) else lstK f j t (i - t) := by
  rw [show i + 1 - t = (i - t) + 1 by omega, lstK_succ, show t + (i - t) = i by omega]
end Go.Proofs.Ytcpbaagnjofjfaa

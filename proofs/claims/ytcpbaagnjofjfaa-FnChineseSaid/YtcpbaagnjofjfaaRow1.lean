/-
  DERIVED. The contracts of firstCell, isZeroRow, row.
-/
import Derived.Test.YtcpbaagnjofjfaaMx2
namespace Go.Proofs.Ytcpbaagnjofjfaa
open Go.RowKit
set_option linter.unusedVariables false
/-- The first place that is not 0; the length if there is none. -/
def fcN : List Int → Nat
  | [] => 0
  | x :: l => if x = 0 then fcN l + 1 else 0
def fcI (xs : List Int) : Int := if fcN xs < xs.length then (fcN xs : Int) else -1
theorem fcN_le : ∀ xs : List Int, fcN xs ≤ xs.length
  | [] => Nat.le_refl _
  | x :: l => by unfold fcN; have := fcN_le l; split <;> simp <;> omega
theorem fcN_zero : ∀ (xs : List Int) (j : Nat), j < fcN xs → xs.getD j 0 = 0
  | [], j, h => by simp [fcN] at h
  | x :: l, j, h => by
    unfold fcN at h
    split at h
    · rename_i h0
      match j, h with
      | 0, _ => simp [h0]
      | j + 1, h => simpa using fcN_zero l j (by omega)
    · omega
theorem fcN_ne : ∀ (xs : List Int), fcN xs < xs.length → xs.getD (fcN xs) 0 ≠ 0
  | [], h => by simp [fcN] at h
  | x :: l, h => by
    unfold fcN at h ⊢
    split
    · rename_i h0
      rw [if_pos h0] at h
      simpa using fcN_ne l (by simpa using h)
    · rename_i h0
      simpa using h0
theorem fcN_eq {xs : List Int} {k : Nat} (hk : k ≤ xs.length) (h0 : ∀ j, j < k → xs.getD j 0 = 0) (h1 : k < xs.length → xs.getD k 0 ≠ 0) : fcN xs = k := by
  rcases Nat.lt_trichotomy (fcN xs) k with h | h | h
  · exact absurd (h0 _ h) (fcN_ne xs (by omega))
  · exact h
  · have := fcN_le xs
    exact absurd (fcN_zero xs k h) (h1 (by omega))
/-- The first k are zeros. -/
def Zs (xs : List Int) (k : Nat) : Prop := ∀ j, j < k → xs.getD j 0 = 0
theorem Zs.succ {xs : List Int} {k : Nat} (h : Zs xs k) (h0 : xs.getD k 0 = 0) : Zs xs (k + 1) := fun j hj => by
  rcases Nat.lt_or_ge j k with h1 | h1
  · exact h j h1
  · obtain rfl : j = k := by omega
    exact h0

end Go.Proofs.Ytcpbaagnjofjfaa

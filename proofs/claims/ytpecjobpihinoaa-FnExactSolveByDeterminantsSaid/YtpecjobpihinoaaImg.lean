/-
  DERIVED. The contracts of IsImage, both.
-/
import Derived.Test.YtpecjobpihinoaaRat
namespace Go.Proofs.Ytpecjobpihinoaa
open Go.RowKit
set_option linter.unusedVariables false
def imgOk (n d a m : Int) : Bool := ratOk n d && isNum a && decide (1 ≤ m) && decide (m ≤ 400000000) && decide (Int.gcd d m = 1) && decide ((a * d - n) % m = 0)
theorem imgOk_iff (n d a m : Int) : imgOk n d a m = true ↔ ratOk n d = true ∧ (-400000000 ≤ a ∧ a ≤ 400000000) ∧ (1 ≤ m ∧ m ≤ 400000000) ∧ Int.gcd d m = 1 ∧ (a * d - n) % m = 0 := by
  simp [imgOk, isNum, and_assoc]
theorem imgOk_not (n d a m : Int) (h : ¬ (ratOk n d = true ∧ (-400000000 ≤ a ∧ a ≤ 400000000) ∧ (1 ≤ m ∧ m ≤ 400000000) ∧ Int.gcd d m = 1 ∧ (a * d - n) % m = 0)) : imgOk n d a m = false := by
  rw [← Bool.not_eq_true, imgOk_iff]; exact h
/-- The bounds that a ratio brings. -/
theorem ratOk_bds {n d : Int} (h : ratOk n d = true) : 1 ≤ d ∧ d ≤ 400000000 ∧ -400000000 ≤ n ∧ n ≤ 400000000 := by
  have := (ratOk_iff n d).1 h; omega
theorem beq1 {x : Nat} : ((x : Int) == 1) = decide (x = 1) := by
  rw [Bool.eq_iff_iff]; simp; omega
theorem img_cases (n d a m : Int) : (imgOk n d a m = false ∧ ratOk n d = false) ∨ (imgOk n d a m = false ∧ ratOk n d = true ∧ (a < -400000000 ∨ 400000000 < a)) ∨
    (imgOk n d a m = false ∧ ratOk n d = true ∧ (-400000000 ≤ a ∧ a ≤ 400000000) ∧ m < 1) ∨ (imgOk n d a m = false ∧ ratOk n d = true ∧ (-400000000 ≤ a ∧ a ≤ 400000000) ∧ 1 ≤ m ∧ 400000000 < m) ∨
    (imgOk n d a m = false ∧ ratOk n d = true ∧ (-400000000 ≤ a ∧ a ≤ 400000000) ∧ (1 ≤ m ∧ m ≤ 400000000) ∧ (((Int.gcd d m : Nat) : Int) == 1) = false) ∨
    (imgOk n d a m = false ∧ ratOk n d = true ∧ (-400000000 ≤ a ∧ a ≤ 400000000) ∧ (1 ≤ m ∧ m ≤ 400000000) ∧ (((Int.gcd d m : Nat) : Int) == 1) = true ∧ ((a * d - n) % m == 0) = false ∧ ((a * d - n).tmod m == 0) = false) ∨
    (imgOk n d a m = true ∧ ratOk n d = true ∧ (-400000000 ≤ a ∧ a ≤ 400000000) ∧ (1 ≤ m ∧ m ≤ 400000000) ∧ (((Int.gcd d m : Nat) : Int) == 1) = true ∧ ((a * d - n) % m == 0) = true ∧ ((a * d - n).tmod m == 0) = true) := by
  have ht := tmod_zero_iff (a * d - n) m
  have hi := imgOk_iff n d a m
  have hn := imgOk_not n d a m
  rw [beq1]
  simp only [beq_iff_eq, beq_eq_false_iff_ne, decide_eq_true_eq, decide_eq_false_iff_not, ne_eq]
  generalize (a * d - n) % m = u at *
  generalize (a * d - n).tmod m = t at *
  generalize Int.gcd d m = g at *
  rcases hr : ratOk n d with _ | _
  · exact .inl ⟨hn (by simp [hr]), rfl⟩
  · simp only [hr, true_and] at hi hn
    by_cases h1 : -400000000 ≤ a ∧ a ≤ 400000000
    · by_cases h2 : m < 1
      · exact .inr (.inr (.inl ⟨hn (by omega), rfl, h1, h2⟩))
      · by_cases h3 : 400000000 < m
        · exact .inr (.inr (.inr (.inl ⟨hn (by omega), rfl, h1, by omega, h3⟩)))
        · by_cases h4 : g = 1
          · by_cases h5 : u = 0
            · exact .inr (.inr (.inr (.inr (.inr (.inr ⟨hi.2 (by omega), rfl, h1, by omega, h4, h5, by omega⟩)))))
            · exact .inr (.inr (.inr (.inr (.inr (.inl ⟨hn (by omega), rfl, h1, by omega, h4, h5, by omega⟩)))))
          · exact .inr (.inr (.inr (.inr (.inl ⟨hn (by omega), rfl, h1, by omega, h4⟩))))
    · exact .inr (.inl ⟨hn (by omega), rfl, by omega⟩)

end Go.Proofs.Ytpecjobpihinoaa

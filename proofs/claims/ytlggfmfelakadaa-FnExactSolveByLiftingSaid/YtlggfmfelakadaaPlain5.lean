/-
  DERIVED. Matrices as lists of cells: no program in sight.
-/
import Derived.Test.YtlggfmfelakadaaPlain2
namespace Go.Proofs.Ytlggfmfelakadaa
set_option linter.unusedVariables false
/-- A valid matrix. -/
def isMat (r c : Int) (xs : List Int) : Bool := decide (0 ≤ r) && decide (r ≤ 24) && decide (0 ≤ c) && decide (c ≤ 24) && decide ((xs.length : Int) = r * c) && xs.all isNum
structure IsM (r c : Int) (xs : List Int) : Prop where
  r0 : 0 ≤ r
  r1 : r ≤ 24
  c0 : 0 ≤ c
  c1 : c ≤ 24
  len : (xs.length : Int) = r * c
  num : xs.all isNum = true
theorem isMat_iff {r c : Int} {xs : List Int} : isMat r c xs = true ↔ IsM r c xs := by
  simp only [isMat, Bool.and_eq_true, decide_eq_true_eq]
  constructor
  · rintro ⟨⟨⟨⟨⟨h1, h2⟩, h3⟩, h4⟩, h5⟩, h6⟩
    exact ⟨h1, h2, h3, h4, h5, h6⟩
  · rintro ⟨h1, h2, h3, h4, h5, h6⟩
    exact ⟨⟨⟨⟨⟨h1, h2⟩, h3⟩, h4⟩, h5⟩, h6⟩
theorem isMat_not {r c : Int} {xs : List Int} (h : ¬ IsM r c xs) : isMat r c xs = false := by
  rw [← Bool.not_eq_true, isMat_iff]; exact h
/-- Cell (i, j) of rows of c cells. -/
def cel (xs : List Int) (c i j : Int) : Int := xs.getD (i * c + j).toNat 0
theorem IsM.nums {r c : Int} {xs : List Int} (h : IsM r c xs) (k : Nat) : -400000000 ≤ xs.getD k 0 ∧ xs.getD k 0 ≤ 400000000 := by
  by_cases hk : k < xs.length
  · have h1 : xs.getD k 0 = xs[k] := by simp [List.getD, hk]
    rw [h1]
    have h2 := List.all_eq_true.1 h.num xs[k] (List.getElem_mem hk)
    exact (isNum_iff _).1 h2
  · have h1 : xs.getD k 0 = 0 := by simp [List.getD, List.getElem?_eq_none (show xs.length ≤ k by omega)]
    rw [h1]; omega
theorem IsM.cel_bd {r c : Int} {xs : List Int} (h : IsM r c xs) (i j : Int) : -400000000 ≤ cel xs c i j ∧ cel xs c i j ≤ 400000000 := h.nums _
/-- An index within the matrix. -/
theorem idx_bd {r c i j : Int} (hr : r ≤ 24) (hc : c ≤ 24) (hi0 : 0 ≤ i) (hi : i < r) (hj0 : 0 ≤ j) (hj : j < c) : 0 ≤ i * c ∧ i * c ≤ 576 ∧ i * c + j < r * c ∧ i * c + c ≤ r * c := by
  obtain ⟨h1, h2⟩ := mul_bd i c 24 24 hi0 (by omega) (by omega) hc
  have h3 : (i + 1) * c ≤ r * c := Int.mul_le_mul_of_nonneg_right (by omega) (by omega)
  rw [Int.add_mul, Int.one_mul] at h3
  exact ⟨h1, by omega, by omega, h3⟩
theorem mul24 {r c : Int} (h0 : 0 ≤ r) (h1 : r ≤ 24) (h2 : 0 ≤ c) (h3 : c ≤ 24) : 0 ≤ r * c ∧ r * c ≤ 576 := by
  obtain ⟨a, b⟩ := mul_bd r c 24 24 h0 h1 h2 h3
  exact ⟨a, by omega⟩
theorem range_all_succ (p : Nat → Bool) (k : Nat) : (List.range (k + 1)).all p = ((List.range k).all p && p k) := by
  rw [List.range_succ, List.all_append]; simp
theorem range_all_false {p : Nat → Bool} {k j : Nat} (hj : j < k) (hp : p j = false) : (List.range k).all p = false := by
  rw [List.all_eq_false]
  exact ⟨j, by simpa using hj, by simp [hp]⟩
theorem nat_of {r : Int} (h : 0 ≤ r) : ∃ R : Nat, r = R := ⟨r.toNat, by omega⟩
end Go.Proofs.Ytlggfmfelakadaa

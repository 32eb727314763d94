/-
  DERIVED. Sums of products of ratios. No program in sight.
-/
import Derived.Test.YtfiilpamekpmpaaPlainA
import Derived.Test.YtfiilpamekpmpaaPlain5
namespace Go.Proofs.Ytfiilpamekpmpaa
set_option linter.unusedVariables false
/-- Ratio k of the flat list. -/
def fl (qs : List Int) (k : Nat) : Int × Int := (qs.getD (k * 2) 0, qs.getD (k * 2 + 1) 0)
def rsum (f g : Nat → Int × Int) : Nat → Int × Int
  | 0 => (0, 1)
  | k + 1 => addR (rsum f g k) (mulR (f k) (g k))
theorem rsum_ok (f g : Nat → Int × Int) : ∀ k, (ratOk (rsum f g k).1 (rsum f g k).2 = true) ∨ rsum f g k = (0, 0)
  | 0 => .inl (by show ratOk 0 1 = true; decide +kernel)
  | k + 1 => addR_ok _ _
def ratRow (xs : List Int) (C : Nat) (qs : List Int) (i : Nat) : Int × Int := rsum (fun k => (cel xs C i k, 1)) (fl qs) C
def ratRows (xs : List Int) (R C : Nat) (bs qs : List Int) : Bool := (List.range R).all fun i => decide (ratRow xs C qs i = (bs.getD i 0, 1))
def irB (r c : Int) (xs bs qs : List Int) : Bool := isMat r c xs && decide ((bs.length : Int) = r) && decide ((qs.length : Int) = c * 2) && ratRows xs r.toNat c.toNat bs qs
theorem ir_cases (r c : Int) (xs bs qs : List Int) : (isMat r c xs = false ∧ irB r c xs bs qs = false) ∨ (isMat r c xs = true ∧ ((bs.length : Int) != r) = true ∧ irB r c xs bs qs = false) ∨
    (isMat r c xs = true ∧ ((bs.length : Int) != r) = false ∧ ¬ (qs.length : Int) = c * 2 ∧ irB r c xs bs qs = false) ∨ (isMat r c xs = true ∧ ((bs.length : Int) != r) = false ∧ (qs.length : Int) = c * 2 ∧ irB r c xs bs qs = ratRows xs r.toNat c.toNat bs qs) := by
  unfold irB
  rcases isMat r c xs with _ | _
  · left; simp
  · right
    by_cases h : (bs.length : Int) = r
    · right
      by_cases h2 : (qs.length : Int) = c * 2
      · right; exact ⟨rfl, by simp [h], h2, by simp [h, h2]⟩
      · left; exact ⟨rfl, by simp [h], h2, by simp [h2]⟩
    · left; simp [h]
theorem ratRows_no {xs : List Int} {R C : Nat} {bs qs : List Int} {i : Nat} (hi : i < R) (h : ¬ ratRow xs C qs i = (bs.getD i 0, 1)) : ratRows xs R C bs qs = false := by
  unfold ratRows
  rw [List.all_eq_false]
  exact ⟨i, List.mem_range.2 hi, by rw [decide_eq_false h]; simp⟩
theorem ratRows_yes {xs : List Int} {R C : Nat} {bs qs : List Int} (h : ∀ i, i < R → ratRow xs C qs i = (bs.getD i 0, 1)) : ratRows xs R C bs qs = true := by
  unfold ratRows
  rw [List.all_eq_true]
  intro i hi
  exact decide_eq_true (h i (List.mem_range.1 hi))
end Go.Proofs.Ytfiilpamekpmpaa

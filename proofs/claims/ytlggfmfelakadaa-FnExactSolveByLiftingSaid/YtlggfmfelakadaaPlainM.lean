/-
  DERIVED. Products of matrices, turned matrices, as lists of cells: no program in sight.
-/
import Derived.Test.YtlggfmfelakadaaOwn
import Derived.Test.YtlggfmfelakadaaPlain5
import Derived.Test.YtlggfmfelakadaaRow2
namespace Go.Proofs.Ytlggfmfelakadaa
set_option linter.unusedVariables false
/-- The sum of f from 0 on, k of them. -/
def sumTo (f : Nat → Int) : Nat → Int
  | 0 => 0
  | k + 1 => sumTo f k + f k
/-- A list of n numbers, place by place. -/
def tab (n : Nat) (f : Nat → Int) : List Int := (List.range n).map f
theorem tab_len (n : Nat) (f : Nat → Int) : (tab n f).length = n := by simp [tab]
theorem tab_getD {n : Nat} {f : Nat → Int} {k : Nat} (h : k < n) : (tab n f).getD k 0 = f k := by simp [tab, List.getD, h]
def prodAt (xs : List Int) (c : Nat) (ys : List Int) (c2 i j : Nat) : Int := sumTo (fun k => cel xs c i k * cel ys c2 k j) c
/-- The product of r rows of c cells and c rows of c2 cells. -/
def mulL (xs : List Int) (r c : Nat) (ys : List Int) (c2 : Nat) : List Int := tab (r * c2) fun q => prodAt xs c ys c2 (q / c2) (q % c2)
theorem mulL_len (xs : List Int) (r c : Nat) (ys : List Int) (c2 : Nat) : (mulL xs r c ys c2).length = r * c2 := tab_len _ _
theorem idx_nat {r c i j : Nat} (hi : i < r) (hj : j < c) : i * c + j < r * c := by
  have h3 := Nat.mul_le_mul_right c (show i + 1 ≤ r by omega)
  rw [Nat.add_mul, Nat.one_mul] at h3; omega
theorem idx_div {c i j : Nat} (hj : j < c) : (i * c + j) / c = i ∧ (i * c + j) % c = j := by
  have hc : 0 < c := by omega
  rw [Nat.mul_comm]
  exact ⟨by rw [Nat.mul_add_div hc, Nat.div_eq_of_lt hj, Nat.add_zero], by rw [Nat.mul_add_mod, Nat.mod_eq_of_lt hj]⟩
theorem mulL_at {xs ys : List Int} {r c c2 i j : Nat} (hi : i < r) (hj : j < c2) : (mulL xs r c ys c2).getD (i * c2 + j) 0 = prodAt xs c ys c2 i j := by
  unfold mulL
  rw [tab_getD (idx_nat hi hj), (idx_div hj).1, (idx_div hj).2]
theorem sumTo_bd {f : Nat → Int} {b : Int} (hb : 0 ≤ b) : ∀ k, (∀ i, i < k → -b ≤ f i ∧ f i ≤ b) → -(b * k) ≤ sumTo f k ∧ sumTo f k ≤ b * k
  | 0, _ => by simp [sumTo]
  | k + 1, h => by
    obtain ⟨h1, h2⟩ := sumTo_bd hb k (fun i hi => h i (by omega))
    obtain ⟨h3, h4⟩ := h k (by omega)
    have e : b * ((k + 1 : Nat) : Int) = b * k + b := by
      rw [show ((k + 1 : Nat) : Int) = (k : Int) + 1 by omega, Int.mul_add, Int.mul_one]
    simp only [sumTo]
    omega
/-- Rows and columns exchanged. -/
def turnL (xs : List Int) (r c : Nat) : List Int := tab (c * r) fun q => cel xs c (q % r : Nat) (q / r : Nat)
theorem turnL_len (xs : List Int) (r c : Nat) : (turnL xs r c).length = c * r := tab_len _ _
theorem turnL_at {xs : List Int} {r c i j : Nat} (hi : i < r) (hj : j < c) : (turnL xs r c).getD (j * r + i) 0 = cel xs c i j := by
  unfold turnL
  rw [tab_getD (idx_nat hj hi), (idx_div hi).1, (idx_div hi).2]
/-- The product, if both are matrices that fit, and it is one. -/
def mulB (r c : Int) (xs : List Int) (r2 c2 : Int) (ys : List Int) : Bool :=
  isMat r c xs && isMat r2 c2 ys && decide (c = r2) && isMat r c2 (mulL xs r.toNat c.toNat ys c2.toNat)
def mulM (r c : Int) (xs : List Int) (r2 c2 : Int) (ys : List Int) : Mx := if mulB r c xs r2 c2 ys then ⟨r, c2, mulL xs r.toNat c.toNat ys c2.toNat⟩ else .none
theorem cel_nat (xs : List Int) (C i j : Nat) : cel xs C i j = xs.getD (i * C + j) 0 := by
  unfold cel
  rw [show ((i : Int) * (C : Int) + (j : Int)).toNat = i * C + j by rw [← Int.natCast_mul, ← Int.natCast_add, Int.toNat_natCast]]
end Go.Proofs.Ytlggfmfelakadaa

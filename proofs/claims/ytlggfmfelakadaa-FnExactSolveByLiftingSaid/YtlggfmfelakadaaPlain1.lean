/-
  DERIVED. Plain facts on numbers: no program in sight.
-/
import Derived.WalkKit
namespace Go.Proofs.Ytlggfmfelakadaa
/-- Within the limit. -/
def isNum (n : Int) : Bool := decide (-400000000 ≤ n) && decide (n ≤ 400000000)
theorem isNum_iff (n : Int) : isNum n = true ↔ -400000000 ≤ n ∧ n ≤ 400000000 := by simp [isNum]
theorem isNum_not (n : Int) : isNum n = false ↔ n < -400000000 ∨ 400000000 < n := by
  rw [← Bool.not_eq_true, isNum_iff]; omega

/-- The remainder of Go's division lies between the divisor and its negative. -/
theorem tmod_lt (a p : Int) (hp : 0 < p) : -p < a.tmod p ∧ a.tmod p < p := by
  constructor
  · have h1 := Int.lt_tmod_of_pos a hp; exact h1
  · exact Int.tmod_lt_of_pos a hp
theorem emod_of_tmod_neg (a p : Int) (hp : 0 < p) (h : a.tmod p < 0) : a % p = a.tmod p + p := by
  have h1 := Int.tmod_add_mul_tdiv a p
  have h2 := tmod_lt a p hp
  have h3 : a % p = (a.tmod p + p) % p := by
    have : a = (a.tmod p + p) + p * (a.tdiv p - 1) := by rw [Int.mul_sub]; omega
    conv => lhs; rw [this]
    rw [Int.add_mul_emod_self_left]
  rw [h3, Int.emod_eq_of_lt (by omega) (by omega)]
theorem emod_of_tmod_nonneg (a p : Int) (hp : 0 < p) (h : 0 ≤ a.tmod p) : a % p = a.tmod p := by
  have h1 := Int.tmod_add_mul_tdiv a p
  have h2 := tmod_lt a p hp
  have h3 : a % p = (a.tmod p) % p := by
    conv => lhs; rw [← h1]
    rw [Int.add_mul_emod_self_left]
  rw [h3, Int.emod_eq_of_lt (by omega) (by omega)]
theorem tmod_zero_iff (a p : Int) : a.tmod p = 0 ↔ a % p = 0 := by
  constructor
  · intro h; exact Int.emod_eq_zero_of_dvd (Int.dvd_of_tmod_eq_zero h)
  · intro h; exact Int.tmod_eq_zero_of_dvd (Int.dvd_of_emod_eq_zero h)
/-- '(n % p + p) % p' in Go is the residue. -/
theorem tmod_twice (a p : Int) (hp : 0 < p) : (a.tmod p + p) % p = a % p := by
  rcases Int.lt_or_le (a.tmod p) 0 with h | h
  · rw [emod_of_tmod_neg a p hp h]
    have h2 := tmod_lt a p hp
    exact Int.emod_eq_of_lt (by omega) (by omega)
  · rw [emod_of_tmod_nonneg a p hp h, Int.add_emod_right]
    have h2 := tmod_lt a p hp
    exact Int.emod_eq_of_lt (by omega) (by omega)

theorem natAbs_tmod_lt (a b : Int) (h : b ≠ 0) : (a.tmod b).natAbs < b.natAbs := by
  rw [Int.natAbs_tmod]
  exact Nat.mod_lt _ (by omega)
theorem gcd_tmod (a b : Int) : Int.gcd b (a.tmod b) = Int.gcd a b := by
  unfold Int.gcd
  rw [Int.natAbs_tmod, Nat.gcd_comm b.natAbs, ← Nat.gcd_rec, Nat.gcd_comm]

/-- No divisor from d on, d below its square root. -/
def prFrom (p d : Int) : Nat → Bool
  | 0 => true
  | k + 1 => if d * d ≤ p then (if p % d = 0 then false else prFrom p (d + 1) k) else true
theorem sq_le (d m : Int) (h0 : 0 ≤ d) (h : d ≤ m) : 0 ≤ d * d ∧ d * d ≤ m * m :=
  ⟨Int.mul_nonneg h0 h0, Int.mul_le_mul h h h0 (by omega)⟩
theorem le_of_sq (d m p : Int) (hm : 0 ≤ m) (h : d * d ≤ p) (hp : p < (m + 1) * (m + 1)) : d ≤ m := by
  rcases Int.lt_or_le m d with h1 | h1
  · have := Int.mul_le_mul (show m + 1 ≤ d by omega) (show m + 1 ≤ d by omega) (by omega) (by omega)
    omega
  · exact h1
def isPr (p : Int) : Bool := decide (2 ≤ p) && decide (p ≤ 10000) && prFrom p 2 200
theorem mod_mul_sub (a d n m : Int) : ((a % m) * (d % m) - n) % m = (a * d - n) % m := by
  rw [Int.sub_emod, ← Int.mul_emod, ← Int.sub_emod]
theorem mul_bd (x y p q : Int) (h0 : 0 ≤ x) (h1 : x ≤ p) (h2 : 0 ≤ y) (h3 : y ≤ q) : 0 ≤ x * y ∧ x * y ≤ p * q :=
  ⟨Int.mul_nonneg h0 h2, Int.mul_le_mul h1 h3 h2 (by omega)⟩
theorem mul_bd2 (x y p q : Int) (h0 : -p ≤ x) (h1 : x ≤ p) (h2 : 0 ≤ y) (h3 : y ≤ q) : -(p * q) ≤ x * y ∧ x * y ≤ p * q := by
  have hp : 0 ≤ p := by omega
  constructor
  · have h := Int.mul_le_mul (show -x ≤ p by omega) h3 h2 hp
    have : -x * y = -(x * y) := Int.neg_mul x y
    omega
  · exact Int.mul_le_mul h1 h3 h2 hp
theorem mul_bd4 (x y p q : Int) (h0 : -p ≤ x) (h1 : x ≤ p) (h2 : -q ≤ y) (h3 : y ≤ q) : -(p * q) ≤ x * y ∧ x * y ≤ p * q := by
  rcases Int.le_total 0 y with h | h
  · exact mul_bd2 x y p q h0 h1 h h3
  · have := mul_bd2 x (-y) p q h0 h1 (by omega) (by omega)
    have e : x * -y = -(x * y) := Int.mul_neg x y
    omega
end Go.Proofs.Ytlggfmfelakadaa

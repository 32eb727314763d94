/-
  DERIVED. Lists of moduli: the program's test and the reference's test agree. No program in sight.
-/
import Derived.Test.YtmcbhpaajjlmmaaPlain2
namespace Go.Proofs.Ytmcbhpaajjlmmaa
set_option linter.unusedVariables false
/-- The program's test, from the numbers seen and their product on. -/
def imF (seen : List Int) (prod : Int) : List Int → Bool
  | [] => decide (seen.length ≤ 8)
  | n :: rest => if n < 2 ∨ isNum n = false then false else if isNum (prod * n) = false then false else if seen.any (fun k => decide (1 < Int.gcd n k)) then false else imF (seen ++ [n]) (prod * n) rest
/-- The reference's test. -/
def spF (prod : Int) : List Int → Bool
  | [] => true
  | n :: rest => if n < 2 ∨ 400000000 < n then false else if Int.gcd prod n ≠ 1 then false else if isNum (prod * n) = false then false else spF (prod * n) rest
def modsOk (xs : List Int) : Bool := decide (xs.length ≤ 8) && spF 1 xs

theorem gcd_mul_one (a b n : Int) : Int.gcd (a * b) n = 1 ↔ Int.gcd a n = 1 ∧ Int.gcd b n = 1 := by
  unfold Int.gcd
  rw [Int.natAbs_mul]
  exact Nat.coprime_mul_iff_left
/-- The product of the numbers seen. -/
def prodOf (l : List Int) : Int := l.foldl (· * ·) 1
theorem prodOf_snoc (l : List Int) (n : Int) : prodOf (l ++ [n]) = prodOf l * n := by simp [prodOf]
theorem coprime_from (n : Int) : ∀ (l : List Int) (a : Int), Int.gcd (l.foldl (· * ·) a) n = 1 ↔ Int.gcd a n = 1 ∧ ∀ k ∈ l, Int.gcd k n = 1
  | [], a => by simp
  | b :: l, a => by
    rw [List.foldl_cons, coprime_from n l (a * b), gcd_mul_one]
    simp [and_assoc]
theorem coprime_all (n : Int) (l : List Int) : Int.gcd (prodOf l) n = 1 ↔ ∀ k ∈ l, Int.gcd k n = 1 := by
  unfold prodOf
  rw [coprime_from]
  simp
/-- Some number seen shares a divisor with n exactly if the product does. -/
theorem any_gcd (n : Int) (hn : 2 ≤ n) (l : List Int) : l.any (fun k => decide (1 < Int.gcd n k)) = decide (Int.gcd (prodOf l) n ≠ 1) := by
  have h := coprime_all n l
  rw [Bool.eq_iff_iff]
  simp only [List.any_eq_true, decide_eq_true_eq, ne_eq, h]
  constructor
  · rintro ⟨k, hk, h1⟩ h2
    have := h2 k hk
    rw [Int.gcd_comm] at this
    omega
  · intro h1
    apply Classical.byContradiction
    intro h2
    apply h1
    intro k hk
    have h3 : ¬ 1 < Int.gcd n k := fun h4 => h2 ⟨k, hk, h4⟩
    have h5 : Int.gcd n k ≠ 0 := by
      intro h6
      have := Int.gcd_eq_zero_iff.1 h6
      omega
    rw [Int.gcd_comm]
    omega
theorem imF_spF : ∀ (rest seen : List Int), imF seen (prodOf seen) rest = (spF (prodOf seen) rest && decide ((seen ++ rest).length ≤ 8))
  | [], seen => by simp [imF, spF]
  | n :: rest, seen => by
    unfold imF spF
    by_cases h1 : n < 2
    · simp [h1]
    · by_cases h2 : 400000000 < n
      · have : isNum n = false := (isNum_not n).2 (.inr h2)
        simp [h2, this]
      · have h3 : isNum n = true := (isNum_iff n).2 (by omega)
        have g1 : ¬ (n < 2 ∨ 400000000 < n) := by omega
        have g2 : ¬ (n < 2 ∨ isNum n = false) := by simp [h1, h3]
        rw [if_neg g1, if_neg g2, any_gcd n (by omega) seen]
        rcases h4 : isNum (prodOf seen * n) with _ | _
        · by_cases h5 : Int.gcd (prodOf seen) n = 1 <;> simp [h5]
        · by_cases h5 : Int.gcd (prodOf seen) n = 1
          · have := imF_spF rest (seen ++ [n])
            rw [prodOf_snoc] at this
            simp [h5, this]
          · simp [h5]
theorem imF_mods (xs : List Int) : imF [] 1 xs = modsOk xs := by
  have := imF_spF xs []
  simp only [prodOf, List.foldl_nil, List.nil_append] at this
  rw [this, modsOk, Bool.and_comm]
end Go.Proofs.Ytmcbhpaajjlmmaa

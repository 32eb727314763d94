/-
  DERIVED. Ratios: lowest terms, sums, products. No program in sight.
-/
import Derived.Test.YtcpbaagnjofjfaaRat
import Derived.Test.YtcpbaagnjofjfaaPlain2
namespace Go.Proofs.Ytcpbaagnjofjfaa
set_option linter.unusedVariables false
/-- n / d in lowest terms; zeros if it is no ratio. -/
def lowR (n d : Int) : Int × Int :=
  let g : Int := ((Int.gcd n d : Nat) : Int)
  let s := if d < 0 then -g else g
  if ratOk (n.tdiv s) (d.tdiv s) then (n.tdiv s, d.tdiv s) else (0, 0)
def addR (a b : Int × Int) : Int × Int := if ratOk a.1 a.2 && ratOk b.1 b.2 then lowR (a.1 * b.2 + b.1 * a.2) (a.2 * b.2) else (0, 0)
def mulR (a b : Int × Int) : Int × Int := if ratOk a.1 a.2 && ratOk b.1 b.2 then lowR (a.1 * b.1) (a.2 * b.2) else (0, 0)
def makR (n d : Int) : Int × Int := if isNum n && isNum d && decide (d ≠ 0) then lowR n d else (0, 0)
theorem tdiv_abs (a b : Int) : (a.tdiv b).natAbs ≤ a.natAbs := by
  rw [Int.natAbs_tdiv]; exact Nat.div_le_self _ _
/-- The gcd of a number and one that is not 0. -/
theorem gcd_pos2 {n d : Int} (hd : d ≠ 0) : 1 ≤ Int.gcd n d ∧ Int.gcd n d ≤ d.natAbs :=
  ⟨Int.gcd_pos_of_ne_zero_right _ hd, Nat.le_of_dvd (by omega) (Int.gcd_dvd_natAbs_right ..)⟩
theorem lowR_pos {n d : Int} (hd : 0 < d) : lowR n d = if ratOk (n.tdiv (Int.gcd n d : Nat)) (d.tdiv (Int.gcd n d : Nat)) then (n.tdiv (Int.gcd n d : Nat), d.tdiv (Int.gcd n d : Nat)) else (0, 0) := by
  unfold lowR
  simp only [if_neg (show ¬ d < 0 by omega)]
theorem lowR_neg {n d : Int} (hd : d < 0) : lowR n d = if ratOk (n.tdiv (-(Int.gcd n d : Nat))) (d.tdiv (-(Int.gcd n d : Nat))) then (n.tdiv (-(Int.gcd n d : Nat)), d.tdiv (-(Int.gcd n d : Nat))) else (0, 0) := by
  unfold lowR
  simp only [if_pos hd]
theorem lowR_neg' {n d : Int} (hd : d < 0) : lowR n d = if ratOk (-n.tdiv (Int.gcd n d : Nat)) (-d.tdiv (Int.gcd n d : Nat)) then (-n.tdiv (Int.gcd n d : Nat), -d.tdiv (Int.gcd n d : Nat)) else (0, 0) := by
  rw [lowR_neg hd]
  simp only [Int.tdiv_neg]
theorem lowR_flip {n d : Int} (hd : d < 0) : lowR n d = lowR (-n) (-d) := by
  rw [lowR_neg hd, lowR_pos (show 0 < -d by omega), Int.neg_gcd, Int.gcd_neg]
  simp only [Int.tdiv_neg, Int.neg_tdiv]
theorem lowR_ok (n d : Int) : (ratOk (lowR n d).1 (lowR n d).2 = true) ∨ lowR n d = (0, 0) := by
  unfold lowR
  simp only
  generalize (if d < 0 then -((Int.gcd n d : Nat) : Int) else ((Int.gcd n d : Nat) : Int)) = s
  by_cases h : ratOk (n.tdiv s) (d.tdiv s) = true
  · rw [if_pos h]; exact .inl h
  · rw [if_neg h]; exact .inr rfl
theorem addR_ok (a b : Int × Int) : (ratOk (addR a b).1 (addR a b).2 = true) ∨ addR a b = (0, 0) := by
  unfold addR
  split
  · exact lowR_ok _ _
  · exact .inr rfl
theorem mulR_ok (a b : Int × Int) : (ratOk (mulR a b).1 (mulR a b).2 = true) ∨ mulR a b = (0, 0) := by
  unfold mulR
  split
  · exact lowR_ok _ _
  · exact .inr rfl
theorem ratOk_zero : ratOk 0 0 = false := rfl
theorem ratOk_whole {n : Int} (h : isNum n = true) : ratOk n 1 = true := by
  rw [ratOk_iff]
  exact ⟨by omega, (isNum_iff n).1 h, by simp⟩
theorem mulR_comm (a b : Int × Int) : mulR a b = mulR b a := by
  unfold mulR
  rw [Bool.and_comm, Int.mul_comm a.1, Int.mul_comm a.2]
/-- Bounds of what is added and multiplied. -/
theorem rat_bd {a b : Int × Int} (h : ratOk a.1 a.2 = true) (h' : ratOk b.1 b.2 = true) :
    (-160000000000000000 ≤ a.1 * b.2 ∧ a.1 * b.2 ≤ 160000000000000000) ∧ (-160000000000000000 ≤ b.1 * a.2 ∧ b.1 * a.2 ≤ 160000000000000000) ∧ (1 ≤ a.2 * b.2 ∧ a.2 * b.2 ≤ 160000000000000000) ∧ (-160000000000000000 ≤ a.1 * b.1 ∧ a.1 * b.1 ≤ 160000000000000000) := by
  obtain ⟨⟨h1, h2⟩, ⟨h3, h4⟩, _⟩ := (ratOk_iff _ _).1 h
  obtain ⟨⟨k1, k2⟩, ⟨k3, k4⟩, _⟩ := (ratOk_iff _ _).1 h'
  have m1 := mul_bd2 a.1 b.2 400000000 400000000 h3 h4 (by omega) k2
  have m2 := mul_bd2 b.1 a.2 400000000 400000000 k3 k4 (by omega) h2
  have m3 := mul_bd a.2 b.2 400000000 400000000 (by omega) h2 (by omega) k2
  have m4 := mul_bd4 a.1 b.1 400000000 400000000 h3 h4 k3 k4
  have m5 : 1 * 1 ≤ a.2 * b.2 := Int.mul_le_mul h1 k1 (by omega) (by omega)
  omega
end Go.Proofs.Ytcpbaagnjofjfaa

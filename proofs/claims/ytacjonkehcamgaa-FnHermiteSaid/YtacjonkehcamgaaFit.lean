/-
  DERIVED. The contracts of the reference's marked arithmetic: l1Fit, l1Add, l1Mul.
-/
import Derived.Test.YtacjonkehcamgaaNum
namespace Go.Proofs.Ytacjonkehcamgaa
open Go.RowKit
set_option linter.unusedVariables false
/-- The mark of a number beyond the limit. -/
def bad : Int := -4611686018427387904
def fit (n : Int) : Int := if isNum n then n else bad
def addB (a b : Int) : Int := if a = bad ∨ b = bad then bad else fit (a + b)
def mulF (a b : Int) : Int := if a = bad ∨ b = bad then bad else fit (a * b)
theorem fit_in {n : Int} (h : -400000000 ≤ n ∧ n ≤ 400000000) : fit n = n := by simp [fit, (isNum_iff n).2 h]
theorem fit_out {n : Int} (h : n < -400000000 ∨ 400000000 < n) : fit n = bad := by simp [fit, (isNum_not n).2 h]
/-- A number within the limit, or the mark. -/
def NB (n : Int) : Prop := n = bad ∨ (-400000000 ≤ n ∧ n ≤ 400000000)
theorem NB.fit (n : Int) : NB (fit n) := by
  by_cases h : -400000000 ≤ n ∧ n ≤ 400000000
  · rw [fit_in h]; exact .inr h
  · rw [fit_out (by omega)]; exact .inl rfl
theorem ne_bad {n : Int} (h : -4000000000000000000 ≤ n) : n ≠ bad := by unfold bad; omega
theorem beq_bad (n : Int) : (n == -4611686018427387904) = decide (n = bad) := rfl

theorem spec_l1Fit (n : Int) (w : World) : Calls Try.prog 221 #[.int .i64 n] w (EV (.int .i64 (fit n)) w) := by
  by_cases h : -400000000 ≤ n ∧ n ≤ 400000000
  · rw [fit_in h]
    obtain ⟨h1, h2⟩ := h
    go_enter Try.func221, Try.ntmps221
    go_wp2_with (first | (go_at_call 154; (first | refine (spec_l1In_yes _ _ _ _ (by omega)).mono ?_ | refine (spec_l1In_no _ _ _ _ (by omega)).mono ?_ | refine (spec_l1In _ _ _ _).mono ?_); rintro e w' ⟨rfl, rfl⟩))
    go_ret
    exact EV.mk rfl
  · rw [fit_out (by omega)]
    have h' : n < -400000000 ∨ 400000000 < n := by omega
    clear h
    rcases h' with h | h
    all_goals
      go_enter Try.func221, Try.ntmps221
      go_wp2_with (first | (go_at_call 154; (first | refine (spec_l1In_yes _ _ _ _ (by omega)).mono ?_ | refine (spec_l1In_no _ _ _ _ (by omega)).mono ?_ | refine (spec_l1In _ _ _ _).mono ?_); rintro e w' ⟨rfl, rfl⟩))
      go_ret
      exact EV.mk rfl

theorem spec_l1Add (a b : Int) (w : World) (ha : NB a) (hb : NB b) : Calls Try.prog 232 #[.int .i64 a, .int .i64 b] w (EV (.int .i64 (addB a b)) w) := by
  unfold addB
  by_cases h1 : a = bad
  · rw [if_pos (.inl h1)]
    have e1 : (a == -4611686018427387904) = true := by rw [beq_bad]; simpa using h1
    clear h1 ha hb
    go_enter Try.func232, Try.ntmps232
    go_wp2
    go_ret
    exact EV.mk rfl
  · have e1 : (a == -4611686018427387904) = false := by rw [beq_bad]; simpa using h1
    by_cases h2 : b = bad
    · rw [if_pos (.inr h2)]
      have e2 : (b == -4611686018427387904) = true := by rw [beq_bad]; simpa using h2
      clear h1 h2 ha hb
      go_enter Try.func232, Try.ntmps232
      go_wp2
      go_ret
      exact EV.mk rfl
    · have e2 : (b == -4611686018427387904) = false := by rw [beq_bad]; simpa using h2
      rw [if_neg (by simp [h1, h2])]
      have ha' := ha.resolve_left h1
      have hb' := hb.resolve_left h2
      clear h1 h2 ha hb
      go_enter Try.func232, Try.ntmps232
      go_wp2_with (go_at_call 221; refine (spec_l1Fit _ _).mono ?_; rintro e w' ⟨rfl, rfl⟩)
      go_ret
      exact EV.mk rfl

theorem spec_l1Mul (a b : Int) (w : World) (ha : NB a) (hb : NB b) : Calls Try.prog 190 #[.int .i64 a, .int .i64 b] w (EV (.int .i64 (mulF a b)) w) := by
  unfold mulF
  by_cases h1 : a = bad
  · rw [if_pos (.inl h1)]
    have e1 : (a == -4611686018427387904) = true := by rw [beq_bad]; simpa using h1
    clear h1 ha hb
    go_enter Try.func190, Try.ntmps190
    go_wp2
    go_ret
    exact EV.mk rfl
  · have e1 : (a == -4611686018427387904) = false := by rw [beq_bad]; simpa using h1
    by_cases h2 : b = bad
    · rw [if_pos (.inr h2)]
      have e2 : (b == -4611686018427387904) = true := by rw [beq_bad]; simpa using h2
      clear h1 h2 ha hb
      go_enter Try.func190, Try.ntmps190
      go_wp2
      go_ret
      exact EV.mk rfl
    · have e2 : (b == -4611686018427387904) = false := by rw [beq_bad]; simpa using h2
      rw [if_neg (by simp [h1, h2])]
      have ha' := ha.resolve_left h1
      have hb' := hb.resolve_left h2
      obtain ⟨c1, c2⟩ := mul_bd4 a b 400000000 400000000 (by omega) (by omega) (by omega) (by omega)
      clear h1 h2 ha hb
      go_enter Try.func190, Try.ntmps190
      go_wp2_with (go_at_call 221; refine (spec_l1Fit _ _).mono ?_; rintro e w' ⟨rfl, rfl⟩)
      go_ret
      exact EV.mk rfl
theorem addB_num {a b : Int} (ha : -400000000 ≤ a ∧ a ≤ 400000000) (hb : -400000000 ≤ b ∧ b ≤ 400000000) : addB a b = fit (a + b) := by
  unfold addB; rw [if_neg]; unfold bad; omega
theorem mulF_num {a b : Int} (ha : -400000000 ≤ a ∧ a ≤ 400000000) (hb : -400000000 ≤ b ∧ b ≤ 400000000) : mulF a b = fit (a * b) := by
  unfold mulF; rw [if_neg]; unfold bad; omega
end Go.Proofs.Ytacjonkehcamgaa

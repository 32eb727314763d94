/-
  DERIVED. The contracts of SymmetricOf, IsRatio, IsImage, and of the reference's l1Fit, l1Add, l1Mul.
-/
import Derived.Test.YtlggfmfelakadaaGreatDoorc2
namespace Go.Proofs.YtlggfmfelakadaaGreatDoor
open Go.RowKit
set_option linter.unusedVariables false

def symOf (x m : Int) : Int := if 2 * (x % m) > m then x % m - m else x % m
def symOk (x m : Int) : Bool := isNum x && decide (1 ≤ m) && decide (m ≤ 400000000)
theorem symOk_yes {x m : Int} (h1 : -400000000 ≤ x ∧ x ≤ 400000000) (h2 : 1 ≤ m ∧ m ≤ 400000000) : symOk x m = true := by
  simp [symOk, (isNum_iff x).2 h1, h2.1, h2.2]
theorem symOk_no {x m : Int} (h : (x < -400000000 ∨ 400000000 < x) ∨ (m < 1 ∨ 400000000 < m)) : symOk x m = false := by
  rcases h with h | h
  · simp [symOk, (isNum_not x).2 h]
  · simp only [symOk]
    by_cases hx : isNum x = true
    · simp [hx]; omega
    · simp [hx]
def symRes (x m : Int) : Int := if symOk x m then symOf x m else 0
/-- Two results, an int and a bool; the world is as it was. -/
def RetIB (i : Int) (b : Bool) (w : World) (e : Ending) (w' : World) : Prop := e = .returned (.tuple #[.int .i64 i, .bool b]) ∧ w = w'
theorem RetIB.mk {i i' : Int} {b b' : Bool} {w : World} (h : i = i') (h' : b = b') : RetIB i' b' w (.returned (.tuple #[.int .i64 i, .bool b])) w := by
  subst h; subst h'; exact ⟨rfl, rfl⟩

theorem sym_cases (x m : Int) : (1 ≤ m ∧ m ≤ 400000000 ∧ -400000000 ≤ x ∧ x ≤ 400000000 ∧ 0 ≤ x % m ∧ x % m < m) ∨ (x < -400000000 ∨ 400000000 < x) ∨ ((-400000000 ≤ x ∧ x ≤ 400000000) ∧ (m < 1 ∨ 400000000 < m)) := by
  by_cases h : 1 ≤ m ∧ m ≤ 400000000
  · by_cases h' : -400000000 ≤ x ∧ x ≤ 400000000
    · exact .inl ⟨h.1, h.2, h'.1, h'.2, Int.emod_nonneg x (by omega), Int.emod_lt_of_pos x (by omega)⟩
    · exact .inr (.inl (by omega))
  · by_cases h' : -400000000 ≤ x ∧ x ≤ 400000000
    · exact .inr (.inr ⟨h', by omega⟩)
    · exact .inr (.inl (by omega))

theorem impl_SymmetricOf (x m : Int) (hx : -9223372036854775808 ≤ x ∧ x ≤ 9223372036854775807) (w : World) :
    Calls Tryz.prog 45 #[.int .i64 x, .int .i64 m] w (RetIB (symRes x m) (symOk x m) w) := by
  obtain ⟨hx1, hx2⟩ := hx
  rcases sym_cases x m with ⟨h1, h2, h3, h4, h5, h6⟩ | h | ⟨h', h⟩
  · by_cases hs : 2 * (x % m) > m
    all_goals
      go_enter Tryz.func45, Tryz.ntmps45
      go_wp2_with (first | (go_at_call 42; (first | refine (impl_IsNumber_yes _ _ (by omega)).mono ?_ | refine (impl_IsNumber_no _ _ (by omega)).mono ?_ | refine (impl_IsNumber _ _).mono ?_); rintro e w' ⟨rfl, rfl⟩) | (go_at_call 64; refine (impl_mod _ _ _ (by omega) (by omega) (by omega) (by omega)).mono ?_; rintro e w' ⟨rfl, rfl⟩))
      go_ret2
      refine RetIB.mk ?_ (symOk_yes ⟨h3, h4⟩ ⟨h1, h2⟩).symm
      simp only [symRes, symOk_yes ⟨h3, h4⟩ ⟨h1, h2⟩, symOf]
      simp; omega
  · go_enter Tryz.func45, Tryz.ntmps45
    go_wp2_with (first | (go_at_call 42; (first | refine (impl_IsNumber_yes _ _ (by omega)).mono ?_ | refine (impl_IsNumber_no _ _ (by omega)).mono ?_ | refine (impl_IsNumber _ _).mono ?_); rintro e w' ⟨rfl, rfl⟩))
    go_ret2
    exact RetIB.mk (by simp [symRes, symOk_no (.inl h)]) (symOk_no (.inl h)).symm
  · have hno : symOk x m = false := symOk_no (.inr h)
    rcases h with h | h
    all_goals
      go_enter Tryz.func45, Tryz.ntmps45
      go_wp2_with (first | (go_at_call 42; (first | refine (impl_IsNumber_yes _ _ (by omega)).mono ?_ | refine (impl_IsNumber_no _ _ (by omega)).mono ?_ | refine (impl_IsNumber _ _).mono ?_); rintro e w' ⟨rfl, rfl⟩))
      go_ret2
      exact RetIB.mk (by simp [symRes, hno]) hno.symm

def ratOk (n d : Int) : Bool := decide (1 ≤ d) && decide (d ≤ 400000000) && isNum n && decide (Int.gcd n d = 1)
theorem ratOk_iff (n d : Int) : ratOk n d = true ↔ (1 ≤ d ∧ d ≤ 400000000) ∧ (-400000000 ≤ n ∧ n ≤ 400000000) ∧ Int.gcd n d = 1 := by
  simp [ratOk, isNum, and_assoc]
theorem rat_cases (n d : Int) : (1 ≤ d ∧ d ≤ 400000000 ∧ -400000000 ≤ n ∧ n ≤ 400000000 ∧ ((((Int.gcd n d : Nat) : Int) == 1) = true ∧ ratOk n d = true ∨ (((Int.gcd n d : Nat) : Int) == 1) = false ∧ ratOk n d = false)) ∨
    (ratOk n d = false ∧ (d < 1 ∨ (1 ≤ d ∧ 400000000 < d) ∨ ((1 ≤ d ∧ d ≤ 400000000) ∧ (n < -400000000 ∨ 400000000 < n)))) := by
  by_cases h : 1 ≤ d ∧ d ≤ 400000000
  · by_cases h' : -400000000 ≤ n ∧ n ≤ 400000000
    · refine .inl ⟨h.1, h.2, h'.1, h'.2, ?_⟩
      by_cases hg : Int.gcd n d = 1
      · exact .inl ⟨by rw [hg]; rfl, (ratOk_iff n d).2 ⟨h, h', hg⟩⟩
      · refine .inr ⟨?_, ?_⟩
        · simp; omega
        · rw [← Bool.not_eq_true, ratOk_iff]; exact fun hh => hg hh.2.2
    · exact .inr ⟨by rw [← Bool.not_eq_true, ratOk_iff]; omega, by omega⟩
  · exact .inr ⟨by rw [← Bool.not_eq_true, ratOk_iff]; omega, by omega⟩

theorem impl_IsRatio (n d : Int) (w : World) : Calls Tryz.prog 39 #[.agg #[.int .i64 n, .int .i64 d]] w (BV (.bool (ratOk n d)) w) := by
  rcases rat_cases n d with ⟨h1, h2, h3, h4, ⟨hg, hr⟩ | ⟨hg, hr⟩⟩ | ⟨hr, h | h | ⟨h', h⟩⟩
  all_goals
    rw [hr]
    clear hr
    go_enter Tryz.func39, Tryz.ntmps39
    go_wp2_with (first | (go_at_call 42; (first | refine (impl_IsNumber_yes _ _ (by omega)).mono ?_ | refine (impl_IsNumber_no _ _ (by omega)).mono ?_ | refine (impl_IsNumber _ _).mono ?_); rintro e w' ⟨rfl, rfl⟩) | (go_at_call 69; refine (impl_gcd _ _ _ (by omega) (by omega) (by omega) (by omega)).mono ?_; rintro e w' ⟨rfl, nd, rfl⟩))
    go_ret
    exact BV.mk rfl Kw

end Go.Proofs.YtlggfmfelakadaaGreatDoor

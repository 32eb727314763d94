/-
  DERIVED. The contracts of the small functions on numbers: impl.IsNumber, absInt, gcd, mod; spec.l1In, IsNumber, l1Abs, GcdOf, l8Mod; IsPrime of both.
-/
import Derived.Test.YtpecjobpihinoaaBase
namespace Go.Proofs.Ytpecjobpihinoaa
open Go.RowKit
set_option linter.unusedVariables false

theorem impl_IsNumber (n : Int) (w : World) : Calls Try.prog 63 #[.int .i64 n] w fun e w' => e = .returned (.bool (isNum n)) ∧ w = w' := by
  unfold isNum
  go_enter Try.func63, Try.ntmps63
  go_wp2
  all_goals go_ret
  all_goals refine ⟨ret_bool ?_, rfl⟩
  all_goals simp
  all_goals omega

theorem spec_l1In (x lo hi : Int) (w : World) : Calls Try.prog 76 #[.int .i64 x, .int .i64 lo, .int .i64 hi] w fun e w' => e = .returned (.bool (decide (lo ≤ x) && decide (x ≤ hi))) ∧ w = w' := by
  go_enter Try.func76, Try.ntmps76
  go_wp2
  all_goals go_ret
  all_goals refine ⟨ret_bool ?_, rfl⟩
  all_goals simp
  all_goals omega

theorem spec_IsNumber (n : Int) (w : World) : Calls Try.prog 114 #[.int .i64 n] w fun e w' => e = .returned (.bool (isNum n)) ∧ w = w' := by
  go_enter Try.func114, Try.ntmps114
  go_wp2_with (go_at_call 76; refine (spec_l1In _ _ _ _).mono ?_; rintro e w' ⟨rfl, rfl⟩)
  all_goals go_ret
  all_goals exact ⟨rfl, rfl⟩

theorem impl_IsNumber_yes (n : Int) (w : World) (h : -400000000 ≤ n ∧ n ≤ 400000000) : Calls Try.prog 63 #[.int .i64 n] w fun e w' => e = .returned (.bool true) ∧ w = w' := by
  have := impl_IsNumber n w
  rwa [(isNum_iff n).2 h] at this
theorem impl_IsNumber_no (n : Int) (w : World) (h : n < -400000000 ∨ 400000000 < n) : Calls Try.prog 63 #[.int .i64 n] w fun e w' => e = .returned (.bool false) ∧ w = w' := by
  have := impl_IsNumber n w
  rwa [(isNum_not n).2 h] at this
theorem spec_IsNumber_yes (n : Int) (w : World) (h : -400000000 ≤ n ∧ n ≤ 400000000) : Calls Try.prog 114 #[.int .i64 n] w fun e w' => e = .returned (.bool true) ∧ w = w' := by
  have := spec_IsNumber n w
  rwa [(isNum_iff n).2 h] at this
theorem spec_IsNumber_no (n : Int) (w : World) (h : n < -400000000 ∨ 400000000 < n) : Calls Try.prog 114 #[.int .i64 n] w fun e w' => e = .returned (.bool false) ∧ w = w' := by
  have := spec_IsNumber n w
  rwa [(isNum_not n).2 h] at this
theorem spec_l1In_yes (x lo hi : Int) (w : World) (h : lo ≤ x ∧ x ≤ hi) : Calls Try.prog 76 #[.int .i64 x, .int .i64 lo, .int .i64 hi] w fun e w' => e = .returned (.bool true) ∧ w = w' := by
  have := spec_l1In x lo hi w
  rwa [show (decide (lo ≤ x) && decide (x ≤ hi)) = true by simpa using h] at this
theorem spec_l1In_no (x lo hi : Int) (w : World) (h : x < lo ∨ hi < x) : Calls Try.prog 76 #[.int .i64 x, .int .i64 lo, .int .i64 hi] w fun e w' => e = .returned (.bool false) ∧ w = w' := by
  have := spec_l1In x lo hi w
  rwa [show (decide (lo ≤ x) && decide (x ≤ hi)) = false by simp; omega] at this

theorem impl_absInt (n : Int) (w : World) (h : -9223372036854775807 ≤ n) (h2 : n ≤ 9223372036854775807) : Calls Try.prog 127 #[.int .i64 n] w fun e w' => e = .returned (.int .i64 n.natAbs) ∧ w = w' := by
  go_enter Try.func127, Try.ntmps127
  go_wp2
  all_goals go_ret
  · exact ⟨ret_int (show -n = _ by omega), rfl⟩
  · exact ⟨ret_int (show n = _ by omega), rfl⟩

theorem spec_l1Abs (n : Int) (w : World) (h : -9223372036854775807 ≤ n) (h2 : n ≤ 9223372036854775807) : Calls Try.prog 131 #[.int .i64 n] w fun e w' => e = .returned (.int .i64 n.natAbs) ∧ w = w' := by
  go_enter Try.func131, Try.ntmps131
  go_wp2
  all_goals go_ret
  · exact ⟨ret_int (show -n = _ by omega), rfl⟩
  · exact ⟨ret_int (show n = _ by omega), rfl⟩

theorem impl_gcd (a b : Int) (w : World) (ha : -9223372036854775807 ≤ a) (ha2 : a ≤ 9223372036854775807) (hb : -9223372036854775807 ≤ b) (hb2 : b ≤ 9223372036854775807) :
    Calls Try.prog 85 #[.int .i64 a, .int .i64 b] w fun e w' => e = .returned (.int .i64 (Int.gcd a b)) ∧ ∃ n, w' = w.drewN n := by
  go_enter Try.func85, Try.ntmps85
  go_wp2
  go_loopw [0, 1] (fun u v wr => ∃ x y : Int, u = .int .i64 x ∧ v = .int .i64 y ∧ Int.gcd x y = Int.gcd a b ∧ (-9223372036854775807 ≤ x ∧ x ≤ 9223372036854775807 ∧ -9223372036854775807 ≤ y ∧ y ≤ 9223372036854775807) ∧ ∃ n, wr = w.drewN n) (fun _ v _ => (intOf v).natAbs)
  case atStart => exact ⟨a, b, rfl, rfl, rfl, ⟨ha, ha2, hb, hb2⟩, 0, rfl⟩
  case round =>
    obtain ⟨x, y, rfl, rfl, hg0, ⟨h1, h2, h3, h4⟩, n, rfl⟩ := hrel
    have hg := Lib.hid hg0
    clear hg0
    by_cases hy : y = 0
    · subst hy
      go_wp2_with (go_at_call 127; refine (impl_absInt _ _ (by omega) (by omega)).mono ?_; rintro e w' ⟨rfl, rfl⟩)
      go_ret
      exact ⟨ret_int (by rw [← hg.out]; simp), n, rfl⟩
    · have hyb : (y != 0) = true := by simpa using hy
      have hlt := natAbs_tmod_lt x y hy
      go_wp2
      go_region
      all_goals go_wp2
      all_goals go_roundw
      all_goals first
        | exact ⟨y, x.tmod y, rfl, rfl, by rw [gcd_tmod]; exact hg.out, ⟨h3, h4, by omega, by omega⟩, n + 1, rfl⟩
        | (simp only [intOf]; omega)

theorem spec_GcdOf (a b : Int) (w : World) (ha' : -400000000 ≤ a ∧ a ≤ 400000000) (hb' : -400000000 ≤ b ∧ b ≤ 400000000) :
    Calls Try.prog 80 #[.int .i64 a, .int .i64 b] w fun e w' => e = .returned (.int .i64 (Int.gcd a b)) ∧ ∃ n, w' = w.drewN n := by
  have ha := (isNum_iff a).2 ha'
  have hb := (isNum_iff b).2 hb'
  go_enter Try.func80, Try.ntmps80
  go_wp2_with (go_at_call 114; refine (spec_IsNumber _ _).mono ?_; rintro e w' ⟨rfl, rfl⟩)
  go_loopw [0, 1] (fun u v wr => ∃ x y : Int, u = .int .i64 x ∧ v = .int .i64 y ∧ Int.gcd x y = Int.gcd a b ∧ (-9223372036854775807 ≤ x ∧ x ≤ 9223372036854775807 ∧ -9223372036854775807 ≤ y ∧ y ≤ 9223372036854775807) ∧ ∃ n, wr = w.drewN n) (fun _ v _ => (intOf v).natAbs)
  case atStart => exact ⟨a, b, rfl, rfl, rfl, ⟨by omega, by omega, by omega, by omega⟩, 0, rfl⟩
  case round =>
    obtain ⟨x, y, rfl, rfl, hg0, ⟨h1, h2, h3, h4⟩, n, rfl⟩ := hrel
    have hg := Lib.hid hg0
    clear hg0
    by_cases hy : y = 0
    · subst hy
      go_wp2_with (go_at_call 131; refine (spec_l1Abs _ _ (by omega) (by omega)).mono ?_; rintro e w' ⟨rfl, rfl⟩)
      go_ret
      exact ⟨ret_int (by rw [← hg.out]; simp), n, rfl⟩
    · have hyb : (y != 0) = true := by simpa using hy
      have hlt := natAbs_tmod_lt x y hy
      go_wp2
      go_region
      all_goals go_wp2
      all_goals go_roundw
      all_goals first
        | exact ⟨y, x.tmod y, rfl, rfl, by rw [gcd_tmod]; exact hg.out, ⟨h3, h4, by omega, by omega⟩, n + 1, rfl⟩
        | (simp only [intOf]; omega)

theorem spec_GcdOf_out (a b : Int) (w : World) (h : isNum a = false ∨ isNum b = false) :
    Calls Try.prog 80 #[.int .i64 a, .int .i64 b] w fun e w' => e = .returned (.int .i64 0) ∧ w = w' := by
  rcases ha : isNum a with _ | _
  · go_enter Try.func80, Try.ntmps80
    go_wp2_with (go_at_call 114; refine (spec_IsNumber _ _).mono ?_; rintro e w' ⟨rfl, rfl⟩)
    go_ret
    exact ⟨rfl, rfl⟩
  · have hb : isNum b = false := by rcases h with h | h; (rw [ha] at h; cases h); exact h
    clear h
    go_enter Try.func80, Try.ntmps80
    go_wp2_with (go_at_call 114; refine (spec_IsNumber _ _).mono ?_; rintro e w' ⟨rfl, rfl⟩)
    go_ret
    exact ⟨rfl, rfl⟩

end Go.Proofs.Ytpecjobpihinoaa

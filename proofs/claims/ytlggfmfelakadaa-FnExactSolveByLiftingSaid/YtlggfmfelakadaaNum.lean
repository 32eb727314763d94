/-
  DERIVED. The contracts of the small functions on numbers: impl.IsNumber, absInt, gcd, mod; spec.l1In, IsNumber, l1Abs, GcdOf, l8Mod; IsPrime of both.
-/
import Derived.Test.YtlggfmfelakadaaBase
namespace Go.Proofs.Ytlggfmfelakadaa
open Go.RowKit
set_option linter.unusedVariables false

theorem impl_IsNumber (n : Int) (w : World) : Calls Try.prog 65 #[.int .i64 n] w fun e w' => e = .returned (.bool (isNum n)) ∧ w = w' := by
  unfold isNum
  go_enter Try.func65, Try.ntmps65
  go_wp2
  all_goals go_ret
  all_goals refine ⟨ret_bool ?_, rfl⟩
  all_goals simp
  all_goals omega

theorem spec_l1In (x lo hi : Int) (w : World) : Calls Try.prog 101 #[.int .i64 x, .int .i64 lo, .int .i64 hi] w fun e w' => e = .returned (.bool (decide (lo ≤ x) && decide (x ≤ hi))) ∧ w = w' := by
  go_enter Try.func101, Try.ntmps101
  go_wp2
  all_goals go_ret
  all_goals refine ⟨ret_bool ?_, rfl⟩
  all_goals simp
  all_goals omega

theorem spec_IsNumber (n : Int) (w : World) : Calls Try.prog 111 #[.int .i64 n] w fun e w' => e = .returned (.bool (isNum n)) ∧ w = w' := by
  go_enter Try.func111, Try.ntmps111
  go_wp2_with (go_at_call 101; refine (spec_l1In _ _ _ _).mono ?_; rintro e w' ⟨rfl, rfl⟩)
  all_goals go_ret
  all_goals exact ⟨rfl, rfl⟩

theorem impl_IsNumber_yes (n : Int) (w : World) (h : -400000000 ≤ n ∧ n ≤ 400000000) : Calls Try.prog 65 #[.int .i64 n] w fun e w' => e = .returned (.bool true) ∧ w = w' := by
  have := impl_IsNumber n w
  rwa [(isNum_iff n).2 h] at this
theorem impl_IsNumber_no (n : Int) (w : World) (h : n < -400000000 ∨ 400000000 < n) : Calls Try.prog 65 #[.int .i64 n] w fun e w' => e = .returned (.bool false) ∧ w = w' := by
  have := impl_IsNumber n w
  rwa [(isNum_not n).2 h] at this
theorem spec_IsNumber_yes (n : Int) (w : World) (h : -400000000 ≤ n ∧ n ≤ 400000000) : Calls Try.prog 111 #[.int .i64 n] w fun e w' => e = .returned (.bool true) ∧ w = w' := by
  have := spec_IsNumber n w
  rwa [(isNum_iff n).2 h] at this
theorem spec_IsNumber_no (n : Int) (w : World) (h : n < -400000000 ∨ 400000000 < n) : Calls Try.prog 111 #[.int .i64 n] w fun e w' => e = .returned (.bool false) ∧ w = w' := by
  have := spec_IsNumber n w
  rwa [(isNum_not n).2 h] at this
theorem spec_l1In_yes (x lo hi : Int) (w : World) (h : lo ≤ x ∧ x ≤ hi) : Calls Try.prog 101 #[.int .i64 x, .int .i64 lo, .int .i64 hi] w fun e w' => e = .returned (.bool true) ∧ w = w' := by
  have := spec_l1In x lo hi w
  rwa [show (decide (lo ≤ x) && decide (x ≤ hi)) = true by simpa using h] at this
theorem spec_l1In_no (x lo hi : Int) (w : World) (h : x < lo ∨ hi < x) : Calls Try.prog 101 #[.int .i64 x, .int .i64 lo, .int .i64 hi] w fun e w' => e = .returned (.bool false) ∧ w = w' := by
  have := spec_l1In x lo hi w
  rwa [show (decide (lo ≤ x) && decide (x ≤ hi)) = false by simp; omega] at this

theorem impl_absInt (n : Int) (w : World) (h : -9223372036854775807 ≤ n) (h2 : n ≤ 9223372036854775807) : Calls Try.prog 71 #[.int .i64 n] w fun e w' => e = .returned (.int .i64 n.natAbs) ∧ w = w' := by
  go_enter Try.func71, Try.ntmps71
  go_wp2
  all_goals go_ret
  · exact ⟨ret_int (show -n = _ by omega), rfl⟩
  · exact ⟨ret_int (show n = _ by omega), rfl⟩

theorem spec_l1Abs (n : Int) (w : World) (h : -9223372036854775807 ≤ n) (h2 : n ≤ 9223372036854775807) : Calls Try.prog 131 #[.int .i64 n] w fun e w' => e = .returned (.int .i64 n.natAbs) ∧ w = w' := by
  go_enter Try.func131, Try.ntmps131
  go_wp2
  all_goals go_ret
  · exact ⟨ret_int (show -n = _ by omega), rfl⟩
  · exact ⟨ret_int (show n = _ by omega), rfl⟩

theorem impl_mod (a p : Int) (w : World) (hp : 0 < p) (hp2 : p ≤ 4000000000000000000) (h1 : -9223372036854775808 ≤ a) (h2 : a ≤ 9223372036854775807) : Calls Try.prog 108 #[.int .i64 a, .int .i64 p] w fun e w' => e = .returned (.int .i64 (a % p)) ∧ w = w' := by
  obtain ⟨hm1, hm2⟩ := tmod_lt a p hp
  have HA : Hid (a.tmod p < 0 → a % p = a.tmod p + p) := emod_of_tmod_neg a p hp
  have HB : Hid (0 ≤ a.tmod p → a % p = a.tmod p) := emod_of_tmod_nonneg a p hp
  go_enter Try.func108, Try.ntmps108
  go_wp2
  all_goals go_ret
  · exact ⟨ret_int (HA.out (by assumption)).symm, rfl⟩
  · exact ⟨ret_int (HB.out (by assumption)).symm, rfl⟩

theorem spec_l8Mod (a p : Int) (w : World) (hp : 0 < p) (hp2 : p ≤ 4000000000000000000) (h1 : -9223372036854775808 ≤ a) (h2 : a ≤ 9223372036854775807) : Calls Try.prog 75 #[.int .i64 a, .int .i64 p] w fun e w' => e = .returned (.int .i64 (a % p)) ∧ w = w' := by
  obtain ⟨hm1, hm2⟩ := tmod_lt a p hp
  have HA := Lib.hid (tmod_twice a p hp)
  go_enter Try.func75, Try.ntmps75
  go_wp2
  all_goals go_ret
  all_goals exact ⟨ret_int HA.out, rfl⟩

theorem impl_gcd (a b : Int) (w : World) (ha : -9223372036854775807 ≤ a) (ha2 : a ≤ 9223372036854775807) (hb : -9223372036854775807 ≤ b) (hb2 : b ≤ 9223372036854775807) :
    Calls Try.prog 121 #[.int .i64 a, .int .i64 b] w fun e w' => e = .returned (.int .i64 (Int.gcd a b)) ∧ ∃ n, w' = w.drewN n := by
  go_enter Try.func121, Try.ntmps121
  go_wp2
  go_loopw [0, 1] (fun u v wr => ∃ x y : Int, u = .int .i64 x ∧ v = .int .i64 y ∧ Int.gcd x y = Int.gcd a b ∧ (-9223372036854775807 ≤ x ∧ x ≤ 9223372036854775807 ∧ -9223372036854775807 ≤ y ∧ y ≤ 9223372036854775807) ∧ ∃ n, wr = w.drewN n) (fun _ v _ => (intOf v).natAbs)
  case atStart => exact ⟨a, b, rfl, rfl, rfl, ⟨ha, ha2, hb, hb2⟩, 0, rfl⟩
  case round =>
    obtain ⟨x, y, rfl, rfl, hg0, ⟨h1, h2, h3, h4⟩, n, rfl⟩ := hrel
    have hg := Lib.hid hg0
    clear hg0
    by_cases hy : y = 0
    · subst hy
      go_wp2_with (go_at_call 71; refine (impl_absInt _ _ (by omega) (by omega)).mono ?_; rintro e w' ⟨rfl, rfl⟩)
      go_ret
      exact ⟨ret_int (by rw [← hg.out]; simp), n, rfl⟩
    · have hyb : (y != 0) = true := by simpa using hy
      have hlt := natAbs_tmod_lt x y hy
      go_wp2
      go_region
      all_goals go_wp2
      all_goals go_roundw
      all_goals first
        | exact ⟨y, x.tmod y, rfl, rfl, by rw [gcd_tmod]; exact hg.out, ⟨h3, h4, by omega, by omega⟩, n + 1, rfl⟩
        | (simp only [intOf]; omega)

theorem spec_GcdOf (a b : Int) (w : World) (ha' : -400000000 ≤ a ∧ a ≤ 400000000) (hb' : -400000000 ≤ b ∧ b ≤ 400000000) :
    Calls Try.prog 130 #[.int .i64 a, .int .i64 b] w fun e w' => e = .returned (.int .i64 (Int.gcd a b)) ∧ ∃ n, w' = w.drewN n := by
  have ha := (isNum_iff a).2 ha'
  have hb := (isNum_iff b).2 hb'
  go_enter Try.func130, Try.ntmps130
  go_wp2_with (go_at_call 111; refine (spec_IsNumber _ _).mono ?_; rintro e w' ⟨rfl, rfl⟩)
  go_loopw [0, 1] (fun u v wr => ∃ x y : Int, u = .int .i64 x ∧ v = .int .i64 y ∧ Int.gcd x y = Int.gcd a b ∧ (-9223372036854775807 ≤ x ∧ x ≤ 9223372036854775807 ∧ -9223372036854775807 ≤ y ∧ y ≤ 9223372036854775807) ∧ ∃ n, wr = w.drewN n) (fun _ v _ => (intOf v).natAbs)
  case atStart => exact ⟨a, b, rfl, rfl, rfl, ⟨by omega, by omega, by omega, by omega⟩, 0, rfl⟩
  case round =>
    obtain ⟨x, y, rfl, rfl, hg0, ⟨h1, h2, h3, h4⟩, n, rfl⟩ := hrel
    have hg := Lib.hid hg0
    clear hg0
    by_cases hy : y = 0
    · subst hy
      go_wp2_with (go_at_call 131; refine (spec_l1Abs _ _ (by omega) (by omega)).mono ?_; rintro e w' ⟨rfl, rfl⟩)
      go_ret
      exact ⟨ret_int (by rw [← hg.out]; simp), n, rfl⟩
    · have hyb : (y != 0) = true := by simpa using hy
      have hlt := natAbs_tmod_lt x y hy
      go_wp2
      go_region
      all_goals go_wp2
      all_goals go_roundw
      all_goals first
        | exact ⟨y, x.tmod y, rfl, rfl, by rw [gcd_tmod]; exact hg.out, ⟨h3, h4, by omega, by omega⟩, n + 1, rfl⟩
        | (simp only [intOf]; omega)

theorem spec_GcdOf_out (a b : Int) (w : World) (h : isNum a = false ∨ isNum b = false) :
    Calls Try.prog 130 #[.int .i64 a, .int .i64 b] w fun e w' => e = .returned (.int .i64 0) ∧ w = w' := by
  rcases ha : isNum a with _ | _
  · go_enter Try.func130, Try.ntmps130
    go_wp2_with (go_at_call 111; refine (spec_IsNumber _ _).mono ?_; rintro e w' ⟨rfl, rfl⟩)
    go_ret
    exact ⟨rfl, rfl⟩
  · have hb : isNum b = false := by rcases h with h | h; (rw [ha] at h; cases h); exact h
    clear h
    go_enter Try.func130, Try.ntmps130
    go_wp2_with (go_at_call 111; refine (spec_IsNumber _ _).mono ?_; rintro e w' ⟨rfl, rfl⟩)
    go_ret
    exact ⟨rfl, rfl⟩

theorem impl_IsPrime (p : Int) (w : World) :
    Calls Try.prog 66 #[.int .i64 p] w fun e w' => e = .returned (.bool (isPr p)) ∧ w = w' := by
  by_cases h1 : p < 2
  · go_enter Try.func66, Try.ntmps66
    go_wp2
    go_ret
    exact ⟨ret_bool (by simp [isPr]; intro h; omega), rfl⟩
  by_cases h2 : 10000 < p
  · go_enter Try.func66, Try.ntmps66
    go_wp2
    go_ret
    exact ⟨ret_bool (by simp [isPr]; intro h; omega), rfl⟩
  have hres := Lib.hid (show isPr p = prFrom p 2 200 by simp [isPr, show (2 : Int) ≤ p by omega, show p ≤ 10000 by omega])
  go_enter Try.func66, Try.ntmps66
  go_wp2
  go_loop [3] (fun v => ∃ d : Int, v = .int .i64 d ∧ 2 ≤ d ∧ d ≤ 101 ∧ prFrom p d (202 - d).toNat = prFrom p 2 200) (fun v => (102 - intOf v).toNat)
  case atStart => exact ⟨2, rfl, by omega, by omega, rfl⟩
  case round =>
    obtain ⟨d, rfl, hd1, hd2, hg0⟩ := hrel
    have hg := Lib.hid hg0
    clear hg0
    obtain ⟨s1, s2⟩ := sq_le d 101 (by omega) hd2
    by_cases hlt : d * d ≤ p
    · have hle := le_of_sq d 100 p (by omega) hlt (by omega)
      have hd0 : (d == 0) = false := by simp; omega
      have hk : (202 - d).toNat = (202 - (d + 1)).toNat + 1 := by omega
      have hp := hg.out
      rw [hk, prFrom, if_pos hlt] at hp
      by_cases hm : p % d = 0
      · rw [if_pos hm] at hp
        have hmb : (p % d == 0) = true := by simpa using hm
        have hp' := Lib.hid hp
        clear hp hk
        go_wp2
        go_ret
        exact ⟨ret_bool (by rw [hres.out, ← hp'.out]), rfl⟩
      · rw [if_neg hm] at hp
        have hmb : (p % d == 0) = false := by simpa using hm
        have hp' := Lib.hid hp
        clear hp hk
        go_wp2
        go_round
        case rel => exact ⟨d + 1, rfl, by omega, by omega, hp'.out⟩
        case measure => simp [intOf]; omega
    · have hp := hg.out
      have hk : (202 - d).toNat = (201 - d).toNat + 1 := by omega
      rw [hk, prFrom, if_neg hlt] at hp
      have hp' := Lib.hid hp
      clear hp hk
      go_wp2
      go_ret
      exact ⟨ret_bool (by rw [hres.out, ← hp'.out]), rfl⟩

theorem spec_IsPrime (p : Int) (w : World) :
    Calls Try.prog 127 #[.int .i64 p] w fun e w' => e = .returned (.bool (isPr p)) ∧ w = w' := by
  by_cases h1 : p < 2
  · have hb : (decide ((2 : Int) ≤ p) && decide (p ≤ 10000)) = false := by simp; intro h; omega
    go_enter Try.func127, Try.ntmps127
    go_wp2_with (go_at_call 101; refine (spec_l1In _ _ _ _).mono ?_; rw [hb]; rintro e w' ⟨rfl, rfl⟩)
    go_ret
    exact ⟨ret_bool (by simp [isPr]; intro h; omega), rfl⟩
  by_cases h2 : 10000 < p
  · have hb : (decide ((2 : Int) ≤ p) && decide (p ≤ 10000)) = false := by simp; intro h; omega
    go_enter Try.func127, Try.ntmps127
    go_wp2_with (go_at_call 101; refine (spec_l1In _ _ _ _).mono ?_; rw [hb]; rintro e w' ⟨rfl, rfl⟩)
    go_ret
    exact ⟨ret_bool (by simp [isPr]; intro h; omega), rfl⟩
  have hb : (decide ((2 : Int) ≤ p) && decide (p ≤ 10000)) = true := by simp; omega
  have hres := Lib.hid (show isPr p = prFrom p 2 200 by simp [isPr, show (2 : Int) ≤ p by omega, show p ≤ 10000 by omega])
  go_enter Try.func127, Try.ntmps127
  go_wp2_with (go_at_call 101; refine (spec_l1In _ _ _ _).mono ?_; rw [hb]; rintro e w' ⟨rfl, rfl⟩)
  go_loop [3] (fun v => ∃ d : Int, v = .int .i64 d ∧ 2 ≤ d ∧ d ≤ 101 ∧ prFrom p d (202 - d).toNat = prFrom p 2 200) (fun v => (102 - intOf v).toNat)
  case atStart => exact ⟨2, rfl, by omega, by omega, rfl⟩
  case round =>
    obtain ⟨d, rfl, hd1, hd2, hg0⟩ := hrel
    have hg := Lib.hid hg0
    clear hg0
    obtain ⟨s1, s2⟩ := sq_le d 101 (by omega) hd2
    by_cases hlt : d * d ≤ p
    · have hle := le_of_sq d 100 p (by omega) hlt (by omega)
      have hd0 : (d == 0) = false := by simp; omega
      have hk : (202 - d).toNat = (202 - (d + 1)).toNat + 1 := by omega
      have hp := hg.out
      rw [hk, prFrom, if_pos hlt] at hp
      by_cases hm : p % d = 0
      · rw [if_pos hm] at hp
        have hmb : (p % d == 0) = true := by simpa using hm
        have hp' := Lib.hid hp
        clear hp hk
        go_wp2
        go_ret
        exact ⟨ret_bool (by rw [hres.out, ← hp'.out]), rfl⟩
      · rw [if_neg hm] at hp
        have hmb : (p % d == 0) = false := by simpa using hm
        have hp' := Lib.hid hp
        clear hp hk
        go_wp2
        go_round
        case rel => exact ⟨d + 1, rfl, by omega, by omega, hp'.out⟩
        case measure => simp [intOf]; omega
    · have hp := hg.out
      have hk : (202 - d).toNat = (201 - d).toNat + 1 := by omega
      rw [hk, prFrom, if_neg hlt] at hp
      have hp' := Lib.hid hp
      clear hp hk
      go_wp2
      go_ret
      exact ⟨ret_bool (by rw [hres.out, ← hp'.out]), rfl⟩

end Go.Proofs.Ytlggfmfelakadaa

/-
  DERIVED. The contracts of IsImage, both.
-/
import Derived.Test.YtlggfmfelakadaaRatx
namespace Go.Proofs.Ytlggfmfelakadaa
open Go.RowKit
set_option linter.unusedVariables false
def imgOk (n d a m : Int) : Bool := ratOk n d && isNum a && decide (1 ≤ m) && decide (m ≤ 400000000) && decide (Int.gcd d m = 1) && decide ((a * d - n) % m = 0)
theorem imgOk_iff (n d a m : Int) : imgOk n d a m = true ↔ ratOk n d = true ∧ (-400000000 ≤ a ∧ a ≤ 400000000) ∧ (1 ≤ m ∧ m ≤ 400000000) ∧ Int.gcd d m = 1 ∧ (a * d - n) % m = 0 := by
  simp [imgOk, isNum, and_assoc]
theorem imgOk_not (n d a m : Int) (h : ¬ (ratOk n d = true ∧ (-400000000 ≤ a ∧ a ≤ 400000000) ∧ (1 ≤ m ∧ m ≤ 400000000) ∧ Int.gcd d m = 1 ∧ (a * d - n) % m = 0)) : imgOk n d a m = false := by
  rw [← Bool.not_eq_true, imgOk_iff]; exact h
/-- The bounds that a ratio brings. -/
theorem ratOk_bds {n d : Int} (h : ratOk n d = true) : 1 ≤ d ∧ d ≤ 400000000 ∧ -400000000 ≤ n ∧ n ≤ 400000000 := by
  have := (ratOk_iff n d).1 h; omega
theorem beq1 {x : Nat} : ((x : Int) == 1) = decide (x = 1) := by
  rw [Bool.eq_iff_iff]; simp; omega
theorem img_cases (n d a m : Int) : (imgOk n d a m = false ∧ ratOk n d = false) ∨ (imgOk n d a m = false ∧ ratOk n d = true ∧ (a < -400000000 ∨ 400000000 < a)) ∨
    (imgOk n d a m = false ∧ ratOk n d = true ∧ (-400000000 ≤ a ∧ a ≤ 400000000) ∧ m < 1) ∨ (imgOk n d a m = false ∧ ratOk n d = true ∧ (-400000000 ≤ a ∧ a ≤ 400000000) ∧ 1 ≤ m ∧ 400000000 < m) ∨
    (imgOk n d a m = false ∧ ratOk n d = true ∧ (-400000000 ≤ a ∧ a ≤ 400000000) ∧ (1 ≤ m ∧ m ≤ 400000000) ∧ (((Int.gcd d m : Nat) : Int) == 1) = false) ∨
    (imgOk n d a m = false ∧ ratOk n d = true ∧ (-400000000 ≤ a ∧ a ≤ 400000000) ∧ (1 ≤ m ∧ m ≤ 400000000) ∧ (((Int.gcd d m : Nat) : Int) == 1) = true ∧ ((a * d - n) % m == 0) = false ∧ ((a * d - n).tmod m == 0) = false) ∨
    (imgOk n d a m = true ∧ ratOk n d = true ∧ (-400000000 ≤ a ∧ a ≤ 400000000) ∧ (1 ≤ m ∧ m ≤ 400000000) ∧ (((Int.gcd d m : Nat) : Int) == 1) = true ∧ ((a * d - n) % m == 0) = true ∧ ((a * d - n).tmod m == 0) = true) := by
  have ht := tmod_zero_iff (a * d - n) m
  have hi := imgOk_iff n d a m
  have hn := imgOk_not n d a m
  rw [beq1]
  simp only [beq_iff_eq, beq_eq_false_iff_ne, decide_eq_true_eq, decide_eq_false_iff_not, ne_eq]
  generalize (a * d - n) % m = u at *
  generalize (a * d - n).tmod m = t at *
  generalize Int.gcd d m = g at *
  rcases hr : ratOk n d with _ | _
  · exact .inl ⟨hn (by simp [hr]), rfl⟩
  · simp only [hr, true_and] at hi hn
    by_cases h1 : -400000000 ≤ a ∧ a ≤ 400000000
    · by_cases h2 : m < 1
      · exact .inr (.inr (.inl ⟨hn (by omega), rfl, h1, h2⟩))
      · by_cases h3 : 400000000 < m
        · exact .inr (.inr (.inr (.inl ⟨hn (by omega), rfl, h1, by omega, h3⟩)))
        · by_cases h4 : g = 1
          · by_cases h5 : u = 0
            · exact .inr (.inr (.inr (.inr (.inr (.inr ⟨hi.2 (by omega), rfl, h1, by omega, h4, h5, by omega⟩)))))
            · exact .inr (.inr (.inr (.inr (.inr (.inl ⟨hn (by omega), rfl, h1, by omega, h4, h5, by omega⟩)))))
          · exact .inr (.inr (.inr (.inr (.inl ⟨hn (by omega), rfl, h1, by omega, h4⟩))))
    · exact .inr (.inl ⟨hn (by omega), rfl, by omega⟩)

set_option maxHeartbeats 1000000 in
theorem impl_IsImage (n d a m : Int) (w : World) : Calls Try.prog 115 #[.agg #[.int .i64 n, .int .i64 d], .int .i64 a, .int .i64 m] w (BV (.bool (imgOk n d a m)) w) := by
  rcases img_cases n d a m with ⟨hr, h0⟩ | ⟨hr, h0, h1⟩ | ⟨hr, h0, h1, h2⟩ | ⟨hr, h0, h1, h2, h3⟩ | ⟨hr, h0, h1, h2, h3⟩ | ⟨hr, h0, ⟨h1, h1'⟩, ⟨h2, h2'⟩, h3, h4, h5⟩ | ⟨hr, h0, ⟨h1, h1'⟩, ⟨h2, h2'⟩, h3, h4, h5⟩
  · rw [hr]
    clear hr
    go_enter Try.func115, Try.ntmps115
    go_wp2_with (first | (go_at_call 90; refine (impl_IsRatio _ _ _).mono ?_; rintro e w1 ⟨rfl, hb⟩; have hz := hb.size; (try simp at hz); have kk := bkeep (w := w) hb Ks; obtain ⟨kc, kf⟩ := kk; (try (have kk := bkeepb (w.heap.size) hb Ks; obtain ⟨kc0, kf0, kl0⟩ := kk)); (try (have kk := bkeepb (w.heap.size + 1) hb Ks; obtain ⟨kc1, kf1, kl1⟩ := kk)); (try (have kk := bkeepb (w.heap.size + 1 + 1) hb Ks; obtain ⟨kc2, kf2, kl2⟩ := kk)); (try (have kk := bkeepb (w.heap.size + 1 + 1 + 1) hb Ks; obtain ⟨kc3, kf3, kl3⟩ := kk)); (try (have kk := bkeepb (wr.heap.size) hb Ks; obtain ⟨kr0, ks0, kt0⟩ := kk)); (try (have kk := bkeepb (wr.heap.size + 1) hb Ks; obtain ⟨kr1, ks1, kt1⟩ := kk)); (try (have kk := bkeepb (wr.heap.size + 1 + 1) hb Ks; obtain ⟨kr2, ks2, kt2⟩ := kk))))
    go_ret
    exact BV.mk rfl Kw
  iterate 3
    · rw [hr]
      clear hr
      obtain ⟨b1, b2, b3, b4⟩ := ratOk_bds h0
      go_enter Try.func115, Try.ntmps115
      go_wp2_with (first | (go_at_call 90; refine (impl_IsRatio _ _ _).mono ?_; rintro e w1 ⟨rfl, hb⟩; have hz := hb.size; (try simp at hz); have kk := bkeep (w := w) hb Ks; obtain ⟨kc, kf⟩ := kk; (try (have kk := bkeepb (w.heap.size) hb Ks; obtain ⟨kc0, kf0, kl0⟩ := kk)); (try (have kk := bkeepb (w.heap.size + 1) hb Ks; obtain ⟨kc1, kf1, kl1⟩ := kk)); (try (have kk := bkeepb (w.heap.size + 1 + 1) hb Ks; obtain ⟨kc2, kf2, kl2⟩ := kk)); (try (have kk := bkeepb (w.heap.size + 1 + 1 + 1) hb Ks; obtain ⟨kc3, kf3, kl3⟩ := kk)); (try (have kk := bkeepb (wr.heap.size) hb Ks; obtain ⟨kr0, ks0, kt0⟩ := kk)); (try (have kk := bkeepb (wr.heap.size + 1) hb Ks; obtain ⟨kr1, ks1, kt1⟩ := kk)); (try (have kk := bkeepb (wr.heap.size + 1 + 1) hb Ks; obtain ⟨kr2, ks2, kt2⟩ := kk))) | (go_at_call 65; (first | refine (impl_IsNumber_yes _ _ (by omega)).mono ?_ | refine (impl_IsNumber_no _ _ (by omega)).mono ?_ | refine (impl_IsNumber _ _).mono ?_); rintro e w' ⟨rfl, rfl⟩) | (go_at_call 121; refine (impl_gcd _ _ _ (by omega) (by omega) (by omega) (by omega)).mono ?_; rintro e w' ⟨rfl, nd, rfl⟩))
      go_ret
      exact BV.mk rfl Kw
  · rw [hr]
    clear hr
    obtain ⟨b1, b2, b3, b4⟩ := ratOk_bds h0
    have h3' : (((Int.gcd d m : Nat) : Int) != 1) = true := by rw [bne, h3]; rfl
    go_enter Try.func115, Try.ntmps115
    go_wp2_with (first | (go_at_call 90; refine (impl_IsRatio _ _ _).mono ?_; rintro e w1 ⟨rfl, hb⟩; have hz := hb.size; (try simp at hz); have kk := bkeep (w := w) hb Ks; obtain ⟨kc, kf⟩ := kk; (try (have kk := bkeepb (w.heap.size) hb Ks; obtain ⟨kc0, kf0, kl0⟩ := kk)); (try (have kk := bkeepb (w.heap.size + 1) hb Ks; obtain ⟨kc1, kf1, kl1⟩ := kk)); (try (have kk := bkeepb (w.heap.size + 1 + 1) hb Ks; obtain ⟨kc2, kf2, kl2⟩ := kk)); (try (have kk := bkeepb (w.heap.size + 1 + 1 + 1) hb Ks; obtain ⟨kc3, kf3, kl3⟩ := kk)); (try (have kk := bkeepb (wr.heap.size) hb Ks; obtain ⟨kr0, ks0, kt0⟩ := kk)); (try (have kk := bkeepb (wr.heap.size + 1) hb Ks; obtain ⟨kr1, ks1, kt1⟩ := kk)); (try (have kk := bkeepb (wr.heap.size + 1 + 1) hb Ks; obtain ⟨kr2, ks2, kt2⟩ := kk))) | (go_at_call 65; (first | refine (impl_IsNumber_yes _ _ (by omega)).mono ?_ | refine (impl_IsNumber_no _ _ (by omega)).mono ?_ | refine (impl_IsNumber _ _).mono ?_); rintro e w' ⟨rfl, rfl⟩) | (go_at_call 121; refine (impl_gcd _ _ _ (by omega) (by omega) (by omega) (by omega)).mono ?_; rintro e w' ⟨rfl, nd, rfl⟩))
    go_ret
    exact BV.mk rfl Kw
  all_goals
    rw [hr]
    clear hr
    obtain ⟨b1, b2, b3, b4⟩ := ratOk_bds h0
    obtain ⟨c1, c2⟩ := mul_bd2 a d 400000000 400000000 h1 h1' (by omega) b2
    have h3' : (((Int.gcd d m : Nat) : Int) != 1) = false := by rw [bne, h3]; rfl
    have h6 := mod_mul_sub a d n m
    rw [← h6] at h4
    clear h6
    have e1 := Int.emod_nonneg a (show m ≠ 0 by omega)
    have e2 := Int.emod_lt_of_pos a (show 0 < m by omega)
    have e3 := Int.emod_nonneg d (show m ≠ 0 by omega)
    have e4 := Int.emod_lt_of_pos d (show 0 < m by omega)
    obtain ⟨e5, e6⟩ := mul_bd (a % m) (d % m) 400000000 400000000 e1 (by omega) e3 (by omega)
    go_enter Try.func115, Try.ntmps115
    go_wp2_with (first | (go_at_call 90; refine (impl_IsRatio _ _ _).mono ?_; rintro e w1 ⟨rfl, hb⟩; have hz := hb.size; (try simp at hz); have kk := bkeep (w := w) hb Ks; obtain ⟨kc, kf⟩ := kk; (try (have kk := bkeepb (w.heap.size) hb Ks; obtain ⟨kc0, kf0, kl0⟩ := kk)); (try (have kk := bkeepb (w.heap.size + 1) hb Ks; obtain ⟨kc1, kf1, kl1⟩ := kk)); (try (have kk := bkeepb (w.heap.size + 1 + 1) hb Ks; obtain ⟨kc2, kf2, kl2⟩ := kk)); (try (have kk := bkeepb (w.heap.size + 1 + 1 + 1) hb Ks; obtain ⟨kc3, kf3, kl3⟩ := kk)); (try (have kk := bkeepb (wr.heap.size) hb Ks; obtain ⟨kr0, ks0, kt0⟩ := kk)); (try (have kk := bkeepb (wr.heap.size + 1) hb Ks; obtain ⟨kr1, ks1, kt1⟩ := kk)); (try (have kk := bkeepb (wr.heap.size + 1 + 1) hb Ks; obtain ⟨kr2, ks2, kt2⟩ := kk))) | (go_at_call 65; (first | refine (impl_IsNumber_yes _ _ (by omega)).mono ?_ | refine (impl_IsNumber_no _ _ (by omega)).mono ?_ | refine (impl_IsNumber _ _).mono ?_); rintro e w' ⟨rfl, rfl⟩) | (go_at_call 121; refine (impl_gcd _ _ _ (by omega) (by omega) (by omega) (by omega)).mono ?_; rintro e w' ⟨rfl, nd, rfl⟩))
    go_ret
    exact BV.mk rfl Kw

set_option maxHeartbeats 1000000 in
theorem spec_IsImage (n d a m : Int) (w : World) : Calls Try.prog 114 #[.agg #[.int .i64 n, .int .i64 d], .int .i64 a, .int .i64 m] w (BV (.bool (imgOk n d a m)) w) := by
  rcases img_cases n d a m with ⟨hr, h0⟩ | ⟨hr, h0, h1⟩ | ⟨hr, h0, h1, h2⟩ | ⟨hr, h0, h1, h2, h3⟩ | ⟨hr, h0, h1, h2, h3⟩ | ⟨hr, h0, ⟨h1, h1'⟩, ⟨h2, h2'⟩, h3, h4, h5⟩ | ⟨hr, h0, ⟨h1, h1'⟩, ⟨h2, h2'⟩, h3, h4, h5⟩
  · rw [hr]
    clear hr
    go_enter Try.func114, Try.ntmps114
    go_wp2_with (first | (go_at_call 122; refine (spec_IsRatio _ _ _).mono ?_; rintro e w1 ⟨rfl, hb⟩; have hz := hb.size; (try simp at hz); have kk := bkeep (w := w) hb Ks; obtain ⟨kc, kf⟩ := kk; (try (have kk := bkeepb (w.heap.size) hb Ks; obtain ⟨kc0, kf0, kl0⟩ := kk)); (try (have kk := bkeepb (w.heap.size + 1) hb Ks; obtain ⟨kc1, kf1, kl1⟩ := kk)); (try (have kk := bkeepb (w.heap.size + 1 + 1) hb Ks; obtain ⟨kc2, kf2, kl2⟩ := kk)); (try (have kk := bkeepb (w.heap.size + 1 + 1 + 1) hb Ks; obtain ⟨kc3, kf3, kl3⟩ := kk)); (try (have kk := bkeepb (wr.heap.size) hb Ks; obtain ⟨kr0, ks0, kt0⟩ := kk)); (try (have kk := bkeepb (wr.heap.size + 1) hb Ks; obtain ⟨kr1, ks1, kt1⟩ := kk)); (try (have kk := bkeepb (wr.heap.size + 1 + 1) hb Ks; obtain ⟨kr2, ks2, kt2⟩ := kk))))
    go_ret
    exact BV.mk rfl Kw
  iterate 3
    · rw [hr]
      clear hr
      obtain ⟨b1, b2, b3, b4⟩ := ratOk_bds h0
      go_enter Try.func114, Try.ntmps114
      go_wp2_with (first | (go_at_call 122; refine (spec_IsRatio _ _ _).mono ?_; rintro e w1 ⟨rfl, hb⟩; have hz := hb.size; (try simp at hz); have kk := bkeep (w := w) hb Ks; obtain ⟨kc, kf⟩ := kk; (try (have kk := bkeepb (w.heap.size) hb Ks; obtain ⟨kc0, kf0, kl0⟩ := kk)); (try (have kk := bkeepb (w.heap.size + 1) hb Ks; obtain ⟨kc1, kf1, kl1⟩ := kk)); (try (have kk := bkeepb (w.heap.size + 1 + 1) hb Ks; obtain ⟨kc2, kf2, kl2⟩ := kk)); (try (have kk := bkeepb (w.heap.size + 1 + 1 + 1) hb Ks; obtain ⟨kc3, kf3, kl3⟩ := kk)); (try (have kk := bkeepb (wr.heap.size) hb Ks; obtain ⟨kr0, ks0, kt0⟩ := kk)); (try (have kk := bkeepb (wr.heap.size + 1) hb Ks; obtain ⟨kr1, ks1, kt1⟩ := kk)); (try (have kk := bkeepb (wr.heap.size + 1 + 1) hb Ks; obtain ⟨kr2, ks2, kt2⟩ := kk))) | (go_at_call 111; (first | refine (spec_IsNumber_yes _ _ (by omega)).mono ?_ | refine (spec_IsNumber_no _ _ (by omega)).mono ?_ | refine (spec_IsNumber _ _).mono ?_); rintro e w' ⟨rfl, rfl⟩) | (go_at_call 130; refine (spec_GcdOf _ _ _ (by omega) (by omega)).mono ?_; rintro e w' ⟨rfl, nd, rfl⟩) | (go_at_call 101; (first | refine (spec_l1In_yes _ _ _ _ (by omega)).mono ?_ | refine (spec_l1In_no _ _ _ _ (by omega)).mono ?_ | refine (spec_l1In _ _ _ _).mono ?_); rintro e w' ⟨rfl, rfl⟩) | (go_at_call 75; refine (spec_l8Mod _ _ _ (by omega) (by omega) (by omega) (by omega)).mono ?_; rintro e w' ⟨rfl, rfl⟩))
      go_ret
      exact BV.mk rfl Kw
  · rw [hr]
    clear hr
    obtain ⟨b1, b2, b3, b4⟩ := ratOk_bds h0
    have h3' : (((Int.gcd d m : Nat) : Int) != 1) = true := by rw [bne, h3]; rfl
    go_enter Try.func114, Try.ntmps114
    go_wp2_with (first | (go_at_call 122; refine (spec_IsRatio _ _ _).mono ?_; rintro e w1 ⟨rfl, hb⟩; have hz := hb.size; (try simp at hz); have kk := bkeep (w := w) hb Ks; obtain ⟨kc, kf⟩ := kk; (try (have kk := bkeepb (w.heap.size) hb Ks; obtain ⟨kc0, kf0, kl0⟩ := kk)); (try (have kk := bkeepb (w.heap.size + 1) hb Ks; obtain ⟨kc1, kf1, kl1⟩ := kk)); (try (have kk := bkeepb (w.heap.size + 1 + 1) hb Ks; obtain ⟨kc2, kf2, kl2⟩ := kk)); (try (have kk := bkeepb (w.heap.size + 1 + 1 + 1) hb Ks; obtain ⟨kc3, kf3, kl3⟩ := kk)); (try (have kk := bkeepb (wr.heap.size) hb Ks; obtain ⟨kr0, ks0, kt0⟩ := kk)); (try (have kk := bkeepb (wr.heap.size + 1) hb Ks; obtain ⟨kr1, ks1, kt1⟩ := kk)); (try (have kk := bkeepb (wr.heap.size + 1 + 1) hb Ks; obtain ⟨kr2, ks2, kt2⟩ := kk))) | (go_at_call 111; (first | refine (spec_IsNumber_yes _ _ (by omega)).mono ?_ | refine (spec_IsNumber_no _ _ (by omega)).mono ?_ | refine (spec_IsNumber _ _).mono ?_); rintro e w' ⟨rfl, rfl⟩) | (go_at_call 130; refine (spec_GcdOf _ _ _ (by omega) (by omega)).mono ?_; rintro e w' ⟨rfl, nd, rfl⟩) | (go_at_call 101; (first | refine (spec_l1In_yes _ _ _ _ (by omega)).mono ?_ | refine (spec_l1In_no _ _ _ _ (by omega)).mono ?_ | refine (spec_l1In _ _ _ _).mono ?_); rintro e w' ⟨rfl, rfl⟩) | (go_at_call 75; refine (spec_l8Mod _ _ _ (by omega) (by omega) (by omega) (by omega)).mono ?_; rintro e w' ⟨rfl, rfl⟩))
    go_ret
    exact BV.mk rfl Kw
  all_goals
    rw [hr]
    clear hr
    obtain ⟨b1, b2, b3, b4⟩ := ratOk_bds h0
    obtain ⟨c1, c2⟩ := mul_bd2 a d 400000000 400000000 h1 h1' (by omega) b2
    have h3' : (((Int.gcd d m : Nat) : Int) != 1) = false := by rw [bne, h3]; rfl
    have h6 := mod_mul_sub a d n m
    rw [← h6] at h4
    clear h6
    have e1 := Int.emod_nonneg a (show m ≠ 0 by omega)
    have e2 := Int.emod_lt_of_pos a (show 0 < m by omega)
    have e3 := Int.emod_nonneg d (show m ≠ 0 by omega)
    have e4 := Int.emod_lt_of_pos d (show 0 < m by omega)
    obtain ⟨e5, e6⟩ := mul_bd (a % m) (d % m) 400000000 400000000 e1 (by omega) e3 (by omega)
    go_enter Try.func114, Try.ntmps114
    go_wp2_with (first | (go_at_call 122; refine (spec_IsRatio _ _ _).mono ?_; rintro e w1 ⟨rfl, hb⟩; have hz := hb.size; (try simp at hz); have kk := bkeep (w := w) hb Ks; obtain ⟨kc, kf⟩ := kk; (try (have kk := bkeepb (w.heap.size) hb Ks; obtain ⟨kc0, kf0, kl0⟩ := kk)); (try (have kk := bkeepb (w.heap.size + 1) hb Ks; obtain ⟨kc1, kf1, kl1⟩ := kk)); (try (have kk := bkeepb (w.heap.size + 1 + 1) hb Ks; obtain ⟨kc2, kf2, kl2⟩ := kk)); (try (have kk := bkeepb (w.heap.size + 1 + 1 + 1) hb Ks; obtain ⟨kc3, kf3, kl3⟩ := kk)); (try (have kk := bkeepb (wr.heap.size) hb Ks; obtain ⟨kr0, ks0, kt0⟩ := kk)); (try (have kk := bkeepb (wr.heap.size + 1) hb Ks; obtain ⟨kr1, ks1, kt1⟩ := kk)); (try (have kk := bkeepb (wr.heap.size + 1 + 1) hb Ks; obtain ⟨kr2, ks2, kt2⟩ := kk))) | (go_at_call 111; (first | refine (spec_IsNumber_yes _ _ (by omega)).mono ?_ | refine (spec_IsNumber_no _ _ (by omega)).mono ?_ | refine (spec_IsNumber _ _).mono ?_); rintro e w' ⟨rfl, rfl⟩) | (go_at_call 130; refine (spec_GcdOf _ _ _ (by omega) (by omega)).mono ?_; rintro e w' ⟨rfl, nd, rfl⟩) | (go_at_call 101; (first | refine (spec_l1In_yes _ _ _ _ (by omega)).mono ?_ | refine (spec_l1In_no _ _ _ _ (by omega)).mono ?_ | refine (spec_l1In _ _ _ _).mono ?_); rintro e w' ⟨rfl, rfl⟩) | (go_at_call 75; refine (spec_l8Mod _ _ _ (by omega) (by omega) (by omega) (by omega)).mono ?_; rintro e w' ⟨rfl, rfl⟩))
    go_quiet ((go_at_call 75; first | exact quiet_add_left (spec_l8Mod _ _ _ (by omega) (by omega) (by omega) (by omega)) | exact quiet_left (spec_l8Mod _ _ _ (by omega) (by omega) (by omega) (by omega))))
    go_wp2
    go_ret
    exact BV.mk rfl Kw

end Go.Proofs.Ytlggfmfelakadaa

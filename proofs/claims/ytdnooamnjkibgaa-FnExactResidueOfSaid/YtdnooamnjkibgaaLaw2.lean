/-
  DERIVED. The contracts of the laws FnExactSymmetricOf, FnExactIsImage.
-/
import Derived.Test.YtdnooamnjkibgaaImg
namespace Go.Proofs.Ytdnooamnjkibgaa
open Go.RowKit
set_option linter.unusedVariables false
theorem law_FnExactSymmetricOf (x : Int) (hx : -9223372036854775808 ≤ x ∧ x ≤ 9223372036854775807) (m : Int) (hm : -9223372036854775808 ≤ m ∧ m ≤ 9223372036854775807) (w : World) :
    Calls Try.prog 4 #[.int .i64 x, .int .i64 m] w fun e w' => e = .returned (.bool true) ∧ Below w.heap.size w w' := by
  go_enter Try.func4, Try.ntmps4
  go_wp2_with (first | (go_at_call 18; refine (impl_SymmetricOf _ _ (by omega) _).mono ?_; rintro e w' ⟨rfl, rfl⟩) | (go_at_call 17; refine (spec_SymmetricOf _ _ (by omega) _).mono ?_; rintro e w' ⟨rfl, rfl⟩))
  all_goals go_ret
  all_goals exact ⟨rfl, Below.refl _ _⟩

theorem laws_toRatio (a b : Int) (w : World) : Calls Try.prog 20 #[.agg #[.int .i64 a, .int .i64 b]] w (BV (.agg #[.int .i64 a, .int .i64 b]) w) := by
  go_enter Try.func20, Try.ntmps20
  go_wp2_with fail
  go_returns
  exact BV.mk rfl (by (repeat (first | (with_reducible exact Below.refl _ _) | (with_reducible assumption) | (with_reducible refine below_drewN ?_ _) | (with_reducible refine Below.drew ?_) | (with_reducible refine Below.alloc ?_ ?_ _) | (with_reducible refine Below.setCell ?_ ?_ _) | (with_reducible refine below_into ?_ (by assumption) ?_) | go_size)))

theorem law_FnExactIsImage (n : Int) (hn : -9223372036854775808 ≤ n ∧ n ≤ 9223372036854775807) (d : Int) (hd : -9223372036854775808 ≤ d ∧ d ≤ 9223372036854775807)
    (a : Int) (ha : -9223372036854775808 ≤ a ∧ a ≤ 9223372036854775807) (m : Int) (hm : -9223372036854775808 ≤ m ∧ m ≤ 9223372036854775807) (w : World) :
    Calls Try.prog 5 #[.agg #[.int .i64 n, .int .i64 d], .int .i64 a, .int .i64 m] w fun e w' => e = .returned (.bool true) ∧ Below w.heap.size w w' := by
  go_enter Try.func5, Try.ntmps5
  go_wp2_with (first | (go_at_call 21; refine (impl_IsImage _ _ _ _ _).mono ?_; rintro e w1 ⟨rfl, hb⟩; have hz := hb.size; (try simp at hz); have kk := bkeep (w := w) hb (by first | omega | (simp; done) | (simp; omega)); obtain ⟨kc, kf⟩ := kk; (try (have kk := bkeepk (w := w) 0 hb (by first | omega | (simp; done) | (simp; omega)); obtain ⟨kc0, kf0⟩ := kk; simp only [Nat.add_zero] at kc0 kf0)); (try (have kk := bkeepk (w := w) 1 hb (by first | omega | (simp; done) | (simp; omega)); obtain ⟨kc1, kf1⟩ := kk)); (try (have kk := bkeepk (w := w) 2 hb (by first | omega | (simp; done) | (simp; omega)); obtain ⟨kc2, kf2⟩ := kk))) | (go_at_call 19; refine (spec_IsImage _ _ _ _ _).mono ?_; rintro e w1 ⟨rfl, hb⟩; have hz := hb.size; (try simp at hz); have kk := bkeep (w := w) hb (by first | omega | (simp; done) | (simp; omega)); obtain ⟨kc, kf⟩ := kk; (try (have kk := bkeepk (w := w) 0 hb (by first | omega | (simp; done) | (simp; omega)); obtain ⟨kc0, kf0⟩ := kk; simp only [Nat.add_zero] at kc0 kf0)); (try (have kk := bkeepk (w := w) 1 hb (by first | omega | (simp; done) | (simp; omega)); obtain ⟨kc1, kf1⟩ := kk)); (try (have kk := bkeepk (w := w) 2 hb (by first | omega | (simp; done) | (simp; omega)); obtain ⟨kc2, kf2⟩ := kk))) | (go_at_call 20; refine (laws_toRatio _ _ _).mono ?_; rintro e w1 ⟨rfl, hb⟩; have hz := hb.size; (try simp at hz); have kk := bkeep (w := w) hb (by first | omega | (simp; done) | (simp; omega)); obtain ⟨kc, kf⟩ := kk; (try (have kk := bkeepk (w := w) 0 hb (by first | omega | (simp; done) | (simp; omega)); obtain ⟨kc0, kf0⟩ := kk; simp only [Nat.add_zero] at kc0 kf0)); (try (have kk := bkeepk (w := w) 1 hb (by first | omega | (simp; done) | (simp; omega)); obtain ⟨kc1, kf1⟩ := kk)); (try (have kk := bkeepk (w := w) 2 hb (by first | omega | (simp; done) | (simp; omega)); obtain ⟨kc2, kf2⟩ := kk))))
  go_ret
  exact ⟨rfl, by (repeat (first | (with_reducible exact Below.refl _ _) | (with_reducible assumption) | (with_reducible refine below_drewN ?_ _) | (with_reducible refine Below.drew ?_) | (with_reducible refine Below.alloc ?_ ?_ _) | (with_reducible refine Below.setCell ?_ ?_ _) | (with_reducible refine below_into ?_ (by assumption) ?_) | go_size))⟩
end Go.Proofs.Ytdnooamnjkibgaa

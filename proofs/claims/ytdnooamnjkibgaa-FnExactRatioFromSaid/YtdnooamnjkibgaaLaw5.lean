/-
  DERIVED. The law FnExactRatioFrom.
-/
import Derived.Test.YtdnooamnjkibgaaRatioFrom2
namespace Go.Proofs.Ytdnooamnjkibgaa
open Go.RowKit
set_option linter.unusedVariables false
theorem laws_eqRatio (a b : Int) (w : World) : Calls Try.prog 30 #[.agg #[.int .i64 a, .int .i64 b], .agg #[.int .i64 a, .int .i64 b]] w (BV (.bool true) w) := by
  have b1 : (a != a) = false := by simp
  have b2 : (b != b) = false := by simp
  go_enter Try.func30, Try.ntmps30
  go_wp2
  go_ret
  exact BV.mk rfl (by (repeat (first | (with_reducible exact Below.refl _ _) | (with_reducible assumption) | (with_reducible refine below_drewN ?_ _) | (with_reducible refine Below.drew ?_) | (with_reducible refine Below.alloc ?_ ?_ _) | (with_reducible refine Below.setCell ?_ ?_ _) | (with_reducible refine below_into ?_ (by assumption) ?_) | go_size)))
theorem law_FnExactRatioFrom (a : Int) (ha : -9223372036854775808 ≤ a ∧ a ≤ 9223372036854775807) (m : Int) (hm : -9223372036854775808 ≤ m ∧ m ≤ 9223372036854775807) (b : Int) (hb : -9223372036854775808 ≤ b ∧ b ≤ 9223372036854775807) (w : World) :
    Calls Try.prog 8 #[.int .i64 a, .int .i64 m, .int .i64 b] w fun e w' => e = .returned (.bool true) ∧ Below w.heap.size w w' := by
  rcases hr : rfRes a m b with _ | ⟨n, d⟩
  all_goals
    have HR := Lib.hid hr
    clear hr
    go_enter Try.func8, Try.ntmps8
    go_wp2_with fail
    refine (spec_RatioFrom a m b _).mono ?_
    rintro e w1 ⟨rfl, hb⟩
    rw [HR.out]
    simp only [rfV]
    have hz := hb.size; (try simp at hz); have kk := bkeep (w := w) hb (by first | omega | (simp; done) | (simp; omega)); obtain ⟨kc, kf⟩ := kk; (try (have kk := bkeepb (w.heap.size) hb (by first | omega | (simp; done) | (simp; omega)); obtain ⟨kc0, kf0, kl0⟩ := kk)); (try (have kk := bkeepb (w.heap.size + 1) hb (by first | omega | (simp; done) | (simp; omega)); obtain ⟨kc1, kf1, kl1⟩ := kk)); (try (have kk := bkeepb (w.heap.size + 1 + 1) hb (by first | omega | (simp; done) | (simp; omega)); obtain ⟨kc2, kf2, kl2⟩ := kk)); (try (have kk := bkeepb (w.heap.size + 1 + 1 + 1) hb (by first | omega | (simp; done) | (simp; omega)); obtain ⟨kc3, kf3, kl3⟩ := kk)); (try (have kk := bkeepb (wr.heap.size) hb (by first | omega | (simp; done) | (simp; omega)); obtain ⟨kr0, ks0, kt0⟩ := kk)); (try (have kk := bkeepb (wr.heap.size + 1) hb (by first | omega | (simp; done) | (simp; omega)); obtain ⟨kr1, ks1, kt1⟩ := kk)); (try (have kk := bkeepb (wr.heap.size + 1 + 1) hb (by first | omega | (simp; done) | (simp; omega)); obtain ⟨kr2, ks2, kt2⟩ := kk))
    go_wp2_with fail
    refine (impl_RatioFrom a m b _).mono ?_
    rintro e w2 ⟨rfl, hb2⟩
    rw [HR.out]
    simp only [rfV]
    have hz2 := hb2.size; (try simp at hz2); have kk := bkeep (w := w) hb2 (by first | omega | (simp; done) | (simp; omega)); obtain ⟨kc2_, kf2_⟩ := kk; have kk := bkeepb (w1.heap.size) hb2 (by first | omega | (simp; done) | (simp; omega)); obtain ⟨kc2_0, kf2_0, kl2_0⟩ := kk
    go_wp2_with (go_at_call 30; refine (laws_eqRatio _ _ _).mono ?_; rintro e w1 ⟨rfl, hb⟩; have hz := hb.size; (try simp at hz); have kk := bkeep (w := w) hb (by first | omega | (simp; done) | (simp; omega)); obtain ⟨kc, kf⟩ := kk; (try (have kk := bkeepb (w.heap.size) hb (by first | omega | (simp; done) | (simp; omega)); obtain ⟨kc0, kf0, kl0⟩ := kk)); (try (have kk := bkeepb (w.heap.size + 1) hb (by first | omega | (simp; done) | (simp; omega)); obtain ⟨kc1, kf1, kl1⟩ := kk)); (try (have kk := bkeepb (w.heap.size + 1 + 1) hb (by first | omega | (simp; done) | (simp; omega)); obtain ⟨kc2, kf2, kl2⟩ := kk)); (try (have kk := bkeepb (w.heap.size + 1 + 1 + 1) hb (by first | omega | (simp; done) | (simp; omega)); obtain ⟨kc3, kf3, kl3⟩ := kk)); (try (have kk := bkeepb (wr.heap.size) hb (by first | omega | (simp; done) | (simp; omega)); obtain ⟨kr0, ks0, kt0⟩ := kk)); (try (have kk := bkeepb (wr.heap.size + 1) hb (by first | omega | (simp; done) | (simp; omega)); obtain ⟨kr1, ks1, kt1⟩ := kk)); (try (have kk := bkeepb (wr.heap.size + 1 + 1) hb (by first | omega | (simp; done) | (simp; omega)); obtain ⟨kr2, ks2, kt2⟩ := kk)))
    go_ret
    exact ⟨rfl, by (repeat (first | (with_reducible exact Below.refl _ _) | (with_reducible assumption) | (with_reducible refine below_drewN ?_ _) | (with_reducible refine Below.drew ?_) | (with_reducible refine Below.alloc ?_ ?_ _) | (with_reducible refine Below.setCell ?_ ?_ _) | (with_reducible refine below_into ?_ (by assumption) ?_) | go_size))⟩
end Go.Proofs.Ytdnooamnjkibgaa

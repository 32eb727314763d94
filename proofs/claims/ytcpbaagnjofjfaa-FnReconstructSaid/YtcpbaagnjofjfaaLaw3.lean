/-
  DERIVED. The contract of spec.ResidueOf; the laws FnExactInverseModulo, FnExactResidueOf.
-/
import Derived.Test.YtcpbaagnjofjfaaInv
import Derived.Test.YtcpbaagnjofjfaaLaw2
namespace Go.Proofs.Ytcpbaagnjofjfaa
open Go.RowKit
set_option linter.unusedVariables false
set_option maxHeartbeats 1000000 in
theorem spec_ResidueOf (n d m : Int) (w : World) :
    Calls Try.prog 16 #[.agg #[.int .i64 n, .int .i64 d], .int .i64 m] w (BV (.tuple #[.int .i64 (resVal n d m), .bool (resOk n d m)]) w) := by
  rcases res_cases n d m with ⟨hr, h1, h2⟩ | ⟨hr, a1, h1, h2⟩ | ⟨hr, a1, a2, h1, h2⟩ | ⟨hr, a1, a2, a3, h1, h2⟩ | ⟨hr, a1, a2, a3, h1, h2⟩
  · rw [h1, h2]
    clear h1 h2
    go_enter Try.func16, Try.ntmps16
    go_wp2_with (first | (go_at_call 50; refine (spec_IsRatio _ _ _).mono ?_; rintro e w1 ⟨rfl, hb⟩; have hz := hb.size; (try simp at hz); have kk := bkeep (w := w) hb (by first | omega | (simp; done) | (simp; omega)); obtain ⟨kc, kf⟩ := kk; (try (have kk := bkeepb (w.heap.size) hb (by first | omega | (simp; done) | (simp; omega)); obtain ⟨kc0, kf0, kl0⟩ := kk)); (try (have kk := bkeepb (w.heap.size + 1) hb (by first | omega | (simp; done) | (simp; omega)); obtain ⟨kc1, kf1, kl1⟩ := kk)); (try (have kk := bkeepb (w.heap.size + 1 + 1) hb (by first | omega | (simp; done) | (simp; omega)); obtain ⟨kc2, kf2, kl2⟩ := kk)); (try (have kk := bkeepb (w.heap.size + 1 + 1 + 1) hb (by first | omega | (simp; done) | (simp; omega)); obtain ⟨kc3, kf3, kl3⟩ := kk)); (try (have kk := bkeepb (wr.heap.size) hb (by first | omega | (simp; done) | (simp; omega)); obtain ⟨kr0, ks0, kt0⟩ := kk)); (try (have kk := bkeepb (wr.heap.size + 1) hb (by first | omega | (simp; done) | (simp; omega)); obtain ⟨kr1, ks1, kt1⟩ := kk)); (try (have kk := bkeepb (wr.heap.size + 1 + 1) hb (by first | omega | (simp; done) | (simp; omega)); obtain ⟨kr2, ks2, kt2⟩ := kk))))
    go_ret2
    exact BV.mk rfl (by (repeat (first | (with_reducible exact Below.refl _ _) | (with_reducible assumption) | (with_reducible refine below_drewN ?_ _) | (with_reducible refine Below.drew ?_) | (with_reducible refine Below.alloc ?_ ?_ _) | (with_reducible refine Below.setCell ?_ ?_ _) | (with_reducible refine below_into ?_ (by assumption) (by first | omega | (simp; done) | (simp; omega))) | go_size)))
  iterate 3
    · rw [h1, h2]
      clear h1 h2
      obtain ⟨b1, b2, b3, b4⟩ := ratOk_bds hr
      go_enter Try.func16, Try.ntmps16
      go_wp2_with (first | (go_at_call 50; refine (spec_IsRatio _ _ _).mono ?_; rintro e w1 ⟨rfl, hb⟩; have hz := hb.size; (try simp at hz); have kk := bkeep (w := w) hb (by first | omega | (simp; done) | (simp; omega)); obtain ⟨kc, kf⟩ := kk; (try (have kk := bkeepb (w.heap.size) hb (by first | omega | (simp; done) | (simp; omega)); obtain ⟨kc0, kf0, kl0⟩ := kk)); (try (have kk := bkeepb (w.heap.size + 1) hb (by first | omega | (simp; done) | (simp; omega)); obtain ⟨kc1, kf1, kl1⟩ := kk)); (try (have kk := bkeepb (w.heap.size + 1 + 1) hb (by first | omega | (simp; done) | (simp; omega)); obtain ⟨kc2, kf2, kl2⟩ := kk)); (try (have kk := bkeepb (w.heap.size + 1 + 1 + 1) hb (by first | omega | (simp; done) | (simp; omega)); obtain ⟨kc3, kf3, kl3⟩ := kk)); (try (have kk := bkeepb (wr.heap.size) hb (by first | omega | (simp; done) | (simp; omega)); obtain ⟨kr0, ks0, kt0⟩ := kk)); (try (have kk := bkeepb (wr.heap.size + 1) hb (by first | omega | (simp; done) | (simp; omega)); obtain ⟨kr1, ks1, kt1⟩ := kk)); (try (have kk := bkeepb (wr.heap.size + 1 + 1) hb (by first | omega | (simp; done) | (simp; omega)); obtain ⟨kr2, ks2, kt2⟩ := kk))) | (go_at_call 67; refine (spec_GcdOf _ _ _ (by omega) (by omega)).mono ?_; rintro e w' ⟨rfl, nd, rfl⟩) | (go_at_call 66; (first | refine (spec_l1In_yes _ _ _ _ (by omega)).mono ?_ | refine (spec_l1In_no _ _ _ _ (by omega)).mono ?_ | refine (spec_l1In _ _ _ _).mono ?_); rintro e w' ⟨rfl, rfl⟩))
      go_ret2
      exact BV.mk rfl (by (repeat (first | (with_reducible exact Below.refl _ _) | (with_reducible assumption) | (with_reducible refine below_drewN ?_ _) | (with_reducible refine Below.drew ?_) | (with_reducible refine Below.alloc ?_ ?_ _) | (with_reducible refine Below.setCell ?_ ?_ _) | (with_reducible refine below_into ?_ (by assumption) (by first | omega | (simp; done) | (simp; omega))) | go_size)))
  · rw [h1, h2, Int.mul_comm (n % m)]
    clear h1 h2
    obtain ⟨b1, b2, b3, b4⟩ := ratOk_bds hr
    obtain ⟨m1, m2⟩ := emod_bds n m (by omega)
    obtain ⟨m3, m4⟩ := emod_bds d m (by omega)
    obtain ⟨_, ⟨x1, x2⟩, _⟩ := egRes_bds (a := d % m) (b := m) (by omega) (by omega)
    unfold invOf
    have i1 : 0 ≤ (egRes (d % m) m).2.1 % m := Int.emod_nonneg _ (by omega)
    have i2 : (egRes (d % m) m).2.1 % m < m := Int.emod_lt_of_pos _ (by omega)
    obtain ⟨e5, e6⟩ := mul_bd ((egRes (d % m) m).2.1 % m) (n % m) 400000000 400000000 i1 (by omega) m1 (by omega)
    have hw : IntKind.i64.wrap ((egRes (d % m) m).2.1 % m * (n % m)) = (egRes (d % m) m).2.1 % m * (n % m) := IntWalk.i64_in _ (by omega)
    go_enter Try.func16, Try.ntmps16
    go_wp2_with (first | (go_at_call 50; refine (spec_IsRatio _ _ _).mono ?_; rintro e w1 ⟨rfl, hb⟩; have hz := hb.size; (try simp at hz); have kk := bkeep (w := w) hb (by first | omega | (simp; done) | (simp; omega)); obtain ⟨kc, kf⟩ := kk; (try (have kk := bkeepb (w.heap.size) hb (by first | omega | (simp; done) | (simp; omega)); obtain ⟨kc0, kf0, kl0⟩ := kk)); (try (have kk := bkeepb (w.heap.size + 1) hb (by first | omega | (simp; done) | (simp; omega)); obtain ⟨kc1, kf1, kl1⟩ := kk)); (try (have kk := bkeepb (w.heap.size + 1 + 1) hb (by first | omega | (simp; done) | (simp; omega)); obtain ⟨kc2, kf2, kl2⟩ := kk)); (try (have kk := bkeepb (w.heap.size + 1 + 1 + 1) hb (by first | omega | (simp; done) | (simp; omega)); obtain ⟨kc3, kf3, kl3⟩ := kk)); (try (have kk := bkeepb (wr.heap.size) hb (by first | omega | (simp; done) | (simp; omega)); obtain ⟨kr0, ks0, kt0⟩ := kk)); (try (have kk := bkeepb (wr.heap.size + 1) hb (by first | omega | (simp; done) | (simp; omega)); obtain ⟨kr1, ks1, kt1⟩ := kk)); (try (have kk := bkeepb (wr.heap.size + 1 + 1) hb (by first | omega | (simp; done) | (simp; omega)); obtain ⟨kr2, ks2, kt2⟩ := kk))) | (go_at_call 67; refine (spec_GcdOf _ _ _ (by omega) (by omega)).mono ?_; rintro e w' ⟨rfl, nd, rfl⟩) | (go_at_call 66; (first | refine (spec_l1In_yes _ _ _ _ (by omega)).mono ?_ | refine (spec_l1In_no _ _ _ _ (by omega)).mono ?_ | refine (spec_l1In _ _ _ _).mono ?_); rintro e w' ⟨rfl, rfl⟩) | (go_at_call 68; refine (spec_ExtendedGcd _ _ (by omega) (by omega) _).mono ?_; rintro e w1 ⟨rfl, hb⟩; simp only [egV]; have hz := hb.size; (try simp at hz); have kk := bkeep (w := w) hb (by first | omega | (simp; done) | (simp; omega)); obtain ⟨kc, kf⟩ := kk; (try (have kk := bkeepb (w.heap.size) hb (by first | omega | (simp; done) | (simp; omega)); obtain ⟨kc0, kf0, kl0⟩ := kk)); (try (have kk := bkeepb (w.heap.size + 1) hb (by first | omega | (simp; done) | (simp; omega)); obtain ⟨kc1, kf1, kl1⟩ := kk)); (try (have kk := bkeepb (w.heap.size + 1 + 1) hb (by first | omega | (simp; done) | (simp; omega)); obtain ⟨kc2, kf2, kl2⟩ := kk)); (try (have kk := bkeepb (w.heap.size + 1 + 1 + 1) hb (by first | omega | (simp; done) | (simp; omega)); obtain ⟨kc3, kf3, kl3⟩ := kk)); (try (have kk := bkeepb (wr.heap.size) hb (by first | omega | (simp; done) | (simp; omega)); obtain ⟨kr0, ks0, kt0⟩ := kk)); (try (have kk := bkeepb (wr.heap.size + 1) hb (by first | omega | (simp; done) | (simp; omega)); obtain ⟨kr1, ks1, kt1⟩ := kk)); (try (have kk := bkeepb (wr.heap.size + 1 + 1) hb (by first | omega | (simp; done) | (simp; omega)); obtain ⟨kr2, ks2, kt2⟩ := kk))))
    go_quiet ((go_at_call 69; first | exact quiet_add_left (spec_l8Mod _ _ _ (by omega) (by omega) (by omega) (by omega)) | exact quiet_left (spec_l8Mod _ _ _ (by omega) (by omega) (by omega) (by omega))))
    all_goals go_wp2
    all_goals go_ret2
    all_goals exact BV.mk rfl (by (repeat (first | (with_reducible exact Below.refl _ _) | (with_reducible assumption) | (with_reducible refine below_drewN ?_ _) | (with_reducible refine Below.drew ?_) | (with_reducible refine Below.alloc ?_ ?_ _) | (with_reducible refine Below.setCell ?_ ?_ _) | (with_reducible refine below_into ?_ (by assumption) (by first | omega | (simp; done) | (simp; omega))) | go_size)))

end Go.Proofs.Ytcpbaagnjofjfaa

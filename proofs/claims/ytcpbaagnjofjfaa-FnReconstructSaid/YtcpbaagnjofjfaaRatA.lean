/-
  DERIVED. Sums, products, makings of ratios, both.
-/
import Derived.Test.YtcpbaagnjofjfaaRatO
namespace Go.Proofs.Ytcpbaagnjofjfaa
open Go.RowKit
set_option linter.unusedVariables false
set_option linter.unusedSimpArgs false
set_option maxHeartbeats 4000000 in
theorem impl_AddRatios (n d n' d' : Int) (w : World) : Calls Try.prog 155 #[.agg #[.int .i64 n, .int .i64 d], .agg #[.int .i64 n', .int .i64 d']] w (BV (rV (addR (n, d) (n', d'))) w) := by
  rcases ha : ratOk n d with _ | _
  · have hv : addR (n, d) (n', d') = (0, 0) := by unfold addR; simp only [ha, Bool.false_and]; rfl
    have HV := Lib.hid hv
    have HA := Lib.hid ha
    clear hv ha
    go_enter Try.func155, Try.ntmps155
    go_wp2_with fail
    refine (impl_IsRatio n d _).mono ?_
    rw [HA.out]
    rintro e w1 ⟨rfl, hb1⟩
    have hsz1 := hb1.size; simp at hsz1; have hA1 : BQ w1 w.heap.size n d := (by (repeat (first | (with_reducible assumption) | (with_reducible refine Blk.new_at _ _ _ _ (by first | omega | (simp; done) | (simp; omega))) | (with_reducible refine Blk.below ?_ (by assumption) (by first | omega | (simp; done) | (simp; omega))) | (with_reducible apply Blk.drew) | (with_reducible apply Blk.drewN) | (with_reducible refine Blk.far ?_ (by simp only [ne_eq]; omega) _) | (with_reducible apply Blk.alloc)))); have hB1 : BQ w1 (w.heap.size + 1) n' d' := (by (repeat (first | (with_reducible assumption) | (with_reducible refine Blk.new_at _ _ _ _ (by first | omega | (simp; done) | (simp; omega))) | (with_reducible refine Blk.below ?_ (by assumption) (by first | omega | (simp; done) | (simp; omega))) | (with_reducible apply Blk.drew) | (with_reducible apply Blk.drewN) | (with_reducible refine Blk.far ?_ (by simp only [ne_eq]; omega) _) | (with_reducible apply Blk.alloc)))); have hR1 : BQ w1 (w.heap.size + 1 + 1) 0 0 := (by (repeat (first | (with_reducible assumption) | (with_reducible refine Blk.new_at _ _ _ _ (by first | omega | (simp; done) | (simp; omega))) | (with_reducible refine Blk.below ?_ (by assumption) (by first | omega | (simp; done) | (simp; omega))) | (with_reducible apply Blk.drew) | (with_reducible apply Blk.drewN) | (with_reducible refine Blk.far ?_ (by simp only [ne_eq]; omega) _) | (with_reducible apply Blk.alloc)))); have hbw1 : Below w.heap.size w w1 := (by (repeat (first | (with_reducible exact Below.refl _ _) | (with_reducible assumption) | (with_reducible refine below_drewN ?_ _) | (with_reducible refine Below.drew ?_) | (with_reducible refine Below.alloc ?_ ?_ _) | (with_reducible refine Below.setCell ?_ ?_ _) | (with_reducible refine below_into ?_ (by assumption) (by first | omega | (simp; done) | (simp; omega))) | go_size))); obtain ⟨aa, ab, af, al⟩ := hA1.cells; obtain ⟨ba, bb, bf, bl⟩ := hB1.cells; obtain ⟨ra, rb, rf, rl⟩ := hR1.cells
    go_wp2_with fail
    refine ret_Q Try.results155 rfl (BQ.put hR1) rfl ?_
    exact BV.mk (rV_mk HV.out) (by (repeat (first | (with_reducible exact Below.refl _ _) | (with_reducible assumption) | (with_reducible refine below_drewN ?_ _) | (with_reducible refine Below.drew ?_) | (with_reducible refine Below.alloc ?_ ?_ _) | (with_reducible refine Below.setCell ?_ ?_ _) | (with_reducible refine below_into ?_ (by assumption) (by first | omega | (simp; done) | (simp; omega))) | go_size)))
  · rcases hb : ratOk n' d' with _ | _
    · have hv : addR (n, d) (n', d') = (0, 0) := by unfold addR; simp only [hb, Bool.and_false]; rfl
      have HV := Lib.hid hv
      have HA := Lib.hid ha
      have HB := Lib.hid hb
      clear hv ha hb
      go_enter Try.func155, Try.ntmps155
      go_wp2_with fail
      refine (impl_IsRatio n d _).mono ?_
      rw [HA.out]
      rintro e w1 ⟨rfl, hb1⟩
      have hsz1 := hb1.size; simp at hsz1; have hA1 : BQ w1 w.heap.size n d := (by (repeat (first | (with_reducible assumption) | (with_reducible refine Blk.new_at _ _ _ _ (by first | omega | (simp; done) | (simp; omega))) | (with_reducible refine Blk.below ?_ (by assumption) (by first | omega | (simp; done) | (simp; omega))) | (with_reducible apply Blk.drew) | (with_reducible apply Blk.drewN) | (with_reducible refine Blk.far ?_ (by simp only [ne_eq]; omega) _) | (with_reducible apply Blk.alloc)))); have hB1 : BQ w1 (w.heap.size + 1) n' d' := (by (repeat (first | (with_reducible assumption) | (with_reducible refine Blk.new_at _ _ _ _ (by first | omega | (simp; done) | (simp; omega))) | (with_reducible refine Blk.below ?_ (by assumption) (by first | omega | (simp; done) | (simp; omega))) | (with_reducible apply Blk.drew) | (with_reducible apply Blk.drewN) | (with_reducible refine Blk.far ?_ (by simp only [ne_eq]; omega) _) | (with_reducible apply Blk.alloc)))); have hR1 : BQ w1 (w.heap.size + 1 + 1) 0 0 := (by (repeat (first | (with_reducible assumption) | (with_reducible refine Blk.new_at _ _ _ _ (by first | omega | (simp; done) | (simp; omega))) | (with_reducible refine Blk.below ?_ (by assumption) (by first | omega | (simp; done) | (simp; omega))) | (with_reducible apply Blk.drew) | (with_reducible apply Blk.drewN) | (with_reducible refine Blk.far ?_ (by simp only [ne_eq]; omega) _) | (with_reducible apply Blk.alloc)))); have hbw1 : Below w.heap.size w w1 := (by (repeat (first | (with_reducible exact Below.refl _ _) | (with_reducible assumption) | (with_reducible refine below_drewN ?_ _) | (with_reducible refine Below.drew ?_) | (with_reducible refine Below.alloc ?_ ?_ _) | (with_reducible refine Below.setCell ?_ ?_ _) | (with_reducible refine below_into ?_ (by assumption) (by first | omega | (simp; done) | (simp; omega))) | go_size))); obtain ⟨aa, ab, af, al⟩ := hA1.cells; obtain ⟨ba, bb, bf, bl⟩ := hB1.cells; obtain ⟨ra, rb, rf, rl⟩ := hR1.cells
      go_wp2_with fail
      refine (impl_IsRatio n' d' _).mono ?_
      rw [HB.out]
      rintro e w2 ⟨rfl, hb2⟩
      have hsz2 := hb2.size; have hA2 : BQ w2 w.heap.size n d := (by (repeat (first | (with_reducible exact hA1) | (with_reducible refine Blk.new_at _ _ _ _ (by first | omega | (simp; done) | (simp; omega))) | (with_reducible refine Blk.below ?_ (by assumption) (by first | omega | (simp; done) | (simp; omega))) | (with_reducible apply Blk.drew) | (with_reducible apply Blk.drewN) | (with_reducible refine Blk.far ?_ (by simp only [ne_eq]; omega) _) | (with_reducible apply Blk.alloc)))); have hB2 : BQ w2 (w.heap.size + 1) n' d' := (by (repeat (first | (with_reducible exact hB1) | (with_reducible refine Blk.new_at _ _ _ _ (by first | omega | (simp; done) | (simp; omega))) | (with_reducible refine Blk.below ?_ (by assumption) (by first | omega | (simp; done) | (simp; omega))) | (with_reducible apply Blk.drew) | (with_reducible apply Blk.drewN) | (with_reducible refine Blk.far ?_ (by simp only [ne_eq]; omega) _) | (with_reducible apply Blk.alloc)))); have hR2 : BQ w2 (w.heap.size + 1 + 1) 0 0 := (by (repeat (first | (with_reducible exact hR1) | (with_reducible refine Blk.new_at _ _ _ _ (by first | omega | (simp; done) | (simp; omega))) | (with_reducible refine Blk.below ?_ (by assumption) (by first | omega | (simp; done) | (simp; omega))) | (with_reducible apply Blk.drew) | (with_reducible apply Blk.drewN) | (with_reducible refine Blk.far ?_ (by simp only [ne_eq]; omega) _) | (with_reducible apply Blk.alloc)))); have hbw2 : Below w.heap.size w w2 := (by (repeat (first | (with_reducible exact Below.refl _ _) | (with_reducible assumption) | (with_reducible refine below_drewN ?_ _) | (with_reducible refine Below.drew ?_) | (with_reducible refine Below.alloc ?_ ?_ _) | (with_reducible refine Below.setCell ?_ ?_ _) | (with_reducible refine below_into ?_ (by assumption) (by first | omega | (simp; done) | (simp; omega))) | go_size))); clear aa ab af al ba bb bf bl ra rb rf rl hA1 hB1 hR1 hbw1; obtain ⟨aa, ab, af, al⟩ := hA2.cells; obtain ⟨ba, bb, bf, bl⟩ := hB2.cells; obtain ⟨ra, rb, rf, rl⟩ := hR2.cells
      go_wp2_with fail
      refine ret_Q Try.results155 rfl (BQ.put hR2) rfl ?_
      exact BV.mk (rV_mk HV.out) (by (repeat (first | (with_reducible exact Below.refl _ _) | (with_reducible assumption) | (with_reducible refine below_drewN ?_ _) | (with_reducible refine Below.drew ?_) | (with_reducible refine Below.alloc ?_ ?_ _) | (with_reducible refine Below.setCell ?_ ?_ _) | (with_reducible refine below_into ?_ (by assumption) (by first | omega | (simp; done) | (simp; omega))) | go_size)))
    · have hv : addR (n, d) (n', d') = lowR (n * d' + n' * d) (d * d') := by unfold addR; simp only [ha, hb, Bool.and_self, if_true]
      obtain ⟨⟨k1, k2⟩, ⟨k3, k4⟩, ⟨k5, k6⟩, ⟨k7, k8⟩⟩ := rat_bd (a := (n, d)) (b := (n', d')) ha hb
      simp only [] at k1 k2 k3 k4 k5 k6 k7 k8
      have HV := Lib.hid hv
      have HA := Lib.hid ha
      have HB := Lib.hid hb
      clear hv ha hb
      go_enter Try.func155, Try.ntmps155
      go_wp2_with fail
      refine (impl_IsRatio n d _).mono ?_
      rw [HA.out]
      rintro e w1 ⟨rfl, hb1⟩
      have hsz1 := hb1.size; simp at hsz1; have hA1 : BQ w1 w.heap.size n d := (by (repeat (first | (with_reducible assumption) | (with_reducible refine Blk.new_at _ _ _ _ (by first | omega | (simp; done) | (simp; omega))) | (with_reducible refine Blk.below ?_ (by assumption) (by first | omega | (simp; done) | (simp; omega))) | (with_reducible apply Blk.drew) | (with_reducible apply Blk.drewN) | (with_reducible refine Blk.far ?_ (by simp only [ne_eq]; omega) _) | (with_reducible apply Blk.alloc)))); have hB1 : BQ w1 (w.heap.size + 1) n' d' := (by (repeat (first | (with_reducible assumption) | (with_reducible refine Blk.new_at _ _ _ _ (by first | omega | (simp; done) | (simp; omega))) | (with_reducible refine Blk.below ?_ (by assumption) (by first | omega | (simp; done) | (simp; omega))) | (with_reducible apply Blk.drew) | (with_reducible apply Blk.drewN) | (with_reducible refine Blk.far ?_ (by simp only [ne_eq]; omega) _) | (with_reducible apply Blk.alloc)))); have hR1 : BQ w1 (w.heap.size + 1 + 1) 0 0 := (by (repeat (first | (with_reducible assumption) | (with_reducible refine Blk.new_at _ _ _ _ (by first | omega | (simp; done) | (simp; omega))) | (with_reducible refine Blk.below ?_ (by assumption) (by first | omega | (simp; done) | (simp; omega))) | (with_reducible apply Blk.drew) | (with_reducible apply Blk.drewN) | (with_reducible refine Blk.far ?_ (by simp only [ne_eq]; omega) _) | (with_reducible apply Blk.alloc)))); have hbw1 : Below w.heap.size w w1 := (by (repeat (first | (with_reducible exact Below.refl _ _) | (with_reducible assumption) | (with_reducible refine below_drewN ?_ _) | (with_reducible refine Below.drew ?_) | (with_reducible refine Below.alloc ?_ ?_ _) | (with_reducible refine Below.setCell ?_ ?_ _) | (with_reducible refine below_into ?_ (by assumption) (by first | omega | (simp; done) | (simp; omega))) | go_size))); obtain ⟨aa, ab, af, al⟩ := hA1.cells; obtain ⟨ba, bb, bf, bl⟩ := hB1.cells; obtain ⟨ra, rb, rf, rl⟩ := hR1.cells
      go_wp2_with fail
      refine (impl_IsRatio n' d' _).mono ?_
      rw [HB.out]
      rintro e w2 ⟨rfl, hb2⟩
      have hsz2 := hb2.size; have hA2 : BQ w2 w.heap.size n d := (by (repeat (first | (with_reducible exact hA1) | (with_reducible refine Blk.new_at _ _ _ _ (by first | omega | (simp; done) | (simp; omega))) | (with_reducible refine Blk.below ?_ (by assumption) (by first | omega | (simp; done) | (simp; omega))) | (with_reducible apply Blk.drew) | (with_reducible apply Blk.drewN) | (with_reducible refine Blk.far ?_ (by simp only [ne_eq]; omega) _) | (with_reducible apply Blk.alloc)))); have hB2 : BQ w2 (w.heap.size + 1) n' d' := (by (repeat (first | (with_reducible exact hB1) | (with_reducible refine Blk.new_at _ _ _ _ (by first | omega | (simp; done) | (simp; omega))) | (with_reducible refine Blk.below ?_ (by assumption) (by first | omega | (simp; done) | (simp; omega))) | (with_reducible apply Blk.drew) | (with_reducible apply Blk.drewN) | (with_reducible refine Blk.far ?_ (by simp only [ne_eq]; omega) _) | (with_reducible apply Blk.alloc)))); have hR2 : BQ w2 (w.heap.size + 1 + 1) 0 0 := (by (repeat (first | (with_reducible exact hR1) | (with_reducible refine Blk.new_at _ _ _ _ (by first | omega | (simp; done) | (simp; omega))) | (with_reducible refine Blk.below ?_ (by assumption) (by first | omega | (simp; done) | (simp; omega))) | (with_reducible apply Blk.drew) | (with_reducible apply Blk.drewN) | (with_reducible refine Blk.far ?_ (by simp only [ne_eq]; omega) _) | (with_reducible apply Blk.alloc)))); have hbw2 : Below w.heap.size w w2 := (by (repeat (first | (with_reducible exact Below.refl _ _) | (with_reducible assumption) | (with_reducible refine below_drewN ?_ _) | (with_reducible refine Below.drew ?_) | (with_reducible refine Below.alloc ?_ ?_ _) | (with_reducible refine Below.setCell ?_ ?_ _) | (with_reducible refine below_into ?_ (by assumption) (by first | omega | (simp; done) | (simp; omega))) | go_size))); clear aa ab af al ba bb bf bl ra rb rf rl hA1 hB1 hR1 hbw1; obtain ⟨aa, ab, af, al⟩ := hA2.cells; obtain ⟨ba, bb, bf, bl⟩ := hB2.cells; obtain ⟨ra, rb, rf, rl⟩ := hR2.cells
      go_wp2_with fail
      refine (impl_lowest (n * d' + n' * d) (d * d') (by omega) (by omega) (by omega) _).mono ?_
      rintro e w3 ⟨rfl, hb3⟩
      have hR3 : BQ w3 (w.heap.size + 1 + 1) 0 0 := by (repeat (first | (with_reducible exact hR2) | (with_reducible refine Blk.new_at _ _ _ _ (by first | omega | (simp; done) | (simp; omega))) | (with_reducible refine Blk.below ?_ (by assumption) (by first | omega | (simp; done) | (simp; omega))) | (with_reducible apply Blk.drew) | (with_reducible apply Blk.drewN) | (with_reducible refine Blk.far ?_ (by simp only [ne_eq]; omega) _) | (with_reducible apply Blk.alloc)))
      have hbw3 : Below w.heap.size w w3 := by (repeat (first | (with_reducible exact Below.refl _ _) | (with_reducible assumption) | (with_reducible refine below_drewN ?_ _) | (with_reducible refine Below.drew ?_) | (with_reducible refine Below.alloc ?_ ?_ _) | (with_reducible refine Below.setCell ?_ ?_ _) | (with_reducible refine below_into ?_ (by assumption) (by first | omega | (simp; done) | (simp; omega))) | go_size))
      obtain ⟨sa, sb, sf, sl⟩ := hR3.cells
      unfold rV
      go_wp2_with fail
      refine ret_Q Try.results155 rfl (BQ.put hR3) rfl ?_
      exact BV.mk (rV_mk HV.out) (by (repeat (first | (with_reducible exact Below.refl _ _) | (with_reducible assumption) | (with_reducible refine below_drewN ?_ _) | (with_reducible refine Below.drew ?_) | (with_reducible refine Below.alloc ?_ ?_ _) | (with_reducible refine Below.setCell ?_ ?_ _) | (with_reducible refine below_into ?_ (by assumption) (by first | omega | (simp; done) | (simp; omega))) | go_size)))
set_option maxHeartbeats 4000000 in
theorem spec_AddRatios (n d n' d' : Int) (w : World) : Calls Try.prog 107 #[.agg #[.int .i64 n, .int .i64 d], .agg #[.int .i64 n', .int .i64 d']] w (BV (rV (addR (n, d) (n', d'))) w) := by
  rcases ha : ratOk n d with _ | _
  · have hv : addR (n, d) (n', d') = (0, 0) := by unfold addR; simp only [ha, Bool.false_and]; rfl
    have HV := Lib.hid hv
    have HA := Lib.hid ha
    clear hv ha
    go_enter Try.func107, Try.ntmps107
    go_wp2_with fail
    refine (spec_IsRatio n d _).mono ?_
    rw [HA.out]
    rintro e w1 ⟨rfl, hb1⟩
    have hsz1 := hb1.size; simp at hsz1; have hA1 : BQ w1 w.heap.size n d := (by (repeat (first | (with_reducible assumption) | (with_reducible refine Blk.new_at _ _ _ _ (by first | omega | (simp; done) | (simp; omega))) | (with_reducible refine Blk.below ?_ (by assumption) (by first | omega | (simp; done) | (simp; omega))) | (with_reducible apply Blk.drew) | (with_reducible apply Blk.drewN) | (with_reducible refine Blk.far ?_ (by simp only [ne_eq]; omega) _) | (with_reducible apply Blk.alloc)))); have hB1 : BQ w1 (w.heap.size + 1) n' d' := (by (repeat (first | (with_reducible assumption) | (with_reducible refine Blk.new_at _ _ _ _ (by first | omega | (simp; done) | (simp; omega))) | (with_reducible refine Blk.below ?_ (by assumption) (by first | omega | (simp; done) | (simp; omega))) | (with_reducible apply Blk.drew) | (with_reducible apply Blk.drewN) | (with_reducible refine Blk.far ?_ (by simp only [ne_eq]; omega) _) | (with_reducible apply Blk.alloc)))); have hR1 : BQ w1 (w.heap.size + 1 + 1) 0 0 := (by (repeat (first | (with_reducible assumption) | (with_reducible refine Blk.new_at _ _ _ _ (by first | omega | (simp; done) | (simp; omega))) | (with_reducible refine Blk.below ?_ (by assumption) (by first | omega | (simp; done) | (simp; omega))) | (with_reducible apply Blk.drew) | (with_reducible apply Blk.drewN) | (with_reducible refine Blk.far ?_ (by simp only [ne_eq]; omega) _) | (with_reducible apply Blk.alloc)))); have hbw1 : Below w.heap.size w w1 := (by (repeat (first | (with_reducible exact Below.refl _ _) | (with_reducible assumption) | (with_reducible refine below_drewN ?_ _) | (with_reducible refine Below.drew ?_) | (with_reducible refine Below.alloc ?_ ?_ _) | (with_reducible refine Below.setCell ?_ ?_ _) | (with_reducible refine below_into ?_ (by assumption) (by first | omega | (simp; done) | (simp; omega))) | go_size))); obtain ⟨aa, ab, af, al⟩ := hA1.cells; obtain ⟨ba, bb, bf, bl⟩ := hB1.cells; obtain ⟨ra, rb, rf, rl⟩ := hR1.cells
    go_wp2_with fail
    refine ret_Q Try.results107 rfl (BQ.put hR1) rfl ?_
    exact BV.mk (rV_mk HV.out) (by (repeat (first | (with_reducible exact Below.refl _ _) | (with_reducible assumption) | (with_reducible refine below_drewN ?_ _) | (with_reducible refine Below.drew ?_) | (with_reducible refine Below.alloc ?_ ?_ _) | (with_reducible refine Below.setCell ?_ ?_ _) | (with_reducible refine below_into ?_ (by assumption) (by first | omega | (simp; done) | (simp; omega))) | go_size)))
  · rcases hb : ratOk n' d' with _ | _
    · have hv : addR (n, d) (n', d') = (0, 0) := by unfold addR; simp only [hb, Bool.and_false]; rfl
      have HV := Lib.hid hv
      have HA := Lib.hid ha
      have HB := Lib.hid hb
      clear hv ha hb
      go_enter Try.func107, Try.ntmps107
      go_wp2_with fail
      refine (spec_IsRatio n d _).mono ?_
      rw [HA.out]
      rintro e w1 ⟨rfl, hb1⟩
      have hsz1 := hb1.size; simp at hsz1; have hA1 : BQ w1 w.heap.size n d := (by (repeat (first | (with_reducible assumption) | (with_reducible refine Blk.new_at _ _ _ _ (by first | omega | (simp; done) | (simp; omega))) | (with_reducible refine Blk.below ?_ (by assumption) (by first | omega | (simp; done) | (simp; omega))) | (with_reducible apply Blk.drew) | (with_reducible apply Blk.drewN) | (with_reducible refine Blk.far ?_ (by simp only [ne_eq]; omega) _) | (with_reducible apply Blk.alloc)))); have hB1 : BQ w1 (w.heap.size + 1) n' d' := (by (repeat (first | (with_reducible assumption) | (with_reducible refine Blk.new_at _ _ _ _ (by first | omega | (simp; done) | (simp; omega))) | (with_reducible refine Blk.below ?_ (by assumption) (by first | omega | (simp; done) | (simp; omega))) | (with_reducible apply Blk.drew) | (with_reducible apply Blk.drewN) | (with_reducible refine Blk.far ?_ (by simp only [ne_eq]; omega) _) | (with_reducible apply Blk.alloc)))); have hR1 : BQ w1 (w.heap.size + 1 + 1) 0 0 := (by (repeat (first | (with_reducible assumption) | (with_reducible refine Blk.new_at _ _ _ _ (by first | omega | (simp; done) | (simp; omega))) | (with_reducible refine Blk.below ?_ (by assumption) (by first | omega | (simp; done) | (simp; omega))) | (with_reducible apply Blk.drew) | (with_reducible apply Blk.drewN) | (with_reducible refine Blk.far ?_ (by simp only [ne_eq]; omega) _) | (with_reducible apply Blk.alloc)))); have hbw1 : Below w.heap.size w w1 := (by (repeat (first | (with_reducible exact Below.refl _ _) | (with_reducible assumption) | (with_reducible refine below_drewN ?_ _) | (with_reducible refine Below.drew ?_) | (with_reducible refine Below.alloc ?_ ?_ _) | (with_reducible refine Below.setCell ?_ ?_ _) | (with_reducible refine below_into ?_ (by assumption) (by first | omega | (simp; done) | (simp; omega))) | go_size))); obtain ⟨aa, ab, af, al⟩ := hA1.cells; obtain ⟨ba, bb, bf, bl⟩ := hB1.cells; obtain ⟨ra, rb, rf, rl⟩ := hR1.cells
      go_wp2_with fail
      refine (spec_IsRatio n' d' _).mono ?_
      rw [HB.out]
      rintro e w2 ⟨rfl, hb2⟩
      have hsz2 := hb2.size; have hA2 : BQ w2 w.heap.size n d := (by (repeat (first | (with_reducible exact hA1) | (with_reducible refine Blk.new_at _ _ _ _ (by first | omega | (simp; done) | (simp; omega))) | (with_reducible refine Blk.below ?_ (by assumption) (by first | omega | (simp; done) | (simp; omega))) | (with_reducible apply Blk.drew) | (with_reducible apply Blk.drewN) | (with_reducible refine Blk.far ?_ (by simp only [ne_eq]; omega) _) | (with_reducible apply Blk.alloc)))); have hB2 : BQ w2 (w.heap.size + 1) n' d' := (by (repeat (first | (with_reducible exact hB1) | (with_reducible refine Blk.new_at _ _ _ _ (by first | omega | (simp; done) | (simp; omega))) | (with_reducible refine Blk.below ?_ (by assumption) (by first | omega | (simp; done) | (simp; omega))) | (with_reducible apply Blk.drew) | (with_reducible apply Blk.drewN) | (with_reducible refine Blk.far ?_ (by simp only [ne_eq]; omega) _) | (with_reducible apply Blk.alloc)))); have hR2 : BQ w2 (w.heap.size + 1 + 1) 0 0 := (by (repeat (first | (with_reducible exact hR1) | (with_reducible refine Blk.new_at _ _ _ _ (by first | omega | (simp; done) | (simp; omega))) | (with_reducible refine Blk.below ?_ (by assumption) (by first | omega | (simp; done) | (simp; omega))) | (with_reducible apply Blk.drew) | (with_reducible apply Blk.drewN) | (with_reducible refine Blk.far ?_ (by simp only [ne_eq]; omega) _) | (with_reducible apply Blk.alloc)))); have hbw2 : Below w.heap.size w w2 := (by (repeat (first | (with_reducible exact Below.refl _ _) | (with_reducible assumption) | (with_reducible refine below_drewN ?_ _) | (with_reducible refine Below.drew ?_) | (with_reducible refine Below.alloc ?_ ?_ _) | (with_reducible refine Below.setCell ?_ ?_ _) | (with_reducible refine below_into ?_ (by assumption) (by first | omega | (simp; done) | (simp; omega))) | go_size))); clear aa ab af al ba bb bf bl ra rb rf rl hA1 hB1 hR1 hbw1; obtain ⟨aa, ab, af, al⟩ := hA2.cells; obtain ⟨ba, bb, bf, bl⟩ := hB2.cells; obtain ⟨ra, rb, rf, rl⟩ := hR2.cells
      go_wp2_with fail
      refine ret_Q Try.results107 rfl (BQ.put hR2) rfl ?_
      exact BV.mk (rV_mk HV.out) (by (repeat (first | (with_reducible exact Below.refl _ _) | (with_reducible assumption) | (with_reducible refine below_drewN ?_ _) | (with_reducible refine Below.drew ?_) | (with_reducible refine Below.alloc ?_ ?_ _) | (with_reducible refine Below.setCell ?_ ?_ _) | (with_reducible refine below_into ?_ (by assumption) (by first | omega | (simp; done) | (simp; omega))) | go_size)))
    · have hv : addR (n, d) (n', d') = lowR (n * d' + n' * d) (d * d') := by unfold addR; simp only [ha, hb, Bool.and_self, if_true]
      obtain ⟨⟨k1, k2⟩, ⟨k3, k4⟩, ⟨k5, k6⟩, ⟨k7, k8⟩⟩ := rat_bd (a := (n, d)) (b := (n', d')) ha hb
      simp only [] at k1 k2 k3 k4 k5 k6 k7 k8
      have HV := Lib.hid hv
      have HA := Lib.hid ha
      have HB := Lib.hid hb
      clear hv ha hb
      go_enter Try.func107, Try.ntmps107
      go_wp2_with fail
      refine (spec_IsRatio n d _).mono ?_
      rw [HA.out]
      rintro e w1 ⟨rfl, hb1⟩
      have hsz1 := hb1.size; simp at hsz1; have hA1 : BQ w1 w.heap.size n d := (by (repeat (first | (with_reducible assumption) | (with_reducible refine Blk.new_at _ _ _ _ (by first | omega | (simp; done) | (simp; omega))) | (with_reducible refine Blk.below ?_ (by assumption) (by first | omega | (simp; done) | (simp; omega))) | (with_reducible apply Blk.drew) | (with_reducible apply Blk.drewN) | (with_reducible refine Blk.far ?_ (by simp only [ne_eq]; omega) _) | (with_reducible apply Blk.alloc)))); have hB1 : BQ w1 (w.heap.size + 1) n' d' := (by (repeat (first | (with_reducible assumption) | (with_reducible refine Blk.new_at _ _ _ _ (by first | omega | (simp; done) | (simp; omega))) | (with_reducible refine Blk.below ?_ (by assumption) (by first | omega | (simp; done) | (simp; omega))) | (with_reducible apply Blk.drew) | (with_reducible apply Blk.drewN) | (with_reducible refine Blk.far ?_ (by simp only [ne_eq]; omega) _) | (with_reducible apply Blk.alloc)))); have hR1 : BQ w1 (w.heap.size + 1 + 1) 0 0 := (by (repeat (first | (with_reducible assumption) | (with_reducible refine Blk.new_at _ _ _ _ (by first | omega | (simp; done) | (simp; omega))) | (with_reducible refine Blk.below ?_ (by assumption) (by first | omega | (simp; done) | (simp; omega))) | (with_reducible apply Blk.drew) | (with_reducible apply Blk.drewN) | (with_reducible refine Blk.far ?_ (by simp only [ne_eq]; omega) _) | (with_reducible apply Blk.alloc)))); have hbw1 : Below w.heap.size w w1 := (by (repeat (first | (with_reducible exact Below.refl _ _) | (with_reducible assumption) | (with_reducible refine below_drewN ?_ _) | (with_reducible refine Below.drew ?_) | (with_reducible refine Below.alloc ?_ ?_ _) | (with_reducible refine Below.setCell ?_ ?_ _) | (with_reducible refine below_into ?_ (by assumption) (by first | omega | (simp; done) | (simp; omega))) | go_size))); obtain ⟨aa, ab, af, al⟩ := hA1.cells; obtain ⟨ba, bb, bf, bl⟩ := hB1.cells; obtain ⟨ra, rb, rf, rl⟩ := hR1.cells
      go_wp2_with fail
      refine (spec_IsRatio n' d' _).mono ?_
      rw [HB.out]
      rintro e w2 ⟨rfl, hb2⟩
      have hsz2 := hb2.size; have hA2 : BQ w2 w.heap.size n d := (by (repeat (first | (with_reducible exact hA1) | (with_reducible refine Blk.new_at _ _ _ _ (by first | omega | (simp; done) | (simp; omega))) | (with_reducible refine Blk.below ?_ (by assumption) (by first | omega | (simp; done) | (simp; omega))) | (with_reducible apply Blk.drew) | (with_reducible apply Blk.drewN) | (with_reducible refine Blk.far ?_ (by simp only [ne_eq]; omega) _) | (with_reducible apply Blk.alloc)))); have hB2 : BQ w2 (w.heap.size + 1) n' d' := (by (repeat (first | (with_reducible exact hB1) | (with_reducible refine Blk.new_at _ _ _ _ (by first | omega | (simp; done) | (simp; omega))) | (with_reducible refine Blk.below ?_ (by assumption) (by first | omega | (simp; done) | (simp; omega))) | (with_reducible apply Blk.drew) | (with_reducible apply Blk.drewN) | (with_reducible refine Blk.far ?_ (by simp only [ne_eq]; omega) _) | (with_reducible apply Blk.alloc)))); have hR2 : BQ w2 (w.heap.size + 1 + 1) 0 0 := (by (repeat (first | (with_reducible exact hR1) | (with_reducible refine Blk.new_at _ _ _ _ (by first | omega | (simp; done) | (simp; omega))) | (with_reducible refine Blk.below ?_ (by assumption) (by first | omega | (simp; done) | (simp; omega))) | (with_reducible apply Blk.drew) | (with_reducible apply Blk.drewN) | (with_reducible refine Blk.far ?_ (by simp only [ne_eq]; omega) _) | (with_reducible apply Blk.alloc)))); have hbw2 : Below w.heap.size w w2 := (by (repeat (first | (with_reducible exact Below.refl _ _) | (with_reducible assumption) | (with_reducible refine below_drewN ?_ _) | (with_reducible refine Below.drew ?_) | (with_reducible refine Below.alloc ?_ ?_ _) | (with_reducible refine Below.setCell ?_ ?_ _) | (with_reducible refine below_into ?_ (by assumption) (by first | omega | (simp; done) | (simp; omega))) | go_size))); clear aa ab af al ba bb bf bl ra rb rf rl hA1 hB1 hR1 hbw1; obtain ⟨aa, ab, af, al⟩ := hA2.cells; obtain ⟨ba, bb, bf, bl⟩ := hB2.cells; obtain ⟨ra, rb, rf, rl⟩ := hR2.cells
      go_wp2_with fail
      refine (spec_l2Make (n * d' + n' * d) (d * d') (by omega) (by omega) (by omega) _).mono ?_
      rintro e w3 ⟨rfl, hb3⟩
      have hR3 : BQ w3 (w.heap.size + 1 + 1) 0 0 := by (repeat (first | (with_reducible exact hR2) | (with_reducible refine Blk.new_at _ _ _ _ (by first | omega | (simp; done) | (simp; omega))) | (with_reducible refine Blk.below ?_ (by assumption) (by first | omega | (simp; done) | (simp; omega))) | (with_reducible apply Blk.drew) | (with_reducible apply Blk.drewN) | (with_reducible refine Blk.far ?_ (by simp only [ne_eq]; omega) _) | (with_reducible apply Blk.alloc)))
      have hbw3 : Below w.heap.size w w3 := by (repeat (first | (with_reducible exact Below.refl _ _) | (with_reducible assumption) | (with_reducible refine below_drewN ?_ _) | (with_reducible refine Below.drew ?_) | (with_reducible refine Below.alloc ?_ ?_ _) | (with_reducible refine Below.setCell ?_ ?_ _) | (with_reducible refine below_into ?_ (by assumption) (by first | omega | (simp; done) | (simp; omega))) | go_size))
      obtain ⟨sa, sb, sf, sl⟩ := hR3.cells
      unfold rV
      go_wp2_with fail
      refine ret_Q Try.results107 rfl (BQ.put hR3) rfl ?_
      exact BV.mk (rV_mk HV.out) (by (repeat (first | (with_reducible exact Below.refl _ _) | (with_reducible assumption) | (with_reducible refine below_drewN ?_ _) | (with_reducible refine Below.drew ?_) | (with_reducible refine Below.alloc ?_ ?_ _) | (with_reducible refine Below.setCell ?_ ?_ _) | (with_reducible refine below_into ?_ (by assumption) (by first | omega | (simp; done) | (simp; omega))) | go_size)))
set_option maxHeartbeats 4000000 in
theorem impl_MultiplyRatios (n d n' d' : Int) (w : World) : Calls Try.prog 156 #[.agg #[.int .i64 n, .int .i64 d], .agg #[.int .i64 n', .int .i64 d']] w (BV (rV (mulR (n, d) (n', d'))) w) := by
  rcases ha : ratOk n d with _ | _
  · have hv : mulR (n, d) (n', d') = (0, 0) := by unfold mulR; simp only [ha, Bool.false_and]; rfl
    have HV := Lib.hid hv
    have HA := Lib.hid ha
    clear hv ha
    go_enter Try.func156, Try.ntmps156
    go_wp2_with fail
    refine (impl_IsRatio n d _).mono ?_
    rw [HA.out]
    rintro e w1 ⟨rfl, hb1⟩
    have hsz1 := hb1.size; simp at hsz1; have hA1 : BQ w1 w.heap.size n d := (by (repeat (first | (with_reducible assumption) | (with_reducible refine Blk.new_at _ _ _ _ (by first | omega | (simp; done) | (simp; omega))) | (with_reducible refine Blk.below ?_ (by assumption) (by first | omega | (simp; done) | (simp; omega))) | (with_reducible apply Blk.drew) | (with_reducible apply Blk.drewN) | (with_reducible refine Blk.far ?_ (by simp only [ne_eq]; omega) _) | (with_reducible apply Blk.alloc)))); have hB1 : BQ w1 (w.heap.size + 1) n' d' := (by (repeat (first | (with_reducible assumption) | (with_reducible refine Blk.new_at _ _ _ _ (by first | omega | (simp; done) | (simp; omega))) | (with_reducible refine Blk.below ?_ (by assumption) (by first | omega | (simp; done) | (simp; omega))) | (with_reducible apply Blk.drew) | (with_reducible apply Blk.drewN) | (with_reducible refine Blk.far ?_ (by simp only [ne_eq]; omega) _) | (with_reducible apply Blk.alloc)))); have hR1 : BQ w1 (w.heap.size + 1 + 1) 0 0 := (by (repeat (first | (with_reducible assumption) | (with_reducible refine Blk.new_at _ _ _ _ (by first | omega | (simp; done) | (simp; omega))) | (with_reducible refine Blk.below ?_ (by assumption) (by first | omega | (simp; done) | (simp; omega))) | (with_reducible apply Blk.drew) | (with_reducible apply Blk.drewN) | (with_reducible refine Blk.far ?_ (by simp only [ne_eq]; omega) _) | (with_reducible apply Blk.alloc)))); have hbw1 : Below w.heap.size w w1 := (by (repeat (first | (with_reducible exact Below.refl _ _) | (with_reducible assumption) | (with_reducible refine below_drewN ?_ _) | (with_reducible refine Below.drew ?_) | (with_reducible refine Below.alloc ?_ ?_ _) | (with_reducible refine Below.setCell ?_ ?_ _) | (with_reducible refine below_into ?_ (by assumption) (by first | omega | (simp; done) | (simp; omega))) | go_size))); obtain ⟨aa, ab, af, al⟩ := hA1.cells; obtain ⟨ba, bb, bf, bl⟩ := hB1.cells; obtain ⟨ra, rb, rf, rl⟩ := hR1.cells
    go_wp2_with fail
    refine ret_Q Try.results156 rfl (BQ.put hR1) rfl ?_
    exact BV.mk (rV_mk HV.out) (by (repeat (first | (with_reducible exact Below.refl _ _) | (with_reducible assumption) | (with_reducible refine below_drewN ?_ _) | (with_reducible refine Below.drew ?_) | (with_reducible refine Below.alloc ?_ ?_ _) | (with_reducible refine Below.setCell ?_ ?_ _) | (with_reducible refine below_into ?_ (by assumption) (by first | omega | (simp; done) | (simp; omega))) | go_size)))
  · rcases hb : ratOk n' d' with _ | _
    · have hv : mulR (n, d) (n', d') = (0, 0) := by unfold mulR; simp only [hb, Bool.and_false]; rfl
      have HV := Lib.hid hv
      have HA := Lib.hid ha
      have HB := Lib.hid hb
      clear hv ha hb
      go_enter Try.func156, Try.ntmps156
      go_wp2_with fail
      refine (impl_IsRatio n d _).mono ?_
      rw [HA.out]
      rintro e w1 ⟨rfl, hb1⟩
      have hsz1 := hb1.size; simp at hsz1; have hA1 : BQ w1 w.heap.size n d := (by (repeat (first | (with_reducible assumption) | (with_reducible refine Blk.new_at _ _ _ _ (by first | omega | (simp; done) | (simp; omega))) | (with_reducible refine Blk.below ?_ (by assumption) (by first | omega | (simp; done) | (simp; omega))) | (with_reducible apply Blk.drew) | (with_reducible apply Blk.drewN) | (with_reducible refine Blk.far ?_ (by simp only [ne_eq]; omega) _) | (with_reducible apply Blk.alloc)))); have hB1 : BQ w1 (w.heap.size + 1) n' d' := (by (repeat (first | (with_reducible assumption) | (with_reducible refine Blk.new_at _ _ _ _ (by first | omega | (simp; done) | (simp; omega))) | (with_reducible refine Blk.below ?_ (by assumption) (by first | omega | (simp; done) | (simp; omega))) | (with_reducible apply Blk.drew) | (with_reducible apply Blk.drewN) | (with_reducible refine Blk.far ?_ (by simp only [ne_eq]; omega) _) | (with_reducible apply Blk.alloc)))); have hR1 : BQ w1 (w.heap.size + 1 + 1) 0 0 := (by (repeat (first | (with_reducible assumption) | (with_reducible refine Blk.new_at _ _ _ _ (by first | omega | (simp; done) | (simp; omega))) | (with_reducible refine Blk.below ?_ (by assumption) (by first | omega | (simp; done) | (simp; omega))) | (with_reducible apply Blk.drew) | (with_reducible apply Blk.drewN) | (with_reducible refine Blk.far ?_ (by simp only [ne_eq]; omega) _) | (with_reducible apply Blk.alloc)))); have hbw1 : Below w.heap.size w w1 := (by (repeat (first | (with_reducible exact Below.refl _ _) | (with_reducible assumption) | (with_reducible refine below_drewN ?_ _) | (with_reducible refine Below.drew ?_) | (with_reducible refine Below.alloc ?_ ?_ _) | (with_reducible refine Below.setCell ?_ ?_ _) | (with_reducible refine below_into ?_ (by assumption) (by first | omega | (simp; done) | (simp; omega))) | go_size))); obtain ⟨aa, ab, af, al⟩ := hA1.cells; obtain ⟨ba, bb, bf, bl⟩ := hB1.cells; obtain ⟨ra, rb, rf, rl⟩ := hR1.cells
      go_wp2_with fail
      refine (impl_IsRatio n' d' _).mono ?_
      rw [HB.out]
      rintro e w2 ⟨rfl, hb2⟩
      have hsz2 := hb2.size; have hA2 : BQ w2 w.heap.size n d := (by (repeat (first | (with_reducible exact hA1) | (with_reducible refine Blk.new_at _ _ _ _ (by first | omega | (simp; done) | (simp; omega))) | (with_reducible refine Blk.below ?_ (by assumption) (by first | omega | (simp; done) | (simp; omega))) | (with_reducible apply Blk.drew) | (with_reducible apply Blk.drewN) | (with_reducible refine Blk.far ?_ (by simp only [ne_eq]; omega) _) | (with_reducible apply Blk.alloc)))); have hB2 : BQ w2 (w.heap.size + 1) n' d' := (by (repeat (first | (with_reducible exact hB1) | (with_reducible refine Blk.new_at _ _ _ _ (by first | omega | (simp; done) | (simp; omega))) | (with_reducible refine Blk.below ?_ (by assumption) (by first | omega | (simp; done) | (simp; omega))) | (with_reducible apply Blk.drew) | (with_reducible apply Blk.drewN) | (with_reducible refine Blk.far ?_ (by simp only [ne_eq]; omega) _) | (with_reducible apply Blk.alloc)))); have hR2 : BQ w2 (w.heap.size + 1 + 1) 0 0 := (by (repeat (first | (with_reducible exact hR1) | (with_reducible refine Blk.new_at _ _ _ _ (by first | omega | (simp; done) | (simp; omega))) | (with_reducible refine Blk.below ?_ (by assumption) (by first | omega | (simp; done) | (simp; omega))) | (with_reducible apply Blk.drew) | (with_reducible apply Blk.drewN) | (with_reducible refine Blk.far ?_ (by simp only [ne_eq]; omega) _) | (with_reducible apply Blk.alloc)))); have hbw2 : Below w.heap.size w w2 := (by (repeat (first | (with_reducible exact Below.refl _ _) | (with_reducible assumption) | (with_reducible refine below_drewN ?_ _) | (with_reducible refine Below.drew ?_) | (with_reducible refine Below.alloc ?_ ?_ _) | (with_reducible refine Below.setCell ?_ ?_ _) | (with_reducible refine below_into ?_ (by assumption) (by first | omega | (simp; done) | (simp; omega))) | go_size))); clear aa ab af al ba bb bf bl ra rb rf rl hA1 hB1 hR1 hbw1; obtain ⟨aa, ab, af, al⟩ := hA2.cells; obtain ⟨ba, bb, bf, bl⟩ := hB2.cells; obtain ⟨ra, rb, rf, rl⟩ := hR2.cells
      go_wp2_with fail
      refine ret_Q Try.results156 rfl (BQ.put hR2) rfl ?_
      exact BV.mk (rV_mk HV.out) (by (repeat (first | (with_reducible exact Below.refl _ _) | (with_reducible assumption) | (with_reducible refine below_drewN ?_ _) | (with_reducible refine Below.drew ?_) | (with_reducible refine Below.alloc ?_ ?_ _) | (with_reducible refine Below.setCell ?_ ?_ _) | (with_reducible refine below_into ?_ (by assumption) (by first | omega | (simp; done) | (simp; omega))) | go_size)))
    · have hv : mulR (n, d) (n', d') = lowR (n * n') (d * d') := by unfold mulR; simp only [ha, hb, Bool.and_self, if_true]
      obtain ⟨⟨k1, k2⟩, ⟨k3, k4⟩, ⟨k5, k6⟩, ⟨k7, k8⟩⟩ := rat_bd (a := (n, d)) (b := (n', d')) ha hb
      simp only [] at k1 k2 k3 k4 k5 k6 k7 k8
      have HV := Lib.hid hv
      have HA := Lib.hid ha
      have HB := Lib.hid hb
      clear hv ha hb
      go_enter Try.func156, Try.ntmps156
      go_wp2_with fail
      refine (impl_IsRatio n d _).mono ?_
      rw [HA.out]
      rintro e w1 ⟨rfl, hb1⟩
      have hsz1 := hb1.size; simp at hsz1; have hA1 : BQ w1 w.heap.size n d := (by (repeat (first | (with_reducible assumption) | (with_reducible refine Blk.new_at _ _ _ _ (by first | omega | (simp; done) | (simp; omega))) | (with_reducible refine Blk.below ?_ (by assumption) (by first | omega | (simp; done) | (simp; omega))) | (with_reducible apply Blk.drew) | (with_reducible apply Blk.drewN) | (with_reducible refine Blk.far ?_ (by simp only [ne_eq]; omega) _) | (with_reducible apply Blk.alloc)))); have hB1 : BQ w1 (w.heap.size + 1) n' d' := (by (repeat (first | (with_reducible assumption) | (with_reducible refine Blk.new_at _ _ _ _ (by first | omega | (simp; done) | (simp; omega))) | (with_reducible refine Blk.below ?_ (by assumption) (by first | omega | (simp; done) | (simp; omega))) | (with_reducible apply Blk.drew) | (with_reducible apply Blk.drewN) | (with_reducible refine Blk.far ?_ (by simp only [ne_eq]; omega) _) | (with_reducible apply Blk.alloc)))); have hR1 : BQ w1 (w.heap.size + 1 + 1) 0 0 := (by (repeat (first | (with_reducible assumption) | (with_reducible refine Blk.new_at _ _ _ _ (by first | omega | (simp; done) | (simp; omega))) | (with_reducible refine Blk.below ?_ (by assumption) (by first | omega | (simp; done) | (simp; omega))) | (with_reducible apply Blk.drew) | (with_reducible apply Blk.drewN) | (with_reducible refine Blk.far ?_ (by simp only [ne_eq]; omega) _) | (with_reducible apply Blk.alloc)))); have hbw1 : Below w.heap.size w w1 := (by (repeat (first | (with_reducible exact Below.refl _ _) | (with_reducible assumption) | (with_reducible refine below_drewN ?_ _) | (with_reducible refine Below.drew ?_) | (with_reducible refine Below.alloc ?_ ?_ _) | (with_reducible refine Below.setCell ?_ ?_ _) | (with_reducible refine below_into ?_ (by assumption) (by first | omega | (simp; done) | (simp; omega))) | go_size))); obtain ⟨aa, ab, af, al⟩ := hA1.cells; obtain ⟨ba, bb, bf, bl⟩ := hB1.cells; obtain ⟨ra, rb, rf, rl⟩ := hR1.cells
      go_wp2_with fail
      refine (impl_IsRatio n' d' _).mono ?_
      rw [HB.out]
      rintro e w2 ⟨rfl, hb2⟩
      have hsz2 := hb2.size; have hA2 : BQ w2 w.heap.size n d := (by (repeat (first | (with_reducible exact hA1) | (with_reducible refine Blk.new_at _ _ _ _ (by first | omega | (simp; done) | (simp; omega))) | (with_reducible refine Blk.below ?_ (by assumption) (by first | omega | (simp; done) | (simp; omega))) | (with_reducible apply Blk.drew) | (with_reducible apply Blk.drewN) | (with_reducible refine Blk.far ?_ (by simp only [ne_eq]; omega) _) | (with_reducible apply Blk.alloc)))); have hB2 : BQ w2 (w.heap.size + 1) n' d' := (by (repeat (first | (with_reducible exact hB1) | (with_reducible refine Blk.new_at _ _ _ _ (by first | omega | (simp; done) | (simp; omega))) | (with_reducible refine Blk.below ?_ (by assumption) (by first | omega | (simp; done) | (simp; omega))) | (with_reducible apply Blk.drew) | (with_reducible apply Blk.drewN) | (with_reducible refine Blk.far ?_ (by simp only [ne_eq]; omega) _) | (with_reducible apply Blk.alloc)))); have hR2 : BQ w2 (w.heap.size + 1 + 1) 0 0 := (by (repeat (first | (with_reducible exact hR1) | (with_reducible refine Blk.new_at _ _ _ _ (by first | omega | (simp; done) | (simp; omega))) | (with_reducible refine Blk.below ?_ (by assumption) (by first | omega | (simp; done) | (simp; omega))) | (with_reducible apply Blk.drew) | (with_reducible apply Blk.drewN) | (with_reducible refine Blk.far ?_ (by simp only [ne_eq]; omega) _) | (with_reducible apply Blk.alloc)))); have hbw2 : Below w.heap.size w w2 := (by (repeat (first | (with_reducible exact Below.refl _ _) | (with_reducible assumption) | (with_reducible refine below_drewN ?_ _) | (with_reducible refine Below.drew ?_) | (with_reducible refine Below.alloc ?_ ?_ _) | (with_reducible refine Below.setCell ?_ ?_ _) | (with_reducible refine below_into ?_ (by assumption) (by first | omega | (simp; done) | (simp; omega))) | go_size))); clear aa ab af al ba bb bf bl ra rb rf rl hA1 hB1 hR1 hbw1; obtain ⟨aa, ab, af, al⟩ := hA2.cells; obtain ⟨ba, bb, bf, bl⟩ := hB2.cells; obtain ⟨ra, rb, rf, rl⟩ := hR2.cells
      go_wp2_with fail
      refine (impl_lowest (n * n') (d * d') (by omega) (by omega) (by omega) _).mono ?_
      rintro e w3 ⟨rfl, hb3⟩
      have hR3 : BQ w3 (w.heap.size + 1 + 1) 0 0 := by (repeat (first | (with_reducible exact hR2) | (with_reducible refine Blk.new_at _ _ _ _ (by first | omega | (simp; done) | (simp; omega))) | (with_reducible refine Blk.below ?_ (by assumption) (by first | omega | (simp; done) | (simp; omega))) | (with_reducible apply Blk.drew) | (with_reducible apply Blk.drewN) | (with_reducible refine Blk.far ?_ (by simp only [ne_eq]; omega) _) | (with_reducible apply Blk.alloc)))
      have hbw3 : Below w.heap.size w w3 := by (repeat (first | (with_reducible exact Below.refl _ _) | (with_reducible assumption) | (with_reducible refine below_drewN ?_ _) | (with_reducible refine Below.drew ?_) | (with_reducible refine Below.alloc ?_ ?_ _) | (with_reducible refine Below.setCell ?_ ?_ _) | (with_reducible refine below_into ?_ (by assumption) (by first | omega | (simp; done) | (simp; omega))) | go_size))
      obtain ⟨sa, sb, sf, sl⟩ := hR3.cells
      unfold rV
      go_wp2_with fail
      refine ret_Q Try.results156 rfl (BQ.put hR3) rfl ?_
      exact BV.mk (rV_mk HV.out) (by (repeat (first | (with_reducible exact Below.refl _ _) | (with_reducible assumption) | (with_reducible refine below_drewN ?_ _) | (with_reducible refine Below.drew ?_) | (with_reducible refine Below.alloc ?_ ?_ _) | (with_reducible refine Below.setCell ?_ ?_ _) | (with_reducible refine below_into ?_ (by assumption) (by first | omega | (simp; done) | (simp; omega))) | go_size)))
set_option maxHeartbeats 4000000 in
theorem spec_MultiplyRatios (n d n' d' : Int) (w : World) : Calls Try.prog 110 #[.agg #[.int .i64 n, .int .i64 d], .agg #[.int .i64 n', .int .i64 d']] w (BV (rV (mulR (n, d) (n', d'))) w) := by
  rcases ha : ratOk n d with _ | _
  · have hv : mulR (n, d) (n', d') = (0, 0) := by unfold mulR; simp only [ha, Bool.false_and]; rfl
    have HV := Lib.hid hv
    have HA := Lib.hid ha
    clear hv ha
    go_enter Try.func110, Try.ntmps110
    go_wp2_with fail
    refine (spec_IsRatio n d _).mono ?_
    rw [HA.out]
    rintro e w1 ⟨rfl, hb1⟩
    have hsz1 := hb1.size; simp at hsz1; have hA1 : BQ w1 w.heap.size n d := (by (repeat (first | (with_reducible assumption) | (with_reducible refine Blk.new_at _ _ _ _ (by first | omega | (simp; done) | (simp; omega))) | (with_reducible refine Blk.below ?_ (by assumption) (by first | omega | (simp; done) | (simp; omega))) | (with_reducible apply Blk.drew) | (with_reducible apply Blk.drewN) | (with_reducible refine Blk.far ?_ (by simp only [ne_eq]; omega) _) | (with_reducible apply Blk.alloc)))); have hB1 : BQ w1 (w.heap.size + 1) n' d' := (by (repeat (first | (with_reducible assumption) | (with_reducible refine Blk.new_at _ _ _ _ (by first | omega | (simp; done) | (simp; omega))) | (with_reducible refine Blk.below ?_ (by assumption) (by first | omega | (simp; done) | (simp; omega))) | (with_reducible apply Blk.drew) | (with_reducible apply Blk.drewN) | (with_reducible refine Blk.far ?_ (by simp only [ne_eq]; omega) _) | (with_reducible apply Blk.alloc)))); have hR1 : BQ w1 (w.heap.size + 1 + 1) 0 0 := (by (repeat (first | (with_reducible assumption) | (with_reducible refine Blk.new_at _ _ _ _ (by first | omega | (simp; done) | (simp; omega))) | (with_reducible refine Blk.below ?_ (by assumption) (by first | omega | (simp; done) | (simp; omega))) | (with_reducible apply Blk.drew) | (with_reducible apply Blk.drewN) | (with_reducible refine Blk.far ?_ (by simp only [ne_eq]; omega) _) | (with_reducible apply Blk.alloc)))); have hbw1 : Below w.heap.size w w1 := (by (repeat (first | (with_reducible exact Below.refl _ _) | (with_reducible assumption) | (with_reducible refine below_drewN ?_ _) | (with_reducible refine Below.drew ?_) | (with_reducible refine Below.alloc ?_ ?_ _) | (with_reducible refine Below.setCell ?_ ?_ _) | (with_reducible refine below_into ?_ (by assumption) (by first | omega | (simp; done) | (simp; omega))) | go_size))); obtain ⟨aa, ab, af, al⟩ := hA1.cells; obtain ⟨ba, bb, bf, bl⟩ := hB1.cells; obtain ⟨ra, rb, rf, rl⟩ := hR1.cells
    go_wp2_with fail
    refine ret_Q Try.results110 rfl (BQ.put hR1) rfl ?_
    exact BV.mk (rV_mk HV.out) (by (repeat (first | (with_reducible exact Below.refl _ _) | (with_reducible assumption) | (with_reducible refine below_drewN ?_ _) | (with_reducible refine Below.drew ?_) | (with_reducible refine Below.alloc ?_ ?_ _) | (with_reducible refine Below.setCell ?_ ?_ _) | (with_reducible refine below_into ?_ (by assumption) (by first | omega | (simp; done) | (simp; omega))) | go_size)))
  · rcases hb : ratOk n' d' with _ | _
    · have hv : mulR (n, d) (n', d') = (0, 0) := by unfold mulR; simp only [hb, Bool.and_false]; rfl
      have HV := Lib.hid hv
      have HA := Lib.hid ha
      have HB := Lib.hid hb
      clear hv ha hb
      go_enter Try.func110, Try.ntmps110
      go_wp2_with fail
      refine (spec_IsRatio n d _).mono ?_
      rw [HA.out]
      rintro e w1 ⟨rfl, hb1⟩
      have hsz1 := hb1.size; simp at hsz1; have hA1 : BQ w1 w.heap.size n d := (by (repeat (first | (with_reducible assumption) | (with_reducible refine Blk.new_at _ _ _ _ (by first | omega | (simp; done) | (simp; omega))) | (with_reducible refine Blk.below ?_ (by assumption) (by first | omega | (simp; done) | (simp; omega))) | (with_reducible apply Blk.drew) | (with_reducible apply Blk.drewN) | (with_reducible refine Blk.far ?_ (by simp only [ne_eq]; omega) _) | (with_reducible apply Blk.alloc)))); have hB1 : BQ w1 (w.heap.size + 1) n' d' := (by (repeat (first | (with_reducible assumption) | (with_reducible refine Blk.new_at _ _ _ _ (by first | omega | (simp; done) | (simp; omega))) | (with_reducible refine Blk.below ?_ (by assumption) (by first | omega | (simp; done) | (simp; omega))) | (with_reducible apply Blk.drew) | (with_reducible apply Blk.drewN) | (with_reducible refine Blk.far ?_ (by simp only [ne_eq]; omega) _) | (with_reducible apply Blk.alloc)))); have hR1 : BQ w1 (w.heap.size + 1 + 1) 0 0 := (by (repeat (first | (with_reducible assumption) | (with_reducible refine Blk.new_at _ _ _ _ (by first | omega | (simp; done) | (simp; omega))) | (with_reducible refine Blk.below ?_ (by assumption) (by first | omega | (simp; done) | (simp; omega))) | (with_reducible apply Blk.drew) | (with_reducible apply Blk.drewN) | (with_reducible refine Blk.far ?_ (by simp only [ne_eq]; omega) _) | (with_reducible apply Blk.alloc)))); have hbw1 : Below w.heap.size w w1 := (by (repeat (first | (with_reducible exact Below.refl _ _) | (with_reducible assumption) | (with_reducible refine below_drewN ?_ _) | (with_reducible refine Below.drew ?_) | (with_reducible refine Below.alloc ?_ ?_ _) | (with_reducible refine Below.setCell ?_ ?_ _) | (with_reducible refine below_into ?_ (by assumption) (by first | omega | (simp; done) | (simp; omega))) | go_size))); obtain ⟨aa, ab, af, al⟩ := hA1.cells; obtain ⟨ba, bb, bf, bl⟩ := hB1.cells; obtain ⟨ra, rb, rf, rl⟩ := hR1.cells
      go_wp2_with fail
      refine (spec_IsRatio n' d' _).mono ?_
      rw [HB.out]
      rintro e w2 ⟨rfl, hb2⟩
      have hsz2 := hb2.size; have hA2 : BQ w2 w.heap.size n d := (by (repeat (first | (with_reducible exact hA1) | (with_reducible refine Blk.new_at _ _ _ _ (by first | omega | (simp; done) | (simp; omega))) | (with_reducible refine Blk.below ?_ (by assumption) (by first | omega | (simp; done) | (simp; omega))) | (with_reducible apply Blk.drew) | (with_reducible apply Blk.drewN) | (with_reducible refine Blk.far ?_ (by simp only [ne_eq]; omega) _) | (with_reducible apply Blk.alloc)))); have hB2 : BQ w2 (w.heap.size + 1) n' d' := (by (repeat (first | (with_reducible exact hB1) | (with_reducible refine Blk.new_at _ _ _ _ (by first | omega | (simp; done) | (simp; omega))) | (with_reducible refine Blk.below ?_ (by assumption) (by first | omega | (simp; done) | (simp; omega))) | (with_reducible apply Blk.drew) | (with_reducible apply Blk.drewN) | (with_reducible refine Blk.far ?_ (by simp only [ne_eq]; omega) _) | (with_reducible apply Blk.alloc)))); have hR2 : BQ w2 (w.heap.size + 1 + 1) 0 0 := (by (repeat (first | (with_reducible exact hR1) | (with_reducible refine Blk.new_at _ _ _ _ (by first | omega | (simp; done) | (simp; omega))) | (with_reducible refine Blk.below ?_ (by assumption) (by first | omega | (simp; done) | (simp; omega))) | (with_reducible apply Blk.drew) | (with_reducible apply Blk.drewN) | (with_reducible refine Blk.far ?_ (by simp only [ne_eq]; omega) _) | (with_reducible apply Blk.alloc)))); have hbw2 : Below w.heap.size w w2 := (by (repeat (first | (with_reducible exact Below.refl _ _) | (with_reducible assumption) | (with_reducible refine below_drewN ?_ _) | (with_reducible refine Below.drew ?_) | (with_reducible refine Below.alloc ?_ ?_ _) | (with_reducible refine Below.setCell ?_ ?_ _) | (with_reducible refine below_into ?_ (by assumption) (by first | omega | (simp; done) | (simp; omega))) | go_size))); clear aa ab af al ba bb bf bl ra rb rf rl hA1 hB1 hR1 hbw1; obtain ⟨aa, ab, af, al⟩ := hA2.cells; obtain ⟨ba, bb, bf, bl⟩ := hB2.cells; obtain ⟨ra, rb, rf, rl⟩ := hR2.cells
      go_wp2_with fail
      refine ret_Q Try.results110 rfl (BQ.put hR2) rfl ?_
      exact BV.mk (rV_mk HV.out) (by (repeat (first | (with_reducible exact Below.refl _ _) | (with_reducible assumption) | (with_reducible refine below_drewN ?_ _) | (with_reducible refine Below.drew ?_) | (with_reducible refine Below.alloc ?_ ?_ _) | (with_reducible refine Below.setCell ?_ ?_ _) | (with_reducible refine below_into ?_ (by assumption) (by first | omega | (simp; done) | (simp; omega))) | go_size)))
    · have hv : mulR (n, d) (n', d') = lowR (n * n') (d * d') := by unfold mulR; simp only [ha, hb, Bool.and_self, if_true]
      obtain ⟨⟨k1, k2⟩, ⟨k3, k4⟩, ⟨k5, k6⟩, ⟨k7, k8⟩⟩ := rat_bd (a := (n, d)) (b := (n', d')) ha hb
      simp only [] at k1 k2 k3 k4 k5 k6 k7 k8
      have HV := Lib.hid hv
      have HA := Lib.hid ha
      have HB := Lib.hid hb
      clear hv ha hb
      go_enter Try.func110, Try.ntmps110
      go_wp2_with fail
      refine (spec_IsRatio n d _).mono ?_
      rw [HA.out]
      rintro e w1 ⟨rfl, hb1⟩
      have hsz1 := hb1.size; simp at hsz1; have hA1 : BQ w1 w.heap.size n d := (by (repeat (first | (with_reducible assumption) | (with_reducible refine Blk.new_at _ _ _ _ (by first | omega | (simp; done) | (simp; omega))) | (with_reducible refine Blk.below ?_ (by assumption) (by first | omega | (simp; done) | (simp; omega))) | (with_reducible apply Blk.drew) | (with_reducible apply Blk.drewN) | (with_reducible refine Blk.far ?_ (by simp only [ne_eq]; omega) _) | (with_reducible apply Blk.alloc)))); have hB1 : BQ w1 (w.heap.size + 1) n' d' := (by (repeat (first | (with_reducible assumption) | (with_reducible refine Blk.new_at _ _ _ _ (by first | omega | (simp; done) | (simp; omega))) | (with_reducible refine Blk.below ?_ (by assumption) (by first | omega | (simp; done) | (simp; omega))) | (with_reducible apply Blk.drew) | (with_reducible apply Blk.drewN) | (with_reducible refine Blk.far ?_ (by simp only [ne_eq]; omega) _) | (with_reducible apply Blk.alloc)))); have hR1 : BQ w1 (w.heap.size + 1 + 1) 0 0 := (by (repeat (first | (with_reducible assumption) | (with_reducible refine Blk.new_at _ _ _ _ (by first | omega | (simp; done) | (simp; omega))) | (with_reducible refine Blk.below ?_ (by assumption) (by first | omega | (simp; done) | (simp; omega))) | (with_reducible apply Blk.drew) | (with_reducible apply Blk.drewN) | (with_reducible refine Blk.far ?_ (by simp only [ne_eq]; omega) _) | (with_reducible apply Blk.alloc)))); have hbw1 : Below w.heap.size w w1 := (by (repeat (first | (with_reducible exact Below.refl _ _) | (with_reducible assumption) | (with_reducible refine below_drewN ?_ _) | (with_reducible refine Below.drew ?_) | (with_reducible refine Below.alloc ?_ ?_ _) | (with_reducible refine Below.setCell ?_ ?_ _) | (with_reducible refine below_into ?_ (by assumption) (by first | omega | (simp; done) | (simp; omega))) | go_size))); obtain ⟨aa, ab, af, al⟩ := hA1.cells; obtain ⟨ba, bb, bf, bl⟩ := hB1.cells; obtain ⟨ra, rb, rf, rl⟩ := hR1.cells
      go_wp2_with fail
      refine (spec_IsRatio n' d' _).mono ?_
      rw [HB.out]
      rintro e w2 ⟨rfl, hb2⟩
      have hsz2 := hb2.size; have hA2 : BQ w2 w.heap.size n d := (by (repeat (first | (with_reducible exact hA1) | (with_reducible refine Blk.new_at _ _ _ _ (by first | omega | (simp; done) | (simp; omega))) | (with_reducible refine Blk.below ?_ (by assumption) (by first | omega | (simp; done) | (simp; omega))) | (with_reducible apply Blk.drew) | (with_reducible apply Blk.drewN) | (with_reducible refine Blk.far ?_ (by simp only [ne_eq]; omega) _) | (with_reducible apply Blk.alloc)))); have hB2 : BQ w2 (w.heap.size + 1) n' d' := (by (repeat (first | (with_reducible exact hB1) | (with_reducible refine Blk.new_at _ _ _ _ (by first | omega | (simp; done) | (simp; omega))) | (with_reducible refine Blk.below ?_ (by assumption) (by first | omega | (simp; done) | (simp; omega))) | (with_reducible apply Blk.drew) | (with_reducible apply Blk.drewN) | (with_reducible refine Blk.far ?_ (by simp only [ne_eq]; omega) _) | (with_reducible apply Blk.alloc)))); have hR2 : BQ w2 (w.heap.size + 1 + 1) 0 0 := (by (repeat (first | (with_reducible exact hR1) | (with_reducible refine Blk.new_at _ _ _ _ (by first | omega | (simp; done) | (simp; omega))) | (with_reducible refine Blk.below ?_ (by assumption) (by first | omega | (simp; done) | (simp; omega))) | (with_reducible apply Blk.drew) | (with_reducible apply Blk.drewN) | (with_reducible refine Blk.far ?_ (by simp only [ne_eq]; omega) _) | (with_reducible apply Blk.alloc)))); have hbw2 : Below w.heap.size w w2 := (by (repeat (first | (with_reducible exact Below.refl _ _) | (with_reducible assumption) | (with_reducible refine below_drewN ?_ _) | (with_reducible refine Below.drew ?_) | (with_reducible refine Below.alloc ?_ ?_ _) | (with_reducible refine Below.setCell ?_ ?_ _) | (with_reducible refine below_into ?_ (by assumption) (by first | omega | (simp; done) | (simp; omega))) | go_size))); clear aa ab af al ba bb bf bl ra rb rf rl hA1 hB1 hR1 hbw1; obtain ⟨aa, ab, af, al⟩ := hA2.cells; obtain ⟨ba, bb, bf, bl⟩ := hB2.cells; obtain ⟨ra, rb, rf, rl⟩ := hR2.cells
      go_wp2_with fail
      refine (spec_l2Make (n * n') (d * d') (by omega) (by omega) (by omega) _).mono ?_
      rintro e w3 ⟨rfl, hb3⟩
      have hR3 : BQ w3 (w.heap.size + 1 + 1) 0 0 := by (repeat (first | (with_reducible exact hR2) | (with_reducible refine Blk.new_at _ _ _ _ (by first | omega | (simp; done) | (simp; omega))) | (with_reducible refine Blk.below ?_ (by assumption) (by first | omega | (simp; done) | (simp; omega))) | (with_reducible apply Blk.drew) | (with_reducible apply Blk.drewN) | (with_reducible refine Blk.far ?_ (by simp only [ne_eq]; omega) _) | (with_reducible apply Blk.alloc)))
      have hbw3 : Below w.heap.size w w3 := by (repeat (first | (with_reducible exact Below.refl _ _) | (with_reducible assumption) | (with_reducible refine below_drewN ?_ _) | (with_reducible refine Below.drew ?_) | (with_reducible refine Below.alloc ?_ ?_ _) | (with_reducible refine Below.setCell ?_ ?_ _) | (with_reducible refine below_into ?_ (by assumption) (by first | omega | (simp; done) | (simp; omega))) | go_size))
      obtain ⟨sa, sb, sf, sl⟩ := hR3.cells
      unfold rV
      go_wp2_with fail
      refine ret_Q Try.results110 rfl (BQ.put hR3) rfl ?_
      exact BV.mk (rV_mk HV.out) (by (repeat (first | (with_reducible exact Below.refl _ _) | (with_reducible assumption) | (with_reducible refine below_drewN ?_ _) | (with_reducible refine Below.drew ?_) | (with_reducible refine Below.alloc ?_ ?_ _) | (with_reducible refine Below.setCell ?_ ?_ _) | (with_reducible refine below_into ?_ (by assumption) (by first | omega | (simp; done) | (simp; omega))) | go_size)))
theorem impl_whole (n : Int) (w : World) : Calls Try.prog 154 #[.int .i64 n] w (BV (.agg #[.int .i64 n, .int .i64 1]) w) := by
  go_enter Try.func154, Try.ntmps154
  go_wp2_with fail
  refine ret_Q (b := w.heap.size) (n := n) (d := 1) Try.results154 rfl (by (repeat (first | (with_reducible assumption) | (with_reducible refine Blk.new_at _ _ _ _ (by first | omega | (simp; done) | (simp; omega))) | (with_reducible refine Blk.below ?_ (by assumption) (by first | omega | (simp; done) | (simp; omega))) | (with_reducible apply Blk.drew) | (with_reducible apply Blk.drewN) | (with_reducible refine Blk.far ?_ (by simp only [ne_eq]; omega) _) | (with_reducible apply Blk.alloc)))) rfl ?_
  exact BV.mk rfl (by (repeat (first | (with_reducible exact Below.refl _ _) | (with_reducible assumption) | (with_reducible refine below_drewN ?_ _) | (with_reducible refine Below.drew ?_) | (with_reducible refine Below.alloc ?_ ?_ _) | (with_reducible refine Below.setCell ?_ ?_ _) | (with_reducible refine below_into ?_ (by assumption) (by first | omega | (simp; done) | (simp; omega))) | go_size)))
theorem spec_l2Make0 (n : Int) (w : World) : Calls Try.prog 149 #[.int .i64 n, .int .i64 0] w (BV (rV (0, 0)) w) := by
  go_enter Try.func149, Try.ntmps149
  go_wp2_with fail
  refine ret_Q (b := w.heap.size) (n := 0) (d := 0) Try.results149 rfl (by (repeat (first | (with_reducible assumption) | (with_reducible refine Blk.new_at _ _ _ _ (by first | omega | (simp; done) | (simp; omega))) | (with_reducible refine Blk.below ?_ (by assumption) (by first | omega | (simp; done) | (simp; omega))) | (with_reducible apply Blk.drew) | (with_reducible apply Blk.drewN) | (with_reducible refine Blk.far ?_ (by simp only [ne_eq]; omega) _) | (with_reducible apply Blk.alloc)))) rfl ?_
  exact BV.mk rfl (by (repeat (first | (with_reducible exact Below.refl _ _) | (with_reducible assumption) | (with_reducible refine below_drewN ?_ _) | (with_reducible refine Below.drew ?_) | (with_reducible refine Below.alloc ?_ ?_ _) | (with_reducible refine Below.setCell ?_ ?_ _) | (with_reducible refine below_into ?_ (by assumption) (by first | omega | (simp; done) | (simp; omega))) | go_size)))
theorem rV_eq {q q' : Int × Int} (h : q = q') : Value.agg #[.int .i64 q'.1, .int .i64 q'.2] = rV q := by subst h; rfl
set_option maxHeartbeats 4000000 in
theorem impl_MakeRatio (n d : Int) (w : World) : Calls Try.prog 99 #[.int .i64 n, .int .i64 d] w (BV (rV (makR n d)) w) := by
  by_cases h1 : -400000000 ≤ n ∧ n ≤ 400000000
  · by_cases h2 : -400000000 ≤ d ∧ d ≤ 400000000
    · by_cases h3 : d = 0
      · have hv : makR n d = (0, 0) := by unfold makR; rw [h3]; simp
        have HV := Lib.hid hv
        subst h3
        clear hv
        obtain ⟨n1, n2⟩ := h1
        go_enter Try.func99, Try.ntmps99
        go_wp2_with (first | (go_at_call 70; (first | refine (impl_IsNumber_yes _ _ (by omega)).mono ?_ | refine (impl_IsNumber_no _ _ (by omega)).mono ?_ | refine (impl_IsNumber _ _).mono ?_); rintro e w' ⟨rfl, rfl⟩))
        skip
        refine ret_Q (b := w.heap.size) (n := 0) (d := 0) Try.results99 rfl (by first | exact BQ.put hR3 | (repeat (first | (with_reducible assumption) | (with_reducible refine Blk.new_at _ _ _ _ (by first | omega | (simp; done) | (simp; omega))) | (with_reducible refine Blk.below ?_ (by assumption) (by first | omega | (simp; done) | (simp; omega))) | (with_reducible apply Blk.drew) | (with_reducible apply Blk.drewN) | (with_reducible refine Blk.far ?_ (by simp only [ne_eq]; omega) _) | (with_reducible apply Blk.alloc)))) rfl ?_
        exact BV.mk (rV_mk HV.out) (by (repeat (first | (with_reducible exact Below.refl _ _) | (with_reducible assumption) | (with_reducible refine below_drewN ?_ _) | (with_reducible refine Below.drew ?_) | (with_reducible refine Below.alloc ?_ ?_ _) | (with_reducible refine Below.setCell ?_ ?_ _) | (with_reducible refine below_into ?_ (by assumption) (by first | omega | (simp; done) | (simp; omega))) | go_size)))
      · have hv : makR n d = lowR n d := by unfold makR; rw [(isNum_iff n).2 h1, (isNum_iff d).2 h2]; simp [h3]
        have HV := Lib.hid hv
        have h3b : (d == 0) = false := by simpa using h3
        have HD := Lib.hid h3
        clear hv h3
        obtain ⟨n1, n2⟩ := h1
        obtain ⟨d1, d2⟩ := h2
        go_enter Try.func99, Try.ntmps99
        go_wp2_with (first | (go_at_call 70; (first | refine (impl_IsNumber_yes _ _ (by omega)).mono ?_ | refine (impl_IsNumber_no _ _ (by omega)).mono ?_ | refine (impl_IsNumber _ _).mono ?_); rintro e w' ⟨rfl, rfl⟩))
        refine (impl_lowest n d HD.out (by omega) (by omega) _).mono ?_
        rintro e w3 ⟨rfl, hb3⟩
        have hR3 : BQ w3 w.heap.size 0 0 := by (repeat (first | (with_reducible assumption) | (with_reducible refine Blk.new_at _ _ _ _ (by first | omega | (simp; done) | (simp; omega))) | (with_reducible refine Blk.below ?_ (by assumption) (by first | omega | (simp; done) | (simp; omega))) | (with_reducible apply Blk.drew) | (with_reducible apply Blk.drewN) | (with_reducible refine Blk.far ?_ (by simp only [ne_eq]; omega) _) | (with_reducible apply Blk.alloc)))
        have hbw3 : Below w.heap.size w w3 := by (repeat (first | (with_reducible exact Below.refl _ _) | (with_reducible assumption) | (with_reducible refine below_drewN ?_ _) | (with_reducible refine Below.drew ?_) | (with_reducible refine Below.alloc ?_ ?_ _) | (with_reducible refine Below.setCell ?_ ?_ _) | (with_reducible refine below_into ?_ (by assumption) (by first | omega | (simp; done) | (simp; omega))) | go_size))
        obtain ⟨sa, sb, sf, sl⟩ := hR3.cells
        unfold rV
        go_wp2_with fail
        refine ret_Q (b := w.heap.size) (n := (lowR n d).1) (d := (lowR n d).2) Try.results99 rfl (BQ.put hR3) rfl ?_
        refine BV.mk ?_ (by (repeat (first | (with_reducible exact Below.refl _ _) | (with_reducible assumption) | (with_reducible refine below_drewN ?_ _) | (with_reducible refine Below.drew ?_) | (with_reducible refine Below.alloc ?_ ?_ _) | (with_reducible refine Below.setCell ?_ ?_ _) | (with_reducible refine below_into ?_ (by assumption) (by first | omega | (simp; done) | (simp; omega))) | go_size)))
        exact (congrArg rV HV.out).symm
    · have hv : makR n d = (0, 0) := by unfold makR; rw [(isNum_not d).2 (by omega)]; simp
      have HV := Lib.hid hv
      have h4 : d < -400000000 ∨ 400000000 < d := by omega
      clear hv h2
      obtain ⟨n1, n2⟩ := h1
      rcases h4 with h4 | h4
      all_goals
        go_enter Try.func99, Try.ntmps99
        go_wp2_with (first | (go_at_call 70; (first | refine (impl_IsNumber_yes _ _ (by omega)).mono ?_ | refine (impl_IsNumber_no _ _ (by omega)).mono ?_ | refine (impl_IsNumber _ _).mono ?_); rintro e w' ⟨rfl, rfl⟩))
        refine ret_Q (b := w.heap.size) (n := 0) (d := 0) Try.results99 rfl (by (repeat (first | (with_reducible assumption) | (with_reducible refine Blk.new_at _ _ _ _ (by first | omega | (simp; done) | (simp; omega))) | (with_reducible refine Blk.below ?_ (by assumption) (by first | omega | (simp; done) | (simp; omega))) | (with_reducible apply Blk.drew) | (with_reducible apply Blk.drewN) | (with_reducible refine Blk.far ?_ (by simp only [ne_eq]; omega) _) | (with_reducible apply Blk.alloc)))) rfl ?_
        exact BV.mk (rV_mk HV.out) (by (repeat (first | (with_reducible exact Below.refl _ _) | (with_reducible assumption) | (with_reducible refine below_drewN ?_ _) | (with_reducible refine Below.drew ?_) | (with_reducible refine Below.alloc ?_ ?_ _) | (with_reducible refine Below.setCell ?_ ?_ _) | (with_reducible refine below_into ?_ (by assumption) (by first | omega | (simp; done) | (simp; omega))) | go_size)))
  · have hv : makR n d = (0, 0) := by unfold makR; rw [(isNum_not n).2 (by omega)]; simp
    have HV := Lib.hid hv
    have h4 : n < -400000000 ∨ 400000000 < n := by omega
    clear hv h1
    rcases h4 with h4 | h4
    all_goals
      go_enter Try.func99, Try.ntmps99
      go_wp2_with (first | (go_at_call 70; (first | refine (impl_IsNumber_yes _ _ (by omega)).mono ?_ | refine (impl_IsNumber_no _ _ (by omega)).mono ?_ | refine (impl_IsNumber _ _).mono ?_); rintro e w' ⟨rfl, rfl⟩))
      refine ret_Q (b := w.heap.size) (n := 0) (d := 0) Try.results99 rfl (by (repeat (first | (with_reducible assumption) | (with_reducible refine Blk.new_at _ _ _ _ (by first | omega | (simp; done) | (simp; omega))) | (with_reducible refine Blk.below ?_ (by assumption) (by first | omega | (simp; done) | (simp; omega))) | (with_reducible apply Blk.drew) | (with_reducible apply Blk.drewN) | (with_reducible refine Blk.far ?_ (by simp only [ne_eq]; omega) _) | (with_reducible apply Blk.alloc)))) rfl ?_
      exact BV.mk (rV_mk HV.out) (by (repeat (first | (with_reducible exact Below.refl _ _) | (with_reducible assumption) | (with_reducible refine below_drewN ?_ _) | (with_reducible refine Below.drew ?_) | (with_reducible refine Below.alloc ?_ ?_ _) | (with_reducible refine Below.setCell ?_ ?_ _) | (with_reducible refine below_into ?_ (by assumption) (by first | omega | (simp; done) | (simp; omega))) | go_size)))
set_option maxHeartbeats 4000000 in
theorem spec_MakeRatio (n d : Int) (w : World) : Calls Try.prog 97 #[.int .i64 n, .int .i64 d] w (BV (rV (makR n d)) w) := by
  by_cases h1 : -400000000 ≤ n ∧ n ≤ 400000000
  · by_cases h2 : -400000000 ≤ d ∧ d ≤ 400000000
    · by_cases h3 : d = 0
      · have hv : makR n d = (0, 0) := by unfold makR; rw [h3]; simp
        have HV := Lib.hid hv
        subst h3
        clear hv
        obtain ⟨n1, n2⟩ := h1
        go_enter Try.func97, Try.ntmps97
        go_wp2_with (first | (go_at_call 76; (first | refine (spec_IsNumber_yes _ _ (by omega)).mono ?_ | refine (spec_IsNumber_no _ _ (by omega)).mono ?_ | refine (spec_IsNumber _ _).mono ?_); rintro e w' ⟨rfl, rfl⟩))
        (refine (spec_l2Make0 n _).mono ?_; rintro e w3 ⟨rfl, hb3⟩; have hR3 : BQ w3 w.heap.size 0 0 := (by (repeat (first | (with_reducible assumption) | (with_reducible refine Blk.new_at _ _ _ _ (by first | omega | (simp; done) | (simp; omega))) | (with_reducible refine Blk.below ?_ (by assumption) (by first | omega | (simp; done) | (simp; omega))) | (with_reducible apply Blk.drew) | (with_reducible apply Blk.drewN) | (with_reducible refine Blk.far ?_ (by simp only [ne_eq]; omega) _) | (with_reducible apply Blk.alloc)))); have hbw3 : Below w.heap.size w w3 := (by (repeat (first | (with_reducible exact Below.refl _ _) | (with_reducible assumption) | (with_reducible refine below_drewN ?_ _) | (with_reducible refine Below.drew ?_) | (with_reducible refine Below.alloc ?_ ?_ _) | (with_reducible refine Below.setCell ?_ ?_ _) | (with_reducible refine below_into ?_ (by assumption) (by first | omega | (simp; done) | (simp; omega))) | go_size))); obtain ⟨sa, sb, sf, sl⟩ := hR3.cells; unfold rV; go_wp2_with fail)
        refine ret_Q (b := w.heap.size) (n := 0) (d := 0) Try.results97 rfl (by first | exact BQ.put hR3 | (repeat (first | (with_reducible assumption) | (with_reducible refine Blk.new_at _ _ _ _ (by first | omega | (simp; done) | (simp; omega))) | (with_reducible refine Blk.below ?_ (by assumption) (by first | omega | (simp; done) | (simp; omega))) | (with_reducible apply Blk.drew) | (with_reducible apply Blk.drewN) | (with_reducible refine Blk.far ?_ (by simp only [ne_eq]; omega) _) | (with_reducible apply Blk.alloc)))) rfl ?_
        exact BV.mk (rV_mk HV.out) (by (repeat (first | (with_reducible exact Below.refl _ _) | (with_reducible assumption) | (with_reducible refine below_drewN ?_ _) | (with_reducible refine Below.drew ?_) | (with_reducible refine Below.alloc ?_ ?_ _) | (with_reducible refine Below.setCell ?_ ?_ _) | (with_reducible refine below_into ?_ (by assumption) (by first | omega | (simp; done) | (simp; omega))) | go_size)))
      · have hv : makR n d = lowR n d := by unfold makR; rw [(isNum_iff n).2 h1, (isNum_iff d).2 h2]; simp [h3]
        have HV := Lib.hid hv
        have h3b : (d == 0) = false := by simpa using h3
        have HD := Lib.hid h3
        clear hv h3
        obtain ⟨n1, n2⟩ := h1
        obtain ⟨d1, d2⟩ := h2
        go_enter Try.func97, Try.ntmps97
        go_wp2_with (first | (go_at_call 76; (first | refine (spec_IsNumber_yes _ _ (by omega)).mono ?_ | refine (spec_IsNumber_no _ _ (by omega)).mono ?_ | refine (spec_IsNumber _ _).mono ?_); rintro e w' ⟨rfl, rfl⟩))
        refine (spec_l2Make n d HD.out (by omega) (by omega) _).mono ?_
        rintro e w3 ⟨rfl, hb3⟩
        have hR3 : BQ w3 w.heap.size 0 0 := by (repeat (first | (with_reducible assumption) | (with_reducible refine Blk.new_at _ _ _ _ (by first | omega | (simp; done) | (simp; omega))) | (with_reducible refine Blk.below ?_ (by assumption) (by first | omega | (simp; done) | (simp; omega))) | (with_reducible apply Blk.drew) | (with_reducible apply Blk.drewN) | (with_reducible refine Blk.far ?_ (by simp only [ne_eq]; omega) _) | (with_reducible apply Blk.alloc)))
        have hbw3 : Below w.heap.size w w3 := by (repeat (first | (with_reducible exact Below.refl _ _) | (with_reducible assumption) | (with_reducible refine below_drewN ?_ _) | (with_reducible refine Below.drew ?_) | (with_reducible refine Below.alloc ?_ ?_ _) | (with_reducible refine Below.setCell ?_ ?_ _) | (with_reducible refine below_into ?_ (by assumption) (by first | omega | (simp; done) | (simp; omega))) | go_size))
        obtain ⟨sa, sb, sf, sl⟩ := hR3.cells
        unfold rV
        go_wp2_with fail
        refine ret_Q (b := w.heap.size) (n := (lowR n d).1) (d := (lowR n d).2) Try.results97 rfl (BQ.put hR3) rfl ?_
        refine BV.mk ?_ (by (repeat (first | (with_reducible exact Below.refl _ _) | (with_reducible assumption) | (with_reducible refine below_drewN ?_ _) | (with_reducible refine Below.drew ?_) | (with_reducible refine Below.alloc ?_ ?_ _) | (with_reducible refine Below.setCell ?_ ?_ _) | (with_reducible refine below_into ?_ (by assumption) (by first | omega | (simp; done) | (simp; omega))) | go_size)))
        exact (congrArg rV HV.out).symm
    · have hv : makR n d = (0, 0) := by unfold makR; rw [(isNum_not d).2 (by omega)]; simp
      have HV := Lib.hid hv
      have h4 : d < -400000000 ∨ 400000000 < d := by omega
      clear hv h2
      obtain ⟨n1, n2⟩ := h1
      rcases h4 with h4 | h4
      all_goals
        go_enter Try.func97, Try.ntmps97
        go_wp2_with (first | (go_at_call 76; (first | refine (spec_IsNumber_yes _ _ (by omega)).mono ?_ | refine (spec_IsNumber_no _ _ (by omega)).mono ?_ | refine (spec_IsNumber _ _).mono ?_); rintro e w' ⟨rfl, rfl⟩))
        refine ret_Q (b := w.heap.size) (n := 0) (d := 0) Try.results97 rfl (by (repeat (first | (with_reducible assumption) | (with_reducible refine Blk.new_at _ _ _ _ (by first | omega | (simp; done) | (simp; omega))) | (with_reducible refine Blk.below ?_ (by assumption) (by first | omega | (simp; done) | (simp; omega))) | (with_reducible apply Blk.drew) | (with_reducible apply Blk.drewN) | (with_reducible refine Blk.far ?_ (by simp only [ne_eq]; omega) _) | (with_reducible apply Blk.alloc)))) rfl ?_
        exact BV.mk (rV_mk HV.out) (by (repeat (first | (with_reducible exact Below.refl _ _) | (with_reducible assumption) | (with_reducible refine below_drewN ?_ _) | (with_reducible refine Below.drew ?_) | (with_reducible refine Below.alloc ?_ ?_ _) | (with_reducible refine Below.setCell ?_ ?_ _) | (with_reducible refine below_into ?_ (by assumption) (by first | omega | (simp; done) | (simp; omega))) | go_size)))
  · have hv : makR n d = (0, 0) := by unfold makR; rw [(isNum_not n).2 (by omega)]; simp
    have HV := Lib.hid hv
    have h4 : n < -400000000 ∨ 400000000 < n := by omega
    clear hv h1
    rcases h4 with h4 | h4
    all_goals
      go_enter Try.func97, Try.ntmps97
      go_wp2_with (first | (go_at_call 76; (first | refine (spec_IsNumber_yes _ _ (by omega)).mono ?_ | refine (spec_IsNumber_no _ _ (by omega)).mono ?_ | refine (spec_IsNumber _ _).mono ?_); rintro e w' ⟨rfl, rfl⟩))
      refine ret_Q (b := w.heap.size) (n := 0) (d := 0) Try.results97 rfl (by (repeat (first | (with_reducible assumption) | (with_reducible refine Blk.new_at _ _ _ _ (by first | omega | (simp; done) | (simp; omega))) | (with_reducible refine Blk.below ?_ (by assumption) (by first | omega | (simp; done) | (simp; omega))) | (with_reducible apply Blk.drew) | (with_reducible apply Blk.drewN) | (with_reducible refine Blk.far ?_ (by simp only [ne_eq]; omega) _) | (with_reducible apply Blk.alloc)))) rfl ?_
      exact BV.mk (rV_mk HV.out) (by (repeat (first | (with_reducible exact Below.refl _ _) | (with_reducible assumption) | (with_reducible refine below_drewN ?_ _) | (with_reducible refine Below.drew ?_) | (with_reducible refine Below.alloc ?_ ?_ _) | (with_reducible refine Below.setCell ?_ ?_ _) | (with_reducible refine below_into ?_ (by assumption) (by first | omega | (simp; done) | (simp; omega))) | go_size)))
end Go.Proofs.Ytcpbaagnjofjfaa

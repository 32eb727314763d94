/-
  DERIVED. Sums, products, makings of ratios, both.
-/
import Derived.Test.YtlggfmfelakadaaGreatDoorc7
namespace Go.Proofs.YtlggfmfelakadaaGreatDoor
open Go.RowKit
set_option linter.unusedVariables false
set_option linter.unusedSimpArgs false
set_option maxHeartbeats 4000000 in
theorem impl_AddRatios (n d n' d' : Int) (w : World) : Calls Tryz.prog 47 #[.agg #[.int .i64 n, .int .i64 d], .agg #[.int .i64 n', .int .i64 d']] w (BV (rV (addR (n, d) (n', d'))) w) := by
  rcases ha : ratOk n d with _ | _
  · have hv : addR (n, d) (n', d') = (0, 0) := by unfold addR; simp only [ha, Bool.false_and]; rfl
    have HV := Lib.hid hv
    have HA := Lib.hid ha
    clear hv ha
    go_enter Tryz.func47, Tryz.ntmps47
    go_wp2_with fail
    refine (impl_IsRatio n d _).mono ?_
    rw [HA.out]
    rintro e w1 ⟨rfl, hb1⟩
    have hsz1 := hb1.size; simp at hsz1; have hA1 : BQ w1 w.heap.size n d := (by (with_reducible (repeat (first | assumption | refine Blk.new_at _ _ _ _ Ks | refine Blk.below ?_ (by assumption) Ks | apply Blk.drew | apply Blk.drewN | refine Blk.far ?_ (by simp only [ne_eq]; omega) _ | apply Blk.alloc)))); have hB1 : BQ w1 (w.heap.size + 1) n' d' := (by (with_reducible (repeat (first | assumption | refine Blk.new_at _ _ _ _ Ks | refine Blk.below ?_ (by assumption) Ks | apply Blk.drew | apply Blk.drewN | refine Blk.far ?_ (by simp only [ne_eq]; omega) _ | apply Blk.alloc)))); have hR1 : BQ w1 (w.heap.size + 1 + 1) 0 0 := (by (with_reducible (repeat (first | assumption | refine Blk.new_at _ _ _ _ Ks | refine Blk.below ?_ (by assumption) Ks | apply Blk.drew | apply Blk.drewN | refine Blk.far ?_ (by simp only [ne_eq]; omega) _ | apply Blk.alloc)))); have hbw1 : Below w.heap.size w w1 := Kw; obtain ⟨aa, ab, af, al⟩ := hA1.cells; obtain ⟨ba, bb, bf, bl⟩ := hB1.cells; obtain ⟨ra, rb, rf, rl⟩ := hR1.cells
    go_wp2_with fail
    refine ret_Q Tryz.results47 rfl (BQ.put hR1) rfl ?_
    exact BV.mk (rV_mk HV.out) Kw
  · rcases hb : ratOk n' d' with _ | _
    · have hv : addR (n, d) (n', d') = (0, 0) := by unfold addR; simp only [hb, Bool.and_false]; rfl
      have HV := Lib.hid hv
      have HA := Lib.hid ha
      have HB := Lib.hid hb
      clear hv ha hb
      go_enter Tryz.func47, Tryz.ntmps47
      go_wp2_with fail
      refine (impl_IsRatio n d _).mono ?_
      rw [HA.out]
      rintro e w1 ⟨rfl, hb1⟩
      have hsz1 := hb1.size; simp at hsz1; have hA1 : BQ w1 w.heap.size n d := (by (with_reducible (repeat (first | assumption | refine Blk.new_at _ _ _ _ Ks | refine Blk.below ?_ (by assumption) Ks | apply Blk.drew | apply Blk.drewN | refine Blk.far ?_ (by simp only [ne_eq]; omega) _ | apply Blk.alloc)))); have hB1 : BQ w1 (w.heap.size + 1) n' d' := (by (with_reducible (repeat (first | assumption | refine Blk.new_at _ _ _ _ Ks | refine Blk.below ?_ (by assumption) Ks | apply Blk.drew | apply Blk.drewN | refine Blk.far ?_ (by simp only [ne_eq]; omega) _ | apply Blk.alloc)))); have hR1 : BQ w1 (w.heap.size + 1 + 1) 0 0 := (by (with_reducible (repeat (first | assumption | refine Blk.new_at _ _ _ _ Ks | refine Blk.below ?_ (by assumption) Ks | apply Blk.drew | apply Blk.drewN | refine Blk.far ?_ (by simp only [ne_eq]; omega) _ | apply Blk.alloc)))); have hbw1 : Below w.heap.size w w1 := Kw; obtain ⟨aa, ab, af, al⟩ := hA1.cells; obtain ⟨ba, bb, bf, bl⟩ := hB1.cells; obtain ⟨ra, rb, rf, rl⟩ := hR1.cells
      go_wp2_with fail
      refine (impl_IsRatio n' d' _).mono ?_
      rw [HB.out]
      rintro e w2 ⟨rfl, hb2⟩
      have hsz2 := hb2.size; have hA2 : BQ w2 w.heap.size n d := (by (with_reducible (repeat (first | exact hA1 | refine Blk.new_at _ _ _ _ Ks | refine Blk.below ?_ (by assumption) Ks | apply Blk.drew | apply Blk.drewN | refine Blk.far ?_ (by simp only [ne_eq]; omega) _ | apply Blk.alloc)))); have hB2 : BQ w2 (w.heap.size + 1) n' d' := (by (with_reducible (repeat (first | exact hB1 | refine Blk.new_at _ _ _ _ Ks | refine Blk.below ?_ (by assumption) Ks | apply Blk.drew | apply Blk.drewN | refine Blk.far ?_ (by simp only [ne_eq]; omega) _ | apply Blk.alloc)))); have hR2 : BQ w2 (w.heap.size + 1 + 1) 0 0 := (by (with_reducible (repeat (first | exact hR1 | refine Blk.new_at _ _ _ _ Ks | refine Blk.below ?_ (by assumption) Ks | apply Blk.drew | apply Blk.drewN | refine Blk.far ?_ (by simp only [ne_eq]; omega) _ | apply Blk.alloc)))); have hbw2 : Below w.heap.size w w2 := Kw; clear aa ab af al ba bb bf bl ra rb rf rl hA1 hB1 hR1 hbw1; obtain ⟨aa, ab, af, al⟩ := hA2.cells; obtain ⟨ba, bb, bf, bl⟩ := hB2.cells; obtain ⟨ra, rb, rf, rl⟩ := hR2.cells
      go_wp2_with fail
      refine ret_Q Tryz.results47 rfl (BQ.put hR2) rfl ?_
      exact BV.mk (rV_mk HV.out) Kw
    · have hv : addR (n, d) (n', d') = lowR (n * d' + n' * d) (d * d') := by unfold addR; simp only [ha, hb, Bool.and_self, if_true]
      obtain ⟨⟨k1, k2⟩, ⟨k3, k4⟩, ⟨k5, k6⟩, ⟨k7, k8⟩⟩ := rat_bd (a := (n, d)) (b := (n', d')) ha hb
      simp only [] at k1 k2 k3 k4 k5 k6 k7 k8
      have HV := Lib.hid hv
      have HA := Lib.hid ha
      have HB := Lib.hid hb
      clear hv ha hb
      go_enter Tryz.func47, Tryz.ntmps47
      go_wp2_with fail
      refine (impl_IsRatio n d _).mono ?_
      rw [HA.out]
      rintro e w1 ⟨rfl, hb1⟩
      have hsz1 := hb1.size; simp at hsz1; have hA1 : BQ w1 w.heap.size n d := (by (with_reducible (repeat (first | assumption | refine Blk.new_at _ _ _ _ Ks | refine Blk.below ?_ (by assumption) Ks | apply Blk.drew | apply Blk.drewN | refine Blk.far ?_ (by simp only [ne_eq]; omega) _ | apply Blk.alloc)))); have hB1 : BQ w1 (w.heap.size + 1) n' d' := (by (with_reducible (repeat (first | assumption | refine Blk.new_at _ _ _ _ Ks | refine Blk.below ?_ (by assumption) Ks | apply Blk.drew | apply Blk.drewN | refine Blk.far ?_ (by simp only [ne_eq]; omega) _ | apply Blk.alloc)))); have hR1 : BQ w1 (w.heap.size + 1 + 1) 0 0 := (by (with_reducible (repeat (first | assumption | refine Blk.new_at _ _ _ _ Ks | refine Blk.below ?_ (by assumption) Ks | apply Blk.drew | apply Blk.drewN | refine Blk.far ?_ (by simp only [ne_eq]; omega) _ | apply Blk.alloc)))); have hbw1 : Below w.heap.size w w1 := Kw; obtain ⟨aa, ab, af, al⟩ := hA1.cells; obtain ⟨ba, bb, bf, bl⟩ := hB1.cells; obtain ⟨ra, rb, rf, rl⟩ := hR1.cells
      go_wp2_with fail
      refine (impl_IsRatio n' d' _).mono ?_
      rw [HB.out]
      rintro e w2 ⟨rfl, hb2⟩
      have hsz2 := hb2.size; have hA2 : BQ w2 w.heap.size n d := (by (with_reducible (repeat (first | exact hA1 | refine Blk.new_at _ _ _ _ Ks | refine Blk.below ?_ (by assumption) Ks | apply Blk.drew | apply Blk.drewN | refine Blk.far ?_ (by simp only [ne_eq]; omega) _ | apply Blk.alloc)))); have hB2 : BQ w2 (w.heap.size + 1) n' d' := (by (with_reducible (repeat (first | exact hB1 | refine Blk.new_at _ _ _ _ Ks | refine Blk.below ?_ (by assumption) Ks | apply Blk.drew | apply Blk.drewN | refine Blk.far ?_ (by simp only [ne_eq]; omega) _ | apply Blk.alloc)))); have hR2 : BQ w2 (w.heap.size + 1 + 1) 0 0 := (by (with_reducible (repeat (first | exact hR1 | refine Blk.new_at _ _ _ _ Ks | refine Blk.below ?_ (by assumption) Ks | apply Blk.drew | apply Blk.drewN | refine Blk.far ?_ (by simp only [ne_eq]; omega) _ | apply Blk.alloc)))); have hbw2 : Below w.heap.size w w2 := Kw; clear aa ab af al ba bb bf bl ra rb rf rl hA1 hB1 hR1 hbw1; obtain ⟨aa, ab, af, al⟩ := hA2.cells; obtain ⟨ba, bb, bf, bl⟩ := hB2.cells; obtain ⟨ra, rb, rf, rl⟩ := hR2.cells
      go_wp2_with fail
      refine (impl_lowest (n * d' + n' * d) (d * d') (by omega) (by omega) (by omega) _).mono ?_
      rintro e w3 ⟨rfl, hb3⟩
      have hR3 : BQ w3 (w.heap.size + 1 + 1) 0 0 := by (with_reducible (repeat (first | exact hR2 | refine Blk.new_at _ _ _ _ Ks | refine Blk.below ?_ (by assumption) Ks | apply Blk.drew | apply Blk.drewN | refine Blk.far ?_ (by simp only [ne_eq]; omega) _ | apply Blk.alloc)))
      have hbw3 : Below w.heap.size w w3 := Kw
      obtain ⟨sa, sb, sf, sl⟩ := hR3.cells
      unfold rV
      go_wp2_with fail
      refine ret_Q Tryz.results47 rfl (BQ.put hR3) rfl ?_
      exact BV.mk (rV_mk HV.out) Kw
set_option maxHeartbeats 4000000 in
theorem impl_MultiplyRatios (n d n' d' : Int) (w : World) : Calls Tryz.prog 48 #[.agg #[.int .i64 n, .int .i64 d], .agg #[.int .i64 n', .int .i64 d']] w (BV (rV (mulR (n, d) (n', d'))) w) := by
  rcases ha : ratOk n d with _ | _
  · have hv : mulR (n, d) (n', d') = (0, 0) := by unfold mulR; simp only [ha, Bool.false_and]; rfl
    have HV := Lib.hid hv
    have HA := Lib.hid ha
    clear hv ha
    go_enter Tryz.func48, Tryz.ntmps48
    go_wp2_with fail
    refine (impl_IsRatio n d _).mono ?_
    rw [HA.out]
    rintro e w1 ⟨rfl, hb1⟩
    have hsz1 := hb1.size; simp at hsz1; have hA1 : BQ w1 w.heap.size n d := (by (with_reducible (repeat (first | assumption | refine Blk.new_at _ _ _ _ Ks | refine Blk.below ?_ (by assumption) Ks | apply Blk.drew | apply Blk.drewN | refine Blk.far ?_ (by simp only [ne_eq]; omega) _ | apply Blk.alloc)))); have hB1 : BQ w1 (w.heap.size + 1) n' d' := (by (with_reducible (repeat (first | assumption | refine Blk.new_at _ _ _ _ Ks | refine Blk.below ?_ (by assumption) Ks | apply Blk.drew | apply Blk.drewN | refine Blk.far ?_ (by simp only [ne_eq]; omega) _ | apply Blk.alloc)))); have hR1 : BQ w1 (w.heap.size + 1 + 1) 0 0 := (by (with_reducible (repeat (first | assumption | refine Blk.new_at _ _ _ _ Ks | refine Blk.below ?_ (by assumption) Ks | apply Blk.drew | apply Blk.drewN | refine Blk.far ?_ (by simp only [ne_eq]; omega) _ | apply Blk.alloc)))); have hbw1 : Below w.heap.size w w1 := Kw; obtain ⟨aa, ab, af, al⟩ := hA1.cells; obtain ⟨ba, bb, bf, bl⟩ := hB1.cells; obtain ⟨ra, rb, rf, rl⟩ := hR1.cells
    go_wp2_with fail
    refine ret_Q Tryz.results48 rfl (BQ.put hR1) rfl ?_
    exact BV.mk (rV_mk HV.out) Kw
  · rcases hb : ratOk n' d' with _ | _
    · have hv : mulR (n, d) (n', d') = (0, 0) := by unfold mulR; simp only [hb, Bool.and_false]; rfl
      have HV := Lib.hid hv
      have HA := Lib.hid ha
      have HB := Lib.hid hb
      clear hv ha hb
      go_enter Tryz.func48, Tryz.ntmps48
      go_wp2_with fail
      refine (impl_IsRatio n d _).mono ?_
      rw [HA.out]
      rintro e w1 ⟨rfl, hb1⟩
      have hsz1 := hb1.size; simp at hsz1; have hA1 : BQ w1 w.heap.size n d := (by (with_reducible (repeat (first | assumption | refine Blk.new_at _ _ _ _ Ks | refine Blk.below ?_ (by assumption) Ks | apply Blk.drew | apply Blk.drewN | refine Blk.far ?_ (by simp only [ne_eq]; omega) _ | apply Blk.alloc)))); have hB1 : BQ w1 (w.heap.size + 1) n' d' := (by (with_reducible (repeat (first | assumption | refine Blk.new_at _ _ _ _ Ks | refine Blk.below ?_ (by assumption) Ks | apply Blk.drew | apply Blk.drewN | refine Blk.far ?_ (by simp only [ne_eq]; omega) _ | apply Blk.alloc)))); have hR1 : BQ w1 (w.heap.size + 1 + 1) 0 0 := (by (with_reducible (repeat (first | assumption | refine Blk.new_at _ _ _ _ Ks | refine Blk.below ?_ (by assumption) Ks | apply Blk.drew | apply Blk.drewN | refine Blk.far ?_ (by simp only [ne_eq]; omega) _ | apply Blk.alloc)))); have hbw1 : Below w.heap.size w w1 := Kw; obtain ⟨aa, ab, af, al⟩ := hA1.cells; obtain ⟨ba, bb, bf, bl⟩ := hB1.cells; obtain ⟨ra, rb, rf, rl⟩ := hR1.cells
      go_wp2_with fail
      refine (impl_IsRatio n' d' _).mono ?_
      rw [HB.out]
      rintro e w2 ⟨rfl, hb2⟩
      have hsz2 := hb2.size; have hA2 : BQ w2 w.heap.size n d := (by (with_reducible (repeat (first | exact hA1 | refine Blk.new_at _ _ _ _ Ks | refine Blk.below ?_ (by assumption) Ks | apply Blk.drew | apply Blk.drewN | refine Blk.far ?_ (by simp only [ne_eq]; omega) _ | apply Blk.alloc)))); have hB2 : BQ w2 (w.heap.size + 1) n' d' := (by (with_reducible (repeat (first | exact hB1 | refine Blk.new_at _ _ _ _ Ks | refine Blk.below ?_ (by assumption) Ks | apply Blk.drew | apply Blk.drewN | refine Blk.far ?_ (by simp only [ne_eq]; omega) _ | apply Blk.alloc)))); have hR2 : BQ w2 (w.heap.size + 1 + 1) 0 0 := (by (with_reducible (repeat (first | exact hR1 | refine Blk.new_at _ _ _ _ Ks | refine Blk.below ?_ (by assumption) Ks | apply Blk.drew | apply Blk.drewN | refine Blk.far ?_ (by simp only [ne_eq]; omega) _ | apply Blk.alloc)))); have hbw2 : Below w.heap.size w w2 := Kw; clear aa ab af al ba bb bf bl ra rb rf rl hA1 hB1 hR1 hbw1; obtain ⟨aa, ab, af, al⟩ := hA2.cells; obtain ⟨ba, bb, bf, bl⟩ := hB2.cells; obtain ⟨ra, rb, rf, rl⟩ := hR2.cells
      go_wp2_with fail
      refine ret_Q Tryz.results48 rfl (BQ.put hR2) rfl ?_
      exact BV.mk (rV_mk HV.out) Kw
    · have hv : mulR (n, d) (n', d') = lowR (n * n') (d * d') := by unfold mulR; simp only [ha, hb, Bool.and_self, if_true]
      obtain ⟨⟨k1, k2⟩, ⟨k3, k4⟩, ⟨k5, k6⟩, ⟨k7, k8⟩⟩ := rat_bd (a := (n, d)) (b := (n', d')) ha hb
      simp only [] at k1 k2 k3 k4 k5 k6 k7 k8
      have HV := Lib.hid hv
      have HA := Lib.hid ha
      have HB := Lib.hid hb
      clear hv ha hb
      go_enter Tryz.func48, Tryz.ntmps48
      go_wp2_with fail
      refine (impl_IsRatio n d _).mono ?_
      rw [HA.out]
      rintro e w1 ⟨rfl, hb1⟩
      have hsz1 := hb1.size; simp at hsz1; have hA1 : BQ w1 w.heap.size n d := (by (with_reducible (repeat (first | assumption | refine Blk.new_at _ _ _ _ Ks | refine Blk.below ?_ (by assumption) Ks | apply Blk.drew | apply Blk.drewN | refine Blk.far ?_ (by simp only [ne_eq]; omega) _ | apply Blk.alloc)))); have hB1 : BQ w1 (w.heap.size + 1) n' d' := (by (with_reducible (repeat (first | assumption | refine Blk.new_at _ _ _ _ Ks | refine Blk.below ?_ (by assumption) Ks | apply Blk.drew | apply Blk.drewN | refine Blk.far ?_ (by simp only [ne_eq]; omega) _ | apply Blk.alloc)))); have hR1 : BQ w1 (w.heap.size + 1 + 1) 0 0 := (by (with_reducible (repeat (first | assumption | refine Blk.new_at _ _ _ _ Ks | refine Blk.below ?_ (by assumption) Ks | apply Blk.drew | apply Blk.drewN | refine Blk.far ?_ (by simp only [ne_eq]; omega) _ | apply Blk.alloc)))); have hbw1 : Below w.heap.size w w1 := Kw; obtain ⟨aa, ab, af, al⟩ := hA1.cells; obtain ⟨ba, bb, bf, bl⟩ := hB1.cells; obtain ⟨ra, rb, rf, rl⟩ := hR1.cells
      go_wp2_with fail
      refine (impl_IsRatio n' d' _).mono ?_
      rw [HB.out]
      rintro e w2 ⟨rfl, hb2⟩
      have hsz2 := hb2.size; have hA2 : BQ w2 w.heap.size n d := (by (with_reducible (repeat (first | exact hA1 | refine Blk.new_at _ _ _ _ Ks | refine Blk.below ?_ (by assumption) Ks | apply Blk.drew | apply Blk.drewN | refine Blk.far ?_ (by simp only [ne_eq]; omega) _ | apply Blk.alloc)))); have hB2 : BQ w2 (w.heap.size + 1) n' d' := (by (with_reducible (repeat (first | exact hB1 | refine Blk.new_at _ _ _ _ Ks | refine Blk.below ?_ (by assumption) Ks | apply Blk.drew | apply Blk.drewN | refine Blk.far ?_ (by simp only [ne_eq]; omega) _ | apply Blk.alloc)))); have hR2 : BQ w2 (w.heap.size + 1 + 1) 0 0 := (by (with_reducible (repeat (first | exact hR1 | refine Blk.new_at _ _ _ _ Ks | refine Blk.below ?_ (by assumption) Ks | apply Blk.drew | apply Blk.drewN | refine Blk.far ?_ (by simp only [ne_eq]; omega) _ | apply Blk.alloc)))); have hbw2 : Below w.heap.size w w2 := Kw; clear aa ab af al ba bb bf bl ra rb rf rl hA1 hB1 hR1 hbw1; obtain ⟨aa, ab, af, al⟩ := hA2.cells; obtain ⟨ba, bb, bf, bl⟩ := hB2.cells; obtain ⟨ra, rb, rf, rl⟩ := hR2.cells
      go_wp2_with fail
      refine (impl_lowest (n * n') (d * d') (by omega) (by omega) (by omega) _).mono ?_
      rintro e w3 ⟨rfl, hb3⟩
      have hR3 : BQ w3 (w.heap.size + 1 + 1) 0 0 := by (with_reducible (repeat (first | exact hR2 | refine Blk.new_at _ _ _ _ Ks | refine Blk.below ?_ (by assumption) Ks | apply Blk.drew | apply Blk.drewN | refine Blk.far ?_ (by simp only [ne_eq]; omega) _ | apply Blk.alloc)))
      have hbw3 : Below w.heap.size w w3 := Kw
      obtain ⟨sa, sb, sf, sl⟩ := hR3.cells
      unfold rV
      go_wp2_with fail
      refine ret_Q Tryz.results48 rfl (BQ.put hR3) rfl ?_
      exact BV.mk (rV_mk HV.out) Kw
theorem impl_whole (n : Int) (w : World) : Calls Tryz.prog 46 #[.int .i64 n] w (BV (.agg #[.int .i64 n, .int .i64 1]) w) := by
  go_enter Tryz.func46, Tryz.ntmps46
  go_wp2_with fail
  refine ret_Q (b := w.heap.size) (n := n) (d := 1) Tryz.results46 rfl (by (with_reducible (repeat (first | assumption | refine Blk.new_at _ _ _ _ Ks | refine Blk.below ?_ (by assumption) Ks | apply Blk.drew | apply Blk.drewN | refine Blk.far ?_ (by simp only [ne_eq]; omega) _ | apply Blk.alloc)))) rfl ?_
  exact BV.mk rfl Kw
end Go.Proofs.YtlggfmfelakadaaGreatDoor

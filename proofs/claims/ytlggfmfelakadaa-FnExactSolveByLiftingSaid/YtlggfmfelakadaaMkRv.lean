/-
  DERIVED. Making of ratios, both.
-/
import Derived.Test.YtlggfmfelakadaaVS
import Derived.Test.YtlggfmfelakadaaRatOv
namespace Go.Proofs.Ytlggfmfelakadaa
open Go.RowKit
set_option linter.unusedVariables false
set_option linter.unusedSimpArgs false
theorem spec_l2Make0 (n : Int) (w : World) : Calls Try.prog 119 #[.int .i64 n, .int .i64 0] w (BV (rV (0, 0)) w) := by
  go_enter Try.func119, Try.ntmps119
  go_wp2_with fail
  refine ret_Q (b := w.heap.size) (n := 0) (d := 0) Try.results119 rfl (by (with_reducible (repeat (first | assumption | refine Blk.new_at _ _ _ _ Ks | refine Blk.below ?_ (by assumption) Ks | apply Blk.drew | apply Blk.drewN | refine Blk.far ?_ (by simp only [ne_eq]; omega) _ | apply Blk.alloc)))) rfl ?_
  exact BV.mk rfl Kw
theorem rV_eq {q q' : Int × Int} (h : q = q') : Value.agg #[.int .i64 q'.1, .int .i64 q'.2] = rV q := by subst h; rfl
set_option maxHeartbeats 4000000 in
theorem impl_MakeRatio (n d : Int) (w : World) : Calls Try.prog 83 #[.int .i64 n, .int .i64 d] w (BV (rV (makR n d)) w) := by
  by_cases h1 : -400000000 ≤ n ∧ n ≤ 400000000
  · by_cases h2 : -400000000 ≤ d ∧ d ≤ 400000000
    · by_cases h3 : d = 0
      · have hv : makR n d = (0, 0) := by unfold makR; rw [h3]; simp
        have HV := Lib.hid hv
        subst h3
        clear hv
        obtain ⟨n1, n2⟩ := h1
        go_enter Try.func83, Try.ntmps83
        go_wp2_with (first | (go_at_call 65; (first | refine (impl_IsNumber_yes _ _ (by omega)).mono ?_ | refine (impl_IsNumber_no _ _ (by omega)).mono ?_ | refine (impl_IsNumber _ _).mono ?_); rintro e w' ⟨rfl, rfl⟩))
        skip
        refine ret_Q (b := w.heap.size) (n := 0) (d := 0) Try.results83 rfl (by first | exact BQ.put hR3 | (with_reducible (repeat (first | assumption | refine Blk.new_at _ _ _ _ Ks | refine Blk.below ?_ (by assumption) Ks | apply Blk.drew | apply Blk.drewN | refine Blk.far ?_ (by simp only [ne_eq]; omega) _ | apply Blk.alloc)))) rfl ?_
        exact BV.mk (rV_mk HV.out) Kw
      · have hv : makR n d = lowR n d := by unfold makR; rw [(isNum_iff n).2 h1, (isNum_iff d).2 h2]; simp [h3]
        have HV := Lib.hid hv
        have h3b : (d == 0) = false := by simpa using h3
        have HD := Lib.hid h3
        clear hv h3
        obtain ⟨n1, n2⟩ := h1
        obtain ⟨d1, d2⟩ := h2
        go_enter Try.func83, Try.ntmps83
        go_wp2_with (first | (go_at_call 65; (first | refine (impl_IsNumber_yes _ _ (by omega)).mono ?_ | refine (impl_IsNumber_no _ _ (by omega)).mono ?_ | refine (impl_IsNumber _ _).mono ?_); rintro e w' ⟨rfl, rfl⟩))
        refine (impl_lowest n d HD.out (by omega) (by omega) _).mono ?_
        rintro e w3 ⟨rfl, hb3⟩
        have hR3 : BQ w3 w.heap.size 0 0 := by (with_reducible (repeat (first | assumption | refine Blk.new_at _ _ _ _ Ks | refine Blk.below ?_ (by assumption) Ks | apply Blk.drew | apply Blk.drewN | refine Blk.far ?_ (by simp only [ne_eq]; omega) _ | apply Blk.alloc)))
        have hbw3 : Below w.heap.size w w3 := Kw
        obtain ⟨sa, sb, sf, sl⟩ := hR3.cells
        unfold rV
        go_wp2_with fail
        refine ret_Q (b := w.heap.size) (n := (lowR n d).1) (d := (lowR n d).2) Try.results83 rfl (BQ.put hR3) rfl ?_
        refine BV.mk ?_ Kw
        exact (congrArg rV HV.out).symm
    · have hv : makR n d = (0, 0) := by unfold makR; rw [(isNum_not d).2 (by omega)]; simp
      have HV := Lib.hid hv
      have h4 : d < -400000000 ∨ 400000000 < d := by omega
      clear hv h2
      obtain ⟨n1, n2⟩ := h1
      rcases h4 with h4 | h4
      all_goals
        go_enter Try.func83, Try.ntmps83
        go_wp2_with (first | (go_at_call 65; (first | refine (impl_IsNumber_yes _ _ (by omega)).mono ?_ | refine (impl_IsNumber_no _ _ (by omega)).mono ?_ | refine (impl_IsNumber _ _).mono ?_); rintro e w' ⟨rfl, rfl⟩))
        refine ret_Q (b := w.heap.size) (n := 0) (d := 0) Try.results83 rfl (by (with_reducible (repeat (first | assumption | refine Blk.new_at _ _ _ _ Ks | refine Blk.below ?_ (by assumption) Ks | apply Blk.drew | apply Blk.drewN | refine Blk.far ?_ (by simp only [ne_eq]; omega) _ | apply Blk.alloc)))) rfl ?_
        exact BV.mk (rV_mk HV.out) Kw
  · have hv : makR n d = (0, 0) := by unfold makR; rw [(isNum_not n).2 (by omega)]; simp
    have HV := Lib.hid hv
    have h4 : n < -400000000 ∨ 400000000 < n := by omega
    clear hv h1
    rcases h4 with h4 | h4
    all_goals
      go_enter Try.func83, Try.ntmps83
      go_wp2_with (first | (go_at_call 65; (first | refine (impl_IsNumber_yes _ _ (by omega)).mono ?_ | refine (impl_IsNumber_no _ _ (by omega)).mono ?_ | refine (impl_IsNumber _ _).mono ?_); rintro e w' ⟨rfl, rfl⟩))
      refine ret_Q (b := w.heap.size) (n := 0) (d := 0) Try.results83 rfl (by (with_reducible (repeat (first | assumption | refine Blk.new_at _ _ _ _ Ks | refine Blk.below ?_ (by assumption) Ks | apply Blk.drew | apply Blk.drewN | refine Blk.far ?_ (by simp only [ne_eq]; omega) _ | apply Blk.alloc)))) rfl ?_
      exact BV.mk (rV_mk HV.out) Kw
set_option maxHeartbeats 4000000 in
theorem spec_MakeRatio (n d : Int) (w : World) : Calls Try.prog 85 #[.int .i64 n, .int .i64 d] w (BV (rV (makR n d)) w) := by
  by_cases h1 : -400000000 ≤ n ∧ n ≤ 400000000
  · by_cases h2 : -400000000 ≤ d ∧ d ≤ 400000000
    · by_cases h3 : d = 0
      · have hv : makR n d = (0, 0) := by unfold makR; rw [h3]; simp
        have HV := Lib.hid hv
        subst h3
        clear hv
        obtain ⟨n1, n2⟩ := h1
        go_enter Try.func85, Try.ntmps85
        go_wp2_with (first | (go_at_call 111; (first | refine (spec_IsNumber_yes _ _ (by omega)).mono ?_ | refine (spec_IsNumber_no _ _ (by omega)).mono ?_ | refine (spec_IsNumber _ _).mono ?_); rintro e w' ⟨rfl, rfl⟩))
        (refine (spec_l2Make0 n _).mono ?_; rintro e w3 ⟨rfl, hb3⟩; have hR3 : BQ w3 w.heap.size 0 0 := (by (with_reducible (repeat (first | assumption | refine Blk.new_at _ _ _ _ Ks | refine Blk.below ?_ (by assumption) Ks | apply Blk.drew | apply Blk.drewN | refine Blk.far ?_ (by simp only [ne_eq]; omega) _ | apply Blk.alloc)))); have hbw3 : Below w.heap.size w w3 := Kw; obtain ⟨sa, sb, sf, sl⟩ := hR3.cells; unfold rV; go_wp2_with fail)
        refine ret_Q (b := w.heap.size) (n := 0) (d := 0) Try.results85 rfl (by first | exact BQ.put hR3 | (with_reducible (repeat (first | assumption | refine Blk.new_at _ _ _ _ Ks | refine Blk.below ?_ (by assumption) Ks | apply Blk.drew | apply Blk.drewN | refine Blk.far ?_ (by simp only [ne_eq]; omega) _ | apply Blk.alloc)))) rfl ?_
        exact BV.mk (rV_mk HV.out) Kw
      · have hv : makR n d = lowR n d := by unfold makR; rw [(isNum_iff n).2 h1, (isNum_iff d).2 h2]; simp [h3]
        have HV := Lib.hid hv
        have h3b : (d == 0) = false := by simpa using h3
        have HD := Lib.hid h3
        clear hv h3
        obtain ⟨n1, n2⟩ := h1
        obtain ⟨d1, d2⟩ := h2
        go_enter Try.func85, Try.ntmps85
        go_wp2_with (first | (go_at_call 111; (first | refine (spec_IsNumber_yes _ _ (by omega)).mono ?_ | refine (spec_IsNumber_no _ _ (by omega)).mono ?_ | refine (spec_IsNumber _ _).mono ?_); rintro e w' ⟨rfl, rfl⟩))
        refine (spec_l2Make n d HD.out (by omega) (by omega) _).mono ?_
        rintro e w3 ⟨rfl, hb3⟩
        have hR3 : BQ w3 w.heap.size 0 0 := by (with_reducible (repeat (first | assumption | refine Blk.new_at _ _ _ _ Ks | refine Blk.below ?_ (by assumption) Ks | apply Blk.drew | apply Blk.drewN | refine Blk.far ?_ (by simp only [ne_eq]; omega) _ | apply Blk.alloc)))
        have hbw3 : Below w.heap.size w w3 := Kw
        obtain ⟨sa, sb, sf, sl⟩ := hR3.cells
        unfold rV
        go_wp2_with fail
        refine ret_Q (b := w.heap.size) (n := (lowR n d).1) (d := (lowR n d).2) Try.results85 rfl (BQ.put hR3) rfl ?_
        refine BV.mk ?_ Kw
        exact (congrArg rV HV.out).symm
    · have hv : makR n d = (0, 0) := by unfold makR; rw [(isNum_not d).2 (by omega)]; simp
      have HV := Lib.hid hv
      have h4 : d < -400000000 ∨ 400000000 < d := by omega
      clear hv h2
      obtain ⟨n1, n2⟩ := h1
      rcases h4 with h4 | h4
      all_goals
        go_enter Try.func85, Try.ntmps85
        go_wp2_with (first | (go_at_call 111; (first | refine (spec_IsNumber_yes _ _ (by omega)).mono ?_ | refine (spec_IsNumber_no _ _ (by omega)).mono ?_ | refine (spec_IsNumber _ _).mono ?_); rintro e w' ⟨rfl, rfl⟩))
        refine ret_Q (b := w.heap.size) (n := 0) (d := 0) Try.results85 rfl (by (with_reducible (repeat (first | assumption | refine Blk.new_at _ _ _ _ Ks | refine Blk.below ?_ (by assumption) Ks | apply Blk.drew | apply Blk.drewN | refine Blk.far ?_ (by simp only [ne_eq]; omega) _ | apply Blk.alloc)))) rfl ?_
        exact BV.mk (rV_mk HV.out) Kw
  · have hv : makR n d = (0, 0) := by unfold makR; rw [(isNum_not n).2 (by omega)]; simp
    have HV := Lib.hid hv
    have h4 : n < -400000000 ∨ 400000000 < n := by omega
    clear hv h1
    rcases h4 with h4 | h4
    all_goals
      go_enter Try.func85, Try.ntmps85
      go_wp2_with (first | (go_at_call 111; (first | refine (spec_IsNumber_yes _ _ (by omega)).mono ?_ | refine (spec_IsNumber_no _ _ (by omega)).mono ?_ | refine (spec_IsNumber _ _).mono ?_); rintro e w' ⟨rfl, rfl⟩))
      refine ret_Q (b := w.heap.size) (n := 0) (d := 0) Try.results85 rfl (by (with_reducible (repeat (first | assumption | refine Blk.new_at _ _ _ _ Ks | refine Blk.below ?_ (by assumption) Ks | apply Blk.drew | apply Blk.drewN | refine Blk.far ?_ (by simp only [ne_eq]; omega) _ | apply Blk.alloc)))) rfl ?_
      exact BV.mk (rV_mk HV.out) Kw
end Go.Proofs.Ytlggfmfelakadaa

/-
  DERIVED. The contract of spec.RatioFrom; the law FnExactRatioFrom.
-/
import Derived.Test.YtlggfmfelakadaaVS
import Derived.Test.YtlggfmfelakadaaRatioFromv
namespace Go.Proofs.Ytlggfmfelakadaa
open Go.RowKit
set_option linter.unusedVariables false
theorem rfEnd_neg0 {a m b h u : Int} (hu : u < 0) (hc : b < -u ∨ imgOk (-h) (-u) a m = false) : rfEnd a m b (h, u) = none := by unfold rfEnd; rw [if_pos hu, if_pos hc]
theorem rfEnd_pos0 {a m b h u : Int} (hu : ¬ u < 0) (hc : b < u ∨ imgOk h u a m = false) : rfEnd a m b (h, u) = none := by unfold rfEnd; rw [if_neg hu, if_pos hc]
theorem rfEnd_neg1 {a m b h u : Int} (hu : u < 0) (h1 : ¬ b < -u) (h2 : imgOk (-h) (-u) a m = true) : rfEnd a m b (h, u) = some (-h, -u) := by
  unfold rfEnd; rw [if_pos hu, if_neg (by simp only [h2]; simp; omega)]
theorem rfEnd_pos1 {a m b h u : Int} (hu : ¬ u < 0) (h1 : ¬ b < u) (h2 : imgOk h u a m = true) : rfEnd a m b (h, u) = some (h, u) := by
  unfold rfEnd; rw [if_neg hu, if_neg (by simp only [h2]; simp; omega)]
set_option maxHeartbeats 2000000 in
theorem spec_RatioFrom (a m b : Int) (w : World) : Calls Try.prog 76 #[.int .i64 a, .int .i64 m, .int .i64 b] w (BV (rfV (rfRes a m b)) w) := by
  rcases rf_cases a m b with ⟨hr, h1⟩ | ⟨hr, h1, h2⟩ | ⟨hr, h1, h2, h3⟩ | ⟨hr, h1, h2, h3⟩ | ⟨hr, h1, h2, h3, h4⟩ | ⟨hr, h1, h2, ⟨h3, h3'⟩, h4⟩ | ⟨hr, g⟩
  iterate 5
    · rw [hr]
      clear hr
      go_enter Try.func76, Try.ntmps76
      go_wp2_with (first | (go_at_call 111; (first | refine (spec_IsNumber_yes _ _ (by omega)).mono ?_ | refine (spec_IsNumber_no _ _ (by omega)).mono ?_ | refine (spec_IsNumber _ _).mono ?_); rintro e w' ⟨rfl, rfl⟩) | (go_at_call 101; (first | refine (spec_l1In_yes _ _ _ _ (by omega)).mono ?_ | refine (spec_l1In_no _ _ _ _ (by omega)).mono ?_ | refine (spec_l1In _ _ _ _).mono ?_); rintro e w' ⟨rfl, rfl⟩))
      go_returns
      exact BV.mk rfl Kw
  · rw [hr]
    clear hr
    obtain ⟨s1, s2, s3⟩ := sq20000 b h3 h3'
    have s4 : 2 * b * b ≤ 800000000 := by omega
    have s5 : 0 ≤ 2 * b * b := by omega
    clear s3
    go_enter Try.func76, Try.ntmps76
    go_wp2_with (first | (go_at_call 111; (first | refine (spec_IsNumber_yes _ _ (by omega)).mono ?_ | refine (spec_IsNumber_no _ _ (by omega)).mono ?_ | refine (spec_IsNumber _ _).mono ?_); rintro e w' ⟨rfl, rfl⟩) | (go_at_call 101; (first | refine (spec_l1In_yes _ _ _ _ (by omega)).mono ?_ | refine (spec_l1In_no _ _ _ _ (by omega)).mono ?_ | refine (spec_l1In _ _ _ _).mono ?_); rintro e w' ⟨rfl, rfl⟩))
    go_returns
    exact BV.mk rfl Kw
  · rw [hr, ← rf_eq g]
    clear hr
    have hst := RfInv.start (a := a) g.m1 (show b < m by have := two_b g; have := g.b1; omega)
    obtain ⟨a1, a2, m1, m2, b1, b2, bm⟩ := g
    obtain ⟨s1, s2, s3⟩ := sq20000 b b1 b2
    have s4 : 2 * b * b ≤ 800000000 := by omega
    have s5 : 0 ≤ 2 * b * b := by omega
    have q1 := Int.emod_nonneg a (show m ≠ 0 by omega)
    have q2 := Int.emod_lt_of_pos a (show 0 < m by omega)
    clear s3
    go_enter Try.func76, Try.ntmps76
    go_wp2_with (first | (go_at_call 111; (first | refine (spec_IsNumber_yes _ _ (by omega)).mono ?_ | refine (spec_IsNumber_no _ _ (by omega)).mono ?_ | refine (spec_IsNumber _ _).mono ?_); rintro e w' ⟨rfl, rfl⟩) | (go_at_call 101; (first | refine (spec_l1In_yes _ _ _ _ (by omega)).mono ?_ | refine (spec_l1In_no _ _ _ _ (by omega)).mono ?_ | refine (spec_l1In _ _ _ _).mono ?_); rintro e w' ⟨rfl, rfl⟩) | (go_at_call 75; refine (spec_l8Mod _ _ _ (by omega) (by omega) (by omega) (by omega)).mono ?_; rintro e w' ⟨rfl, rfl⟩))
    go_loop [8, 9, 10, 11] (fun vg vx vh vu => ∃ g x h u s : Int, vg = .int .i64 g ∧ vx = .int .i64 x ∧ vh = .int .i64 h ∧ vu = .int .i64 u ∧ RfInv a m b g x h u s ∧ (-m ≤ x ∧ x ≤ m) ∧ rfS b g x h u = rfS b m 0 (a % m) 1) (fun _ _ vh _ => (intOf vh).toNat)
    case atStart => exact ⟨m, 0, a % m, 1, 1, rfl, rfl, rfl, rfl, hst, by omega, rfl⟩
    case round =>
      obtain ⟨g, x, h, u, s, rfl, rfl, rfl, rfl, i, ⟨x1, x2⟩, hr0⟩ := hrel
      obtain ⟨u1, u2, _⟩ := i.bounds (by omega)
      have g1 := i.gm
      have g2 := i.bg
      have h0 := i.h0
      have hg := i.hg
      by_cases hh : b < h
      · rw [rfS_step _ _ _ _ _ ⟨hh, by omega⟩] at hr0
        have hr := Lib.hid hr0
        clear hr0
        have j := i.step (by omega) hh
        obtain ⟨v1, v2, _⟩ := j.bounds (by omega)
        have j0 := j.h0
        have j1 := j.hg
        have c1 : 0 ≤ g / h := Int.ediv_nonneg (by omega) (by omega)
        have c2 : g / h ≤ g := Int.ediv_le_self _ (by omega)
        obtain ⟨c3, c4⟩ := mul_bd (g / h) h 400000000 400000000 c1 (by omega) h0 (by omega)
        obtain ⟨c5, c6⟩ := mul_bd4 (g / h) u 400000000 400000000 (by omega) (by omega) (by omega) (by omega)
        go_wp2
        go_round
        case rel => exact ⟨h, u, _, _, -s, rfl, rfl, rfl, rfl, j, ⟨u1, u2⟩, hr.out⟩
        case measure => simp only [intOf]; omega
      · have hr := Lib.hid ((rfS_stop b g x h u (by omega)).symm.trans hr0)
        clear hr0
        by_cases hu : u < 0
        · have hu1 := hu
          by_cases hb1 : b < -u
          · have hf := Lib.hid (show rfEnd a m b (rfS b m 0 (a % m) 1) = none by rw [← hr.out]; exact rfEnd_neg0 hu (.inl hb1))
            go_wp2_with (first | (go_at_call 114; refine (spec_IsImage _ _ _ _ _).mono ?_; rintro e w1 ⟨rfl, hb⟩; have hz := hb.size; (try simp at hz); have kk := bkeep (w := w) hb Ks; obtain ⟨kc, kf⟩ := kk; (try (have kk := bkeepb (w.heap.size) hb Ks; obtain ⟨kc0, kf0, kl0⟩ := kk)); (try (have kk := bkeepb (w.heap.size + 1) hb Ks; obtain ⟨kc1, kf1, kl1⟩ := kk)); (try (have kk := bkeepb (w.heap.size + 1 + 1) hb Ks; obtain ⟨kc2, kf2, kl2⟩ := kk)); (try (have kk := bkeepb (w.heap.size + 1 + 1 + 1) hb Ks; obtain ⟨kc3, kf3, kl3⟩ := kk)); (try (have kk := bkeepb (wr.heap.size) hb Ks; obtain ⟨kr0, ks0, kt0⟩ := kk)); (try (have kk := bkeepb (wr.heap.size + 1) hb Ks; obtain ⟨kr1, ks1, kt1⟩ := kk)); (try (have kk := bkeepb (wr.heap.size + 1 + 1) hb Ks; obtain ⟨kr2, ks2, kt2⟩ := kk))))
            go_returns
            exact BV.mk (by rw [hf.out]; rfl) Kw
          · rcases hi : imgOk (-h) (-u) a m with _ | _
            · have hf := Lib.hid (show rfEnd a m b (rfS b m 0 (a % m) 1) = none by rw [← hr.out]; exact rfEnd_neg0 hu (.inr hi))
              go_wp2_with (first | (go_at_call 114; refine (spec_IsImage _ _ _ _ _).mono ?_; rintro e w1 ⟨rfl, hb⟩; have hz := hb.size; (try simp at hz); have kk := bkeep (w := w) hb Ks; obtain ⟨kc, kf⟩ := kk; (try (have kk := bkeepb (w.heap.size) hb Ks; obtain ⟨kc0, kf0, kl0⟩ := kk)); (try (have kk := bkeepb (w.heap.size + 1) hb Ks; obtain ⟨kc1, kf1, kl1⟩ := kk)); (try (have kk := bkeepb (w.heap.size + 1 + 1) hb Ks; obtain ⟨kc2, kf2, kl2⟩ := kk)); (try (have kk := bkeepb (w.heap.size + 1 + 1 + 1) hb Ks; obtain ⟨kc3, kf3, kl3⟩ := kk)); (try (have kk := bkeepb (wr.heap.size) hb Ks; obtain ⟨kr0, ks0, kt0⟩ := kk)); (try (have kk := bkeepb (wr.heap.size + 1) hb Ks; obtain ⟨kr1, ks1, kt1⟩ := kk)); (try (have kk := bkeepb (wr.heap.size + 1 + 1) hb Ks; obtain ⟨kr2, ks2, kt2⟩ := kk))))
              refine bodyPost_ret (v := .tuple #[.agg #[.int .i64 0, .int .i64 0], .bool false]) (by simp [results, Try.results76, go_sem, kc0]) rfl ?_
              exact BV.mk (by rw [hf.out]; rfl) Kw
            · have hf := Lib.hid (show rfEnd a m b (rfS b m 0 (a % m) 1) = some (-h, -u) by rw [← hr.out]; exact rfEnd_neg1 hu hb1 hi)
              go_wp2_with (first | (go_at_call 114; refine (spec_IsImage _ _ _ _ _).mono ?_; rintro e w1 ⟨rfl, hb⟩; have hz := hb.size; (try simp at hz); have kk := bkeep (w := w) hb Ks; obtain ⟨kc, kf⟩ := kk; (try (have kk := bkeepb (w.heap.size) hb Ks; obtain ⟨kc0, kf0, kl0⟩ := kk)); (try (have kk := bkeepb (w.heap.size + 1) hb Ks; obtain ⟨kc1, kf1, kl1⟩ := kk)); (try (have kk := bkeepb (w.heap.size + 1 + 1) hb Ks; obtain ⟨kc2, kf2, kl2⟩ := kk)); (try (have kk := bkeepb (w.heap.size + 1 + 1 + 1) hb Ks; obtain ⟨kc3, kf3, kl3⟩ := kk)); (try (have kk := bkeepb (wr.heap.size) hb Ks; obtain ⟨kr0, ks0, kt0⟩ := kk)); (try (have kk := bkeepb (wr.heap.size + 1) hb Ks; obtain ⟨kr1, ks1, kt1⟩ := kk)); (try (have kk := bkeepb (wr.heap.size + 1 + 1) hb Ks; obtain ⟨kr2, ks2, kt2⟩ := kk))))
              refine bodyPost_ret (v := .tuple #[.agg #[.int .i64 (-h), .int .i64 (-u)], .bool true]) (by simp [results, Try.results76, go_sem, kc0]) rfl ?_
              exact BV.mk (by rw [hf.out]; rfl) Kw
        · have hu1 := hu
          by_cases hb1 : b < u
          · have hf := Lib.hid (show rfEnd a m b (rfS b m 0 (a % m) 1) = none by rw [← hr.out]; exact rfEnd_pos0 hu (.inl hb1))
            go_wp2_with (first | (go_at_call 114; refine (spec_IsImage _ _ _ _ _).mono ?_; rintro e w1 ⟨rfl, hb⟩; have hz := hb.size; (try simp at hz); have kk := bkeep (w := w) hb Ks; obtain ⟨kc, kf⟩ := kk; (try (have kk := bkeepb (w.heap.size) hb Ks; obtain ⟨kc0, kf0, kl0⟩ := kk)); (try (have kk := bkeepb (w.heap.size + 1) hb Ks; obtain ⟨kc1, kf1, kl1⟩ := kk)); (try (have kk := bkeepb (w.heap.size + 1 + 1) hb Ks; obtain ⟨kc2, kf2, kl2⟩ := kk)); (try (have kk := bkeepb (w.heap.size + 1 + 1 + 1) hb Ks; obtain ⟨kc3, kf3, kl3⟩ := kk)); (try (have kk := bkeepb (wr.heap.size) hb Ks; obtain ⟨kr0, ks0, kt0⟩ := kk)); (try (have kk := bkeepb (wr.heap.size + 1) hb Ks; obtain ⟨kr1, ks1, kt1⟩ := kk)); (try (have kk := bkeepb (wr.heap.size + 1 + 1) hb Ks; obtain ⟨kr2, ks2, kt2⟩ := kk))))
            go_returns
            exact BV.mk (by rw [hf.out]; rfl) Kw
          · rcases hi : imgOk h u a m with _ | _
            · have hf := Lib.hid (show rfEnd a m b (rfS b m 0 (a % m) 1) = none by rw [← hr.out]; exact rfEnd_pos0 hu (.inr hi))
              go_wp2_with (first | (go_at_call 114; refine (spec_IsImage _ _ _ _ _).mono ?_; rintro e w1 ⟨rfl, hb⟩; have hz := hb.size; (try simp at hz); have kk := bkeep (w := w) hb Ks; obtain ⟨kc, kf⟩ := kk; (try (have kk := bkeepb (w.heap.size) hb Ks; obtain ⟨kc0, kf0, kl0⟩ := kk)); (try (have kk := bkeepb (w.heap.size + 1) hb Ks; obtain ⟨kc1, kf1, kl1⟩ := kk)); (try (have kk := bkeepb (w.heap.size + 1 + 1) hb Ks; obtain ⟨kc2, kf2, kl2⟩ := kk)); (try (have kk := bkeepb (w.heap.size + 1 + 1 + 1) hb Ks; obtain ⟨kc3, kf3, kl3⟩ := kk)); (try (have kk := bkeepb (wr.heap.size) hb Ks; obtain ⟨kr0, ks0, kt0⟩ := kk)); (try (have kk := bkeepb (wr.heap.size + 1) hb Ks; obtain ⟨kr1, ks1, kt1⟩ := kk)); (try (have kk := bkeepb (wr.heap.size + 1 + 1) hb Ks; obtain ⟨kr2, ks2, kt2⟩ := kk))))
              refine bodyPost_ret (v := .tuple #[.agg #[.int .i64 0, .int .i64 0], .bool false]) (by simp [results, Try.results76, go_sem, kc0]) rfl ?_
              exact BV.mk (by rw [hf.out]; rfl) Kw
            · have hf := Lib.hid (show rfEnd a m b (rfS b m 0 (a % m) 1) = some (h, u) by rw [← hr.out]; exact rfEnd_pos1 hu hb1 hi)
              go_wp2_with (first | (go_at_call 114; refine (spec_IsImage _ _ _ _ _).mono ?_; rintro e w1 ⟨rfl, hb⟩; have hz := hb.size; (try simp at hz); have kk := bkeep (w := w) hb Ks; obtain ⟨kc, kf⟩ := kk; (try (have kk := bkeepb (w.heap.size) hb Ks; obtain ⟨kc0, kf0, kl0⟩ := kk)); (try (have kk := bkeepb (w.heap.size + 1) hb Ks; obtain ⟨kc1, kf1, kl1⟩ := kk)); (try (have kk := bkeepb (w.heap.size + 1 + 1) hb Ks; obtain ⟨kc2, kf2, kl2⟩ := kk)); (try (have kk := bkeepb (w.heap.size + 1 + 1 + 1) hb Ks; obtain ⟨kc3, kf3, kl3⟩ := kk)); (try (have kk := bkeepb (wr.heap.size) hb Ks; obtain ⟨kr0, ks0, kt0⟩ := kk)); (try (have kk := bkeepb (wr.heap.size + 1) hb Ks; obtain ⟨kr1, ks1, kt1⟩ := kk)); (try (have kk := bkeepb (wr.heap.size + 1 + 1) hb Ks; obtain ⟨kr2, ks2, kt2⟩ := kk))))
              refine bodyPost_ret (v := .tuple #[.agg #[.int .i64 h, .int .i64 u], .bool true]) (by simp [results, Try.results76, go_sem, kc0]) rfl ?_
              exact BV.mk (by rw [hf.out]; rfl) Kw
end Go.Proofs.Ytlggfmfelakadaa

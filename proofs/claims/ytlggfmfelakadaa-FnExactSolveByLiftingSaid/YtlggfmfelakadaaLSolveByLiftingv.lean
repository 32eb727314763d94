/-
  DERIVED. The law FnExactSolveByLifting, out of the contracts of its two functions.
-/
import Derived.Test.YtlggfmfelakadaaVS
import Derived.Test.YtlggfmfelakadaaLfQv
import Derived.Test.YtlggfmfelakadaaV1
import Derived.Test.YtlggfmfelakadaaV2
namespace Go.Proofs.Ytlggfmfelakadaa
open Go.RowKit
set_option linter.unusedVariables false
set_option maxHeartbeats 8000000 in
set_option maxRecDepth 100000 in
theorem law_FnExactSolveByLifting (w : World) (r0 : Int) (hr0 : -9223372036854775808 ≤ r0 ∧ r0 ≤ 9223372036854775807) (c0 : Int) (hc0 : -9223372036854775808 ≤ c0 ∧ c0 ≤ 9223372036854775807) (A0 : Option Addr) (n0 cap0 : Nat) (xs0 : List Int) (hnc0 : n0 ≤ cap0) (hcm0 : cap0 ≤ maxLen) (h0 : RI w w.heap.size A0 n0 xs0) (hwf0 : ∀ z ∈ xs0, (Lit.int .i64 z).wf = true) (A1 : Option Addr) (n1 cap1 : Nat) (xs1 : List Int) (hnc1 : n1 ≤ cap1) (hcm1 : cap1 ≤ maxLen) (h1 : RI w w.heap.size A1 n1 xs1) (hwf1 : ∀ z ∈ xs1, (Lit.int .i64 z).wf = true) :
    Calls Try.prog 5 #[.agg #[.int .i64 r0, .int .i64 c0, .slice A0 n0 cap0], .slice A1 n1 cap1] w fun e w' => e = .returned (.bool true) ∧ Below w.heap.size w w' := by
  unfold maxLen at hcm0
  have hlx0 : xs0.length ≤ n0 ∧ n0 ≤ xs0.length := by have := h0.len; omega
  have H0 := Lib.hid h0
  clear h0 hwf0
  unfold maxLen at hcm1
  have hlx1 : xs1.length ≤ n1 ∧ n1 ≤ xs1.length := by have := h1.len; omega
  have H1 := Lib.hid h1
  clear h1 hwf1
  by_cases hn1 : 1048576 < n1
  · go_enter Try.func5, Try.ntmps5
    go_wp2_with fail
    go_ret
    exact ⟨rfl, Kw⟩
  by_cases hn0 : 1048576 < n0
  · go_enter Try.func5, Try.ntmps5
    go_wp2_with (go_at_call 24; refine (laws_szMatrix r0 c0 A0 n0 cap0 _ (by omega)).mono ?_; rw [if_pos hn0]; rintro e w1 ⟨rfl, hb⟩; have hz := hb.size; (try simp at hz); have kk := bkeep (w := w) hb Ks; obtain ⟨kc, kf⟩ := kk; (try (have kk := bkeepb (w.heap.size) hb Ks; obtain ⟨kc0, kf0, kl0⟩ := kk)); (try (have kk := bkeepb (w.heap.size + 1) hb Ks; obtain ⟨kc1, kf1, kl1⟩ := kk)); (try (have kk := bkeepb (w.heap.size + 1 + 1) hb Ks; obtain ⟨kc2, kf2, kl2⟩ := kk)); (try (have kk := bkeepb (w.heap.size + 1 + 1 + 1) hb Ks; obtain ⟨kc3, kf3, kl3⟩ := kk)); (try (have kk := bkeepb (wr.heap.size) hb Ks; obtain ⟨kr0, ks0, kt0⟩ := kk)); (try (have kk := bkeepb (wr.heap.size + 1) hb Ks; obtain ⟨kr1, ks1, kt1⟩ := kk)); (try (have kk := bkeepb (wr.heap.size + 1 + 1) hb Ks; obtain ⟨kr2, ks2, kt2⟩ := kk)))
    go_ret
    exact ⟨rfl, Kw⟩
  have hm0 : n0 ≤ 1048576 := by omega
  have hm1 : n1 ≤ 1048576 := by omega
  go_enter Try.func5, Try.ntmps5
  go_wp2_with fail
  refine (laws_szMatrix r0 c0 A0 n0 cap0 _ (by omega)).mono ?_
  rw [if_neg hn0]
  rintro e w1 ⟨rfl, hb1⟩
  have hz1 := hb1.size
  try simp at hz1
  have H0_1 : Hid (RI w1 w.heap.size A0 n0 xs0) := Lib.hid (Kr H0.out)
  have H1_1 : Hid (RI w1 w.heap.size A1 n1 xs1) := Lib.hid (Kr H1.out)
  have L0_1 : BL w1 (w.heap.size) r0 c0 A0 n0 cap0 := Ka
  have bw_1 : Below w.heap.size w w1 := Kw
  obtain ⟨L0_a, L0_b, L0_c, L0_f, L0_l⟩ := L0_1.mx
  have hbb1 : (((lsX r0 c0 xs0 xs1).isSome) != ((lsX r0 c0 xs0 xs1).isSome)) = false := by simp
  go_wp2_with fail
  refine (toMatrix_own (C := w.heap.size) (xs := xs0) (Kr H0_1.out) Ks (by omega)).mono ?_
  rintro e w2 ⟨As0, ns0, caps0, rfl, O2, hb2⟩
  have hz2 := hb2.size
  try simp at hz2
  clear L0_a L0_b L0_c L0_f L0_l
  have H0_2 : Hid (RI w2 w.heap.size A0 n0 xs0) := Lib.hid (Kr H0_1.out)
  have H1_2 : Hid (RI w2 w.heap.size A1 n1 xs1) := Lib.hid (Kr H1_1.out)
  have L0_2 : BL w2 (w.heap.size) r0 c0 A0 n0 cap0 := Kb L0_1
  clear H0_1 H1_1 L0_1
  have bw_2 : Below w.heap.size w w2 := Kw
  have S_s0 : ns0 = xs0.length := O2.lenEq
  have hn_s0 : ns0 ≤ 1048576 := by omega
  have U_s0 : Own (.slice As0 ns0 caps0) (w1.heap.size) w2.heap.size := O2.own.wide Ks (Nat.le_refl _)
  have HS_s0 := Lib.hid S_s0
  clear S_s0
  have X_s0_2 : Hid (OR w2 (w1.heap.size) (.slice As0 ns0 caps0) xs0) := Lib.hid (O2.mono Ks)
  clear O2
  have O_X_s0 := U_s0
  go_wp2_with fail
  refine (toIntS_own (C := w.heap.size) (xs := xs1) (Kr H1_2.out) Ks (by omega)).mono ?_
  rintro e w3 ⟨As1, ns1, caps1, rfl, O3, hb3⟩
  have hz3 := hb3.size
  try simp at hz3
  have H0_3 : Hid (RI w3 w.heap.size A0 n0 xs0) := Lib.hid (Kr H0_2.out)
  have H1_3 : Hid (RI w3 w.heap.size A1 n1 xs1) := Lib.hid (Kr H1_2.out)
  have L0_3 : BL w3 (w.heap.size) r0 c0 A0 n0 cap0 := Kb L0_2
  have X_s0_3 : Hid (OR w3 (w1.heap.size) (.slice As0 ns0 caps0) xs0) := Lib.hid (Ko X_s0_2.out)
  clear H0_2 H1_2 L0_2 X_s0_2
  have bw_3 : Below w.heap.size w w3 := Kw
  have S_s1 : ns1 = xs1.length := O3.lenEq
  have hn_s1 : ns1 ≤ 1048576 := by omega
  have U_s1 : Own (.slice As1 ns1 caps1) (w2.heap.size) w3.heap.size := O3.own.wide Ks (Nat.le_refl _)
  have HS_s1 := Lib.hid S_s1
  clear S_s1
  have X_s1_3 : Hid (OR w3 (w2.heap.size) (.slice As1 ns1 caps1) xs1) := Lib.hid (O3.mono Ks)
  clear O3
  have O_X_s1 := U_s1
  go_wp2_with fail
  refine (spec_LiftQ r0 c0 As0 As1 ns0 caps0 ns1 caps1 xs0 xs1 _ (OR.reads (B := (w1.heap.size)) (A := As0) (n := ns0) (cap := caps0) (xs := xs0) (Ko X_s0_3.out)) (OR.reads (B := (w2.heap.size)) (A := As1) (n := ns1) (cap := caps1) (xs := xs1) (Ko X_s1_3.out)) (Nat.le_refl _) (Nat.le_refl _) hn_s0 hn_s1).mono ?_
  rintro e w4 ⟨Aw0, nw0, capw0, rfl, Ow0, hb4⟩
  have hz4 := hb4.size
  try simp at hz4
  have H0_4 : Hid (RI w4 w.heap.size A0 n0 xs0) := Lib.hid (Kr H0_3.out)
  have H1_4 : Hid (RI w4 w.heap.size A1 n1 xs1) := Lib.hid (Kr H1_3.out)
  have L0_4 : BL w4 (w.heap.size) r0 c0 A0 n0 cap0 := Kb L0_3
  have X_s0_4 : Hid (OR w4 (w1.heap.size) (.slice As0 ns0 caps0) xs0) := Lib.hid (Ko X_s0_3.out)
  have X_s1_4 : Hid (OR w4 (w2.heap.size) (.slice As1 ns1 caps1) xs1) := Lib.hid (Ko X_s1_3.out)
  clear H0_3 H1_3 L0_3 X_s0_3 X_s1_3
  have bw_4 : Below w.heap.size w w4 := Kw
  clear X_s0_4
  clear X_s1_4
  have S_w0 := Ow0.lenEq
  have hn_w0 : nw0 ≤ 1048576 := by rw [S_w0]; exact lsN_len
  clear S_w0
  have O_X_w0 : Own (.slice Aw0 nw0 capw0) (w3.heap.size) w4.heap.size := Ow0.own.wide Ks (Nat.le_refl _)
  have X_w0_4 : Hid (OF w4 (w3.heap.size) (.slice Aw0 nw0 capw0) nw0 ((lsX r0 c0 xs0 xs1).getD [])) := Lib.hid (Ow0.cnt.mono Ks)
  clear Ow0
  obtain ⟨L0_a, L0_b, L0_c, L0_f, L0_l⟩ := L0_4.mx
  go_wp2_with fail
  refine (toMatrix_own (C := w.heap.size) (xs := xs0) (Kr H0_4.out) Ks (by omega)).mono ?_
  rintro e w5 ⟨Ax0, nx0, capx0, rfl, O5, hb5⟩
  have hz5 := hb5.size
  try simp at hz5
  clear L0_a L0_b L0_c L0_f L0_l
  have H0_5 : Hid (RI w5 w.heap.size A0 n0 xs0) := Lib.hid (Kr H0_4.out)
  have H1_5 : Hid (RI w5 w.heap.size A1 n1 xs1) := Lib.hid (Kr H1_4.out)
  have L0_5 : BL w5 (w.heap.size) r0 c0 A0 n0 cap0 := Kb L0_4
  have X_w0_5 : Hid (OF w5 (w3.heap.size) (.slice Aw0 nw0 capw0) nw0 ((lsX r0 c0 xs0 xs1).getD [])) := Lib.hid (by (with_reducible (repeat (first | exact X_w0_4.out | refine OF.drew ?_ | refine OF.drewN ?_ _ | refine OF.alloc ?_ _ | refine OF.b_ ?_ | refine OF.l_ ?_))))
  clear H0_4 H1_4 L0_4 X_w0_4
  have bw_5 : Below w.heap.size w w5 := Kw
  have S_x0 : nx0 = xs0.length := O5.lenEq
  have hn_x0 : nx0 ≤ 1048576 := by omega
  clear S_x0
  have O_X_x0 : Own (.slice Ax0 nx0 capx0) (w4.heap.size) w5.heap.size := O5.own.wide Ks (Nat.le_refl _)
  have X_x0_5 : Hid (OR w5 (w4.heap.size) (.slice Ax0 nx0 capx0) xs0) := Lib.hid (O5.mono Ks)
  clear O5
  go_wp2_with fail
  refine (toIntS_own (C := w.heap.size) (xs := xs1) (Kr H1_5.out) Ks (by omega)).mono ?_
  rintro e w6 ⟨Ax1, nx1, capx1, rfl, O6, hb6⟩
  have hz6 := hb6.size
  try simp at hz6
  have H0_6 : Hid (RI w6 w.heap.size A0 n0 xs0) := Lib.hid (Kr H0_5.out)
  have H1_6 : Hid (RI w6 w.heap.size A1 n1 xs1) := Lib.hid (Kr H1_5.out)
  have L0_6 : BL w6 (w.heap.size) r0 c0 A0 n0 cap0 := Kb L0_5
  have X_w0_6 : Hid (OF w6 (w3.heap.size) (.slice Aw0 nw0 capw0) nw0 ((lsX r0 c0 xs0 xs1).getD [])) := Lib.hid (by (with_reducible (repeat (first | exact X_w0_5.out | refine OF.drew ?_ | refine OF.drewN ?_ _ | refine OF.alloc ?_ _ | refine OF.b_ ?_ | refine OF.l_ ?_))))
  have X_x0_6 : Hid (OR w6 (w4.heap.size) (.slice Ax0 nx0 capx0) xs0) := Lib.hid (Ko X_x0_5.out)
  have V_x0_6 : BM w6 w5.heap.size r0 c0 Ax0 nx0 capx0 := Ka
  clear H0_5 H1_5 L0_5 X_w0_5 X_x0_5
  have bw_6 : Below w.heap.size w w6 := Kw
  have S_x1 : nx1 = xs1.length := O6.lenEq
  have hn_x1 : nx1 ≤ 1048576 := by omega
  clear S_x1
  have O_X_x1 : Own (.slice Ax1 nx1 capx1) (w5.heap.size + 1) w6.heap.size := O6.own.wide Ks (Nat.le_refl _)
  have X_x1_6 : Hid (OR w6 (w5.heap.size + 1) (.slice Ax1 nx1 capx1) xs1) := Lib.hid (O6.mono Ks)
  clear O6
  obtain ⟨V_x0_a, V_x0_b, V_x0_c, V_x0_f, V_x0_l⟩ := V_x0_6.mx
  go_wp2_with fail
  refine (impl_LiftQ r0 c0 Ax0 Ax1 nx0 capx0 nx1 capx1 xs0 xs1 _ (OR.reads (B := (w4.heap.size)) (A := Ax0) (n := nx0) (cap := capx0) (xs := xs0) (Ko X_x0_6.out)) (OR.reads (B := (w5.heap.size + 1)) (A := Ax1) (n := nx1) (cap := capx1) (xs := xs1) (Ko X_x1_6.out)) (Nat.le_refl _) (Nat.le_refl _) hn_x0 hn_x1).mono ?_
  rintro e w7 ⟨Ag0, ng0, capg0, rfl, Og0, hb7⟩
  have hz7 := hb7.size
  try simp at hz7
  clear V_x0_a V_x0_b V_x0_c V_x0_f V_x0_l
  have H0_7 : Hid (RI w7 w.heap.size A0 n0 xs0) := Lib.hid (Kr H0_6.out)
  have H1_7 : Hid (RI w7 w.heap.size A1 n1 xs1) := Lib.hid (Kr H1_6.out)
  have L0_7 : BL w7 (w.heap.size) r0 c0 A0 n0 cap0 := Kb L0_6
  have X_w0_7 : Hid (OF w7 (w3.heap.size) (.slice Aw0 nw0 capw0) nw0 ((lsX r0 c0 xs0 xs1).getD [])) := Lib.hid (by (with_reducible (repeat (first | exact X_w0_6.out | refine OF.drew ?_ | refine OF.drewN ?_ _ | refine OF.alloc ?_ _ | refine OF.b_ ?_ | refine OF.l_ ?_))))
  have X_x0_7 : Hid (OR w7 (w4.heap.size) (.slice Ax0 nx0 capx0) xs0) := Lib.hid (Ko X_x0_6.out)
  have V_x0_7 : BM w7 w5.heap.size r0 c0 Ax0 nx0 capx0 := Kb V_x0_6
  have X_x1_7 : Hid (OR w7 (w5.heap.size + 1) (.slice Ax1 nx1 capx1) xs1) := Lib.hid (Ko X_x1_6.out)
  clear H0_6 H1_6 L0_6 X_w0_6 X_x0_6 V_x0_6 X_x1_6
  have bw_7 : Below w.heap.size w w7 := Kw
  have S_g0 := Og0.lenEq
  have hn_g0 : ng0 ≤ 1048576 := by rw [S_g0]; exact lsN_len
  clear S_g0
  have O_X_g0 : Own (.slice Ag0 ng0 capg0) (w6.heap.size) w7.heap.size := Og0.own.wide Ks (Nat.le_refl _)
  have X_g0_7 : Hid (OF w7 (w6.heap.size) (.slice Ag0 ng0 capg0) ng0 ((lsX r0 c0 xs0 xs1).getD [])) := Lib.hid (Og0.cnt.mono Ks)
  clear Og0
  go_wp2_with fail
  refine (eqOwnQ (B := (w6.heap.size)) (B' := (w3.heap.size)) (xs := (lsX r0 c0 xs0 xs1).getD []) (by (with_reducible (repeat (first | exact X_g0_7.out | refine OF.drew ?_ | refine OF.drewN ?_ _ | refine OF.alloc ?_ _ | refine OF.b_ ?_ | refine OF.l_ ?_)))) (by (with_reducible (repeat (first | exact X_w0_7.out | refine OF.drew ?_ | refine OF.drewN ?_ _ | refine OF.alloc ?_ _ | refine OF.b_ ?_ | refine OF.l_ ?_)))) hn_g0).mono ?_
  rintro e w8 ⟨rfl, hb8⟩
  have hz8 := hb8.size
  try simp at hz8
  have H0_8 : Hid (RI w8 w.heap.size A0 n0 xs0) := Lib.hid (Kr H0_7.out)
  have H1_8 : Hid (RI w8 w.heap.size A1 n1 xs1) := Lib.hid (Kr H1_7.out)
  have L0_8 : BL w8 (w.heap.size) r0 c0 A0 n0 cap0 := Kb L0_7
  have X_w0_8 : Hid (OF w8 (w3.heap.size) (.slice Aw0 nw0 capw0) nw0 ((lsX r0 c0 xs0 xs1).getD [])) := Lib.hid (by (with_reducible (repeat (first | exact X_w0_7.out | refine OF.drew ?_ | refine OF.drewN ?_ _ | refine OF.alloc ?_ _ | refine OF.b_ ?_ | refine OF.l_ ?_))))
  have X_x0_8 : Hid (OR w8 (w4.heap.size) (.slice Ax0 nx0 capx0) xs0) := Lib.hid (Ko X_x0_7.out)
  have V_x0_8 : BM w8 w5.heap.size r0 c0 Ax0 nx0 capx0 := Kb V_x0_7
  have X_x1_8 : Hid (OR w8 (w5.heap.size + 1) (.slice Ax1 nx1 capx1) xs1) := Lib.hid (Ko X_x1_7.out)
  have X_g0_8 : Hid (OF w8 (w6.heap.size) (.slice Ag0 ng0 capg0) ng0 ((lsX r0 c0 xs0 xs1).getD [])) := Lib.hid (by (with_reducible (repeat (first | exact X_g0_7.out | refine OF.drew ?_ | refine OF.drewN ?_ _ | refine OF.alloc ?_ _ | refine OF.b_ ?_ | refine OF.l_ ?_))))
  clear H0_7 H1_7 L0_7 X_w0_7 X_x0_7 V_x0_7 X_x1_7 X_g0_7
  have bw_8 : Below w.heap.size w w8 := Kw
  obtain ⟨L0_a, L0_b, L0_c, L0_f, L0_l⟩ := L0_8.mx
  obtain ⟨V_x0_a, V_x0_b, V_x0_c, V_x0_f, V_x0_l⟩ := V_x0_8.mx
  go_wp2_with fail
  go_region_held3 (fun w' => w'.cell? ⟨(w.heap.size), 0, none⟩ = some (.int .i64 r0) ∧ w'.cell? ⟨(w.heap.size), 1, none⟩ = some (.int .i64 c0) ∧ w'.cell? ⟨(w.heap.size), 2, none⟩ = some (.slice A0 n0 cap0) ∧ w'.cell? ⟨w5.heap.size, 0, none⟩ = some (.int .i64 r0) ∧ w'.cell? ⟨w5.heap.size, 1, none⟩ = some (.int .i64 c0) ∧ w'.cell? ⟨w5.heap.size, 2, none⟩ = some (.slice Ax0 nx0 capx0)) (go_keep) (first | (go_at_call 26; refine (toMatrix_own (C := w.heap.size) (xs := xs0) (Kr H0_8.out) Ks (by omega)).mono ?_; rintro e w9 ⟨A9, n9, cap9, rfl, O9, hb9⟩; have hz9 := hb9.size; (try simp at hz9); have XY := Lib.hid (O9.mono (B' := w8.heap.size) Ks); clear O9; have H0_9 : Hid (RI w9 w.heap.size A0 n0 xs0) := Lib.hid (Kr H0_8.out); have H1_9 : Hid (RI w9 w.heap.size A1 n1 xs1) := Lib.hid (Kr H1_8.out); have L0_9 : BL w9 (w.heap.size) r0 c0 A0 n0 cap0 := (Kb L0_8); have X_w0_9 : Hid (OF w9 (w3.heap.size) (.slice Aw0 nw0 capw0) nw0 ((lsX r0 c0 xs0 xs1).getD [])) := Lib.hid (by (with_reducible (repeat (first | exact X_w0_8.out | refine OF.drew ?_ | refine OF.drewN ?_ _ | refine OF.alloc ?_ _ | refine OF.b_ ?_ | refine OF.l_ ?_)))); have X_x0_9 : Hid (OR w9 (w4.heap.size) (.slice Ax0 nx0 capx0) xs0) := Lib.hid (Ko X_x0_8.out); have V_x0_9 : BM w9 w5.heap.size r0 c0 Ax0 nx0 capx0 := (Kb V_x0_8); have X_x1_9 : Hid (OR w9 (w5.heap.size + 1) (.slice Ax1 nx1 capx1) xs1) := Lib.hid (Ko X_x1_8.out); have X_g0_9 : Hid (OF w9 (w6.heap.size) (.slice Ag0 ng0 capg0) ng0 ((lsX r0 c0 xs0 xs1).getD [])) := Lib.hid (by (with_reducible (repeat (first | exact X_g0_8.out | refine OF.drew ?_ | refine OF.drewN ?_ _ | refine OF.alloc ?_ _ | refine OF.b_ ?_ | refine OF.l_ ?_)))); have bw_9 : Below w.heap.size w w9 := Kw; obtain ⟨L0_a9, L0_b9, L0_c9, L0_f9, L0_l9⟩ := L0_9.mx; obtain ⟨V_x0_a9, V_x0_b9, V_x0_c9, V_x0_f9, V_x0_l9⟩ := V_x0_9.mx) | (go_at_call 30; refine (eqOwnM (B := (w4.heap.size)) (B' := w8.heap.size) (xs := xs0) (Ko X_x0_9.out) (Ko XY.out)).mono ?_; rintro e w10 ⟨rfl, hb10⟩; have hz10 := hb10.size; (try simp at hz10); have H0_10 : Hid (RI w10 w.heap.size A0 n0 xs0) := Lib.hid (Kr H0_9.out); have H1_10 : Hid (RI w10 w.heap.size A1 n1 xs1) := Lib.hid (Kr H1_9.out); have L0_10 : BL w10 (w.heap.size) r0 c0 A0 n0 cap0 := (Kb L0_9); have X_w0_10 : Hid (OF w10 (w3.heap.size) (.slice Aw0 nw0 capw0) nw0 ((lsX r0 c0 xs0 xs1).getD [])) := Lib.hid (by (with_reducible (repeat (first | exact X_w0_9.out | refine OF.drew ?_ | refine OF.drewN ?_ _ | refine OF.alloc ?_ _ | refine OF.b_ ?_ | refine OF.l_ ?_)))); have X_x0_10 : Hid (OR w10 (w4.heap.size) (.slice Ax0 nx0 capx0) xs0) := Lib.hid (Ko X_x0_9.out); have V_x0_10 : BM w10 w5.heap.size r0 c0 Ax0 nx0 capx0 := (Kb V_x0_9); have X_x1_10 : Hid (OR w10 (w5.heap.size + 1) (.slice Ax1 nx1 capx1) xs1) := Lib.hid (Ko X_x1_9.out); have X_g0_10 : Hid (OF w10 (w6.heap.size) (.slice Ag0 ng0 capg0) ng0 ((lsX r0 c0 xs0 xs1).getD [])) := Lib.hid (by (with_reducible (repeat (first | exact X_g0_9.out | refine OF.drew ?_ | refine OF.drewN ?_ _ | refine OF.alloc ?_ _ | refine OF.b_ ?_ | refine OF.l_ ?_)))); have bw_10 : Below w.heap.size w w10 := Kw; obtain ⟨L0_a10, L0_b10, L0_c10, L0_f10, L0_l10⟩ := L0_10.mx; obtain ⟨V_x0_a10, V_x0_b10, V_x0_c10, V_x0_f10, V_x0_l10⟩ := V_x0_10.mx))
  clear H0_8 H1_8 L0_8 X_w0_8 X_x0_8 V_x0_8 X_x1_8 X_g0_8 H0_9 H1_9 L0_9 X_w0_9 X_x0_9 V_x0_9 X_x1_9 X_g0_9
  clear L0_a L0_b L0_c L0_f L0_l V_x0_a V_x0_b V_x0_c V_x0_f V_x0_l
  go_wp2_with fail
  refine (toIntS_own (C := w.heap.size) (xs := xs1) (Kr H1_10.out) Ks (by omega)).mono ?_
  rintro e w11 ⟨Ay1, ny1, capy1, rfl, O11, hb11⟩
  have hz11 := hb11.size
  try simp at hz11
  clear L0_a9 L0_a10 L0_b9 L0_b10 L0_c9 L0_c10 L0_f9 L0_f10 L0_l9 L0_l10 V_x0_a9 V_x0_a10 V_x0_b9 V_x0_b10 V_x0_c9 V_x0_c10 V_x0_f9 V_x0_f10 V_x0_l9 V_x0_l10
  have H0_11 : Hid (RI w11 w.heap.size A0 n0 xs0) := Lib.hid (Kr H0_10.out)
  have H1_11 : Hid (RI w11 w.heap.size A1 n1 xs1) := Lib.hid (Kr H1_10.out)
  have L0_11 : BL w11 (w.heap.size) r0 c0 A0 n0 cap0 := Kb L0_10
  have X_w0_11 : Hid (OF w11 (w3.heap.size) (.slice Aw0 nw0 capw0) nw0 ((lsX r0 c0 xs0 xs1).getD [])) := Lib.hid (by (with_reducible (repeat (first | exact X_w0_10.out | refine OF.drew ?_ | refine OF.drewN ?_ _ | refine OF.alloc ?_ _ | refine OF.b_ ?_ | refine OF.l_ ?_))))
  have X_x0_11 : Hid (OR w11 (w4.heap.size) (.slice Ax0 nx0 capx0) xs0) := Lib.hid (Ko X_x0_10.out)
  have V_x0_11 : BM w11 w5.heap.size r0 c0 Ax0 nx0 capx0 := Kb V_x0_10
  have X_x1_11 : Hid (OR w11 (w5.heap.size + 1) (.slice Ax1 nx1 capx1) xs1) := Lib.hid (Ko X_x1_10.out)
  have X_g0_11 : Hid (OF w11 (w6.heap.size) (.slice Ag0 ng0 capg0) ng0 ((lsX r0 c0 xs0 xs1).getD [])) := Lib.hid (by (with_reducible (repeat (first | exact X_g0_10.out | refine OF.drew ?_ | refine OF.drewN ?_ _ | refine OF.alloc ?_ _ | refine OF.b_ ?_ | refine OF.l_ ?_))))
  clear H0_10 H1_10 L0_10 X_w0_10 X_x0_10 V_x0_10 X_x1_10 X_g0_10
  have bw_11 : Below w.heap.size w w11 := Kw
  have XY1 := Lib.hid (O11.mono (B' := w10.heap.size) Ks)
  clear O11
  go_wp2_with fail
  refine (eqOwnI (B := (w5.heap.size + 1)) (B' := w10.heap.size) (xs := xs1) (Ko X_x1_11.out) (Ko XY1.out)).mono ?_
  rintro e wd ⟨rfl, ndx1, rfl⟩
  obtain ⟨V_x0_a, V_x0_b, V_x0_c, V_x0_f, V_x0_l⟩ := V_x0_11.mx
  go_wp2_with fail
  refine (markOwnM (B := (w4.heap.size)) (xs := xs0) (Ko X_x0_11.out) hn_x0 (by omega) (by omega)).mono ?_
  rintro e w12 ⟨rfl, M12, G12, hz12⟩
  try simp at hz12
  clear V_x0_a V_x0_b V_x0_c V_x0_f V_x0_l
  have H0_12 : Hid (RI w12 w.heap.size A0 n0 xs0) := Lib.hid (RI.keptOwn (Kr H0_11.out) G12 O_X_x0 (by omega) Ks)
  have H1_12 : Hid (RI w12 w.heap.size A1 n1 xs1) := Lib.hid (RI.keptOwn (Kr H1_11.out) G12 O_X_x0 (by omega) Ks)
  have L0_12 : BL w12 (w.heap.size) r0 c0 A0 n0 cap0 := (by exact BX.keptOwn (Kb L0_11) G12 O_X_x0 (by omega))
  have X_w0_12 : Hid (OF w12 (w3.heap.size) (.slice Aw0 nw0 capw0) nw0 ((lsX r0 c0 xs0 xs1).getD [])) := Lib.hid (OF.keptOwn (by (with_reducible (repeat (first | exact X_w0_11.out | refine OF.drew ?_ | refine OF.drewN ?_ _ | refine OF.alloc ?_ _ | refine OF.b_ ?_ | refine OF.l_ ?_)))) G12 O_X_w0 O_X_x0 (by omega))
  have V_x0_12 : BM w12 w5.heap.size r0 c0 Ax0 nx0 capx0 := (by exact BX.keptOwn (Kb V_x0_11) G12 O_X_x0 (by omega))
  have X_x1_12 : Hid (OR w12 (w5.heap.size + 1) (.slice Ax1 nx1 capx1) xs1) := Lib.hid (OR.keptOwn (Ko X_x1_11.out) G12 O_X_x1 O_X_x0 (by omega))
  have X_g0_12 : Hid (OF w12 (w6.heap.size) (.slice Ag0 ng0 capg0) ng0 ((lsX r0 c0 xs0 xs1).getD [])) := Lib.hid (OF.keptOwn (by (with_reducible (repeat (first | exact X_g0_11.out | refine OF.drew ?_ | refine OF.drewN ?_ _ | refine OF.alloc ?_ _ | refine OF.b_ ?_ | refine OF.l_ ?_)))) G12 O_X_g0 O_X_x0 (by omega))
  clear H0_11 H1_11 L0_11 X_w0_11 X_x0_11 V_x0_11 X_x1_11 X_g0_11
  have X_x0_12 : Hid (OR w12 (w4.heap.size) (.slice Ax0 nx0 capx0) (iota (1) nx0)) := Lib.hid (by exact M12)
  clear M12
  have bw_12 : Below w.heap.size w w12 := Below.trans (b := _) Kw (below_keptOwn G12 O_X_x0 (by omega) Ks)
  go_wp2_with fail
  refine (markOwnI (B := (w5.heap.size + 1)) (xs := xs1) (Ko X_x1_12.out) hn_x1 (by omega) (by omega)).mono ?_
  rintro e w13 ⟨rfl, M13, G13, hz13⟩
  try simp at hz13
  have H0_13 : Hid (RI w13 w.heap.size A0 n0 xs0) := Lib.hid (RI.keptOwn (Kr H0_12.out) G13 O_X_x1 (by omega) Ks)
  have H1_13 : Hid (RI w13 w.heap.size A1 n1 xs1) := Lib.hid (RI.keptOwn (Kr H1_12.out) G13 O_X_x1 (by omega) Ks)
  have L0_13 : BL w13 (w.heap.size) r0 c0 A0 n0 cap0 := (by exact BX.keptOwn (Kb L0_12) G13 O_X_x1 (by omega))
  have X_w0_13 : Hid (OF w13 (w3.heap.size) (.slice Aw0 nw0 capw0) nw0 ((lsX r0 c0 xs0 xs1).getD [])) := Lib.hid (OF.keptOwn (by (with_reducible (repeat (first | exact X_w0_12.out | refine OF.drew ?_ | refine OF.drewN ?_ _ | refine OF.alloc ?_ _ | refine OF.b_ ?_ | refine OF.l_ ?_)))) G13 O_X_w0 O_X_x1 (by omega))
  have X_x0_13 : Hid (OR w13 (w4.heap.size) (.slice Ax0 nx0 capx0) (iota (1) nx0)) := Lib.hid (OR.keptOwn (Ko X_x0_12.out) G13 O_X_x0 O_X_x1 (by omega))
  have V_x0_13 : BM w13 w5.heap.size r0 c0 Ax0 nx0 capx0 := (by exact BX.keptOwn (Kb V_x0_12) G13 O_X_x1 (by omega))
  have X_g0_13 : Hid (OF w13 (w6.heap.size) (.slice Ag0 ng0 capg0) ng0 ((lsX r0 c0 xs0 xs1).getD [])) := Lib.hid (OF.keptOwn (by (with_reducible (repeat (first | exact X_g0_12.out | refine OF.drew ?_ | refine OF.drewN ?_ _ | refine OF.alloc ?_ _ | refine OF.b_ ?_ | refine OF.l_ ?_)))) G13 O_X_g0 O_X_x1 (by omega))
  clear H0_12 H1_12 L0_12 X_w0_12 X_x0_12 V_x0_12 X_x1_12 X_g0_12
  have X_x1_13 : Hid (OR w13 (w5.heap.size + 1) (.slice Ax1 nx1 capx1) (iota (1 + nx0) nx1)) := Lib.hid (by exact M13)
  clear M13
  have bw_13 : Below w.heap.size w w13 := Below.trans (b := _) Kw (below_keptOwn G13 O_X_x1 (by omega) Ks)
  have hk0 : ¬ ((1 + nx0 + nx1 : Int) < 0) := by omega
  have hk1 : decide ((1 + nx0 + nx1 : Int) < 0) = false := by simp; omega
  clear X_x0_13
  clear V_x0_13
  clear X_x1_13
  go_wp2_with fail
  refine (eqOwnQ (B := (w6.heap.size)) (B' := (w3.heap.size)) (xs := (lsX r0 c0 xs0 xs1).getD []) (by (with_reducible (repeat (first | exact X_g0_13.out | refine OF.drew ?_ | refine OF.drewN ?_ _ | refine OF.alloc ?_ _ | refine OF.b_ ?_ | refine OF.l_ ?_)))) (by (with_reducible (repeat (first | exact X_w0_13.out | refine OF.drew ?_ | refine OF.drewN ?_ _ | refine OF.alloc ?_ _ | refine OF.b_ ?_ | refine OF.l_ ?_)))) hn_g0).mono ?_
  rintro e w14 ⟨rfl, hb14⟩
  have hz14 := hb14.size
  try simp at hz14
  have H0_14 : Hid (RI w14 w.heap.size A0 n0 xs0) := Lib.hid (Kr H0_13.out)
  have H1_14 : Hid (RI w14 w.heap.size A1 n1 xs1) := Lib.hid (Kr H1_13.out)
  have L0_14 : BL w14 (w.heap.size) r0 c0 A0 n0 cap0 := Kb L0_13
  have X_w0_14 : Hid (OF w14 (w3.heap.size) (.slice Aw0 nw0 capw0) nw0 ((lsX r0 c0 xs0 xs1).getD [])) := Lib.hid (by (with_reducible (repeat (first | exact X_w0_13.out | refine OF.drew ?_ | refine OF.drewN ?_ _ | refine OF.alloc ?_ _ | refine OF.b_ ?_ | refine OF.l_ ?_))))
  have X_g0_14 : Hid (OF w14 (w6.heap.size) (.slice Ag0 ng0 capg0) ng0 ((lsX r0 c0 xs0 xs1).getD [])) := Lib.hid (by (with_reducible (repeat (first | exact X_g0_13.out | refine OF.drew ?_ | refine OF.drewN ?_ _ | refine OF.alloc ?_ _ | refine OF.b_ ?_ | refine OF.l_ ?_))))
  clear H0_13 H1_13 L0_13 X_w0_13 X_g0_13
  have bw_14 : Below w.heap.size w w14 := Kw
  go_wp2_with fail
  refine (markOwnQ (B := (w6.heap.size)) (xs := ((lsX r0 c0 xs0 xs1).getD [])) (by (with_reducible (repeat (first | exact X_g0_14.out | refine OF.drew ?_ | refine OF.drewN ?_ _ | refine OF.alloc ?_ _ | refine OF.b_ ?_ | refine OF.l_ ?_)))) hn_g0 (by omega) (by omega)).mono ?_
  rintro e w15 ⟨rfl, M15, G15, hz15⟩
  try simp at hz15
  have H0_15 : Hid (RI w15 w.heap.size A0 n0 xs0) := Lib.hid (RI.keptOwn (Kr H0_14.out) G15 O_X_g0 (by omega) Ks)
  have H1_15 : Hid (RI w15 w.heap.size A1 n1 xs1) := Lib.hid (RI.keptOwn (Kr H1_14.out) G15 O_X_g0 (by omega) Ks)
  have L0_15 : BL w15 (w.heap.size) r0 c0 A0 n0 cap0 := (by exact BX.keptOwn (Kb L0_14) G15 O_X_g0 (by omega))
  have X_w0_15 : Hid (OF w15 (w3.heap.size) (.slice Aw0 nw0 capw0) nw0 ((lsX r0 c0 xs0 xs1).getD [])) := Lib.hid (OF.keptOwn (by (with_reducible (repeat (first | exact X_w0_14.out | refine OF.drew ?_ | refine OF.drewN ?_ _ | refine OF.alloc ?_ _ | refine OF.b_ ?_ | refine OF.l_ ?_)))) G15 O_X_w0 O_X_g0 (by omega))
  clear H0_14 H1_14 L0_14 X_w0_14 X_g0_14
  have X_g0_15 : Hid (OF w15 (w6.heap.size) (.slice Ag0 ng0 capg0) ng0 (iota (1) (ng0 * 2))) := Lib.hid (by exact M15)
  clear M15
  have bw_15 : Below w.heap.size w w15 := Below.trans (b := _) Kw (below_keptOwn G15 O_X_g0 (by omega) Ks)
  have hqm : (((1 + ((ng0 * 2 : Nat) : Int) : Int)) != (1 + ((ng0 * 2 : Nat) : Int))) = false := by simp
  have hq0_15 : ¬ ((1 + ((ng0 * 2 : Nat) : Int) : Int) < 0) := by omega
  have hq0_15b : decide ((1 + ((ng0 * 2 : Nat) : Int) : Int) < 0) = false := by simp; omega
  go_wp2_with fail
  refine (heldOwnQ (B := (w6.heap.size)) (by (with_reducible (repeat (first | exact X_g0_15.out | refine OF.drew ?_ | refine OF.drewN ?_ _ | refine OF.alloc ?_ _ | refine OF.b_ ?_ | refine OF.l_ ?_)))) hn_g0 (by omega) (by omega)).mono ?_
  rintro e w' ⟨rfl, rfl⟩
  obtain ⟨L0_a, L0_b, L0_c, L0_f, L0_l⟩ := L0_15.mx
  go_wp2_with fail
  refine (toMatrix_own (C := w.heap.size) (xs := xs0) (Kr H0_15.out) Ks (by omega)).mono ?_
  rintro e w16 ⟨At0, nt0, capt0, rfl, O16, hb16⟩
  have hz16 := hb16.size
  try simp at hz16
  clear L0_a L0_b L0_c L0_f L0_l
  have H0_16 : Hid (RI w16 w.heap.size A0 n0 xs0) := Lib.hid (Kr H0_15.out)
  have H1_16 : Hid (RI w16 w.heap.size A1 n1 xs1) := Lib.hid (Kr H1_15.out)
  have L0_16 : BL w16 (w.heap.size) r0 c0 A0 n0 cap0 := Kb L0_15
  have X_w0_16 : Hid (OF w16 (w3.heap.size) (.slice Aw0 nw0 capw0) nw0 ((lsX r0 c0 xs0 xs1).getD [])) := Lib.hid (by (with_reducible (repeat (first | exact X_w0_15.out | refine OF.drew ?_ | refine OF.drewN ?_ _ | refine OF.alloc ?_ _ | refine OF.b_ ?_ | refine OF.l_ ?_))))
  have X_g0_16 : Hid (OF w16 (w6.heap.size) (.slice Ag0 ng0 capg0) ng0 (iota (1) (ng0 * 2))) := Lib.hid (by (with_reducible (repeat (first | exact X_g0_15.out | refine OF.drew ?_ | refine OF.drewN ?_ _ | refine OF.alloc ?_ _ | refine OF.b_ ?_ | refine OF.l_ ?_))))
  clear H0_15 H1_15 L0_15 X_w0_15 X_g0_15
  have bw_16 : Below w.heap.size w w16 := Kw
  have S_t0 : nt0 = xs0.length := O16.lenEq
  have hn_t0 : nt0 ≤ 1048576 := by omega
  have U_t0 : Own (.slice At0 nt0 capt0) (w15.heap.size) w16.heap.size := O16.own.wide Ks (Nat.le_refl _)
  have HS_t0 := Lib.hid S_t0
  clear S_t0
  have X_t0_16 : Hid (OR w16 (w15.heap.size) (.slice At0 nt0 capt0) xs0) := Lib.hid (O16.mono Ks)
  clear O16
  have O_X_t0 := U_t0
  go_wp2_with fail
  refine (toIntS_own (C := w.heap.size) (xs := xs1) (Kr H1_16.out) Ks (by omega)).mono ?_
  rintro e w17 ⟨At1, nt1, capt1, rfl, O17, hb17⟩
  have hz17 := hb17.size
  try simp at hz17
  have H0_17 : Hid (RI w17 w.heap.size A0 n0 xs0) := Lib.hid (Kr H0_16.out)
  have H1_17 : Hid (RI w17 w.heap.size A1 n1 xs1) := Lib.hid (Kr H1_16.out)
  have L0_17 : BL w17 (w.heap.size) r0 c0 A0 n0 cap0 := Kb L0_16
  have X_w0_17 : Hid (OF w17 (w3.heap.size) (.slice Aw0 nw0 capw0) nw0 ((lsX r0 c0 xs0 xs1).getD [])) := Lib.hid (by (with_reducible (repeat (first | exact X_w0_16.out | refine OF.drew ?_ | refine OF.drewN ?_ _ | refine OF.alloc ?_ _ | refine OF.b_ ?_ | refine OF.l_ ?_))))
  have X_g0_17 : Hid (OF w17 (w6.heap.size) (.slice Ag0 ng0 capg0) ng0 (iota (1) (ng0 * 2))) := Lib.hid (by (with_reducible (repeat (first | exact X_g0_16.out | refine OF.drew ?_ | refine OF.drewN ?_ _ | refine OF.alloc ?_ _ | refine OF.b_ ?_ | refine OF.l_ ?_))))
  have X_t0_17 : Hid (OR w17 (w15.heap.size) (.slice At0 nt0 capt0) xs0) := Lib.hid (Ko X_t0_16.out)
  clear H0_16 H1_16 L0_16 X_w0_16 X_g0_16 X_t0_16
  have bw_17 : Below w.heap.size w w17 := Kw
  have S_t1 : nt1 = xs1.length := O17.lenEq
  have hn_t1 : nt1 ≤ 1048576 := by omega
  have U_t1 : Own (.slice At1 nt1 capt1) (w16.heap.size) w17.heap.size := O17.own.wide Ks (Nat.le_refl _)
  have HS_t1 := Lib.hid S_t1
  clear S_t1
  have X_t1_17 : Hid (OR w17 (w16.heap.size) (.slice At1 nt1 capt1) xs1) := Lib.hid (O17.mono Ks)
  clear O17
  have O_X_t1 := U_t1
  go_wp2_with fail
  refine (impl_LiftQ r0 c0 At0 At1 nt0 capt0 nt1 capt1 xs0 xs1 _ (OR.reads (B := (w15.heap.size)) (A := At0) (n := nt0) (cap := capt0) (xs := xs0) (Ko X_t0_17.out)) (OR.reads (B := (w16.heap.size)) (A := At1) (n := nt1) (cap := capt1) (xs := xs1) (Ko X_t1_17.out)) (Nat.le_refl _) (Nat.le_refl _) hn_t0 hn_t1).mono ?_
  rintro e w18 ⟨Ah0, nh0, caph0, rfl, Oh0, hb18⟩
  have hz18 := hb18.size
  try simp at hz18
  have H0_18 : Hid (RI w18 w.heap.size A0 n0 xs0) := Lib.hid (Kr H0_17.out)
  have H1_18 : Hid (RI w18 w.heap.size A1 n1 xs1) := Lib.hid (Kr H1_17.out)
  have L0_18 : BL w18 (w.heap.size) r0 c0 A0 n0 cap0 := Kb L0_17
  have X_w0_18 : Hid (OF w18 (w3.heap.size) (.slice Aw0 nw0 capw0) nw0 ((lsX r0 c0 xs0 xs1).getD [])) := Lib.hid (by (with_reducible (repeat (first | exact X_w0_17.out | refine OF.drew ?_ | refine OF.drewN ?_ _ | refine OF.alloc ?_ _ | refine OF.b_ ?_ | refine OF.l_ ?_))))
  have X_g0_18 : Hid (OF w18 (w6.heap.size) (.slice Ag0 ng0 capg0) ng0 (iota (1) (ng0 * 2))) := Lib.hid (by (with_reducible (repeat (first | exact X_g0_17.out | refine OF.drew ?_ | refine OF.drewN ?_ _ | refine OF.alloc ?_ _ | refine OF.b_ ?_ | refine OF.l_ ?_))))
  have X_t0_18 : Hid (OR w18 (w15.heap.size) (.slice At0 nt0 capt0) xs0) := Lib.hid (Ko X_t0_17.out)
  have X_t1_18 : Hid (OR w18 (w16.heap.size) (.slice At1 nt1 capt1) xs1) := Lib.hid (Ko X_t1_17.out)
  clear H0_17 H1_17 L0_17 X_w0_17 X_g0_17 X_t0_17 X_t1_17
  have bw_18 : Below w.heap.size w w18 := Kw
  clear X_t0_18
  clear X_t1_18
  have S_h0 := Oh0.lenEq
  have hn_h0 : nh0 ≤ 1048576 := by rw [S_h0]; exact lsN_len
  clear S_h0
  have O_X_h0 : Own (.slice Ah0 nh0 caph0) (w17.heap.size) w18.heap.size := Oh0.own.wide Ks (Nat.le_refl _)
  have X_h0_18 : Hid (OF w18 (w17.heap.size) (.slice Ah0 nh0 caph0) nh0 ((lsX r0 c0 xs0 xs1).getD [])) := Lib.hid (Oh0.cnt.mono Ks)
  clear Oh0
  go_wp2_with fail
  refine (eqOwnQ (B := (w17.heap.size)) (B' := (w3.heap.size)) (xs := (lsX r0 c0 xs0 xs1).getD []) (by (with_reducible (repeat (first | exact X_h0_18.out | refine OF.drew ?_ | refine OF.drewN ?_ _ | refine OF.alloc ?_ _ | refine OF.b_ ?_ | refine OF.l_ ?_)))) (by (with_reducible (repeat (first | exact X_w0_18.out | refine OF.drew ?_ | refine OF.drewN ?_ _ | refine OF.alloc ?_ _ | refine OF.b_ ?_ | refine OF.l_ ?_)))) hn_h0).mono ?_
  rintro e w19 ⟨rfl, hb19⟩
  have hz19 := hb19.size
  try simp at hz19
  have H0_19 : Hid (RI w19 w.heap.size A0 n0 xs0) := Lib.hid (Kr H0_18.out)
  have H1_19 : Hid (RI w19 w.heap.size A1 n1 xs1) := Lib.hid (Kr H1_18.out)
  have L0_19 : BL w19 (w.heap.size) r0 c0 A0 n0 cap0 := Kb L0_18
  have X_w0_19 : Hid (OF w19 (w3.heap.size) (.slice Aw0 nw0 capw0) nw0 ((lsX r0 c0 xs0 xs1).getD [])) := Lib.hid (by (with_reducible (repeat (first | exact X_w0_18.out | refine OF.drew ?_ | refine OF.drewN ?_ _ | refine OF.alloc ?_ _ | refine OF.b_ ?_ | refine OF.l_ ?_))))
  have X_g0_19 : Hid (OF w19 (w6.heap.size) (.slice Ag0 ng0 capg0) ng0 (iota (1) (ng0 * 2))) := Lib.hid (by (with_reducible (repeat (first | exact X_g0_18.out | refine OF.drew ?_ | refine OF.drewN ?_ _ | refine OF.alloc ?_ _ | refine OF.b_ ?_ | refine OF.l_ ?_))))
  have X_h0_19 : Hid (OF w19 (w17.heap.size) (.slice Ah0 nh0 caph0) nh0 ((lsX r0 c0 xs0 xs1).getD [])) := Lib.hid (by (with_reducible (repeat (first | exact X_h0_18.out | refine OF.drew ?_ | refine OF.drewN ?_ _ | refine OF.alloc ?_ _ | refine OF.b_ ?_ | refine OF.l_ ?_))))
  clear H0_18 H1_18 L0_18 X_w0_18 X_g0_18 X_h0_18
  have bw_19 : Below w.heap.size w w19 := Kw
  have hq0_19 : ¬ ((1 + ((ng0 * 2 : Nat) : Int) : Int) < 0) := by omega
  have hq0_19b : decide ((1 + ((ng0 * 2 : Nat) : Int) : Int) < 0) = false := by simp; omega
  go_wp2_with fail
  refine (heldOwnQ (B := (w6.heap.size)) (by (with_reducible (repeat (first | exact X_g0_19.out | refine OF.drew ?_ | refine OF.drewN ?_ _ | refine OF.alloc ?_ _ | refine OF.b_ ?_ | refine OF.l_ ?_)))) hn_g0 (by omega) (by omega)).mono ?_
  rintro e w' ⟨rfl, rfl⟩
  go_wp2_with fail
  go_ret
  exact ⟨rfl, Kw⟩
end Go.Proofs.Ytlggfmfelakadaa

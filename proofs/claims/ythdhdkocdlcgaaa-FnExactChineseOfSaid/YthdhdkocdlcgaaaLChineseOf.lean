/-
  DERIVED. The law FnExactChineseOf, out of the contracts of its two functions.
-/
import Derived.Test.YthdhdkocdlcgaaaChin
import Derived.Test.YthdhdkocdlcgaaaLawkit
namespace Go.Proofs.Ythdhdkocdlcgaaa
open Go.RowKit
set_option linter.unusedVariables false
set_option maxHeartbeats 8000000 in
set_option maxRecDepth 100000 in
theorem law_FnExactChineseOf (w : World) (A0 : Option Addr) (n0 cap0 : Nat) (xs0 : List Int) (hnc0 : n0 ≤ cap0) (hcm0 : cap0 ≤ maxLen) (h0 : RI w w.heap.size A0 n0 xs0) (hwf0 : ∀ z ∈ xs0, (Lit.int .i64 z).wf = true) (A1 : Option Addr) (n1 cap1 : Nat) (xs1 : List Int) (hnc1 : n1 ≤ cap1) (hcm1 : cap1 ≤ maxLen) (h1 : RI w w.heap.size A1 n1 xs1) (hwf1 : ∀ z ∈ xs1, (Lit.int .i64 z).wf = true) :
    Calls Try.prog 4 #[.slice A0 n0 cap0, .slice A1 n1 cap1] w fun e w' => e = .returned (.bool true) ∧ Below w.heap.size w w' := by
  unfold maxLen at hcm0
  have hlx0 : xs0.length ≤ n0 ∧ n0 ≤ xs0.length := by have := h0.len; omega
  have H0 := Lib.hid h0
  clear h0 hwf0
  unfold maxLen at hcm1
  have hlx1 : xs1.length ≤ n1 ∧ n1 ≤ xs1.length := by have := h1.len; omega
  have H1 := Lib.hid h1
  clear h1 hwf1
  by_cases hn0 : 1048576 < n0
  · go_enter Try.func4, Try.ntmps4
    go_wp2_with fail
    go_ret
    exact ⟨rfl, by (repeat (first | (with_reducible exact Below.refl _ _) | (with_reducible assumption) | (with_reducible refine below_drewN ?_ _) | (with_reducible refine Below.drew ?_) | (with_reducible refine Below.alloc ?_ ?_ _) | (with_reducible refine Below.setCell ?_ ?_ _) | (with_reducible refine below_into ?_ (by assumption) (by first | omega | (simp; done) | (simp; omega))) | go_size))⟩
  by_cases hn1 : 1048576 < n1
  · go_enter Try.func4, Try.ntmps4
    go_wp2_with fail
    go_ret
    exact ⟨rfl, by (repeat (first | (with_reducible exact Below.refl _ _) | (with_reducible assumption) | (with_reducible refine below_drewN ?_ _) | (with_reducible refine Below.drew ?_) | (with_reducible refine Below.alloc ?_ ?_ _) | (with_reducible refine Below.setCell ?_ ?_ _) | (with_reducible refine below_into ?_ (by assumption) (by first | omega | (simp; done) | (simp; omega))) | go_size))⟩
  have hm0 : n0 ≤ 1048576 := by omega
  have hm1 : n1 ≤ 1048576 := by omega
  go_enter Try.func4, Try.ntmps4
  have hbb0 : (((chV xs0 xs1).1) != ((chV xs0 xs1).1)) = false := by simp
  have hbb1 : (((chV xs0 xs1).2) != ((chV xs0 xs1).2)) = false := by simp
  have hbb2 : ((chB xs0 xs1) != (chB xs0 xs1)) = false := by simp
  go_wp2_with fail
  refine (toIntS_own (C := w.heap.size) (xs := xs0) (by (repeat (first | (with_reducible exact H0.out) | (with_reducible refine RI.drew ?_) | (with_reducible refine RI.drewN ?_ _) | (with_reducible refine RI.alloc ?_ (by first | omega | (simp; done) | (simp; omega)) _) | (with_reducible refine RI.setCell ?_ (by first | omega | (simp; done) | (simp; omega)) _) | (with_reducible refine RI.below ?_ (by assumption) (by first | omega | (simp; done) | (simp; omega)))))) (by first | omega | (simp; done) | (simp; omega)) (by omega)).mono ?_
  rintro e w1 ⟨As0, ns0, caps0, rfl, O1, hb1⟩
  have hz1 := hb1.size
  try simp at hz1
  have H0_1 : Hid (RI w1 w.heap.size A0 n0 xs0) := Lib.hid (by (repeat (first | (with_reducible exact H0.out) | (with_reducible refine RI.drew ?_) | (with_reducible refine RI.drewN ?_ _) | (with_reducible refine RI.alloc ?_ (by first | omega | (simp; done) | (simp; omega)) _) | (with_reducible refine RI.setCell ?_ (by first | omega | (simp; done) | (simp; omega)) _) | (with_reducible refine RI.below ?_ (by assumption) (by first | omega | (simp; done) | (simp; omega))))))
  have H1_1 : Hid (RI w1 w.heap.size A1 n1 xs1) := Lib.hid (by (repeat (first | (with_reducible exact H1.out) | (with_reducible refine RI.drew ?_) | (with_reducible refine RI.drewN ?_ _) | (with_reducible refine RI.alloc ?_ (by first | omega | (simp; done) | (simp; omega)) _) | (with_reducible refine RI.setCell ?_ (by first | omega | (simp; done) | (simp; omega)) _) | (with_reducible refine RI.below ?_ (by assumption) (by first | omega | (simp; done) | (simp; omega))))))
  have bw_1 : Below w.heap.size w w1 := by (repeat (first | (with_reducible exact Below.refl _ _) | (with_reducible assumption) | (with_reducible refine below_drewN ?_ _) | (with_reducible refine Below.drew ?_) | (with_reducible refine Below.alloc ?_ ?_ _) | (with_reducible refine Below.setCell ?_ ?_ _) | (with_reducible refine below_into ?_ (by assumption) (by first | omega | (simp; done) | (simp; omega))) | go_size))
  have S_s0 : ns0 = xs0.length := O1.lenEq
  have hn_s0 : ns0 ≤ 1048576 := by omega
  have U_s0 : Own (.slice As0 ns0 caps0) (w.heap.size) w1.heap.size := O1.own.wide (by first | omega | (simp; done) | (simp; omega)) (Nat.le_refl _)
  have HS_s0 := Lib.hid S_s0
  clear S_s0
  have X_s0_1 : Hid (OR w1 (w.heap.size) (.slice As0 ns0 caps0) xs0) := Lib.hid (O1.mono (by first | omega | (simp; done) | (simp; omega)))
  clear O1
  have O_X_s0 := U_s0
  go_wp2_with fail
  refine (toIntS_own (C := w.heap.size) (xs := xs1) (by (repeat (first | (with_reducible exact H1_1.out) | (with_reducible refine RI.drew ?_) | (with_reducible refine RI.drewN ?_ _) | (with_reducible refine RI.alloc ?_ (by first | omega | (simp; done) | (simp; omega)) _) | (with_reducible refine RI.setCell ?_ (by first | omega | (simp; done) | (simp; omega)) _) | (with_reducible refine RI.below ?_ (by assumption) (by first | omega | (simp; done) | (simp; omega)))))) (by first | omega | (simp; done) | (simp; omega)) (by omega)).mono ?_
  rintro e w2 ⟨As1, ns1, caps1, rfl, O2, hb2⟩
  have hz2 := hb2.size
  try simp at hz2
  have H0_2 : Hid (RI w2 w.heap.size A0 n0 xs0) := Lib.hid (by (repeat (first | (with_reducible exact H0_1.out) | (with_reducible refine RI.drew ?_) | (with_reducible refine RI.drewN ?_ _) | (with_reducible refine RI.alloc ?_ (by first | omega | (simp; done) | (simp; omega)) _) | (with_reducible refine RI.setCell ?_ (by first | omega | (simp; done) | (simp; omega)) _) | (with_reducible refine RI.below ?_ (by assumption) (by first | omega | (simp; done) | (simp; omega))))))
  have H1_2 : Hid (RI w2 w.heap.size A1 n1 xs1) := Lib.hid (by (repeat (first | (with_reducible exact H1_1.out) | (with_reducible refine RI.drew ?_) | (with_reducible refine RI.drewN ?_ _) | (with_reducible refine RI.alloc ?_ (by first | omega | (simp; done) | (simp; omega)) _) | (with_reducible refine RI.setCell ?_ (by first | omega | (simp; done) | (simp; omega)) _) | (with_reducible refine RI.below ?_ (by assumption) (by first | omega | (simp; done) | (simp; omega))))))
  have X_s0_2 : Hid (OR w2 (w.heap.size) (.slice As0 ns0 caps0) xs0) := Lib.hid (by (repeat (first | (with_reducible exact X_s0_1.out) | (with_reducible refine OR.drew ?_) | (with_reducible refine OR.drewN ?_ _) | (with_reducible refine OR.alloc ?_ _) | (with_reducible refine OR.below ?_ (by assumption) (by first | omega | (simp; done) | (simp; omega))) | (with_reducible refine OR.low ?_ (by first | omega | (simp only []; omega) | (simp; omega)) _))))
  clear H0_1 H1_1 X_s0_1
  have bw_2 : Below w.heap.size w w2 := by (repeat (first | (with_reducible exact Below.refl _ _) | (with_reducible assumption) | (with_reducible refine below_drewN ?_ _) | (with_reducible refine Below.drew ?_) | (with_reducible refine Below.alloc ?_ ?_ _) | (with_reducible refine Below.setCell ?_ ?_ _) | (with_reducible refine below_into ?_ (by assumption) (by first | omega | (simp; done) | (simp; omega))) | go_size))
  have S_s1 : ns1 = xs1.length := O2.lenEq
  have hn_s1 : ns1 ≤ 1048576 := by omega
  have U_s1 : Own (.slice As1 ns1 caps1) (w1.heap.size) w2.heap.size := O2.own.wide (by first | omega | (simp; done) | (simp; omega)) (Nat.le_refl _)
  have HS_s1 := Lib.hid S_s1
  clear S_s1
  have X_s1_2 : Hid (OR w2 (w1.heap.size) (.slice As1 ns1 caps1) xs1) := Lib.hid (O2.mono (by first | omega | (simp; done) | (simp; omega)))
  clear O2
  have O_X_s1 := U_s1
  go_wp2_with fail
  refine (spec_ChineseOf As0 As1 ns0 ns1 caps0 caps1 xs0 xs1 _ (OR.reads (B := (w.heap.size)) (A := As0) (n := ns0) (cap := caps0) (xs := xs0) (by (repeat (first | (with_reducible exact X_s0_2.out) | (with_reducible refine OR.drew ?_) | (with_reducible refine OR.drewN ?_ _) | (with_reducible refine OR.alloc ?_ _) | (with_reducible refine OR.below ?_ (by assumption) (by first | omega | (simp; done) | (simp; omega))) | (with_reducible refine OR.low ?_ (by first | omega | (simp only []; omega) | (simp; omega)) _))))) (OR.reads (B := (w1.heap.size)) (A := As1) (n := ns1) (cap := caps1) (xs := xs1) (by (repeat (first | (with_reducible exact X_s1_2.out) | (with_reducible refine OR.drew ?_) | (with_reducible refine OR.drewN ?_ _) | (with_reducible refine OR.alloc ?_ _) | (with_reducible refine OR.below ?_ (by assumption) (by first | omega | (simp; done) | (simp; omega))) | (with_reducible refine OR.low ?_ (by first | omega | (simp only []; omega) | (simp; omega)) _))))) (Nat.le_refl _) (Nat.le_refl _) hn_s0 hn_s1).mono ?_
  rintro e w3 ⟨rfl, hb3⟩
  have hz3 := hb3.size
  try simp at hz3
  have H0_3 : Hid (RI w3 w.heap.size A0 n0 xs0) := Lib.hid (by (repeat (first | (with_reducible exact H0_2.out) | (with_reducible refine RI.drew ?_) | (with_reducible refine RI.drewN ?_ _) | (with_reducible refine RI.alloc ?_ (by first | omega | (simp; done) | (simp; omega)) _) | (with_reducible refine RI.setCell ?_ (by first | omega | (simp; done) | (simp; omega)) _) | (with_reducible refine RI.below ?_ (by assumption) (by first | omega | (simp; done) | (simp; omega))))))
  have H1_3 : Hid (RI w3 w.heap.size A1 n1 xs1) := Lib.hid (by (repeat (first | (with_reducible exact H1_2.out) | (with_reducible refine RI.drew ?_) | (with_reducible refine RI.drewN ?_ _) | (with_reducible refine RI.alloc ?_ (by first | omega | (simp; done) | (simp; omega)) _) | (with_reducible refine RI.setCell ?_ (by first | omega | (simp; done) | (simp; omega)) _) | (with_reducible refine RI.below ?_ (by assumption) (by first | omega | (simp; done) | (simp; omega))))))
  have X_s0_3 : Hid (OR w3 (w.heap.size) (.slice As0 ns0 caps0) xs0) := Lib.hid (by (repeat (first | (with_reducible exact X_s0_2.out) | (with_reducible refine OR.drew ?_) | (with_reducible refine OR.drewN ?_ _) | (with_reducible refine OR.alloc ?_ _) | (with_reducible refine OR.below ?_ (by assumption) (by first | omega | (simp; done) | (simp; omega))) | (with_reducible refine OR.low ?_ (by first | omega | (simp only []; omega) | (simp; omega)) _))))
  have X_s1_3 : Hid (OR w3 (w1.heap.size) (.slice As1 ns1 caps1) xs1) := Lib.hid (by (repeat (first | (with_reducible exact X_s1_2.out) | (with_reducible refine OR.drew ?_) | (with_reducible refine OR.drewN ?_ _) | (with_reducible refine OR.alloc ?_ _) | (with_reducible refine OR.below ?_ (by assumption) (by first | omega | (simp; done) | (simp; omega))) | (with_reducible refine OR.low ?_ (by first | omega | (simp only []; omega) | (simp; omega)) _))))
  clear H0_2 H1_2 X_s0_2 X_s1_2
  have bw_3 : Below w.heap.size w w3 := by (repeat (first | (with_reducible exact Below.refl _ _) | (with_reducible assumption) | (with_reducible refine below_drewN ?_ _) | (with_reducible refine Below.drew ?_) | (with_reducible refine Below.alloc ?_ ?_ _) | (with_reducible refine Below.setCell ?_ ?_ _) | (with_reducible refine below_into ?_ (by assumption) (by first | omega | (simp; done) | (simp; omega))) | go_size))
  clear X_s0_3
  clear X_s1_3
  go_wp2_with fail
  refine (toIntS_own (C := w.heap.size) (xs := xs0) (by (repeat (first | (with_reducible exact H0_3.out) | (with_reducible refine RI.drew ?_) | (with_reducible refine RI.drewN ?_ _) | (with_reducible refine RI.alloc ?_ (by first | omega | (simp; done) | (simp; omega)) _) | (with_reducible refine RI.setCell ?_ (by first | omega | (simp; done) | (simp; omega)) _) | (with_reducible refine RI.below ?_ (by assumption) (by first | omega | (simp; done) | (simp; omega)))))) (by first | omega | (simp; done) | (simp; omega)) (by omega)).mono ?_
  rintro e w4 ⟨Ax0, nx0, capx0, rfl, O4, hb4⟩
  have hz4 := hb4.size
  try simp at hz4
  have H0_4 : Hid (RI w4 w.heap.size A0 n0 xs0) := Lib.hid (by (repeat (first | (with_reducible exact H0_3.out) | (with_reducible refine RI.drew ?_) | (with_reducible refine RI.drewN ?_ _) | (with_reducible refine RI.alloc ?_ (by first | omega | (simp; done) | (simp; omega)) _) | (with_reducible refine RI.setCell ?_ (by first | omega | (simp; done) | (simp; omega)) _) | (with_reducible refine RI.below ?_ (by assumption) (by first | omega | (simp; done) | (simp; omega))))))
  have H1_4 : Hid (RI w4 w.heap.size A1 n1 xs1) := Lib.hid (by (repeat (first | (with_reducible exact H1_3.out) | (with_reducible refine RI.drew ?_) | (with_reducible refine RI.drewN ?_ _) | (with_reducible refine RI.alloc ?_ (by first | omega | (simp; done) | (simp; omega)) _) | (with_reducible refine RI.setCell ?_ (by first | omega | (simp; done) | (simp; omega)) _) | (with_reducible refine RI.below ?_ (by assumption) (by first | omega | (simp; done) | (simp; omega))))))
  clear H0_3 H1_3
  have bw_4 : Below w.heap.size w w4 := by (repeat (first | (with_reducible exact Below.refl _ _) | (with_reducible assumption) | (with_reducible refine below_drewN ?_ _) | (with_reducible refine Below.drew ?_) | (with_reducible refine Below.alloc ?_ ?_ _) | (with_reducible refine Below.setCell ?_ ?_ _) | (with_reducible refine below_into ?_ (by assumption) (by first | omega | (simp; done) | (simp; omega))) | go_size))
  have S_x0 : nx0 = xs0.length := O4.lenEq
  have hn_x0 : nx0 ≤ 1048576 := by omega
  clear S_x0
  have O_X_x0 : Own (.slice Ax0 nx0 capx0) (w3.heap.size) w4.heap.size := O4.own.wide (by first | omega | (simp; done) | (simp; omega)) (Nat.le_refl _)
  have X_x0_4 : Hid (OR w4 (w3.heap.size) (.slice Ax0 nx0 capx0) xs0) := Lib.hid (O4.mono (by first | omega | (simp; done) | (simp; omega)))
  clear O4
  go_wp2_with fail
  refine (toIntS_own (C := w.heap.size) (xs := xs1) (by (repeat (first | (with_reducible exact H1_4.out) | (with_reducible refine RI.drew ?_) | (with_reducible refine RI.drewN ?_ _) | (with_reducible refine RI.alloc ?_ (by first | omega | (simp; done) | (simp; omega)) _) | (with_reducible refine RI.setCell ?_ (by first | omega | (simp; done) | (simp; omega)) _) | (with_reducible refine RI.below ?_ (by assumption) (by first | omega | (simp; done) | (simp; omega)))))) (by first | omega | (simp; done) | (simp; omega)) (by omega)).mono ?_
  rintro e w5 ⟨Ax1, nx1, capx1, rfl, O5, hb5⟩
  have hz5 := hb5.size
  try simp at hz5
  have H0_5 : Hid (RI w5 w.heap.size A0 n0 xs0) := Lib.hid (by (repeat (first | (with_reducible exact H0_4.out) | (with_reducible refine RI.drew ?_) | (with_reducible refine RI.drewN ?_ _) | (with_reducible refine RI.alloc ?_ (by first | omega | (simp; done) | (simp; omega)) _) | (with_reducible refine RI.setCell ?_ (by first | omega | (simp; done) | (simp; omega)) _) | (with_reducible refine RI.below ?_ (by assumption) (by first | omega | (simp; done) | (simp; omega))))))
  have H1_5 : Hid (RI w5 w.heap.size A1 n1 xs1) := Lib.hid (by (repeat (first | (with_reducible exact H1_4.out) | (with_reducible refine RI.drew ?_) | (with_reducible refine RI.drewN ?_ _) | (with_reducible refine RI.alloc ?_ (by first | omega | (simp; done) | (simp; omega)) _) | (with_reducible refine RI.setCell ?_ (by first | omega | (simp; done) | (simp; omega)) _) | (with_reducible refine RI.below ?_ (by assumption) (by first | omega | (simp; done) | (simp; omega))))))
  have X_x0_5 : Hid (OR w5 (w3.heap.size) (.slice Ax0 nx0 capx0) xs0) := Lib.hid (by (repeat (first | (with_reducible exact X_x0_4.out) | (with_reducible refine OR.drew ?_) | (with_reducible refine OR.drewN ?_ _) | (with_reducible refine OR.alloc ?_ _) | (with_reducible refine OR.below ?_ (by assumption) (by first | omega | (simp; done) | (simp; omega))) | (with_reducible refine OR.low ?_ (by first | omega | (simp only []; omega) | (simp; omega)) _))))
  clear H0_4 H1_4 X_x0_4
  have bw_5 : Below w.heap.size w w5 := by (repeat (first | (with_reducible exact Below.refl _ _) | (with_reducible assumption) | (with_reducible refine below_drewN ?_ _) | (with_reducible refine Below.drew ?_) | (with_reducible refine Below.alloc ?_ ?_ _) | (with_reducible refine Below.setCell ?_ ?_ _) | (with_reducible refine below_into ?_ (by assumption) (by first | omega | (simp; done) | (simp; omega))) | go_size))
  have S_x1 : nx1 = xs1.length := O5.lenEq
  have hn_x1 : nx1 ≤ 1048576 := by omega
  clear S_x1
  have O_X_x1 : Own (.slice Ax1 nx1 capx1) (w4.heap.size) w5.heap.size := O5.own.wide (by first | omega | (simp; done) | (simp; omega)) (Nat.le_refl _)
  have X_x1_5 : Hid (OR w5 (w4.heap.size) (.slice Ax1 nx1 capx1) xs1) := Lib.hid (O5.mono (by first | omega | (simp; done) | (simp; omega)))
  clear O5
  go_wp2_with fail
  refine (impl_ChineseOf Ax0 Ax1 nx0 nx1 capx0 capx1 xs0 xs1 _ (OR.reads (B := (w3.heap.size)) (A := Ax0) (n := nx0) (cap := capx0) (xs := xs0) (by (repeat (first | (with_reducible exact X_x0_5.out) | (with_reducible refine OR.drew ?_) | (with_reducible refine OR.drewN ?_ _) | (with_reducible refine OR.alloc ?_ _) | (with_reducible refine OR.below ?_ (by assumption) (by first | omega | (simp; done) | (simp; omega))) | (with_reducible refine OR.low ?_ (by first | omega | (simp only []; omega) | (simp; omega)) _))))) (OR.reads (B := (w4.heap.size)) (A := Ax1) (n := nx1) (cap := capx1) (xs := xs1) (by (repeat (first | (with_reducible exact X_x1_5.out) | (with_reducible refine OR.drew ?_) | (with_reducible refine OR.drewN ?_ _) | (with_reducible refine OR.alloc ?_ _) | (with_reducible refine OR.below ?_ (by assumption) (by first | omega | (simp; done) | (simp; omega))) | (with_reducible refine OR.low ?_ (by first | omega | (simp only []; omega) | (simp; omega)) _))))) (Nat.le_refl _) (Nat.le_refl _) hn_x0 hn_x1 (OR.caps (B := (w4.heap.size)) (A := Ax1) (n := nx1) (cap := capx1) (xs := xs1) X_x1_5.out).1).mono ?_
  rintro e w6 ⟨rfl, hb6⟩
  have hz6 := hb6.size
  try simp at hz6
  have H0_6 : Hid (RI w6 w.heap.size A0 n0 xs0) := Lib.hid (by (repeat (first | (with_reducible exact H0_5.out) | (with_reducible refine RI.drew ?_) | (with_reducible refine RI.drewN ?_ _) | (with_reducible refine RI.alloc ?_ (by first | omega | (simp; done) | (simp; omega)) _) | (with_reducible refine RI.setCell ?_ (by first | omega | (simp; done) | (simp; omega)) _) | (with_reducible refine RI.below ?_ (by assumption) (by first | omega | (simp; done) | (simp; omega))))))
  have H1_6 : Hid (RI w6 w.heap.size A1 n1 xs1) := Lib.hid (by (repeat (first | (with_reducible exact H1_5.out) | (with_reducible refine RI.drew ?_) | (with_reducible refine RI.drewN ?_ _) | (with_reducible refine RI.alloc ?_ (by first | omega | (simp; done) | (simp; omega)) _) | (with_reducible refine RI.setCell ?_ (by first | omega | (simp; done) | (simp; omega)) _) | (with_reducible refine RI.below ?_ (by assumption) (by first | omega | (simp; done) | (simp; omega))))))
  have X_x0_6 : Hid (OR w6 (w3.heap.size) (.slice Ax0 nx0 capx0) xs0) := Lib.hid (by (repeat (first | (with_reducible exact X_x0_5.out) | (with_reducible refine OR.drew ?_) | (with_reducible refine OR.drewN ?_ _) | (with_reducible refine OR.alloc ?_ _) | (with_reducible refine OR.below ?_ (by assumption) (by first | omega | (simp; done) | (simp; omega))) | (with_reducible refine OR.low ?_ (by first | omega | (simp only []; omega) | (simp; omega)) _))))
  have X_x1_6 : Hid (OR w6 (w4.heap.size) (.slice Ax1 nx1 capx1) xs1) := Lib.hid (by (repeat (first | (with_reducible exact X_x1_5.out) | (with_reducible refine OR.drew ?_) | (with_reducible refine OR.drewN ?_ _) | (with_reducible refine OR.alloc ?_ _) | (with_reducible refine OR.below ?_ (by assumption) (by first | omega | (simp; done) | (simp; omega))) | (with_reducible refine OR.low ?_ (by first | omega | (simp only []; omega) | (simp; omega)) _))))
  clear H0_5 H1_5 X_x0_5 X_x1_5
  have bw_6 : Below w.heap.size w w6 := by (repeat (first | (with_reducible exact Below.refl _ _) | (with_reducible assumption) | (with_reducible refine below_drewN ?_ _) | (with_reducible refine Below.drew ?_) | (with_reducible refine Below.alloc ?_ ?_ _) | (with_reducible refine Below.setCell ?_ ?_ _) | (with_reducible refine below_into ?_ (by assumption) (by first | omega | (simp; done) | (simp; omega))) | go_size))
  go_wp2_with fail
  refine (toIntS_own (C := w.heap.size) (xs := xs0) (by (repeat (first | (with_reducible exact H0_6.out) | (with_reducible refine RI.drew ?_) | (with_reducible refine RI.drewN ?_ _) | (with_reducible refine RI.alloc ?_ (by first | omega | (simp; done) | (simp; omega)) _) | (with_reducible refine RI.setCell ?_ (by first | omega | (simp; done) | (simp; omega)) _) | (with_reducible refine RI.below ?_ (by assumption) (by first | omega | (simp; done) | (simp; omega)))))) (by first | omega | (simp; done) | (simp; omega)) (by omega)).mono ?_
  rintro e w7 ⟨Ay0, ny0, capy0, rfl, O7, hb7⟩
  have hz7 := hb7.size
  try simp at hz7
  have H0_7 : Hid (RI w7 w.heap.size A0 n0 xs0) := Lib.hid (by (repeat (first | (with_reducible exact H0_6.out) | (with_reducible refine RI.drew ?_) | (with_reducible refine RI.drewN ?_ _) | (with_reducible refine RI.alloc ?_ (by first | omega | (simp; done) | (simp; omega)) _) | (with_reducible refine RI.setCell ?_ (by first | omega | (simp; done) | (simp; omega)) _) | (with_reducible refine RI.below ?_ (by assumption) (by first | omega | (simp; done) | (simp; omega))))))
  have H1_7 : Hid (RI w7 w.heap.size A1 n1 xs1) := Lib.hid (by (repeat (first | (with_reducible exact H1_6.out) | (with_reducible refine RI.drew ?_) | (with_reducible refine RI.drewN ?_ _) | (with_reducible refine RI.alloc ?_ (by first | omega | (simp; done) | (simp; omega)) _) | (with_reducible refine RI.setCell ?_ (by first | omega | (simp; done) | (simp; omega)) _) | (with_reducible refine RI.below ?_ (by assumption) (by first | omega | (simp; done) | (simp; omega))))))
  have X_x0_7 : Hid (OR w7 (w3.heap.size) (.slice Ax0 nx0 capx0) xs0) := Lib.hid (by (repeat (first | (with_reducible exact X_x0_6.out) | (with_reducible refine OR.drew ?_) | (with_reducible refine OR.drewN ?_ _) | (with_reducible refine OR.alloc ?_ _) | (with_reducible refine OR.below ?_ (by assumption) (by first | omega | (simp; done) | (simp; omega))) | (with_reducible refine OR.low ?_ (by first | omega | (simp only []; omega) | (simp; omega)) _))))
  have X_x1_7 : Hid (OR w7 (w4.heap.size) (.slice Ax1 nx1 capx1) xs1) := Lib.hid (by (repeat (first | (with_reducible exact X_x1_6.out) | (with_reducible refine OR.drew ?_) | (with_reducible refine OR.drewN ?_ _) | (with_reducible refine OR.alloc ?_ _) | (with_reducible refine OR.below ?_ (by assumption) (by first | omega | (simp; done) | (simp; omega))) | (with_reducible refine OR.low ?_ (by first | omega | (simp only []; omega) | (simp; omega)) _))))
  clear H0_6 H1_6 X_x0_6 X_x1_6
  have bw_7 : Below w.heap.size w w7 := by (repeat (first | (with_reducible exact Below.refl _ _) | (with_reducible assumption) | (with_reducible refine below_drewN ?_ _) | (with_reducible refine Below.drew ?_) | (with_reducible refine Below.alloc ?_ ?_ _) | (with_reducible refine Below.setCell ?_ ?_ _) | (with_reducible refine below_into ?_ (by assumption) (by first | omega | (simp; done) | (simp; omega))) | go_size))
  have XY0 := Lib.hid (O7.mono (B' := w6.heap.size) (by first | omega | (simp; done) | (simp; omega)))
  clear O7
  go_wp2_with fail
  refine (eqOwnI (B := (w3.heap.size)) (B' := w6.heap.size) (xs := xs0) (by (repeat (first | (with_reducible exact X_x0_7.out) | (with_reducible refine OR.drew ?_) | (with_reducible refine OR.drewN ?_ _) | (with_reducible refine OR.alloc ?_ _) | (with_reducible refine OR.below ?_ (by assumption) (by first | omega | (simp; done) | (simp; omega))) | (with_reducible refine OR.low ?_ (by first | omega | (simp only []; omega) | (simp; omega)) _)))) (by (repeat (first | (with_reducible exact XY0.out) | (with_reducible refine OR.drew ?_) | (with_reducible refine OR.drewN ?_ _) | (with_reducible refine OR.alloc ?_ _) | (with_reducible refine OR.below ?_ (by assumption) (by first | omega | (simp; done) | (simp; omega))) | (with_reducible refine OR.low ?_ (by first | omega | (simp only []; omega) | (simp; omega)) _))))).mono ?_
  rintro e wd ⟨rfl, ndx0, rfl⟩
  go_wp2_with fail
  refine (toIntS_own (C := w.heap.size) (xs := xs1) (by (repeat (first | (with_reducible exact H1_7.out) | (with_reducible refine RI.drew ?_) | (with_reducible refine RI.drewN ?_ _) | (with_reducible refine RI.alloc ?_ (by first | omega | (simp; done) | (simp; omega)) _) | (with_reducible refine RI.setCell ?_ (by first | omega | (simp; done) | (simp; omega)) _) | (with_reducible refine RI.below ?_ (by assumption) (by first | omega | (simp; done) | (simp; omega)))))) (by first | omega | (simp; done) | (simp; omega)) (by omega)).mono ?_
  rintro e w8 ⟨Ay1, ny1, capy1, rfl, O8, hb8⟩
  have hz8 := hb8.size
  try simp at hz8
  have H0_8 : Hid (RI w8 w.heap.size A0 n0 xs0) := Lib.hid (by (repeat (first | (with_reducible exact H0_7.out) | (with_reducible refine RI.drew ?_) | (with_reducible refine RI.drewN ?_ _) | (with_reducible refine RI.alloc ?_ (by first | omega | (simp; done) | (simp; omega)) _) | (with_reducible refine RI.setCell ?_ (by first | omega | (simp; done) | (simp; omega)) _) | (with_reducible refine RI.below ?_ (by assumption) (by first | omega | (simp; done) | (simp; omega))))))
  have H1_8 : Hid (RI w8 w.heap.size A1 n1 xs1) := Lib.hid (by (repeat (first | (with_reducible exact H1_7.out) | (with_reducible refine RI.drew ?_) | (with_reducible refine RI.drewN ?_ _) | (with_reducible refine RI.alloc ?_ (by first | omega | (simp; done) | (simp; omega)) _) | (with_reducible refine RI.setCell ?_ (by first | omega | (simp; done) | (simp; omega)) _) | (with_reducible refine RI.below ?_ (by assumption) (by first | omega | (simp; done) | (simp; omega))))))
  have X_x0_8 : Hid (OR w8 (w3.heap.size) (.slice Ax0 nx0 capx0) xs0) := Lib.hid (by (repeat (first | (with_reducible exact X_x0_7.out) | (with_reducible refine OR.drew ?_) | (with_reducible refine OR.drewN ?_ _) | (with_reducible refine OR.alloc ?_ _) | (with_reducible refine OR.below ?_ (by assumption) (by first | omega | (simp; done) | (simp; omega))) | (with_reducible refine OR.low ?_ (by first | omega | (simp only []; omega) | (simp; omega)) _))))
  have X_x1_8 : Hid (OR w8 (w4.heap.size) (.slice Ax1 nx1 capx1) xs1) := Lib.hid (by (repeat (first | (with_reducible exact X_x1_7.out) | (with_reducible refine OR.drew ?_) | (with_reducible refine OR.drewN ?_ _) | (with_reducible refine OR.alloc ?_ _) | (with_reducible refine OR.below ?_ (by assumption) (by first | omega | (simp; done) | (simp; omega))) | (with_reducible refine OR.low ?_ (by first | omega | (simp only []; omega) | (simp; omega)) _))))
  clear H0_7 H1_7 X_x0_7 X_x1_7
  have bw_8 : Below w.heap.size w w8 := by (repeat (first | (with_reducible exact Below.refl _ _) | (with_reducible assumption) | (with_reducible refine below_drewN ?_ _) | (with_reducible refine Below.drew ?_) | (with_reducible refine Below.alloc ?_ ?_ _) | (with_reducible refine Below.setCell ?_ ?_ _) | (with_reducible refine below_into ?_ (by assumption) (by first | omega | (simp; done) | (simp; omega))) | go_size))
  have XY1 := Lib.hid (O8.mono (B' := w7.heap.size) (by first | omega | (simp; done) | (simp; omega)))
  clear O8
  go_wp2_with fail
  refine (eqOwnI (B := (w4.heap.size)) (B' := w7.heap.size) (xs := xs1) (by (repeat (first | (with_reducible exact X_x1_8.out) | (with_reducible refine OR.drew ?_) | (with_reducible refine OR.drewN ?_ _) | (with_reducible refine OR.alloc ?_ _) | (with_reducible refine OR.below ?_ (by assumption) (by first | omega | (simp; done) | (simp; omega))) | (with_reducible refine OR.low ?_ (by first | omega | (simp only []; omega) | (simp; omega)) _)))) (by (repeat (first | (with_reducible exact XY1.out) | (with_reducible refine OR.drew ?_) | (with_reducible refine OR.drewN ?_ _) | (with_reducible refine OR.alloc ?_ _) | (with_reducible refine OR.below ?_ (by assumption) (by first | omega | (simp; done) | (simp; omega))) | (with_reducible refine OR.low ?_ (by first | omega | (simp only []; omega) | (simp; omega)) _))))).mono ?_
  rintro e wd ⟨rfl, ndx1, rfl⟩
  go_wp2_with fail
  go_ret
  exact ⟨rfl, by (repeat (first | (with_reducible exact Below.refl _ _) | (with_reducible assumption) | (with_reducible refine below_drewN ?_ _) | (with_reducible refine Below.drew ?_) | (with_reducible refine Below.alloc ?_ ?_ _) | (with_reducible refine Below.setCell ?_ ?_ _) | (with_reducible refine below_into ?_ (by assumption) (by first | omega | (simp; done) | (simp; omega))) | go_size))⟩
end Go.Proofs.Ythdhdkocdlcgaaa

/-
  DERIVED. The law FnExactRowBound.
-/
import Derived.Test.YtdnooamnjkibgaaRowBound2
import Derived.Test.YtdnooamnjkibgaaMat
namespace Go.Proofs.Ytdnooamnjkibgaa
open Go.RowKit
set_option linter.unusedVariables false
set_option maxHeartbeats 4000000 in
theorem law_FnExactRowBound (w : World) (r : Int) (hr : -9223372036854775808 ≤ r ∧ r ≤ 9223372036854775807) (c : Int) (hc : -9223372036854775808 ≤ c ∧ c ≤ 9223372036854775807)
    (A : Option Addr) (n cap : Nat) (xs : List Int) (hnc : n ≤ cap) (hcm : cap ≤ maxLen) (h : RI w w.heap.size A n xs) (hwf : ∀ z ∈ xs, (Lit.int .i64 z).wf = true) :
    Calls Try.prog 12 #[.agg #[.int .i64 r, .int .i64 c, .slice A n cap]] w fun e w' => e = .returned (.bool true) ∧ Below w.heap.size w w' := by
  unfold maxLen at hcm
  have hlen := h.len
  have hlx : xs.length ≤ n ∧ n ≤ xs.length := by omega
  have H2 := Lib.hid h
  clear h hwf hlen
  by_cases hn : 1048576 < n
  · go_enter Try.func12, Try.ntmps12
    go_wp2_with (go_at_call 33; refine (laws_szMatrix r c A n cap _ (by omega)).mono ?_; rw [if_pos hn]; rintro e w1 ⟨rfl, hb⟩; have hz := hb.size; (try simp at hz); have kk := bkeep (w := w) hb (by first | omega | (simp; done) | (simp; omega)); obtain ⟨kc, kf⟩ := kk; (try (have kk := bkeepb (w.heap.size) hb (by first | omega | (simp; done) | (simp; omega)); obtain ⟨kc0, kf0, kl0⟩ := kk)); (try (have kk := bkeepb (w.heap.size + 1) hb (by first | omega | (simp; done) | (simp; omega)); obtain ⟨kc1, kf1, kl1⟩ := kk)); (try (have kk := bkeepb (w.heap.size + 1 + 1) hb (by first | omega | (simp; done) | (simp; omega)); obtain ⟨kc2, kf2, kl2⟩ := kk)); (try (have kk := bkeepb (w.heap.size + 1 + 1 + 1) hb (by first | omega | (simp; done) | (simp; omega)); obtain ⟨kc3, kf3, kl3⟩ := kk)); (try (have kk := bkeepb (wr.heap.size) hb (by first | omega | (simp; done) | (simp; omega)); obtain ⟨kr0, ks0, kt0⟩ := kk)); (try (have kk := bkeepb (wr.heap.size + 1) hb (by first | omega | (simp; done) | (simp; omega)); obtain ⟨kr1, ks1, kt1⟩ := kk)); (try (have kk := bkeepb (wr.heap.size + 1 + 1) hb (by first | omega | (simp; done) | (simp; omega)); obtain ⟨kr2, ks2, kt2⟩ := kk)))
    go_ret
    exact ⟨rfl, by (repeat (first | (with_reducible exact Below.refl _ _) | (with_reducible assumption) | (with_reducible refine below_drewN ?_ _) | (with_reducible refine Below.drew ?_) | (with_reducible refine Below.alloc ?_ ?_ _) | (with_reducible refine Below.setCell ?_ ?_ _) | (with_reducible refine below_into ?_ (by assumption) ?_) | go_size))⟩
  · rcases hres : bndRes r c xs with _ | v
    all_goals
      have HRES := Lib.hid hres
      clear hres
      go_enter Try.func12, Try.ntmps12
      go_wp2_with fail
      refine (laws_szMatrix r c A n cap _ (by omega)).mono ?_
      rw [if_neg hn]
      rintro e w1 ⟨rfl, hb1⟩
      have hz1 := hb1.size; (try simp at hz1); have kk := bkeep (w := w) hb1 (by first | omega | (simp; done) | (simp; omega)); obtain ⟨kc1_, kf1_⟩ := kk; have kk := bkeepb (w.heap.size) hb1 (by first | omega | (simp; done) | (simp; omega)); obtain ⟨kc1_0, kf1_0, kl1_0⟩ := kk
      go_wp2_with fail
      refine (laws_toMatrix r c A n cap xs _ (C := w.heap.size) (by (repeat (first | (with_reducible exact H2.out) | (with_reducible refine RI.drew ?_) | (with_reducible refine RI.drewN ?_ _) | (with_reducible refine RI.alloc ?_ (by first | omega | (simp; done) | (simp; omega)) _) | (with_reducible refine RI.setCell ?_ (by first | omega | (simp; done) | (simp; omega)) _) | (with_reducible refine RI.below ?_ (by assumption) (by first | omega | (simp; done) | (simp; omega)))))) (by omega) (by omega)).mono ?_
      rintro e w2 ⟨A2, n2, c2, rfl, hn2, own2, hb2⟩
      have hz2 := hb2.size; (try simp at hz2); have kk := bkeep (w := w) hb2 (by first | omega | (simp; done) | (simp; omega)); obtain ⟨kc2_, kf2_⟩ := kk; have kk := bkeepb (w.heap.size) hb2 (by first | omega | (simp; done) | (simp; omega)); obtain ⟨kc2_0, kf2_0, kl2_0⟩ := kk
      have N2 := Lib.hid hn2
      have hn2' : n2 ≤ 1048576 := by omega
      clear hn2
      go_wp2_with fail
      refine (spec_RowBound r c A2 n2 c2 xs _ own2.reads (Nat.le_refl _) hn2').mono ?_
      rw [HRES.out]
      simp only [optV]
      rintro e w3 ⟨rfl, hb3⟩
      have hz3 := hb3.size; (try simp at hz3); have kk := bkeep (w := w) hb3 (by first | omega | (simp; done) | (simp; omega)); obtain ⟨kc3_, kf3_⟩ := kk; have kk := bkeepb (w.heap.size) hb3 (by first | omega | (simp; done) | (simp; omega)); obtain ⟨kc3_0, kf3_0, kl3_0⟩ := kk
      go_wp2_with fail
      refine (laws_toMatrix r c A n cap xs _ (C := w.heap.size) (by (repeat (first | (with_reducible exact H2.out) | (with_reducible refine RI.drew ?_) | (with_reducible refine RI.drewN ?_ _) | (with_reducible refine RI.alloc ?_ (by first | omega | (simp; done) | (simp; omega)) _) | (with_reducible refine RI.setCell ?_ (by first | omega | (simp; done) | (simp; omega)) _) | (with_reducible refine RI.below ?_ (by assumption) (by first | omega | (simp; done) | (simp; omega)))))) (by omega) (by omega)).mono ?_
      rintro e w4 ⟨A4, n4, c4, rfl, hn4, own4, hb4⟩
      have hz4 := hb4.size; (try simp at hz4); have kk := bkeep (w := w) hb4 (by first | omega | (simp; done) | (simp; omega)); obtain ⟨kc4_, kf4_⟩ := kk; have kk := bkeepb (w.heap.size) hb4 (by first | omega | (simp; done) | (simp; omega)); obtain ⟨kc4_0, kf4_0, kl4_0⟩ := kk
      have N4 := Lib.hid hn4
      have hn4' : n4 ≤ 1048576 := by omega
      clear hn4
      have R4 := Lib.hid own4.reads
      go_wp2_with fail
      refine (impl_RowBound r c A4 n4 c4 xs _ (B := w4.heap.size) (by (repeat (first | (with_reducible exact R4.out) | (with_reducible refine RI.drew ?_) | (with_reducible refine RI.drewN ?_ _) | (with_reducible refine RI.alloc ?_ (by first | omega | (simp; done) | (simp; omega)) _) | (with_reducible refine RI.setCell ?_ (by first | omega | (simp; done) | (simp; omega)) _) | (with_reducible refine RI.below ?_ (by assumption) (by first | omega | (simp; done) | (simp; omega)))))) (by simp) hn4' own4.caps.1 own4.caps.2).mono ?_
      rw [HRES.out]
      simp only [optV]
      rintro e w5 ⟨rfl, hb5⟩
      have hz5 := hb5.size; (try simp at hz5); have kk := bkeep (w := w) hb5 (by first | omega | (simp; done) | (simp; omega)); obtain ⟨kc5_, kf5_⟩ := kk; have kk := bkeepb (w.heap.size) hb5 (by first | omega | (simp; done) | (simp; omega)); obtain ⟨kc5_0, kf5_0, kl5_0⟩ := kk; have kk := bkeepb (w4.heap.size) hb5 (by first | omega | (simp; done) | (simp; omega)); obtain ⟨kc5_1, kf5_1, kl5_1⟩ := kk
      have R5 : Hid (RI w5 w4.heap.size A4 n4 xs) := Lib.hid (by (repeat (first | (with_reducible exact R4.out) | (with_reducible refine RI.drew ?_) | (with_reducible refine RI.drewN ?_ _) | (with_reducible refine RI.alloc ?_ (by first | omega | (simp; done) | (simp; omega)) _) | (with_reducible refine RI.setCell ?_ (by first | omega | (simp; done) | (simp; omega)) _) | (with_reducible refine RI.below ?_ (by assumption) (by first | omega | (simp; done) | (simp; omega))))))
      have H5 : Hid (RI w5 w.heap.size A n xs) := Lib.hid (by (repeat (first | (with_reducible exact H2.out) | (with_reducible refine RI.drew ?_) | (with_reducible refine RI.drewN ?_ _) | (with_reducible refine RI.alloc ?_ (by first | omega | (simp; done) | (simp; omega)) _) | (with_reducible refine RI.setCell ?_ (by first | omega | (simp; done) | (simp; omega)) _) | (with_reducible refine RI.below ?_ (by assumption) (by first | omega | (simp; done) | (simp; omega))))))
      have hbw5 : Below w.heap.size w w5 := by (repeat (first | (with_reducible exact Below.refl _ _) | (with_reducible assumption) | (with_reducible refine below_drewN ?_ _) | (with_reducible refine Below.drew ?_) | (with_reducible refine Below.alloc ?_ ?_ _) | (with_reducible refine Below.setCell ?_ ?_ _) | (with_reducible refine below_into ?_ (by assumption) ?_) | go_size))
      have e0 : eqM r c r c xs xs = true := by simp [eqM, eqB]
      go_wp2_with fail
      go_region_with (first | (go_at_call 35; refine (laws_toMatrix r c A n cap xs _ (C := w.heap.size) (by (repeat (first | (with_reducible exact H5.out) | (with_reducible refine RI.drew ?_) | (with_reducible refine RI.drewN ?_ _) | (with_reducible refine RI.alloc ?_ (by first | omega | (simp; done) | (simp; omega)) _) | (with_reducible refine RI.setCell ?_ (by first | omega | (simp; done) | (simp; omega)) _) | (with_reducible refine RI.below ?_ (by assumption) (by first | omega | (simp; done) | (simp; omega)))))) (by first | omega | (simp; done) | (simp; omega)) (by omega)).mono ?_; rintro e w6 ⟨A6, n6, c6, rfl, hn6, own6, hb6⟩; have N6 := Lib.hid hn6; have hn6' : n6 ≤ 1048576 := (by omega); clear hn6; have hz6 := hb6.size; (try simp at hz6); have kk := bkeep (w := w) hb6 (by first | omega | (simp; done) | (simp; omega)); obtain ⟨kc6_, kf6_⟩ := kk; have kk := bkeepb (w.heap.size) hb6 (by first | omega | (simp; done) | (simp; omega)); obtain ⟨kc6_0, kf6_0, kl6_0⟩ := kk; have kk := bkeepb (w4.heap.size) hb6 (by first | omega | (simp; done) | (simp; omega)); obtain ⟨kc6_1, kf6_1, kl6_1⟩ := kk) | (go_at_call 37; refine (laws_eqMatrix _ _ _ _ _ _ _ _ _ _ xs xs _ (C := w4.heap.size) (C' := w6.heap.size) (by (repeat (first | (with_reducible exact R5.out) | (with_reducible refine RI.drew ?_) | (with_reducible refine RI.drewN ?_ _) | (with_reducible refine RI.alloc ?_ (by first | omega | (simp; done) | (simp; omega)) _) | (with_reducible refine RI.setCell ?_ (by first | omega | (simp; done) | (simp; omega)) _) | (with_reducible refine RI.below ?_ (by assumption) (by first | omega | (simp; done) | (simp; omega)))))) (by (repeat (first | (with_reducible exact own6.reads) | (with_reducible refine RI.drew ?_) | (with_reducible refine RI.drewN ?_ _) | (with_reducible refine RI.alloc ?_ (by first | omega | (simp; done) | (simp; omega)) _) | (with_reducible refine RI.setCell ?_ (by first | omega | (simp; done) | (simp; omega)) _) | (with_reducible refine RI.below ?_ (by assumption) (by first | omega | (simp; done) | (simp; omega)))))) (by omega) (by omega) (by first | omega | (simp; done) | (simp; omega)) (by first | omega | (simp; done) | (simp; omega))).mono ?_; rw [e0]; rintro e w7 ⟨rfl, hb7⟩))
      all_goals go_wp2
      all_goals go_ret
      all_goals exact ⟨rfl, by (repeat (first | (with_reducible exact Below.refl _ _) | (with_reducible assumption) | (with_reducible refine below_drewN ?_ _) | (with_reducible refine Below.drew ?_) | (with_reducible refine Below.alloc ?_ ?_ _) | (with_reducible refine Below.setCell ?_ ?_ _) | (with_reducible refine below_into ?_ (by assumption) ?_) | go_size))⟩
end Go.Proofs.Ytdnooamnjkibgaa

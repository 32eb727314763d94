/-
  DERIVED. The contract of the law FnExactAreModuli.
-/
import Derived.Test.YtdnooamnjkibgaaMods
namespace Go.Proofs.Ytdnooamnjkibgaa
open Go.RowKit
set_option linter.unusedVariables false
theorem law_FnExactAreModuli (w : World) (A : Option Addr) (n cap : Nat) (xs : List Int) (hnc : n ≤ cap) (hcm : cap ≤ maxLen) (h : RI w w.heap.size A n xs) (hwf : ∀ z ∈ xs, (Lit.int .i64 z).wf = true) :
    Calls Try.prog 6 #[.slice A n cap] w fun e w' => e = .returned (.bool true) ∧ Below w.heap.size w w' := by
  unfold maxLen at hcm
  have hlen := h.len
  have hlx : xs.length ≤ n ∧ n ≤ xs.length := by omega
  have H := Lib.hid h
  have HL := Lib.hid hlen
  clear h hwf hlen
  by_cases hn : 1048576 < n
  · go_enter Try.func6, Try.ntmps6
    go_wp2
    go_ret
    exact ⟨rfl, Below.refl _ _⟩
  · go_enter Try.func6, Try.ntmps6
    go_wp2_with fail
    refine (laws_toIntS A n cap xs _ H.out (Nat.le_refl _) (by omega)).mono ?_
    rintro e w1 ⟨g1, rfl, own1, hb1⟩
    go_wp2_with fail
    refine (spec_AreModuli _ _ _ xs _ own1.reads (by omega)).mono ?_
    rintro e w' ⟨rfl, nd1, rfl⟩
    go_wp2_with fail
    have hz1 := hb1.size
    refine (laws_toIntS A n cap xs _ (C := w.heap.size) ?_ (by simp; omega) (by omega)).mono ?_
    · (repeat (first | (with_reducible exact H.out) | (with_reducible refine RI.drew ?_) | (with_reducible refine RI.drewN ?_ _) | (with_reducible refine RI.alloc ?_ (by first | omega | (simp; done) | (simp; omega)) _) | (with_reducible refine RI.setCell ?_ (by first | omega | (simp; done) | (simp; omega)) _) | (with_reducible refine RI.below ?_ (by assumption) (by first | omega | (simp; done) | (simp; omega)))))
    rintro e w2 ⟨g2, rfl, own2, hb2⟩
    go_wp2_with fail
    refine (impl_AreModuli _ _ _ xs _ own2.reads (by omega) (Nat.le_refl _)).mono ?_
    rintro e w' ⟨rfl, nd2, rfl⟩
    have hz2 := hb2.size
    simp at hz2
    go_wp2_with fail
    refine (laws_toIntS A n cap xs _ (C := w.heap.size) ?_ (by simp; omega) (by omega)).mono ?_
    · (repeat (first | (with_reducible exact H.out) | (with_reducible refine RI.drew ?_) | (with_reducible refine RI.drewN ?_ _) | (with_reducible refine RI.alloc ?_ (by first | omega | (simp; done) | (simp; omega)) _) | (with_reducible refine RI.setCell ?_ (by first | omega | (simp; done) | (simp; omega)) _) | (with_reducible refine RI.below ?_ (by assumption) (by first | omega | (simp; done) | (simp; omega)))))
    rintro e w3 ⟨g3, rfl, own3, hb3⟩
    have hz3 := hb3.size
    simp at hz3
    go_wp2_with fail
    have e0 : eqB xs xs = true := by simp [eqB]
    refine (laws_eqIntS _ _ _ _ _ _ xs xs _ ((own2.drewN nd2).below hb3 (Nat.le_refl _)).reads own3.reads (by omega) (by omega)).mono ?_
    rw [e0]
    rintro e w' ⟨rfl, nd3, rfl⟩
    go_wp2_with fail
    go_ret
    exact ⟨rfl, by (repeat (first | (with_reducible exact Below.refl _ _) | (with_reducible assumption) | (with_reducible refine below_drewN ?_ _) | (with_reducible refine Below.drew ?_) | (with_reducible refine Below.alloc ?_ ?_ _) | (with_reducible refine Below.setCell ?_ ?_ _) | (with_reducible refine below_into ?_ (by assumption) ?_) | go_size))⟩
end Go.Proofs.Ytdnooamnjkibgaa

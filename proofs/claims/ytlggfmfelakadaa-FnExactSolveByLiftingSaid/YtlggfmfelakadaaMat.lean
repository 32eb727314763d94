/-
  DERIVED. The contracts of the laws' helpers on matrices: toMatrix, szMatrix, eqMatrix, markMatrix, heldMatrix.
-/
import Derived.Test.YtlggfmfelakadaaInts
namespace Go.Proofs.Ytlggfmfelakadaa
open Go.RowKit
set_option linter.unusedVariables false
/-- The call returned a matrix whose cells are its own. -/
def MV (r c : Int) (ys : List Int) (w : World) (e : Ending) (w' : World) : Prop :=
  ∃ A n cap, e = .returned (.agg #[.int .i64 r, .int .i64 c, .slice A n cap]) ∧ n = ys.length ∧ OR w' w.heap.size (.slice A n cap) ys ∧ Below w.heap.size w w'

theorem laws_toMatrix (r c : Int) (A : Option Addr) (n cap : Nat) (xs : List Int) (w : World) {C : Nat} (h0' : RI w C A n xs) (hC : C ≤ w.heap.size) (hn : n ≤ 1048576) :
    Calls Try.prog 26 #[.agg #[.int .i64 r, .int .i64 c, .slice A n cap]] w (MV r c xs w) := by
  have H := Lib.hid (h0'.more hC)
  clear h0' hC
  go_enter Try.func26, Try.ntmps26
  go_wp2_with fail
  refine (laws_toIntS A n cap xs _ (C := w.heap.size) ?_ (by simp; omega) hn).mono ?_
  · (repeat (first | (with_reducible exact H.out) | (with_reducible refine RI.drew ?_) | (with_reducible refine RI.drewN ?_ _) | (with_reducible refine RI.alloc ?_ (by first | omega | (simp; done) | (simp; omega)) _) | (with_reducible refine RI.setCell ?_ (by first | omega | (simp; done) | (simp; omega)) _) | (with_reducible refine RI.below ?_ (by assumption) (by first | omega | (simp; done) | (simp; omega)))))
  rintro e w1 ⟨g, rfl, hown, hb⟩
  have hz := hb.size; (try simp at hz); have kk := bkeep (w := w) hb (by first | omega | (simp; done) | (simp; omega)); obtain ⟨kc, kf⟩ := kk; (try (have kk := bkeepb (w.heap.size) hb (by first | omega | (simp; done) | (simp; omega)); obtain ⟨kc0, kf0, kl0⟩ := kk)); (try (have kk := bkeepb (w.heap.size + 1) hb (by first | omega | (simp; done) | (simp; omega)); obtain ⟨kc1, kf1, kl1⟩ := kk)); (try (have kk := bkeepb (w.heap.size + 1 + 1) hb (by first | omega | (simp; done) | (simp; omega)); obtain ⟨kc2, kf2, kl2⟩ := kk)); (try (have kk := bkeepb (w.heap.size + 1 + 1 + 1) hb (by first | omega | (simp; done) | (simp; omega)); obtain ⟨kc3, kf3, kl3⟩ := kk)); (try (have kk := bkeepb (wr.heap.size) hb (by first | omega | (simp; done) | (simp; omega)); obtain ⟨kr0, ks0, kt0⟩ := kk)); (try (have kk := bkeepb (wr.heap.size + 1) hb (by first | omega | (simp; done) | (simp; omega)); obtain ⟨kr1, ks1, kt1⟩ := kk)); (try (have kk := bkeepb (wr.heap.size + 1 + 1) hb (by first | omega | (simp; done) | (simp; omega)); obtain ⟨kr2, ks2, kt2⟩ := kk))
  go_wp2
  refine bodyPost_ret (v := .agg #[.int .i64 r, .int .i64 c, .slice (some ⟨g, 0, none⟩) xs.length xs.length]) (by simp [results, Try.results26, go_sem, kc1]) rfl ?_
  refine ⟨some ⟨g, 0, none⟩, _, _, rfl, rfl, ?_, by (repeat (first | (with_reducible exact Below.refl _ _) | (with_reducible assumption) | (with_reducible refine below_drewN ?_ _) | (with_reducible refine Below.drew ?_) | (with_reducible refine Below.alloc ?_ ?_ _) | (with_reducible refine Below.setCell ?_ ?_ _) | (with_reducible refine below_into ?_ (by assumption) (by first | omega | (simp; done) | (simp; omega))) | go_size))⟩
  have hown' : OR w1 (w.heap.size + 1 + 1 + 1) (.slice (some ⟨g, 0, none⟩) xs.length xs.length) xs := by simpa using hown
  refine OR.mono ?_ (show w.heap.size ≤ w.heap.size + 1 + 1 + 1 by omega)
  (repeat (first | (with_reducible exact hown') | (with_reducible refine OR.drew ?_) | (with_reducible refine OR.drewN ?_ _) | (with_reducible refine OR.alloc ?_ _) | (with_reducible refine OR.below ?_ (by assumption) (by first | omega | (simp; done) | (simp; omega))) | (with_reducible refine OR.low ?_ (by first | omega | (simp only []; omega) | (simp; omega)) _)))

theorem laws_szMatrix (r c : Int) (A : Option Addr) (n cap : Nat) (w : World) (hn : n ≤ 9223372036854775807) :
    Calls Try.prog 24 #[.agg #[.int .i64 r, .int .i64 c, .slice A n cap], .int .i64 1048576] w (BV (.int .i64 (if 1048576 < n then -1 else 1048576 - n)) w) := by
  by_cases h : 1048576 < n
  · rw [if_pos h]
    have e : (if (1048576 : Int) < n then -1 else (1048576 : Int) - n) = -1 := if_pos (by omega)
    go_enter Try.func24, Try.ntmps24
    go_wp2_with (go_at_call 72; refine (laws_szIntS _ _ _ _ _ hn (by omega) (by omega)).mono ?_; rw [e]; rintro e w' ⟨rfl, rfl⟩)
    go_ret
    exact BV.mk rfl (by (repeat (first | (with_reducible exact Below.refl _ _) | (with_reducible assumption) | (with_reducible refine below_drewN ?_ _) | (with_reducible refine Below.drew ?_) | (with_reducible refine Below.alloc ?_ ?_ _) | (with_reducible refine Below.setCell ?_ ?_ _) | (with_reducible refine below_into ?_ (by assumption) (by first | omega | (simp; done) | (simp; omega))) | go_size)))
  · rw [if_neg h]
    have e : (if (1048576 : Int) < n then -1 else (1048576 : Int) - n) = 1048576 - n := if_neg (by omega)
    go_enter Try.func24, Try.ntmps24
    go_wp2_with (go_at_call 72; refine (laws_szIntS _ _ _ _ _ hn (by omega) (by omega)).mono ?_; rw [e]; rintro e w' ⟨rfl, rfl⟩)
    go_ret
    exact BV.mk rfl (by (repeat (first | (with_reducible exact Below.refl _ _) | (with_reducible assumption) | (with_reducible refine below_drewN ?_ _) | (with_reducible refine Below.drew ?_) | (with_reducible refine Below.alloc ?_ ?_ _) | (with_reducible refine Below.setCell ?_ ?_ _) | (with_reducible refine below_into ?_ (by assumption) (by first | omega | (simp; done) | (simp; omega))) | go_size)))

def eqM (r c r' c' : Int) (xs ys : List Int) : Bool := decide (r = r') && decide (c = c') && eqB xs ys
theorem laws_eqMatrix (r c r' c' : Int) (A B : Option Addr) (n m ca cb : Nat) (xs ys : List Int) (w : World) {C C' : Nat} (h : RI w C A n xs) (h' : RI w C' B m ys) (hn : n ≤ 9223372036854775807) (hm : m ≤ 9223372036854775807) (hC : C ≤ w.heap.size) (hC' : C' ≤ w.heap.size) :
    Calls Try.prog 30 #[.agg #[.int .i64 r, .int .i64 c, .slice A n ca], .agg #[.int .i64 r', .int .i64 c', .slice B m cb]] w (BV (.bool (eqM r c r' c' xs ys)) w) := by
  have H := Lib.hid h
  have H' := Lib.hid h'
  clear h h'
  by_cases hr : r = r'
  · subst hr
    by_cases hc : c = c'
    · subst hc
      have e : eqM r c r c xs ys = eqB xs ys := by simp [eqM]
      rw [e]
      clear e
      have b1 : (r != r) = false := by simp
      have b2 : (c != c) = false := by simp
      go_enter Try.func30, Try.ntmps30
      go_wp2_with (go_at_call 31; refine (laws_eqIntS _ _ _ _ _ _ xs ys _ ((H.out.alloc hC _).alloc (by simp; omega) _) ((H'.out.alloc hC' _).alloc (by simp; omega) _) hn hm).mono ?_; rintro e w' ⟨rfl, nd, rfl⟩)
      all_goals go_ret
      · exact BV.mk (vbool (by simp_all)) (by (repeat (first | (with_reducible exact Below.refl _ _) | (with_reducible assumption) | (with_reducible refine below_drewN ?_ _) | (with_reducible refine Below.drew ?_) | (with_reducible refine Below.alloc ?_ ?_ _) | (with_reducible refine Below.setCell ?_ ?_ _) | (with_reducible refine below_into ?_ (by assumption) (by first | omega | (simp; done) | (simp; omega))) | go_size)))
      · exact BV.mk (vbool (by simp_all)) (by (repeat (first | (with_reducible exact Below.refl _ _) | (with_reducible assumption) | (with_reducible refine below_drewN ?_ _) | (with_reducible refine Below.drew ?_) | (with_reducible refine Below.alloc ?_ ?_ _) | (with_reducible refine Below.setCell ?_ ?_ _) | (with_reducible refine below_into ?_ (by assumption) (by first | omega | (simp; done) | (simp; omega))) | go_size)))
    · have e : eqM r c r c' xs ys = false := by simp [eqM, hc]
      rw [e]
      have b1 : (r != r) = false := by simp
      have b2 : (c != c') = true := by simpa using hc
      go_enter Try.func30, Try.ntmps30
      go_wp2
      go_ret
      exact BV.mk rfl (by (repeat (first | (with_reducible exact Below.refl _ _) | (with_reducible assumption) | (with_reducible refine below_drewN ?_ _) | (with_reducible refine Below.drew ?_) | (with_reducible refine Below.alloc ?_ ?_ _) | (with_reducible refine Below.setCell ?_ ?_ _) | (with_reducible refine below_into ?_ (by assumption) (by first | omega | (simp; done) | (simp; omega))) | go_size)))
  · have e : eqM r c r' c' xs ys = false := by simp [eqM, hr]
    rw [e]
    have b1 : (r != r') = true := by simpa using hr
    go_enter Try.func30, Try.ntmps30
    go_wp2
    go_ret
    exact BV.mk rfl (by (repeat (first | (with_reducible exact Below.refl _ _) | (with_reducible assumption) | (with_reducible refine below_drewN ?_ _) | (with_reducible refine Below.drew ?_) | (with_reducible refine Below.alloc ?_ ?_ _) | (with_reducible refine Below.setCell ?_ ?_ _) | (with_reducible refine below_into ?_ (by assumption) (by first | omega | (simp; done) | (simp; omega))) | go_size)))

theorem laws_markMatrix (r c : Int) (A : Option Addr) (n cap : Nat) (xs : List Int) (k : Int) (w : World) (B : Nat) (h : OR w B (.slice A n cap) xs) (hn : n = xs.length) (hn2 : n ≤ 1048576) (hk0 : 0 ≤ k) (hk1 : k ≤ 1000000000000) :
    Calls Try.prog 32 #[.agg #[.int .i64 r, .int .i64 c, .slice A n cap], .int .i64 k] w (WV (.int .i64 (k + n)) (.slice A n cap) B (iota k n) w) := by
  have Hn := Lib.hid hn
  clear hn
  go_enter Try.func32, Try.ntmps32
  go_wp2_with (go_at_call 33; refine (laws_markIntS A n cap xs k _ B (h.alloc _) Hn.out hn2 hk0 hk1).mono ?_; rintro e w1 ⟨rfl, hown, hgr⟩)
  go_ret
  exact ⟨rfl, hown, only_trans (World.grownBy_alloc _ _ _) hgr⟩

end Go.Proofs.Ytlggfmfelakadaa

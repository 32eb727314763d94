/-
  DERIVED. The contracts of IsSquare, both; sums of rows.
-/
import Derived.Test.YtmcbhpaajjlmmaaRow2
namespace Go.Proofs.Ytmcbhpaajjlmmaa
open Go.RowKit
set_option linter.unusedVariables false
theorem sq_cases (r c : Int) (xs : List Int) : (isMat r c xs = false ∧ isSq r c xs = false) ∨ (isMat r c xs = true ∧ (r == c) = false ∧ isSq r c xs = false) ∨
    (isMat r c xs = true ∧ (r == c) = true ∧ 6 < r ∧ isSq r c xs = false) ∨ (isMat r c xs = true ∧ (r == c) = true ∧ r ≤ 6 ∧ isSq r c xs = true) := by
  unfold isSq
  rcases hm : isMat r c xs with _ | _
  · left; simp
  · right
    by_cases hrc : r = c
    · right
      by_cases h6 : 6 < r
      · left; simp [hrc] at *; omega
      · right; simp [hrc] at *; omega
    · left; simp [hrc]
theorem impl_IsSquare (r c : Int) (A : Option Addr) (n cap : Nat) (xs : List Int) (w : World) {B : Nat} (h : RI w B A n xs) (hB : B ≤ w.heap.size) (hn : n ≤ 1048576) :
    Calls Try.prog 167 #[.agg #[.int .i64 r, .int .i64 c, .slice A n cap]] w (BV (.bool (isSq r c xs)) w) := by
  have H2 := Lib.hid (h.more hB)
  clear h
  rcases sq_cases r c xs with ⟨hm, hr⟩ | ⟨hm, h1, hr⟩ | ⟨hm, h1, h2, hr⟩ | ⟨hm, h1, h2, hr⟩
  all_goals
    rw [hr]
    have HM := Lib.hid hm
    clear hm hr
    go_enter Try.func167, Try.ntmps167
    go_wp2_with (first | (go_at_call 100; refine (impl_IsMatrix r c A n cap xs _ (C := w.heap.size) (by (repeat (first | (with_reducible exact H2.out) | (with_reducible refine RI.drew ?_) | (with_reducible refine RI.drewN ?_ _) | (with_reducible refine RI.alloc ?_ (by first | omega | (simp; done) | (simp; omega)) _) | (with_reducible refine RI.setCell ?_ (by first | omega | (simp; done) | (simp; omega)) _) | (with_reducible refine RI.below ?_ (by assumption) (by first | omega | (simp; done) | (simp; omega)))))) (by first | omega | (simp; done) | (simp; omega)) hn).mono ?_; rw [HM.out]; rintro e w1 ⟨rfl, hb⟩; have hz := hb.size; (try simp at hz); have kk := bkeep (w := w) hb (by first | omega | (simp; done) | (simp; omega)); obtain ⟨kc, kf⟩ := kk; (try (have kk := bkeepb (w.heap.size) hb (by first | omega | (simp; done) | (simp; omega)); obtain ⟨kc0, kf0, kl0⟩ := kk)); (try (have kk := bkeepb (w.heap.size + 1) hb (by first | omega | (simp; done) | (simp; omega)); obtain ⟨kc1, kf1, kl1⟩ := kk)); (try (have kk := bkeepb (w.heap.size + 1 + 1) hb (by first | omega | (simp; done) | (simp; omega)); obtain ⟨kc2, kf2, kl2⟩ := kk)); (try (have kk := bkeepb (w.heap.size + 1 + 1 + 1) hb (by first | omega | (simp; done) | (simp; omega)); obtain ⟨kc3, kf3, kl3⟩ := kk)); (try (have kk := bkeepb (wr.heap.size) hb (by first | omega | (simp; done) | (simp; omega)); obtain ⟨kr0, ks0, kt0⟩ := kk)); (try (have kk := bkeepb (wr.heap.size + 1) hb (by first | omega | (simp; done) | (simp; omega)); obtain ⟨kr1, ks1, kt1⟩ := kk)); (try (have kk := bkeepb (wr.heap.size + 1 + 1) hb (by first | omega | (simp; done) | (simp; omega)); obtain ⟨kr2, ks2, kt2⟩ := kk))))
    go_ret
    first | exact BV.mk rfl (by (repeat (first | (with_reducible exact Below.refl _ _) | (with_reducible assumption) | (with_reducible refine below_drewN ?_ _) | (with_reducible refine Below.drew ?_) | (with_reducible refine Below.alloc ?_ ?_ _) | (with_reducible refine Below.setCell ?_ ?_ _) | (with_reducible refine below_into ?_ (by assumption) (by first | omega | (simp; done) | (simp; omega))) | go_size))) | exact BV.mk (vbool (show decide (r ≤ 6) = _ by simp; omega)) (by (repeat (first | (with_reducible exact Below.refl _ _) | (with_reducible assumption) | (with_reducible refine below_drewN ?_ _) | (with_reducible refine Below.drew ?_) | (with_reducible refine Below.alloc ?_ ?_ _) | (with_reducible refine Below.setCell ?_ ?_ _) | (with_reducible refine below_into ?_ (by assumption) (by first | omega | (simp; done) | (simp; omega))) | go_size)))
theorem spec_IsSquare (r c : Int) (A : Option Addr) (n cap : Nat) (xs : List Int) (w : World) {B : Nat} (h : RI w B A n xs) (hB : B ≤ w.heap.size) (hn : n ≤ 1048576) :
    Calls Try.prog 168 #[.agg #[.int .i64 r, .int .i64 c, .slice A n cap]] w (BV (.bool (isSq r c xs)) w) := by
  have H2 := Lib.hid (h.more hB)
  clear h
  rcases sq_cases r c xs with ⟨hm, hr⟩ | ⟨hm, h1, hr⟩ | ⟨hm, h1, h2, hr⟩ | ⟨hm, h1, h2, hr⟩
  all_goals
    rw [hr]
    have HM := Lib.hid hm
    clear hm hr
    go_enter Try.func168, Try.ntmps168
    go_wp2_with (first | (go_at_call 113; refine (spec_IsMatrix r c A n cap xs _ (C := w.heap.size) (by (repeat (first | (with_reducible exact H2.out) | (with_reducible refine RI.drew ?_) | (with_reducible refine RI.drewN ?_ _) | (with_reducible refine RI.alloc ?_ (by first | omega | (simp; done) | (simp; omega)) _) | (with_reducible refine RI.setCell ?_ (by first | omega | (simp; done) | (simp; omega)) _) | (with_reducible refine RI.below ?_ (by assumption) (by first | omega | (simp; done) | (simp; omega)))))) (by first | omega | (simp; done) | (simp; omega)) hn).mono ?_; rw [HM.out]; rintro e w1 ⟨rfl, hb⟩; have hz := hb.size; (try simp at hz); have kk := bkeep (w := w) hb (by first | omega | (simp; done) | (simp; omega)); obtain ⟨kc, kf⟩ := kk; (try (have kk := bkeepb (w.heap.size) hb (by first | omega | (simp; done) | (simp; omega)); obtain ⟨kc0, kf0, kl0⟩ := kk)); (try (have kk := bkeepb (w.heap.size + 1) hb (by first | omega | (simp; done) | (simp; omega)); obtain ⟨kc1, kf1, kl1⟩ := kk)); (try (have kk := bkeepb (w.heap.size + 1 + 1) hb (by first | omega | (simp; done) | (simp; omega)); obtain ⟨kc2, kf2, kl2⟩ := kk)); (try (have kk := bkeepb (w.heap.size + 1 + 1 + 1) hb (by first | omega | (simp; done) | (simp; omega)); obtain ⟨kc3, kf3, kl3⟩ := kk)); (try (have kk := bkeepb (wr.heap.size) hb (by first | omega | (simp; done) | (simp; omega)); obtain ⟨kr0, ks0, kt0⟩ := kk)); (try (have kk := bkeepb (wr.heap.size + 1) hb (by first | omega | (simp; done) | (simp; omega)); obtain ⟨kr1, ks1, kt1⟩ := kk)); (try (have kk := bkeepb (wr.heap.size + 1 + 1) hb (by first | omega | (simp; done) | (simp; omega)); obtain ⟨kr2, ks2, kt2⟩ := kk))))
    go_ret
    first | exact BV.mk rfl (by (repeat (first | (with_reducible exact Below.refl _ _) | (with_reducible assumption) | (with_reducible refine below_drewN ?_ _) | (with_reducible refine Below.drew ?_) | (with_reducible refine Below.alloc ?_ ?_ _) | (with_reducible refine Below.setCell ?_ ?_ _) | (with_reducible refine below_into ?_ (by assumption) (by first | omega | (simp; done) | (simp; omega))) | go_size))) | exact BV.mk (vbool (show decide (r ≤ 6) = _ by simp; omega)) (by (repeat (first | (with_reducible exact Below.refl _ _) | (with_reducible assumption) | (with_reducible refine below_drewN ?_ _) | (with_reducible refine Below.drew ?_) | (with_reducible refine Below.alloc ?_ ?_ _) | (with_reducible refine Below.setCell ?_ ?_ _) | (with_reducible refine below_into ?_ (by assumption) (by first | omega | (simp; done) | (simp; omega))) | go_size)))
structure IsS (r c : Int) (xs : List Int) : Prop where
  m : IsM r c xs
  e : r = c
  le : r ≤ 6
theorem isSq_iff {r c : Int} {xs : List Int} : isSq r c xs = true ↔ IsS r c xs := by
  simp only [isSq, Bool.and_eq_true, decide_eq_true_eq, isMat_iff]
  exact ⟨fun ⟨⟨h1, h2⟩, h3⟩ => ⟨h1, h2, h3⟩, fun ⟨h1, h2, h3⟩ => ⟨⟨h1, h2⟩, h3⟩⟩
/-- The sum of the absolute values of the first j numbers. -/
def absSum (l : List Int) : Nat → Int
  | 0 => 0
  | j + 1 => absSum l j + (l.getD j 0).natAbs
theorem absSum_bd {l : List Int} (h : ∀ k, -400000000 ≤ l.getD k 0 ∧ l.getD k 0 ≤ 400000000) : ∀ j : Nat, 0 ≤ absSum l j ∧ absSum l j ≤ 400000000 * j
  | 0 => by simp [absSum]
  | j + 1 => by
    have h1 := absSum_bd h j
    have h2 := h j
    unfold absSum
    omega
theorem absSum_mono {l : List Int} (h : ∀ k, -400000000 ≤ l.getD k 0 ∧ l.getD k 0 ≤ 400000000) (j : Nat) : absSum l j ≤ absSum l (j + 1) := by
  show _ ≤ absSum l j + _
  omega
/-- The product of the sums, while all stays within the limit. -/
def bndI (p : Int) : List Int → Option Int
  | [] => some p
  | s :: l => if isNum s = true ∧ isNum (p * s) = true then bndI (p * s) l else none
def rowSums (xs : List Int) (C : Nat) (R : Nat) : List Int := (List.range R).map fun i => absSum (rowL xs C i) C
def bndRes (r c : Int) (xs : List Int) : Option Int := if isSq r c xs then bndI 1 (rowSums xs c.toNat r.toNat) else none
def optV : Option Int → Value
  | none => .tuple #[.int .i64 0, .bool false]
  | some n => .tuple #[.int .i64 n, .bool true]
theorem rowSums_drop {xs : List Int} {C R i : Nat} (h : i < R) : (rowSums xs C R).drop i = absSum (rowL xs C i) C :: (rowSums xs C R).drop (i + 1) := by
  rw [List.drop_eq_getElem_cons (by simp [rowSums]; exact h)]
  simp [rowSums]
theorem rowSums_end (xs : List Int) (C R : Nat) : (rowSums xs C R).drop R = [] := by
  apply List.drop_of_length_le; simp [rowSums]
end Go.Proofs.Ytmcbhpaajjlmmaa

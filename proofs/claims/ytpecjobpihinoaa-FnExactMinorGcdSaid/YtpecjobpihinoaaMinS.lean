/-
  DERIVED. The greatest common divisor of the minors: its plain form; MinorGcd of the reference.
-/
import Derived.Test.YtpecjobpihinoaaMinP
namespace Go.Proofs.Ytpecjobpihinoaa
open Go.RowKit
set_option linter.unusedVariables false
set_option linter.unusedSimpArgs false
def mgK (D : Nat → Option Int) : Nat → Option Int
  | 0 => some 0
  | q + 1 => (mgK D q).bind fun g => (D q).bind fun d => some (Int.gcd g d : Nat)
theorem mgK_next {D : Nat → Option Int} {q : Nat} {g d : Int} (h : mgK D q = some g) (hd : D q = some d) : mgK D (q + 1) = some (Int.gcd g d : Nat) := by
  show (mgK D q).bind _ = _
  rw [h]
  show (D q).bind _ = _
  rw [hd]; rfl
theorem mgK_bad {D : Nat → Option Int} {q : Nat} (hd : D q = none) : ∀ p, q < p → mgK D p = none
  | 0, h => absurd h (Nat.not_lt_zero _)
  | p + 1, h => by
    show (mgK D p).bind _ = _
    rcases Nat.lt_or_ge q p with h1 | h1
    · rw [mgK_bad hd p h1]; rfl
    · obtain rfl : q = p := by omega
      rcases mgK D q with _ | g
      · rfl
      · show (D q).bind _ = _
        rw [hd]; rfl
theorem gcd_bdM {g d : Int} (hg : 0 ≤ g ∧ g ≤ 400000000) (hd : -400000000 ≤ d ∧ d ≤ 400000000) : 0 ≤ ((Int.gcd g d : Nat) : Int) ∧ ((Int.gcd g d : Nat) : Int) ≤ 400000000 := by
  refine ⟨Int.natCast_nonneg _, ?_⟩
  by_cases h0 : g = 0
  · subst h0
    simp only [Int.gcd_zero_left]
    omega
  · have := Nat.le_of_dvd (show 0 < g.natAbs by omega) (Int.gcd_dvd_natAbs_left g d)
    omega
/-- The minors in order. -/
def mgD (r c : Int) (xs : List Int) (k : Nat) (q : Nat) : Option Int :=
  detL k (tb k k (pF xs c.toNat ((chL r k).getD (q / (chL c k).length) []) ((chL c k).getD (q % (chL c k).length) [])))
def mgB (r c : Int) (xs : List Int) (k : Int) : Bool := isMat r c xs && decide (r ≤ 6) && decide (c ≤ 6) && decide (0 ≤ k) && decide (k ≤ min r c)
def mgO (r c : Int) (xs : List Int) (k : Int) : Option Int := if mgB r c xs k then mgK (mgD r c xs k.toNat) ((chL r k.toNat).length * (chL c k.toNat).length) else none
theorem mg_cases (r c : Int) (xs : List Int) (k : Int) : (mgO r c xs k = none ∧ isMat r c xs = false) ∨ (mgO r c xs k = none ∧ isMat r c xs = true ∧ 6 < r) ∨ (mgO r c xs k = none ∧ isMat r c xs = true ∧ r ≤ 6 ∧ 6 < c) ∨
    (mgO r c xs k = none ∧ isMat r c xs = true ∧ r ≤ 6 ∧ c ≤ 6 ∧ k < 0) ∨ (mgO r c xs k = none ∧ isMat r c xs = true ∧ r ≤ 6 ∧ c ≤ 6 ∧ 0 ≤ k ∧ min r c < k) ∨
    (mgO r c xs k = mgK (mgD r c xs k.toNat) ((chL r k.toNat).length * (chL c k.toNat).length) ∧ isMat r c xs = true ∧ r ≤ 6 ∧ c ≤ 6 ∧ 0 ≤ k ∧ k ≤ min r c) := by
  unfold mgO mgB
  rcases isMat r c xs with _ | _
  · exact .inl ⟨rfl, rfl⟩
  · by_cases h1 : r ≤ 6
    · by_cases h2 : c ≤ 6
      · by_cases h3 : 0 ≤ k
        · by_cases h4 : k ≤ min r c
          · right; right; right; right; right
            simp only [h1, h2, h3, h4, decide_true, Bool.and_self, if_true, and_self]
          · right; right; right; right; left
            simp only [h1, h2, h3, h4, decide_true, decide_false, Bool.and_self, Bool.and_false, Bool.false_eq_true, if_false, true_and]
            omega
        · right; right; right; left
          simp only [h1, h2, h3, decide_true, decide_false, Bool.and_self, Bool.and_false, Bool.false_and, Bool.false_eq_true, if_false, true_and]
          omega
      · right; right; left
        simp only [h1, h2, decide_true, decide_false, Bool.and_self, Bool.and_false, Bool.false_and, Bool.false_eq_true, if_false, true_and]
        omega
    · right; left
      simp only [h1, decide_false, Bool.and_false, Bool.false_and, Bool.false_eq_true, if_false, true_and]
      omega
theorem mem_getDL {l : List (List Int)} {i : Nat} (h : i < l.length) : l.getD i [] ∈ l := by simp [List.getD, h]
set_option maxRecDepth 100000 in
set_option maxHeartbeats 8000000 in
theorem spec_MinorGcd_no (r c k : Int) (A : Option Addr) (n cap : Nat) (xs : List Int) (w : World) {B : Nat} (h : RI w B A n xs) (hB : B ≤ w.heap.size) (hn : n ≤ 1048576)
    (hno : isMat r c xs = false ∨ (isMat r c xs = true ∧ 6 < r) ∨ (isMat r c xs = true ∧ r ≤ 6 ∧ 6 < c) ∨ (isMat r c xs = true ∧ r ≤ 6 ∧ c ≤ 6 ∧ k < 0) ∨ (isMat r c xs = true ∧ r ≤ 6 ∧ c ≤ 6 ∧ 0 ≤ k ∧ min r c < k)) :
    Calls Try.prog 28 #[.agg #[.int .i64 r, .int .i64 c, .slice A n cap], .int .i64 k] w (ODV none w) := by
  have H2 := Lib.hid (h.more hB)
  clear h
  rcases hno with hm | ⟨hm, h1⟩ | ⟨hm, h1, h2⟩ | ⟨hm, h1, h2, h3⟩ | ⟨hm, h1, h2, h3, h4⟩
  · have HM := Lib.hid hm
    clear hm
    go_enter Try.func28, Try.ntmps28
    go_wp2_with fail
    refine (spec_IsMatrix r c A n cap xs _ (C := w.heap.size) (by (repeat (first | (with_reducible exact H2.out) | (with_reducible refine RI.drew ?_) | (with_reducible refine RI.drewN ?_ _) | (with_reducible refine RI.alloc ?_ (by first | omega | (simp; done) | (simp; omega)) _) | (with_reducible refine RI.setCell ?_ (by first | omega | (simp; done) | (simp; omega)) _) | (with_reducible refine RI.below ?_ (by assumption) (by first | omega | (simp; done) | (simp; omega)))))) (by first | omega | (simp; done) | (simp; omega)) hn).mono ?_
    rw [HM.out]
    rintro e w1 ⟨rfl, hb1⟩
    have hsz1 := hb1.size
    (try simp at hsz1)
    have hM : BM w1 w.heap.size r c A n cap := by (repeat (first | (with_reducible assumption) | (with_reducible refine BX.new _ _ _ _ _ _ _ _ (by first | omega | (simp; done) | (simp; omega))) | (with_reducible refine BX.below ?_ (by assumption) (by first | omega | (simp; done) | (simp; omega))) | (with_reducible apply BX.drew) | (with_reducible apply BX.drewN) | (with_reducible refine BX.put ?_) | (with_reducible refine BX.put2 ?_) | (with_reducible refine BX.far ?_ (by simp only [ne_eq]; omega) _) | (with_reducible apply BX.alloc) | (with_reducible refine B3.new _ _ _ _ _ _ (by first | omega | (simp; done) | (simp; omega))) | (with_reducible refine B3.of (by assumption)) | (with_reducible refine B3.below ?_ (by assumption) (by first | omega | (simp; done) | (simp; omega))) | (with_reducible apply B3.drew) | (with_reducible apply B3.drewN) | (with_reducible refine B3.far ?_ (by simp only [ne_eq]; omega) _) | (with_reducible apply B3.alloc)))
    have hbw : Below w.heap.size w w1 := by (repeat (first | (with_reducible exact Below.refl _ _) | (with_reducible assumption) | (with_reducible refine below_drewN ?_ _) | (with_reducible refine Below.drew ?_) | (with_reducible refine Below.alloc ?_ ?_ _) | (with_reducible refine Below.setCell ?_ ?_ _) | (with_reducible refine below_into ?_ (by assumption) (by first | omega | (simp; done) | (simp; omega))) | go_size))
    obtain ⟨ma, mb, mc, mf, ml⟩ := hM.mx
    go_wp2_with fail
    go_ret2
    exact ⟨rfl, by (repeat (first | (with_reducible exact Below.refl _ _) | (with_reducible assumption) | (with_reducible refine below_drewN ?_ _) | (with_reducible refine Below.drew ?_) | (with_reducible refine Below.alloc ?_ ?_ _) | (with_reducible refine Below.setCell ?_ ?_ _) | (with_reducible refine below_into ?_ (by assumption) (by first | omega | (simp; done) | (simp; omega))) | go_size))⟩
  · have HM := Lib.hid hm
    clear hm
    go_enter Try.func28, Try.ntmps28
    go_wp2_with fail
    refine (spec_IsMatrix r c A n cap xs _ (C := w.heap.size) (by (repeat (first | (with_reducible exact H2.out) | (with_reducible refine RI.drew ?_) | (with_reducible refine RI.drewN ?_ _) | (with_reducible refine RI.alloc ?_ (by first | omega | (simp; done) | (simp; omega)) _) | (with_reducible refine RI.setCell ?_ (by first | omega | (simp; done) | (simp; omega)) _) | (with_reducible refine RI.below ?_ (by assumption) (by first | omega | (simp; done) | (simp; omega)))))) (by first | omega | (simp; done) | (simp; omega)) hn).mono ?_
    rw [HM.out]
    rintro e w1 ⟨rfl, hb1⟩
    have hsz1 := hb1.size
    (try simp at hsz1)
    have hM : BM w1 w.heap.size r c A n cap := by (repeat (first | (with_reducible assumption) | (with_reducible refine BX.new _ _ _ _ _ _ _ _ (by first | omega | (simp; done) | (simp; omega))) | (with_reducible refine BX.below ?_ (by assumption) (by first | omega | (simp; done) | (simp; omega))) | (with_reducible apply BX.drew) | (with_reducible apply BX.drewN) | (with_reducible refine BX.put ?_) | (with_reducible refine BX.put2 ?_) | (with_reducible refine BX.far ?_ (by simp only [ne_eq]; omega) _) | (with_reducible apply BX.alloc) | (with_reducible refine B3.new _ _ _ _ _ _ (by first | omega | (simp; done) | (simp; omega))) | (with_reducible refine B3.of (by assumption)) | (with_reducible refine B3.below ?_ (by assumption) (by first | omega | (simp; done) | (simp; omega))) | (with_reducible apply B3.drew) | (with_reducible apply B3.drewN) | (with_reducible refine B3.far ?_ (by simp only [ne_eq]; omega) _) | (with_reducible apply B3.alloc)))
    have hbw : Below w.heap.size w w1 := by (repeat (first | (with_reducible exact Below.refl _ _) | (with_reducible assumption) | (with_reducible refine below_drewN ?_ _) | (with_reducible refine Below.drew ?_) | (with_reducible refine Below.alloc ?_ ?_ _) | (with_reducible refine Below.setCell ?_ ?_ _) | (with_reducible refine below_into ?_ (by assumption) (by first | omega | (simp; done) | (simp; omega))) | go_size))
    obtain ⟨ma, mb, mc, mf, ml⟩ := hM.mx
    go_wp2_with fail
    go_ret2
    exact ⟨rfl, by (repeat (first | (with_reducible exact Below.refl _ _) | (with_reducible assumption) | (with_reducible refine below_drewN ?_ _) | (with_reducible refine Below.drew ?_) | (with_reducible refine Below.alloc ?_ ?_ _) | (with_reducible refine Below.setCell ?_ ?_ _) | (with_reducible refine below_into ?_ (by assumption) (by first | omega | (simp; done) | (simp; omega))) | go_size))⟩
  · have HM := Lib.hid hm
    clear hm
    go_enter Try.func28, Try.ntmps28
    go_wp2_with fail
    refine (spec_IsMatrix r c A n cap xs _ (C := w.heap.size) (by (repeat (first | (with_reducible exact H2.out) | (with_reducible refine RI.drew ?_) | (with_reducible refine RI.drewN ?_ _) | (with_reducible refine RI.alloc ?_ (by first | omega | (simp; done) | (simp; omega)) _) | (with_reducible refine RI.setCell ?_ (by first | omega | (simp; done) | (simp; omega)) _) | (with_reducible refine RI.below ?_ (by assumption) (by first | omega | (simp; done) | (simp; omega)))))) (by first | omega | (simp; done) | (simp; omega)) hn).mono ?_
    rw [HM.out]
    rintro e w1 ⟨rfl, hb1⟩
    have hsz1 := hb1.size
    (try simp at hsz1)
    have hM : BM w1 w.heap.size r c A n cap := by (repeat (first | (with_reducible assumption) | (with_reducible refine BX.new _ _ _ _ _ _ _ _ (by first | omega | (simp; done) | (simp; omega))) | (with_reducible refine BX.below ?_ (by assumption) (by first | omega | (simp; done) | (simp; omega))) | (with_reducible apply BX.drew) | (with_reducible apply BX.drewN) | (with_reducible refine BX.put ?_) | (with_reducible refine BX.put2 ?_) | (with_reducible refine BX.far ?_ (by simp only [ne_eq]; omega) _) | (with_reducible apply BX.alloc) | (with_reducible refine B3.new _ _ _ _ _ _ (by first | omega | (simp; done) | (simp; omega))) | (with_reducible refine B3.of (by assumption)) | (with_reducible refine B3.below ?_ (by assumption) (by first | omega | (simp; done) | (simp; omega))) | (with_reducible apply B3.drew) | (with_reducible apply B3.drewN) | (with_reducible refine B3.far ?_ (by simp only [ne_eq]; omega) _) | (with_reducible apply B3.alloc)))
    have hbw : Below w.heap.size w w1 := by (repeat (first | (with_reducible exact Below.refl _ _) | (with_reducible assumption) | (with_reducible refine below_drewN ?_ _) | (with_reducible refine Below.drew ?_) | (with_reducible refine Below.alloc ?_ ?_ _) | (with_reducible refine Below.setCell ?_ ?_ _) | (with_reducible refine below_into ?_ (by assumption) (by first | omega | (simp; done) | (simp; omega))) | go_size))
    obtain ⟨ma, mb, mc, mf, ml⟩ := hM.mx
    go_wp2_with fail
    go_ret2
    exact ⟨rfl, by (repeat (first | (with_reducible exact Below.refl _ _) | (with_reducible assumption) | (with_reducible refine below_drewN ?_ _) | (with_reducible refine Below.drew ?_) | (with_reducible refine Below.alloc ?_ ?_ _) | (with_reducible refine Below.setCell ?_ ?_ _) | (with_reducible refine below_into ?_ (by assumption) (by first | omega | (simp; done) | (simp; omega))) | go_size))⟩
  · have HM := Lib.hid hm
    clear hm
    go_enter Try.func28, Try.ntmps28
    go_wp2_with fail
    refine (spec_IsMatrix r c A n cap xs _ (C := w.heap.size) (by (repeat (first | (with_reducible exact H2.out) | (with_reducible refine RI.drew ?_) | (with_reducible refine RI.drewN ?_ _) | (with_reducible refine RI.alloc ?_ (by first | omega | (simp; done) | (simp; omega)) _) | (with_reducible refine RI.setCell ?_ (by first | omega | (simp; done) | (simp; omega)) _) | (with_reducible refine RI.below ?_ (by assumption) (by first | omega | (simp; done) | (simp; omega)))))) (by first | omega | (simp; done) | (simp; omega)) hn).mono ?_
    rw [HM.out]
    rintro e w1 ⟨rfl, hb1⟩
    have hsz1 := hb1.size
    (try simp at hsz1)
    have hM : BM w1 w.heap.size r c A n cap := by (repeat (first | (with_reducible assumption) | (with_reducible refine BX.new _ _ _ _ _ _ _ _ (by first | omega | (simp; done) | (simp; omega))) | (with_reducible refine BX.below ?_ (by assumption) (by first | omega | (simp; done) | (simp; omega))) | (with_reducible apply BX.drew) | (with_reducible apply BX.drewN) | (with_reducible refine BX.put ?_) | (with_reducible refine BX.put2 ?_) | (with_reducible refine BX.far ?_ (by simp only [ne_eq]; omega) _) | (with_reducible apply BX.alloc) | (with_reducible refine B3.new _ _ _ _ _ _ (by first | omega | (simp; done) | (simp; omega))) | (with_reducible refine B3.of (by assumption)) | (with_reducible refine B3.below ?_ (by assumption) (by first | omega | (simp; done) | (simp; omega))) | (with_reducible apply B3.drew) | (with_reducible apply B3.drewN) | (with_reducible refine B3.far ?_ (by simp only [ne_eq]; omega) _) | (with_reducible apply B3.alloc)))
    have hbw : Below w.heap.size w w1 := by (repeat (first | (with_reducible exact Below.refl _ _) | (with_reducible assumption) | (with_reducible refine below_drewN ?_ _) | (with_reducible refine Below.drew ?_) | (with_reducible refine Below.alloc ?_ ?_ _) | (with_reducible refine Below.setCell ?_ ?_ _) | (with_reducible refine below_into ?_ (by assumption) (by first | omega | (simp; done) | (simp; omega))) | go_size))
    obtain ⟨ma, mb, mc, mf, ml⟩ := hM.mx
    go_wp2_with (go_at_call 76; refine (spec_l1In_no _ _ _ _ (by omega)).mono ?_; rintro e w' ⟨rfl, rfl⟩)
    all_goals go_ret2
    all_goals exact ⟨rfl, by (repeat (first | (with_reducible exact Below.refl _ _) | (with_reducible assumption) | (with_reducible refine below_drewN ?_ _) | (with_reducible refine Below.drew ?_) | (with_reducible refine Below.alloc ?_ ?_ _) | (with_reducible refine Below.setCell ?_ ?_ _) | (with_reducible refine below_into ?_ (by assumption) (by first | omega | (simp; done) | (simp; omega))) | go_size))⟩
  · have HM := Lib.hid hm
    clear hm
    go_enter Try.func28, Try.ntmps28
    go_wp2_with fail
    refine (spec_IsMatrix r c A n cap xs _ (C := w.heap.size) (by (repeat (first | (with_reducible exact H2.out) | (with_reducible refine RI.drew ?_) | (with_reducible refine RI.drewN ?_ _) | (with_reducible refine RI.alloc ?_ (by first | omega | (simp; done) | (simp; omega)) _) | (with_reducible refine RI.setCell ?_ (by first | omega | (simp; done) | (simp; omega)) _) | (with_reducible refine RI.below ?_ (by assumption) (by first | omega | (simp; done) | (simp; omega)))))) (by first | omega | (simp; done) | (simp; omega)) hn).mono ?_
    rw [HM.out]
    rintro e w1 ⟨rfl, hb1⟩
    have hsz1 := hb1.size
    (try simp at hsz1)
    have hM : BM w1 w.heap.size r c A n cap := by (repeat (first | (with_reducible assumption) | (with_reducible refine BX.new _ _ _ _ _ _ _ _ (by first | omega | (simp; done) | (simp; omega))) | (with_reducible refine BX.below ?_ (by assumption) (by first | omega | (simp; done) | (simp; omega))) | (with_reducible apply BX.drew) | (with_reducible apply BX.drewN) | (with_reducible refine BX.put ?_) | (with_reducible refine BX.put2 ?_) | (with_reducible refine BX.far ?_ (by simp only [ne_eq]; omega) _) | (with_reducible apply BX.alloc) | (with_reducible refine B3.new _ _ _ _ _ _ (by first | omega | (simp; done) | (simp; omega))) | (with_reducible refine B3.of (by assumption)) | (with_reducible refine B3.below ?_ (by assumption) (by first | omega | (simp; done) | (simp; omega))) | (with_reducible apply B3.drew) | (with_reducible apply B3.drewN) | (with_reducible refine B3.far ?_ (by simp only [ne_eq]; omega) _) | (with_reducible apply B3.alloc)))
    have hbw : Below w.heap.size w w1 := by (repeat (first | (with_reducible exact Below.refl _ _) | (with_reducible assumption) | (with_reducible refine below_drewN ?_ _) | (with_reducible refine Below.drew ?_) | (with_reducible refine Below.alloc ?_ ?_ _) | (with_reducible refine Below.setCell ?_ ?_ _) | (with_reducible refine below_into ?_ (by assumption) (by first | omega | (simp; done) | (simp; omega))) | go_size))
    obtain ⟨ma, mb, mc, mf, ml⟩ := hM.mx
    go_wp2_with (go_at_call 76; refine (spec_l1In_no _ _ _ _ (by omega)).mono ?_; rintro e w' ⟨rfl, rfl⟩)
    all_goals go_ret2
    all_goals exact ⟨rfl, by (repeat (first | (with_reducible exact Below.refl _ _) | (with_reducible assumption) | (with_reducible refine below_drewN ?_ _) | (with_reducible refine Below.drew ?_) | (with_reducible refine Below.alloc ?_ ?_ _) | (with_reducible refine Below.setCell ?_ ?_ _) | (with_reducible refine below_into ?_ (by assumption) (by first | omega | (simp; done) | (simp; omega))) | go_size))⟩
theorem OT.row {w : World} {B n c : Nat} {A : Option Addr} {vs : List Value} {rs : List (List Int)} (hO : OT w B (.slice A n c) vs) (hR : Rwx w B (.slice A n c) vs rs) {i : Nat} (hi : i < rs.length) :
    ∃ g A' m c', A = some ⟨g, 0, none⟩ ∧ g < w.heap.size ∧ w.cell? ⟨g, i, none⟩ = some (.slice A' m c') ∧ RI w w.heap.size A' m (rs.getD i []) := by
  obtain ⟨A', m, c', e1, hri, _⟩ := hR.2 i hi
  have hv : i < vs.length := by have := hR.1; omega
  rcases hO.form with ⟨h1, h2⟩ | ⟨g, cap, h1, h2, h3, _⟩
  · subst h2; exact absurd hv (Nat.not_lt_zero _)
  · injection h1 with e2 e3 e4
    subst e2
    exact ⟨g, A', m, c', rfl, h3, (hO.cell i hv).trans e1, hri⟩
theorem OT.lenN {w : World} {B n c : Nat} {A : Option Addr} {vs : List Value} {rs : List (List Int)} (hO : OT w B (.slice A n c) vs) (hR : Rwx w B (.slice A n c) vs rs) : n = rs.length := by
  rcases hO.form with ⟨h1, h2⟩ | ⟨g, cap, h1, h2, h3, _⟩
  · injection h1 with e2 e3 e4; subst h2; have := hR.1; simp at this; omega
  · injection h1 with e2 e3 e4; have := hR.1; omega
theorem pF_num {xs : List Int} {C k : Nat} {rs cs : List Int} (h : xs.all isNum = true) : (tb k k (pF xs C rs cs)).all isNum = true := by
  rw [List.all_eq_true]
  exact tb_mem (P := fun x => isNum x = true) (fun i j _ _ => (getD_num h _).isN)
set_option maxRecDepth 100000 in
set_option maxHeartbeats 8000000 in
theorem spec_MinorGcd_yes (r c k : Int) (A : Option Addr) (n cap : Nat) (xs : List Int) (w : World) {B : Nat} (h : RI w B A n xs) (hB : B ≤ w.heap.size) (hn : n ≤ 1048576)
    (hm : isMat r c xs = true) (h1 : r ≤ 6) (h2 : c ≤ 6) (h3 : 0 ≤ k) (h4 : k ≤ min r c) :
    Calls Try.prog 28 #[.agg #[.int .i64 r, .int .i64 c, .slice A n cap], .int .i64 k] w (ODV (mgK (mgD r c xs k.toNat) ((chL r k.toNat).length * (chL c k.toNat).length)) w) := by
  have H2 := Lib.hid (h.more hB)
  clear h
  have M := isMat_iff.1 hm
  obtain ⟨R, rfl⟩ := nat_of M.r0
  obtain ⟨C, rfl⟩ := nat_of M.c0
  obtain ⟨K, rfl⟩ := nat_of h3
  have HLX : Hid (xs.length = R * C) := Lib.hid (by have := M.len; rw [← Int.natCast_mul] at this; omega)
  have HNU := Lib.hid M.num
  have HM := Lib.hid hm
  have hR6 : R ≤ 6 := by omega
  have hC6 : C ≤ 6 := by omega
  have hKR : K ≤ R := by omega
  have hKC : K ≤ C := by omega
  simp only [Int.toNat_natCast]
  have HX1 := Lib.hid (chL_mem (n := (R : Int)) (Int.natCast_nonneg R) K)
  have HX2 := Lib.hid (chL_mem (n := (C : Int)) (Int.natCast_nonneg C) K)
  have HN1 : Hid ((chL (R : Int) K).length ≤ 46656) := Lib.hid (Nat.le_trans (chL_len hR6 K) (pow6 (by omega)))
  have HN2 : Hid ((chL (C : Int) K).length ≤ 46656) := Lib.hid (Nat.le_trans (chL_len hC6 K) (pow6 (by omega)))
  have HDB : Hid (∀ q d, mgD R C xs K q = some d → -400000000 ≤ d ∧ d ≤ 400000000) := Lib.hid (fun q d hd => detL_num _ _ _ hd)
  have HDQ : Hid (∀ i j, j < (chL (C : Int) K).length → detL K (tb K K (pF xs C ((chL (R : Int) K).getD i []) ((chL (C : Int) K).getD j []))) = mgD R C xs K (i * (chL (C : Int) K).length + j)) := Lib.hid (fun i j hj => by
    obtain ⟨e1, e2⟩ := idx_div (i := i) hj
    unfold mgD
    rw [e1, e2, Int.toNat_natCast])
  have HPART : Hid (∀ i j, i < (chL (R : Int) K).length → j < (chL (C : Int) K).length → ∀ (w' : World) (Ar Ac : Option Addr) (nr capr nc capc : Nat) (Br : Nat), RI w' w.heap.size A n xs → w.heap.size ≤ w'.heap.size → RI w' Br Ar nr ((chL (R : Int) K).getD i []) → RI w' Br Ac nc ((chL (C : Int) K).getD j []) → Br ≤ w'.heap.size →
      Calls Try.prog 79 #[.agg #[.int .i64 R, .int .i64 C, .slice A n cap], .slice Ar nr capr, .slice Ac nc capc] w' (MR ⟨K, K, tb K K (pF xs C ((chL (R : Int) K).getD i []) ((chL (C : Int) K).getD j []))⟩ w')) := Lib.hid (fun i j hi hj w' Ar Ac nr capr nc capc Br k1 k2 k3 k4 k5 => by
    have a1 := HX1.out _ (mem_getDL hi)
    have a2 := HX2.out _ (mem_getDL hj)
    exact spec_l13Part R C K A Ar Ac n cap nr capr nc capc xs _ _ w' k1 k2 k3 k5 k4 k5 HLX.out (by omega) (by omega) (by omega) a1.1 a2.1 a1.2 a2.2)
  have HDET : Hid (∀ i j, j < (chL (C : Int) K).length → ∀ (w' : World) (A5 : Option Addr) (n5 c5 : Nat) (B5 : Nat), RI w' B5 A5 n5 (tb K K (pF xs C ((chL (R : Int) K).getD i []) ((chL (C : Int) K).getD j []))) → B5 ≤ w'.heap.size →
      Calls Try.prog 78 #[.agg #[.int .i64 K, .int .i64 K, .slice A5 n5 c5]] w' (BV (.int .i64 (detV (mgD R C xs K (i * (chL (C : Int) K).length + j)))) w')) := Lib.hid (fun i j hj w' A5 n5 c5 B5 k1 k2 => by
    rw [← HDQ.out i j hj]
    exact spec_l6Det K A5 n5 c5 _ w' k1 k2 (tb_len _ _ _) (by omega) (pF_num HNU.out))
  have HS1 := Lib.hid (fun w' => spec_l13Subsets R hR6 K (by omega) w')
  have HS2 := Lib.hid (fun w' => spec_l13Subsets C hC6 K (by omega) w')
  clear h1 h2 h3 h4 hm M HX1 HX2 HLX HNU HDQ
  generalize mgD (R : Int) (C : Int) xs K = D at *
  generalize hF : (fun i j => tb K K (pF xs C ((chL (R : Int) K).getD i []) ((chL (C : Int) K).getD j []))) = F at *
  have HF : Hid (∀ i j, tb K K (pF xs C ((chL (R : Int) K).getD i []) ((chL (C : Int) K).getD j [])) = F i j) := Lib.hid (fun i j => by rw [← hF])
  clear hF
  simp only [HF.out] at HPART HDET
  clear HF
  generalize chL (R : Int) K = L1 at *
  generalize chL (C : Int) K = L2 at *
  obtain ⟨N1, hN1⟩ : ∃ m, m = L1.length := ⟨_, rfl⟩
  obtain ⟨N2, hN2⟩ : ∃ m, m = L2.length := ⟨_, rfl⟩
  rw [← hN1, ← hN2]
  rw [← hN1] at HPART HN1
  rw [← hN2] at HPART HDET HN2
  have HE1 := Lib.hid hN1
  have HE2 := Lib.hid hN2
  clear hN1 hN2
  go_enter Try.func28, Try.ntmps28
  go_wp2_with fail
  refine (spec_IsMatrix R C A n cap xs _ (C := w.heap.size) (by (repeat (first | (with_reducible exact H2.out) | (with_reducible refine RI.drew ?_) | (with_reducible refine RI.drewN ?_ _) | (with_reducible refine RI.alloc ?_ (by first | omega | (simp; done) | (simp; omega)) _) | (with_reducible refine RI.setCell ?_ (by first | omega | (simp; done) | (simp; omega)) _) | (with_reducible refine RI.below ?_ (by assumption) (by first | omega | (simp; done) | (simp; omega)))))) (by first | omega | (simp; done) | (simp; omega)) hn).mono ?_
  rw [HM.out]
  rintro e w1 ⟨rfl, hb1⟩
  have hsz1 := hb1.size
  (try simp at hsz1)
  have hM : BM w1 w.heap.size R C A n cap := by (repeat (first | (with_reducible assumption) | (with_reducible refine BX.new _ _ _ _ _ _ _ _ (by first | omega | (simp; done) | (simp; omega))) | (with_reducible refine BX.below ?_ (by assumption) (by first | omega | (simp; done) | (simp; omega))) | (with_reducible apply BX.drew) | (with_reducible apply BX.drewN) | (with_reducible refine BX.put ?_) | (with_reducible refine BX.put2 ?_) | (with_reducible refine BX.far ?_ (by simp only [ne_eq]; omega) _) | (with_reducible apply BX.alloc) | (with_reducible refine B3.new _ _ _ _ _ _ (by first | omega | (simp; done) | (simp; omega))) | (with_reducible refine B3.of (by assumption)) | (with_reducible refine B3.below ?_ (by assumption) (by first | omega | (simp; done) | (simp; omega))) | (with_reducible apply B3.drew) | (with_reducible apply B3.drewN) | (with_reducible refine B3.far ?_ (by simp only [ne_eq]; omega) _) | (with_reducible apply B3.alloc)))
  have hbw : Below w.heap.size w w1 := by (repeat (first | (with_reducible exact Below.refl _ _) | (with_reducible assumption) | (with_reducible refine below_drewN ?_ _) | (with_reducible refine Below.drew ?_) | (with_reducible refine Below.alloc ?_ ?_ _) | (with_reducible refine Below.setCell ?_ ?_ _) | (with_reducible refine below_into ?_ (by assumption) (by first | omega | (simp; done) | (simp; omega))) | go_size))
  obtain ⟨ma, mb, mc, mf, ml⟩ := hM.mx
  have hq6 : (6 < (R : Int)) = False := by simp; omega
  go_wp2_with (go_at_call 76; refine (spec_l1In_yes _ _ _ _ (by omega)).mono ?_; rintro e w' ⟨rfl, rfl⟩)
  all_goals (
    refine (HS1.out _).mono ?_
    rintro e w2 ⟨A1, n1, c1, vs1, rfl, hO1, hR1, hb2⟩
    have hsz2 := hb2.size
    have hM2 : BM w2 w.heap.size R C A n cap := by (repeat (first | (with_reducible exact hM) | (with_reducible refine BX.new _ _ _ _ _ _ _ _ (by first | omega | (simp; done) | (simp; omega))) | (with_reducible refine BX.below ?_ (by assumption) (by first | omega | (simp; done) | (simp; omega))) | (with_reducible apply BX.drew) | (with_reducible apply BX.drewN) | (with_reducible refine BX.put ?_) | (with_reducible refine BX.put2 ?_) | (with_reducible refine BX.far ?_ (by simp only [ne_eq]; omega) _) | (with_reducible apply BX.alloc) | (with_reducible refine B3.new _ _ _ _ _ _ (by first | omega | (simp; done) | (simp; omega))) | (with_reducible exact B3.of hM) | (with_reducible refine B3.below ?_ (by assumption) (by first | omega | (simp; done) | (simp; omega))) | (with_reducible apply B3.drew) | (with_reducible apply B3.drewN) | (with_reducible refine B3.far ?_ (by simp only [ne_eq]; omega) _) | (with_reducible apply B3.alloc)))
    have hbw2 : Below w.heap.size w w2 := by (repeat (first | (with_reducible exact Below.refl _ _) | (with_reducible assumption) | (with_reducible refine below_drewN ?_ _) | (with_reducible refine Below.drew ?_) | (with_reducible refine Below.alloc ?_ ?_ _) | (with_reducible refine Below.setCell ?_ ?_ _) | (with_reducible refine below_into ?_ (by assumption) (by first | omega | (simp; done) | (simp; omega))) | go_size))
    have HO1 := Lib.hid hO1
    have HR1 := Lib.hid hR1
    obtain rfl : n1 = N1 := by have := hO1.lenN hR1; have := HE1.out; omega
    clear ma mb mc mf ml
    clear hM hbw hb1 hb2 hO1 hR1
    obtain ⟨ma, mb, mc, mf, ml⟩ := hM2.mx
    go_wp2_with fail
    refine (HS2.out _).mono ?_
    rintro e wB ⟨A2, n2, c2, vs2, rfl, hO2, hR2, hb3⟩
    have hsz3 := hb3.size
    have hM : BM wB w.heap.size R C A n cap := by (repeat (first | (with_reducible exact hM2) | (with_reducible refine BX.new _ _ _ _ _ _ _ _ (by first | omega | (simp; done) | (simp; omega))) | (with_reducible refine BX.below ?_ (by assumption) (by first | omega | (simp; done) | (simp; omega))) | (with_reducible apply BX.drew) | (with_reducible apply BX.drewN) | (with_reducible refine BX.put ?_) | (with_reducible refine BX.put2 ?_) | (with_reducible refine BX.far ?_ (by simp only [ne_eq]; omega) _) | (with_reducible apply BX.alloc) | (with_reducible refine B3.new _ _ _ _ _ _ (by first | omega | (simp; done) | (simp; omega))) | (with_reducible exact B3.of hM2) | (with_reducible refine B3.below ?_ (by assumption) (by first | omega | (simp; done) | (simp; omega))) | (with_reducible apply B3.drew) | (with_reducible apply B3.drewN) | (with_reducible refine B3.far ?_ (by simp only [ne_eq]; omega) _) | (with_reducible apply B3.alloc)))
    have hbw : Below w.heap.size w wB := by (repeat (first | (with_reducible exact Below.refl _ _) | (with_reducible assumption) | (with_reducible refine below_drewN ?_ _) | (with_reducible refine Below.drew ?_) | (with_reducible refine Below.alloc ?_ ?_ _) | (with_reducible refine Below.setCell ?_ ?_ _) | (with_reducible refine below_into ?_ (by assumption) (by first | omega | (simp; done) | (simp; omega))) | go_size))
    obtain rfl : n2 = N2 := by have := hO2.lenN hR2; have := HE2.out; omega
    have HP2 : Hid (∀ j, j < n2 → ∃ g A' m c', A2 = some ⟨g, 0, none⟩ ∧ g < wB.heap.size ∧ wB.cell? ⟨g, j, none⟩ = some (.slice A' m c') ∧ RI wB wB.heap.size A' m (L2.getD j [])) := Lib.hid (fun j hj => hO2.row hR2 (by have := HE2.out; omega))
    have HP1 : Hid (∀ j, j < n1 → ∃ g A' m c', A1 = some ⟨g, 0, none⟩ ∧ g < wB.heap.size ∧ wB.cell? ⟨g, j, none⟩ = some (.slice A' m c') ∧ RI wB wB.heap.size A' m (L1.getD j [])) := Lib.hid (fun j hj => by
      obtain ⟨g, A', m, c', e1, e2, e3, e4⟩ := HO1.out.row HR1.out (i := j) (by have := HE1.out; omega)
      exact ⟨g, A', m, c', e1, by omega, (hb3.cell (p := ⟨g, j, none⟩) (by simpa using e2)).trans e3, (e4.below hb3 (Nat.le_refl _)).more hsz3⟩)
    clear ma mb mc mf ml
    clear hM2 hbw2 hb3 hO2 hR2 HO1 HR1 HS1 HS2
    obtain ⟨ma, mb, mc, mf, ml⟩ := hM.mx
    have hsB := hbw.size
    have hbq : Below wB.heap.size wB wB := Below.refl _ _
    have HB0 := Lib.hid hbw
    have HD0 : Hid (mgK D (0 * n2) = some 0) := Lib.hid (by rw [Nat.zero_mul]; rfl)
    have hn1b : n1 ≤ 46656 := by have := HN1.out; omega
    have hn2b : n2 ≤ 46656 := by have := HN2.out; omega
    clear hbw HN1 HN2
    go_wp2_with fail
    obtain ⟨wo, hwo⟩ : ∃ wo : World, Hid (wo = wB) := ⟨_, Lib.hid rfl⟩
    go_loopg [8, 9] (n1 + 1) (fun gn vg vi wr => ∃ (i : Nat) (g : Int), vi = .int .i64 i ∧ vg = .int .i64 g ∧ i ≤ n1 ∧ n1 - i < gn ∧ (0 ≤ g ∧ g ≤ 400000000) ∧ Hid (mgK D (i * n2) = some g) ∧ BM wr w.heap.size R C A n cap ∧ Below wB.heap.size wB wr)
    case atStart => exact ⟨0, 0, rfl, rfl, Nat.zero_le _, by omega, by omega, HD0, hM, hbq⟩
    case round =>
      clear ma mb mc mf ml
      clear hM hbq HD0
      obtain ⟨i, g, rfl, rfl, hi, hgk, hgb, HG, hM, hbq⟩ := hrel
      obtain ⟨ma, mb, mc, mf, ml⟩ := hM.mx
      by_cases hiN : i < n1
      · obtain ⟨g1, Ar, nr, capr, rfl, hg1, k1, k2⟩ := HP1.out i hiN
        have HC1 := Lib.hid k1
        have HI1 := Lib.hid k2
        have HG0 : Hid (mgK D (i * n2 + 0) = some g) := Lib.hid HG.out
        obtain ⟨gO, rfl⟩ : ∃ gO : Nat, gO = gk := ⟨_, rfl⟩
        clear k1 k2 HG
        go_wp2_with fail
        obtain ⟨wo2, rfl⟩ : ∃ wo : World, wo = wr := ⟨_, rfl⟩
        go_loopg [8, 10] (n2 + 1) (fun gn vg vj wr => ∃ (j : Nat) (g : Int), vj = .int .i64 j ∧ vg = .int .i64 g ∧ j ≤ n2 ∧ n2 - j < gn ∧ (0 ≤ g ∧ g ≤ 400000000) ∧ Hid (mgK D (i * n2 + j) = some g) ∧ BM wr w.heap.size R C A n cap ∧ Below wB.heap.size wB wr)
        case atStart => exact ⟨0, g, rfl, rfl, Nat.zero_le _, by omega, hgb, HG0, hM, hbq⟩
        case round =>
          clear ma mb mc mf ml
          clear hM hbq HG0 hgb
          obtain ⟨j, g, rfl, rfl, hj, hgk, hgb, HG, hM, hbq⟩ := hrel
          obtain ⟨ma, mb, mc, mf, ml⟩ := hM.mx
          have hsr := hbq.size
          by_cases hjN : j < n2
          · obtain ⟨g2, Ac, nc, capc, rfl, hg2, k1, k2⟩ := HP2.out j hjN
            have HC2 := Lib.hid k1
            have HI2 := Lib.hid k2
            have HPA := Lib.hid (HPART.out i j hiN hjN)
            have HDE := Lib.hid (HDET.out i j hjN)
            have HLT : Hid (i * n2 + j < n1 * n2) := Lib.hid (idx_nat hiN hjN)
            have cx := (hbq.cell (p := ⟨g1, i, none⟩) (by simpa using hg1)).trans HC1.out
            have cy := (hbq.cell (p := ⟨g2, j, none⟩) (by simpa using hg2)).trans HC2.out
            clear k1 k2
            rcases hd : D (i * n2 + j) with _ | d
            · have HX := Lib.hid (mgK_bad hd _ HLT.out)
              rw [hd] at HDE
              have hvb : detV none = -4611686018427387904 := rfl
              rw [hvb] at HDE
              clear hd hvb HLT HG
              generalize F i j = ys at *
              go_wp2_with fail
              ((refine wp_region_held_drew (S := (fun w' => w'.cell? ⟨w.heap.size, 0, none⟩ = some (.int .i64 R) ∧ w'.cell? ⟨w.heap.size, 1, none⟩ = some (.int .i64 C) ∧ w'.cell? ⟨w.heap.size, 2, none⟩ = some (.slice A n cap) ∧ w'.cell? ⟨g1, i, none⟩ = some (.slice Ar nr capr) ∧ w'.cell? ⟨g2, j, none⟩ = some (.slice Ac nc capc))) (by kernel_rfl) ?_ (fun hHeld => ?_)); ((focus ((try dsimp only); (go_keep)))); ((refine wpAnyH_take (i := 0) (v := ?_) (by (first | (simp only [List.getElem?_toArray, List.getElem?_cons_succ, List.getElem?_cons_zero]; done) | (simp only [List.getElem?_toArray, List.getElem?_cons_succ, List.getElem?_cons_zero]; rfl))) (by kernel_rfl) (by kernel_rfl) (by kernel_rfl) (by exact fun _ _ _ h => h) (Or.inl ⟨by rfl, ?_⟩) (by assumption) ?_; rotate_left; (focus (((intro w hSw; (try dsimp only at hSw); go_simp) <;> (try with_reducible rfl)); done)); (try simp only [Act.put, List.setIfInBounds_toArray, List.set_cons_zero, List.set_cons_succ]))); ((refine wpAnyH_take (i := 1) (v := ?_) (by (first | (simp only [List.getElem?_toArray, List.getElem?_cons_succ, List.getElem?_cons_zero]; done) | (simp only [List.getElem?_toArray, List.getElem?_cons_succ, List.getElem?_cons_zero]; rfl))) (by kernel_rfl) (by kernel_rfl) (by kernel_rfl) (by exact fun _ _ _ h => h) (Or.inl ⟨by rfl, ?_⟩) (by assumption) ?_; rotate_left; (focus (((intro w hSw; (try dsimp only at hSw); go_simp) <;> (try with_reducible rfl)); done)); (try simp only [Act.put, List.setIfInBounds_toArray, List.set_cons_zero, List.set_cons_succ]))); ((refine wpAnyH_take (i := 2) (v := ?_) (by (first | (simp only [List.getElem?_toArray, List.getElem?_cons_succ, List.getElem?_cons_zero]; done) | (simp only [List.getElem?_toArray, List.getElem?_cons_succ, List.getElem?_cons_zero]; rfl))) (by kernel_rfl) (by kernel_rfl) (by kernel_rfl) (by exact fun _ _ _ h => h) (Or.inl ⟨by rfl, ?_⟩) (by assumption) ?_; rotate_left; (focus (((intro w hSw; (try dsimp only at hSw); go_simp) <;> (try with_reducible rfl)); done)); (try simp only [Act.put, List.setIfInBounds_toArray, List.set_cons_zero, List.set_cons_succ]))); ((refine wpAnyH_take (i := 3) (v := ?_) (by (first | (simp only [List.getElem?_toArray, List.getElem?_cons_succ, List.getElem?_cons_zero]; done) | (simp only [List.getElem?_toArray, List.getElem?_cons_succ, List.getElem?_cons_zero]; rfl))) (by kernel_rfl) (by kernel_rfl) (by kernel_rfl) (by exact fun _ _ _ h => h) (Or.inl ⟨by rfl, ?_⟩) (by assumption) ?_; rotate_left; (focus (((intro w hSw; (try dsimp only at hSw); go_simp) <;> (try with_reducible rfl)); done)); (try simp only [Act.put, List.setIfInBounds_toArray, List.set_cons_zero, List.set_cons_succ]))); ((refine wpAnyH_take (i := 4) (v := ?_) (by (first | (simp only [List.getElem?_toArray, List.getElem?_cons_succ, List.getElem?_cons_zero]; done) | (simp only [List.getElem?_toArray, List.getElem?_cons_succ, List.getElem?_cons_zero]; rfl))) (by kernel_rfl) (by kernel_rfl) (by kernel_rfl) (by exact fun _ _ _ h => h) (Or.inl ⟨by rfl, ?_⟩) (by assumption) ?_; rotate_left; (focus (((intro w hSw; (try dsimp only at hSw); go_simp) <;> (try with_reducible rfl)); done)); (try simp only [Act.put, List.setIfInBounds_toArray, List.set_cons_zero, List.set_cons_succ]))); ((refine wpAnyH_take (i := 5) (v := ?_) (by (first | (simp only [List.getElem?_toArray, List.getElem?_cons_succ, List.getElem?_cons_zero]; done) | (simp only [List.getElem?_toArray, List.getElem?_cons_succ, List.getElem?_cons_zero]; rfl))) (by kernel_rfl) (by kernel_rfl) (by kernel_rfl) (by exact fun _ _ _ h => h) (Or.inl ⟨by rfl, ?_⟩) (by assumption) ?_; rotate_left; (focus (((intro w hSw; (try dsimp only at hSw); go_simp) <;> (try with_reducible rfl)); done)); (try simp only [Act.put, List.setIfInBounds_toArray, List.set_cons_zero, List.set_cons_succ]))); ((refine wpAnyH_take (i := 6) (v := ?_) (by (first | (simp only [List.getElem?_toArray, List.getElem?_cons_succ, List.getElem?_cons_zero]; done) | (simp only [List.getElem?_toArray, List.getElem?_cons_succ, List.getElem?_cons_zero]; rfl))) (by kernel_rfl) (by kernel_rfl) (by kernel_rfl) (by exact fun _ _ _ h => h) (Or.inl ⟨by rfl, ?_⟩) (by assumption) ?_; rotate_left; (focus (((intro w hSw; (try dsimp only at hSw); go_simp) <;> (try with_reducible rfl)); done)); (try simp only [Act.put, List.setIfInBounds_toArray, List.set_cons_zero, List.set_cons_succ]))); ((refine wpAnyH_take (i := 7) (v := ?_) (by (first | (simp only [List.getElem?_toArray, List.getElem?_cons_succ, List.getElem?_cons_zero]; done) | (simp only [List.getElem?_toArray, List.getElem?_cons_succ, List.getElem?_cons_zero]; rfl))) (by kernel_rfl) (by kernel_rfl) (by kernel_rfl) (by exact fun _ _ _ h => h) (Or.inl ⟨by rfl, ?_⟩) (by assumption) ?_; rotate_left; (focus (((intro w hSw; (try dsimp only at hSw); go_simp) <;> (try with_reducible rfl)); done)); (try simp only [Act.put, List.setIfInBounds_toArray, List.set_cons_zero, List.set_cons_succ]))); ((refine wpAnyH_take (i := 8) (v := ?_) (by (first | (simp only [List.getElem?_toArray, List.getElem?_cons_succ, List.getElem?_cons_zero]; done) | (simp only [List.getElem?_toArray, List.getElem?_cons_succ, List.getElem?_cons_zero]; rfl))) (by kernel_rfl) (by kernel_rfl) (by kernel_rfl) (by exact fun _ _ _ h => h) (Or.inl ⟨by rfl, ?_⟩) (by assumption) ?_; rotate_left; (focus (((intro w hSw; (try dsimp only at hSw); go_simp) <;> (try with_reducible rfl)); done)); (try simp only [Act.put, List.setIfInBounds_toArray, List.set_cons_zero, List.set_cons_succ]))); ((refine wpAnyH_ready (rs := [9]) (by kernel_rfl) (by simp) ?_; refine AllReadyH.cons (by (first | (simp only [List.getElem?_toArray, List.getElem?_cons_succ, List.getElem?_cons_zero]; done) | (simp only [List.getElem?_toArray, List.getElem?_cons_succ, List.getElem?_cons_zero]; rfl))) (fun K hK => ?_) AllReadyH.nil; go_simp; (go_at_call 79; have ri0 := ((H2.out.below HB0.out (Nat.le_refl _)).below hbq (by omega)); have ri1 := (HI1.out.below hbq (Nat.le_refl _)); have ri2 := (HI2.out.below hbq (Nat.le_refl _)); refine (HPA.out _ _ _ _ _ _ _ wB.heap.size (by (repeat (first | (with_reducible exact ri0) | (with_reducible refine RI.drew ?_) | (with_reducible refine RI.drewN ?_ _) | (with_reducible refine RI.alloc ?_ (by first | omega | (simp; done) | (simp; omega)) _) | (with_reducible refine RI.setCell ?_ (by first | omega | (simp; done) | (simp; omega)) _) | (with_reducible refine RI.below ?_ (by assumption) (by first | omega | (simp; done) | (simp; omega)))))) (by first | omega | (simp; done) | (simp; omega)) (by (repeat (first | (with_reducible exact ri1) | (with_reducible refine RI.drew ?_) | (with_reducible refine RI.drewN ?_ _) | (with_reducible refine RI.alloc ?_ (by first | omega | (simp; done) | (simp; omega)) _) | (with_reducible refine RI.setCell ?_ (by first | omega | (simp; done) | (simp; omega)) _) | (with_reducible refine RI.below ?_ (by assumption) (by first | omega | (simp; done) | (simp; omega)))))) (by (repeat (first | (with_reducible exact ri2) | (with_reducible refine RI.drew ?_) | (with_reducible refine RI.drewN ?_ _) | (with_reducible refine RI.alloc ?_ (by first | omega | (simp; done) | (simp; omega)) _) | (with_reducible refine RI.setCell ?_ (by first | omega | (simp; done) | (simp; omega)) _) | (with_reducible refine RI.below ?_ (by assumption) (by first | omega | (simp; done) | (simp; omega)))))) (by first | omega | (simp; done) | (simp; omega))).mono ?_; clear ri0 ri1 ri2; rintro e w5 ⟨A5, n5, c5, rfl, ho5, hb5⟩; have hs5 := hb5.size; (try simp at hs5); (have hM_1 : BM w5 w.heap.size R C A n cap := by (repeat (first | (with_reducible exact hM) | (with_reducible refine BX.new _ _ _ _ _ _ _ _ (by first | omega | (simp; done) | (simp; omega))) | (with_reducible refine BX.below ?_ (by assumption) (by first | omega | (simp; done) | (simp; omega))) | (with_reducible apply BX.drew) | (with_reducible apply BX.drewN) | (with_reducible refine BX.put ?_) | (with_reducible refine BX.put2 ?_) | (with_reducible refine BX.far ?_ (by simp only [ne_eq]; omega) _) | (with_reducible apply BX.alloc) | (with_reducible refine B3.new _ _ _ _ _ _ (by first | omega | (simp; done) | (simp; omega))) | (with_reducible exact B3.of hM) | (with_reducible refine B3.below ?_ (by assumption) (by first | omega | (simp; done) | (simp; omega))) | (with_reducible apply B3.drew) | (with_reducible apply B3.drewN) | (with_reducible refine B3.far ?_ (by simp only [ne_eq]; omega) _) | (with_reducible apply B3.alloc)))); (have hbq_1 : Below wB.heap.size wB w5 := by (repeat (first | (with_reducible exact Below.refl _ _) | (with_reducible assumption) | (with_reducible refine below_drewN ?_ _) | (with_reducible refine Below.drew ?_) | (with_reducible refine Below.alloc ?_ ?_ _) | (with_reducible refine Below.setCell ?_ ?_ _) | (with_reducible refine below_into ?_ (by assumption) (by first | omega | (simp; done) | (simp; omega))) | go_size))); clear ma mb mc mf ml; clear hM hbq cx cy; (have hM := hM_1); (have hbq := hbq_1); clear hM_1 hbq_1; obtain ⟨ma, mb, mc, mf, ml⟩ := hM.mx; (have cx := (hbq.cell (p := ⟨g1, i, none⟩) (by simpa using hg1)).trans HC1.out); (have cy := (hbq.cell (p := ⟨g2, j, none⟩) (by simpa using hg2)).trans HC2.out)); (try go_wp2_with fail); refine hK.out _ _ ?_ (fun hHeld => ?_); (focus ((try dsimp only); (go_keep))); clear hK K; (try simp only [Act.put, List.setIfInBounds_toArray, List.set_cons_zero, List.set_cons_succ]))); ((refine wpAnyH_ready (rs := [10]) (by kernel_rfl) (by simp) ?_; refine AllReadyH.cons (by (first | (simp only [List.getElem?_toArray, List.getElem?_cons_succ, List.getElem?_cons_zero]; done) | (simp only [List.getElem?_toArray, List.getElem?_cons_succ, List.getElem?_cons_zero]; rfl))) (fun K hK => ?_) AllReadyH.nil; go_simp; (go_at_call 78; refine (HDE.out _ _ _ _ _ (OR.reads (xs := ys) ho5) (Nat.le_refl _)).mono ?_; rintro e w6 ⟨rfl, hb6⟩; have hs6 := hb6.size; (try simp at hs6); clear ho5; (have hM_1 : BM w6 w.heap.size R C A n cap := by (repeat (first | (with_reducible exact hM) | (with_reducible refine BX.new _ _ _ _ _ _ _ _ (by first | omega | (simp; done) | (simp; omega))) | (with_reducible refine BX.below ?_ (by assumption) (by first | omega | (simp; done) | (simp; omega))) | (with_reducible apply BX.drew) | (with_reducible apply BX.drewN) | (with_reducible refine BX.put ?_) | (with_reducible refine BX.put2 ?_) | (with_reducible refine BX.far ?_ (by simp only [ne_eq]; omega) _) | (with_reducible apply BX.alloc) | (with_reducible refine B3.new _ _ _ _ _ _ (by first | omega | (simp; done) | (simp; omega))) | (with_reducible exact B3.of hM) | (with_reducible refine B3.below ?_ (by assumption) (by first | omega | (simp; done) | (simp; omega))) | (with_reducible apply B3.drew) | (with_reducible apply B3.drewN) | (with_reducible refine B3.far ?_ (by simp only [ne_eq]; omega) _) | (with_reducible apply B3.alloc)))); (have hbq_1 : Below wB.heap.size wB w6 := by (repeat (first | (with_reducible exact Below.refl _ _) | (with_reducible assumption) | (with_reducible refine below_drewN ?_ _) | (with_reducible refine Below.drew ?_) | (with_reducible refine Below.alloc ?_ ?_ _) | (with_reducible refine Below.setCell ?_ ?_ _) | (with_reducible refine below_into ?_ (by assumption) (by first | omega | (simp; done) | (simp; omega))) | go_size))); clear ma mb mc mf ml; clear hM hbq cx cy; (have hM := hM_1); (have hbq := hbq_1); clear hM_1 hbq_1; obtain ⟨ma, mb, mc, mf, ml⟩ := hM.mx; (have cx := (hbq.cell (p := ⟨g1, i, none⟩) (by simpa using hg1)).trans HC1.out); (have cy := (hbq.cell (p := ⟨g2, j, none⟩) (by simpa using hg2)).trans HC2.out)); (try go_wp2_with fail); refine hK.out _ _ ?_ (fun hHeld => ?_); (focus ((try dsimp only); (go_keep))); clear hK K; (try simp only [Act.put, List.setIfInBounds_toArray, List.set_cons_zero, List.set_cons_succ]))); ((refine wpAnyH_take (i := 11) (v := ?_) (by (first | (simp only [List.getElem?_toArray, List.getElem?_cons_succ, List.getElem?_cons_zero]; done) | (simp only [List.getElem?_toArray, List.getElem?_cons_succ, List.getElem?_cons_zero]; rfl))) (by kernel_rfl) (by kernel_rfl) (by kernel_rfl) (by exact fun _ _ _ h => h) (Or.inl ⟨by rfl, ?_⟩) (by assumption) ?_; rotate_left; (focus (((intro w hSw; (try dsimp only at hSw); go_simp) <;> (try with_reducible rfl)); done)); (try simp only [Act.put, List.setIfInBounds_toArray, List.set_cons_zero, List.set_cons_succ]))); (refine wpAnyH_done (by kernel_rfl) ?_ _))
              go_wp2_with fail
              go_ret2
              rw [HX.out]
              exact ⟨rfl, HB0.out.trans (Below.mono hbq (by omega))⟩
            · have hdb := HDB.out _ _ hd
              have HG2 := Lib.hid (mgK_next HG.out hd)
              rw [hd] at HDE
              have hvb : detV (some d) = d := rfl
              rw [hvb] at HDE
              have hgd := gcd_bdM hgb hdb
              clear hd hvb HLT HG
              generalize F i j = ys at *
              obtain ⟨hd1, hd2⟩ := hdb
              go_wp2_with fail
              ((refine wp_region_held_drew (S := (fun w' => w'.cell? ⟨w.heap.size, 0, none⟩ = some (.int .i64 R) ∧ w'.cell? ⟨w.heap.size, 1, none⟩ = some (.int .i64 C) ∧ w'.cell? ⟨w.heap.size, 2, none⟩ = some (.slice A n cap) ∧ w'.cell? ⟨g1, i, none⟩ = some (.slice Ar nr capr) ∧ w'.cell? ⟨g2, j, none⟩ = some (.slice Ac nc capc))) (by kernel_rfl) ?_ (fun hHeld => ?_)); ((focus ((try dsimp only); (go_keep)))); ((refine wpAnyH_take (i := 0) (v := ?_) (by (first | (simp only [List.getElem?_toArray, List.getElem?_cons_succ, List.getElem?_cons_zero]; done) | (simp only [List.getElem?_toArray, List.getElem?_cons_succ, List.getElem?_cons_zero]; rfl))) (by kernel_rfl) (by kernel_rfl) (by kernel_rfl) (by exact fun _ _ _ h => h) (Or.inl ⟨by rfl, ?_⟩) (by assumption) ?_; rotate_left; (focus (((intro w hSw; (try dsimp only at hSw); go_simp) <;> (try with_reducible rfl)); done)); (try simp only [Act.put, List.setIfInBounds_toArray, List.set_cons_zero, List.set_cons_succ]))); ((refine wpAnyH_take (i := 1) (v := ?_) (by (first | (simp only [List.getElem?_toArray, List.getElem?_cons_succ, List.getElem?_cons_zero]; done) | (simp only [List.getElem?_toArray, List.getElem?_cons_succ, List.getElem?_cons_zero]; rfl))) (by kernel_rfl) (by kernel_rfl) (by kernel_rfl) (by exact fun _ _ _ h => h) (Or.inl ⟨by rfl, ?_⟩) (by assumption) ?_; rotate_left; (focus (((intro w hSw; (try dsimp only at hSw); go_simp) <;> (try with_reducible rfl)); done)); (try simp only [Act.put, List.setIfInBounds_toArray, List.set_cons_zero, List.set_cons_succ]))); ((refine wpAnyH_take (i := 2) (v := ?_) (by (first | (simp only [List.getElem?_toArray, List.getElem?_cons_succ, List.getElem?_cons_zero]; done) | (simp only [List.getElem?_toArray, List.getElem?_cons_succ, List.getElem?_cons_zero]; rfl))) (by kernel_rfl) (by kernel_rfl) (by kernel_rfl) (by exact fun _ _ _ h => h) (Or.inl ⟨by rfl, ?_⟩) (by assumption) ?_; rotate_left; (focus (((intro w hSw; (try dsimp only at hSw); go_simp) <;> (try with_reducible rfl)); done)); (try simp only [Act.put, List.setIfInBounds_toArray, List.set_cons_zero, List.set_cons_succ]))); ((refine wpAnyH_take (i := 3) (v := ?_) (by (first | (simp only [List.getElem?_toArray, List.getElem?_cons_succ, List.getElem?_cons_zero]; done) | (simp only [List.getElem?_toArray, List.getElem?_cons_succ, List.getElem?_cons_zero]; rfl))) (by kernel_rfl) (by kernel_rfl) (by kernel_rfl) (by exact fun _ _ _ h => h) (Or.inl ⟨by rfl, ?_⟩) (by assumption) ?_; rotate_left; (focus (((intro w hSw; (try dsimp only at hSw); go_simp) <;> (try with_reducible rfl)); done)); (try simp only [Act.put, List.setIfInBounds_toArray, List.set_cons_zero, List.set_cons_succ]))); ((refine wpAnyH_take (i := 4) (v := ?_) (by (first | (simp only [List.getElem?_toArray, List.getElem?_cons_succ, List.getElem?_cons_zero]; done) | (simp only [List.getElem?_toArray, List.getElem?_cons_succ, List.getElem?_cons_zero]; rfl))) (by kernel_rfl) (by kernel_rfl) (by kernel_rfl) (by exact fun _ _ _ h => h) (Or.inl ⟨by rfl, ?_⟩) (by assumption) ?_; rotate_left; (focus (((intro w hSw; (try dsimp only at hSw); go_simp) <;> (try with_reducible rfl)); done)); (try simp only [Act.put, List.setIfInBounds_toArray, List.set_cons_zero, List.set_cons_succ]))); ((refine wpAnyH_take (i := 5) (v := ?_) (by (first | (simp only [List.getElem?_toArray, List.getElem?_cons_succ, List.getElem?_cons_zero]; done) | (simp only [List.getElem?_toArray, List.getElem?_cons_succ, List.getElem?_cons_zero]; rfl))) (by kernel_rfl) (by kernel_rfl) (by kernel_rfl) (by exact fun _ _ _ h => h) (Or.inl ⟨by rfl, ?_⟩) (by assumption) ?_; rotate_left; (focus (((intro w hSw; (try dsimp only at hSw); go_simp) <;> (try with_reducible rfl)); done)); (try simp only [Act.put, List.setIfInBounds_toArray, List.set_cons_zero, List.set_cons_succ]))); ((refine wpAnyH_take (i := 6) (v := ?_) (by (first | (simp only [List.getElem?_toArray, List.getElem?_cons_succ, List.getElem?_cons_zero]; done) | (simp only [List.getElem?_toArray, List.getElem?_cons_succ, List.getElem?_cons_zero]; rfl))) (by kernel_rfl) (by kernel_rfl) (by kernel_rfl) (by exact fun _ _ _ h => h) (Or.inl ⟨by rfl, ?_⟩) (by assumption) ?_; rotate_left; (focus (((intro w hSw; (try dsimp only at hSw); go_simp) <;> (try with_reducible rfl)); done)); (try simp only [Act.put, List.setIfInBounds_toArray, List.set_cons_zero, List.set_cons_succ]))); ((refine wpAnyH_take (i := 7) (v := ?_) (by (first | (simp only [List.getElem?_toArray, List.getElem?_cons_succ, List.getElem?_cons_zero]; done) | (simp only [List.getElem?_toArray, List.getElem?_cons_succ, List.getElem?_cons_zero]; rfl))) (by kernel_rfl) (by kernel_rfl) (by kernel_rfl) (by exact fun _ _ _ h => h) (Or.inl ⟨by rfl, ?_⟩) (by assumption) ?_; rotate_left; (focus (((intro w hSw; (try dsimp only at hSw); go_simp) <;> (try with_reducible rfl)); done)); (try simp only [Act.put, List.setIfInBounds_toArray, List.set_cons_zero, List.set_cons_succ]))); ((refine wpAnyH_take (i := 8) (v := ?_) (by (first | (simp only [List.getElem?_toArray, List.getElem?_cons_succ, List.getElem?_cons_zero]; done) | (simp only [List.getElem?_toArray, List.getElem?_cons_succ, List.getElem?_cons_zero]; rfl))) (by kernel_rfl) (by kernel_rfl) (by kernel_rfl) (by exact fun _ _ _ h => h) (Or.inl ⟨by rfl, ?_⟩) (by assumption) ?_; rotate_left; (focus (((intro w hSw; (try dsimp only at hSw); go_simp) <;> (try with_reducible rfl)); done)); (try simp only [Act.put, List.setIfInBounds_toArray, List.set_cons_zero, List.set_cons_succ]))); ((refine wpAnyH_ready (rs := [9]) (by kernel_rfl) (by simp) ?_; refine AllReadyH.cons (by (first | (simp only [List.getElem?_toArray, List.getElem?_cons_succ, List.getElem?_cons_zero]; done) | (simp only [List.getElem?_toArray, List.getElem?_cons_succ, List.getElem?_cons_zero]; rfl))) (fun K hK => ?_) AllReadyH.nil; go_simp; (go_at_call 79; have ri0 := ((H2.out.below HB0.out (Nat.le_refl _)).below hbq (by omega)); have ri1 := (HI1.out.below hbq (Nat.le_refl _)); have ri2 := (HI2.out.below hbq (Nat.le_refl _)); refine (HPA.out _ _ _ _ _ _ _ wB.heap.size (by (repeat (first | (with_reducible exact ri0) | (with_reducible refine RI.drew ?_) | (with_reducible refine RI.drewN ?_ _) | (with_reducible refine RI.alloc ?_ (by first | omega | (simp; done) | (simp; omega)) _) | (with_reducible refine RI.setCell ?_ (by first | omega | (simp; done) | (simp; omega)) _) | (with_reducible refine RI.below ?_ (by assumption) (by first | omega | (simp; done) | (simp; omega)))))) (by first | omega | (simp; done) | (simp; omega)) (by (repeat (first | (with_reducible exact ri1) | (with_reducible refine RI.drew ?_) | (with_reducible refine RI.drewN ?_ _) | (with_reducible refine RI.alloc ?_ (by first | omega | (simp; done) | (simp; omega)) _) | (with_reducible refine RI.setCell ?_ (by first | omega | (simp; done) | (simp; omega)) _) | (with_reducible refine RI.below ?_ (by assumption) (by first | omega | (simp; done) | (simp; omega)))))) (by (repeat (first | (with_reducible exact ri2) | (with_reducible refine RI.drew ?_) | (with_reducible refine RI.drewN ?_ _) | (with_reducible refine RI.alloc ?_ (by first | omega | (simp; done) | (simp; omega)) _) | (with_reducible refine RI.setCell ?_ (by first | omega | (simp; done) | (simp; omega)) _) | (with_reducible refine RI.below ?_ (by assumption) (by first | omega | (simp; done) | (simp; omega)))))) (by first | omega | (simp; done) | (simp; omega))).mono ?_; clear ri0 ri1 ri2; rintro e w5 ⟨A5, n5, c5, rfl, ho5, hb5⟩; have hs5 := hb5.size; (try simp at hs5); (have hM_1 : BM w5 w.heap.size R C A n cap := by (repeat (first | (with_reducible exact hM) | (with_reducible refine BX.new _ _ _ _ _ _ _ _ (by first | omega | (simp; done) | (simp; omega))) | (with_reducible refine BX.below ?_ (by assumption) (by first | omega | (simp; done) | (simp; omega))) | (with_reducible apply BX.drew) | (with_reducible apply BX.drewN) | (with_reducible refine BX.put ?_) | (with_reducible refine BX.put2 ?_) | (with_reducible refine BX.far ?_ (by simp only [ne_eq]; omega) _) | (with_reducible apply BX.alloc) | (with_reducible refine B3.new _ _ _ _ _ _ (by first | omega | (simp; done) | (simp; omega))) | (with_reducible exact B3.of hM) | (with_reducible refine B3.below ?_ (by assumption) (by first | omega | (simp; done) | (simp; omega))) | (with_reducible apply B3.drew) | (with_reducible apply B3.drewN) | (with_reducible refine B3.far ?_ (by simp only [ne_eq]; omega) _) | (with_reducible apply B3.alloc)))); (have hbq_1 : Below wB.heap.size wB w5 := by (repeat (first | (with_reducible exact Below.refl _ _) | (with_reducible assumption) | (with_reducible refine below_drewN ?_ _) | (with_reducible refine Below.drew ?_) | (with_reducible refine Below.alloc ?_ ?_ _) | (with_reducible refine Below.setCell ?_ ?_ _) | (with_reducible refine below_into ?_ (by assumption) (by first | omega | (simp; done) | (simp; omega))) | go_size))); clear ma mb mc mf ml; clear hM hbq cx cy; (have hM := hM_1); (have hbq := hbq_1); clear hM_1 hbq_1; obtain ⟨ma, mb, mc, mf, ml⟩ := hM.mx; (have cx := (hbq.cell (p := ⟨g1, i, none⟩) (by simpa using hg1)).trans HC1.out); (have cy := (hbq.cell (p := ⟨g2, j, none⟩) (by simpa using hg2)).trans HC2.out)); (try go_wp2_with fail); refine hK.out _ _ ?_ (fun hHeld => ?_); (focus ((try dsimp only); (go_keep))); clear hK K; (try simp only [Act.put, List.setIfInBounds_toArray, List.set_cons_zero, List.set_cons_succ]))); ((refine wpAnyH_ready (rs := [10]) (by kernel_rfl) (by simp) ?_; refine AllReadyH.cons (by (first | (simp only [List.getElem?_toArray, List.getElem?_cons_succ, List.getElem?_cons_zero]; done) | (simp only [List.getElem?_toArray, List.getElem?_cons_succ, List.getElem?_cons_zero]; rfl))) (fun K hK => ?_) AllReadyH.nil; go_simp; (go_at_call 78; refine (HDE.out _ _ _ _ _ (OR.reads (xs := ys) ho5) (Nat.le_refl _)).mono ?_; rintro e w6 ⟨rfl, hb6⟩; have hs6 := hb6.size; (try simp at hs6); clear ho5; (have hM_1 : BM w6 w.heap.size R C A n cap := by (repeat (first | (with_reducible exact hM) | (with_reducible refine BX.new _ _ _ _ _ _ _ _ (by first | omega | (simp; done) | (simp; omega))) | (with_reducible refine BX.below ?_ (by assumption) (by first | omega | (simp; done) | (simp; omega))) | (with_reducible apply BX.drew) | (with_reducible apply BX.drewN) | (with_reducible refine BX.put ?_) | (with_reducible refine BX.put2 ?_) | (with_reducible refine BX.far ?_ (by simp only [ne_eq]; omega) _) | (with_reducible apply BX.alloc) | (with_reducible refine B3.new _ _ _ _ _ _ (by first | omega | (simp; done) | (simp; omega))) | (with_reducible exact B3.of hM) | (with_reducible refine B3.below ?_ (by assumption) (by first | omega | (simp; done) | (simp; omega))) | (with_reducible apply B3.drew) | (with_reducible apply B3.drewN) | (with_reducible refine B3.far ?_ (by simp only [ne_eq]; omega) _) | (with_reducible apply B3.alloc)))); (have hbq_1 : Below wB.heap.size wB w6 := by (repeat (first | (with_reducible exact Below.refl _ _) | (with_reducible assumption) | (with_reducible refine below_drewN ?_ _) | (with_reducible refine Below.drew ?_) | (with_reducible refine Below.alloc ?_ ?_ _) | (with_reducible refine Below.setCell ?_ ?_ _) | (with_reducible refine below_into ?_ (by assumption) (by first | omega | (simp; done) | (simp; omega))) | go_size))); clear ma mb mc mf ml; clear hM hbq cx cy; (have hM := hM_1); (have hbq := hbq_1); clear hM_1 hbq_1; obtain ⟨ma, mb, mc, mf, ml⟩ := hM.mx; (have cx := (hbq.cell (p := ⟨g1, i, none⟩) (by simpa using hg1)).trans HC1.out); (have cy := (hbq.cell (p := ⟨g2, j, none⟩) (by simpa using hg2)).trans HC2.out)); (try go_wp2_with fail); refine hK.out _ _ ?_ (fun hHeld => ?_); (focus ((try dsimp only); (go_keep))); clear hK K; (try simp only [Act.put, List.setIfInBounds_toArray, List.set_cons_zero, List.set_cons_succ]))); ((refine wpAnyH_take (i := 11) (v := ?_) (by (first | (simp only [List.getElem?_toArray, List.getElem?_cons_succ, List.getElem?_cons_zero]; done) | (simp only [List.getElem?_toArray, List.getElem?_cons_succ, List.getElem?_cons_zero]; rfl))) (by kernel_rfl) (by kernel_rfl) (by kernel_rfl) (by exact fun _ _ _ h => h) (Or.inl ⟨by rfl, ?_⟩) (by assumption) ?_; rotate_left; (focus (((intro w hSw; (try dsimp only at hSw); go_simp) <;> (try with_reducible rfl)); done)); (try simp only [Act.put, List.setIfInBounds_toArray, List.set_cons_zero, List.set_cons_succ]))); (refine wpAnyH_done (by kernel_rfl) ?_ _))
              go_wp2_with fail
              refine (spec_GcdOf g d _ (by omega) (by omega)).mono ?_
              rintro e w7 ⟨rfl, nn, rfl⟩
              go_wp2_with fail
              go_roundg (gk - 1)
              case measure => omega
              case rel => exact ⟨j + 1, _, by go_num, rfl, by omega, by omega, hgd, HG2, by (repeat (first | (with_reducible exact hM) | (with_reducible refine BX.new _ _ _ _ _ _ _ _ (by first | omega | (simp; done) | (simp; omega))) | (with_reducible refine BX.below ?_ (by assumption) (by first | omega | (simp; done) | (simp; omega))) | (with_reducible apply BX.drew) | (with_reducible apply BX.drewN) | (with_reducible refine BX.put ?_) | (with_reducible refine BX.put2 ?_) | (with_reducible refine BX.far ?_ (by simp only [ne_eq]; omega) _) | (with_reducible apply BX.alloc) | (with_reducible refine B3.new _ _ _ _ _ _ (by first | omega | (simp; done) | (simp; omega))) | (with_reducible exact B3.of hM) | (with_reducible refine B3.below ?_ (by assumption) (by first | omega | (simp; done) | (simp; omega))) | (with_reducible apply B3.drew) | (with_reducible apply B3.drewN) | (with_reducible refine B3.far ?_ (by simp only [ne_eq]; omega) _) | (with_reducible apply B3.alloc))), by first | exact hbq | exact below_drewN hbq _⟩
          · obtain rfl : j = n2 := by omega
            have HG2 : Hid (mgK D ((i + 1) * j) = some g) := Lib.hid (by rw [Nat.add_mul, Nat.one_mul]; exact HG.out)
            go_wp2_with fail
            go_roundg (gO - 1)
            case measure => omega
            case rel => exact ⟨i + 1, g, by go_num, rfl, by omega, by omega, hgb, HG2, hM, hbq⟩
      · obtain rfl : i = n1 := by omega
        go_wp2_with fail
        go_ret2
        rw [HG.out]
        exact ⟨rfl, HB0.out.trans (Below.mono hbq (by omega))⟩
  )
theorem spec_MinorGcd (r c k : Int) (A : Option Addr) (n cap : Nat) (xs : List Int) (w : World) {B : Nat} (h : RI w B A n xs) (hB : B ≤ w.heap.size) (hn : n ≤ 1048576) :
    Calls Try.prog 28 #[.agg #[.int .i64 r, .int .i64 c, .slice A n cap], .int .i64 k] w (ODV (mgO r c xs k) w) := by
  rcases mg_cases r c xs k with ⟨e, h1⟩ | ⟨e, h1⟩ | ⟨e, h1⟩ | ⟨e, h1⟩ | ⟨e, h1⟩ | ⟨e, h1, h2, h3, h4, h5⟩
  · rw [e]; exact spec_MinorGcd_no r c k A n cap xs w h hB hn (.inl h1)
  · rw [e]; exact spec_MinorGcd_no r c k A n cap xs w h hB hn (.inr (.inl h1))
  · rw [e]; exact spec_MinorGcd_no r c k A n cap xs w h hB hn (.inr (.inr (.inl h1)))
  · rw [e]; exact spec_MinorGcd_no r c k A n cap xs w h hB hn (.inr (.inr (.inr (.inl h1))))
  · rw [e]; exact spec_MinorGcd_no r c k A n cap xs w h hB hn (.inr (.inr (.inr (.inr h1))))
  · rw [e]; exact spec_MinorGcd_yes r c k A n cap xs w h hB hn h1 h2 h3 h4 h5
end Go.Proofs.Ytpecjobpihinoaa

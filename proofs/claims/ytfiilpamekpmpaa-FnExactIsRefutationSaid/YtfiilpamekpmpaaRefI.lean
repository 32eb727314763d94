/-
  DERIVED. IsRefutation of the program.
-/
import Derived.Test.YtfiilpamekpmpaaSumW
import Derived.Test.YtfiilpamekpmpaaTrn
namespace Go.Proofs.Ytfiilpamekpmpaa
open Go.RowKit
set_option linter.unusedVariables false
set_option linter.unusedSimpArgs false
/-- The sum with column j. -/
def refCol (xs : List Int) (R C : Nat) (qs : List Int) (j : Nat) : Int × Int := rsum (fun k => (cel xs C k j, 1)) (fl qs) R
def refEnd (R : Nat) (bs qs : List Int) : Int × Int := rsum (fun k => (bs.getD k 0, 1)) (fl qs) R
def refP (xs : List Int) (R C : Nat) (bs qs : List Int) : Bool := (List.range C).all (fun j => decide ((refCol xs R C qs j).2 = 1)) && decide ((refEnd R bs qs).2 ≠ 0) && decide ((refEnd R bs qs).2 ≠ 1)
def refB (r c : Int) (xs bs qs : List Int) : Bool := isMat r c xs && decide ((bs.length : Int) = r) && decide ((qs.length : Int) = r * 2) && refP xs r.toNat c.toNat bs qs
theorem ref_cases (r c : Int) (xs bs qs : List Int) : (isMat r c xs = false ∧ refB r c xs bs qs = false) ∨ (isMat r c xs = true ∧ ((bs.length : Int) != r) = true ∧ refB r c xs bs qs = false) ∨
    (isMat r c xs = true ∧ ((bs.length : Int) != r) = false ∧ ¬ (qs.length : Int) = r * 2 ∧ refB r c xs bs qs = false) ∨ (isMat r c xs = true ∧ ((bs.length : Int) != r) = false ∧ (qs.length : Int) = r * 2 ∧ refB r c xs bs qs = refP xs r.toNat c.toNat bs qs) := by
  unfold refB
  rcases isMat r c xs with _ | _
  · left; simp
  · right
    by_cases h : (bs.length : Int) = r
    · right
      by_cases h2 : (qs.length : Int) = r * 2
      · right; exact ⟨rfl, by simp [h], h2, by simp [h, h2]⟩
      · left; exact ⟨rfl, by simp [h], h2, by simp [h2]⟩
    · left; simp [h]
theorem refP_no {xs : List Int} {R C : Nat} {bs qs : List Int} {j : Nat} (hj : j < C) (h : ¬ (refCol xs R C qs j).2 = 1) : refP xs R C bs qs = false := by
  have : (List.range C).all (fun j => decide ((refCol xs R C qs j).2 = 1)) = false := by
    rw [List.all_eq_false]
    exact ⟨j, List.mem_range.2 hj, by rw [decide_eq_false h]; simp⟩
  unfold refP
  rw [this]; rfl
theorem refP_yes {xs : List Int} {R C : Nat} {bs qs : List Int} (h : ∀ j, j < C → (refCol xs R C qs j).2 = 1) : refP xs R C bs qs = (decide ((refEnd R bs qs).2 ≠ 0) && decide ((refEnd R bs qs).2 ≠ 1)) := by
  have : (List.range C).all (fun j => decide ((refCol xs R C qs j).2 = 1)) = true := by
    rw [List.all_eq_true]
    intro i hi
    exact decide_eq_true (h i (List.mem_range.1 hi))
  unfold refP
  rw [this, Bool.true_and]
/-- A sum is a ratio just if its denominator is not 0. -/
theorem rsum_den (f g : Nat → Int × Int) (k : Nat) : ratOk (rsum f g k).1 (rsum f g k).2 = decide ((rsum f g k).2 ≠ 0) := by
  rcases rsum_ok f g k with h | h
  · rw [h]
    have := ((ratOk_iff _ _).1 h).1.1
    exact (decide_eq_true (by omega)).symm
  · rw [h]; rfl
theorem rsum_congr {f f' g : Nat → Int × Int} : ∀ {k : Nat}, (∀ i, i < k → f i = f' i) → rsum f g k = rsum f' g k
  | 0, _ => rfl
  | k + 1, h => by
    unfold rsum
    rw [rsum_congr (k := k) (fun i hi => h i (by omega)), h k (by omega)]
theorem ref_row {xs : List Int} {R C : Nat} {qs : List Int} {j : Nat} (hj : j < C) : rsum (fun k => ((rowL (tb C R (fun a b : Nat => cel xs C b a)) R j).getD k 0, 1)) (fl qs) R = refCol xs R C qs j := by
  unfold refCol
  apply rsum_congr
  intro k hk
  rw [rowL_getD hk, cel_tb hj hk]
set_option maxRecDepth 100000 in
set_option maxHeartbeats 8000000 in
theorem impl_IsRefutation (r c : Int) (A Ab Ax : Option Addr) (n cap nb capb nx capx : Nat) (xs bs qs : List Int) (w : World) {B B' B'' : Nat} (h : RI w B A n xs) (hb : RI w B' Ab nb bs) (hx : RI w B'' Ax (nx * 2) qs) (hB : B ≤ w.heap.size) (hB' : B' ≤ w.heap.size) (hB'' : B'' ≤ w.heap.size) (hn : n ≤ 1048576) (hnb : nb ≤ 1048576) (hnx : nx ≤ 1048576) :
    Calls Try.prog 44 #[.agg #[.int .i64 r, .int .i64 c, .slice A n cap], .slice Ab nb capb, .slice Ax nx capx] w (BV (.bool (refB r c xs bs qs)) w) := by
  have hlb := hb.len
  have hlx := hx.len
  have H2 := Lib.hid (h.more hB)
  have H3 := Lib.hid (hb.more hB')
  have H4 := Lib.hid (hx.more hB'')
  have hln := h.len
  clear h hb hx
  rcases ref_cases r c xs bs qs with ⟨hm, hv⟩ | ⟨hm, hl, hv⟩ | ⟨hm, hl, hq, hv⟩ | ⟨hm, hl, hq, hv⟩
  · rw [hv]
    have HM := Lib.hid hm
    clear hm hv hlb hlx hln
    go_enter Try.func44, Try.ntmps44
    go_wp2_with fail
    refine (impl_IsMatrix r c A n cap xs _ (C := w.heap.size) (by (repeat (first | (with_reducible exact H2.out) | (with_reducible refine RI.drew ?_) | (with_reducible refine RI.drewN ?_ _) | (with_reducible refine RI.alloc ?_ (by first | omega | (simp; done) | (simp; omega)) _) | (with_reducible refine RI.setCell ?_ (by first | omega | (simp; done) | (simp; omega)) _) | (with_reducible refine RI.below ?_ (by assumption) (by first | omega | (simp; done) | (simp; omega)))))) (by first | omega | (simp; done) | (simp; omega)) hn).mono ?_; rw [HM.out]; rintro e w1 ⟨rfl, hb1⟩; have hsz1 := hb1.size; simp at hsz1; have hM : BM w1 w.heap.size r c A n cap := (by (repeat (first | (with_reducible assumption) | (with_reducible refine BX.new _ _ _ _ _ _ _ _ (by first | omega | (simp; done) | (simp; omega))) | (with_reducible refine BX.below ?_ (by assumption) (by first | omega | (simp; done) | (simp; omega))) | (with_reducible apply BX.drew) | (with_reducible apply BX.drewN) | (with_reducible refine BX.put ?_) | (with_reducible refine BX.put2 ?_) | (with_reducible refine BX.far ?_ (by simp only [ne_eq]; omega) _) | (with_reducible apply BX.alloc) | (with_reducible refine B3.new _ _ _ _ _ _ (by first | omega | (simp; done) | (simp; omega))) | (with_reducible refine B3.of (by assumption)) | (with_reducible refine B3.below ?_ (by assumption) (by first | omega | (simp; done) | (simp; omega))) | (with_reducible apply B3.drew) | (with_reducible apply B3.drewN) | (with_reducible refine B3.far ?_ (by simp only [ne_eq]; omega) _) | (with_reducible apply B3.alloc)))); have hbw : Below w.heap.size w w1 := (by (repeat (first | (with_reducible exact Below.refl _ _) | (with_reducible assumption) | (with_reducible refine below_drewN ?_ _) | (with_reducible refine Below.drew ?_) | (with_reducible refine Below.alloc ?_ ?_ _) | (with_reducible refine Below.setCell ?_ ?_ _) | (with_reducible refine below_into ?_ (by assumption) (by first | omega | (simp; done) | (simp; omega))) | go_size))); obtain ⟨ma, mb, mc, mf, ml⟩ := hM.mx
    go_wp2_with fail
    go_ret
    exact BV.mk rfl (by (repeat (first | (with_reducible exact Below.refl _ _) | (with_reducible assumption) | (with_reducible refine below_drewN ?_ _) | (with_reducible refine Below.drew ?_) | (with_reducible refine Below.alloc ?_ ?_ _) | (with_reducible refine Below.setCell ?_ ?_ _) | (with_reducible refine below_into ?_ (by assumption) (by first | omega | (simp; done) | (simp; omega))) | go_size)))
  · rw [hv]
    have HM := Lib.hid hm
    rw [hlb] at hl
    clear hm hv hlb hlx hln
    go_enter Try.func44, Try.ntmps44
    go_wp2_with fail
    refine (impl_IsMatrix r c A n cap xs _ (C := w.heap.size) (by (repeat (first | (with_reducible exact H2.out) | (with_reducible refine RI.drew ?_) | (with_reducible refine RI.drewN ?_ _) | (with_reducible refine RI.alloc ?_ (by first | omega | (simp; done) | (simp; omega)) _) | (with_reducible refine RI.setCell ?_ (by first | omega | (simp; done) | (simp; omega)) _) | (with_reducible refine RI.below ?_ (by assumption) (by first | omega | (simp; done) | (simp; omega)))))) (by first | omega | (simp; done) | (simp; omega)) hn).mono ?_; rw [HM.out]; rintro e w1 ⟨rfl, hb1⟩; have hsz1 := hb1.size; simp at hsz1; have hM : BM w1 w.heap.size r c A n cap := (by (repeat (first | (with_reducible assumption) | (with_reducible refine BX.new _ _ _ _ _ _ _ _ (by first | omega | (simp; done) | (simp; omega))) | (with_reducible refine BX.below ?_ (by assumption) (by first | omega | (simp; done) | (simp; omega))) | (with_reducible apply BX.drew) | (with_reducible apply BX.drewN) | (with_reducible refine BX.put ?_) | (with_reducible refine BX.put2 ?_) | (with_reducible refine BX.far ?_ (by simp only [ne_eq]; omega) _) | (with_reducible apply BX.alloc) | (with_reducible refine B3.new _ _ _ _ _ _ (by first | omega | (simp; done) | (simp; omega))) | (with_reducible refine B3.of (by assumption)) | (with_reducible refine B3.below ?_ (by assumption) (by first | omega | (simp; done) | (simp; omega))) | (with_reducible apply B3.drew) | (with_reducible apply B3.drewN) | (with_reducible refine B3.far ?_ (by simp only [ne_eq]; omega) _) | (with_reducible apply B3.alloc)))); have hbw : Below w.heap.size w w1 := (by (repeat (first | (with_reducible exact Below.refl _ _) | (with_reducible assumption) | (with_reducible refine below_drewN ?_ _) | (with_reducible refine Below.drew ?_) | (with_reducible refine Below.alloc ?_ ?_ _) | (with_reducible refine Below.setCell ?_ ?_ _) | (with_reducible refine below_into ?_ (by assumption) (by first | omega | (simp; done) | (simp; omega))) | go_size))); obtain ⟨ma, mb, mc, mf, ml⟩ := hM.mx
    go_wp2_with fail
    go_ret
    exact BV.mk rfl (by (repeat (first | (with_reducible exact Below.refl _ _) | (with_reducible assumption) | (with_reducible refine below_drewN ?_ _) | (with_reducible refine Below.drew ?_) | (with_reducible refine Below.alloc ?_ ?_ _) | (with_reducible refine Below.setCell ?_ ?_ _) | (with_reducible refine below_into ?_ (by assumption) (by first | omega | (simp; done) | (simp; omega))) | go_size)))
  · rw [hv]
    have HM := Lib.hid hm
    rw [hlb] at hl
    have hq2 : ((nx : Int) != r) = true := by simp; omega
    clear hm hv hlb hlx hq hln
    go_enter Try.func44, Try.ntmps44
    go_wp2_with fail
    refine (impl_IsMatrix r c A n cap xs _ (C := w.heap.size) (by (repeat (first | (with_reducible exact H2.out) | (with_reducible refine RI.drew ?_) | (with_reducible refine RI.drewN ?_ _) | (with_reducible refine RI.alloc ?_ (by first | omega | (simp; done) | (simp; omega)) _) | (with_reducible refine RI.setCell ?_ (by first | omega | (simp; done) | (simp; omega)) _) | (with_reducible refine RI.below ?_ (by assumption) (by first | omega | (simp; done) | (simp; omega)))))) (by first | omega | (simp; done) | (simp; omega)) hn).mono ?_; rw [HM.out]; rintro e w1 ⟨rfl, hb1⟩; have hsz1 := hb1.size; simp at hsz1; have hM : BM w1 w.heap.size r c A n cap := (by (repeat (first | (with_reducible assumption) | (with_reducible refine BX.new _ _ _ _ _ _ _ _ (by first | omega | (simp; done) | (simp; omega))) | (with_reducible refine BX.below ?_ (by assumption) (by first | omega | (simp; done) | (simp; omega))) | (with_reducible apply BX.drew) | (with_reducible apply BX.drewN) | (with_reducible refine BX.put ?_) | (with_reducible refine BX.put2 ?_) | (with_reducible refine BX.far ?_ (by simp only [ne_eq]; omega) _) | (with_reducible apply BX.alloc) | (with_reducible refine B3.new _ _ _ _ _ _ (by first | omega | (simp; done) | (simp; omega))) | (with_reducible refine B3.of (by assumption)) | (with_reducible refine B3.below ?_ (by assumption) (by first | omega | (simp; done) | (simp; omega))) | (with_reducible apply B3.drew) | (with_reducible apply B3.drewN) | (with_reducible refine B3.far ?_ (by simp only [ne_eq]; omega) _) | (with_reducible apply B3.alloc)))); have hbw : Below w.heap.size w w1 := (by (repeat (first | (with_reducible exact Below.refl _ _) | (with_reducible assumption) | (with_reducible refine below_drewN ?_ _) | (with_reducible refine Below.drew ?_) | (with_reducible refine Below.alloc ?_ ?_ _) | (with_reducible refine Below.setCell ?_ ?_ _) | (with_reducible refine below_into ?_ (by assumption) (by first | omega | (simp; done) | (simp; omega))) | go_size))); obtain ⟨ma, mb, mc, mf, ml⟩ := hM.mx
    go_wp2_with fail
    go_ret
    exact BV.mk rfl (by (repeat (first | (with_reducible exact Below.refl _ _) | (with_reducible assumption) | (with_reducible refine below_drewN ?_ _) | (with_reducible refine Below.drew ?_) | (with_reducible refine Below.alloc ?_ ?_ _) | (with_reducible refine Below.setCell ?_ ?_ _) | (with_reducible refine below_into ?_ (by assumption) (by first | omega | (simp; done) | (simp; omega))) | go_size)))
  · have HV := Lib.hid hv
    have HM := Lib.hid hm
    have M := isMat_iff.1 hm
    have hr1 := M.r1
    have hc1 := M.c1
    have hMl := M.len
    have htr : trM r c xs = ⟨c, r, tb c.toNat r.toNat (fun a b => cel xs c b a)⟩ := by unfold trM; rw [hm]; rfl
    have HTR := Lib.hid htr
    obtain ⟨R, rfl⟩ := nat_of M.r0
    obtain ⟨C, rfl⟩ := nat_of M.c0
    rw [hlb] at hl
    have hq2 : ((nx : Int) != (R : Int)) = false := by simp; omega
    have hnR : nb ≤ R ∧ R ≤ nb := by have := (bne_eq_false_iff_eq).1 hl; omega
    have hnC : nx ≤ R ∧ R ≤ nx := by omega
    have hNX : Hid (nx = R) := Lib.hid (by omega)
    have hRC : C * R ≤ 24 * 24 := Nat.mul_le_mul (by omega) (by omega)
    simp only [Int.toNat_natCast] at HV HTR
    clear hm hv hlb hlx hq hln M hMl htr
    generalize refB (R : Int) (C : Int) xs bs qs = vb at *
    go_enter Try.func44, Try.ntmps44
    go_wp2_with fail
    refine (impl_IsMatrix R C A n cap xs _ (C := w.heap.size) (by (repeat (first | (with_reducible exact H2.out) | (with_reducible refine RI.drew ?_) | (with_reducible refine RI.drewN ?_ _) | (with_reducible refine RI.alloc ?_ (by first | omega | (simp; done) | (simp; omega)) _) | (with_reducible refine RI.setCell ?_ (by first | omega | (simp; done) | (simp; omega)) _) | (with_reducible refine RI.below ?_ (by assumption) (by first | omega | (simp; done) | (simp; omega)))))) (by first | omega | (simp; done) | (simp; omega)) hn).mono ?_; rw [HM.out]; rintro e w1 ⟨rfl, hb1⟩; have hsz1 := hb1.size; simp at hsz1; have hM : BM w1 w.heap.size R C A n cap := (by (repeat (first | (with_reducible assumption) | (with_reducible refine BX.new _ _ _ _ _ _ _ _ (by first | omega | (simp; done) | (simp; omega))) | (with_reducible refine BX.below ?_ (by assumption) (by first | omega | (simp; done) | (simp; omega))) | (with_reducible apply BX.drew) | (with_reducible apply BX.drewN) | (with_reducible refine BX.put ?_) | (with_reducible refine BX.put2 ?_) | (with_reducible refine BX.far ?_ (by simp only [ne_eq]; omega) _) | (with_reducible apply BX.alloc) | (with_reducible refine B3.new _ _ _ _ _ _ (by first | omega | (simp; done) | (simp; omega))) | (with_reducible refine B3.of (by assumption)) | (with_reducible refine B3.below ?_ (by assumption) (by first | omega | (simp; done) | (simp; omega))) | (with_reducible apply B3.drew) | (with_reducible apply B3.drewN) | (with_reducible refine B3.far ?_ (by simp only [ne_eq]; omega) _) | (with_reducible apply B3.alloc)))); have hbw : Below w.heap.size w w1 := (by (repeat (first | (with_reducible exact Below.refl _ _) | (with_reducible assumption) | (with_reducible refine below_drewN ?_ _) | (with_reducible refine Below.drew ?_) | (with_reducible refine Below.alloc ?_ ?_ _) | (with_reducible refine Below.setCell ?_ ?_ _) | (with_reducible refine below_into ?_ (by assumption) (by first | omega | (simp; done) | (simp; omega))) | go_size))); obtain ⟨ma, mb, mc, mf, ml⟩ := hM.mx
    clear hb1
    go_wp2_with fail
    refine (impl_TransposeOf R C A n cap xs _ (B := w.heap.size) (by (repeat (first | (with_reducible exact H2.out) | (with_reducible refine RI.drew ?_) | (with_reducible refine RI.drewN ?_ _) | (with_reducible refine RI.alloc ?_ (by first | omega | (simp; done) | (simp; omega)) _) | (with_reducible refine RI.setCell ?_ (by first | omega | (simp; done) | (simp; omega)) _) | (with_reducible refine RI.below ?_ (by assumption) (by first | omega | (simp; done) | (simp; omega)))))) (by first | omega | (simp; done) | (simp; omega)) hn).mono ?_
    rw [HM.out, HTR.out]
    rintro e w2 ⟨At, nt, ct, rfl, hot, hb2⟩
    have hsz2 := hb2.size
    have hot1 : OR w2 (w.heap.size + 1) (.slice At nt ct) (tb C R (fun a b : Nat => cel xs C b a)) := OR.mono hot (by omega)
    have hbw2 : Below w.heap.size w w2 := by (repeat (first | (with_reducible exact Below.refl _ _) | (with_reducible assumption) | (with_reducible refine below_drewN ?_ _) | (with_reducible refine Below.drew ?_) | (with_reducible refine Below.alloc ?_ ?_ _) | (with_reducible refine Below.setCell ?_ ?_ _) | (with_reducible refine below_into ?_ (by assumption) (by first | omega | (simp; done) | (simp; omega))) | go_size))
    have hnt := hot1.lenEq
    rw [tb_len] at hnt
    have hct := hot1.caps
    have HNT : Hid (nt ≤ C * R ∧ C * R ≤ nt) := Lib.hid (by omega)
    clear hot hbw hb2 hnt ma mb mc mf ml hM
    go_wp2_with fail
    have hT : BM (w2.alloc (.cells #[.int .i64 C, .int .i64 R, .slice At nt ct] 28)) w2.heap.size C R At nt ct := by (repeat (first | (with_reducible assumption) | (with_reducible refine BX.new _ _ _ _ _ _ _ _ (by first | omega | (simp; done) | (simp; omega))) | (with_reducible refine BX.below ?_ (by assumption) (by first | omega | (simp; done) | (simp; omega))) | (with_reducible apply BX.drew) | (with_reducible apply BX.drewN) | (with_reducible refine BX.put ?_) | (with_reducible refine BX.put2 ?_) | (with_reducible refine BX.far ?_ (by simp only [ne_eq]; omega) _) | (with_reducible apply BX.alloc) | (with_reducible refine B3.new _ _ _ _ _ _ (by first | omega | (simp; done) | (simp; omega))) | (with_reducible refine B3.of (by assumption)) | (with_reducible refine B3.below ?_ (by assumption) (by first | omega | (simp; done) | (simp; omega))) | (with_reducible apply B3.drew) | (with_reducible apply B3.drewN) | (with_reducible refine B3.far ?_ (by simp only [ne_eq]; omega) _) | (with_reducible apply B3.alloc)))
    have hot2 : OR (w2.alloc (.cells #[.int .i64 C, .int .i64 R, .slice At nt ct] 28)) (w.heap.size + 1) (.slice At nt ct) (tb C R (fun a b : Nat => cel xs C b a)) := by (repeat (first | (with_reducible exact hot1) | (with_reducible refine OR.drew ?_) | (with_reducible refine OR.drewN ?_ _) | (with_reducible refine OR.alloc ?_ _) | (with_reducible refine OR.below ?_ (by assumption) (by first | omega | (simp; done) | (simp; omega))) | (with_reducible refine OR.low ?_ (by first | omega | (simp only []; omega) | (simp; omega)) _)))
    have hbw : Below w.heap.size w (w2.alloc (.cells #[.int .i64 C, .int .i64 R, .slice At nt ct] 28)) := by (repeat (first | (with_reducible exact Below.refl _ _) | (with_reducible assumption) | (with_reducible refine below_drewN ?_ _) | (with_reducible refine Below.drew ?_) | (with_reducible refine Below.alloc ?_ ?_ _) | (with_reducible refine Below.setCell ?_ ?_ _) | (with_reducible refine below_into ?_ (by assumption) (by first | omega | (simp; done) | (simp; omega))) | go_size))
    generalize hbT : w2.heap.size = bT at *
    generalize hwo : w2.alloc (.cells #[.int .i64 C, .int .i64 R, .slice At nt ct] 28) = wo at *
    clear hwo hbw2 hot1
    go_loopw [9] (fun v wr => ∃ j : Nat, v = .int .i64 j ∧ j ≤ C ∧ (∀ q, q < j → (refCol xs R C qs q).2 = 1) ∧ BM wr bT C R At nt ct ∧ OR wr (w.heap.size + 1) (.slice At nt ct) (tb C R (fun a b : Nat => cel xs C b a)) ∧ Below w.heap.size w wr) (fun v _ => C - (intOf v).toNat)
    case atStart => exact ⟨0, rfl, Nat.zero_le _, fun j hj => absurd hj (by omega), hT, hot2, hbw⟩
    case round =>
      clear hT hot2 hbw
      obtain ⟨j, rfl, hj, hcols0, hT, hot, hbw⟩ := hrel
      have HCO := Lib.hid hcols0
      clear hcols0
      have hszr := hbw.size
      obtain ⟨ta, tb', tc, tf, tl⟩ := hT.mx
      by_cases hjC : j < C
      · have hfit : j * R + R ≤ C * R := by
          have h3 := Nat.mul_le_mul_right R (show j + 1 ≤ C by omega); rw [Nat.add_mul, Nat.one_mul] at h3; exact h3
        have hrr := ref_row (xs := xs) (R := R) (qs := qs) hjC
        have hden := rsum_den (fun k => ((rowL (tb C R (fun a b : Nat => cel xs C b a)) R j).getD k 0, 1)) (fl qs) R
        rw [hrr] at hden
        obtain ⟨s, hs⟩ : ∃ s, refCol xs R C qs j = s := ⟨_, rfl⟩
        rw [hs] at hden hrr
        have HS0 := Lib.hid hs
        have HRR : Hid (rsum (fun k => ((rowL (tb C R (fun a b : Nat => cel xs C b a)) R j).getD k 0, 1)) (fl qs) nx = s) := Lib.hid (by rw [hNX.out]; exact hrr)
        clear hs hrr
        go_wp2_with fail
        refine (impl_row C R j At nt ct (tb C R (fun a b : Nat => cel xs C b a)) _ (OR.reads (B := w.heap.size + 1) (cap := ct) (by (repeat (first | (with_reducible exact hot) | (with_reducible refine OR.drew ?_) | (with_reducible refine OR.drewN ?_ _) | (with_reducible refine OR.alloc ?_ _) | (with_reducible refine OR.below ?_ (by assumption) (by first | omega | (simp; done) | (simp; omega))) | (with_reducible refine OR.low ?_ (by first | omega | (simp only []; omega) | (simp; omega)) _))))) (Nat.le_refl _) (by omega) (by omega) (by omega) (by omega) (by have := HNT.out; omega)).mono ?_
        rintro e w3 ⟨As, cs, rfl, hri, hb3, hcs1, hcs2⟩
        have hsz3 := hb3.size
        have hT3 : BM w3 bT C R At nt ct := by (repeat (first | (with_reducible exact hT) | (with_reducible refine BX.new _ _ _ _ _ _ _ _ (by first | omega | (simp; done) | (simp; omega))) | (with_reducible refine BX.below ?_ (by assumption) (by first | omega | (simp; done) | (simp; omega))) | (with_reducible apply BX.drew) | (with_reducible apply BX.drewN) | (with_reducible refine BX.put ?_) | (with_reducible refine BX.put2 ?_) | (with_reducible refine BX.far ?_ (by simp only [ne_eq]; omega) _) | (with_reducible apply BX.alloc) | (with_reducible refine B3.new _ _ _ _ _ _ (by first | omega | (simp; done) | (simp; omega))) | (with_reducible exact B3.of hT) | (with_reducible refine B3.below ?_ (by assumption) (by first | omega | (simp; done) | (simp; omega))) | (with_reducible apply B3.drew) | (with_reducible apply B3.drewN) | (with_reducible refine B3.far ?_ (by simp only [ne_eq]; omega) _) | (with_reducible apply B3.alloc)))
        have hot3 : OR w3 (w.heap.size + 1) (.slice At nt ct) (tb C R (fun a b : Nat => cel xs C b a)) := by (repeat (first | (with_reducible exact hot) | (with_reducible refine OR.drew ?_) | (with_reducible refine OR.drewN ?_ _) | (with_reducible refine OR.alloc ?_ _) | (with_reducible refine OR.below ?_ (by assumption) (by first | omega | (simp; done) | (simp; omega))) | (with_reducible refine OR.low ?_ (by first | omega | (simp only []; omega) | (simp; omega)) _)))
        have hbw3 : Below w.heap.size w w3 := by (repeat (first | (with_reducible exact Below.refl _ _) | (with_reducible assumption) | (with_reducible refine below_drewN ?_ _) | (with_reducible refine Below.drew ?_) | (with_reducible refine Below.alloc ?_ ?_ _) | (with_reducible refine Below.setCell ?_ ?_ _) | (with_reducible refine below_into ?_ (by assumption) (by first | omega | (simp; done) | (simp; omega))) | go_size))
        have hlt3 := hT3.lt
        clear hT hot hbw hb3 ta tb' tc tf tl
        go_wp2_with fail
        refine (impl_sumWith Ax As nx capx R cs qs (rowL (tb C R (fun a b : Nat => cel xs C b a)) R j) _ (B := w.heap.size) (by (repeat (first | (with_reducible exact H4.out) | (with_reducible refine RI.drew ?_) | (with_reducible refine RI.drewN ?_ _) | (with_reducible refine RI.alloc ?_ (by first | omega | (simp; done) | (simp; omega)) _) | (with_reducible refine RI.setCell ?_ (by first | omega | (simp; done) | (simp; omega)) _) | (with_reducible refine RI.below ?_ (by assumption) (by first | omega | (simp; done) | (simp; omega)))))) (by (repeat (first | (with_reducible exact hri) | (with_reducible refine RI.drew ?_) | (with_reducible refine RI.drewN ?_ _) | (with_reducible refine RI.alloc ?_ (by first | omega | (simp; done) | (simp; omega)) _) | (with_reducible refine RI.setCell ?_ (by first | omega | (simp; done) | (simp; omega)) _) | (with_reducible refine RI.below ?_ (by assumption) (by first | omega | (simp; done) | (simp; omega)))))) (by first | omega | (simp; done) | (simp; omega)) (by first | omega | (simp; done) | (simp; omega)) hnx (by omega)).mono ?_
        rw [HRR.out]
        rintro e w4 ⟨rfl, hb4⟩
        have hsz4 := hb4.size
        have hT4 : BM w4 bT C R At nt ct := by (repeat (first | (with_reducible exact hT3) | (with_reducible refine BX.new _ _ _ _ _ _ _ _ (by first | omega | (simp; done) | (simp; omega))) | (with_reducible refine BX.below ?_ (by assumption) (by first | omega | (simp; done) | (simp; omega))) | (with_reducible apply BX.drew) | (with_reducible apply BX.drewN) | (with_reducible refine BX.put ?_) | (with_reducible refine BX.put2 ?_) | (with_reducible refine BX.far ?_ (by simp only [ne_eq]; omega) _) | (with_reducible apply BX.alloc) | (with_reducible refine B3.new _ _ _ _ _ _ (by first | omega | (simp; done) | (simp; omega))) | (with_reducible exact B3.of hT3) | (with_reducible refine B3.below ?_ (by assumption) (by first | omega | (simp; done) | (simp; omega))) | (with_reducible apply B3.drew) | (with_reducible apply B3.drewN) | (with_reducible refine B3.far ?_ (by simp only [ne_eq]; omega) _) | (with_reducible apply B3.alloc)))
        have hot4 : OR w4 (w.heap.size + 1) (.slice At nt ct) (tb C R (fun a b : Nat => cel xs C b a)) := by (repeat (first | (with_reducible exact hot3) | (with_reducible refine OR.drew ?_) | (with_reducible refine OR.drewN ?_ _) | (with_reducible refine OR.alloc ?_ _) | (with_reducible refine OR.below ?_ (by assumption) (by first | omega | (simp; done) | (simp; omega))) | (with_reducible refine OR.low ?_ (by first | omega | (simp only []; omega) | (simp; omega)) _)))
        have hbw4 : Below w.heap.size w w4 := by (repeat (first | (with_reducible exact Below.refl _ _) | (with_reducible assumption) | (with_reducible refine below_drewN ?_ _) | (with_reducible refine Below.drew ?_) | (with_reducible refine Below.alloc ?_ ?_ _) | (with_reducible refine Below.setCell ?_ ?_ _) | (with_reducible refine below_into ?_ (by assumption) (by first | omega | (simp; done) | (simp; omega))) | go_size))
        clear hT3 hot3 hbw3 hb4 hri
        unfold rV
        go_wp2_with fail
        obtain ⟨s1, s2⟩ := s
        simp only [] at hden ⊢
        by_cases h0 : s2 = 0
        · have hvv : vb = false := by rw [HV.out]; exact refP_no hjC (by rw [HS0.out]; show ¬ s2 = 1; omega)
          have HVV := Lib.hid hvv
          have HDEN : Hid (ratOk s1 s2 = false) := Lib.hid (by rw [hden]; exact decide_eq_false (fun h => h h0))
          clear hvv h0 hden
          refine (impl_IsRatio s1 s2 _).mono ?_
          rw [HDEN.out]
          rintro e w5 ⟨rfl, hb5⟩
          have hsz5 := hb5.size
          simp at hsz5
          have hS5 : BQ w5 w4.heap.size s1 s2 := by (repeat (first | (with_reducible assumption) | (with_reducible refine Blk.new_at _ _ _ _ (by first | omega | (simp; done) | (simp; omega))) | (with_reducible refine Blk.below ?_ (by assumption) (by first | omega | (simp; done) | (simp; omega))) | (with_reducible apply Blk.drew) | (with_reducible apply Blk.drewN) | (with_reducible refine Blk.far ?_ (by simp only [ne_eq]; omega) _) | (with_reducible apply Blk.alloc)))
          have hbw5 : Below w.heap.size w w5 := by (repeat (first | (with_reducible exact Below.refl _ _) | (with_reducible assumption) | (with_reducible refine below_drewN ?_ _) | (with_reducible refine Below.drew ?_) | (with_reducible refine Below.alloc ?_ ?_ _) | (with_reducible refine Below.setCell ?_ ?_ _) | (with_reducible refine below_into ?_ (by assumption) (by first | omega | (simp; done) | (simp; omega))) | go_size))
          obtain ⟨sa, sb, sf, sl⟩ := hS5.cells
          go_wp2_with fail
          go_ret
          exact BV.mk (vbool HVV.out.symm) (by (repeat (first | (with_reducible exact Below.refl _ _) | (with_reducible assumption) | (with_reducible refine below_drewN ?_ _) | (with_reducible refine Below.drew ?_) | (with_reducible refine Below.alloc ?_ ?_ _) | (with_reducible refine Below.setCell ?_ ?_ _) | (with_reducible refine below_into ?_ (by assumption) (by first | omega | (simp; done) | (simp; omega))) | go_size)))
        · have HDEN : Hid (ratOk s1 s2 = true) := Lib.hid (by rw [hden]; exact decide_eq_true h0)
          clear hden h0
          refine (impl_IsRatio s1 s2 _).mono ?_
          rw [HDEN.out]
          rintro e w5 ⟨rfl, hb5⟩
          have hsz5 := hb5.size
          simp at hsz5
          have hS5 : BQ w5 w4.heap.size s1 s2 := by (repeat (first | (with_reducible assumption) | (with_reducible refine Blk.new_at _ _ _ _ (by first | omega | (simp; done) | (simp; omega))) | (with_reducible refine Blk.below ?_ (by assumption) (by first | omega | (simp; done) | (simp; omega))) | (with_reducible apply Blk.drew) | (with_reducible apply Blk.drewN) | (with_reducible refine Blk.far ?_ (by simp only [ne_eq]; omega) _) | (with_reducible apply Blk.alloc)))
          have hT5 : BM w5 bT C R At nt ct := by (repeat (first | (with_reducible exact hT4) | (with_reducible refine BX.new _ _ _ _ _ _ _ _ (by first | omega | (simp; done) | (simp; omega))) | (with_reducible refine BX.below ?_ (by assumption) (by first | omega | (simp; done) | (simp; omega))) | (with_reducible apply BX.drew) | (with_reducible apply BX.drewN) | (with_reducible refine BX.put ?_) | (with_reducible refine BX.put2 ?_) | (with_reducible refine BX.far ?_ (by simp only [ne_eq]; omega) _) | (with_reducible apply BX.alloc) | (with_reducible refine B3.new _ _ _ _ _ _ (by first | omega | (simp; done) | (simp; omega))) | (with_reducible exact B3.of hT4) | (with_reducible refine B3.below ?_ (by assumption) (by first | omega | (simp; done) | (simp; omega))) | (with_reducible apply B3.drew) | (with_reducible apply B3.drewN) | (with_reducible refine B3.far ?_ (by simp only [ne_eq]; omega) _) | (with_reducible apply B3.alloc)))
          have hot5 : OR w5 (w.heap.size + 1) (.slice At nt ct) (tb C R (fun a b : Nat => cel xs C b a)) := by (repeat (first | (with_reducible exact hot4) | (with_reducible refine OR.drew ?_) | (with_reducible refine OR.drewN ?_ _) | (with_reducible refine OR.alloc ?_ _) | (with_reducible refine OR.below ?_ (by assumption) (by first | omega | (simp; done) | (simp; omega))) | (with_reducible refine OR.low ?_ (by first | omega | (simp only []; omega) | (simp; omega)) _)))
          have hbw5 : Below w.heap.size w w5 := by (repeat (first | (with_reducible exact Below.refl _ _) | (with_reducible assumption) | (with_reducible refine below_drewN ?_ _) | (with_reducible refine Below.drew ?_) | (with_reducible refine Below.alloc ?_ ?_ _) | (with_reducible refine Below.setCell ?_ ?_ _) | (with_reducible refine below_into ?_ (by assumption) (by first | omega | (simp; done) | (simp; omega))) | go_size))
          obtain ⟨sa, sb, sf, sl⟩ := hS5.cells
          by_cases h1 : s2 = 1
          · have hb1 : (s2 != 1) = false := by simpa using h1
            have HCJ : Hid ((refCol xs R C qs j).2 = 1) := Lib.hid (by rw [HS0.out]; exact h1)
            clear h1
            go_wp2_with fail
            go_roundw
            case rel => exact ⟨j + 1, by go_num, by omega, (fun q hq => by
              rcases Nat.lt_or_ge q j with h2 | h2
              · exact HCO.out q h2
              · obtain rfl : q = j := by omega
                exact HCJ.out), by (repeat (first | (with_reducible exact hT5) | (with_reducible refine BX.new _ _ _ _ _ _ _ _ (by first | omega | (simp; done) | (simp; omega))) | (with_reducible refine BX.below ?_ (by assumption) (by first | omega | (simp; done) | (simp; omega))) | (with_reducible apply BX.drew) | (with_reducible apply BX.drewN) | (with_reducible refine BX.put ?_) | (with_reducible refine BX.put2 ?_) | (with_reducible refine BX.far ?_ (by simp only [ne_eq]; omega) _) | (with_reducible apply BX.alloc) | (with_reducible refine B3.new _ _ _ _ _ _ (by first | omega | (simp; done) | (simp; omega))) | (with_reducible exact B3.of hT5) | (with_reducible refine B3.below ?_ (by assumption) (by first | omega | (simp; done) | (simp; omega))) | (with_reducible apply B3.drew) | (with_reducible apply B3.drewN) | (with_reducible refine B3.far ?_ (by simp only [ne_eq]; omega) _) | (with_reducible apply B3.alloc))), by (repeat (first | (with_reducible exact hot5) | (with_reducible refine OR.drew ?_) | (with_reducible refine OR.drewN ?_ _) | (with_reducible refine OR.alloc ?_ _) | (with_reducible refine OR.below ?_ (by assumption) (by first | omega | (simp; done) | (simp; omega))) | (with_reducible refine OR.low ?_ (by first | omega | (simp only []; omega) | (simp; omega)) _))), by (repeat (first | (with_reducible exact Below.refl _ _) | (with_reducible assumption) | (with_reducible refine below_drewN ?_ _) | (with_reducible refine Below.drew ?_) | (with_reducible refine Below.alloc ?_ ?_ _) | (with_reducible refine Below.setCell ?_ ?_ _) | (with_reducible refine below_into ?_ (by assumption) (by first | omega | (simp; done) | (simp; omega))) | go_size))⟩
            case measure => simp only [intOf]; omega
          · have hvv : vb = false := by rw [HV.out]; exact refP_no hjC (by rw [HS0.out]; exact h1)
            have HVV := Lib.hid hvv
            have hb1 : (s2 != 1) = true := by simpa using h1
            clear hvv h1
            go_wp2_with fail
            go_ret
            exact BV.mk (vbool HVV.out.symm) (by (repeat (first | (with_reducible exact Below.refl _ _) | (with_reducible assumption) | (with_reducible refine below_drewN ?_ _) | (with_reducible refine Below.drew ?_) | (with_reducible refine Below.alloc ?_ ?_ _) | (with_reducible refine Below.setCell ?_ ?_ _) | (with_reducible refine below_into ?_ (by assumption) (by first | omega | (simp; done) | (simp; omega))) | go_size)))
      · obtain rfl : j = C := by omega
        have hvv : vb = (decide ((refEnd R bs qs).2 ≠ 0) && decide ((refEnd R bs qs).2 ≠ 1)) := by rw [HV.out]; exact refP_yes HCO.out
        have HVV := Lib.hid hvv
        have hden := rsum_den (fun k => (bs.getD k 0, 1)) (fl qs) R
        have hrr : rsum (fun k => (bs.getD k 0, 1)) (fl qs) R = refEnd R bs qs := rfl
        obtain ⟨s, hs⟩ : ∃ s, refEnd R bs qs = s := ⟨_, rfl⟩
        rw [hrr, hs] at hden
        rw [hs] at hrr
        have HRR : Hid (rsum (fun k => (bs.getD k 0, 1)) (fl qs) nx = s) := Lib.hid (by rw [hNX.out]; exact hrr)
        have HS0 := Lib.hid hs
        clear hvv hs hrr
        go_wp2_with fail
        refine (impl_sumWith Ax Ab nx capx nb capb qs bs _ (B := w.heap.size) (B' := w.heap.size) (by (repeat (first | (with_reducible exact H4.out) | (with_reducible refine RI.drew ?_) | (with_reducible refine RI.drewN ?_ _) | (with_reducible refine RI.alloc ?_ (by first | omega | (simp; done) | (simp; omega)) _) | (with_reducible refine RI.setCell ?_ (by first | omega | (simp; done) | (simp; omega)) _) | (with_reducible refine RI.below ?_ (by assumption) (by first | omega | (simp; done) | (simp; omega)))))) (by (repeat (first | (with_reducible exact H3.out) | (with_reducible refine RI.drew ?_) | (with_reducible refine RI.drewN ?_ _) | (with_reducible refine RI.alloc ?_ (by first | omega | (simp; done) | (simp; omega)) _) | (with_reducible refine RI.setCell ?_ (by first | omega | (simp; done) | (simp; omega)) _) | (with_reducible refine RI.below ?_ (by assumption) (by first | omega | (simp; done) | (simp; omega)))))) (by first | omega | (simp; done) | (simp; omega)) (by first | omega | (simp; done) | (simp; omega)) hnx (by omega)).mono ?_
        rw [HRR.out]
        rintro e w4 ⟨rfl, hb4⟩
        have hsz4 := hb4.size
        have hbw4 : Below w.heap.size w w4 := by (repeat (first | (with_reducible exact Below.refl _ _) | (with_reducible assumption) | (with_reducible refine below_drewN ?_ _) | (with_reducible refine Below.drew ?_) | (with_reducible refine Below.alloc ?_ ?_ _) | (with_reducible refine Below.setCell ?_ ?_ _) | (with_reducible refine below_into ?_ (by assumption) (by first | omega | (simp; done) | (simp; omega))) | go_size))
        clear hb4
        unfold rV
        go_wp2_with fail
        obtain ⟨s1, s2⟩ := s
        simp only [] at hden ⊢
        rcases hr : ratOk s1 s2 with _ | _
        all_goals
          rw [hr] at hden
          have HDEN := Lib.hid hr
          have HD2 := Lib.hid hden
          clear hr hden
          refine (impl_IsRatio s1 s2 _).mono ?_
          rw [HDEN.out]
          rintro e w5 ⟨rfl, hb5⟩
          have hsz5 := hb5.size
          simp at hsz5
          have hS5 : BQ w5 w4.heap.size s1 s2 := by (repeat (first | (with_reducible assumption) | (with_reducible refine Blk.new_at _ _ _ _ (by first | omega | (simp; done) | (simp; omega))) | (with_reducible refine Blk.below ?_ (by assumption) (by first | omega | (simp; done) | (simp; omega))) | (with_reducible apply Blk.drew) | (with_reducible apply Blk.drewN) | (with_reducible refine Blk.far ?_ (by simp only [ne_eq]; omega) _) | (with_reducible apply Blk.alloc)))
          have hbw5 : Below w.heap.size w w5 := by (repeat (first | (with_reducible exact Below.refl _ _) | (with_reducible assumption) | (with_reducible refine below_drewN ?_ _) | (with_reducible refine Below.drew ?_) | (with_reducible refine Below.alloc ?_ ?_ _) | (with_reducible refine Below.setCell ?_ ?_ _) | (with_reducible refine below_into ?_ (by assumption) (by first | omega | (simp; done) | (simp; omega))) | go_size))
          obtain ⟨sa, sb, sf, sl⟩ := hS5.cells
          go_wp2_with fail
          go_ret
        · refine BV.mk (vbool ?_) (by (repeat (first | (with_reducible exact Below.refl _ _) | (with_reducible assumption) | (with_reducible refine below_drewN ?_ _) | (with_reducible refine Below.drew ?_) | (with_reducible refine Below.alloc ?_ ?_ _) | (with_reducible refine Below.setCell ?_ ?_ _) | (with_reducible refine below_into ?_ (by assumption) (by first | omega | (simp; done) | (simp; omega))) | go_size)))
          rw [HVV.out, HS0.out, ← HD2.out, Bool.false_and]
        · refine BV.mk (vbool ?_) (by (repeat (first | (with_reducible exact Below.refl _ _) | (with_reducible assumption) | (with_reducible refine below_drewN ?_ _) | (with_reducible refine Below.drew ?_) | (with_reducible refine Below.alloc ?_ ?_ _) | (with_reducible refine Below.setCell ?_ ?_ _) | (with_reducible refine below_into ?_ (by assumption) (by first | omega | (simp; done) | (simp; omega))) | go_size)))
          rw [HVV.out, HS0.out, ← HD2.out, Bool.true_and]
          by_cases h : s2 = 1 <;> simp [h]
end Go.Proofs.Ytfiilpamekpmpaa

/-
  DERIVED. CoordinatesOf: what it computes, row by row; l1Bads, l16Pivot of the reference.
-/
import Derived.Test.YtpecjobpihinoaaIsLat
import Derived.Test.YtpecjobpihinoaaFit
import Derived.Test.YtpecjobpihinoaaZeroRow
namespace Go.Proofs.Ytpecjobpihinoaa
open Go.RowKit
set_option linter.unusedVariables false
set_option linter.unusedSimpArgs false
/-- The rest of a vector behind q times row i; whether every number of it is within the limit. -/
def coRow (xs : List Int) (C i : Nat) (q : Int) (ys : List Int) : List Int := (List.range C).map fun j => ys.getD j 0 - cel xs C i j * q
def coOkJ (xs : List Int) (C i : Nat) (q : Int) (ys : List Int) (j : Nat) : Bool := isNum (cel xs C i j * q) && isNum (ys.getD j 0 - cel xs C i j * q)
def coQ (xs : List Int) (C i : Nat) (ys : List Int) : Int := (ys.getD (pv xs C i) 0).tdiv (cel xs C i (pv xs C i))
def coM (xs : List Int) (C i : Nat) (ys : List Int) : Int := (ys.getD (pv xs C i) 0).tmod (cel xs C i (pv xs C i))
def coAll (xs : List Int) (C i : Nat) (ys : List Int) : Bool := (List.range C).all (coOkJ xs C i (coQ xs C i ys) ys)
/-- The row i and the m - 1 behind it. -/
def coF (xs : List Int) (C : Nat) : Nat → Nat → List Int → List Int → Option (List Int)
  | 0, i, ys, out => if ys.all (fun y => decide (y = 0)) then some out else none
  | m + 1, i, ys, out => if coM xs C i ys = 0 then (if coAll xs C i ys then coF xs C m (i + 1) (coRow xs C i (coQ xs C i ys) ys) (out ++ [coQ xs C i ys]) else none) else none
def coB (r c : Int) (xs v : List Int) : Bool := latB r c xs && decide ((v.length : Int) = c) && v.all isNum
def coO (r c : Int) (xs v : List Int) : Option (List Int) := if coB r c xs v then coF xs c.toNat r.toNat 0 v [] else none
def coV (r c : Int) (xs v : List Int) : List Int := (coO r c xs v).getD []
def coIs (r c : Int) (xs v : List Int) : Bool := (coO r c xs v).isSome
theorem coF_zero {xs : List Int} {C i : Nat} {ys out : List Int} : coF xs C 0 i ys out = if ys.all (fun y => decide (y = 0)) then some out else none := rfl
theorem coF_no1 {xs : List Int} {C m i : Nat} {ys out : List Int} (h : ¬ coM xs C i ys = 0) : coF xs C (m + 1) i ys out = none := by
  show (if _ then _ else _) = _
  rw [if_neg h]
theorem coF_no2 {xs : List Int} {C m i : Nat} {ys out : List Int} (h : coAll xs C i ys = false) : coF xs C (m + 1) i ys out = none := by
  show (if _ then _ else _) = _
  rw [h]
  split <;> rfl
theorem coF_yes {xs : List Int} {C m i : Nat} {ys out : List Int} (h : coM xs C i ys = 0) (h2 : coAll xs C i ys = true) : coF xs C (m + 1) i ys out = coF xs C m (i + 1) (coRow xs C i (coQ xs C i ys) ys) (out ++ [coQ xs C i ys]) := by
  show (if _ then _ else _) = _
  rw [if_pos h, if_pos h2]
theorem coRow_len (xs : List Int) (C i : Nat) (q : Int) (ys : List Int) : (coRow xs C i q ys).length = C := by simp [coRow]
theorem coRow_getD {xs : List Int} {C i j : Nat} {q : Int} {ys : List Int} (h : j < C) : (coRow xs C i q ys).getD j 0 = ys.getD j 0 - cel xs C i j * q := by
  simp [coRow, List.getD, h]
/-- The reference's cell: a mark where the program stops. -/
def coMk (xs : List Int) (C i : Nat) (q : Int) (ys : List Int) (j : Nat) : Int := addB (ys.getD j 0) (mulF (cel xs C i j) (-q))
theorem coMk_yes {xs : List Int} {C i j : Nat} {q : Int} {ys : List Int} (hc : -400000000 ≤ cel xs C i j ∧ cel xs C i j ≤ 400000000) (hq : -400000000 ≤ q ∧ q ≤ 400000000) (hy : -400000000 ≤ ys.getD j 0 ∧ ys.getD j 0 ≤ 400000000)
    (h : coOkJ xs C i q ys j = true) : coMk xs C i q ys j = ys.getD j 0 - cel xs C i j * q := by
  unfold coOkJ at h
  rw [Bool.and_eq_true, isNum_iff, isNum_iff] at h
  obtain ⟨h1, h2⟩ := h
  unfold coMk
  rw [mulF_num hc (by omega), Int.mul_neg, fit_in (by omega), addB_num hy (by omega), fit_in (by omega)]
  omega
theorem coMk_no {xs : List Int} {C i j : Nat} {q : Int} {ys : List Int} (hc : -400000000 ≤ cel xs C i j ∧ cel xs C i j ≤ 400000000) (hq : -400000000 ≤ q ∧ q ≤ 400000000) (hy : -400000000 ≤ ys.getD j 0 ∧ ys.getD j 0 ≤ 400000000)
    (h : coOkJ xs C i q ys j = false) : coMk xs C i q ys j = bad := by
  unfold coMk
  rw [mulF_num hc (by omega), Int.mul_neg]
  by_cases h1 : isNum (cel xs C i j * q) = true
  · have h2 : isNum (ys.getD j 0 - cel xs C i j * q) = false := by
      unfold coOkJ at h
      rw [h1, Bool.true_and] at h
      exact h
    have h3 := (isNum_iff _).1 h1
    have h4 := (isNum_not _).1 h2
    rw [fit_in (by omega), addB_num hy (by omega), fit_out (by omega)]
  · have h3 := (isNum_not _).1 (Bool.eq_false_iff.2 h1)
    rw [fit_out (by omega)]
    unfold addB
    rw [if_pos (.inr rfl)]
def noBad (x : Int) : Bool := !(x == -4611686018427387904)
theorem spec_l1Bads (A : Option Addr) (n cap : Nat) (xs : List Int) (w : World) {B : Nat} (h : RI w B A n xs) (hn : n ≤ 1048576) :
    Calls Try.prog 58 #[.slice A n cap] w (EV (.bool (!xs.all noBad)) w) := by
  have hlen := h.len
  have hlx : xs.length ≤ n ∧ n ≤ xs.length := by omega
  have H := Lib.hid h
  clear h hlen
  go_enter Try.func58, Try.ntmps58
  go_wp2_with fail
  go_loop [3] (fun v => ∃ k : Nat, v = .int .i64 k ∧ k ≤ n ∧ (xs.take k).all noBad = true) (fun v => n - (intOf v).toNat)
  case atStart => exact ⟨0, rfl, Nat.zero_le _, by simp⟩
  case round =>
    obtain ⟨k, rfl, hk, hz⟩ := hrel
    have HZ := Lib.hid hz
    clear hz
    by_cases hlt : k < n
    · obtain ⟨b, o, rfl, hbb, hcells⟩ := H.out.2 (by omega)
      have c1 := hcells k hlt
      clear hcells
      have hat := all_take (xs := xs) (p := noBad) (show k < xs.length by omega)
      have hfa := all_false (xs := xs) (p := noBad) (show k < xs.length by omega)
      rw [HZ.out, Bool.true_and] at hat
      generalize xs.getD k 0 = x at c1 hat hfa
      rcases hx : (x == -4611686018427387904) with _ | _
      · have hn := Lib.hid (hat.trans (show noBad x = true by unfold noBad; rw [hx]; rfl))
        clear hat hfa
        go_wp2_with fail
        go_round
        case rel => exact ⟨k + 1, by go_num, by omega, hn.out⟩
        case measure => simp only [intOf]; omega
      · have hn := Lib.hid (hfa (show noBad x = false by unfold noBad; rw [hx]; rfl))
        clear hat hfa
        go_wp2_with fail
        go_ret
        exact EV.mk (vbool (by rw [hn.out]; rfl))
    · have hall := Lib.hid (show xs.all noBad = true by
        have := HZ.out
        rw [List.take_of_length_le (by omega)] at this
        exact this)
      go_wp2_with fail
      go_ret
      exact EV.mk (vbool (by rw [hall.out]; rfl))
set_option maxHeartbeats 4000000 in
theorem spec_l16Pivot (r : Int) (C i : Nat) (A : Option Addr) (n cap : Nat) (xs : List Int) (w : World) {B : Nat} (h : RI w B A n xs) (hB : B ≤ w.heap.size) (hn : n ≤ 1048576) (hp : pv xs C i < C) (hC : C ≤ 100) (hi : i ≤ 100) (hk : i * C + C ≤ n) :
    Calls Try.prog 54 #[.agg #[.int .i64 r, .int .i64 C, .slice A n cap], .int .i64 i] w (BV (.int .i64 (pv xs C i)) w) := by
  have hlen := h.len
  have hiC : i * C ≤ 100 * 100 := Nat.mul_le_mul hi hC
  have hiCe : ((i * C : Nat) : Int) = (i : Int) * (C : Int) := by push_cast; rfl
  have hne : cel xs C i (pv xs C i) ≠ 0 := by
    rw [← rowL_getD hp]
    exact fcN_ne (rowL xs C i) (by rw [rowL_len (by omega)]; exact hp)
  have hzz : ∀ j, j < pv xs C i → cel xs C i j = 0 := fun j hj => pv_zero hj (by omega)
  have HNE := Lib.hid hne
  have HZZ := Lib.hid hzz
  have H := Lib.hid (h.more hB)
  have HE := Lib.hid hiCe
  generalize pv xs C i = P at *
  clear h hne hzz hlen hiCe
  go_enter Try.func54, Try.ntmps54
  go_wp2_with fail
  go_loopw [5] (fun v wr => ∃ k : Nat, v = .int .i64 k ∧ k ≤ P ∧ BM wr w.heap.size r C A n cap ∧ Below w.heap.size w wr) (fun v _ => P - (intOf v).toNat)
  case atStart => exact ⟨0, rfl, Nat.zero_le _, by (repeat (first | (with_reducible assumption) | (with_reducible refine BX.new _ _ _ _ _ _ _ _ (by first | omega | (simp; done) | (simp; omega))) | (with_reducible refine BX.below ?_ (by assumption) (by first | omega | (simp; done) | (simp; omega))) | (with_reducible apply BX.drew) | (with_reducible apply BX.drewN) | (with_reducible refine BX.put ?_) | (with_reducible refine BX.put2 ?_) | (with_reducible refine BX.far ?_ (by simp only [ne_eq]; omega) _) | (with_reducible apply BX.alloc) | (with_reducible refine B3.new _ _ _ _ _ _ (by first | omega | (simp; done) | (simp; omega))) | (with_reducible refine B3.of (by assumption)) | (with_reducible refine B3.below ?_ (by assumption) (by first | omega | (simp; done) | (simp; omega))) | (with_reducible apply B3.drew) | (with_reducible apply B3.drewN) | (with_reducible refine B3.far ?_ (by simp only [ne_eq]; omega) _) | (with_reducible apply B3.alloc))), by (repeat (first | (with_reducible exact Below.refl _ _) | (with_reducible assumption) | (with_reducible refine below_drewN ?_ _) | (with_reducible refine Below.drew ?_) | (with_reducible refine Below.alloc ?_ ?_ _) | (with_reducible refine Below.setCell ?_ ?_ _) | (with_reducible refine below_into ?_ (by assumption) (by first | omega | (simp; done) | (simp; omega))) | go_size))⟩
  case round =>
    obtain ⟨k, rfl, hk1, hM, hbw⟩ := hrel
    have hszr := hbw.size
    have hlM := hM.lt
    have hie := HE.out
    obtain ⟨ma, mb, mc, mf, ml⟩ := hM.mx
    go_wp2_with fail
    refine (spec_l12Cell r C i k A n cap xs _ (C := w.heap.size) (by (repeat (first | (with_reducible exact H.out) | (with_reducible refine RI.drew ?_) | (with_reducible refine RI.drewN ?_ _) | (with_reducible refine RI.alloc ?_ (by first | omega | (simp; done) | (simp; omega)) _) | (with_reducible refine RI.setCell ?_ (by first | omega | (simp; done) | (simp; omega)) _) | (with_reducible refine RI.below ?_ (by assumption) (by first | omega | (simp; done) | (simp; omega)))))) (by first | omega | (simp; done) | (simp; omega)) (by omega) (by omega) (by omega)).mono ?_
    rintro e w1 ⟨rfl, hb1⟩
    have hsz1 := hb1.size
    (try simp at hsz1)
    have hM1 : BM w1 w.heap.size r C A n cap := by (repeat (first | (with_reducible exact hM) | (with_reducible refine BX.new _ _ _ _ _ _ _ _ (by first | omega | (simp; done) | (simp; omega))) | (with_reducible refine BX.below ?_ (by assumption) (by first | omega | (simp; done) | (simp; omega))) | (with_reducible apply BX.drew) | (with_reducible apply BX.drewN) | (with_reducible refine BX.put ?_) | (with_reducible refine BX.put2 ?_) | (with_reducible refine BX.far ?_ (by simp only [ne_eq]; omega) _) | (with_reducible apply BX.alloc) | (with_reducible refine B3.new _ _ _ _ _ _ (by first | omega | (simp; done) | (simp; omega))) | (with_reducible exact B3.of hM) | (with_reducible refine B3.below ?_ (by assumption) (by first | omega | (simp; done) | (simp; omega))) | (with_reducible apply B3.drew) | (with_reducible apply B3.drewN) | (with_reducible refine B3.far ?_ (by simp only [ne_eq]; omega) _) | (with_reducible apply B3.alloc)))
    have hbw1 : Below w.heap.size w w1 := by (repeat (first | (with_reducible exact Below.refl _ _) | (with_reducible assumption) | (with_reducible refine below_drewN ?_ _) | (with_reducible refine Below.drew ?_) | (with_reducible refine Below.alloc ?_ ?_ _) | (with_reducible refine Below.setCell ?_ ?_ _) | (with_reducible refine below_into ?_ (by assumption) (by first | omega | (simp; done) | (simp; omega))) | go_size))
    clear ma mb mc mf ml
    by_cases hlt : k < P
    · have e1 : (cel xs C i k == 0) = true := by simpa using HZZ.out k hlt
      generalize cel xs C i k = x at e1
      go_wp2_with fail
      go_roundw
      case rel => exact ⟨k + 1, by go_num, by omega, by (repeat (first | (with_reducible exact hM1) | (with_reducible refine BX.new _ _ _ _ _ _ _ _ (by first | omega | (simp; done) | (simp; omega))) | (with_reducible refine BX.below ?_ (by assumption) (by first | omega | (simp; done) | (simp; omega))) | (with_reducible apply BX.drew) | (with_reducible apply BX.drewN) | (with_reducible refine BX.put ?_) | (with_reducible refine BX.put2 ?_) | (with_reducible refine BX.far ?_ (by simp only [ne_eq]; omega) _) | (with_reducible apply BX.alloc) | (with_reducible refine B3.new _ _ _ _ _ _ (by first | omega | (simp; done) | (simp; omega))) | (with_reducible exact B3.of hM1) | (with_reducible refine B3.below ?_ (by assumption) (by first | omega | (simp; done) | (simp; omega))) | (with_reducible apply B3.drew) | (with_reducible apply B3.drewN) | (with_reducible refine B3.far ?_ (by simp only [ne_eq]; omega) _) | (with_reducible apply B3.alloc))), by (repeat (first | (with_reducible exact Below.refl _ _) | (with_reducible assumption) | (with_reducible refine below_drewN ?_ _) | (with_reducible refine Below.drew ?_) | (with_reducible refine Below.alloc ?_ ?_ _) | (with_reducible refine Below.setCell ?_ ?_ _) | (with_reducible refine below_into ?_ (by assumption) (by first | omega | (simp; done) | (simp; omega))) | go_size))⟩
      case measure => simp only [intOf]; omega
    · obtain rfl : k = P := by omega
      have e1 : (cel xs C i k == 0) = false := by simpa using HNE.out
      generalize cel xs C i k = x at e1
      go_wp2_with fail
      go_ret
      exact BV.mk rfl (by (repeat (first | (with_reducible exact Below.refl _ _) | (with_reducible assumption) | (with_reducible refine below_drewN ?_ _) | (with_reducible refine Below.drew ?_) | (with_reducible refine Below.alloc ?_ ?_ _) | (with_reducible refine Below.setCell ?_ ?_ _) | (with_reducible refine below_into ?_ (by assumption) (by first | omega | (simp; done) | (simp; omega))) | go_size)))
end Go.Proofs.Ytpecjobpihinoaa

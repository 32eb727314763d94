/-
  DERIVED. isSystem, l11Right; what SolveByDeterminants computes; l11Replaced.
-/
import Derived.Test.YtpecjobpihinoaaDetS
import Derived.Test.YtpecjobpihinoaaRats
import Derived.Test.YtpecjobpihinoaaRatA
import Derived.Test.YtpecjobpihinoaaElem
import Derived.Test.YtpecjobpihinoaaCopyS
namespace Go.Proofs.Ytpecjobpihinoaa
open Go.RowKit
set_option linter.unusedVariables false
set_option linter.unusedSimpArgs false
def sysB (r c : Int) (xs bs : List Int) : Bool := isSq r c xs && decide ((bs.length : Int) = r) && bs.all isNum
theorem sys_cases (r c : Int) (xs bs : List Int) : (isSq r c xs = false ∧ sysB r c xs bs = false) ∨ (isSq r c xs = true ∧ ((bs.length : Int) == r) = false ∧ sysB r c xs bs = false) ∨ (isSq r c xs = true ∧ ((bs.length : Int) == r) = true ∧ sysB r c xs bs = bs.all isNum) := by
  unfold sysB
  rcases isSq r c xs with _ | _
  · left; simp
  · right
    by_cases h : (bs.length : Int) = r
    · right; simp [h]
    · left; simp [h]
set_option maxHeartbeats 4000000 in
theorem impl_isSystem (r c : Int) (A Ab : Option Addr) (n cap nb capb : Nat) (xs bs : List Int) (w : World) {B B' : Nat} (h : RI w B A n xs) (hb : RI w B' Ab nb bs) (hB : B ≤ w.heap.size) (hB' : B' ≤ w.heap.size) (hn : n ≤ 1048576) (hnb : nb ≤ 1048576) :
    Calls Try.prog 91 #[.agg #[.int .i64 r, .int .i64 c, .slice A n cap], .slice Ab nb capb] w (BV (.bool (sysB r c xs bs)) w) := by
  have hlb := hb.len
  have H2 := Lib.hid (h.more hB)
  have H3 := Lib.hid (hb.more hB')
  clear h hb
  rcases sys_cases r c xs bs with ⟨hm, hv⟩ | ⟨hm, hl, hv⟩ | ⟨hm, hl, hv⟩
  all_goals
    have HM := Lib.hid hm
    have HV := Lib.hid hv
    try rw [hlb] at hl
    clear hm hv hlb
    go_enter Try.func91, Try.ntmps91
    go_wp2_with fail
    refine (impl_IsSquare r c A n cap xs _ (B := w.heap.size) (by (repeat (first | (with_reducible exact H2.out) | (with_reducible refine RI.drew ?_) | (with_reducible refine RI.drewN ?_ _) | (with_reducible refine RI.alloc ?_ (by first | omega | (simp; done) | (simp; omega)) _) | (with_reducible refine RI.setCell ?_ (by first | omega | (simp; done) | (simp; omega)) _) | (with_reducible refine RI.below ?_ (by assumption) (by first | omega | (simp; done) | (simp; omega)))))) (by first | omega | (simp; done) | (simp; omega)) hn).mono ?_
    rw [HM.out]
    rintro e w1 ⟨rfl, hb1⟩
    have hsz1 := hb1.size
    simp at hsz1
    have hM : BM w1 w.heap.size r c A n cap := by (repeat (first | (with_reducible assumption) | (with_reducible refine BX.new _ _ _ _ _ _ _ _ (by first | omega | (simp; done) | (simp; omega))) | (with_reducible refine BX.below ?_ (by assumption) (by first | omega | (simp; done) | (simp; omega))) | (with_reducible apply BX.drew) | (with_reducible apply BX.drewN) | (with_reducible refine BX.put ?_) | (with_reducible refine BX.put2 ?_) | (with_reducible refine BX.far ?_ (by simp only [ne_eq]; omega) _) | (with_reducible apply BX.alloc) | (with_reducible refine B3.new _ _ _ _ _ _ (by first | omega | (simp; done) | (simp; omega))) | (with_reducible refine B3.of (by assumption)) | (with_reducible refine B3.below ?_ (by assumption) (by first | omega | (simp; done) | (simp; omega))) | (with_reducible apply B3.drew) | (with_reducible apply B3.drewN) | (with_reducible refine B3.far ?_ (by simp only [ne_eq]; omega) _) | (with_reducible apply B3.alloc)))
    have hbw : Below w.heap.size w w1 := by (repeat (first | (with_reducible exact Below.refl _ _) | (with_reducible assumption) | (with_reducible refine below_drewN ?_ _) | (with_reducible refine Below.drew ?_) | (with_reducible refine Below.alloc ?_ ?_ _) | (with_reducible refine Below.setCell ?_ ?_ _) | (with_reducible refine below_into ?_ (by assumption) (by first | omega | (simp; done) | (simp; omega))) | go_size))
    obtain ⟨ma, mb, mc, mf, ml⟩ := hM.mx
    go_wp2_with fail
  · go_ret
    exact BV.mk (vbool HV.out.symm) (by (repeat (first | (with_reducible exact Below.refl _ _) | (with_reducible assumption) | (with_reducible refine below_drewN ?_ _) | (with_reducible refine Below.drew ?_) | (with_reducible refine Below.alloc ?_ ?_ _) | (with_reducible refine Below.setCell ?_ ?_ _) | (with_reducible refine below_into ?_ (by assumption) (by first | omega | (simp; done) | (simp; omega))) | go_size)))
  · go_ret
    exact BV.mk (vbool HV.out.symm) (by (repeat (first | (with_reducible exact Below.refl _ _) | (with_reducible assumption) | (with_reducible refine below_drewN ?_ _) | (with_reducible refine Below.drew ?_) | (with_reducible refine Below.alloc ?_ ?_ _) | (with_reducible refine Below.setCell ?_ ?_ _) | (with_reducible refine below_into ?_ (by assumption) (by first | omega | (simp; done) | (simp; omega))) | go_size)))
  · refine (impl_areNumbers Ab nb capb bs _ (C := w.heap.size) (by (repeat (first | (with_reducible exact H3.out) | (with_reducible refine RI.drew ?_) | (with_reducible refine RI.drewN ?_ _) | (with_reducible refine RI.alloc ?_ (by first | omega | (simp; done) | (simp; omega)) _) | (with_reducible refine RI.setCell ?_ (by first | omega | (simp; done) | (simp; omega)) _) | (with_reducible refine RI.below ?_ (by assumption) (by first | omega | (simp; done) | (simp; omega)))))) hnb).mono ?_
    rintro e w' ⟨rfl, rfl⟩
    go_wp2_with fail
    go_ret
    exact BV.mk (vbool HV.out.symm) (by (repeat (first | (with_reducible exact Below.refl _ _) | (with_reducible assumption) | (with_reducible refine below_drewN ?_ _) | (with_reducible refine Below.drew ?_) | (with_reducible refine Below.alloc ?_ ?_ _) | (with_reducible refine Below.setCell ?_ ?_ _) | (with_reducible refine below_into ?_ (by assumption) (by first | omega | (simp; done) | (simp; omega))) | go_size)))
set_option maxHeartbeats 4000000 in
theorem spec_l11Right (r c : Int) (A Ab : Option Addr) (n cap nb capb : Nat) (xs bs : List Int) (w : World) {B B' : Nat} (h : RI w B A n xs) (hb : RI w B' Ab nb bs) (hB : B ≤ w.heap.size) (hB' : B' ≤ w.heap.size) (hn : n ≤ 1048576) (hnb : nb ≤ 1048576) :
    Calls Try.prog 87 #[.agg #[.int .i64 r, .int .i64 c, .slice A n cap], .slice Ab nb capb] w (BV (.bool (sysB r c xs bs)) w) := by
  have hlb := hb.len
  have hlb2 : bs.length ≤ nb ∧ nb ≤ bs.length := by omega
  have H2 := Lib.hid (h.more hB)
  have H3 := Lib.hid (hb.more hB')
  have hsy : sysB r c xs bs = (isSq r c xs && decide ((bs.length : Int) = r) && bs.all isNum) := rfl
  rw [hlb] at hsy
  generalize sysB r c xs bs = vb at *
  have HSY := Lib.hid hsy
  clear h hb hlb hsy
  go_enter Try.func87, Try.ntmps87
  go_wp2_with fail
  go_loopw [5] (fun v wr => ∃ k : Nat, v = .int .i64 k ∧ k ≤ nb ∧ (bs.take k).all isNum = true ∧ BM wr w.heap.size r c A n cap ∧ Below w.heap.size w wr) (fun v _ => nb - (intOf v).toNat)
  case atStart => exact ⟨0, rfl, Nat.zero_le _, by simp, by (repeat (first | (with_reducible assumption) | (with_reducible refine BX.new _ _ _ _ _ _ _ _ (by first | omega | (simp; done) | (simp; omega))) | (with_reducible refine BX.below ?_ (by assumption) (by first | omega | (simp; done) | (simp; omega))) | (with_reducible apply BX.drew) | (with_reducible apply BX.drewN) | (with_reducible refine BX.put ?_) | (with_reducible refine BX.put2 ?_) | (with_reducible refine BX.far ?_ (by simp only [ne_eq]; omega) _) | (with_reducible apply BX.alloc) | (with_reducible refine B3.new _ _ _ _ _ _ (by first | omega | (simp; done) | (simp; omega))) | (with_reducible refine B3.of (by assumption)) | (with_reducible refine B3.below ?_ (by assumption) (by first | omega | (simp; done) | (simp; omega))) | (with_reducible apply B3.drew) | (with_reducible apply B3.drewN) | (with_reducible refine B3.far ?_ (by simp only [ne_eq]; omega) _) | (with_reducible apply B3.alloc))), by (repeat (first | (with_reducible exact Below.refl _ _) | (with_reducible assumption) | (with_reducible refine below_drewN ?_ _) | (with_reducible refine Below.drew ?_) | (with_reducible refine Below.alloc ?_ ?_ _) | (with_reducible refine Below.setCell ?_ ?_ _) | (with_reducible refine below_into ?_ (by assumption) (by first | omega | (simp; done) | (simp; omega))) | go_size))⟩
  case round =>
    obtain ⟨k, rfl, hk, htk, hM, hbw⟩ := hrel
    have HTK := Lib.hid htk
    clear htk
    by_cases hkn : k < nb
    · obtain ⟨bb, ob, rfl, hbb, _⟩ := H3.out.2 (by omega)
      have hbi : RI wr w.heap.size (some ⟨bb, ob, none⟩) nb bs := by (repeat (first | (with_reducible exact H3.out) | (with_reducible refine RI.drew ?_) | (with_reducible refine RI.drewN ?_ _) | (with_reducible refine RI.alloc ?_ (by first | omega | (simp; done) | (simp; omega)) _) | (with_reducible refine RI.setCell ?_ (by first | omega | (simp; done) | (simp; omega)) _) | (with_reducible refine RI.below ?_ (by assumption) (by first | omega | (simp; done) | (simp; omega)))))
      have cb := hbi.at_ (k := k) hkn
      have hat := all_take (xs := bs) (p := isNum) (show k < bs.length by omega)
      have hfa := all_false (xs := bs) (p := isNum) (show k < bs.length by omega)
      rw [HTK.out, Bool.true_and] at hat
      generalize bs.getD k 0 = z at cb hat hfa
      rcases hx : isNum z with _ | _
      · have hbad := hfa hx
        have hvv : vb = false := by rw [HSY.out, hbad, Bool.and_false]
        have HVV := Lib.hid hvv
        have hz3 := (isNum_not z).1 hx
        clear hat hfa hbad hvv hx
        go_wp2_with (first | (go_at_call 114; (first | refine (spec_IsNumber_yes _ _ (by omega)).mono ?_ | refine (spec_IsNumber_no _ _ (by omega)).mono ?_ | refine (spec_IsNumber _ _).mono ?_); rintro e w' ⟨rfl, rfl⟩))
        go_ret
        exact BV.mk (vbool HVV.out.symm) (by (repeat (first | (with_reducible exact Below.refl _ _) | (with_reducible assumption) | (with_reducible refine below_drewN ?_ _) | (with_reducible refine Below.drew ?_) | (with_reducible refine Below.alloc ?_ ?_ _) | (with_reducible refine Below.setCell ?_ ?_ _) | (with_reducible refine below_into ?_ (by assumption) (by first | omega | (simp; done) | (simp; omega))) | go_size)))
      · have hnx := Lib.hid (hat.trans hx)
        obtain ⟨hz1, hz2⟩ := (isNum_iff z).1 hx
        clear hat hfa hx
        go_wp2_with (first | (go_at_call 114; (first | refine (spec_IsNumber_yes _ _ (by omega)).mono ?_ | refine (spec_IsNumber_no _ _ (by omega)).mono ?_ | refine (spec_IsNumber _ _).mono ?_); rintro e w' ⟨rfl, rfl⟩))
        go_roundw
        case rel => exact ⟨k + 1, by go_num, by omega, hnx.out, by (repeat (first | (with_reducible exact hM) | (with_reducible refine BX.new _ _ _ _ _ _ _ _ (by first | omega | (simp; done) | (simp; omega))) | (with_reducible refine BX.below ?_ (by assumption) (by first | omega | (simp; done) | (simp; omega))) | (with_reducible apply BX.drew) | (with_reducible apply BX.drewN) | (with_reducible refine BX.put ?_) | (with_reducible refine BX.put2 ?_) | (with_reducible refine BX.far ?_ (by simp only [ne_eq]; omega) _) | (with_reducible apply BX.alloc) | (with_reducible refine B3.new _ _ _ _ _ _ (by first | omega | (simp; done) | (simp; omega))) | (with_reducible exact B3.of hM) | (with_reducible refine B3.below ?_ (by assumption) (by first | omega | (simp; done) | (simp; omega))) | (with_reducible apply B3.drew) | (with_reducible apply B3.drewN) | (with_reducible refine B3.far ?_ (by simp only [ne_eq]; omega) _) | (with_reducible apply B3.alloc))), by (repeat (first | (with_reducible exact Below.refl _ _) | (with_reducible assumption) | (with_reducible refine below_drewN ?_ _) | (with_reducible refine Below.drew ?_) | (with_reducible refine Below.alloc ?_ ?_ _) | (with_reducible refine Below.setCell ?_ ?_ _) | (with_reducible refine below_into ?_ (by assumption) (by first | omega | (simp; done) | (simp; omega))) | go_size))⟩
        case measure => simp only [intOf]; omega
    · have hall : bs.all isNum = true := by
        have := HTK.out
        rw [List.take_of_length_le (by omega)] at this
        exact this
      have hvv : vb = (isSq r c xs && decide ((nb : Int) = r)) := by rw [HSY.out, hall, Bool.and_true]
      have HVV := Lib.hid hvv
      have hszr := hbw.size
      have hlM := hM.lt
      obtain ⟨ma, mb, mc, mf, ml⟩ := hM.mx
      clear hall hvv
      go_wp2_with fail
      rcases hq : isSq r c xs with _ | _
      all_goals
        have HQ := Lib.hid hq
        clear hq
        refine (spec_IsSquare r c A n cap xs _ (B := w.heap.size) (by (repeat (first | (with_reducible exact H2.out) | (with_reducible refine RI.drew ?_) | (with_reducible refine RI.drewN ?_ _) | (with_reducible refine RI.alloc ?_ (by first | omega | (simp; done) | (simp; omega)) _) | (with_reducible refine RI.setCell ?_ (by first | omega | (simp; done) | (simp; omega)) _) | (with_reducible refine RI.below ?_ (by assumption) (by first | omega | (simp; done) | (simp; omega)))))) (by first | omega | (simp; done) | (simp; omega)) hn).mono ?_
        rw [HQ.out]
        rintro e w1 ⟨rfl, hb1⟩
        have hsz1 := hb1.size
        have hM1 : BM w1 w.heap.size r c A n cap := by (repeat (first | (with_reducible exact hM) | (with_reducible refine BX.new _ _ _ _ _ _ _ _ (by first | omega | (simp; done) | (simp; omega))) | (with_reducible refine BX.below ?_ (by assumption) (by first | omega | (simp; done) | (simp; omega))) | (with_reducible apply BX.drew) | (with_reducible apply BX.drewN) | (with_reducible refine BX.put ?_) | (with_reducible refine BX.put2 ?_) | (with_reducible refine BX.far ?_ (by simp only [ne_eq]; omega) _) | (with_reducible apply BX.alloc) | (with_reducible refine B3.new _ _ _ _ _ _ (by first | omega | (simp; done) | (simp; omega))) | (with_reducible exact B3.of hM) | (with_reducible refine B3.below ?_ (by assumption) (by first | omega | (simp; done) | (simp; omega))) | (with_reducible apply B3.drew) | (with_reducible apply B3.drewN) | (with_reducible refine B3.far ?_ (by simp only [ne_eq]; omega) _) | (with_reducible apply B3.alloc)))
        have hbw1 : Below w.heap.size w w1 := by (repeat (first | (with_reducible exact Below.refl _ _) | (with_reducible assumption) | (with_reducible refine below_drewN ?_ _) | (with_reducible refine Below.drew ?_) | (with_reducible refine Below.alloc ?_ ?_ _) | (with_reducible refine Below.setCell ?_ ?_ _) | (with_reducible refine below_into ?_ (by assumption) (by first | omega | (simp; done) | (simp; omega))) | go_size))
        clear ma mb mc mf ml
        obtain ⟨ma, mb, mc, mf, ml⟩ := hM1.mx
        go_wp2_with fail
        go_ret
        refine BV.mk (vbool ?_) (by (repeat (first | (with_reducible exact Below.refl _ _) | (with_reducible assumption) | (with_reducible refine below_drewN ?_ _) | (with_reducible refine Below.drew ?_) | (with_reducible refine Below.alloc ?_ ?_ _) | (with_reducible refine Below.setCell ?_ ?_ _) | (with_reducible refine below_into ?_ (by assumption) (by first | omega | (simp; done) | (simp; omega))) | go_size)))
        rw [HVV.out, HQ.out]
        first | rfl | (rw [Bool.true_and]; by_cases h : (nb : Int) = r <;> simp [h])

/-- Column j anew, its first k cells. -/
def rpF (f : Nat → Nat → Int) (bs : List Int) (j k : Nat) : Nat → Nat → Int := fun a c => if c = j ∧ a < k then bs.getD a 0 else f a c
theorem rpF_zero (f : Nat → Nat → Int) (bs : List Int) (j : Nat) : rpF f bs j 0 = f := by funext a c; simp [rpF]
theorem rpF_step (f : Nat → Nat → Int) (bs : List Int) (j k : Nat) : upd (rpF f bs j k) k j (bs.getD k 0) = rpF f bs j (k + 1) := by
  funext a c
  unfold upd rpF
  by_cases h1 : a = k ∧ c = j
  · obtain ⟨rfl, rfl⟩ := h1
    simp
  · rw [if_neg h1]
    by_cases h2 : c = j ∧ a < k
    · rw [if_pos h2, if_pos ⟨h2.1, by omega⟩]
    · rw [if_neg h2, if_neg (by rintro ⟨h3, h4⟩; exact h2 ⟨h3, by have : ¬ a = k := fun e => h1 ⟨e, h3⟩; omega⟩)]
def rpL (R : Nat) (f : Nat → Nat → Int) (bs : List Int) (j : Nat) : List Int := tb R R (rpF f bs j R)
/-- The first j ratios. -/
def sdS (d : Int) (R : Nat) (f : Nat → Nat → Int) (bs : List Int) : Nat → Option (List Int)
  | 0 => some []
  | j + 1 => (sdS d R f bs j).bind fun qs => (dtO R R (rpL R f bs j)).bind fun n => some (qs ++ [(makR n d).1, (makR n d).2])
def sdO (r c : Int) (xs bs : List Int) : Option (List Int) := if sysB r c xs bs then (dtO r c xs).bind fun d => if d = 0 then none else sdS d r.toNat (fun a k => cel xs c a k) bs r.toNat else none
def sdN (r c : Int) (xs bs : List Int) : Nat := if (sdO r c xs bs).isSome then r.toNat else 0
def sdV (r c : Int) (xs bs : List Int) : List Int := (sdO r c xs bs).getD []
def sdB (r c : Int) (xs bs : List Int) : Bool := (sdO r c xs bs).isSome
theorem sdS_bad {d : Int} {R j : Nat} {f : Nat → Nat → Int} {bs : List Int} (h : dtO R R (rpL R f bs j) = none) : sdS d R f bs (j + 1) = none := by
  unfold sdS
  cases sdS d R f bs j with
  | none => rfl
  | some qs => rw [Option.bind_some, h]; rfl
theorem sdS_next {d n : Int} {R j : Nat} {f : Nat → Nat → Int} {bs qs : List Int} (h : sdS d R f bs j = some qs) (h2 : dtO R R (rpL R f bs j) = some n) : sdS d R f bs (j + 1) = some (qs ++ [(makR n d).1, (makR n d).2]) := by
  unfold sdS; rw [h, Option.bind_some, h2]; rfl
theorem sdS_up {d : Int} {R j : Nat} {f : Nat → Nat → Int} {bs : List Int} (h : sdS d R f bs j = none) : ∀ k, j ≤ k → sdS d R f bs k = none
  | 0, hk => by
    have e : j = 0 := by omega
    rw [← e]; exact h
  | k + 1, hk => by
    by_cases e : j = k + 1
    · rw [← e]; exact h
    · have := sdS_up h k (by omega)
      unfold sdS; rw [this]; rfl
theorem sd_no {r c : Int} {xs bs : List Int} (h : sdO r c xs bs = none) : sdN r c xs bs = 0 ∧ sdV r c xs bs = [] ∧ sdB r c xs bs = false := by
  unfold sdN sdV sdB; rw [h]; exact ⟨rfl, rfl, rfl⟩
theorem sd_yes {r c : Int} {xs bs qs : List Int} (h : sdO r c xs bs = some qs) : sdN r c xs bs = r.toNat ∧ sdV r c xs bs = qs ∧ sdB r c xs bs = true := by
  unfold sdN sdV sdB; rw [h]; exact ⟨rfl, rfl, rfl⟩
theorem sdN_len {r c : Int} {xs bs : List Int} : sdN r c xs bs ≤ 1048576 := by
  unfold sdN
  split
  · rename_i h
    unfold sdO at h
    split at h
    · rename_i hs
      unfold sysB at hs
      rw [Bool.and_eq_true, Bool.and_eq_true] at hs
      have := (isSq_iff.1 hs.1.1).le
      omega
    · cases h
  · omega
theorem sd_cases (r c : Int) (xs bs : List Int) : (sysB r c xs bs = false ∧ sdO r c xs bs = none) ∨ (sysB r c xs bs = true ∧ dtO r c xs = none ∧ sdO r c xs bs = none) ∨ (sysB r c xs bs = true ∧ dtO r c xs = some 0 ∧ sdO r c xs bs = none) ∨
    (∃ d : Int, sysB r c xs bs = true ∧ dtO r c xs = some d ∧ d ≠ 0 ∧ sdO r c xs bs = sdS d r.toNat (fun a k => cel xs c a k) bs r.toNat) := by
  unfold sdO
  rcases sysB r c xs bs with _ | _
  · left; exact ⟨rfl, rfl⟩
  · right
    rcases h : dtO r c xs with _ | d
    · left; exact ⟨rfl, rfl, rfl⟩
    · right
      by_cases hd : d = 0
      · left; subst hd; exact ⟨rfl, rfl, rfl⟩
      · right; exact ⟨d, rfl, rfl, hd, by simp [hd]⟩
set_option maxRecDepth 100000 in
set_option maxHeartbeats 8000000 in
theorem spec_l11Replaced (R j : Nat) (A Ab : Option Addr) (n cap nb capb : Nat) (xs bs : List Int) (w : World) {B B' : Nat} (h : RI w B A n xs) (hb : RI w B' Ab nb bs) (hB : B ≤ w.heap.size) (hB' : B' ≤ w.heap.size) (hl : xs.length = R * R) (hlb : bs.length = R) (hj : j < R) (hR : R ≤ 6) :
    Calls Try.prog 88 #[.agg #[.int .i64 R, .int .i64 R, .slice A n cap], .int .i64 j, .slice Ab nb capb] w (MR ⟨R, R, rpL R (fun a k => cel xs R a k) bs j⟩ w) := by
  have hln := h.len
  have hlbn := hb.len
  have H2 := Lib.hid (h.more hB)
  have H3 := Lib.hid (hb.more hB')
  clear h hb
  have hRR : R * R ≤ 6 * 6 := Nat.mul_le_mul hR hR
  have hnR : n ≤ R * R ∧ R * R ≤ n := by omega
  have hnb : nb ≤ R ∧ R ≤ nb := by omega
  have HT := Lib.hid (tb_of hl)
  generalize hf : (fun (a k : Nat) => cel xs R a k) = f at *
  unfold rpL
  clear hf hl hlb hln hlbn
  go_enter Try.func88, Try.ntmps88
  go_wp2_with fail
  refine (spec_l3Copy R R A n cap xs _ (B := w.heap.size) (by (repeat (first | (with_reducible exact H2.out) | (with_reducible refine RI.drew ?_) | (with_reducible refine RI.drewN ?_ _) | (with_reducible refine RI.alloc ?_ (by first | omega | (simp; done) | (simp; omega)) _) | (with_reducible refine RI.setCell ?_ (by first | omega | (simp; done) | (simp; omega)) _) | (with_reducible refine RI.below ?_ (by assumption) (by first | omega | (simp; done) | (simp; omega)))))) (by first | omega | (simp; done) | (simp; omega)) (by omega)).mono ?_
  rintro e w1 ⟨A1, n1, cap1, rfl, -, ho1, hb1⟩
  rw [HT.out] at ho1
  have hsz1 := hb1.size
  (try simp at hsz1)
  have hA1 : BM w1 w.heap.size R R A n cap := by (repeat (first | (with_reducible assumption) | (with_reducible refine BX.new _ _ _ _ _ _ _ _ (by first | omega | (simp; done) | (simp; omega))) | (with_reducible refine BX.below ?_ (by assumption) (by first | omega | (simp; done) | (simp; omega))) | (with_reducible apply BX.drew) | (with_reducible apply BX.drewN) | (with_reducible refine BX.put ?_) | (with_reducible refine BX.put2 ?_) | (with_reducible refine BX.far ?_ (by simp only [ne_eq]; omega) _) | (with_reducible apply BX.alloc) | (with_reducible refine B3.new _ _ _ _ _ _ (by first | omega | (simp; done) | (simp; omega))) | (with_reducible refine B3.of (by assumption)) | (with_reducible refine B3.below ?_ (by assumption) (by first | omega | (simp; done) | (simp; omega))) | (with_reducible apply B3.drew) | (with_reducible apply B3.drewN) | (with_reducible refine B3.far ?_ (by simp only [ne_eq]; omega) _) | (with_reducible apply B3.alloc)))
  have hR1 : BM w1 (w.heap.size + 1) 0 0 none 0 0 := by (repeat (first | (with_reducible assumption) | (with_reducible refine BX.new _ _ _ _ _ _ _ _ (by first | omega | (simp; done) | (simp; omega))) | (with_reducible refine BX.below ?_ (by assumption) (by first | omega | (simp; done) | (simp; omega))) | (with_reducible apply BX.drew) | (with_reducible apply BX.drewN) | (with_reducible refine BX.put ?_) | (with_reducible refine BX.put2 ?_) | (with_reducible refine BX.far ?_ (by simp only [ne_eq]; omega) _) | (with_reducible apply BX.alloc) | (with_reducible refine B3.new _ _ _ _ _ _ (by first | omega | (simp; done) | (simp; omega))) | (with_reducible refine B3.of (by assumption)) | (with_reducible refine B3.below ?_ (by assumption) (by first | omega | (simp; done) | (simp; omega))) | (with_reducible apply B3.drew) | (with_reducible apply B3.drewN) | (with_reducible refine B3.far ?_ (by simp only [ne_eq]; omega) _) | (with_reducible apply B3.alloc)))
  generalize hbO : w1.heap.size = bO at *
  have hA : BM (w1.alloc (.cells #[.int .i64 R, .int .i64 R, .slice A1 n1 cap1] 28)) w.heap.size R R A n cap := by (repeat (first | (with_reducible exact hA1) | (with_reducible refine BX.new _ _ _ _ _ _ _ _ (by first | omega | (simp; done) | (simp; omega))) | (with_reducible refine BX.below ?_ (by assumption) (by first | omega | (simp; done) | (simp; omega))) | (with_reducible apply BX.drew) | (with_reducible apply BX.drewN) | (with_reducible refine BX.put ?_) | (with_reducible refine BX.put2 ?_) | (with_reducible refine BX.far ?_ (by simp only [ne_eq]; omega) _) | (with_reducible apply BX.alloc) | (with_reducible refine B3.new _ _ _ _ _ _ (by first | omega | (simp; done) | (simp; omega))) | (with_reducible exact B3.of hA1) | (with_reducible refine B3.below ?_ (by assumption) (by first | omega | (simp; done) | (simp; omega))) | (with_reducible apply B3.drew) | (with_reducible apply B3.drewN) | (with_reducible refine B3.far ?_ (by simp only [ne_eq]; omega) _) | (with_reducible apply B3.alloc)))
  have hR0 : BM (w1.alloc (.cells #[.int .i64 R, .int .i64 R, .slice A1 n1 cap1] 28)) (w.heap.size + 1) 0 0 none 0 0 := by (repeat (first | (with_reducible exact hR1) | (with_reducible refine BX.new _ _ _ _ _ _ _ _ (by first | omega | (simp; done) | (simp; omega))) | (with_reducible refine BX.below ?_ (by assumption) (by first | omega | (simp; done) | (simp; omega))) | (with_reducible apply BX.drew) | (with_reducible apply BX.drewN) | (with_reducible refine BX.put ?_) | (with_reducible refine BX.put2 ?_) | (with_reducible refine BX.far ?_ (by simp only [ne_eq]; omega) _) | (with_reducible apply BX.alloc) | (with_reducible refine B3.new _ _ _ _ _ _ (by first | omega | (simp; done) | (simp; omega))) | (with_reducible exact B3.of hR1) | (with_reducible refine B3.below ?_ (by assumption) (by first | omega | (simp; done) | (simp; omega))) | (with_reducible apply B3.drew) | (with_reducible apply B3.drewN) | (with_reducible refine B3.far ?_ (by simp only [ne_eq]; omega) _) | (with_reducible apply B3.alloc)))
  have hO : BM (w1.alloc (.cells #[.int .i64 R, .int .i64 R, .slice A1 n1 cap1] 28)) bO R R A1 n1 cap1 := by (repeat (first | (with_reducible assumption) | (with_reducible refine BX.new _ _ _ _ _ _ _ _ (by first | omega | (simp; done) | (simp; omega))) | (with_reducible refine BX.below ?_ (by assumption) (by first | omega | (simp; done) | (simp; omega))) | (with_reducible apply BX.drew) | (with_reducible apply BX.drewN) | (with_reducible refine BX.put ?_) | (with_reducible refine BX.put2 ?_) | (with_reducible refine BX.far ?_ (by simp only [ne_eq]; omega) _) | (with_reducible apply BX.alloc) | (with_reducible refine B3.new _ _ _ _ _ _ (by first | omega | (simp; done) | (simp; omega))) | (with_reducible refine B3.of (by assumption)) | (with_reducible refine B3.below ?_ (by assumption) (by first | omega | (simp; done) | (simp; omega))) | (with_reducible apply B3.drew) | (with_reducible apply B3.drewN) | (with_reducible refine B3.far ?_ (by simp only [ne_eq]; omega) _) | (with_reducible apply B3.alloc)))
  have hown : OR (w1.alloc (.cells #[.int .i64 R, .int .i64 R, .slice A1 n1 cap1] 28)) (w.heap.size + 1 + 1) (.slice A1 n1 cap1) (tb R R (rpF f bs j 0)) := by
    rw [rpF_zero]; exact (OR.mono (xs := tb R R f) ho1 (by first | omega | (simp; done) | (simp; omega))).alloc _
  have hbw : Below w.heap.size w (w1.alloc (.cells #[.int .i64 R, .int .i64 R, .slice A1 n1 cap1] 28)) := by (repeat (first | (with_reducible exact Below.refl _ _) | (with_reducible assumption) | (with_reducible refine below_drewN ?_ _) | (with_reducible refine Below.drew ?_) | (with_reducible refine Below.alloc ?_ ?_ _) | (with_reducible refine Below.setCell ?_ ?_ _) | (with_reducible refine below_into ?_ (by assumption) (by first | omega | (simp; done) | (simp; omega))) | go_size))
  have HU : Hid (Own (.slice A1 n1 cap1) (w.heap.size + 1 + 1) bO) := Lib.hid (by rw [← hbO]; exact (OR.own (xs := tb R R f) ho1).wide (by first | omega | (simp; done) | (simp; omega)) (Nat.le_refl _))
  have HNO : Hid (n1 ≤ R * R ∧ R * R ≤ n1) := Lib.hid (by have := hown.lenEq; rw [tb_len] at this; omega)
  have hbO2 : w.heap.size + 1 + 1 ≤ bO := by omega
  clear hA1 hR1 ho1 hb1
  obtain ⟨aa, ab, ac, af, al⟩ := hA.mx; obtain ⟨ra, rb, rc, rf, rl⟩ := hR0.mx; obtain ⟨oa, ob, oc, of, ol⟩ := hO.mx
  go_wp2_with fail
  generalize hwo : w1.alloc (.cells #[.int .i64 R, .int .i64 R, .slice A1 n1 cap1] 28) = wo at *
  clear hwo
  go_loopw [8] (fun v wr => ∃ i : Nat, v = .int .i64 i ∧ i ≤ R ∧ BM wr w.heap.size R R A n cap ∧ BM wr (w.heap.size + 1) 0 0 none 0 0 ∧ BM wr bO R R A1 n1 cap1 ∧ OR wr (w.heap.size + 1 + 1) (.slice A1 n1 cap1) (tb R R (rpF f bs j i)) ∧ Below w.heap.size w wr) (fun v _ => R - (intOf v).toNat)
  case atStart => exact ⟨0, rfl, Nat.zero_le _, hA, hR0, hO, hown, hbw⟩
  case round =>
    clear aa ab ac af al ra rb rc rf rl oa ob oc of ol
    clear hA hR0 hO hown hbw
    obtain ⟨i, rfl, hi, hA, hR0, hO, hown, hbw⟩ := hrel
    obtain ⟨aa, ab, ac, af, al⟩ := hA.mx; obtain ⟨ra, rb, rc, rf, rl⟩ := hR0.mx; obtain ⟨oa, ob, oc, of, ol⟩ := hO.mx
    by_cases hiR : i < R
    · have hix := idx_nat hiR hj
      have hno2 := HNO.out
      obtain ⟨g, rfl, hg1, hg2⟩ := hown.begins (by rw [tb_len]; omega)
      obtain ⟨b, o, rfl, hbb, hcells⟩ := H3.out.2 (by omega)
      have hgb := HU.out g rfl
      have hfr := hbw.size
      have c1 := (hbw.cell (p := ⟨b, o + i, none⟩) (by simpa using hbb)).trans (hcells i (by omega))
      have c2 := hown.cell (i * R + j) (by rw [tb_len]; omega)
      have f2 := hown.frozen (i * R + j)
      have hst := hown.set_ (i * R + j) (bs.getD i 0)
      rw [tb_set hiR hj, rpF_step] at hst
      have i1 : (i : Int) * (R : Int) = ((i * R : Nat) : Int) := by rw [Int.natCast_mul]
      have g3 : IntKind.i64.wrap ((i : Int) * (R : Int)) = (i : Int) * (R : Int) := IntWalk.i64_in _ (by omega)
      have g5 : IntKind.i64.wrap ((i : Int) * (R : Int) + (j : Int)) = (i : Int) * (R : Int) + (j : Int) := IntWalk.i64_in _ (by omega)
      have g7 : 0 ≤ (i : Int) * (R : Int) + (j : Int) ∧ (i : Int) * (R : Int) + (j : Int) < (n1 : Int) := by omega
      have hib : (i : Int) < (nb : Int) := by omega
      have e6 : ((i : Int) * (R : Int) + (j : Int)).toNat = i * R + j := by omega
      rw [← e6] at c2 f2 hst
      have hne1 : ¬ g = w.heap.size := by omega
      have hne2 : ¬ g = w.heap.size + 1 := by omega
      have hne3 : ¬ g = bO := by omega
      have hne4 : ¬ g = b := by omega
      have hne5 : ¬ b = g := by omega
      clear i1 e6 hcells hix hno2
      generalize bs.getD i 0 = z1 at *
      generalize (tb R R (rpF f bs j i)).getD _ 0 = z2 at c2
      go_wp2_with fail
      ((refine wp_region_held_drew (S := (fun w' => w'.cell? ⟨w.heap.size, 0, none⟩ = some (.int .i64 R) ∧ w'.cell? ⟨w.heap.size, 1, none⟩ = some (.int .i64 R) ∧ w'.cell? ⟨bO, 2, none⟩ = some (.slice (some ⟨g, 0, none⟩) n1 cap1) ∧ w'.cell? ⟨b, o + i, none⟩ = some (.int .i64 z1))) (by kernel_rfl) ?_ (fun hHeld => ?_)); ((focus ((try dsimp only); (go_keep)))); ((refine wpAnyH_take (i := 0) (v := ?_) (by (first | (simp only [List.getElem?_toArray, List.getElem?_cons_succ, List.getElem?_cons_zero]; done) | (simp only [List.getElem?_toArray, List.getElem?_cons_succ, List.getElem?_cons_zero]; rfl))) (by kernel_rfl) (by kernel_rfl) (by kernel_rfl) (by exact fun _ _ _ h => h) (Or.inl ⟨by rfl, ?_⟩) (by assumption) ?_; rotate_left; (focus (((intro w hSw; (try dsimp only at hSw); go_simp) <;> (try with_reducible rfl)); done)); (try simp only [Act.put, List.setIfInBounds_toArray, List.set_cons_zero, List.set_cons_succ]))); ((refine wpAnyH_take (i := 1) (v := ?_) (by (first | (simp only [List.getElem?_toArray, List.getElem?_cons_succ, List.getElem?_cons_zero]; done) | (simp only [List.getElem?_toArray, List.getElem?_cons_succ, List.getElem?_cons_zero]; rfl))) (by kernel_rfl) (by kernel_rfl) (by kernel_rfl) (by exact fun _ _ _ h => h) (Or.inl ⟨by rfl, ?_⟩) (by assumption) ?_; rotate_left; (focus (((intro w hSw; (try dsimp only at hSw); go_simp) <;> (try with_reducible rfl)); done)); (try simp only [Act.put, List.setIfInBounds_toArray, List.set_cons_zero, List.set_cons_succ]))); ((refine wpAnyH_take (i := 2) (v := ?_) (by (first | (simp only [List.getElem?_toArray, List.getElem?_cons_succ, List.getElem?_cons_zero]; done) | (simp only [List.getElem?_toArray, List.getElem?_cons_succ, List.getElem?_cons_zero]; rfl))) (by kernel_rfl) (by kernel_rfl) (by kernel_rfl) (by exact fun _ _ _ h => h) (Or.inl ⟨by rfl, ?_⟩) (by assumption) ?_; rotate_left; (focus (((intro w hSw; (try dsimp only at hSw); go_simp) <;> (try with_reducible rfl)); done)); (try simp only [Act.put, List.setIfInBounds_toArray, List.set_cons_zero, List.set_cons_succ]))); ((refine wpAnyH_take (i := 3) (v := ?_) (by (first | (simp only [List.getElem?_toArray, List.getElem?_cons_succ, List.getElem?_cons_zero]; done) | (simp only [List.getElem?_toArray, List.getElem?_cons_succ, List.getElem?_cons_zero]; rfl))) (by kernel_rfl) (by kernel_rfl) (by kernel_rfl) (by exact fun _ _ _ h => h) (Or.inl ⟨by rfl, ?_⟩) (by assumption) ?_; rotate_left; (focus (((intro w hSw; (try dsimp only at hSw); go_simp) <;> (try with_reducible rfl)); done)); (try simp only [Act.put, List.setIfInBounds_toArray, List.set_cons_zero, List.set_cons_succ]))); ((refine wpAnyH_take (i := 4) (v := ?_) (by (first | (simp only [List.getElem?_toArray, List.getElem?_cons_succ, List.getElem?_cons_zero]; done) | (simp only [List.getElem?_toArray, List.getElem?_cons_succ, List.getElem?_cons_zero]; rfl))) (by kernel_rfl) (by kernel_rfl) (by kernel_rfl) (by exact fun _ _ _ h => h) (Or.inl ⟨by rfl, ?_⟩) (by assumption) ?_; rotate_left; (focus (((intro w hSw; (try dsimp only at hSw); go_simp) <;> (try with_reducible rfl)); done)); (try simp only [Act.put, List.setIfInBounds_toArray, List.set_cons_zero, List.set_cons_succ]))); ((refine wpAnyH_take (i := 5) (v := ?_) (by (first | (simp only [List.getElem?_toArray, List.getElem?_cons_succ, List.getElem?_cons_zero]; done) | (simp only [List.getElem?_toArray, List.getElem?_cons_succ, List.getElem?_cons_zero]; rfl))) (by kernel_rfl) (by kernel_rfl) (by kernel_rfl) (by exact fun _ _ _ h => h) (Or.inl ⟨by rfl, ?_⟩) (by assumption) ?_; rotate_left; (focus (((intro w hSw; (try dsimp only at hSw); go_simp) <;> (try with_reducible rfl)); done)); (try simp only [Act.put, List.setIfInBounds_toArray, List.set_cons_zero, List.set_cons_succ]))); ((refine wpAnyH_take (i := 6) (v := ?_) (by (first | (simp only [List.getElem?_toArray, List.getElem?_cons_succ, List.getElem?_cons_zero]; done) | (simp only [List.getElem?_toArray, List.getElem?_cons_succ, List.getElem?_cons_zero]; rfl))) (by kernel_rfl) (by kernel_rfl) (by kernel_rfl) (by exact fun _ _ _ h => h) (Or.inl ⟨by rfl, ?_⟩) (by assumption) ?_; rotate_left; (focus (((intro w hSw; (try dsimp only at hSw); go_simp) <;> (try with_reducible rfl)); done)); (try simp only [Act.put, List.setIfInBounds_toArray, List.set_cons_zero, List.set_cons_succ]))); ((refine wpAnyH_take (i := 7) (v := ?_) (by (first | (simp only [List.getElem?_toArray, List.getElem?_cons_succ, List.getElem?_cons_zero]; done) | (simp only [List.getElem?_toArray, List.getElem?_cons_succ, List.getElem?_cons_zero]; rfl))) (by kernel_rfl) (by kernel_rfl) (by kernel_rfl) (by exact fun _ _ _ h => h) (Or.inl ⟨by rfl, ?_⟩) (by assumption) ?_; rotate_left; (focus (((intro w hSw; (try dsimp only at hSw); go_simp) <;> (try with_reducible rfl)); done)); (try simp only [Act.put, List.setIfInBounds_toArray, List.set_cons_zero, List.set_cons_succ]))); ((refine wpAnyH_take (i := 8) (v := ?_) (by (first | (simp only [List.getElem?_toArray, List.getElem?_cons_succ, List.getElem?_cons_zero]; done) | (simp only [List.getElem?_toArray, List.getElem?_cons_succ, List.getElem?_cons_zero]; rfl))) (by kernel_rfl) (by kernel_rfl) (by kernel_rfl) (by exact fun _ _ _ h => h) (Or.inl ⟨by rfl, ?_⟩) (by assumption) ?_; rotate_left; (focus (((intro w hSw; (try dsimp only at hSw); go_simp) <;> (try with_reducible rfl)); done)); (try simp only [Act.put, List.setIfInBounds_toArray, List.set_cons_zero, List.set_cons_succ]))); ((refine wpAnyH_take (i := 9) (v := ?_) (by (first | (simp only [List.getElem?_toArray, List.getElem?_cons_succ, List.getElem?_cons_zero]; done) | (simp only [List.getElem?_toArray, List.getElem?_cons_succ, List.getElem?_cons_zero]; rfl))) (by kernel_rfl) (by kernel_rfl) (by kernel_rfl) (by exact fun _ _ _ h => h) (Or.inl ⟨by rfl, ?_⟩) (by assumption) ?_; rotate_left; (focus (((intro w hSw; (try dsimp only at hSw); go_simp) <;> (try with_reducible rfl)); done)); (try simp only [Act.put, List.setIfInBounds_toArray, List.set_cons_zero, List.set_cons_succ]))); ((refine wpAnyH_take (i := 10) (v := ?_) (by (first | (simp only [List.getElem?_toArray, List.getElem?_cons_succ, List.getElem?_cons_zero]; done) | (simp only [List.getElem?_toArray, List.getElem?_cons_succ, List.getElem?_cons_zero]; rfl))) (by kernel_rfl) (by kernel_rfl) (by kernel_rfl) (by exact fun _ _ _ h => h) (Or.inl ⟨by rfl, ?_⟩) (by assumption) ?_; rotate_left; (focus (((intro w hSw; (try dsimp only at hSw); go_simp) <;> (try with_reducible rfl)); done)); (try simp only [Act.put, List.setIfInBounds_toArray, List.set_cons_zero, List.set_cons_succ]))); ((refine wpAnyH_take (i := 11) (v := ?_) (by (first | (simp only [List.getElem?_toArray, List.getElem?_cons_succ, List.getElem?_cons_zero]; done) | (simp only [List.getElem?_toArray, List.getElem?_cons_succ, List.getElem?_cons_zero]; rfl))) (by kernel_rfl) (by kernel_rfl) (by kernel_rfl) (by exact fun _ _ _ h => h) (Or.inl ⟨by rfl, ?_⟩) (by assumption) ?_; rotate_left; (focus (((intro w hSw; (try dsimp only at hSw); go_simp) <;> (try with_reducible rfl)); done)); (try simp only [Act.put, List.setIfInBounds_toArray, List.set_cons_zero, List.set_cons_succ]))); ((refine wpAnyH_take (i := 12) (v := ?_) (by (first | (simp only [List.getElem?_toArray, List.getElem?_cons_succ, List.getElem?_cons_zero]; done) | (simp only [List.getElem?_toArray, List.getElem?_cons_succ, List.getElem?_cons_zero]; rfl))) (by kernel_rfl) (by kernel_rfl) (by kernel_rfl) (by exact fun _ _ _ h => h) (Or.inl ⟨by rfl, ?_⟩) (by assumption) ?_; rotate_left; (focus (((intro w hSw; (try dsimp only at hSw); go_simp) <;> (try with_reducible rfl)); done)); (try simp only [Act.put, List.setIfInBounds_toArray, List.set_cons_zero, List.set_cons_succ]))); ((refine wpAnyH_ready (rs := [13]) (by kernel_rfl) (by simp) ?_; refine AllReadyH.cons (by (first | (simp only [List.getElem?_toArray, List.getElem?_cons_succ, List.getElem?_cons_zero]; done) | (simp only [List.getElem?_toArray, List.getElem?_cons_succ, List.getElem?_cons_zero]; rfl))) (fun K hK => ?_) AllReadyH.nil; go_simp; (try go_wp2_with fail); refine hK.out _ _ ?_ (fun hHeld => ?_); (focus ((try dsimp only); (go_keep))); clear hK K; (try simp only [Act.put, List.setIfInBounds_toArray, List.set_cons_zero, List.set_cons_succ]))); (refine wpAnyH_done (by kernel_rfl) ?_ _))
      go_wp2_with fail
      go_roundw
      case rel => exact ⟨i + 1, by go_num, by omega, by (repeat (first | (with_reducible exact hA) | (with_reducible refine BX.new _ _ _ _ _ _ _ _ (by first | omega | (simp; done) | (simp; omega))) | (with_reducible refine BX.below ?_ (by assumption) (by first | omega | (simp; done) | (simp; omega))) | (with_reducible apply BX.drew) | (with_reducible apply BX.drewN) | (with_reducible refine BX.put ?_) | (with_reducible refine BX.put2 ?_) | (with_reducible refine BX.far ?_ (by simp only [ne_eq]; omega) _) | (with_reducible apply BX.alloc) | (with_reducible refine B3.new _ _ _ _ _ _ (by first | omega | (simp; done) | (simp; omega))) | (with_reducible exact B3.of hA) | (with_reducible refine B3.below ?_ (by assumption) (by first | omega | (simp; done) | (simp; omega))) | (with_reducible apply B3.drew) | (with_reducible apply B3.drewN) | (with_reducible refine B3.far ?_ (by simp only [ne_eq]; omega) _) | (with_reducible apply B3.alloc))), by (repeat (first | (with_reducible exact hR0) | (with_reducible refine BX.new _ _ _ _ _ _ _ _ (by first | omega | (simp; done) | (simp; omega))) | (with_reducible refine BX.below ?_ (by assumption) (by first | omega | (simp; done) | (simp; omega))) | (with_reducible apply BX.drew) | (with_reducible apply BX.drewN) | (with_reducible refine BX.put ?_) | (with_reducible refine BX.put2 ?_) | (with_reducible refine BX.far ?_ (by simp only [ne_eq]; omega) _) | (with_reducible apply BX.alloc) | (with_reducible refine B3.new _ _ _ _ _ _ (by first | omega | (simp; done) | (simp; omega))) | (with_reducible exact B3.of hR0) | (with_reducible refine B3.below ?_ (by assumption) (by first | omega | (simp; done) | (simp; omega))) | (with_reducible apply B3.drew) | (with_reducible apply B3.drewN) | (with_reducible refine B3.far ?_ (by simp only [ne_eq]; omega) _) | (with_reducible apply B3.alloc))), by (repeat (first | (with_reducible exact hO) | (with_reducible refine BX.new _ _ _ _ _ _ _ _ (by first | omega | (simp; done) | (simp; omega))) | (with_reducible refine BX.below ?_ (by assumption) (by first | omega | (simp; done) | (simp; omega))) | (with_reducible apply BX.drew) | (with_reducible apply BX.drewN) | (with_reducible refine BX.put ?_) | (with_reducible refine BX.put2 ?_) | (with_reducible refine BX.far ?_ (by simp only [ne_eq]; omega) _) | (with_reducible apply BX.alloc) | (with_reducible refine B3.new _ _ _ _ _ _ (by first | omega | (simp; done) | (simp; omega))) | (with_reducible exact B3.of hO) | (with_reducible refine B3.below ?_ (by assumption) (by first | omega | (simp; done) | (simp; omega))) | (with_reducible apply B3.drew) | (with_reducible apply B3.drewN) | (with_reducible refine B3.far ?_ (by simp only [ne_eq]; omega) _) | (with_reducible apply B3.alloc))), (by first | exact hst | exact OR.drew hst), by (repeat (first | (with_reducible exact Below.refl _ _) | (with_reducible assumption) | (with_reducible refine below_drewN ?_ _) | (with_reducible refine Below.drew ?_) | (with_reducible refine Below.alloc ?_ ?_ _) | (with_reducible refine Below.setCell ?_ ?_ _) | (with_reducible refine below_into ?_ (by assumption) (by first | omega | (simp; done) | (simp; omega))) | go_size))⟩
      case measure => simp only [intOf]; omega
    · obtain rfl : i = R := by omega
      go_wp2_with fail
      refine ret_M (r := i) (c := i) (A := A1) (n := n1) (cap := cap1) Try.results88 rfl (BX.put (B3.of hR0)) rfl ?_
      exact MR.mk rfl (OR.mono (B := w.heap.size + 1 + 1) (by (repeat (first | (with_reducible exact hown) | (with_reducible refine OR.drew ?_) | (with_reducible refine OR.drewN ?_ _) | (with_reducible refine OR.alloc ?_ _) | (with_reducible refine OR.below ?_ (by assumption) (by first | omega | (simp; done) | (simp; omega))) | (with_reducible refine OR.low ?_ (by first | omega | (simp only []; omega) | (simp; omega)) _)))) (by omega)) (by (repeat (first | (with_reducible exact Below.refl _ _) | (with_reducible assumption) | (with_reducible refine below_drewN ?_ _) | (with_reducible refine Below.drew ?_) | (with_reducible refine Below.alloc ?_ ?_ _) | (with_reducible refine Below.setCell ?_ ?_ _) | (with_reducible refine below_into ?_ (by assumption) (by first | omega | (simp; done) | (simp; omega))) | go_size)))
end Go.Proofs.Ytpecjobpihinoaa

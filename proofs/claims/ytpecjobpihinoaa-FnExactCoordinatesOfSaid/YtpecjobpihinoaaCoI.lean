/-
  DERIVED. CoordinatesOf of the program.
-/
import Derived.Test.YtpecjobpihinoaaPlainY
import Derived.Test.YtpecjobpihinoaaAppend2
import Derived.Test.YtpecjobpihinoaaRIat
import Derived.Deep.LoopGhost
namespace Go.Proofs.Ytpecjobpihinoaa
open Go.RowKit
set_option linter.unusedVariables false
set_option linter.unusedSimpArgs false
/-- The call returned a slice of ints of its own, and a flag. -/
def IBR (ys : List Int) (b : Bool) (w : World) (e : Ending) (w' : World) : Prop :=
  ∃ A n cap, e = .returned (.tuple #[.slice A n cap, .bool b]) ∧ OR w' w.heap.size (.slice A n cap) ys ∧ Below w.heap.size w w'
theorem OR.empty2 (w : World) (g : Nat) (hg : g = w.heap.size) {B : Nat} (hB : B ≤ w.heap.size) : OR (w.alloc (.cells #[] 3)) B (.slice (some ⟨g, 0, none⟩) 0 0) [] := OR.empty' w g hg hB
theorem OR.shapeI {w : World} {B : Nat} {v : Value} {xs : List Int} (h : OR w B v xs) : ∃ A c, v = .slice A xs.length c := by
  rcases h.form with ⟨h1, h2⟩ | ⟨g, cap, h1, _⟩
  · subst h2; exact ⟨none, 0, h1⟩
  · exact ⟨_, _, h1⟩
theorem fcN_all : ∀ ys : List Int, fcN ys < ys.length ↔ ys.all (fun y => decide (y = 0)) = false
  | [] => by simp [fcN]
  | x :: l => by
    have ih := fcN_all l
    by_cases h : x = 0
    · simp only [fcN, if_pos h, List.length_cons, List.all_cons, decide_eq_true h, Bool.true_and]
      rw [← ih]
      omega
    · simp [fcN, h]
theorem fcI_all (ys : List Int) : decide (fcI ys < 0) = ys.all (fun y => decide (y = 0)) := by
  have := fcN_all ys
  unfold fcI
  rcases h : ys.all (fun y => decide (y = 0)) with _ | _
  · rw [if_pos (this.2 h)]
    simp
  · rw [if_neg (fun h2 => by rw [this.1 h2] at h; cases h)]
    simp
theorem co_cases (r c : Int) (xs v : List Int) : (latB r c xs = false ∧ coV r c xs v = [] ∧ coIs r c xs v = false) ∨ (latB r c xs = true ∧ ((v.length : Int) != c) = true ∧ coV r c xs v = [] ∧ coIs r c xs v = false) ∨ (latB r c xs = true ∧ (v.length : Int) = c ∧ v.all isNum = false ∧ coV r c xs v = [] ∧ coIs r c xs v = false) ∨
    (latB r c xs = true ∧ (v.length : Int) = c ∧ v.all isNum = true ∧ coO r c xs v = coF xs c.toNat r.toNat 0 v []) := by
  have hno : coB r c xs v = false → coV r c xs v = [] ∧ coIs r c xs v = false := fun h => by
    have : coO r c xs v = none := by unfold coO; rw [h]; rfl
    unfold coV coIs
    rw [this]
    exact ⟨rfl, rfl⟩
  rcases h1 : latB r c xs with _ | _
  · left; exact ⟨rfl, hno (by unfold coB; rw [h1]; rfl)⟩
  · right
    by_cases h2 : (v.length : Int) = c
    · right
      rcases h3 : v.all isNum with _ | _
      · left; exact ⟨rfl, h2, rfl, hno (by unfold coB; rw [h3, Bool.and_false])⟩
      · right; exact ⟨rfl, h2, rfl, by unfold coO coB; rw [h1, h3, decide_eq_true h2]; rfl⟩
    · left; exact ⟨rfl, by simpa using h2, hno (by unfold coB; rw [decide_eq_false h2, Bool.and_false, Bool.false_and])⟩
/-- The rest, the first k numbers of it done. -/
def coK (xs : List Int) (C i : Nat) (q : Int) (ys : List Int) (k : Nat) : List Int := (coRow xs C i q ys).take k ++ ys.drop k
theorem coK_len {xs : List Int} {C i k : Nat} {q : Int} {ys : List Int} (h : ys.length = C) (hk : k ≤ C) : (coK xs C i q ys k).length = C := by
  simp [coK, coRow_len, h]; omega
theorem coK_zero {xs : List Int} {C i : Nat} {q : Int} {ys : List Int} : coK xs C i q ys 0 = ys := by simp [coK]
theorem coK_end {xs : List Int} {C i : Nat} {q : Int} {ys : List Int} (h : ys.length = C) : coK xs C i q ys C = coRow xs C i q ys := by
  unfold coK
  rw [List.take_of_length_le (by rw [coRow_len]; exact Nat.le_refl _), List.drop_of_length_le (by omega), List.append_nil]
theorem coK_at {xs : List Int} {C i k : Nat} {q : Int} {ys : List Int} (h : ys.length = C) (hk : k < C) : (coK xs C i q ys k).getD k 0 = ys.getD k 0 := by
  simp only [coK, List.getD]
  rw [List.getElem?_append_right (by simp; omega)]
  simp [coRow_len, Nat.min_eq_left (Nat.le_of_lt hk)]
theorem coK_set {xs : List Int} {C i k : Nat} {q : Int} {ys : List Int} (h : ys.length = C) (hk : k < C) : (coK xs C i q ys k).set k (ys.getD k 0 - cel xs C i k * q) = coK xs C i q ys (k + 1) := by
  have hl := coRow_len xs C i q ys
  have hg : (coRow xs C i q ys)[k]? = some (ys.getD k 0 - cel xs C i k * q) := by simp [coRow, hk]
  unfold coK
  generalize coRow xs C i q ys = zs at *
  generalize ys.getD k 0 - cel xs C i k * q = u at *
  apply List.ext_getElem?
  intro j
  grind
theorem num_at {ys : List Int} (h : ys.all isNum = true) (k : Nat) : -400000000 ≤ ys.getD k 0 ∧ ys.getD k 0 ≤ 400000000 := by
  rcases Nat.lt_or_ge k ys.length with hk | hk
  · have := List.all_eq_true.1 h (ys.getD k 0) (by simp [List.getD, hk])
    exact (isNum_iff _).1 this
  · have : ys.getD k 0 = 0 := by simp [List.getD, hk]
    omega
theorem coAll_no {xs : List Int} {C i k : Nat} {ys : List Int} (hk : k < C) (h : coOkJ xs C i (coQ xs C i ys) ys k = false) : coAll xs C i ys = false := by
  refine Bool.eq_false_iff.2 fun hc => ?_
  have := List.all_eq_true.1 hc k (List.mem_range.2 hk)
  rw [h] at this
  cases this
theorem coRow_num {xs : List Int} {C i : Nat} {ys : List Int} (h : coAll xs C i ys = true) : (coRow xs C i (coQ xs C i ys) ys).all isNum = true := by
  rw [List.all_eq_true]
  intro z hz
  obtain ⟨j, hj, rfl⟩ := List.mem_map.1 hz
  have := List.all_eq_true.1 h j hj
  unfold coOkJ at this
  rw [Bool.and_eq_true] at this
  exact this.2
theorem tdiv_bd {y : Int} (d : Int) (h : -400000000 ≤ y ∧ y ≤ 400000000) : -400000000 ≤ y.tdiv d ∧ y.tdiv d ≤ 400000000 := by
  have h1 : (y.tdiv d).natAbs ≤ y.natAbs := by rw [Int.natAbs_tdiv]; exact Nat.div_le_self _ _
  omega
theorem tmod_bd {y : Int} (d : Int) (h : -400000000 ≤ y ∧ y ≤ 400000000) : -400000000 ≤ y.tmod d ∧ y.tmod d ≤ 400000000 := by
  have h1 : (y.tmod d).natAbs ≤ y.natAbs := by rw [Int.natAbs_tmod]; exact Nat.mod_le _ _
  omega
theorem coOk_succ {xs : List Int} {C i k : Nat} {q : Int} {ys : List Int} (h : (List.range k).all (coOkJ xs C i q ys) = true) (h2 : coOkJ xs C i q ys k = true) : (List.range (k + 1)).all (coOkJ xs C i q ys) = true := by
  rw [List.range_succ, List.all_append, h]; simp [h2]
theorem fcI_pv {xs : List Int} {C i : Nat} (hl : (rowL xs C i).length = C) (h : pv xs C i < C) : fcI (rowL xs C i) = (pv xs C i : Int) := by
  unfold fcI
  rw [hl]
  exact if_pos h
set_option maxRecDepth 100000 in
set_option maxHeartbeats 8000000 in
theorem impl_CoordinatesOf (r c : Int) (A Ab : Option Addr) (n cap nb capb : Nat) (xs bs : List Int) (w : World) {B B' : Nat} (h : RI w B A n xs) (hb : RI w B' Ab nb bs) (hB : B ≤ w.heap.size) (hB' : B' ≤ w.heap.size) (hn : n ≤ 1048576) (hnb : nb ≤ 1048576) (hnc : n ≤ cap) (hcap : cap ≤ 9223372036854775807) :
    Calls Try.prog 19 #[.agg #[.int .i64 r, .int .i64 c, .slice A n cap], .slice Ab nb capb] w (IBR (coV r c xs bs) (coIs r c xs bs) w) := by
  have hlb := hb.len
  have H2 := Lib.hid (h.more hB)
  have H3 := Lib.hid (hb.more hB')
  clear h hb
  rcases co_cases r c xs bs with ⟨hm, hv1, hv2⟩ | ⟨hm, hl, hv1, hv2⟩ | ⟨hm, hl, ha, hv1, hv2⟩ | ⟨hm, hl, ha, hv⟩
  · have HM := Lib.hid hm
    have HV1 := Lib.hid hv1
    have HV2 := Lib.hid hv2
    clear hm hv1 hv2 hlb
    go_enter Try.func19, Try.ntmps19
    go_wp2_with fail
    refine (impl_IsLattice r c A n cap xs _ (B := w.heap.size) (by (repeat (first | (with_reducible exact H2.out) | (with_reducible refine RI.drew ?_) | (with_reducible refine RI.drewN ?_ _) | (with_reducible refine RI.alloc ?_ (by first | omega | (simp; done) | (simp; omega)) _) | (with_reducible refine RI.setCell ?_ (by first | omega | (simp; done) | (simp; omega)) _) | (with_reducible refine RI.below ?_ (by assumption) (by first | omega | (simp; done) | (simp; omega)))))) (by first | omega | (simp; done) | (simp; omega)) hn hnc hcap).mono ?_
    rw [HM.out]
    rintro e w1 ⟨rfl, hb1⟩
    have hsz1 := hb1.size
    simp at hsz1
    have hM : BM w1 w.heap.size r c A n cap := by (repeat (first | (with_reducible assumption) | (with_reducible refine BX.new _ _ _ _ _ _ _ _ (by first | omega | (simp; done) | (simp; omega))) | (with_reducible refine BX.below ?_ (by assumption) (by first | omega | (simp; done) | (simp; omega))) | (with_reducible apply BX.drew) | (with_reducible apply BX.drewN) | (with_reducible refine BX.put ?_) | (with_reducible refine BX.put2 ?_) | (with_reducible refine BX.far ?_ (by simp only [ne_eq]; omega) _) | (with_reducible apply BX.alloc) | (with_reducible refine B3.new _ _ _ _ _ _ (by first | omega | (simp; done) | (simp; omega))) | (with_reducible refine B3.of (by assumption)) | (with_reducible refine B3.below ?_ (by assumption) (by first | omega | (simp; done) | (simp; omega))) | (with_reducible apply B3.drew) | (with_reducible apply B3.drewN) | (with_reducible refine B3.far ?_ (by simp only [ne_eq]; omega) _) | (with_reducible apply B3.alloc)))
    have hbw : Below w.heap.size w w1 := by (repeat (first | (with_reducible exact Below.refl _ _) | (with_reducible assumption) | (with_reducible refine below_drewN ?_ _) | (with_reducible refine Below.drew ?_) | (with_reducible refine Below.alloc ?_ ?_ _) | (with_reducible refine Below.setCell ?_ ?_ _) | (with_reducible refine below_into ?_ (by assumption) (by first | omega | (simp; done) | (simp; omega))) | go_size))
    obtain ⟨ma, mb, mc, mf, ml⟩ := hM.mx
    go_wp2_with fail
    go_ret2; rw [HV1.out, HV2.out]; exact ⟨_, _, _, rfl, OR.empty2 _ _ (by simp) (by first | omega | (simp; done) | (simp; omega)), by (repeat (first | (with_reducible exact Below.refl _ _) | (with_reducible assumption) | (with_reducible refine below_drewN ?_ _) | (with_reducible refine Below.drew ?_) | (with_reducible refine Below.alloc ?_ ?_ _) | (with_reducible refine Below.setCell ?_ ?_ _) | (with_reducible refine below_into ?_ (by assumption) (by first | omega | (simp; done) | (simp; omega))) | go_size))⟩
  · have HM := Lib.hid hm
    have HV1 := Lib.hid hv1
    have HV2 := Lib.hid hv2
    rw [hlb] at hl
    clear hm hv1 hv2 hlb
    go_enter Try.func19, Try.ntmps19
    go_wp2_with fail
    refine (impl_IsLattice r c A n cap xs _ (B := w.heap.size) (by (repeat (first | (with_reducible exact H2.out) | (with_reducible refine RI.drew ?_) | (with_reducible refine RI.drewN ?_ _) | (with_reducible refine RI.alloc ?_ (by first | omega | (simp; done) | (simp; omega)) _) | (with_reducible refine RI.setCell ?_ (by first | omega | (simp; done) | (simp; omega)) _) | (with_reducible refine RI.below ?_ (by assumption) (by first | omega | (simp; done) | (simp; omega)))))) (by first | omega | (simp; done) | (simp; omega)) hn hnc hcap).mono ?_
    rw [HM.out]
    rintro e w1 ⟨rfl, hb1⟩
    have hsz1 := hb1.size
    simp at hsz1
    have hM : BM w1 w.heap.size r c A n cap := by (repeat (first | (with_reducible assumption) | (with_reducible refine BX.new _ _ _ _ _ _ _ _ (by first | omega | (simp; done) | (simp; omega))) | (with_reducible refine BX.below ?_ (by assumption) (by first | omega | (simp; done) | (simp; omega))) | (with_reducible apply BX.drew) | (with_reducible apply BX.drewN) | (with_reducible refine BX.put ?_) | (with_reducible refine BX.put2 ?_) | (with_reducible refine BX.far ?_ (by simp only [ne_eq]; omega) _) | (with_reducible apply BX.alloc) | (with_reducible refine B3.new _ _ _ _ _ _ (by first | omega | (simp; done) | (simp; omega))) | (with_reducible refine B3.of (by assumption)) | (with_reducible refine B3.below ?_ (by assumption) (by first | omega | (simp; done) | (simp; omega))) | (with_reducible apply B3.drew) | (with_reducible apply B3.drewN) | (with_reducible refine B3.far ?_ (by simp only [ne_eq]; omega) _) | (with_reducible apply B3.alloc)))
    have hbw : Below w.heap.size w w1 := by (repeat (first | (with_reducible exact Below.refl _ _) | (with_reducible assumption) | (with_reducible refine below_drewN ?_ _) | (with_reducible refine Below.drew ?_) | (with_reducible refine Below.alloc ?_ ?_ _) | (with_reducible refine Below.setCell ?_ ?_ _) | (with_reducible refine below_into ?_ (by assumption) (by first | omega | (simp; done) | (simp; omega))) | go_size))
    obtain ⟨ma, mb, mc, mf, ml⟩ := hM.mx
    go_wp2_with fail
    go_ret2; rw [HV1.out, HV2.out]; exact ⟨_, _, _, rfl, OR.empty2 _ _ (by simp) (by first | omega | (simp; done) | (simp; omega)), by (repeat (first | (with_reducible exact Below.refl _ _) | (with_reducible assumption) | (with_reducible refine below_drewN ?_ _) | (with_reducible refine Below.drew ?_) | (with_reducible refine Below.alloc ?_ ?_ _) | (with_reducible refine Below.setCell ?_ ?_ _) | (with_reducible refine below_into ?_ (by assumption) (by first | omega | (simp; done) | (simp; omega))) | go_size))⟩
  · have HM := Lib.hid hm
    have HV1 := Lib.hid hv1
    have HV2 := Lib.hid hv2
    have HA := Lib.hid ha
    have hl2 : ((nb : Int) != c) = false := by rw [hlb] at hl; simpa using hl
    clear hm hv1 hv2 hlb ha hl
    go_enter Try.func19, Try.ntmps19
    go_wp2_with fail
    refine (impl_IsLattice r c A n cap xs _ (B := w.heap.size) (by (repeat (first | (with_reducible exact H2.out) | (with_reducible refine RI.drew ?_) | (with_reducible refine RI.drewN ?_ _) | (with_reducible refine RI.alloc ?_ (by first | omega | (simp; done) | (simp; omega)) _) | (with_reducible refine RI.setCell ?_ (by first | omega | (simp; done) | (simp; omega)) _) | (with_reducible refine RI.below ?_ (by assumption) (by first | omega | (simp; done) | (simp; omega)))))) (by first | omega | (simp; done) | (simp; omega)) hn hnc hcap).mono ?_
    rw [HM.out]
    rintro e w1 ⟨rfl, hb1⟩
    have hsz1 := hb1.size
    simp at hsz1
    have hM : BM w1 w.heap.size r c A n cap := by (repeat (first | (with_reducible assumption) | (with_reducible refine BX.new _ _ _ _ _ _ _ _ (by first | omega | (simp; done) | (simp; omega))) | (with_reducible refine BX.below ?_ (by assumption) (by first | omega | (simp; done) | (simp; omega))) | (with_reducible apply BX.drew) | (with_reducible apply BX.drewN) | (with_reducible refine BX.put ?_) | (with_reducible refine BX.put2 ?_) | (with_reducible refine BX.far ?_ (by simp only [ne_eq]; omega) _) | (with_reducible apply BX.alloc) | (with_reducible refine B3.new _ _ _ _ _ _ (by first | omega | (simp; done) | (simp; omega))) | (with_reducible refine B3.of (by assumption)) | (with_reducible refine B3.below ?_ (by assumption) (by first | omega | (simp; done) | (simp; omega))) | (with_reducible apply B3.drew) | (with_reducible apply B3.drewN) | (with_reducible refine B3.far ?_ (by simp only [ne_eq]; omega) _) | (with_reducible apply B3.alloc)))
    have hbw : Below w.heap.size w w1 := by (repeat (first | (with_reducible exact Below.refl _ _) | (with_reducible assumption) | (with_reducible refine below_drewN ?_ _) | (with_reducible refine Below.drew ?_) | (with_reducible refine Below.alloc ?_ ?_ _) | (with_reducible refine Below.setCell ?_ ?_ _) | (with_reducible refine below_into ?_ (by assumption) (by first | omega | (simp; done) | (simp; omega))) | go_size))
    obtain ⟨ma, mb, mc, mf, ml⟩ := hM.mx
    go_wp2_with fail
    refine (impl_areNumbers Ab nb capb bs _ (C := w.heap.size) (by (repeat (first | (with_reducible exact H3.out) | (with_reducible refine RI.drew ?_) | (with_reducible refine RI.drewN ?_ _) | (with_reducible refine RI.alloc ?_ (by first | omega | (simp; done) | (simp; omega)) _) | (with_reducible refine RI.setCell ?_ (by first | omega | (simp; done) | (simp; omega)) _) | (with_reducible refine RI.below ?_ (by assumption) (by first | omega | (simp; done) | (simp; omega)))))) hnb).mono ?_
    rw [HA.out]
    rintro e w' ⟨rfl, rfl⟩
    go_wp2_with fail
    go_ret2; rw [HV1.out, HV2.out]; exact ⟨_, _, _, rfl, OR.empty2 _ _ (by simp) (by first | omega | (simp; done) | (simp; omega)), by (repeat (first | (with_reducible exact Below.refl _ _) | (with_reducible assumption) | (with_reducible refine below_drewN ?_ _) | (with_reducible refine Below.drew ?_) | (with_reducible refine Below.alloc ?_ ?_ _) | (with_reducible refine Below.setCell ?_ ?_ _) | (with_reducible refine below_into ?_ (by assumption) (by first | omega | (simp; done) | (simp; omega))) | go_size))⟩
  · obtain ⟨hlen2, hlen3⟩ : bs.length ≤ nb ∧ nb ≤ bs.length := by omega
    have hm2 := hm
    unfold latB at hm2
    rw [Bool.and_eq_true] at hm2
    have M := hermB_isM hm2.1
    have HM := Lib.hid hm
    obtain ⟨R, rfl⟩ := nat_of M.r0
    obtain ⟨C, rfl⟩ := nat_of M.c0
    have hR := M.r1
    have hC := M.c1
    have HL := Lib.hid M.len_nat
    have HNUM := Lib.hid M.nums
    have hz0 := hm2.2
    simp only [Int.toNat_natCast, decide_eq_true_eq] at hz0
    have hpv : ∀ i, i < R → pv xs C i < C := fun i hi => by
      refine Decidable.byContradiction fun hp => ?_
      have h1 := zeroTo_no hp
      have h2 : i ∈ ([] : List Nat) := by
        have h3 : (i : Int) ∈ zeroTo xs C R := by
          unfold zeroTo
          exact List.mem_map.2 ⟨i, List.mem_filter.2 ⟨List.mem_range.2 hi, by simpa using hp⟩, rfl⟩
        rw [List.eq_nil_of_length_eq_zero hz0] at h3
        cases h3
      cases h2
    have HPV := Lib.hid hpv
    have HPN : Hid (∀ i, i < R → cel xs C i (pv xs C i) ≠ 0) := Lib.hid fun i hi => pv_ne M.len_nat hi (hpv i hi)
    simp only [Int.toNat_natCast] at hv
    have hNO : coF xs C R 0 bs [] = none → coV R C xs bs = [] ∧ coIs R C xs bs = false := fun h => by
      unfold coV coIs; rw [hv, h]; exact ⟨rfl, rfl⟩
    have hYES : ∀ out, coF xs C R 0 bs [] = some out → coV R C xs bs = out ∧ coIs R C xs bs = true := fun out h => by
      unfold coV coIs; rw [hv, h]; exact ⟨rfl, rfl⟩
    have HNO := Lib.hid hNO
    have HYES := Lib.hid hYES
    have hnbC : nb ≤ C ∧ C ≤ nb := by omega
    have hbC : ((nb : Int) != (C : Int)) = false := by
      have : (nb : Int) = C := by omega
      simpa using this
    have HBL : Hid (bs.length = C) := Lib.hid (by omega)
    have HA := Lib.hid ha
    generalize coV (R : Int) (C : Int) xs bs = vv at *
    generalize coIs (R : Int) (C : Int) xs bs = vb at *
    have hRC : R * C ≤ 24 * 24 := Nat.mul_le_mul (by omega) (by omega)
    have hnRC := H2.out.len
    rw [HL.out] at hnRC
    have hnRC2 : n ≤ R * C ∧ R * C ≤ n := by omega
    clear hm hm2 M hz0 hpv hv hNO hYES ha hl hlb hlen2 hlen3 hnRC
    go_enter Try.func19, Try.ntmps19
    go_wp2_with fail
    refine (impl_IsLattice R C A n cap xs _ (B := w.heap.size) (by (repeat (first | (with_reducible exact H2.out) | (with_reducible refine RI.drew ?_) | (with_reducible refine RI.drewN ?_ _) | (with_reducible refine RI.alloc ?_ (by first | omega | (simp; done) | (simp; omega)) _) | (with_reducible refine RI.setCell ?_ (by first | omega | (simp; done) | (simp; omega)) _) | (with_reducible refine RI.below ?_ (by assumption) (by first | omega | (simp; done) | (simp; omega)))))) (by first | omega | (simp; done) | (simp; omega)) hn hnc hcap).mono ?_
    rw [HM.out]
    rintro e w1 ⟨rfl, hb1⟩
    have hsz1 := hb1.size
    simp at hsz1
    have hM : BM w1 w.heap.size R C A n cap := by (repeat (first | (with_reducible assumption) | (with_reducible refine BX.new _ _ _ _ _ _ _ _ (by first | omega | (simp; done) | (simp; omega))) | (with_reducible refine BX.below ?_ (by assumption) (by first | omega | (simp; done) | (simp; omega))) | (with_reducible apply BX.drew) | (with_reducible apply BX.drewN) | (with_reducible refine BX.put ?_) | (with_reducible refine BX.put2 ?_) | (with_reducible refine BX.far ?_ (by simp only [ne_eq]; omega) _) | (with_reducible apply BX.alloc) | (with_reducible refine B3.new _ _ _ _ _ _ (by first | omega | (simp; done) | (simp; omega))) | (with_reducible refine B3.of (by assumption)) | (with_reducible refine B3.below ?_ (by assumption) (by first | omega | (simp; done) | (simp; omega))) | (with_reducible apply B3.drew) | (with_reducible apply B3.drewN) | (with_reducible refine B3.far ?_ (by simp only [ne_eq]; omega) _) | (with_reducible apply B3.alloc)))
    have hbw : Below w.heap.size w w1 := by (repeat (first | (with_reducible exact Below.refl _ _) | (with_reducible assumption) | (with_reducible refine below_drewN ?_ _) | (with_reducible refine Below.drew ?_) | (with_reducible refine Below.alloc ?_ ?_ _) | (with_reducible refine Below.setCell ?_ ?_ _) | (with_reducible refine below_into ?_ (by assumption) (by first | omega | (simp; done) | (simp; omega))) | go_size))
    obtain ⟨ma, mb, mc, mf, ml⟩ := hM.mx
    go_wp2_with fail
    refine (impl_areNumbers Ab nb capb bs _ (C := w.heap.size) (by (repeat (first | (with_reducible exact H3.out) | (with_reducible refine RI.drew ?_) | (with_reducible refine RI.drewN ?_ _) | (with_reducible refine RI.alloc ?_ (by first | omega | (simp; done) | (simp; omega)) _) | (with_reducible refine RI.setCell ?_ (by first | omega | (simp; done) | (simp; omega)) _) | (with_reducible refine RI.below ?_ (by assumption) (by first | omega | (simp; done) | (simp; omega)))))) hnb).mono ?_
    rw [HA.out]
    rintro e w' ⟨rfl, rfl⟩
    go_wp2_with (at_builtin; refine wpList_append_ints _ rfl (.tmp 30) (.tmp 31) rfl (w.heap.size + 1) _ [] rfl ?c1 w.heap.size Ab nb capb bs rfl ?c2 ?c3 ?c4 ?_)
    case c1 => exact OR.empty2 _ _ (by simp) (by first | omega | (simp; done) | (simp; omega))
    case c2 => (repeat (first | (with_reducible exact H3.out) | (with_reducible refine RI.drew ?_) | (with_reducible refine RI.drewN ?_ _) | (with_reducible refine RI.alloc ?_ (by first | omega | (simp; done) | (simp; omega)) _) | (with_reducible refine RI.setCell ?_ (by first | omega | (simp; done) | (simp; omega)) _) | (with_reducible refine RI.below ?_ (by assumption) (by first | omega | (simp; done) | (simp; omega)))))
    case c3 => first | omega | (simp; omega)
    case c4 => exact (by first | omega | (simp; done) | (simp; omega))
    intro v1 w2 hrest0 hgr hat
    have hrest : OR w2 (w.heap.size + 1) v1 bs := hrest0
    obtain ⟨g, capr, rfl, hg1, hg2⟩ := hrest.notNil hat
    have hl1 := hM.lt
    have hb2 : Below (w.heap.size + 1) _ w2 := only_below hgr (by first | omega | (simp; done) | (simp; omega)) (by intro g h; cases h; omega)
    have hsz2 := hb2.size
    simp at hsz2
    have hM2 : BM w2 w.heap.size R C A n cap := (hM.alloc _).below hb2 (by omega)
    have hbw2 : Below w.heap.size w w2 := by
      refine Below.trans ?_ (hb2.mono (by omega))
      (repeat (first | (with_reducible exact Below.refl _ _) | (with_reducible assumption) | (with_reducible refine below_drewN ?_ _) | (with_reducible refine Below.drew ?_) | (with_reducible refine Below.alloc ?_ ?_ _) | (with_reducible refine Below.setCell ?_ ?_ _) | (with_reducible refine below_into ?_ (by assumption) (by first | omega | (simp; done) | (simp; omega))) | go_size))
    clear ma mb mc mf ml hM hbw hgr hat hb1 hb2 hrest0
    obtain ⟨ma, mb, mc, mf, ml⟩ := hM2.mx
    go_wp2_with fail
    generalize hbq : w2.heap.size = bQ at *
    have HUR : Hid (Own (.slice (some ⟨g, 0, none⟩) bs.length capr) (w.heap.size + 1) bQ) := Lib.hid (by rw [← hbq]; exact hrest.own.wide (Nat.le_refl _) (Nat.le_refl _))
    have hbl2 : bs.length ≤ C ∧ C ≤ bs.length := by have := HBL.out; omega
    have hcr := hrest.caps
    have hbQ : w.heap.size + 1 ≤ g ∧ g < bQ := by omega
    go_loopw [7, 8] (fun vo u wr => ∃ (i : Nat) (P : Option Addr) (pc : Nat) (ys out : List Int), u = .int .i64 i ∧ vo = .slice P i pc ∧ i ≤ R ∧ out.length = i ∧ ys.length = C ∧ ys.all isNum = true ∧ coF xs C (R - i) i ys out = coF xs C R 0 bs [] ∧ BM wr w.heap.size R C A n cap ∧ OR wr (w.heap.size + 1) (.slice (some ⟨g, 0, none⟩) bs.length capr) ys ∧ OR wr bQ (.slice P i pc) out ∧ bQ ≤ wr.heap.size ∧ Below w.heap.size w wr) (fun _ u _ => R - (intOf u).toNat)
    case atStart => 
      refine ⟨0, _, _, bs, [], rfl, rfl, Nat.zero_le _, rfl, HBL.out, HA.out, rfl, by (repeat (first | (with_reducible exact hM2) | (with_reducible refine BX.new _ _ _ _ _ _ _ _ (by first | omega | (simp; done) | (simp; omega))) | (with_reducible refine BX.below ?_ (by assumption) (by first | omega | (simp; done) | (simp; omega))) | (with_reducible apply BX.drew) | (with_reducible apply BX.drewN) | (with_reducible refine BX.put ?_) | (with_reducible refine BX.put2 ?_) | (with_reducible refine BX.far ?_ (by simp only [ne_eq]; omega) _) | (with_reducible apply BX.alloc) | (with_reducible refine B3.new _ _ _ _ _ _ (by first | omega | (simp; done) | (simp; omega))) | (with_reducible exact B3.of hM2) | (with_reducible refine B3.below ?_ (by assumption) (by first | omega | (simp; done) | (simp; omega))) | (with_reducible apply B3.drew) | (with_reducible apply B3.drewN) | (with_reducible refine B3.far ?_ (by simp only [ne_eq]; omega) _) | (with_reducible apply B3.alloc))), ?_, OR.empty2 _ _ hbq.symm (by omega), by simp [hbq], by (repeat (first | (with_reducible exact Below.refl _ _) | (with_reducible assumption) | (with_reducible refine below_drewN ?_ _) | (with_reducible refine Below.drew ?_) | (with_reducible refine Below.alloc ?_ ?_ _) | (with_reducible refine Below.setCell ?_ ?_ _) | (with_reducible refine below_into ?_ (by assumption) (by first | omega | (simp; done) | (simp; omega))) | go_size))⟩
      (repeat (first | (with_reducible exact hrest) | (with_reducible refine OR.drew ?_) | (with_reducible refine OR.drewN ?_ _) | (with_reducible refine OR.alloc ?_ _) | (with_reducible refine OR.below ?_ (by assumption) (by first | omega | (simp; done) | (simp; omega))) | (with_reducible refine OR.low ?_ (by first | omega | (simp only []; omega) | (simp; omega)) _)))
    case round =>
      obtain ⟨i, P, pc, ys, out, rfl, rfl, hiR, hol, hyl, hyn, hco, hM, hrs, hot, hszq, hbw⟩ := hrel
      have HYN := Lib.hid hyn
      have HCO := Lib.hid hco
      have HYL := Lib.hid hyl
      have hyl2 : ys.length ≤ C ∧ C ≤ ys.length := by omega
      have hszr := hbw.size
      have hlr := hM.lt
      clear hyn hco hyl ma mb mc mf ml hM2 hrest hbw2
      obtain ⟨ma, mb, mc, mf, ml⟩ := hM.mx
      by_cases hlt : i < R
      · have hpC := HPV.out i hlt
        have HNE := Lib.hid (HPN.out i hlt)
        have HI : Hid (i * C + C ≤ n) := Lib.hid (by have h3 := Nat.mul_le_mul_right C (show i + 1 ≤ R by omega); rw [Nat.add_mul, Nat.one_mul] at h3; omega)
        have HFC : Hid (fcI (rowL xs C i) = (pv xs C i : Int)) := Lib.hid (fcI_pv (rowL_len (by have h4 := HI.out; have := H2.out.len; omega)) hpC)
        have HR1 : Hid (R - i = (R - (i + 1)) + 1) := Lib.hid (by omega)
        go_wp2_with fail
        refine (impl_row R C i A n cap xs _ (B := w.heap.size) (by (repeat (first | (with_reducible exact H2.out) | (with_reducible refine RI.drew ?_) | (with_reducible refine RI.drewN ?_ _) | (with_reducible refine RI.alloc ?_ (by first | omega | (simp; done) | (simp; omega)) _) | (with_reducible refine RI.setCell ?_ (by first | omega | (simp; done) | (simp; omega)) _) | (with_reducible refine RI.below ?_ (by assumption) (by first | omega | (simp; done) | (simp; omega)))))) (by first | omega | (simp; done) | (simp; omega)) hnc hcap (by omega) (by omega) HI.out).mono ?_
        rintro e w3 ⟨A', cap', rfl, hri, hb3, hc1, hc2⟩
        have hsz3 := hb3.size
        (try simp at hsz3)
        have hM3 : BM w3 w.heap.size R C A n cap := by (repeat (first | (with_reducible exact hM) | (with_reducible refine BX.new _ _ _ _ _ _ _ _ (by first | omega | (simp; done) | (simp; omega))) | (with_reducible refine BX.below ?_ (by assumption) (by first | omega | (simp; done) | (simp; omega))) | (with_reducible apply BX.drew) | (with_reducible apply BX.drewN) | (with_reducible refine BX.put ?_) | (with_reducible refine BX.put2 ?_) | (with_reducible refine BX.far ?_ (by simp only [ne_eq]; omega) _) | (with_reducible apply BX.alloc) | (with_reducible refine B3.new _ _ _ _ _ _ (by first | omega | (simp; done) | (simp; omega))) | (with_reducible exact B3.of hM) | (with_reducible refine B3.below ?_ (by assumption) (by first | omega | (simp; done) | (simp; omega))) | (with_reducible apply B3.drew) | (with_reducible apply B3.drewN) | (with_reducible refine B3.far ?_ (by simp only [ne_eq]; omega) _) | (with_reducible apply B3.alloc)))
        have hrs3 : OR w3 (w.heap.size + 1) (.slice (some ⟨g, 0, none⟩) bs.length capr) ys := by (repeat (first | (with_reducible exact hrs) | (with_reducible refine OR.drew ?_) | (with_reducible refine OR.drewN ?_ _) | (with_reducible refine OR.alloc ?_ _) | (with_reducible refine OR.below ?_ (by assumption) (by first | omega | (simp; done) | (simp; omega))) | (with_reducible refine OR.low ?_ (by first | omega | (simp only []; omega) | (simp; omega)) _)))
        have hot3 : OR w3 bQ (.slice P i pc) out := by (repeat (first | (with_reducible exact hot) | (with_reducible refine OR.drew ?_) | (with_reducible refine OR.drewN ?_ _) | (with_reducible refine OR.alloc ?_ _) | (with_reducible refine OR.below ?_ (by assumption) (by first | omega | (simp; done) | (simp; omega))) | (with_reducible refine OR.low ?_ (by first | omega | (simp only []; omega) | (simp; omega)) _)))
        have hbw3 : Below w.heap.size w w3 := by (repeat (first | (with_reducible exact Below.refl _ _) | (with_reducible assumption) | (with_reducible refine below_drewN ?_ _) | (with_reducible refine Below.drew ?_) | (with_reducible refine Below.alloc ?_ ?_ _) | (with_reducible refine Below.setCell ?_ ?_ _) | (with_reducible refine below_into ?_ (by assumption) (by first | omega | (simp; done) | (simp; omega))) | go_size))
        clear ma mb mc mf ml hM hrs hot hbw hb3
        obtain ⟨ma, mb, mc, mf, ml⟩ := hM3.mx
        have HRI := Lib.hid hri
        go_wp2_with fail
        refine (impl_firstCell A' C cap' _ _ HRI.out (by omega)).mono ?_
        rw [HFC.out]
        rintro e w' ⟨rfl, rfl⟩
        obtain ⟨bb, oo, rfl, hbb, -⟩ := hri.2 (by omega)
        have c1 := hri.at_ (k := pv xs C i) hpC
        rw [rowL_getD hpC] at c1
        have c2 := hrs3.cell (pv xs C i) (by omega)
        have hyb := num_at HYN.out (pv xs C i)
        have HM0 : Hid (coM xs C i ys = (ys.getD (pv xs C i) 0).tmod (cel xs C i (pv xs C i))) := Lib.hid rfl
        have HQ0 : Hid (coQ xs C i ys = (ys.getD (pv xs C i) 0).tdiv (cel xs C i (pv xs C i))) := Lib.hid rfl
        have hne := HNE.out
        generalize ys.getD (pv xs C i) 0 = y at c2 hyb HM0 HQ0
        generalize cel xs C i (pv xs C i) = d at c1 hne HM0 HQ0
        generalize pv xs C i = p0 at hpC c1 c2
        have hdb := tdiv_bd d hyb
        have g1 : IntKind.i64.wrap (y.tdiv d) = y.tdiv d := IntWalk.i64_in _ (by omega)
        have hd0 : ¬ d = 0 := hne
        have hp1 : 0 ≤ (p0 : Int) := by omega
        have hp2 : (p0 : Int) < (C : Int) := by omega
        have hp3 : (p0 : Int) < (bs.length : Int) := by omega
        have hp4 : p0 < bs.length := by omega
        have hdz : (d == 0) = false := by simpa using hd0
        have hdb2 := tmod_bd d hyb
        have g2 : IntKind.i64.wrap (y.tmod d) = y.tmod d := IntWalk.i64_in _ (by omega)
        by_cases hm0 : y.tmod d = 0
        · have hmb : (y.tmod d != 0) = false := by simpa using hm0
          have HC0 : Hid (coM xs C i ys = 0) := Lib.hid (HM0.out.trans hm0)
          clear hm0
          go_wp2_with fail
          go_quiet (fail)
          go_wp2_with fail
          go_quiet (fail)
          rename_i nq0
          have HQE : Hid (coQ xs C i ys = y.tdiv d) := Lib.hid HQ0.out
          clear HQ0
          generalize y.tdiv d = q at *
          have hqb : -400000000 ≤ q ∧ q ≤ 400000000 := hdb
          go_wp2_with fail
          go_loopg [67] (C + 1) (fun gn u wr => ∃ k : Nat, u = .int .i64 k ∧ k ≤ C ∧ C - k < gn ∧ (List.range k).all (coOkJ xs C i q ys) = true ∧ BM wr w.heap.size R C A n cap ∧ RI wr w.heap.size (some ⟨bb, oo, none⟩) C (rowL xs C i) ∧ OR wr (w.heap.size + 1) (.slice (some ⟨g, 0, none⟩) bs.length capr) (coK xs C i q ys k) ∧ OR wr bQ (.slice P i pc) out ∧ bQ ≤ wr.heap.size ∧ Below w.heap.size w wr)
          case atStart =>
            refine ⟨0, rfl, Nat.zero_le _, by omega, rfl, by (repeat (first | (with_reducible exact hM3) | (with_reducible refine BX.new _ _ _ _ _ _ _ _ (by first | omega | (simp; done) | (simp; omega))) | (with_reducible refine BX.below ?_ (by assumption) (by first | omega | (simp; done) | (simp; omega))) | (with_reducible apply BX.drew) | (with_reducible apply BX.drewN) | (with_reducible refine BX.put ?_) | (with_reducible refine BX.put2 ?_) | (with_reducible refine BX.far ?_ (by simp only [ne_eq]; omega) _) | (with_reducible apply BX.alloc) | (with_reducible refine B3.new _ _ _ _ _ _ (by first | omega | (simp; done) | (simp; omega))) | (with_reducible exact B3.of hM3) | (with_reducible refine B3.below ?_ (by assumption) (by first | omega | (simp; done) | (simp; omega))) | (with_reducible apply B3.drew) | (with_reducible apply B3.drewN) | (with_reducible refine B3.far ?_ (by simp only [ne_eq]; omega) _) | (with_reducible apply B3.alloc))), by (repeat (first | (with_reducible exact hri) | (with_reducible refine RI.drew ?_) | (with_reducible refine RI.drewN ?_ _) | (with_reducible refine RI.alloc ?_ (by first | omega | (simp; done) | (simp; omega)) _) | (with_reducible refine RI.setCell ?_ (by first | omega | (simp; done) | (simp; omega)) _) | (with_reducible refine RI.below ?_ (by assumption) (by first | omega | (simp; done) | (simp; omega))))), ?_, by (repeat (first | (with_reducible exact hot3) | (with_reducible refine OR.drew ?_) | (with_reducible refine OR.drewN ?_ _) | (with_reducible refine OR.alloc ?_ _) | (with_reducible refine OR.below ?_ (by assumption) (by first | omega | (simp; done) | (simp; omega))) | (with_reducible refine OR.low ?_ (by first | omega | (simp only []; omega) | (simp; omega)) _))), (by first | omega | (simp; done) | (simp; omega)), by (repeat (first | (with_reducible exact Below.refl _ _) | (with_reducible assumption) | (with_reducible refine below_drewN ?_ _) | (with_reducible refine Below.drew ?_) | (with_reducible refine Below.alloc ?_ ?_ _) | (with_reducible refine Below.setCell ?_ ?_ _) | (with_reducible refine below_into ?_ (by assumption) (by first | omega | (simp; done) | (simp; omega))) | go_size))⟩
            rw [coK_zero]
            (repeat (first | (with_reducible exact hrs3) | (with_reducible refine OR.drew ?_) | (with_reducible refine OR.drewN ?_ _) | (with_reducible refine OR.alloc ?_ _) | (with_reducible refine OR.below ?_ (by assumption) (by first | omega | (simp; done) | (simp; omega))) | (with_reducible refine OR.low ?_ (by first | omega | (simp only []; omega) | (simp; omega)) _)))
          case round =>
            clear hM3 hri hrs3 hot3 hbw3 ma mb mc mf ml c1 c2
            obtain ⟨k, rfl, hkC, hgk, hok, hM, hri, hrs, hot, hszq2, hbw⟩ := hrel
            have HOK := Lib.hid hok
            have hszk := hbw.size
            clear hok
            obtain ⟨ma, mb, mc, mf, ml⟩ := hM.mx
            by_cases hk : k < C
            · have c1 := hri.at_ (k := k) hk
              rw [rowL_getD hk] at c1
              have c2 := hrs.cell k (by rw [coK_len HYL.out hkC]; exact hk)
              rw [coK_at HYL.out hk] at c2
              have hst := hrs.set_ k (ys.getD k 0 - cel xs C i k * q)
              rw [coK_set HYL.out hk] at hst
              have hfr := hrs.frozen k
              have hyk := num_at HYN.out k
              have hxk : -400000000 ≤ cel xs C i k ∧ cel xs C i k ≤ 400000000 := HNUM.out _
              have HJ : Hid (coOkJ xs C i q ys k = (isNum (cel xs C i k * q) && isNum (ys.getD k 0 - cel xs C i k * q))) := Lib.hid rfl
              obtain ⟨z1, z2⟩ := mul_bd4 (cel xs C i k) q 400000000 400000000 hxk.1 hxk.2 hqb.1 hqb.2
              generalize ys.getD k 0 = yk at *
              generalize cel xs C i k = xk at *
              have w1' : IntKind.i64.wrap (xk * q) = xk * q := IntWalk.i64_in _ (by omega)
              have w2' : IntKind.i64.wrap (yk - xk * q) = yk - xk * q := IntWalk.i64_in _ (by omega)
              have HNO2 : Hid (coOkJ xs C i q ys k = false → vv = [] ∧ vb = false) := Lib.hid (fun hj => by
                have hx := HCO.out
                rw [HR1.out, coF_no2 (coAll_no hk (by rw [HQE.out]; exact hj))] at hx
                exact HNO.out hx.symm)
              have hkb : k < bs.length := by omega
              rcases hx1 : isNum (xk * q) with _ | _
              · have HX1 := Lib.hid hx1
                obtain ⟨hv1, hv2⟩ := HNO2.out (by rw [HJ.out, hx1]; rfl)
                have HV1 := Lib.hid hv1
                have HV2 := Lib.hid hv2
                clear hx1 hv1 hv2 hst
                go_wp2_with fail
                refine (impl_IsNumber (xk * q) _).mono ?_
                rw [HX1.out]
                rintro e w' ⟨rfl, rfl⟩
                go_wp2_with fail
                go_ret2; rw [HV1.out, HV2.out]; exact ⟨_, _, _, rfl, OR.empty2 _ _ (by simp) (by first | omega | (simp; done) | (simp; omega)), by (repeat (first | (with_reducible exact Below.refl _ _) | (with_reducible assumption) | (with_reducible refine below_drewN ?_ _) | (with_reducible refine Below.drew ?_) | (with_reducible refine Below.alloc ?_ ?_ _) | (with_reducible refine Below.setCell ?_ ?_ _) | (with_reducible refine below_into ?_ (by assumption) (by first | omega | (simp; done) | (simp; omega))) | go_size))⟩
              · have HX1 := Lib.hid hx1
                rcases hx2 : isNum (yk - xk * q) with _ | _
                · have HX2 := Lib.hid hx2
                  obtain ⟨hv1, hv2⟩ := HNO2.out (by rw [HJ.out, hx1, hx2]; rfl)
                  have HV1 := Lib.hid hv1
                  have HV2 := Lib.hid hv2
                  clear hx1 hx2 hv1 hv2 hst
                  go_wp2_with fail
                  refine (impl_IsNumber (xk * q) _).mono ?_
                  rw [HX1.out]
                  rintro e w' ⟨rfl, rfl⟩
                  go_wp2_with fail
                  refine (impl_IsNumber (yk - xk * q) _).mono ?_
                  rw [HX2.out]
                  rintro e w' ⟨rfl, rfl⟩
                  go_wp2_with fail
                  go_ret2; rw [HV1.out, HV2.out]; exact ⟨_, _, _, rfl, OR.empty2 _ _ (by simp) (by first | omega | (simp; done) | (simp; omega)), by (repeat (first | (with_reducible exact Below.refl _ _) | (with_reducible assumption) | (with_reducible refine below_drewN ?_ _) | (with_reducible refine Below.drew ?_) | (with_reducible refine Below.alloc ?_ ?_ _) | (with_reducible refine Below.setCell ?_ ?_ _) | (with_reducible refine below_into ?_ (by assumption) (by first | omega | (simp; done) | (simp; omega))) | go_size))⟩
                · have HX2 := Lib.hid hx2
                  have HOK2 : Hid ((List.range (k + 1)).all (coOkJ xs C i q ys) = true) := Lib.hid (coOk_succ HOK.out (by rw [HJ.out, hx1, hx2]; rfl))
                  clear hx1 hx2
                  go_wp2_with fail
                  refine (impl_IsNumber (xk * q) _).mono ?_
                  rw [HX1.out]
                  rintro e w' ⟨rfl, rfl⟩
                  go_wp2_with fail
                  refine (impl_IsNumber (yk - xk * q) _).mono ?_
                  rw [HX2.out]
                  rintro e w' ⟨rfl, rfl⟩
                  go_wp2_with fail
                  go_roundg (gk - 1)
                  case measure => omega
                  case rel => exact ⟨k + 1, by go_num, by omega, by omega, HOK2.out, by (repeat (first | (with_reducible exact hM) | (with_reducible refine BX.new _ _ _ _ _ _ _ _ (by first | omega | (simp; done) | (simp; omega))) | (with_reducible refine BX.below ?_ (by assumption) (by first | omega | (simp; done) | (simp; omega))) | (with_reducible apply BX.drew) | (with_reducible apply BX.drewN) | (with_reducible refine BX.put ?_) | (with_reducible refine BX.put2 ?_) | (with_reducible refine BX.far ?_ (by simp only [ne_eq]; omega) _) | (with_reducible apply BX.alloc) | (with_reducible refine B3.new _ _ _ _ _ _ (by first | omega | (simp; done) | (simp; omega))) | (with_reducible exact B3.of hM) | (with_reducible refine B3.below ?_ (by assumption) (by first | omega | (simp; done) | (simp; omega))) | (with_reducible apply B3.drew) | (with_reducible apply B3.drewN) | (with_reducible refine B3.far ?_ (by simp only [ne_eq]; omega) _) | (with_reducible apply B3.alloc))), by (repeat (first | (with_reducible exact hri) | (with_reducible refine RI.drew ?_) | (with_reducible refine RI.drewN ?_ _) | (with_reducible refine RI.alloc ?_ (by first | omega | (simp; done) | (simp; omega)) _) | (with_reducible refine RI.setCell ?_ (by first | omega | (simp; done) | (simp; omega)) _) | (with_reducible refine RI.below ?_ (by assumption) (by first | omega | (simp; done) | (simp; omega))))), hst, by (repeat (first | (with_reducible exact hot) | (with_reducible refine OR.drew ?_) | (with_reducible refine OR.drewN ?_ _) | (with_reducible refine OR.alloc ?_ _) | (with_reducible refine OR.below ?_ (by assumption) (by first | omega | (simp; done) | (simp; omega))) | (with_reducible refine OR.low ?_ (by first | omega | (simp only []; omega) | (simp; omega)) _))), (by first | omega | (simp; done) | (simp; omega)), by (repeat (first | (with_reducible exact Below.refl _ _) | (with_reducible assumption) | (with_reducible refine below_drewN ?_ _) | (with_reducible refine Below.drew ?_) | (with_reducible refine Below.alloc ?_ ?_ _) | (with_reducible refine Below.setCell ?_ ?_ _) | (with_reducible refine below_into ?_ (by assumption) (by first | omega | (simp; done) | (simp; omega))) | go_size))⟩
            · obtain rfl : k = C := by omega
              have HAL : Hid (coAll xs k i ys = true) := Lib.hid (by unfold coAll; rw [HQE.out]; exact HOK.out)
              have hrs2 := hrs.as (coK_end HYL.out)
              have hlm := hM.lt
              clear hrs
              go_wp2_with (at_builtin; refine wpList_append_one _ rfl (.tmp 96) (.tmp 98) rfl bQ _ out rfl (hot.alloc _) _ q rfl ?f1 ?f2 ?f3 ?_)
              case f1 => simp [go_sem]
              case f2 => omega
              case f3 => simp; omega
              intro v1 w4 hown1 hgr hat
              have hM4 := (hM.alloc (.cells #[.int .i64 q] 3)).grown hgr (hot.ne_low (by omega))
              have hrs4 := OR.keptOwn (hrs2.alloc (.cells #[.int .i64 q] 3)) hgr HUR.out hot.own (.inl (Nat.le_refl _))
              have hb4 := Below.trans (show Below w.heap.size w (wr.alloc (.cells #[.int .i64 q] 3)) by (repeat (first | (with_reducible exact Below.refl _ _) | (with_reducible assumption) | (with_reducible refine below_drewN ?_ _) | (with_reducible refine Below.drew ?_) | (with_reducible refine Below.alloc ?_ ?_ _) | (with_reducible refine Below.setCell ?_ ?_ _) | (with_reducible refine below_into ?_ (by assumption) (by first | omega | (simp; done) | (simp; omega))) | go_size))) ((hot.alloc (.cells #[.int .i64 q] 3)).below_grown hgr (by simp; omega) |>.mono (by omega))
              have hsz4 := hgr.size
              simp at hsz4
              obtain ⟨P', pc', rfl⟩ := hown1.shapeI
              have hol2 : (out ++ [q]).length = i + 1 := by simp [hol]
              rw [hol2] at hown1 ⊢
              have HOL2 := Lib.hid hol2
              have HCO2 : Hid (coF xs k (R - (i + 1)) (i + 1) (coRow xs k i q ys) (out ++ [q]) = coF xs k R 0 bs []) := Lib.hid (by
                have hx := HCO.out
                rw [HR1.out, coF_yes HC0.out HAL.out, HQE.out] at hx
                exact hx)
              have HRN : Hid ((coRow xs k i q ys).all isNum = true) := Lib.hid (by have := coRow_num HAL.out; rw [HQE.out] at this; exact this)
              have HRL := Lib.hid (coRow_len xs k i q ys)
              clear hM hrs2 hot hgr hat hbw hol2 ma mb mc mf ml
              go_wp2_with fail
              go_roundw
              case rel => exact ⟨i + 1, P', pc', coRow xs k i q ys, out ++ [q], by go_num, rfl, by omega, HOL2.out, HRL.out, HRN.out, HCO2.out, by (repeat (first | (with_reducible exact hM4) | (with_reducible refine BX.new _ _ _ _ _ _ _ _ (by first | omega | (simp; done) | (simp; omega))) | (with_reducible refine BX.below ?_ (by assumption) (by first | omega | (simp; done) | (simp; omega))) | (with_reducible apply BX.drew) | (with_reducible apply BX.drewN) | (with_reducible refine BX.put ?_) | (with_reducible refine BX.put2 ?_) | (with_reducible refine BX.far ?_ (by simp only [ne_eq]; omega) _) | (with_reducible apply BX.alloc) | (with_reducible refine B3.new _ _ _ _ _ _ (by first | omega | (simp; done) | (simp; omega))) | (with_reducible exact B3.of hM4) | (with_reducible refine B3.below ?_ (by assumption) (by first | omega | (simp; done) | (simp; omega))) | (with_reducible apply B3.drew) | (with_reducible apply B3.drewN) | (with_reducible refine B3.far ?_ (by simp only [ne_eq]; omega) _) | (with_reducible apply B3.alloc))), by (repeat (first | (with_reducible exact hrs4) | (with_reducible refine OR.drew ?_) | (with_reducible refine OR.drewN ?_ _) | (with_reducible refine OR.alloc ?_ _) | (with_reducible refine OR.below ?_ (by assumption) (by first | omega | (simp; done) | (simp; omega))) | (with_reducible refine OR.low ?_ (by first | omega | (simp only []; omega) | (simp; omega)) _))), by (repeat (first | (with_reducible exact hown1) | (with_reducible refine OR.drew ?_) | (with_reducible refine OR.drewN ?_ _) | (with_reducible refine OR.alloc ?_ _) | (with_reducible refine OR.below ?_ (by assumption) (by first | omega | (simp; done) | (simp; omega))) | (with_reducible refine OR.low ?_ (by first | omega | (simp only []; omega) | (simp; omega)) _))), (by first | omega | (simp; done) | (simp; omega)), by (repeat (first | (with_reducible exact Below.refl _ _) | (with_reducible assumption) | (with_reducible refine below_drewN ?_ _) | (with_reducible refine Below.drew ?_) | (with_reducible refine Below.alloc ?_ ?_ _) | (with_reducible refine Below.setCell ?_ ?_ _) | (with_reducible refine below_into ?_ (by assumption) (by first | omega | (simp; done) | (simp; omega))) | go_size))⟩
              case measure => simp only [intOf]; omega
        · have hmb : (y.tmod d != 0) = true := by simpa using hm0
          have hx := HCO.out
          rw [HR1.out, coF_no1 (fun e => hm0 (HM0.out.symm.trans e))] at hx
          obtain ⟨hv1, hv2⟩ := HNO.out hx.symm
          have HV1 := Lib.hid hv1
          have HV2 := Lib.hid hv2
          clear hm0 hx hv1 hv2
          go_wp2_with fail
          go_quiet (fail)
          go_wp2_with fail
          go_ret2; rw [HV1.out, HV2.out]; exact ⟨_, _, _, rfl, OR.empty2 _ _ (by simp) (by first | omega | (simp; done) | (simp; omega)), by (repeat (first | (with_reducible exact Below.refl _ _) | (with_reducible assumption) | (with_reducible refine below_drewN ?_ _) | (with_reducible refine Below.drew ?_) | (with_reducible refine Below.alloc ?_ ?_ _) | (with_reducible refine Below.setCell ?_ ?_ _) | (with_reducible refine below_into ?_ (by assumption) (by first | omega | (simp; done) | (simp; omega))) | go_size))⟩
      · obtain rfl : i = R := by omega
        have hx := HCO.out
        rw [Nat.sub_self, coF_zero] at hx
        have HFA := Lib.hid (fcI_all ys)
        have HRD : Hid (RI wr wr.heap.size (some ⟨g, 0, none⟩) bs.length ys) := Lib.hid hrs.reads
        rcases hz : ys.all (fun y => decide (y = 0)) with _ | _
        · rw [hz] at hx HFA
          obtain ⟨hv1, hv2⟩ := HNO.out hx.symm
          have HV1 := Lib.hid hv1
          have HV2 := Lib.hid hv2
          clear hx hv1 hv2 hz
          go_wp2_with fail
          refine (impl_isZeroRow (some ⟨g, 0, none⟩) bs.length capr ys _ HRD.out (by omega)).mono ?_
          rw [HFA.out]
          rintro e w' ⟨rfl, rfl⟩
          go_wp2_with fail
          go_ret2; rw [HV1.out, HV2.out]; exact ⟨_, _, _, rfl, OR.empty2 _ _ (by simp) (by first | omega | (simp; done) | (simp; omega)), by (repeat (first | (with_reducible exact Below.refl _ _) | (with_reducible assumption) | (with_reducible refine below_drewN ?_ _) | (with_reducible refine Below.drew ?_) | (with_reducible refine Below.alloc ?_ ?_ _) | (with_reducible refine Below.setCell ?_ ?_ _) | (with_reducible refine below_into ?_ (by assumption) (by first | omega | (simp; done) | (simp; omega))) | go_size))⟩
        · rw [hz] at hx HFA
          obtain ⟨hv1, hv2⟩ := HYES.out out hx.symm
          have HV1 := Lib.hid hv1
          have HV2 := Lib.hid hv2
          clear hx hv1 hv2 hz
          go_wp2_with fail
          refine (impl_isZeroRow (some ⟨g, 0, none⟩) bs.length capr ys _ HRD.out (by omega)).mono ?_
          rw [HFA.out]
          rintro e w' ⟨rfl, rfl⟩
          go_wp2_with fail
          go_ret2
          rw [HV1.out, HV2.out]
          exact ⟨_, _, _, rfl, OR.mono (B := bQ) (by (repeat (first | (with_reducible exact hot) | (with_reducible refine OR.drew ?_) | (with_reducible refine OR.drewN ?_ _) | (with_reducible refine OR.alloc ?_ _) | (with_reducible refine OR.below ?_ (by assumption) (by first | omega | (simp; done) | (simp; omega))) | (with_reducible refine OR.low ?_ (by first | omega | (simp only []; omega) | (simp; omega)) _)))) (by omega), by (repeat (first | (with_reducible exact Below.refl _ _) | (with_reducible assumption) | (with_reducible refine below_drewN ?_ _) | (with_reducible refine Below.drew ?_) | (with_reducible refine Below.alloc ?_ ?_ _) | (with_reducible refine Below.setCell ?_ ?_ _) | (with_reducible refine below_into ?_ (by assumption) (by first | omega | (simp; done) | (simp; omega))) | go_size))⟩
end Go.Proofs.Ytpecjobpihinoaa

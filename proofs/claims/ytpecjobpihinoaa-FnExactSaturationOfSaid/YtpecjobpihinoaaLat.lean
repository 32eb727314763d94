/-
  DERIVED. splitRows, l12Rows, IsLattice (both).
-/
import Derived.Test.YtpecjobpihinoaaPlainL
import Derived.Test.YtpecjobpihinoaaAppend2
import Derived.Test.YtpecjobpihinoaaMx2
import Derived.Test.YtpecjobpihinoaaRow2
import Derived.Test.YtpecjobpihinoaaZeroRow
namespace Go.Proofs.Ytpecjobpihinoaa
open Go.RowKit
set_option linter.unusedVariables false
set_option linter.unusedSimpArgs false
/-- The call returned two slices of ints of its own. -/
def I2R (a b : List Int) (w : World) (e : Ending) (w' : World) : Prop :=
  ∃ A n cap A' n' cap', e = .returned (.tuple #[.slice A n cap, .slice A' n' cap']) ∧ OR w' w.heap.size (.slice A n cap) a ∧ OR w' w.heap.size (.slice A' n' cap') b ∧ Below w.heap.size w w'
theorem I2R.mk {a b : List Int} {v v' : Value} {w w' : World} (h : OR w' w.heap.size v a) (h' : OR w' w.heap.size v' b) (hb : Below w.heap.size w w') : I2R a b w (.returned (.tuple #[v, v'])) w' := by
  rcases h.form with ⟨h1, h2⟩ | ⟨g, cap, h1, _⟩ <;> rcases h'.form with ⟨k1, k2⟩ | ⟨g', cap', k1, _⟩ <;> subst h1 <;> subst k1 <;> exact ⟨_, _, _, _, _, _, rfl, h, h', hb⟩
set_option maxHeartbeats 4000000 in
theorem impl_splitRows (R C : Nat) (A : Option Addr) (n cap : Nat) (xs : List Int) (w : World) {B : Nat} (h : RI w B A n xs) (hB : B ≤ w.heap.size) (hn : n ≤ 1048576) (hnc : n ≤ cap) (hcap : cap ≤ 9223372036854775807)
    (hl : xs.length = R * C) (hR : R ≤ 24) (hC : C ≤ 24) :
    Calls Try.prog 96 #[.agg #[.int .i64 R, .int .i64 C, .slice A n cap]] w (I2R (fullTo xs C R) (zeroTo xs C R) w) := by
  have hlen := h.len
  have H2 := Lib.hid (h.more hB)
  have HL := Lib.hid hl
  have hln : n ≤ R * C ∧ R * C ≤ n := by omega
  clear h hl hlen
  go_enter Try.func96, Try.ntmps96
  go_wp2_with fail
  go_loopw [4, 5, 6] (fun vF vZ u wr => ∃ k : Nat, u = .int .i64 k ∧ k ≤ R ∧ OR wr (w.heap.size + 1) vF (fullTo xs C k) ∧ OR wr (w.heap.size + 1) vZ (zeroTo xs C k) ∧ Apart vF vZ ∧ BM wr w.heap.size R C A n cap ∧ Below w.heap.size w wr) (fun _ _ v _ => R - (intOf v).toNat)
  case atStart =>
    exact ⟨0, rfl, Nat.zero_le _, by
        rw [fullTo_zero]
        refine OR.alloc ?_ _
        exact OR.empty' _ (w.heap.size + 1) (by simp) (by simp), by
        rw [zeroTo_zero]
        exact OR.empty' _ (w.heap.size + 1 + 1) (by simp) (by simp), by
        intro g h1 h2
        simp [Value.ownBlock] at h1 h2
        omega, by (repeat (first | (with_reducible assumption) | (with_reducible refine BX.new _ _ _ _ _ _ _ _ (by first | omega | (simp; done) | (simp; omega))) | (with_reducible refine BX.below ?_ (by assumption) (by first | omega | (simp; done) | (simp; omega))) | (with_reducible apply BX.drew) | (with_reducible apply BX.drewN) | (with_reducible refine BX.put ?_) | (with_reducible refine BX.put2 ?_) | (with_reducible refine BX.far ?_ (by simp only [ne_eq]; omega) _) | (with_reducible apply BX.alloc) | (with_reducible refine B3.new _ _ _ _ _ _ (by first | omega | (simp; done) | (simp; omega))) | (with_reducible refine B3.of (by assumption)) | (with_reducible refine B3.below ?_ (by assumption) (by first | omega | (simp; done) | (simp; omega))) | (with_reducible apply B3.drew) | (with_reducible apply B3.drewN) | (with_reducible refine B3.far ?_ (by simp only [ne_eq]; omega) _) | (with_reducible apply B3.alloc))), by (repeat (first | (with_reducible exact Below.refl _ _) | (with_reducible assumption) | (with_reducible refine below_drewN ?_ _) | (with_reducible refine Below.drew ?_) | (with_reducible refine Below.alloc ?_ ?_ _) | (with_reducible refine Below.setCell ?_ ?_ _) | (with_reducible refine below_into ?_ (by assumption) (by first | omega | (simp; done) | (simp; omega))) | go_size))⟩
  case round =>
    obtain ⟨k, rfl, hk, hF, hZ, hap, hO, hbw⟩ := hrel
    obtain ⟨oa, ob, oc, of, ol⟩ := hO.mx
    by_cases hkR : k < R
    · have HI : Hid (k * C + C ≤ n) := Lib.hid (by have h3 := Nat.mul_le_mul_right C (show k + 1 ≤ R by omega); rw [Nat.add_mul, Nat.one_mul] at h3; omega)
      have hrl := rowL_len (xs := xs) (C := C) (i := k) (by have h4 := HI.out; have := H2.out.len; omega)
      have hfc : fcI (rowL xs C k) = if pv xs C k < C then (pv xs C k : Int) else -1 := by unfold fcI pv; rw [hrl]
      have hfl := fullTo_len xs C k
      have hzl := zeroTo_len xs C k
      by_cases hp : pv xs C k < C
      · have HF : Hid (fcI (rowL xs C k) = (pv xs C k : Int)) := Lib.hid (by rw [hfc, if_pos hp])
        have E1 := Lib.hid (fullTo_yes hp)
        have E2 := Lib.hid (zeroTo_yes hp)
        have hneg : decide ((pv xs C k : Int) < 0) = false := by simp
        clear hrl hfc
        go_wp2_with fail
        refine (impl_row R C k A n cap xs _ (B := w.heap.size) (by (repeat (first | (with_reducible exact H2.out) | (with_reducible refine RI.drew ?_) | (with_reducible refine RI.drewN ?_ _) | (with_reducible refine RI.alloc ?_ (by first | omega | (simp; done) | (simp; omega)) _) | (with_reducible refine RI.setCell ?_ (by first | omega | (simp; done) | (simp; omega)) _) | (with_reducible refine RI.below ?_ (by assumption) (by first | omega | (simp; done) | (simp; omega)))))) (by first | omega | (simp; done) | (simp; omega)) hnc hcap (by omega) (by omega) HI.out).mono ?_
        rintro e w1 ⟨A', cap', rfl, hri, hb, hc1, hc2⟩
        have hsz := hb.size
        have hF1 : OR w1 (w.heap.size + 1) _ (fullTo xs C k) := hF.below hb (Nat.le_refl _)
        have hZ1 : OR w1 (w.heap.size + 1) _ (zeroTo xs C k) := hZ.below hb (Nat.le_refl _)
        have hO_1 : BM w1 (w.heap.size) R C A n cap := (by (repeat (first | (with_reducible exact hO) | (with_reducible refine BX.new _ _ _ _ _ _ _ _ (by first | omega | (simp; done) | (simp; omega))) | (with_reducible refine BX.below ?_ (by assumption) (by first | omega | (simp; done) | (simp; omega))) | (with_reducible apply BX.drew) | (with_reducible apply BX.drewN) | (with_reducible refine BX.put ?_) | (with_reducible refine BX.put2 ?_) | (with_reducible refine BX.far ?_ (by simp only [ne_eq]; omega) _) | (with_reducible apply BX.alloc) | (with_reducible refine B3.new _ _ _ _ _ _ (by first | omega | (simp; done) | (simp; omega))) | (with_reducible exact B3.of hO) | (with_reducible refine B3.below ?_ (by assumption) (by first | omega | (simp; done) | (simp; omega))) | (with_reducible apply B3.drew) | (with_reducible apply B3.drewN) | (with_reducible refine B3.far ?_ (by simp only [ne_eq]; omega) _) | (with_reducible apply B3.alloc)))); have hbw_1 : Below w.heap.size w w1 := (by (repeat (first | (with_reducible exact Below.refl _ _) | (with_reducible assumption) | (with_reducible refine below_drewN ?_ _) | (with_reducible refine Below.drew ?_) | (with_reducible refine Below.alloc ?_ ?_ _) | (with_reducible refine Below.setCell ?_ ?_ _) | (with_reducible refine below_into ?_ (by assumption) (by first | omega | (simp; done) | (simp; omega))) | go_size))); clear hO hbw; have hO := hO_1; have hbw := hbw_1; clear hO_1 hbw_1; clear oa ob oc of ol; obtain ⟨oa, ob, oc, of, ol⟩ := hO.mx
        clear hF hZ
        have HRI := Lib.hid hri
        clear hri
        go_wp2_with fail
        refine (impl_isZeroRow A' C cap' _ _ HRI.out (by omega)).mono ?_
        rw [HF.out]
        rintro e w' ⟨rfl, rfl⟩
        go_wp2_with (at_builtin; refine wpList_append_one _ rfl (.tmp 23) (.tmp 25) rfl (w.heap.size + 1) _ _ rfl (hF1.alloc _) _ k rfl ?f1 ?f2 ?f3 ?_)
        case f1 => simp [go_sem]
        case f2 => omega
        case f3 => simp; omega
        intro v1 w2 hown1 hgr hat
        have hO2 := (hO.alloc (.cells #[.int .i64 k] 3)).grown hgr (hF1.ne_low (by omega))
        have hK2 := (hZ1.alloc (.cells #[.int .i64 k] 3)).kept hgr hap.symm.ne
        have hap2 : Apart v1 _ := hap.grown (hZ1.alloc (.cells #[.int .i64 k] 3)) (by simpa using hat)
        have hb2 := Below.trans (show Below w.heap.size w (w1.alloc (.cells #[.int .i64 k] 3)) by (repeat (first | (with_reducible exact Below.refl _ _) | (with_reducible assumption) | (with_reducible refine below_drewN ?_ _) | (with_reducible refine Below.drew ?_) | (with_reducible refine Below.alloc ?_ ?_ _) | (with_reducible refine Below.setCell ?_ ?_ _) | (with_reducible refine below_into ?_ (by assumption) (by first | omega | (simp; done) | (simp; omega))) | go_size))) ((hF1.alloc (.cells #[.int .i64 k] 3)).below_grown hgr (by simp; omega) |>.mono (by omega))
        clear hO hap hgr hat hF1 hZ1 hb hbw
        go_wp2_with fail
        go_roundw
        case rel => exact ⟨k + 1, by go_num, by omega, by rw [E1.out]; exact hown1, by rw [E2.out]; exact hK2, hap2, hO2, hb2⟩
        case measure => simp only [intOf]; omega
      · have HF : Hid (fcI (rowL xs C k) = -1) := Lib.hid (by rw [hfc, if_neg hp])
        have E1 := Lib.hid (fullTo_no hp)
        have E2 := Lib.hid (zeroTo_no hp)
        clear hrl hfc
        go_wp2_with fail
        refine (impl_row R C k A n cap xs _ (B := w.heap.size) (by (repeat (first | (with_reducible exact H2.out) | (with_reducible refine RI.drew ?_) | (with_reducible refine RI.drewN ?_ _) | (with_reducible refine RI.alloc ?_ (by first | omega | (simp; done) | (simp; omega)) _) | (with_reducible refine RI.setCell ?_ (by first | omega | (simp; done) | (simp; omega)) _) | (with_reducible refine RI.below ?_ (by assumption) (by first | omega | (simp; done) | (simp; omega)))))) (by first | omega | (simp; done) | (simp; omega)) hnc hcap (by omega) (by omega) HI.out).mono ?_
        rintro e w1 ⟨A', cap', rfl, hri, hb, hc1, hc2⟩
        have hsz := hb.size
        have hF1 : OR w1 (w.heap.size + 1) _ (fullTo xs C k) := hF.below hb (Nat.le_refl _)
        have hZ1 : OR w1 (w.heap.size + 1) _ (zeroTo xs C k) := hZ.below hb (Nat.le_refl _)
        have hO_1 : BM w1 (w.heap.size) R C A n cap := (by (repeat (first | (with_reducible exact hO) | (with_reducible refine BX.new _ _ _ _ _ _ _ _ (by first | omega | (simp; done) | (simp; omega))) | (with_reducible refine BX.below ?_ (by assumption) (by first | omega | (simp; done) | (simp; omega))) | (with_reducible apply BX.drew) | (with_reducible apply BX.drewN) | (with_reducible refine BX.put ?_) | (with_reducible refine BX.put2 ?_) | (with_reducible refine BX.far ?_ (by simp only [ne_eq]; omega) _) | (with_reducible apply BX.alloc) | (with_reducible refine B3.new _ _ _ _ _ _ (by first | omega | (simp; done) | (simp; omega))) | (with_reducible exact B3.of hO) | (with_reducible refine B3.below ?_ (by assumption) (by first | omega | (simp; done) | (simp; omega))) | (with_reducible apply B3.drew) | (with_reducible apply B3.drewN) | (with_reducible refine B3.far ?_ (by simp only [ne_eq]; omega) _) | (with_reducible apply B3.alloc)))); have hbw_1 : Below w.heap.size w w1 := (by (repeat (first | (with_reducible exact Below.refl _ _) | (with_reducible assumption) | (with_reducible refine below_drewN ?_ _) | (with_reducible refine Below.drew ?_) | (with_reducible refine Below.alloc ?_ ?_ _) | (with_reducible refine Below.setCell ?_ ?_ _) | (with_reducible refine below_into ?_ (by assumption) (by first | omega | (simp; done) | (simp; omega))) | go_size))); clear hO hbw; have hO := hO_1; have hbw := hbw_1; clear hO_1 hbw_1; clear oa ob oc of ol; obtain ⟨oa, ob, oc, of, ol⟩ := hO.mx
        clear hF hZ
        have HRI := Lib.hid hri
        clear hri
        go_wp2_with fail
        refine (impl_isZeroRow A' C cap' _ _ HRI.out (by omega)).mono ?_
        rw [HF.out]
        rintro e w' ⟨rfl, rfl⟩
        go_wp2_with (at_builtin; refine wpList_append_one _ rfl (.tmp 19) (.tmp 21) rfl (w.heap.size + 1) _ _ rfl (hZ1.alloc _) _ k rfl ?z1 ?z2 ?z3 ?_)
        case z1 => simp [go_sem]
        case z2 => omega
        case z3 => simp; omega
        intro v1 w2 hown1 hgr hat
        have hO2 := (hO.alloc (.cells #[.int .i64 k] 3)).grown hgr (hZ1.ne_low (by omega))
        have hK2 := (hF1.alloc (.cells #[.int .i64 k] 3)).kept hgr hap.ne
        have hap2 : Apart _ v1 := (hap.symm.grown (hF1.alloc (.cells #[.int .i64 k] 3)) (by simpa using hat)).symm
        have hb2 := Below.trans (show Below w.heap.size w (w1.alloc (.cells #[.int .i64 k] 3)) by (repeat (first | (with_reducible exact Below.refl _ _) | (with_reducible assumption) | (with_reducible refine below_drewN ?_ _) | (with_reducible refine Below.drew ?_) | (with_reducible refine Below.alloc ?_ ?_ _) | (with_reducible refine Below.setCell ?_ ?_ _) | (with_reducible refine below_into ?_ (by assumption) (by first | omega | (simp; done) | (simp; omega))) | go_size))) ((hZ1.alloc (.cells #[.int .i64 k] 3)).below_grown hgr (by simp; omega) |>.mono (by omega))
        clear hO hap hgr hat hF1 hZ1 hb hbw
        go_wp2_with fail
        go_roundw
        case rel => exact ⟨k + 1, by go_num, by omega, by rw [E1.out]; exact hK2, by rw [E2.out]; exact hown1, hap2, hO2, hb2⟩
        case measure => simp only [intOf]; omega
    · obtain rfl : k = R := by omega
      go_wp2_with fail
      go_ret2
      exact I2R.mk (hF.mono (by omega)) (hZ.mono (by omega)) hbw

set_option maxHeartbeats 4000000 in
theorem spec_l12Rows (R C : Nat) (A : Option Addr) (n cap : Nat) (xs : List Int) (w : World) {B : Nat} (h : RI w B A n xs) (hB : B ≤ w.heap.size) (hn : n ≤ 1048576)
    (hl : xs.length = R * C) (hR : R ≤ 24) (hC : C ≤ 24) :
    Calls Try.prog 95 #[.agg #[.int .i64 R, .int .i64 C, .slice A n cap]] w (BV (.int .i64 (lastR xs C R)) w) := by
  have hlen := h.len
  have H2 := Lib.hid (h.more hB)
  have HL := Lib.hid hl
  have hl1 : (n : Int) ≤ (R : Int) * (C : Int) ∧ (R : Int) * (C : Int) ≤ n := by rw [← Int.natCast_mul]; omega
  have hR' : (R : Int) ≤ 24 := by omega
  have hC' : (C : Int) ≤ 24 := by omega
  clear h hl hlen
  go_enter Try.func95, Try.ntmps95
  go_wp2_with fail
  go_loopw [3, 4, 5] (fun u v _ wr => ∃ i : Nat, v = .int .i64 i ∧ u = .int .i64 (lastR xs C i) ∧ i ≤ R ∧ BM wr w.heap.size R C A n cap ∧ Below w.heap.size w wr) (fun _ v _ _ => R - (intOf v).toNat)
  case atStart => exact ⟨0, rfl, rfl, Nat.zero_le _, by (repeat (first | (with_reducible assumption) | (with_reducible refine BX.new _ _ _ _ _ _ _ _ (by first | omega | (simp; done) | (simp; omega))) | (with_reducible refine BX.below ?_ (by assumption) (by first | omega | (simp; done) | (simp; omega))) | (with_reducible apply BX.drew) | (with_reducible apply BX.drewN) | (with_reducible refine BX.put ?_) | (with_reducible refine BX.put2 ?_) | (with_reducible refine BX.far ?_ (by simp only [ne_eq]; omega) _) | (with_reducible apply BX.alloc) | (with_reducible refine B3.new _ _ _ _ _ _ (by first | omega | (simp; done) | (simp; omega))) | (with_reducible refine B3.of (by assumption)) | (with_reducible refine B3.below ?_ (by assumption) (by first | omega | (simp; done) | (simp; omega))) | (with_reducible apply B3.drew) | (with_reducible apply B3.drewN) | (with_reducible refine B3.far ?_ (by simp only [ne_eq]; omega) _) | (with_reducible apply B3.alloc))), by (repeat (first | (with_reducible exact Below.refl _ _) | (with_reducible assumption) | (with_reducible refine below_drewN ?_ _) | (with_reducible refine Below.drew ?_) | (with_reducible refine Below.alloc ?_ ?_ _) | (with_reducible refine Below.setCell ?_ ?_ _) | (with_reducible refine below_into ?_ (by assumption) (by first | omega | (simp; done) | (simp; omega))) | go_size))⟩
  case round =>
    obtain ⟨i, rfl, rfl, hi, hO, hbw⟩ := hrel
    obtain ⟨oa, ob, oc, of, ol⟩ := hO.mx
    by_cases hiR : i < R
    · have hpl := pv_le HL.out hiR
      have hll := lastR_le xs C i
      go_wp2_with fail
      obtain ⟨wo, rfl⟩ : ∃ wo : World, wo = wr := ⟨_, rfl⟩
      go_loopw [3, 5] (fun u v wr => ∃ j : Nat, v = .int .i64 j ∧ u = .int .i64 (if pv xs C i < j then ((i + 1 : Nat) : Int) else lastR xs C i) ∧ j ≤ C ∧ BM wr w.heap.size R C A n cap ∧ Below w.heap.size w wr) (fun _ v _ => C - (intOf v).toNat)
      case atStart => exact ⟨0, rfl, by rw [if_neg (by omega)], Nat.zero_le _, hO, hbw⟩
      case round =>
        clear hO hbw oa ob oc of ol
        obtain ⟨j, rfl, rfl, hj, hO, hbw⟩ := hrel
        obtain ⟨oa, ob, oc, of, ol⟩ := hO.mx
        by_cases hjC : j < C
        · obtain ⟨x1, x2, x3, x4⟩ := idx_bd (r := R) (c := C) (i := i) (j := j) hR' hC' (by omega) (by omega) (by omega) (by omega)
          by_cases hz : cel xs C i j = 0
          · have hzb : (cel xs C i j != 0) = false := by simpa using hz
            have E : Hid ((if pv xs C i < j then ((i + 1 : Nat) : Int) else lastR xs C i) = (if pv xs C i < j + 1 then ((i + 1 : Nat) : Int) else lastR xs C i)) := Lib.hid (by
              by_cases h1 : pv xs C i < j
              · rw [if_pos h1, if_pos (by omega)]
              · rw [if_neg h1, if_neg]
                intro h2
                have h3 : pv xs C i = j := by omega
                have h4 := pv_ne HL.out hiR (by omega)
                rw [h3] at h4; exact h4 hz)
            clear hz
            generalize (if pv xs C i < j then ((i + 1 : Nat) : Int) else (lastR xs C i : Int)) = q at *
            go_wp2_with (go_at_call 55; refine (spec_l12Cell _ _ _ _ _ _ _ xs _ (C := w.heap.size) (by (repeat (first | (with_reducible exact H2.out) | (with_reducible refine RI.drew ?_) | (with_reducible refine RI.drewN ?_ _) | (with_reducible refine RI.alloc ?_ (by first | omega | (simp; done) | (simp; omega)) _) | (with_reducible refine RI.setCell ?_ (by first | omega | (simp; done) | (simp; omega)) _) | (with_reducible refine RI.below ?_ (by assumption) (by first | omega | (simp; done) | (simp; omega)))))) (by first | omega | (simp; done) | (simp; omega)) ⟨by omega, by omega⟩ ⟨by omega, by omega⟩ (by omega)).mono ?_; rintro e w1 ⟨rfl, hb⟩; have hO_1 : BM w1 (w.heap.size) R C A n cap := (by (repeat (first | (with_reducible exact hO) | (with_reducible refine BX.new _ _ _ _ _ _ _ _ (by first | omega | (simp; done) | (simp; omega))) | (with_reducible refine BX.below ?_ (by assumption) (by first | omega | (simp; done) | (simp; omega))) | (with_reducible apply BX.drew) | (with_reducible apply BX.drewN) | (with_reducible refine BX.put ?_) | (with_reducible refine BX.put2 ?_) | (with_reducible refine BX.far ?_ (by simp only [ne_eq]; omega) _) | (with_reducible apply BX.alloc) | (with_reducible refine B3.new _ _ _ _ _ _ (by first | omega | (simp; done) | (simp; omega))) | (with_reducible exact B3.of hO) | (with_reducible refine B3.below ?_ (by assumption) (by first | omega | (simp; done) | (simp; omega))) | (with_reducible apply B3.drew) | (with_reducible apply B3.drewN) | (with_reducible refine B3.far ?_ (by simp only [ne_eq]; omega) _) | (with_reducible apply B3.alloc)))); have hbw_1 : Below w.heap.size w w1 := (by (repeat (first | (with_reducible exact Below.refl _ _) | (with_reducible assumption) | (with_reducible refine below_drewN ?_ _) | (with_reducible refine Below.drew ?_) | (with_reducible refine Below.alloc ?_ ?_ _) | (with_reducible refine Below.setCell ?_ ?_ _) | (with_reducible refine below_into ?_ (by assumption) (by first | omega | (simp; done) | (simp; omega))) | go_size))); clear hO hbw; have hO := hO_1; have hbw := hbw_1; clear hO_1 hbw_1; clear oa ob oc of ol; obtain ⟨oa, ob, oc, of, ol⟩ := hO.mx)
            go_roundw
            case rel => exact ⟨j + 1, by go_num, by rw [E.out], by omega, by (repeat (first | (with_reducible exact hO) | (with_reducible refine BX.new _ _ _ _ _ _ _ _ (by first | omega | (simp; done) | (simp; omega))) | (with_reducible refine BX.below ?_ (by assumption) (by first | omega | (simp; done) | (simp; omega))) | (with_reducible apply BX.drew) | (with_reducible apply BX.drewN) | (with_reducible refine BX.put ?_) | (with_reducible refine BX.put2 ?_) | (with_reducible refine BX.far ?_ (by simp only [ne_eq]; omega) _) | (with_reducible apply BX.alloc) | (with_reducible refine B3.new _ _ _ _ _ _ (by first | omega | (simp; done) | (simp; omega))) | (with_reducible exact B3.of hO) | (with_reducible refine B3.below ?_ (by assumption) (by first | omega | (simp; done) | (simp; omega))) | (with_reducible apply B3.drew) | (with_reducible apply B3.drewN) | (with_reducible refine B3.far ?_ (by simp only [ne_eq]; omega) _) | (with_reducible apply B3.alloc))), by (repeat (first | (with_reducible exact Below.refl _ _) | (with_reducible assumption) | (with_reducible refine below_drewN ?_ _) | (with_reducible refine Below.drew ?_) | (with_reducible refine Below.alloc ?_ ?_ _) | (with_reducible refine Below.setCell ?_ ?_ _) | (with_reducible refine below_into ?_ (by assumption) (by first | omega | (simp; done) | (simp; omega))) | go_size))⟩
            case measure => simp only [intOf]; omega
          · have hzb : (cel xs C i j != 0) = true := by simpa using hz
            have E : Hid (pv xs C i < j + 1) := Lib.hid (by
              rcases Nat.lt_or_ge j (pv xs C i) with h1 | h1
              · exact absurd (pv_zero h1 hjC) hz
              · omega)
            clear hz
            generalize (if pv xs C i < j then ((i + 1 : Nat) : Int) else (lastR xs C i : Int)) = q at *
            go_wp2_with (go_at_call 55; refine (spec_l12Cell _ _ _ _ _ _ _ xs _ (C := w.heap.size) (by (repeat (first | (with_reducible exact H2.out) | (with_reducible refine RI.drew ?_) | (with_reducible refine RI.drewN ?_ _) | (with_reducible refine RI.alloc ?_ (by first | omega | (simp; done) | (simp; omega)) _) | (with_reducible refine RI.setCell ?_ (by first | omega | (simp; done) | (simp; omega)) _) | (with_reducible refine RI.below ?_ (by assumption) (by first | omega | (simp; done) | (simp; omega)))))) (by first | omega | (simp; done) | (simp; omega)) ⟨by omega, by omega⟩ ⟨by omega, by omega⟩ (by omega)).mono ?_; rintro e w1 ⟨rfl, hb⟩; have hO_1 : BM w1 (w.heap.size) R C A n cap := (by (repeat (first | (with_reducible exact hO) | (with_reducible refine BX.new _ _ _ _ _ _ _ _ (by first | omega | (simp; done) | (simp; omega))) | (with_reducible refine BX.below ?_ (by assumption) (by first | omega | (simp; done) | (simp; omega))) | (with_reducible apply BX.drew) | (with_reducible apply BX.drewN) | (with_reducible refine BX.put ?_) | (with_reducible refine BX.put2 ?_) | (with_reducible refine BX.far ?_ (by simp only [ne_eq]; omega) _) | (with_reducible apply BX.alloc) | (with_reducible refine B3.new _ _ _ _ _ _ (by first | omega | (simp; done) | (simp; omega))) | (with_reducible exact B3.of hO) | (with_reducible refine B3.below ?_ (by assumption) (by first | omega | (simp; done) | (simp; omega))) | (with_reducible apply B3.drew) | (with_reducible apply B3.drewN) | (with_reducible refine B3.far ?_ (by simp only [ne_eq]; omega) _) | (with_reducible apply B3.alloc)))); have hbw_1 : Below w.heap.size w w1 := (by (repeat (first | (with_reducible exact Below.refl _ _) | (with_reducible assumption) | (with_reducible refine below_drewN ?_ _) | (with_reducible refine Below.drew ?_) | (with_reducible refine Below.alloc ?_ ?_ _) | (with_reducible refine Below.setCell ?_ ?_ _) | (with_reducible refine below_into ?_ (by assumption) (by first | omega | (simp; done) | (simp; omega))) | go_size))); clear hO hbw; have hO := hO_1; have hbw := hbw_1; clear hO_1 hbw_1; clear oa ob oc of ol; obtain ⟨oa, ob, oc, of, ol⟩ := hO.mx)
            go_roundw
            case rel => exact ⟨j + 1, by go_num, by rw [if_pos E.out]; go_num, by omega, by (repeat (first | (with_reducible exact hO) | (with_reducible refine BX.new _ _ _ _ _ _ _ _ (by first | omega | (simp; done) | (simp; omega))) | (with_reducible refine BX.below ?_ (by assumption) (by first | omega | (simp; done) | (simp; omega))) | (with_reducible apply BX.drew) | (with_reducible apply BX.drewN) | (with_reducible refine BX.put ?_) | (with_reducible refine BX.put2 ?_) | (with_reducible refine BX.far ?_ (by simp only [ne_eq]; omega) _) | (with_reducible apply BX.alloc) | (with_reducible refine B3.new _ _ _ _ _ _ (by first | omega | (simp; done) | (simp; omega))) | (with_reducible exact B3.of hO) | (with_reducible refine B3.below ?_ (by assumption) (by first | omega | (simp; done) | (simp; omega))) | (with_reducible apply B3.drew) | (with_reducible apply B3.drewN) | (with_reducible refine B3.far ?_ (by simp only [ne_eq]; omega) _) | (with_reducible apply B3.alloc))), by (repeat (first | (with_reducible exact Below.refl _ _) | (with_reducible assumption) | (with_reducible refine below_drewN ?_ _) | (with_reducible refine Below.drew ?_) | (with_reducible refine Below.alloc ?_ ?_ _) | (with_reducible refine Below.setCell ?_ ?_ _) | (with_reducible refine below_into ?_ (by assumption) (by first | omega | (simp; done) | (simp; omega))) | go_size))⟩
            case measure => simp only [intOf]; omega
        · obtain rfl : j = C := by omega
          have E : Hid ((if pv xs j i < j then ((i + 1 : Nat) : Int) else lastR xs j i) = lastR xs j (i + 1)) := Lib.hid (by
            show _ = ((if pv xs j i < j then i + 1 else lastR xs j i : Nat) : Int)
            split <;> rfl)
          rw [E.out]
          have hll2 := lastR_le xs j (i + 1)
          go_wp2_with fail
          go_roundw
          case rel => exact ⟨i + 1, by go_num, rfl, by omega, by (repeat (first | (with_reducible exact hO) | (with_reducible refine BX.new _ _ _ _ _ _ _ _ (by first | omega | (simp; done) | (simp; omega))) | (with_reducible refine BX.below ?_ (by assumption) (by first | omega | (simp; done) | (simp; omega))) | (with_reducible apply BX.drew) | (with_reducible apply BX.drewN) | (with_reducible refine BX.put ?_) | (with_reducible refine BX.put2 ?_) | (with_reducible refine BX.far ?_ (by simp only [ne_eq]; omega) _) | (with_reducible apply BX.alloc) | (with_reducible refine B3.new _ _ _ _ _ _ (by first | omega | (simp; done) | (simp; omega))) | (with_reducible exact B3.of hO) | (with_reducible refine B3.below ?_ (by assumption) (by first | omega | (simp; done) | (simp; omega))) | (with_reducible apply B3.drew) | (with_reducible apply B3.drewN) | (with_reducible refine B3.far ?_ (by simp only [ne_eq]; omega) _) | (with_reducible apply B3.alloc))), by (repeat (first | (with_reducible exact Below.refl _ _) | (with_reducible assumption) | (with_reducible refine below_drewN ?_ _) | (with_reducible refine Below.drew ?_) | (with_reducible refine Below.alloc ?_ ?_ _) | (with_reducible refine Below.setCell ?_ ?_ _) | (with_reducible refine below_into ?_ (by assumption) (by first | omega | (simp; done) | (simp; omega))) | go_size))⟩
          case measure => simp only [intOf]; omega
    · obtain rfl : i = R := by omega
      go_wp2_with fail
      go_ret
      exact BV.mk rfl (by (repeat (first | (with_reducible exact Below.refl _ _) | (with_reducible assumption) | (with_reducible refine below_drewN ?_ _) | (with_reducible refine Below.drew ?_) | (with_reducible refine Below.alloc ?_ ?_ _) | (with_reducible refine Below.setCell ?_ ?_ _) | (with_reducible refine below_into ?_ (by assumption) (by first | omega | (simp; done) | (simp; omega))) | go_size)))
end Go.Proofs.Ytpecjobpihinoaa

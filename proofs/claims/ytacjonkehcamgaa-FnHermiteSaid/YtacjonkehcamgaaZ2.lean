/-
  DERIVED. Several small texts in one: HermS, PlSf, PlUn, PlHm, PlHe.
-/
import Derived.Test.YtacjonkehcamgaaZS
import Derived.Test.YtacjonkehcamgaaZ1
import Derived.Test.YtacjonkehcamgaaPlainO
import Derived.Test.YtacjonkehcamgaaPlainH
/-
  DERIVED. IsHermite of the reference.
-/
namespace Go.Proofs.Ytacjonkehcamgaa
open Go.RowKit
set_option linter.unusedVariables false
set_option linter.unusedSimpArgs false
set_option maxRecDepth 100000 in
set_option maxHeartbeats 4000000 in
theorem spec_IsHermite (r c : Int) (A : Option Addr) (n cap : Nat) (xs : List Int) (w : World) {B : Nat} (h : RI w B A n xs) (hB : B ≤ w.heap.size) (hn : n ≤ 1048576) :
    Calls Try.prog 54 #[.agg #[.int .i64 r, .int .i64 c, .slice A n cap]] w (BV (.bool (hermB r c xs)) w) := by
  have hlen := h.len
  have H2 := Lib.hid (h.more hB)
  clear h
  rw [hermB_S]
  rcases hm : isMat r c xs with _ | _
  · rw [Bool.false_and]
    have HM := Lib.hid hm
    clear hm
    by_cases hr0 : 0 < r
    · go_enter Try.func54, Try.ntmps54
      go_wp2_with fail
      refine wp_loop_rounds 1 ?_
      rw [rounds_succ]
      go_wp2_with (first | (go_at_call 107; refine (spec_IsMatrix r c A n cap xs _ (C := w.heap.size) (Kr H2.out) Ks hn).mono ?_; rw [HM.out]; rintro e w1 ⟨rfl, hb⟩; have hz := hb.size; (try simp at hz); have kk := bkeep (w := w) hb Ks; obtain ⟨kc, kf⟩ := kk; (try (have kk := bkeepb (w.heap.size) hb Ks; obtain ⟨kc0, kf0, kl0⟩ := kk)); (try (have kk := bkeepb (w.heap.size + 1) hb Ks; obtain ⟨kc1, kf1, kl1⟩ := kk)); (try (have kk := bkeepb (w.heap.size + 1 + 1) hb Ks; obtain ⟨kc2, kf2, kl2⟩ := kk)); (try (have kk := bkeepb (w.heap.size + 1 + 1 + 1) hb Ks; obtain ⟨kc3, kf3, kl3⟩ := kk)); (try (have kk := bkeepb (wr.heap.size) hb Ks; obtain ⟨kr0, ks0, kt0⟩ := kk)); (try (have kk := bkeepb (wr.heap.size + 1) hb Ks; obtain ⟨kr1, ks1, kt1⟩ := kk)); (try (have kk := bkeepb (wr.heap.size + 1 + 1) hb Ks; obtain ⟨kr2, ks2, kt2⟩ := kk))))
      go_ret
      exact BV.mk rfl Kw
    · go_enter Try.func54, Try.ntmps54
      go_wp2_with fail
      refine wp_loop_rounds 1 ?_
      rw [rounds_succ]
      go_wp2_with (first | (go_at_call 107; refine (spec_IsMatrix r c A n cap xs _ (C := w.heap.size) (Kr H2.out) Ks hn).mono ?_; rw [HM.out]; rintro e w1 ⟨rfl, hb⟩; have hz := hb.size; (try simp at hz); have kk := bkeep (w := w) hb Ks; obtain ⟨kc, kf⟩ := kk; (try (have kk := bkeepb (w.heap.size) hb Ks; obtain ⟨kc0, kf0, kl0⟩ := kk)); (try (have kk := bkeepb (w.heap.size + 1) hb Ks; obtain ⟨kc1, kf1, kl1⟩ := kk)); (try (have kk := bkeepb (w.heap.size + 1 + 1) hb Ks; obtain ⟨kc2, kf2, kl2⟩ := kk)); (try (have kk := bkeepb (w.heap.size + 1 + 1 + 1) hb Ks; obtain ⟨kc3, kf3, kl3⟩ := kk)); (try (have kk := bkeepb (wr.heap.size) hb Ks; obtain ⟨kr0, ks0, kt0⟩ := kk)); (try (have kk := bkeepb (wr.heap.size + 1) hb Ks; obtain ⟨kr1, ks1, kt1⟩ := kk)); (try (have kk := bkeepb (wr.heap.size + 1 + 1) hb Ks; obtain ⟨kr2, ks2, kt2⟩ := kk))))
      go_ret
      exact BV.mk rfl Kw
  · rw [Bool.true_and]
    have M := isMat_iff.1 hm
    have HM := Lib.hid hm
    obtain ⟨R, rfl⟩ := nat_of M.r0
    obtain ⟨C, rfl⟩ := nat_of M.c0
    have hR := M.r1
    have hC := M.c1
    have hl1 : (n : Int) ≤ (R : Int) * (C : Int) ∧ (R : Int) * (C : Int) ≤ n := by have := M.len; omega
    have HL : Hid (xs.length = R * C) := Lib.hid (by have := M.len; rw [← Int.natCast_mul] at this; omega)
    have hcb := Lib.hid (fun i j => M.cel_bd i j)
    clear hm M hlen
    simp only [Int.toNat_natCast]
    go_enter Try.func54, Try.ntmps54
    go_wp2_with fail
    have hO0 : BM (w.alloc (Obj.cells #[Value.int .i64 R, Value.int .i64 C, Value.slice A n cap] 26)) (w.heap.size) R C A n cap := Ka
    go_loopw [3, 4] (fun u v wr => ∃ i : Nat, v = .int .i64 i ∧ u = .int .i64 (lastP xs C i) ∧ i ≤ R ∧ (List.range i).all (hrowS xs R C) = true ∧ BM wr w.heap.size R C A n cap ∧ Below w.heap.size w wr) (fun _ v _ => R - (intOf v).toNat)
    case atStart => exact ⟨0, rfl, by rw [lastP_zero], Nat.zero_le _, by simp, hO0, Kw⟩
    case round =>
      clear hO0
      obtain ⟨i, rfl, rfl, hi, hal0, hO, hbw⟩ := hrel
      have hal := Lib.hid hal0
      clear hal0
      obtain ⟨oa, ob, oc, of, ol⟩ := hO.mx
      by_cases hiR : i < R
      · have hpl := pv_le HL.out hiR
        have hsu := range_all_succ (fun i => hrowS xs R C i) i
        have hno := fun h => range_all_false (p := fun i => hrowS xs R C i) hiR h
        rw [show (List.range i).all (fun i => hrowS xs R C i) = true from hal.out, Bool.true_and] at hsu
        have hsu2 := lastP_succ xs C i
        have hlb : -1 ≤ lastP xs C i ∧ lastP xs C i ≤ C := by
          rcases Nat.eq_zero_or_pos i with h0 | h0
          · subst h0; rw [lastP_zero]; omega
          · obtain ⟨j, rfl⟩ : ∃ j, i = j + 1 := ⟨i - 1, by omega⟩
            rw [lastP_succ]
            have := pv_le HL.out (show j < R by omega); omega
        have HSU := Lib.hid hsu2
        have HS := Lib.hid hsu
        have HNO := Lib.hid hno
        clear hsu2 hsu hno
        go_wp2_with (go_at_call 107; refine (spec_IsMatrix R C A n cap xs _ (C := w.heap.size) (Kr H2.out) Ks hn).mono ?_; rw [HM.out]; rintro e w1 ⟨rfl, hb⟩; have hO_1 : BM w1 (w.heap.size) R C A n cap := (Kb hO); have hbw_1 : Below w.heap.size w w1 := Kw; clear hO hbw; have hO := hO_1; have hbw := hbw_1; clear hO_1 hbw_1; clear oa ob oc of ol; obtain ⟨oa, ob, oc, of, ol⟩ := hO.mx)
        obtain ⟨wo, rfl⟩ : ∃ wo : World, wo = wr := ⟨_, rfl⟩
        go_loopw [5] (fun v wr => ∃ k : Nat, v = .int .i64 k ∧ k ≤ pv xs C i ∧ BM wr w.heap.size R C A n cap ∧ Below w.heap.size w wr) (fun v _ => pv xs C i - (intOf v).toNat)
        case atStart => exact ⟨0, rfl, Nat.zero_le _, hO, hbw⟩
        case round =>
          clear hO hbw oa ob oc of ol
          obtain ⟨k, rfl, hk, hO, hbw⟩ := hrel
          obtain ⟨oa, ob, oc, of, ol⟩ := hO.mx
          by_cases hkp : k < pv xs C i
          · have hz : cel xs C i k = 0 := pv_zero hkp (by omega)
            have hzb : (cel xs C i k == 0) = true := by simpa using hz
            clear hz
            obtain ⟨x1, x2, x3, x4⟩ := idx_bd (r := R) (c := C) (i := i) (j := k) hR hC (by omega) (by omega) (by omega) (by omega)
            go_wp2_with (go_at_call 108; refine (spec_l12Cell _ _ _ _ _ _ _ xs _ (C := w.heap.size) (Kr H2.out) Ks ⟨by omega, by omega⟩ ⟨by omega, by omega⟩ (by omega)).mono ?_; rintro e w1 ⟨rfl, hb⟩; have hO_1 : BM w1 (w.heap.size) R C A n cap := (Kb hO); have hbw_1 : Below w.heap.size w w1 := Kw; clear hO hbw; have hO := hO_1; have hbw := hbw_1; clear hO_1 hbw_1; clear oa ob oc of ol; obtain ⟨oa, ob, oc, of, ol⟩ := hO.mx)
            go_roundw
            case rel => exact ⟨k + 1, by go_num, by omega, Kb hO, Kw⟩
            case measure => simp only [intOf]; omega
          · obtain rfl : k = pv xs C i := by omega
            by_cases hp : pv xs C i < C
            · have hnz : cel xs C i (pv xs C i) ≠ 0 := by
                have h5 := fcN_ne (rowL xs C i) (by
                  rw [rowL_len (by have h4 := HL.out; have h3 := Nat.mul_le_mul_right C (show i + 1 ≤ R by omega); rw [Nat.add_mul, Nat.one_mul] at h3; omega)]; exact hp)
                rw [← rowL_getD hp]; exact h5
              have hrw : hrowS xs R C i = (decide (lastP xs C i < pv xs C i) && decide (0 ≤ cel xs C i (pv xs C i)) && (List.range R).all (hcS xs C i)) := by unfold hrowS; rw [if_pos hp]
              have hn1 := HNO.out
              rw [hrw] at hn1
              have hs1 := HS.out
              rw [hrw] at hs1
              have HNO1 := Lib.hid hn1
              have HS1 := Lib.hid hs1
              have HP : Hid (∀ k, hcS xs C i k = if k < i then (decide (0 ≤ cel xs C k (pv xs C i)) && decide (cel xs C k (pv xs C i) < cel xs C i (pv xs C i))) else if k = i then true else decide (cel xs C k (pv xs C i) = 0)) := Lib.hid (fun _ => rfl)
              clear hrw hn1 hs1 HS HNO
              obtain ⟨x1, x2, x3, x4⟩ := idx_bd (r := R) (c := C) (i := i) (j := pv xs C i) hR hC (by omega) (by omega) (by omega) (by omega)
              obtain ⟨y1, y2⟩ := hcb.out i (pv xs C i)
              generalize pv xs C i = p at *
              have hnb : (cel xs C i p == 0) = false := by simpa using hnz
              clear hnz
              by_cases hlp : (p : Int) ≤ lastP xs C i
              · have hf := Lib.hid (HNO1.out (by simp; omega))
                generalize lastP xs C i = l at *
                by_cases hlc : l = (C : Int)
                · have b1 : (l == (C : Int)) = true := by simpa using hlc
                  clear hlc
                  go_wp2_with (go_at_call 108; refine (spec_l12Cell _ _ _ _ _ _ _ xs _ (C := w.heap.size) (Kr H2.out) Ks ⟨by omega, by omega⟩ ⟨by omega, by omega⟩ (by omega)).mono ?_; rintro e w1 ⟨rfl, hb⟩; have hO_1 : BM w1 (w.heap.size) R C A n cap := (Kb hO); have hbw_1 : Below w.heap.size w w1 := Kw; clear hO hbw; have hO := hO_1; have hbw := hbw_1; clear hO_1 hbw_1; clear oa ob oc of ol; obtain ⟨oa, ob, oc, of, ol⟩ := hO.mx)
                  go_ret
                  exact BV.mk (vbool hf.out.symm) Kw
                · have b1 : (l == (C : Int)) = false := by simpa using hlc
                  go_wp2_with (go_at_call 108; refine (spec_l12Cell _ _ _ _ _ _ _ xs _ (C := w.heap.size) (Kr H2.out) Ks ⟨by omega, by omega⟩ ⟨by omega, by omega⟩ (by omega)).mono ?_; rintro e w1 ⟨rfl, hb⟩; have hO_1 : BM w1 (w.heap.size) R C A n cap := (Kb hO); have hbw_1 : Below w.heap.size w w1 := Kw; clear hO hbw; have hO := hO_1; have hbw := hbw_1; clear hO_1 hbw_1; clear oa ob oc of ol; obtain ⟨oa, ob, oc, of, ol⟩ := hO.mx)
                  go_ret
                  exact BV.mk (vbool hf.out.symm) Kw
              · generalize lastP xs C i = l at *
                have b1 : (l == (C : Int)) = false := by simp; omega
                have hlp' : decide ((p : Int) ≤ l) = false := by simp; omega
                by_cases hng : cel xs C i p < 0
                · have hf := Lib.hid (HNO1.out (by simp; omega))
                  go_wp2_with (go_at_call 108; refine (spec_l12Cell _ _ _ _ _ _ _ xs _ (C := w.heap.size) (Kr H2.out) Ks ⟨by omega, by omega⟩ ⟨by omega, by omega⟩ (by omega)).mono ?_; rintro e w1 ⟨rfl, hb⟩; have hO_1 : BM w1 (w.heap.size) R C A n cap := (Kb hO); have hbw_1 : Below w.heap.size w w1 := Kw; clear hO hbw; have hO := hO_1; have hbw := hbw_1; clear hO_1 hbw_1; clear oa ob oc of ol; obtain ⟨oa, ob, oc, of, ol⟩ := hO.mx)
                  go_ret
                  exact BV.mk (vbool hf.out.symm) Kw
                · go_wp2_with (go_at_call 108; refine (spec_l12Cell _ _ _ _ _ _ _ xs _ (C := w.heap.size) (Kr H2.out) Ks ⟨by omega, by omega⟩ ⟨by omega, by omega⟩ (by omega)).mono ?_; rintro e w1 ⟨rfl, hb⟩; have hO_1 : BM w1 (w.heap.size) R C A n cap := (Kb hO); have hbw_1 : Below w.heap.size w w1 := Kw; clear hO hbw; have hO := hO_1; have hbw := hbw_1; clear hO_1 hbw_1; clear oa ob oc of ol; obtain ⟨oa, ob, oc, of, ol⟩ := hO.mx)
                  obtain ⟨wo2, rfl⟩ : ∃ wo : World, wo = wr := ⟨_, rfl⟩
                  go_loopw [6, 7] (fun v _ wr => ∃ k : Nat, v = .int .i64 k ∧ k ≤ R ∧ (List.range k).all (hcS xs C i) = true ∧ BM wr w.heap.size R C A n cap ∧ Below w.heap.size w wr) (fun v _ _ => R - (intOf v).toNat)
                  case atStart => exact ⟨0, rfl, Nat.zero_le _, by simp, Kb hO, Kw⟩
                  case round =>
                    clear hO hbw oa ob oc of ol
                    obtain ⟨k, rfl, hk, hak0, hO, hbw⟩ := hrel
                    have hak := Lib.hid hak0
                    clear hak0
                    obtain ⟨oa, ob, oc, of, ol⟩ := hO.mx
                    by_cases hkR : k < R
                    · obtain ⟨z1, z2, z3, z4⟩ := idx_bd (r := R) (c := C) (i := k) (j := p) hR hC (by omega) (by omega) (by omega) (by omega)
                      obtain ⟨y3, y4⟩ := hcb.out k p
                      have hs := range_all_succ (hcS xs C i) k
                      rw [hak.out, Bool.true_and, HP.out k] at hs
                      have hno2 : hcS xs C i k = false → (List.range R).all (hcS xs C i) = false := fun hh => range_all_false (p := hcS xs C i) hkR hh
                      rw [HP.out k] at hno2
                      by_cases hki : k < i
                      · rw [if_pos hki] at hs hno2
                        have b2 : decide (i < k) = false := by simp; omega
                        by_cases g1 : 0 ≤ cel xs C k p ∧ cel xs C k p ≤ cel xs C i p - 1
                        · have hnx := Lib.hid (show (List.range (k + 1)).all (hcS xs C i) = true by rw [hs]; simp; omega)
                          clear hs hno2
                          go_wp2_with (first | (go_at_call 108; refine (spec_l12Cell _ _ _ _ _ _ _ xs _ (C := w.heap.size) (Kr H2.out) Ks ⟨by omega, by omega⟩ ⟨by omega, by omega⟩ (by omega)).mono ?_; rintro e w1 ⟨rfl, hb⟩; have hO_1 : BM w1 (w.heap.size) R C A n cap := (Kb hO); have hbw_1 : Below w.heap.size w w1 := Kw; clear hO hbw; have hO := hO_1; have hbw := hbw_1; clear hO_1 hbw_1; clear oa ob oc of ol; obtain ⟨oa, ob, oc, of, ol⟩ := hO.mx) | (go_at_call 154; refine (spec_l1In_yes _ _ _ _ (by omega)).mono ?_; rintro e w' ⟨rfl, rfl⟩))
                          go_roundw
                          case rel => exact ⟨k + 1, by go_num, by omega, hnx.out, Kb hO, Kw⟩
                          case measure => simp only [intOf]; omega
                        · have hf := Lib.hid (HNO1.out (by rw [hno2 (by simp; omega)]; simp))
                          clear hs hno2
                          go_wp2_with (first | (go_at_call 108; refine (spec_l12Cell _ _ _ _ _ _ _ xs _ (C := w.heap.size) (Kr H2.out) Ks ⟨by omega, by omega⟩ ⟨by omega, by omega⟩ (by omega)).mono ?_; rintro e w1 ⟨rfl, hb⟩; have hO_1 : BM w1 (w.heap.size) R C A n cap := (Kb hO); have hbw_1 : Below w.heap.size w w1 := Kw; clear hO hbw; have hO := hO_1; have hbw := hbw_1; clear hO_1 hbw_1; clear oa ob oc of ol; obtain ⟨oa, ob, oc, of, ol⟩ := hO.mx) | (go_at_call 154; refine (spec_l1In_no _ _ _ _ (by omega)).mono ?_; rintro e w' ⟨rfl, rfl⟩))
                          go_ret
                          exact BV.mk (vbool hf.out.symm) Kw
                      · rw [if_neg hki] at hs hno2
                        have b3 : decide (k < i) = false := by simp; omega
                        by_cases hkk : k = i
                        · rw [if_pos hkk] at hs
                          have hnx := Lib.hid (show (List.range (k + 1)).all (hcS xs C i) = true from hs)
                          have b2 : decide (i < k) = false := by simp; omega
                          have hkk1 : k ≤ i := by omega
                          clear hs hno2 hkk
                          go_wp2_with (go_at_call 108; refine (spec_l12Cell _ _ _ _ _ _ _ xs _ (C := w.heap.size) (Kr H2.out) Ks ⟨by omega, by omega⟩ ⟨by omega, by omega⟩ (by omega)).mono ?_; rintro e w1 ⟨rfl, hb⟩; have hO_1 : BM w1 (w.heap.size) R C A n cap := (Kb hO); have hbw_1 : Below w.heap.size w w1 := Kw; clear hO hbw; have hO := hO_1; have hbw := hbw_1; clear hO_1 hbw_1; clear oa ob oc of ol; obtain ⟨oa, ob, oc, of, ol⟩ := hO.mx)
                          go_roundw
                          case rel => exact ⟨k + 1, by go_num, by omega, hnx.out, Kb hO, Kw⟩
                          case measure => simp only [intOf]; omega
                        · rw [if_neg hkk] at hs hno2
                          have b2 : decide (i < k) = true := by simp; omega
                          by_cases hz : cel xs C k p = 0
                          · have hnx := Lib.hid (show (List.range (k + 1)).all (hcS xs C i) = true by rw [hs]; simpa using hz)
                            have b4 : (cel xs C k p != 0) = false := by simpa using hz
                            clear hs hno2 hkk hz
                            go_wp2_with (go_at_call 108; refine (spec_l12Cell _ _ _ _ _ _ _ xs _ (C := w.heap.size) (Kr H2.out) Ks ⟨by omega, by omega⟩ ⟨by omega, by omega⟩ (by omega)).mono ?_; rintro e w1 ⟨rfl, hb⟩; have hO_1 : BM w1 (w.heap.size) R C A n cap := (Kb hO); have hbw_1 : Below w.heap.size w w1 := Kw; clear hO hbw; have hO := hO_1; have hbw := hbw_1; clear hO_1 hbw_1; clear oa ob oc of ol; obtain ⟨oa, ob, oc, of, ol⟩ := hO.mx)
                            go_roundw
                            case rel => exact ⟨k + 1, by go_num, by omega, hnx.out, Kb hO, Kw⟩
                            case measure => simp only [intOf]; omega
                          · have hf := Lib.hid (HNO1.out (by rw [hno2 (by simpa using hz)]; simp))
                            have b4 : (cel xs C k p != 0) = true := by simpa using hz
                            clear hs hno2 hkk hz
                            go_wp2_with (go_at_call 108; refine (spec_l12Cell _ _ _ _ _ _ _ xs _ (C := w.heap.size) (Kr H2.out) Ks ⟨by omega, by omega⟩ ⟨by omega, by omega⟩ (by omega)).mono ?_; rintro e w1 ⟨rfl, hb⟩; have hO_1 : BM w1 (w.heap.size) R C A n cap := (Kb hO); have hbw_1 : Below w.heap.size w w1 := Kw; clear hO hbw; have hO := hO_1; have hbw := hbw_1; clear hO_1 hbw_1; clear oa ob oc of ol; obtain ⟨oa, ob, oc, of, ol⟩ := hO.mx)
                            go_ret
                            exact BV.mk (vbool hf.out.symm) Kw
                    · obtain rfl : R = k := by omega
                      have hnx := Lib.hid (show (List.range (i + 1)).all (fun i => hrowS xs R C i) = true by rw [HS1.out, hak.out]; simp; omega)
                      go_wp2
                      go_roundw
                      case rel => exact ⟨i + 1, by go_num, by rw [HSU.out], by omega, hnx.out, Kb hO, Kw⟩
                      case measure => simp only [intOf]; omega
            · have hrw : hrowS xs R C i = true := by unfold hrowS; rw [if_neg hp]
              have hnx := Lib.hid (show (List.range (i + 1)).all (fun i => hrowS xs R C i) = true by rw [HS.out, hrw])
              have hpc : C ≤ pv xs C i := by omega
              clear hrw
              go_wp2_with fail
              refine wp_loop_rounds 1 ?_
              rw [rounds_succ]
              go_wp2_with fail
              go_roundw
              case rel => exact ⟨i + 1, by go_num, by rw [HSU.out], by omega, hnx.out, Kb hO, Kw⟩
              case measure => simp only [intOf]; omega
      · obtain rfl : R = i := by omega
        have hres := Lib.hid (show (List.range R).all (hrowS xs R C) = true from hal.out)
        go_wp2_with (go_at_call 107; refine (spec_IsMatrix R C A n cap xs _ (C := w.heap.size) (Kr H2.out) Ks hn).mono ?_; rw [HM.out]; rintro e w1 ⟨rfl, hb⟩; have hO_1 : BM w1 (w.heap.size) R C A n cap := (Kb hO); have hbw_1 : Below w.heap.size w w1 := Kw; clear hO hbw; have hO := hO_1; have hbw := hbw_1; clear hO_1 hbw_1; clear oa ob oc of ol; obtain ⟨oa, ob, oc, of, ol⟩ := hO.mx)
        go_ret
        exact BV.mk (vbool hres.out.symm) Kw
end Go.Proofs.Ytacjonkehcamgaa

/-
  DERIVED. What stays under all operations of the Smith form; u m v = d, and u takes only zeros to zeros: no program in sight.
-/
namespace Go.Proofs.Ytacjonkehcamgaa
set_option linter.unusedVariables false
/-- A property that stays under the operations. -/
structure Stays (R C t0 : Nat) (P : SS → Prop) : Prop where
  radd : ∀ (s : SS) (i j : Nat) (t : Int), i < R → j < R → t0 ≤ i → t0 ≤ j → i ≠ j → SGD R C s → (s.wr (s.row.add i j t)).OK R C → P s → P (s.wr (s.row.add i j t))
  rswap : ∀ (s : SS) (i j : Nat), i < R → j < R → t0 ≤ i → t0 ≤ j → i ≠ j → SGD R C s → P s → P (s.wr (s.row.swap i j))
  rneg : ∀ (s : SS) (i : Nat), i < R → t0 ≤ i → SGD R C s → P s → P (s.wr (s.row.neg i))
  cadd : ∀ (s : SS) (i j : Nat) (t : Int), i < C → j < C → t0 ≤ i → t0 ≤ j → i ≠ j → SGD R C s → (s.wc (s.col.add i j t)).OK R C → P s → P (s.wc (s.col.add i j t))
  cswap : ∀ (s : SS) (i j : Nat), i < C → j < C → t0 ≤ i → t0 ≤ j → i ≠ j → SGD R C s → P s → P (s.wc (s.col.swap i j))
section
variable {R C t : Nat} {P : SS → Prop} {s : SS}
theorem Stays.b (H : Stays R C t P) (h : SGD R C s) (hP : P s) (ht : t < R) : ∀ n, t + n ≤ R → (s.wr (swS t t t s.row n)).OK R C → P (s.wr (swS t t t s.row n))
  | 0, _, _ => hP
  | n + 1, hn, hk => by
    have hk' : (s.wr (swS t t t s.row n)).OK R C := by
      have h1 := swS_back (R := R) (C := C) h.row.nb hk.ofRow
      exact ⟨h1.f, h1.g, hk.h⟩
    have ih := H.b h hP ht n (by omega) hk'
    rw [swS_succ] at hk ⊢
    split
    · rename_i hc
      rw [if_pos hc] at hk
      have hg : SGD R C (s.wr (swS t t t s.row n)) := ⟨hk', h.nb.wr (swS_nb h.row.nb n)⟩
      exact H.radd (s.wr (swS t t t s.row n)) (t + n) t _ (by omega) ht (by omega) (Nat.le_refl _) hc.1 hg hk ih
    · exact ih
theorem Stays.c (H : Stays R C t P) (h : SGD R C s) (hP : P s) (ht : t < C) : ∀ n, t + n ≤ C → (s.wc (swS t t t s.col n)).OK R C → P (s.wc (swS t t t s.col n))
  | 0, _, _ => hP
  | n + 1, hn, hk => by
    have hk' : (s.wc (swS t t t s.col n)).OK R C := by
      have h1 := swS_back (R := C) (C := R) h.col.nb hk.ofCol
      exact ⟨tp_ok h1.f, hk.g, tp_ok h1.g⟩
    have ih := H.c h hP ht n (by omega) hk'
    rw [swS_succ] at hk ⊢
    split
    · rename_i hc
      rw [if_pos hc] at hk
      have hg : SGD R C (s.wc (swS t t t s.col n)) := ⟨hk', h.nb.wc (swS_nb h.col.nb n)⟩
      exact H.cadd (s.wc (swS t t t s.col n)) (t + n) t _ (by omega) ht (by omega) (Nat.le_refl _) hc.1 hg hk ih
    · exact ih
theorem Stays.a1 (H : Stays R C t P) {r : Nat} (h : SGD R C s) (hP : P s) (hr : r < R) (hr0 : t ≤ r) (ht : t < R) : P (sfA1 t r s) := by
  unfold sfA1
  split
  · exact hP
  · rename_i hne
    exact H.rswap s r t hr ht hr0 (Nat.le_refl _) hne h hP
theorem Stays.a2 (H : Stays R C t P) {c : Nat} (h : SGD R C s) (hP : P s) (hc : c < C) (hc0 : t ≤ c) (ht : t < C) : P (sfA2 t c s) := by
  unfold sfA2
  split
  · exact hP
  · rename_i hne
    exact H.cswap s c t hc ht hc0 (Nat.le_refl _) hne h hP
theorem Stays.rnd (H : Stays R C t P) {p q : Nat} (h : SGD R C s) (hP : P s) (e : ls2 R C s.f t = ((p : Int), (q : Int))) (hp0 : t ≤ p) (hp : p < R) (hq0 : t ≤ q) (hq : q < C) (ht : t < R) (htC : t < C) (hk : (rnd R C t s).1.OK R C) : P (rnd R C t s).1 := by
  have eA : sfA R C t s = sfA2 t q (sfA1 t p s) := by unfold sfA; rw [e]; rfl
  have hA : SGD R C (sfA R C t s) := by rw [eA]; exact (h.a1 hp ht).a2 hq htC
  have pA : P (sfA R C t s) := by rw [eA]; exact H.a2 (h.a1 hp ht) (H.a1 h hP hp hp0 ht) hq hq0 htC
  obtain ⟨hB, hC⟩ := rnd_back hA.nb hk
  have gB : SGD R C (sfB R t (sfA R C t s)) := ⟨hB, sfB_nb hA.nb⟩
  have pB : P (sfB R t (sfA R C t s)) := H.b hA pA ht (R - t) (by omega) hB
  have gC : SGD R C (sfC C t (sfB R t (sfA R C t s))) := ⟨hC, sfC_nb gB.nb⟩
  have pC : P (sfC C t (sfB R t (sfA R C t s))) := H.c gB pB htC (C - t) (by omega) hC
  unfold Go.Proofs.Ytacjonkehcamgaa.rnd at hk ⊢
  generalize sfC C t (sfB R t (sfA R C t s)) = s2 at *
  unfold sfD at hk ⊢
  split
  · rename_i hcl
    rw [if_pos hcl] at hk
    rcases hf : fd R C t s2.f with _ | i
    · exact pC
    · rw [hf] at hk
      obtain ⟨i1, i2, i3⟩ := fd_some hf
      exact H.radd s2 t i 1 ht i2 (Nat.le_refl _) (by omega) (by omega) gC hk pC
  · exact pC
theorem Stays.in_ (H : Stays R C t P) (ht : t < R) (htC : t < C) : ∀ (k : Nat) (s : SS), sfMs R C t s ≤ k → SGD R C s → P s → ¬ (ls2 R C s.f t).1 < 0 → ∀ s', sfIn R C t s = some s' → P s' := by
  intro k
  induction k with
  | zero =>
    intro s hk hg hP hn s' he
    rcases ls2_cases R C s.f t with ⟨e, _⟩ | ⟨p, q, e, ⟨a1, a2, a3, a4⟩, h3, h4, h5⟩
    · rw [e] at hn; exact absurd (by decide) hn
    · have hV : lsV R C t s = (s.f p q).natAbs := by unfold lsV; rw [e]; rfl
      unfold sfMs at hk
      omega
  | succ k ih =>
    intro s hk hg hP hn s' he
    rcases ls2_cases R C s.f t with ⟨e, _⟩ | ⟨p, q, e, ⟨a1, a2, a3, a4⟩, h3, h4, h5⟩
    · rw [e] at hn; exact absurd (by decide) hn
    · rw [sfIn] at he
      have hA : SGD R C (sfA R C t s) := by
        unfold sfA
        rw [e]
        exact (hg.a1 a2 ht).a2 a4 htC
      have hnb : (Go.Proofs.Ytacjonkehcamgaa.rnd R C t s).1.NBS := sfD_nb (sfC_nb (sfB_nb hA.nb))
      split at he
      · rename_i hok
        have hk' := (SS.ok_iff hnb).1 hok
        have hP' := H.rnd hg hP e a1 a2 a3 a4 ht htC hk'
        split at he
        · cases he
          exact hP'
        · rename_i hd
          split at he
          · rename_i hlt
            obtain ⟨_, hne⟩ := rnd_lt hg ht htC e a2 a4 h3 (h5 ht htC) hk' (by simpa using hd)
            refine ih _ (by omega) (rnd_gd hg e a2 a4 ht htC hk') hP' ?_ s' he
            obtain ⟨p2, q2, e2, _⟩ := ls2_some (R := R) (C := C) (Nat.le_refl t) ht (Nat.le_refl t) htC hne
            rw [e2]
            dsimp only
            omega
          · cases he
      · cases he
end
theorem Stays.out {R C : Nat} {P : SS → Prop} (H : ∀ t, Stays R C t P) : ∀ (m t : Nat) (s s' : SS), t + m ≤ R → t + m ≤ C → SGD R C s → P s → sfOut R C m t s = some s' → P s'
  | 0, t, s, s', _, _, hg, hP, he => by cases he; exact hP
  | m + 1, t, s, s', h1, h2, hg, hP, he => by
    by_cases hn : (ls2 R C s.f t).1 < 0
    · rw [sfOut_stop hn] at he; cases he; exact hP
    · rw [sfOut_go hn] at he
      unfold sfGo at he
      rcases hi : sfIn R C t s with _ | s2
      · rw [hi] at he; cases he
      · rw [hi] at he
        have g2 := sfIn_gd (by omega) (by omega) _ s (Nat.le_refl _) hg hn s2 hi
        have p2 := (H t).in_ (by omega) (by omega) _ s (Nat.le_refl _) hg hP hn s2 hi
        have pN : P (sfN t s2) := by
          unfold sfN
          split
          · exact (H t).rneg s2 t (by omega) (Nat.le_refl _) g2 p2
          · exact p2
        exact Stays.out H m (t + 1) (sfN t s2) s' (by omega) (by omega) (g2.n (by omega)) pN he
theorem Stays.all {R C : Nat} {P : SS → Prop} (H : ∀ t, Stays R C t P) {xs : List Int} {s : SS} (h : sfX R C xs = some s) (h0 : P ⟨fun i j => cel xs C i j, idF, idF⟩) : P s := by
  rcases hm : isMat (R : Int) (C : Int) xs with _ | _
  · rw [sfX_no hm] at h; cases h
  · rw [sfX_yes hm] at h
    have M := isMat_iff.1 hm
    have hs := start_gd (R := R) (C := C) M.num
    exact Stays.out H _ _ _ _ (by omega) (by omega) ⟨⟨hs.ok.f, hs.ok.g, idF_ok C C⟩, ⟨hs.nb.f, hs.nb.g, idF_nb⟩⟩ h0 h
/-- d = u m v, and u takes only zeros to zeros. -/
def UMV (R C : Nat) (m : Fn2) (s : SS) : Prop := EqM R C (mm C (mm R s.g m) s.h) s.f ∧ INJ R s.g
theorem opA_val {f : Fn2} {R C i j y : Nat} {t : Int} (h : OKF R C (opA f i j t)) (hi : i < R) (hy : y < C) : opA f i j t i y = f i y + f j y * t := (opA_num (h i y hi hy)).2.2.1
theorem mm_left {n : Nat} {g g' m : Fn2} {x y : Nat} (h : ∀ k, k < n → g' x k = g x k) : mm n g' m x y = mm n g m x y := sumTo_congr n fun k hk => by rw [h k hk]
theorem UMV.stays (R C : Nat) (m : Fn2) (t0 : Nat) : Stays R C t0 (UMV R C m) where
  radd := fun s i j t hi hj _ _ hij hg hk hP => by
    have e1 : ∀ y, y < R → opA s.g i j t i y = s.g i y + s.g j y * t := fun y hy => opA_val hk.g hi hy
    refine ⟨fun x y hx hy => ?_, hP.2.add hi hj hij e1 (fun x y _ _ hne => opA_other hne)⟩
    show mm C (mm R (opA s.g i j t) m) s.h x y = opA s.f i j t x y
    have kf : OKF R C (opA s.f i j t) := hk.f
    by_cases hxi : x = i
    · subst hxi
      rw [opA_val kf hx hy, ← hP.1 x y hx hy, ← hP.1 j y hj hy]
      unfold mm
      rw [← sumTo_mul, ← sumTo_add]
      refine sumTo_congr C fun k hk2 => ?_
      have e2 : sumTo (fun l => opA s.g x j t x l * m l k) R = sumTo (fun l => s.g x l * m l k) R + sumTo (fun l => s.g j l * m l k) R * t := by
        rw [← sumTo_mul, ← sumTo_add]
        exact sumTo_congr R fun l hl => by rw [e1 l hl]; grind
      rw [e2]
      grind
    · rw [opA_other hxi, ← hP.1 x y hx hy]
      exact mm_left fun k hk2 => mm_left fun l hl => opA_other hxi
  rswap := fun s i j hi hj _ _ hij hg hP => by
    refine ⟨fun x y hx hy => ?_, hP.2.swap hi hj⟩
    show mm C (mm R (swF s.g i j) m) s.h x y = swF s.f i j x y
    have key : ∀ z, z < R → (∀ k, swF s.g i j x k = s.g z k) → (swF s.f i j x y = s.f z y) → mm C (mm R (swF s.g i j) m) s.h x y = swF s.f i j x y := fun z hz h1 h2 => by
      rw [h2, ← hP.1 z y hz hy]
      unfold mm
      refine sumTo_congr C fun k _ => ?_
      rw [sumTo_congr R (fun l _ => by rw [h1 l])]
    by_cases h1 : x = i
    · exact key j hj (fun k => by unfold swF; rw [if_pos h1]) (by unfold swF; rw [if_pos h1])
    · by_cases h2 : x = j
      · exact key i hi (fun k => by unfold swF; rw [if_neg h1, if_pos h2]) (by unfold swF; rw [if_neg h1, if_pos h2])
      · exact key x hx (fun k => by unfold swF; rw [if_neg h1, if_neg h2]) (by unfold swF; rw [if_neg h1, if_neg h2])
  rneg := fun s i hi _ hg hP => by
    have e1 : ∀ y, y < R → opM s.g i i y = -s.g i y := fun y hy => opM_at (hg.ok.g i y hi hy)
    have o1 : ∀ (f : Fn2) x y, x ≠ i → opM f i x y = f x y := fun f x y hne => by unfold opM; rw [if_neg hne]
    refine ⟨fun x y hx hy => ?_, hP.2.neg e1 (fun x y _ _ hne => o1 _ _ _ hne)⟩
    show mm C (mm R (opM s.g i) m) s.h x y = opM s.f i x y
    by_cases hxi : x = i
    · subst hxi
      rw [opM_at (hg.ok.f x y hx hy), ← hP.1 x y hx hy]
      unfold mm
      rw [← sumTo_neg]
      refine sumTo_congr C fun k hk2 => ?_
      have e2 : sumTo (fun l => opM s.g x x l * m l k) R = -sumTo (fun l => s.g x l * m l k) R := by
        rw [← sumTo_neg]
        exact sumTo_congr R fun l hl => by rw [e1 l hl, Int.neg_mul]
      rw [e2, Int.neg_mul]
    · rw [o1 _ _ _ hxi, ← hP.1 x y hx hy]
      exact mm_left fun k hk2 => mm_left fun l hl => o1 _ _ _ hxi
  cadd := fun s i j t hi hj _ _ hij hg hk hP => by
    refine ⟨fun x y hx hy => ?_, hP.2⟩
    show mm C (mm R s.g m) (tp (opA (tp s.h) i j t)) x y = tp (opA (tp s.f) i j t) x y
    have kf : OKF C R (opA (tp s.f) i j t) := tp_ok hk.f
    have kh : OKF C C (opA (tp s.h) i j t) := tp_ok hk.h
    by_cases hyi : y = i
    · subst hyi
      show _ = opA (tp s.f) y j t y x
      rw [opA_val kf hy hx]
      show _ = s.f x y + s.f x j * t
      rw [← hP.1 x y hx hy, ← hP.1 x j hx hj]
      unfold mm
      rw [← sumTo_mul, ← sumTo_add]
      refine sumTo_congr C fun k hk2 => ?_
      have e2 : tp (opA (tp s.h) y j t) k y = s.h k y + s.h k j * t := opA_val kh hy hk2
      rw [e2]
      grind
    · show _ = opA (tp s.f) i j t y x
      rw [opA_other hyi]
      show _ = s.f x y
      rw [← hP.1 x y hx hy]
      exact sumTo_congr C fun k hk2 => by
        have e2 : tp (opA (tp s.h) i j t) k y = s.h k y := opA_other hyi
        rw [e2]
  cswap := fun s i j hi hj _ _ hij hg hP => by
    refine ⟨fun x y hx hy => ?_, hP.2⟩
    show mm C (mm R s.g m) (tp (swF (tp s.h) i j)) x y = swF (tp s.f) i j y x
    have key : ∀ z, z < C → (∀ k, swF (tp s.h) i j y k = s.h k z) → (swF (tp s.f) i j y x = s.f x z) → mm C (mm R s.g m) (tp (swF (tp s.h) i j)) x y = swF (tp s.f) i j y x := fun z hz h1 h2 => by
      rw [h2, ← hP.1 x z hx hz]
      exact sumTo_congr C fun k _ => by
        have e2 : tp (swF (tp s.h) i j) k y = s.h k z := h1 k
        rw [e2]
    by_cases h1 : y = i
    · exact key j hj (fun k => by unfold swF; rw [if_pos h1]; rfl) (by unfold swF; rw [if_pos h1]; rfl)
    · by_cases h2 : y = j
      · exact key i hi (fun k => by unfold swF; rw [if_neg h1, if_pos h2]; rfl) (by unfold swF; rw [if_neg h1, if_pos h2]; rfl)
      · exact key y hy (fun k => by unfold swF; rw [if_neg h1, if_neg h2]; rfl) (by unfold swF; rw [if_neg h1, if_neg h2]; rfl)
theorem UMV.start (R C : Nat) (m : Fn2) : UMV R C m ⟨m, idF, idF⟩ := by
  refine ⟨fun i j hi hj => ?_, INJ.id R⟩
  show mm C (mm R idF m) idF i j = m i j
  have e1 : ∀ k, mm R idF m i k = m i k := fun k => mv_id (fun l => m l k) hi
  unfold mm
  rw [sumTo_one C hj]
  · show mm R idF m i j * idF j j = m i j
    rw [e1]; unfold idF; rw [if_pos rfl, Int.mul_one]
  · intro k hk hne
    unfold idF
    rw [if_neg hne, Int.mul_zero]
/-- The Smith form of a matrix is the product. -/
theorem sfX_umv {R C : Nat} {xs : List Int} {s : SS} (h : sfX R C xs = some s) : UMV R C (fun i j => cel xs C i j) s := Stays.all (UMV.stays R C _) h (UMV.start R C _)
/-- A solution of the Smith form gives one of the matrix. -/
theorem sf_solves {R C : Nat} {m : Fn2} {s : SS} (h : UMV R C m s) {b y : Nat → Int} (hy : ∀ i, i < R → mv C s.f y i = mv R s.g b i) : ∀ i, i < R → mv C m (mv C s.h y) i = b i := by
  refine h.2.eq fun i hi => ?_
  rw [← hy i hi, ← mv_mm C R s.g m (mv C s.h y) i, ← mv_mm C C (mm R s.g m) s.h y i]
  exact mv_congr (fun k hk => h.1 i k hi hk) (fun _ _ => rfl)
/-- Outside of the diagonal there are zeros in the first t rows and columns. -/
def Clr (R C t : Nat) (s : SS) : Prop := ∀ x y, x < R → y < C → x ≠ y → (x < t ∨ y < t) → s.f x y = 0
theorem Clr.stays (R C t : Nat) : Stays R C t (Clr R C t) where
  radd := fun s i j q hi hj ti tj hij hg hk hP x y hx hy hxy h => by
    show opA s.f i j q x y = 0
    have kf : OKF R C (opA s.f i j q) := hk.f
    by_cases hxi : x = i
    · subst hxi
      rw [opA_val kf hx hy, hP x y hx hy hxy h, hP j y hj hy (by omega) (.inr (by omega)), Int.zero_mul, Int.zero_add]
    · rw [opA_other hxi]; exact hP x y hx hy hxy h
  rswap := fun s i j hi hj ti tj hij hg hP x y hx hy hxy h => by
    show swF s.f i j x y = 0
    unfold swF
    split
    · rename_i e; exact hP j y hj hy (by omega) (.inr (by omega))
    · split
      · rename_i e; exact hP i y hi hy (by omega) (.inr (by omega))
      · exact hP x y hx hy hxy h
  rneg := fun s i hi ti hg hP x y hx hy hxy h => by
    show opM s.f i x y = 0
    by_cases hxi : x = i
    · subst hxi
      rw [opM_at (hg.ok.f x y hx hy), hP x y hx hy hxy h]; rfl
    · unfold opM; rw [if_neg hxi]; exact hP x y hx hy hxy h
  cadd := fun s i j q hi hj ti tj hij hg hk hP x y hx hy hxy h => by
    show opA (tp s.f) i j q y x = 0
    have kf : OKF C R (opA (tp s.f) i j q) := tp_ok hk.f
    by_cases hyi : y = i
    · subst hyi
      rw [opA_val kf hy hx]
      show s.f x y + s.f x j * q = 0
      rw [hP x y hx hy hxy h, hP x j hx hj (by omega) (.inl (by omega)), Int.zero_mul, Int.zero_add]
    · rw [opA_other hyi]; exact hP x y hx hy hxy h
  cswap := fun s i j hi hj ti tj hij hg hP x y hx hy hxy h => by
    show swF (tp s.f) i j y x = 0
    unfold swF
    split
    · rename_i e; exact hP x j hx hj (by omega) (.inl (by omega))
    · split
      · rename_i e; exact hP x i hx hi (by omega) (.inl (by omega))
      · exact hP x y hx hy hxy h
theorem rnd_done {R C t : Nat} {s : SS} (h : (rnd R C t s).2 = true) : clnS R C t (rnd R C t s).1.f = true ∧ fd R C t (rnd R C t s).1.f = none := by
  unfold rnd at h ⊢
  generalize sfC C t (sfB R t (sfA R C t s)) = s2 at *
  unfold sfD at h ⊢
  by_cases hc : clnS R C t s2.f = true
  · rw [if_pos hc] at h ⊢
    rcases hf : fd R C t s2.f with _ | i
    · exact ⟨hc, hf⟩
    · rw [hf] at h; cases h
  · rw [if_neg hc] at h; cases h
/-- What holds at (t, t) when nothing is left. -/
def Dn (R C t : Nat) (s : SS) : Prop := clnS R C t s.f = true ∧ fd R C t s.f = none ∧ s.f t t ≠ 0
theorem rnd_piv {R C t p q : Nat} {s : SS} (h : SGD R C s) (e : ls2 R C s.f t = ((p : Int), (q : Int))) (hp : p < R) (hq : q < C) (hpq : s.f p q ≠ 0) (ht : t < R) (htC : t < C) (hk : (rnd R C t s).1.OK R C) (hd : (rnd R C t s).2 = true) : (rnd R C t s).1.f t t ≠ 0 := by
  have eA : sfA R C t s = sfA2 t q (sfA1 t p s) := by unfold sfA; rw [e]; rfl
  have hA : SGD R C (sfA R C t s) := by rw [eA]; exact (h.a1 hp ht).a2 hq htC
  have hpiv : (sfA R C t s).f t t = s.f p q := by rw [eA]; exact sfA_piv p q s
  obtain ⟨hB, hC⟩ := rnd_back hA.nb hk
  obtain ⟨f1, -, -⟩ := rnd_facts hA.nb ht htC (by rw [hpiv]; exact hpq) hB hC
  unfold rnd at hd ⊢
  generalize sfC C t (sfB R t (sfA R C t s)) = s2 at *
  unfold sfD at hd ⊢
  by_cases hc : clnS R C t s2.f = true
  · rw [if_pos hc] at hd ⊢
    rcases hf : fd R C t s2.f with _ | i
    · show s2.f t t ≠ 0
      rw [f1, hpiv]; exact hpq
    · rw [hf] at hd; cases hd
  · rw [if_neg hc] at hd; cases hd
theorem sfIn_dn {R C t : Nat} (ht : t < R) (htC : t < C) : ∀ (k : Nat) (s : SS), sfMs R C t s ≤ k → SGD R C s → ¬ (ls2 R C s.f t).1 < 0 → ∀ s', sfIn R C t s = some s' → Dn R C t s' := by
  intro k
  induction k with
  | zero =>
    intro s hk hg hn s' he
    rcases ls2_cases R C s.f t with ⟨e, _⟩ | ⟨p, q, e, ⟨a1, a2, a3, a4⟩, h3, h4, h5⟩
    · rw [e] at hn; exact absurd (by decide) hn
    · have hV : lsV R C t s = (s.f p q).natAbs := by unfold lsV; rw [e]; rfl
      unfold sfMs at hk
      omega
  | succ k ih =>
    intro s hk hg hn s' he
    rcases ls2_cases R C s.f t with ⟨e, _⟩ | ⟨p, q, e, ⟨a1, a2, a3, a4⟩, h3, h4, h5⟩
    · rw [e] at hn; exact absurd (by decide) hn
    · rw [sfIn] at he
      have hA : SGD R C (sfA R C t s) := by
        unfold sfA
        rw [e]
        exact (hg.a1 a2 ht).a2 a4 htC
      have hnb : (rnd R C t s).1.NBS := sfD_nb (sfC_nb (sfB_nb hA.nb))
      split at he
      · rename_i hok
        have hk' := (SS.ok_iff hnb).1 hok
        split at he
        · rename_i hd
          cases he
          obtain ⟨d1, d2⟩ := rnd_done hd
          exact ⟨d1, d2, rnd_piv hg e a2 a4 h3 ht htC hk' hd⟩
        · rename_i hd
          split at he
          · rename_i hlt
            obtain ⟨_, hne⟩ := rnd_lt hg ht htC e a2 a4 h3 (h5 ht htC) hk' (by simpa using hd)
            refine ih _ (by omega) (rnd_gd hg e a2 a4 ht htC hk') ?_ s' he
            obtain ⟨p2, q2, e2, _⟩ := ls2_some (R := R) (C := C) (Nat.le_refl t) ht (Nat.le_refl t) htC hne
            rw [e2]
            dsimp only
            omega
          · cases he
      · cases he
theorem Dn.clr {R C t : Nat} {s : SS} (h : Dn R C t s) (hc : Clr R C t s) : Clr R C (t + 1) s := fun x y hx hy hxy hl => by
  obtain ⟨z1, z2⟩ := clnS_yes h.1
  by_cases h1 : x < t ∨ y < t
  · exact hc x y hx hy hxy h1
  · rcases hl with hl | hl
    · obtain rfl : x = t := by omega
      exact z2 y (by omega) hy
    · obtain rfl : y = t := by omega
      exact z1 x (by omega) hx
theorem sfOut_diag {R C : Nat} : ∀ (m t : Nat) (s s' : SS), t + m = min R C → SGD R C s → Clr R C t s → sfOut R C m t s = some s' → ∀ x y, x < R → y < C → x ≠ y → s'.f x y = 0
  | 0, t, s, s', hm, hg, hc, he => by
    cases he
    exact fun x y hx hy hxy => hc x y hx hy hxy (by omega)
  | m + 1, t, s, s', hm, hg, hc, he => by
    by_cases hn : (ls2 R C s.f t).1 < 0
    · rw [sfOut_stop hn] at he
      cases he
      intro x y hx hy hxy
      by_cases h1 : x < t ∨ y < t
      · exact hc x y hx hy hxy h1
      · rcases ls2_cases R C s.f t with ⟨_, h⟩ | ⟨p, q, e, _⟩
        · exact h x y (by omega) hx (by omega) hy
        · rw [e] at hn; dsimp only at hn; omega
    · rw [sfOut_go hn] at he
      unfold sfGo at he
      rcases hi : sfIn R C t s with _ | s2
      · rw [hi] at he; cases he
      · rw [hi] at he
        have ht : t < R ∧ t < C := by omega
        have g2 := sfIn_gd ht.1 ht.2 _ s (Nat.le_refl _) hg hn s2 hi
        have p2 := (Clr.stays R C t).in_ ht.1 ht.2 _ s (Nat.le_refl _) hg hc hn s2 hi
        have d2 := sfIn_dn ht.1 ht.2 _ s (Nat.le_refl _) hg hn s2 hi
        have p3 := d2.clr p2
        have pN : Clr R C (t + 1) (sfN t s2) := by
          unfold sfN
          split
          · intro x y hx hy hxy h
            show opM s2.f t x y = 0
            by_cases hxt : x = t
            · subst hxt
              rw [opM_at (g2.ok.f x y hx hy), p3 x y hx hy hxy h]; rfl
            · unfold opM; rw [if_neg hxt]; exact p3 x y hx hy hxy h
          · exact p3
        exact sfOut_diag m (t + 1) (sfN t s2) s' (by omega) (g2.n ht.1) pN he
/-- Outside of the diagonal the Smith form has zeros. -/
theorem sfX_diag {R C : Nat} {xs : List Int} {s : SS} (h : sfX R C xs = some s) : ∀ x y, x < R → y < C → x ≠ y → s.f x y = 0 := by
  rcases hm : isMat (R : Int) (C : Int) xs with _ | _
  · rw [sfX_no hm] at h; cases h
  · rw [sfX_yes hm] at h
    have M := isMat_iff.1 hm
    have hs := start_gd (R := R) (C := C) M.num
    exact sfOut_diag _ _ _ _ (by omega) ⟨⟨hs.ok.f, hs.ok.g, idF_ok C C⟩, ⟨hs.nb.f, hs.nb.g, idF_nb⟩⟩ (fun x y _ _ _ h => by omega) h
end Go.Proofs.Ytacjonkehcamgaa

/-
  DERIVED. The matrices that make the Smith form are unimodular: no program in sight.
-/
namespace Go.Proofs.Ytacjonkehcamgaa
set_option linter.unusedVariables false
def Pm (x : Int) : Prop := x = 1 ∨ x = -1
theorem Pm.neg {x y : Int} (h : Pm x) (e : y = -x) : Pm y := by
  unfold Pm at *
  omega
/-- Both accounts are unimodular. -/
def Unm (R C : Nat) (s : SS) : Prop := Pm (Dt R s.g) ∧ Pm (Dt C s.h)
theorem Dt_opA {R i j : Nat} {t : Int} {g : Fn2} (hk : OKF R R (opA g i j t)) (hi : i < R) (hj : j < R) (hij : i ≠ j) : Dt R (opA g i j t) = Dt R g :=
  (Dt_alt R).add hi hj hij (fun y hy => opA_val hk hi hy) (fun x y _ _ hne => opA_other hne)
theorem Dt_opM {R i : Nat} {g : Fn2} (h : OKF R R g) (hi : i < R) : Dt R (opM g i) = -Dt R g := by
  have := (Dt_alt R).scale (i := i) (t := -1) (f := g) (g := opM g i) hi (fun y hy => by rw [opM_at (h i y hi hy)]; omega) (fun x y _ _ hne => by unfold opM; rw [if_neg hne])
  rw [this]; omega
theorem Unm.stays (R C t0 : Nat) : Stays R C t0 (Unm R C) where
  radd := fun s i j t hi hj _ _ hij hg hk hP => by
    have kg : OKF R R (opA s.g i j t) := hk.g
    refine ⟨?_, hP.2⟩
    show Pm (Dt R (opA s.g i j t))
    rw [Dt_opA kg hi hj hij]
    exact hP.1
  rswap := fun s i j hi hj _ _ hij hg hP => ⟨hP.1.neg ((Dt_alt R).swap hi hj hij s.g), hP.2⟩
  rneg := fun s i hi _ hg hP => ⟨hP.1.neg (Dt_opM hg.ok.g hi), hP.2⟩
  cadd := fun s i j t hi hj _ _ hij hg hk hP => by
    have kh : OKF C C (opA (tp s.h) i j t) := tp_ok hk.h
    refine ⟨hP.1, ?_⟩
    have e : Dt C (tp (opA (tp s.h) i j t)) = Dt C s.h :=
      (Dt_altC C).add (f := tp s.h) (g := opA (tp s.h) i j t) hi hj hij (fun y hy => opA_val kh hi hy) (fun x y _ _ hne => opA_other hne)
    show Pm (Dt C (tp (opA (tp s.h) i j t)))
    rw [e]
    exact hP.2
  cswap := fun s i j hi hj _ _ hij hg hP => ⟨hP.1, hP.2.neg ((Dt_altC C).swap hi hj hij (tp s.h))⟩
theorem sfX_unm {R C : Nat} {xs : List Int} {s : SS} (h : sfX R C xs = some s) : Unm R C s :=
  Stays.all (Unm.stays R C) h ⟨.inl (Dt_id R), .inl (Dt_id C)⟩
end Go.Proofs.Ytacjonkehcamgaa

/-
  DERIVED. What stays under the operations of the Hermite form: u m = h, and u is unimodular. No program in sight.
-/
namespace Go.Proofs.Ytacjonkehcamgaa
set_option linter.unusedVariables false
/-- A property that stays under the operations on rows. -/
structure StaysH (R C : Nat) (P : HS → Prop) : Prop where
  add : ∀ (s : HS) (i j : Nat) (t : Int), i < R → j < R → i ≠ j → GD R C s → (s.add i j t).OK R C → P s → P (s.add i j t)
  swap : ∀ (s : HS) (i j : Nat), i < R → j < R → i ≠ j → GD R C s → P s → P (s.swap i j)
  neg : ∀ (s : HS) (i : Nat), i < R → GD R C s → P s → P (s.neg i)
section
variable {R C : Nat} {P : HS → Prop}
theorem StaysH.sw (H : StaysH R C P) {j p t : Nat} {s : HS} (h : GD R C s) (hP : P s) (hp : p < R) : ∀ n, t + n ≤ R → (swS j p t s n).OK R C → P (swS j p t s n)
  | 0, _, _ => hP
  | n + 1, hn, hk => by
    have hk' := swS_back h.nb hk
    have ih := H.sw h hP hp n (by omega) hk'
    rw [swS_succ] at hk ⊢
    split
    · rename_i hc
      rw [if_pos hc] at hk
      exact H.add _ (t + n) p _ (by omega) hp hc.1 ⟨hk', swS_nb h.nb n⟩ hk ih
    · exact ih
theorem StaysH.ab (H : StaysH R C P) {j t : Nat} {s : HS} (h : GD R C s) (hP : P s) (ht : t < R) : ∀ n, n ≤ t → (abS j t s n).OK R C → P (abS j t s n)
  | 0, _, _ => hP
  | n + 1, hn, hk => by
    have hk' := abS_back h.nb hk
    have ih := H.ab h hP ht n (by omega) hk'
    rw [abS_succ] at hk ⊢
    exact H.add _ n t _ (by omega) ht (by omega) ⟨hk', abS_nb h.nb n⟩ hk ih
theorem StaysH.in_ (H : StaysH R C P) {j t : Nat} (hj : j < C) (ht : t < R) : ∀ (k : Nat) (s : HS) (p : Nat), hmMs R j t s p ≤ k → GD R C s → P s → t ≤ p → p < R → s.f p j ≠ 0 → ∀ s' q, hmIn R C j t s p = some (s', q) → P s' ∧ GD R C s' ∧ t ≤ q ∧ q < R ∧ s'.f q j ≠ 0 := by
  intro k
  induction k with
  | zero =>
    intro s p hk hg hP h1 h2 h3 s' q he
    rcases ho : oth R s.f j t p with _ | _
    · rw [hmIn_done ho] at he
      cases he
      exact ⟨hP, hg, h1, h2, h3⟩
    · unfold hmMs at hk
      rw [if_pos ho] at hk
      omega
  | succ k ih =>
    intro s p hk hg hP h1 h2 h3 s' q he
    rcases ho : oth R s.f j t p with _ | _
    · rw [hmIn_done ho] at he
      cases he
      exact ⟨hP, hg, h1, h2, h3⟩
    · rcases hok : (swS j p t s (R - t)).ok R C with _ | _
      · rw [hmIn_bad ho hok] at he; cases he
      · have hk' := (HS.ok_iff (swS_nb hg.nb _)).1 hok
        rw [hmIn_next hg.nb hj h2 h1 h3 ho hok] at he
        have hlt := hmMs_lt hg.nb hj h2 h1 h3 ho hk'
        have hP' := H.sw (j := j) (t := t) hg hP h2 (R - t) (by omega) hk'
        have hpp := swS_p (j := j) (p := p) (t := t) (s := s) j (R - t)
        have hg' : GD R C (swS j p t s (R - t)) := ⟨hk', swS_nb hg.nb _⟩
        generalize swS j p t s (R - t) = s2 at *
        rcases lst_cases R s2.f j t (Nat.le_of_lt ht) with ⟨e, hz⟩ | ⟨p2, e, k1, k2, k3⟩
        · exact absurd (hz p h1 h2) (by rw [hpp]; exact h3)
        · rw [e, Int.toNat_natCast] at he hlt
          exact ih s2 p2 (by omega) hg' hP' k1 k2 k3 s' q he
theorem StaysH.fin (H : StaysH R C P) {j t p : Nat} {s s' : HS} (hg : GD R C s) (hP : P s) (hp : p < R) (ht : t < R) (he : hmFin R C j t p s = some s') : P s' ∧ GD R C s' := by
  have g1 := hg.s1 (t := t) hp ht
  have p1 : P (hmS1 t p s) := by
    unfold hmS1
    split
    · exact hP
    · rename_i hne; exact H.swap s p t hp ht hne hg hP
  have g2 := g1.s2 (j := j) ht
  have p2 : P (hmS2 j t (hmS1 t p s)) := by
    unfold hmS2
    split
    · exact H.neg _ t ht g1 p1
    · exact p1
  unfold hmFin at he
  split at he
  · rename_i hok
    cases he
    have hk := (HS.ok_iff (abS_nb g2.nb t)).1 hok
    exact ⟨H.ab g2 p2 ht t (Nat.le_refl _) hk, ⟨hk, abS_nb g2.nb t⟩⟩
  · cases he
theorem StaysH.out (H : StaysH R C P) : ∀ (m j t : Nat) (s s' : HS) (q : Nat), j + m ≤ C → t ≤ R → GD R C s → P s → hmOut R C m j t s = some (s', q) → P s' ∧ GD R C s'
  | 0, j, t, s, s', q, _, _, hg, hP, he => by cases he; exact ⟨hP, hg⟩
  | m + 1, j, t, s, s', q, hj, ht, hg, hP, he => by
    by_cases htR : t < R
    · rcases lst_cases R s.f j t ht with ⟨e, hz⟩ | ⟨p, e, h1, h2, h3⟩
      · rw [hmOut_skip htR (by omega)] at he
        exact H.out m (j + 1) t s s' q (by omega) ht hg hP he
      · rw [hmOut_go htR (by omega), e, Int.toNat_natCast] at he
        unfold hmGo at he
        rcases hi : hmIn R C j t s p with _ | ⟨s2, p2⟩
        · rw [hi] at he; cases he
        · rw [hi] at he
          obtain ⟨a1, a2, a3, a4, a5⟩ := H.in_ (by omega) htR _ s p (Nat.le_refl _) hg hP h1 h2 h3 s2 p2 hi
          rcases hf : hmFin R C j t p2 s2 with _ | s3
          · simp only [Option.bind_some] at he
            rw [hf] at he; cases he
          · simp only [Option.bind_some] at he
            rw [hf] at he
            obtain ⟨b1, b2⟩ := H.fin a2 a1 a4 htR hf
            exact H.out m (j + 1) (t + 1) s3 s' q (by omega) (by omega) b2 b1 he
    · rw [hmOut_full htR] at he
      cases he
      exact ⟨hP, hg⟩
end
/-- h = u m; u is unimodular, and takes only zeros to zeros. -/
def UMH (R C : Nat) (m : Fn2) (s : HS) : Prop := EqM R C (mm R s.g m) s.f ∧ INJ R s.g ∧ Pm (Dt R s.g)
theorem UMH.stays (R C : Nat) (m : Fn2) : StaysH R C (UMH R C m) where
  add := fun s i j t hi hj hij hg hk hP => by
    have kg : OKF R R (opA s.g i j t) := hk.g
    have kf : OKF R C (opA s.f i j t) := hk.f
    have e1 : ∀ y, y < R → opA s.g i j t i y = s.g i y + s.g j y * t := fun y hy => opA_val kg hi hy
    refine ⟨fun x y hx hy => ?_, hP.2.1.add hi hj hij e1 (fun x y _ _ hne => opA_other hne), ?_⟩
    · show mm R (opA s.g i j t) m x y = opA s.f i j t x y
      by_cases hxi : x = i
      · subst hxi
        rw [opA_val kf hx hy, ← hP.1 x y hx hy, ← hP.1 j y hj hy]
        unfold mm
        rw [← sumTo_mul, ← sumTo_add]
        exact sumTo_congr R fun k hk2 => by rw [e1 k hk2]; grind
      · rw [opA_other hxi, ← hP.1 x y hx hy]
        exact mm_left fun l hl => opA_other hxi
    · show Pm (Dt R (opA s.g i j t))
      rw [Dt_opA kg hi hj hij]
      exact hP.2.2
  swap := fun s i j hi hj hij hg hP => by
    refine ⟨fun x y hx hy => ?_, hP.2.1.swap hi hj, hP.2.2.neg ((Dt_alt R).swap hi hj hij s.g)⟩
    show mm R (swF s.g i j) m x y = swF s.f i j x y
    have key : ∀ z, z < R → (∀ k, swF s.g i j x k = s.g z k) → (swF s.f i j x y = s.f z y) → mm R (swF s.g i j) m x y = swF s.f i j x y := fun z hz h1 h2 => by
      rw [h2, ← hP.1 z y hz hy]
      unfold mm
      exact sumTo_congr R fun l _ => by rw [h1 l]
    by_cases h1 : x = i
    · exact key j hj (fun k => by unfold swF; rw [if_pos h1]) (by unfold swF; rw [if_pos h1])
    · by_cases h2 : x = j
      · exact key i hi (fun k => by unfold swF; rw [if_neg h1, if_pos h2]) (by unfold swF; rw [if_neg h1, if_pos h2])
      · exact key x hx (fun k => by unfold swF; rw [if_neg h1, if_neg h2]) (by unfold swF; rw [if_neg h1, if_neg h2])
  neg := fun s i hi hg hP => by
    have e1 : ∀ y, y < R → opM s.g i i y = -s.g i y := fun y hy => opM_at (hg.ok.g i y hi hy)
    have o1 : ∀ (f : Fn2) x y, x ≠ i → opM f i x y = f x y := fun f x y hne => by unfold opM; rw [if_neg hne]
    refine ⟨fun x y hx hy => ?_, hP.2.1.neg e1 (fun x y _ _ hne => o1 _ _ _ hne), hP.2.2.neg (Dt_opM hg.ok.g hi)⟩
    show mm R (opM s.g i) m x y = opM s.f i x y
    by_cases hxi : x = i
    · subst hxi
      rw [opM_at (hg.ok.f x y hx hy), ← hP.1 x y hx hy]
      unfold mm
      rw [← sumTo_neg]
      exact sumTo_congr R fun k hk2 => by rw [e1 k hk2, Int.neg_mul]
    · rw [o1 _ _ _ hxi, ← hP.1 x y hx hy]
      exact mm_left fun l hl => o1 _ _ _ hxi
theorem UMH.start (R C : Nat) (m : Fn2) : UMH R C m ⟨m, idF⟩ := ⟨fun i j hi hj => mv_id (fun l => m l j) hi, INJ.id R, .inl (Dt_id R)⟩
end Go.Proofs.Ytacjonkehcamgaa

/-
  DERIVED. The Hermite form has its shape; two of one lattice are equal; that of a Hermite form is itself. No program in sight.
-/
namespace Go.Proofs.Ytacjonkehcamgaa
set_option linter.unusedVariables false
/-- Hermite form with the pivots p 0 .. p (r - 1), as far as C columns. -/
structure HF (R C r : Nat) (p : Nat → Nat) (f : Fn2) : Prop where
  le : r ≤ R
  lt : ∀ i, i < r → p i < C
  mono : ∀ i k, i < k → k < r → p i < p k
  left : ∀ i y, i < r → y < p i → f i y = 0
  pos : ∀ i, i < r → 0 < f i (p i)
  res : ∀ k i, k < i → i < r → 0 ≤ f k (p i) ∧ f k (p i) < f i (p i)
  zero : ∀ i y, r ≤ i → i < R → y < C → f i y = 0
theorem mul_small {c x y : Int} (h : (c * x).natAbs < x.natAbs) (e : y = c * x) : c = 0 := by
  rw [Int.natAbs_mul] at h
  by_cases hc : c = 0
  · exact hc
  · have h1 : 1 ≤ c.natAbs := by omega
    have := Nat.mul_le_mul_right x.natAbs h1
    omega
section
variable {R C r s : Nat} {p q : Nat → Nat} {f g : Fn2}
theorem HF.congr (H : HF R C r p f) (e : EqM R C g f) : HF R C r p g where
  le := H.le
  lt := H.lt
  mono := H.mono
  left := fun i y hi hy => by rw [e i y (Nat.lt_of_lt_of_le hi H.le) (Nat.lt_trans hy (H.lt i hi))]; exact H.left i y hi hy
  pos := fun i hi => by rw [e i (p i) (Nat.lt_of_lt_of_le hi H.le) (H.lt i hi)]; exact H.pos i hi
  res := fun k i hk hi => by rw [e i (p i) (Nat.lt_of_lt_of_le hi H.le) (H.lt i hi), e k (p i) (Nat.lt_of_lt_of_le (Nat.lt_trans hk hi) H.le) (H.lt i hi)]; exact H.res k i hk hi
  zero := fun i y h1 h2 h3 => by rw [e i y h2 h3]; exact H.zero i y h1 h2 h3
/-- The value at pivot i of a sum of rows, the coefficients before it zeros. -/
theorem HF.at_ (H : HF R C r p f) {c v : Nat → Int} (hv : ∀ y, y < C → v y = sumTo (fun k => c k * f k y) R) {i : Nat} (hi : i < r) (h0 : ∀ k, k < i → c k = 0) : v (p i) = c i * f i (p i) := by
  rw [hv _ (H.lt i hi)]
  refine sumTo_one R (Nat.lt_of_lt_of_le hi H.le) fun k hk hne => ?_
  rcases Nat.lt_or_ge k i with h | h
  · rw [h0 k h, Int.zero_mul]
  · rcases Nat.lt_or_ge k r with hr | hr
    · rw [H.left k (p i) hr (H.mono i k (by omega) hr), Int.mul_zero]
    · rw [H.zero k (p i) hr hk (H.lt i hi), Int.mul_zero]
theorem HF.coef (H : HF R C r p f) {c v : Nat → Int} (hv : ∀ y, y < C → v y = sumTo (fun k => c k * f k y) R) : ∀ i, i ≤ r → (∀ k, k < i → (v (p k)).natAbs < (f k (p k)).natAbs) → ∀ k, k < i → c k = 0
  | 0, _, _, k, hk => absurd hk (Nat.not_lt_zero _)
  | i + 1, hi, h, k, hk => by
    have ih := H.coef hv i (by omega) (fun k hk => h k (by omega))
    rcases Nat.lt_or_ge k i with h1 | h1
    · exact ih k h1
    · obtain rfl : k = i := by omega
      have e := H.at_ hv (show k < r by omega) ih
      have := h k (by omega)
      rw [e] at this
      exact mul_small this rfl
/-- What one Hermite form says of another one's next pivot. -/
theorem HF.next (H : HF R C r p f) (K : HF R C s q g) (hf : ∀ i, i < R → Sp R C g (f i)) {i : Nat} (hi : i < r) (hs : i ≤ s) (hpq : ∀ k, k < i → p k = q k) : i < s ∧ q i ≤ p i ∧ (p i = q i → g i (q i) ∣ f i (p i)) := by
  obtain ⟨c, hc⟩ := hf i (Nat.lt_of_lt_of_le hi H.le)
  have h0 : ∀ k, k < i → c k = 0 := K.coef hc i hs fun k hk => by
    have h1 : f i (q k) = 0 := by rw [← hpq k hk]; exact H.left i _ hi (H.mono k i hk hi)
    have h2 := K.pos k (by omega)
    rw [h1]; omega
  have hp := H.pos i hi
  have key : (∀ k, i ≤ k → k < s → p i < q k) → False := fun hq => by
    have : f i (p i) = 0 := by
      rw [hc _ (H.lt i hi)]
      refine sumTo_null R fun k hk => ?_
      rcases Nat.lt_or_ge k i with h | h
      · rw [h0 k h, Int.zero_mul]
      · rcases Nat.lt_or_ge k s with h3 | h3
        · rw [K.left k _ h3 (hq k h h3), Int.mul_zero]
        · rw [K.zero k _ h3 hk (H.lt i hi), Int.mul_zero]
    omega
  have his : i < s := Nat.lt_of_not_le fun h => key fun k h1 h2 => by omega
  refine ⟨his, Nat.le_of_not_lt fun h => key fun k h1 h2 => ?_, fun e => ?_⟩
  · by_cases hk : k = i
    · rw [hk]; exact h
    · have := K.mono i k (by omega) h2; omega
  · rw [e, K.at_ hc his h0]
    exact Int.dvd_mul_left _ _
/-- Hermite forms of one lattice are equal. -/
theorem HF.uniq (H : HF R C r p f) (K : HF R C s q g) (hf : ∀ i, i < R → Sp R C g (f i)) (hg : ∀ i, i < R → Sp R C f (g i)) : EqM R C f g := by
  have hP : ∀ i, i ≤ r → i ≤ s ∧ ∀ k, k < i → p k = q k ∧ f k (p k) = g k (q k) := fun i => by
    induction i with
    | zero => exact fun _ => ⟨Nat.zero_le _, fun k hk => absurd hk (Nat.not_lt_zero _)⟩
    | succ i ih =>
      intro hi
      obtain ⟨h1, h2⟩ := ih (by omega)
      obtain ⟨a1, a2, a3⟩ := H.next K hf hi h1 (fun k hk => (h2 k hk).1)
      obtain ⟨b1, b2, b3⟩ := K.next H hg a1 (by omega) (fun k hk => (h2 k hk).1.symm)
      have e : p i = q i := by omega
      have hp := H.pos i hi
      have hq := K.pos i a1
      have hv := Int.dvd_antisymm (by omega) (by omega) (b3 e.symm) (a3 e)
      refine ⟨a1, fun k hk => ?_⟩
      by_cases hki : k = i
      · subst hki; exact ⟨e, hv⟩
      · exact h2 k (by omega)
  obtain ⟨hrs, hall⟩ := hP r (Nat.le_refl _)
  have hsr : s ≤ r := Nat.le_of_not_lt fun h => by
    have := K.next H hg h (Nat.le_refl _) (fun k hk => (hall k hk).1.symm)
    omega
  obtain rfl : r = s := by omega
  intro i y hi hy
  rcases Nat.lt_or_ge i r with hir | hir
  · obtain ⟨c, hc⟩ := hg i hi
    have hv : ∀ y, y < C → (fun y => f i y - g i y) y = sumTo (fun k => (idF i k - c k) * f k y) R := fun y hy => by
      show f i y - g i y = _
      obtain ⟨d, hd⟩ : ∃ d : Nat → Int, d = idF i := ⟨_, rfl⟩
      have e1 : f i y = sumTo (fun k => idF i k * f k y) R := by
        rw [sumTo_one (i := i) R hi (fun k hk hne => by unfold idF; rw [if_neg (fun e => hne e.symm), Int.zero_mul])]
        unfold idF; rw [if_pos rfl, Int.one_mul]
      rw [hc y hy]
      conv => lhs; lhs; rw [e1]
      rw [← sumTo_sub]
      exact sumTo_congr R fun k _ => by grind
    have h0 := H.coef hv r (Nat.le_refl _) fun k hk => by
      show (f i (p k) - g i (p k)).natAbs < _
      obtain ⟨e1, e2⟩ := hall k hk
      have hpk := H.pos k hk
      rcases Nat.lt_trichotomy k i with h | h | h
      · have a1 := H.left i (p k) hir (H.mono k i h hir)
        have a2 := K.left i (p k) hir (by rw [e1]; exact K.mono k i h hir)
        rw [a1, a2]; omega
      · subst h
        have : g k (p k) = f k (p k) := by rw [e2, e1]
        rw [this]; omega
      · have a1 := H.res i k h hk
        have a2 := K.res i k h hk
        rw [← e2, ← e1] at a2
        omega
    have := hv y hy
    rw [sumTo_null R (fun k hk => by
      rcases Nat.lt_or_ge k r with h | h
      · rw [h0 k h, Int.zero_mul]
      · rw [H.zero k y h hk hy, Int.mul_zero])] at this
    have h2 : f i y - g i y = 0 := this
    omega
  · rw [H.zero i y hir hi hy, K.zero i y hir hi hy]
end
theorem SPN.stays (R C : Nat) (m : Fn2) : StaysH R C (fun s => SPN R C m s.f) where
  add := fun s i j t hi hj hij hg hk hP => by
    have kf : OKF R C (opA s.f i j t) := hk.f
    exact hP.add hi hj hij (fun y hy => opA_val kf hi hy) (fun x y _ _ hne => opA_other hne)
  swap := fun s i j hi hj hij hg hP => hP.swap hi hj
  neg := fun s i hi hg hP => hP.neg hi (fun y hy => opM_at (hg.ok.f i y hi hy)) (fun x y _ _ hne => by show opM s.f i x y = s.f x y; unfold opM; rw [if_neg hne])
/-- In a column: the rows before t as they were, those from t on zeros left of column j. -/
def HCol (R C j t : Nat) (f0 : Fn2) (f : Fn2) : Prop := (∀ i y, i < t → y < C → f i y = f0 i y) ∧ ∀ i y, t ≤ i → i < R → y < j → f i y = 0
theorem HCol.sw {R C j t p : Nat} {f0 : Fn2} {s : HS} (h : GD R C s) (hj : j < C) (hP : HCol R C j t f0 s.f) (hp : p < R) (htp : t ≤ p) : ∀ n, t + n ≤ R → (swS j p t s n).OK R C → HCol R C j t f0 (swS j p t s n).f
  | 0, _, _ => hP
  | n + 1, hn, hk => by
    have hk' := swS_back h.nb hk
    have ih := HCol.sw h hj hP hp htp n (by omega) hk'
    rw [swS_succ] at hk ⊢
    split
    · rename_i hc
      rw [if_pos hc] at hk
      have kf : OKF R C (opA (swS j p t s n).f (t + n) p (-((swS j p t s n).f (t + n) j / (swS j p t s n).f p j))) := hk.f
      refine ⟨fun i y hi hy => ?_, fun i y h1 h2 hy => ?_⟩
      · show opA _ _ _ _ i y = _
        rw [opA_other (by omega)]
        exact ih.1 i y hi hy
      · show opA _ _ _ _ i y = _
        by_cases e : i = t + n
        · subst e
          rw [opA_val kf h2 (by omega), ih.2 _ y h1 h2 hy, ih.2 p y htp hp hy, Int.zero_mul]; rfl
        · rw [opA_other e]
          exact ih.2 i y h1 h2 hy
    · exact ih
theorem HCol.in_ {R C j t : Nat} {f0 : Fn2} (hj : j < C) (ht : t < R) : ∀ (k : Nat) (s : HS) (p : Nat), hmMs R j t s p ≤ k → GD R C s → HCol R C j t f0 s.f → t ≤ p → p < R → s.f p j ≠ 0 → ∀ s' q, hmIn R C j t s p = some (s', q) → HCol R C j t f0 s'.f ∧ GD R C s' ∧ t ≤ q ∧ q < R ∧ s'.f q j ≠ 0 ∧ oth R s'.f j t q = false := by
  intro k
  induction k with
  | zero =>
    intro s p hk hg hP h1 h2 h3 s' q he
    rcases ho : oth R s.f j t p with _ | _
    · rw [hmIn_done ho] at he
      cases he
      exact ⟨hP, hg, h1, h2, h3, ho⟩
    · unfold hmMs at hk
      rw [if_pos ho] at hk
      omega
  | succ k ih =>
    intro s p hk hg hP h1 h2 h3 s' q he
    rcases ho : oth R s.f j t p with _ | _
    · rw [hmIn_done ho] at he
      cases he
      exact ⟨hP, hg, h1, h2, h3, ho⟩
    · rcases hok : (swS j p t s (R - t)).ok R C with _ | _
      · rw [hmIn_bad ho hok] at he; cases he
      · have hk' := (HS.ok_iff (swS_nb hg.nb _)).1 hok
        rw [hmIn_next hg.nb hj h2 h1 h3 ho hok] at he
        have hlt := hmMs_lt hg.nb hj h2 h1 h3 ho hk'
        have hP' := HCol.sw (j := j) (t := t) hg hj hP h2 h1 (R - t) (by omega) hk'
        have hpp := swS_p (j := j) (p := p) (t := t) (s := s) j (R - t)
        have hg' : GD R C (swS j p t s (R - t)) := ⟨hk', swS_nb hg.nb _⟩
        generalize swS j p t s (R - t) = s2 at *
        rcases lst_cases R s2.f j t (Nat.le_of_lt ht) with ⟨e, hz⟩ | ⟨p2, e, k1, k2, k3⟩
        · exact absurd (hz p h1 h2) (by rw [hpp]; exact h3)
        · rw [e, Int.toNat_natCast] at he hlt
          exact ih s2 p2 (by omega) hg' hP' k1 k2 k3 s' q he
theorem abS_val {R C j t : Nat} {s : HS} (h : GD R C s) (htR : t < R) : ∀ n, n ≤ t → (abS j t s n).OK R C → ∀ x y, x < n → y < C → (abS j t s n).f x y = s.f x y + s.f t y * (-(s.f x j / s.f t j))
  | 0, _, _, x, _, hx, _ => absurd hx (Nat.not_lt_zero _)
  | n + 1, hn, hk, x, y, hx, hy => by
    have hk' := abS_back h.nb hk
    have ih := abS_val h htR n (by omega) hk'
    rw [abS_succ] at hk ⊢
    have kf : OKF R C (opA (abS j t s n).f n t (-((abS j t s n).f n j / (abS j t s n).f t j))) := hk.f
    show opA _ _ _ _ x y = _
    by_cases e : x = n
    · subst e
      rw [opA_val kf (by omega) hy, abS_late _ x (Nat.le_refl _), abS_late _ x (by omega), abS_late j x (Nat.le_refl _), abS_late j x (by omega)]
    · rw [opA_other e]
      exact ih x y (by omega) hy
theorem HF.fin {R C j t q : Nat} {p : Nat → Nat} {f0 : Fn2} {s s' : HS} (H : HF R j t p f0) (hg : GD R C s) (hc : HCol R C j t f0 s.f) (hj : j < C) (htR : t < R) (h1 : t ≤ q) (h2 : q < R) (h3 : s.f q j ≠ 0) (ho : oth R s.f j t q = false) (he : hmFin R C j t q s = some s') :
    HF R (j + 1) (t + 1) (fun i => if i = t then j else p i) s'.f := by
  have hz : ∀ i, t ≤ i → i < R → i ≠ q → s.f i j = 0 := fun i a1 a2 a3 => Decidable.byContradiction fun hne => by
    have : oth R s.f j t q = true := oth_iff.2 ⟨i, a1, a2, a3, hne⟩
    rw [this] at ho; cases ho
  have g1 := hg.s1 (t := t) h2 htR
  have g2 := g1.s2 (j := j) htR
  unfold hmFin at he
  -- behind the swap
  have s1a : ∀ i y, i < t → (hmS1 t q s).f i y = s.f i y := fun i y hi => by
    unfold hmS1
    split
    · rfl
    · show swF s.f q t i y = _; unfold swF; rw [if_neg (by omega), if_neg (by omega)]
  have s1t : ∀ y, (hmS1 t q s).f t y = s.f q y := fun y => hmS1_piv t q y s
  have s1z : ∀ i y, t ≤ i → i < R → y < j → (hmS1 t q s).f i y = 0 := fun i y a1 a2 a3 => by
    unfold hmS1
    split
    · exact hc.2 i y a1 a2 a3
    · show swF s.f q t i y = _
      unfold swF
      split
      · exact hc.2 t y (Nat.le_refl _) htR a3
      · split
        · exact hc.2 q y h1 h2 a3
        · exact hc.2 i y a1 a2 a3
  have s1j : ∀ i, t < i → i < R → (hmS1 t q s).f i j = 0 := fun i a1 a2 => by
    unfold hmS1
    split
    · exact hz i (by omega) a2 (by omega)
    · rename_i hne
      show swF s.f q t i j = _
      unfold swF
      split
      · exact hz t (Nat.le_refl _) htR (fun e => hne e.symm)
      · rename_i hiq
        rw [if_neg (by omega)]
        exact hz i (by omega) a2 hiq
  generalize hmS1 t q s = sa at *
  -- behind the sign
  have s2a : ∀ i y, i ≠ t → (hmS2 j t sa).f i y = sa.f i y := fun i y hi => by
    unfold hmS2
    split
    · show opM sa.f t i y = _; unfold opM; rw [if_neg hi]
    · rfl
  have s2z : ∀ y, y < j → (hmS2 j t sa).f t y = 0 := fun y hy => by
    have e := s1z t y (Nat.le_refl _) htR hy
    unfold hmS2
    split
    · show opM sa.f t t y = _; rw [opM_at (g1.ok.f t y htR (by omega)), e]; rfl
    · exact e
  have s2p : 0 < (hmS2 j t sa).f t j := by
    have e : sa.f t j ≠ 0 := by rw [s1t]; exact h3
    unfold hmS2
    split
    · show 0 < opM sa.f t t j; rw [opM_at (g1.ok.f t j htR hj)]; omega
    · omega
  generalize hmS2 j t sa = sb at *
  split at he
  · rename_i hok
    cases he
    have hk := (HS.ok_iff (abS_nb g2.nb t)).1 hok
    have hv := abS_val (j := j) g2 htR t (Nat.le_refl _) hk
    have hl : ∀ x y, t ≤ x → (abS j t sb t).f x y = sb.f x y := fun x y hx => abS_late y t hx
    generalize abS j t sb t = sc at *
    -- rows before t, left of column j
    have old : ∀ i y, i < t → y < j → sc.f i y = f0 i y := fun i y hi hy => by
      rw [hv i y hi (by omega), s2z y hy, Int.zero_mul, Int.add_zero, s2a i y (by omega), s1a i y hi, hc.1 i y hi (by omega)]
    have new : ∀ i, i < t → sc.f i j = f0 i j % sb.f t j := fun i hi => by
      rw [hv i j hi hj, s2a i j (by omega), s1a i j hi, hc.1 i j hi hj, Int.emod_def]; grind
    have hpj : sc.f t j = sb.f t j := hl t j (Nat.le_refl _)
    refine ⟨by omega, fun i hi => ?_, fun i k hik hk2 => ?_, fun i y hi hy => ?_, fun i hi => ?_, fun k i hki hi => ?_, fun i y a1 a2 a3 => ?_⟩
    · show (if i = t then j else p i) < j + 1
      split
      · omega
      · have := H.lt i (by omega); omega
    · show (if i = t then j else p i) < (if k = t then j else p k)
      rw [if_neg (show ¬ i = t by omega)]
      split
      · exact H.lt i (by omega)
      · exact H.mono i k hik (by omega)
    · have hy2 : y < (if i = t then j else p i) := hy
      by_cases e : i = t
      · subst e
        rw [if_pos rfl] at hy2
        rw [hl i y (Nat.le_refl _), s2z y hy2]
      · rw [if_neg e] at hy2
        have := H.lt i (by omega)
        rw [old i y (by omega) (by omega)]
        exact H.left i y (by omega) hy2
    · show 0 < sc.f i (if i = t then j else p i)
      by_cases e : i = t
      · subst e
        rw [if_pos rfl, hpj]; exact s2p
      · rw [if_neg e, old i _ (by omega) (H.lt i (by omega))]
        exact H.pos i (by omega)
    · show 0 ≤ sc.f k (if i = t then j else p i) ∧ sc.f k (if i = t then j else p i) < sc.f i (if i = t then j else p i)
      by_cases e : i = t
      · subst e
        rw [if_pos rfl, hpj, new k hki]
        exact ⟨Int.emod_nonneg _ (by omega), Int.emod_lt_of_pos _ s2p⟩
      · have := H.lt i (by omega)
        rw [if_neg e, old i _ (by omega) this, old k _ (by omega) this]
        exact H.res k i hki (by omega)
    · rw [hl i y (by omega), s2a i y (by omega)]
      by_cases e : y = j
      · subst e; exact s1j i (by omega) a2
      · exact s1z i y (by omega) a2 (by omega)
  · cases he
theorem HF.out {R C : Nat} : ∀ (m j t : Nat) (p : Nat → Nat) (s s' : HS) (q : Nat), j + m = C → GD R C s → HF R j t p s.f → hmOut R C m j t s = some (s', q) → ∃ p', HF R C q p' s'.f
  | 0, j, t, p, s, s', q, hj, hg, H, he => by cases he; obtain rfl : j = C := hj; exact ⟨p, H⟩
  | m + 1, j, t, p, s, s', q, hj, hg, H, he => by
    by_cases htR : t < R
    · rcases lst_cases R s.f j t (Nat.le_of_lt htR) with ⟨e, hz⟩ | ⟨p2, e, h1, h2, h3⟩
      · rw [hmOut_skip htR (by omega)] at he
        refine HF.out m (j + 1) t p s s' q (by omega) hg ⟨H.le, fun i hi => by have := H.lt i hi; omega, H.mono, H.left, H.pos, H.res, fun i y a1 a2 a3 => ?_⟩ he
        by_cases e : y = j
        · subst e; exact hz i a1 a2
        · exact H.zero i y a1 a2 (by omega)
      · rw [hmOut_go htR (by omega), e, Int.toNat_natCast] at he
        unfold hmGo at he
        rcases hi : hmIn R C j t s p2 with _ | ⟨s2, p3⟩
        · rw [hi] at he; cases he
        · rw [hi] at he
          obtain ⟨a1, a2, a3, a4, a5, a6⟩ := HCol.in_ (f0 := s.f) (by omega) htR _ s p2 (Nat.le_refl _) hg ⟨fun i y _ _ => rfl, fun i y b1 b2 b3 => H.zero i y b1 b2 b3⟩ h1 h2 h3 s2 p3 hi
          rcases hf : hmFin R C j t p3 s2 with _ | s3
          · simp only [Option.bind_some] at he
            rw [hf] at he; cases he
          · simp only [Option.bind_some] at he
            rw [hf] at he
            have H3 := H.fin a2 a1 (by omega) htR a3 a4 a5 a6 hf
            have g3 := (StaysH.fin (SPN.stays R C s2.f) a2 (SPN.refl R C s2.f) a4 htR hf).2
            exact HF.out m (j + 1) (t + 1) _ s3 s' q (by omega) g3 H3 he
    · rw [hmOut_full htR] at he
      cases he
      refine ⟨p, H.le, fun i hi => by have := H.lt i hi; omega, H.mono, H.left, H.pos, H.res, fun i y a1 a2 a3 => by omega⟩
/-- Nothing added: nothing changed. -/
theorem opA_zeroE {R C i j : Nat} {f : Fn2} (h : OKF R C f) (hi : i < R) (hj : j < R) : OKF R C (opA f i j 0) ∧ EqM R C (opA f i j 0) f := by
  have hr : rowOk f i j 0 C := fun y hy => by
    rw [Int.mul_zero, Int.add_zero]
    exact ⟨Num.zero, h i y hi hy⟩
  refine ⟨(rowOk_iff h hi hj Num.zero).1 hr, fun x y hx hy => ?_⟩
  by_cases e : x = i
  · subst e
    rw [rowOk_val h hi hj Num.zero hr hy, Int.mul_zero, Int.add_zero]
  · exact opA_other e
theorem abS_zeroE {R C j t : Nat} {s : HS} (hg : GD R C s) (htR : t < R) (hq : ∀ x, x < t → s.f x j / s.f t j = 0) : ∀ n, n ≤ t → (abS j t s n).OK R C ∧ EqM R C (abS j t s n).f s.f
  | 0, _ => ⟨hg.ok, fun _ _ _ _ => rfl⟩
  | n + 1, hn => by
    obtain ⟨h1, h2⟩ := abS_zeroE hg htR hq n (by omega)
    rw [ab_add (by omega), hq n (by omega)]
    obtain ⟨a1, a2⟩ := opA_zeroE h1.f (i := n) (j := t) (by omega) htR
    obtain ⟨b1, b2⟩ := opA_zeroE h1.g (i := n) (j := t) (by omega) htR
    exact ⟨⟨a1, b1⟩, fun x y hx hy => (a2 x y hx hy).trans (h2 x y hx hy)⟩
/-- The Hermite form of a Hermite form. -/
theorem HF.again {R C r : Nat} {p : Nat → Nat} : ∀ (m j t : Nat) (s : HS), j + m = C → GD R C s → HF R C r p s.f → t ≤ r → (∀ i, i < t → p i < j) → (∀ i, t ≤ i → i < r → j ≤ p i) → ∃ s', hmOut R C m j t s = some (s', r) ∧ EqM R C s'.f s.f
  | 0, j, t, s, hj, hg, H, ht, h1, h2 => by
    have : t = r := by
      by_cases h : t < r
      · have a := h2 t (Nat.le_refl _) h; have b := H.lt t h; omega
      · omega
    subst this
    exact ⟨s, rfl, fun _ _ _ _ => rfl⟩
  | m + 1, j, t, s, hj, hg, H, ht, h1, h2 => by
    by_cases htR : t < R
    · by_cases hp : t < r ∧ p t = j
      · obtain ⟨htr, hpj⟩ := hp
        have hpos := H.pos t htr
        rw [hpj] at hpos
        have hz : ∀ i, t < i → i < R → s.f i j = 0 := fun i a1 a2 => by
          rcases Nat.lt_or_ge i r with h | h
          · exact H.left i j h (by have := H.mono t i a1 h; omega)
          · exact H.zero i j h a2 (by omega)
        rcases lst_cases R s.f j t (Nat.le_of_lt htR) with ⟨e, hz2⟩ | ⟨p2, e, k1, k2, k3⟩
        · have := hz2 t (Nat.le_refl _) htR; omega
        · have hp2 : p2 = t := Decidable.byContradiction fun hne => k3 (hz p2 (by omega) k2)
          subst hp2
          have ho : oth R s.f j p2 p2 = false := oth_no fun i a1 a2 a3 => a3.2 (hz i (by omega) a2)
          have e1 : hmS1 p2 p2 s = s := if_pos rfl
          have e2 : hmS2 j p2 s = s := if_neg (by omega)
          have hq : ∀ x, x < p2 → s.f x j / s.f p2 j = 0 := fun x hx => by
            have := H.res x p2 hx htr
            rw [hpj] at this
            exact Int.ediv_eq_zero_of_lt this.1 this.2
          obtain ⟨a1, a2⟩ := abS_zeroE hg htR hq p2 (Nat.le_refl _)
          have hf : hmFin R C j p2 p2 s = some (abS j p2 s p2) := by
            have := ab_yes (R := R) (C := C) (j := j) (t := p2) (p := p2) (s := s) (by rw [e1, e2]; exact hg) (by rw [e1, e2]; exact a1)
            rw [e1, e2] at this; exact this
          have hg2 : GD R C (abS j p2 s p2) := ⟨a1, abS_nb hg.nb _⟩
          have H2 : HF R C r p (abS j p2 s p2).f := H.congr a2
          rw [hmOut_go htR (by omega), e, Int.toNat_natCast, hmIn_done ho, hmGo_next hf]
          obtain ⟨s', b1, b2⟩ := HF.again m (j + 1) (p2 + 1) _ (by omega) hg2 H2 (by omega) (fun i hi => by
            by_cases e : i = p2
            · subst e; omega
            · have := h1 i (by omega); omega) (fun i hi hir => by have := H.mono p2 i (by omega) hir; omega)
          exact ⟨s', b1, fun x y hx hy => (b2 x y hx hy).trans (a2 x y hx hy)⟩
      · have hlt : ∀ i, t ≤ i → i < r → j < p i := fun i a1 a2 => by
          have b1 := h2 t (Nat.le_refl _) (by omega)
          have b2 : p t ≠ j := fun e => hp ⟨by omega, e⟩
          by_cases e : i = t
          · subst e; omega
          · have := H.mono t i (by omega) a2; omega
        rcases lst_cases R s.f j t (Nat.le_of_lt htR) with ⟨e, _⟩ | ⟨p2, e, k1, k2, k3⟩
        · rw [hmOut_skip htR (by omega)]
          exact HF.again m (j + 1) t s (by omega) hg H ht (fun i hi => by have := h1 i hi; omega) hlt
        · refine absurd ?_ k3
          rcases Nat.lt_or_ge p2 r with h | h
          · exact H.left p2 j h (hlt p2 k1 h)
          · exact H.zero p2 j h k2 (by omega)
    · rw [hmOut_full htR]
      have := H.le
      obtain rfl : t = r := by omega
      exact ⟨s, rfl, fun _ _ _ _ => rfl⟩
theorem tb_num {R C : Nat} {f : Fn2} (h : OKF R C f) : (tb R C f).all isNum = true := by
  rw [List.all_eq_true]
  exact tb_mem fun i j hi hj => (h i j hi hj).isN
theorem isMat_tb {R C : Nat} {f : Fn2} (hR : R ≤ 24) (hC : C ≤ 24) (h : OKF R C f) : isMat R C (tb R C f) = true :=
  isMat_iff.2 ⟨by omega, by omega, by omega, by omega, by rw [tb_len]; simp, tb_num h⟩
theorem rowL_tb {R C i : Nat} {f : Fn2} (hi : i < R) : (rowL (tb R C f) C i).length = C := rowL_len (by rw [tb_len]; have := Nat.mul_le_mul_right C (show i + 1 ≤ R by omega); rw [Nat.add_mul, Nat.one_mul] at this; exact this)
/-- The shape is what IsHermite asks. -/
theorem HF.herm {R C r : Nat} {p : Nat → Nat} {f : Fn2} (H : HF R C r p f) (hR : R ≤ 24) (hC : C ≤ 24) (hf : OKF R C f) : hermB R C (tb R C f) = true := by
  have hpv : ∀ i, i < r → pv (tb R C f) C i = p i := fun i hi => by
    have hiR : i < R := Nat.lt_of_lt_of_le hi H.le
    have hpC := H.lt i hi
    refine fcN_eq (by rw [rowL_tb hiR]; omega) (fun j hj => ?_) (fun _ => ?_)
    · rw [rowL_getD (by omega), cel_tb hiR (by omega)]
      exact H.left i j hi hj
    · rw [rowL_getD hpC, cel_tb hiR hpC]
      have := H.pos i hi; omega
  have hpz : ∀ i, r ≤ i → i < R → pv (tb R C f) C i = C := fun i h1 h2 => by
    refine fcN_eq (by rw [rowL_tb h2]; omega) (fun j hj => ?_) (fun h => by rw [rowL_tb h2] at h; omega)
    rw [rowL_getD hj, cel_tb h2 hj]
    exact H.zero i j h1 h2 hj
  unfold hermB
  rw [isMat_tb hR hC hf, Bool.true_and, List.all_eq_true]
  intro i hi
  have hi' : i < R := by simpa using hi
  simp only [Int.toNat_natCast]
  unfold hrow
  rcases Nat.lt_or_ge i r with hir | hir
  · have hpC := H.lt i hir
    rw [hpv i hir, if_pos hpC]
    have hlast : lastP (tb R C f) C i < p i := by
      cases i with
      | zero => rw [lastP_zero]; omega
      | succ i =>
        rw [lastP_succ, hpv i (by omega)]
        have := H.mono i (i + 1) (by omega) hir; omega
    have hpos := H.pos i hir
    simp only [Bool.and_eq_true, decide_eq_true_eq]
    refine ⟨⟨hlast, ?_⟩, ?_⟩
    · rw [cel_tb hi' hpC]; omega
    · rw [List.all_eq_true]
      intro k hk
      have hk' := List.mem_range.1 hk
      unfold hcA
      rw [hpv i hir, cel_tb hi' hpC, cel_tb (by omega) hpC, Bool.and_eq_true, decide_eq_true_eq, decide_eq_true_eq]
      exact H.res k i hk' hir
  · rw [hpz i hir hi', if_neg (Nat.lt_irrefl _)]
theorem hmRun_he {R C t : Nat} {f : Fn2} {s : HS} (hg : GD R C ⟨f, idF⟩) (h : hmRun R C f = some (s, t)) : (∃ p, HF R C t p s.f) ∧ SPN R C f s.f ∧ UMH R C f s ∧ GD R C s := by
  unfold hmRun at h
  obtain ⟨a1, a2⟩ := (SPN.stays R C f).out C 0 0 _ s t (by omega) (by omega) hg (SPN.refl R C f) h
  obtain ⟨b1, -⟩ := (UMH.stays R C f).out C 0 0 _ s t (by omega) (by omega) hg (UMH.start R C f) h
  exact ⟨HF.out C 0 0 (fun _ => 0) _ s t (by omega) hg ⟨by omega, fun i hi => absurd hi (Nat.not_lt_zero _), fun i k _ hk => absurd hk (Nat.not_lt_zero _), fun i y hi => absurd hi (Nat.not_lt_zero _), fun i hi => absurd hi (Nat.not_lt_zero _), fun k i _ hi => absurd hi (Nat.not_lt_zero _), fun i y _ _ hy => absurd hy (Nat.not_lt_zero _)⟩ h, a1, b1, a2⟩
theorem hmRun_uniq {R C t t' : Nat} {f f' : Fn2} {s s' : HS} (hg : GD R C ⟨f, idF⟩) (hg' : GD R C ⟨f', idF⟩) (h : hmRun R C f = some (s, t)) (h' : hmRun R C f' = some (s', t')) (hs : SPN R C f f') : EqM R C s'.f s.f := by
  obtain ⟨⟨p, H⟩, a, -, -⟩ := hmRun_he hg h
  obtain ⟨⟨p', H'⟩, a', -, -⟩ := hmRun_he hg' h'
  have e := (a.symm.trans hs).trans a'
  exact H'.uniq H e.1 e.2
theorem hmRun_again {R C t : Nat} {f : Fn2} {s : HS} (hg : GD R C ⟨f, idF⟩) (h : hmRun R C f = some (s, t)) {g : Fn2} (e : EqM R C g s.f) (hg' : GD R C ⟨g, idF⟩) : ∃ s', hmRun R C g = some (s', t) ∧ EqM R C s'.f s.f := by
  obtain ⟨⟨p, H⟩, -, -, -⟩ := hmRun_he hg h
  obtain ⟨s', a, b⟩ := HF.again C 0 0 (⟨g, idF⟩ : HS) (by omega) hg' (H.congr e) (Nat.zero_le _) (fun i hi => absurd hi (Nat.not_lt_zero _)) (fun i _ _ => Nat.zero_le _)
  exact ⟨s', a, fun x y hx hy => (b x y hx hy).trans (e x y hx hy)⟩
end Go.Proofs.Ytacjonkehcamgaa

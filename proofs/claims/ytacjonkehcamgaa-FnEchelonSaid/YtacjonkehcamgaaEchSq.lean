/-
  DERIVED. IsEchelon of the reference.
-/
import Derived.Test.YtacjonkehcamgaaZS
import Derived.Test.YtacjonkehcamgaaPlainI
import Derived.Test.YtacjonkehcamgaaMatOps
namespace Go.Proofs.Ytacjonkehcamgaa
open Go.RowKit
set_option linter.unusedVariables false
set_option linter.unusedSimpArgs false
set_option maxRecDepth 100000 in
set_option maxHeartbeats 8000000 in
theorem spec_IsEchelon (r c : Int) (A : Option Addr) (n cap : Nat) (xs : List Int) (w : World) {B : Nat} (h : RI w B A n xs) (hB : B ≤ w.heap.size) (hn : n ≤ 1048576) :
    Calls Try.prog 81 #[.agg #[.int .i64 r, .int .i64 c, .slice A n cap]] w (BV (.bool (echB r c xs)) w) := by
  have hlen := h.len
  have H2 := Lib.hid (h.more hB)
  clear h
  unfold echB
  rcases hm : isMat r c xs with _ | _
  · rw [Bool.false_and]
    have HM := Lib.hid hm
    clear hm
    by_cases hr0 : 0 < r
    · go_enter Try.func81, Try.ntmps81
      go_wp2_with fail
      refine wp_loop_rounds 1 ?_
      rw [rounds_succ]
      go_wp2_with (first | (go_at_call 107; refine (spec_IsMatrix r c A n cap xs _ (C := w.heap.size) (Kr H2.out) Ks hn).mono ?_; rw [HM.out]; rintro e w1 ⟨rfl, hb⟩; have hz := hb.size; (try simp at hz); have kk := bkeep (w := w) hb Ks; obtain ⟨kc, kf⟩ := kk; (try (have kk := bkeepb (w.heap.size) hb Ks; obtain ⟨kc0, kf0, kl0⟩ := kk)); (try (have kk := bkeepb (w.heap.size + 1) hb Ks; obtain ⟨kc1, kf1, kl1⟩ := kk)); (try (have kk := bkeepb (w.heap.size + 1 + 1) hb Ks; obtain ⟨kc2, kf2, kl2⟩ := kk)); (try (have kk := bkeepb (w.heap.size + 1 + 1 + 1) hb Ks; obtain ⟨kc3, kf3, kl3⟩ := kk)); (try (have kk := bkeepb (wr.heap.size) hb Ks; obtain ⟨kr0, ks0, kt0⟩ := kk)); (try (have kk := bkeepb (wr.heap.size + 1) hb Ks; obtain ⟨kr1, ks1, kt1⟩ := kk)); (try (have kk := bkeepb (wr.heap.size + 1 + 1) hb Ks; obtain ⟨kr2, ks2, kt2⟩ := kk))))
      go_ret
      exact BV.mk rfl Kw
    · go_enter Try.func81, Try.ntmps81
      go_wp2_with fail
      refine wp_loop_rounds 1 ?_
      rw [rounds_succ]
      go_wp2_with (first | (go_at_call 107; refine (spec_IsMatrix r c A n cap xs _ (C := w.heap.size) (Kr H2.out) Ks hn).mono ?_; rw [HM.out]; rintro e w1 ⟨rfl, hb⟩; have hz := hb.size; (try simp at hz); have kk := bkeep (w := w) hb Ks; obtain ⟨kc, kf⟩ := kk; (try (have kk := bkeepb (w.heap.size) hb Ks; obtain ⟨kc0, kf0, kl0⟩ := kk)); (try (have kk := bkeepb (w.heap.size + 1) hb Ks; obtain ⟨kc1, kf1, kl1⟩ := kk)); (try (have kk := bkeepb (w.heap.size + 1 + 1) hb Ks; obtain ⟨kc2, kf2, kl2⟩ := kk)); (try (have kk := bkeepb (w.heap.size + 1 + 1 + 1) hb Ks; obtain ⟨kc3, kf3, kl3⟩ := kk)); (try (have kk := bkeepb (wr.heap.size) hb Ks; obtain ⟨kr0, ks0, kt0⟩ := kk)); (try (have kk := bkeepb (wr.heap.size + 1) hb Ks; obtain ⟨kr1, ks1, kt1⟩ := kk)); (try (have kk := bkeepb (wr.heap.size + 1 + 1) hb Ks; obtain ⟨kr2, ks2, kt2⟩ := kk))))
      go_ret
      exact BV.mk rfl Kw
  · rw [Bool.true_and]
    have M := isMat_iff.1 hm
    have HM := Lib.hid hm
    obtain ⟨R, rfl⟩ := nat_of M.r0
    obtain ⟨C, rfl⟩ := nat_of M.c0
    have hR := M.r1
    have hC := M.c1
    have hl1 : (n : Int) ≤ (R : Int) * (C : Int) ∧ (R : Int) * (C : Int) ≤ n := by have := M.len; omega
    have HL : Hid (xs.length = R * C) := Lib.hid (by have := M.len; rw [← Int.natCast_mul] at this; omega)
    have HNL : Hid (n = R * C) := Lib.hid (by rw [← hlen]; exact HL.out)
    have hcb := Lib.hid (fun i j => M.cel_bd i j)
    clear hm M hlen
    simp only [Int.toNat_natCast]
    go_enter Try.func81, Try.ntmps81
    go_wp2_with fail
    have hO0 : BM (w.alloc (Obj.cells #[Value.int .i64 R, Value.int .i64 C, Value.slice A n cap] 26)) (w.heap.size) R C A n cap := Ka
    go_loopw [3, 4] (fun u v wr => ∃ i : Nat, v = .int .i64 i ∧ u = .int .i64 (lastP xs C i) ∧ i ≤ R ∧ (List.range i).all (erow xs R C) = true ∧ BM wr w.heap.size R C A n cap ∧ Below w.heap.size w wr) (fun _ v _ => R - (intOf v).toNat)
    case atStart => exact ⟨0, rfl, by rw [lastP_zero], Nat.zero_le _, by simp, hO0, Kw⟩
    case round =>
      clear hO0
      obtain ⟨i, rfl, rfl, hi, hal0, hO, hbw⟩ := hrel
      have hal := Lib.hid hal0
      clear hal0
      obtain ⟨oa, ob, oc, of, ol⟩ := hO.mx
      by_cases hiR : i < R
      · have hpl := pv_le HL.out hiR
        have hsu := range_all_succ (fun i => erow xs R C i) i
        have hno := fun h => range_all_false (p := fun i => erow xs R C i) hiR h
        rw [show (List.range i).all (fun i => erow xs R C i) = true from hal.out, Bool.true_and] at hsu
        have HSU := Lib.hid (lastP_succ xs C i)
        have hlb : -1 ≤ lastP xs C i ∧ lastP xs C i ≤ C := by
          rcases Nat.eq_zero_or_pos i with h0 | h0
          · subst h0; rw [lastP_zero]; omega
          · obtain ⟨j, rfl⟩ : ∃ j, i = j + 1 := ⟨i - 1, by omega⟩
            rw [lastP_succ]
            have := pv_le HL.out (show j < R by omega); omega
        have HI : Hid (i * C + C ≤ n) := Lib.hid (by have h3 := Nat.mul_le_mul_right C (show i + 1 ≤ R by omega); rw [Nat.add_mul, Nat.one_mul] at h3; rw [HNL.out]; exact h3)
        have HRL := Lib.hid (rowL_len (xs := xs) (C := C) (i := i) (by have h4 := HI.out; have := H2.out.len; omega))
        have HGB : Hid (∀ k, gcdL ((rowL xs C i).take k) ≤ 400000000) := Lib.hid (fun k => by
          refine gcdF_le' _ 400000000 (fun x hx => ?_) 0 (by omega)
          have h1 := List.mem_of_mem_take hx
          obtain ⟨j, hj, rfl⟩ := List.mem_iff_getElem.1 h1
          have h3 : (rowL xs C i).getD j 0 = (rowL xs C i)[j] := by simp [List.getD, hj]
          have h2 := hcb.out i j
          rw [← rowL_getD (by rw [← HRL.out]; exact hj), h3] at h2
          omega)
        have HS := Lib.hid hsu
        have HNO := Lib.hid hno
        clear hsu hno
        go_wp2_with (go_at_call 107; refine (spec_IsMatrix R C A n cap xs _ (C := w.heap.size) (Kr H2.out) Ks hn).mono ?_; rw [HM.out]; rintro e w1 ⟨rfl, hb⟩; have hO_1 : BM w1 (w.heap.size) R C A n cap := (Kb hO); have hbw_1 : Below w.heap.size w w1 := Kw; clear hO hbw; have hO := hO_1; have hbw := hbw_1; clear hO_1 hbw_1; clear oa ob oc of ol; obtain ⟨oa, ob, oc, of, ol⟩ := hO.mx)
        obtain ⟨wo, rfl⟩ : ∃ wo : World, wo = wr := ⟨_, rfl⟩
        go_loopw [5] (fun v wr => ∃ k : Nat, v = .int .i64 k ∧ k ≤ pv xs C i ∧ BM wr w.heap.size R C A n cap ∧ Below w.heap.size w wr) (fun v _ => pv xs C i - (intOf v).toNat)
        case atStart => exact ⟨0, rfl, Nat.zero_le _, hO, hbw⟩
        case round =>
          clear hO hbw oa ob oc of ol
          obtain ⟨k, rfl, hk, hO, hbw⟩ := hrel
          obtain ⟨oa, ob, oc, of, ol⟩ := hO.mx
          by_cases hkp : k < pv xs C i
          · have hz : cel xs C i k = 0 := pv_zero hkp (by omega)
            obtain ⟨x1, x2, x3, x4⟩ := idx_bd (r := R) (c := C) (i := i) (j := k) hR hC (by omega) (by omega) (by omega) (by omega)
            obtain ⟨ab, ao, rfl, hab, hac0⟩ := H2.out.2 (by omega)
            have hac := Lib.hid hac0
            clear hac0
            have hik : i * C + k < n := by have := HI.out; omega
            have c1 := (hbw.cell (p := ⟨ab, ao + (i * C + k), none⟩) hab).trans (hac.out (i * C + k) (by omega))
            rw [← cel_nat, hz] at c1
            clear hz
            go_wp2
            go_roundw
            case rel => exact ⟨k + 1, by go_num, by omega, Kb hO, Kw⟩
            case measure => simp only [intOf]; omega
          · obtain rfl : k = pv xs C i := by omega
            by_cases hp : pv xs C i < C
            · have hnz : cel xs C i (pv xs C i) ≠ 0 := by
                have h5 := fcN_ne (rowL xs C i) (by rw [HRL.out]; exact hp)
                rw [← rowL_getD hp]; exact h5
              have hrw : erow xs R C i = (decide (lastP xs C i < pv xs C i) && decide (0 ≤ cel xs C i (pv xs C i)) && decide (gcdL (rowL xs C i) = 1) && (List.range R).all (ezc xs C i)) := by unfold erow; rw [if_pos hp]
              have hn1 := HNO.out
              rw [hrw] at hn1
              have hs1 := HS.out
              rw [hrw] at hs1
              have HNO1 := Lib.hid hn1
              have HS1 := Lib.hid hs1
              have HP : Hid (∀ k, ezc xs C i k = (decide (k = i) || decide (cel xs C k (pv xs C i) = 0))) := Lib.hid (fun _ => rfl)
              clear hrw hn1 hs1 HS HNO
              obtain ⟨x1, x2, x3, x4⟩ := idx_bd (r := R) (c := C) (i := i) (j := pv xs C i) hR hC (by omega) (by omega) (by omega) (by omega)
              generalize pv xs C i = p at *
              obtain ⟨ab, ao, rfl, hab, hac0⟩ := H2.out.2 (by omega)
              have hac := Lib.hid hac0
              clear hac0
              have hip : i * C + p < n := by have := HI.out; omega
              have c1 := (hbw.cell (p := ⟨ab, ao + (i * C + p), none⟩) hab).trans (hac.out (i * C + p) (by omega))
              rw [← cel_nat] at c1
              have hnb : (cel xs C i p == 0) = false := by simpa using hnz
              clear hnz
              generalize hy : cel xs C i p = y at c1 hnb
              have HY := Lib.hid hy
              clear hy
              go_wp2
              obtain ⟨wo3, rfl⟩ : ∃ wo : World, wo = wr := ⟨_, rfl⟩
              go_loopw [6, 7] (fun u v wr => ∃ j : Nat, v = .int .i64 j ∧ u = .int .i64 (gcdL ((rowL xs C i).take j) : Nat) ∧ j ≤ C ∧ BM wr w.heap.size R C (some ⟨ab, ao, none⟩) n cap ∧ Below w.heap.size w wr) (fun _ v _ => C - (intOf v).toNat)
              case atStart => exact ⟨0, rfl, by simp [gcdL], Nat.zero_le _, hO, hbw⟩
              case round =>
                clear hO hbw oa ob oc of ol
                obtain ⟨j, rfl, rfl, hj, hO, hbw⟩ := hrel
                obtain ⟨oa, ob, oc, of, ol⟩ := hO.mx
                have hgb := HGB.out j
                by_cases hjC : j < C
                · obtain ⟨z1, z2, z3, z4⟩ := idx_bd (r := R) (c := C) (i := i) (j := j) hR hC (by omega) (by omega) (by omega) (by omega)
                  obtain ⟨z5, z6⟩ := hcb.out i j
                  have hik : i * C + j < n := by have := HI.out; omega
                  have c1 := (hbw.cell (p := ⟨ab, ao + (i * C + j), none⟩) hab).trans (hac.out (i * C + j) (by omega))
                  rw [← cel_nat] at c1
                  have hst := Lib.hid (gcdL_take (l := rowL xs C i) (k := j) (by rw [HRL.out]; exact hjC))
                  rw [rowL_getD hjC] at hst
                  generalize gcdL ((rowL xs C i).take j) = q at *
                  generalize cel xs C i j = y at *
                  go_wp2_with (first | (go_at_call 175; refine (spec_GcdOf _ _ _ (by omega) (by omega)).mono ?_; rintro e w' ⟨rfl, nd, rfl⟩))
                  go_roundw
                  case rel => exact ⟨j + 1, by go_num, by rw [hst.out], by omega, Kb hO, Kw⟩
                  case measure => simp only [intOf]; omega
                · obtain rfl : C = j := by omega
                  have htk : (rowL xs C i).take C = rowL xs C i := List.take_of_length_le (by have := HRL.out; omega)
                  rw [htk] at hgb ⊢
                  clear htk
                  clear hgb
                  generalize gcdL (rowL xs C i) = G at *
                  by_cases hlp : (p : Int) ≤ lastP xs C i
                  · have hf := Lib.hid (HNO1.out (by simp; omega))
                    generalize lastP xs C i = l at *
                    by_cases hlc : l = (C : Int)
                    · have b1 : (l == (C : Int)) = true := by simpa using hlc
                      clear hlc
                      go_wp2
                      go_ret
                      exact BV.mk (vbool hf.out.symm) Kw
                    · have b1 : (l == (C : Int)) = false := by simpa using hlc
                      go_wp2
                      go_ret
                      exact BV.mk (vbool hf.out.symm) Kw
                  · have HLP : Hid (decide (lastP xs C i < (p : Int)) = true) := Lib.hid (by simp; omega)
                    generalize lastP xs C i = l at *
                    have b1 : (l == (C : Int)) = false := by simp; omega
                    have hlp' : decide ((p : Int) ≤ l) = false := by simp; omega
                    obtain ⟨x1, x2, x3, x4⟩ := idx_bd (r := R) (c := C) (i := i) (j := p) hR hC (by omega) (by omega) (by omega) (by omega)
                    have hip : i * C + p < n := by have := HI.out; omega
                    have c1 := (hbw.cell (p := ⟨ab, ao + (i * C + p), none⟩) hab).trans (hac.out (i * C + p) (by omega))
                    rw [← cel_nat] at c1
                    by_cases hng : cel xs C i p < 0
                    · have hf := Lib.hid (HNO1.out (by simp; omega))
                      go_wp2
                      go_ret
                      exact BV.mk (vbool hf.out.symm) Kw
                    · have b2 : decide (cel xs C i p < 0) = false := by simpa using hng
                      by_cases hG1 : G = 1
                      · have b3 : ((G : Int) != 1) = false := by simp; omega
                        have HG := Lib.hid hG1
                        have hge : 0 ≤ cel xs C i p := by omega
                        clear hng hG1
                        generalize cel xs C i p = y at *
                        go_wp2
                        obtain ⟨wo2, rfl⟩ : ∃ wo : World, wo = wr := ⟨_, rfl⟩
                        go_loopw [8] (fun v wr => ∃ k : Nat, v = .int .i64 k ∧ k ≤ R ∧ (List.range k).all (ezc xs C i) = true ∧ BM wr w.heap.size R C (some ⟨ab, ao, none⟩) n cap ∧ Below w.heap.size w wr) (fun v _ => R - (intOf v).toNat)
                        case atStart => exact ⟨0, rfl, Nat.zero_le _, by simp, hO, hbw⟩
                        case round =>
                          clear hO hbw oa ob oc of ol c1
                          obtain ⟨k, rfl, hk, hak0, hO, hbw⟩ := hrel
                          have hak := Lib.hid hak0
                          clear hak0
                          obtain ⟨oa, ob, oc, of, ol⟩ := hO.mx
                          by_cases hkR : k < R
                          · obtain ⟨z1, z2, z3, z4⟩ := idx_bd (r := R) (c := C) (i := k) (j := p) hR hC (by omega) (by omega) (by omega) (by omega)
                            have hs := range_all_succ (ezc xs C i) k
                            rw [hak.out, Bool.true_and, HP.out k] at hs
                            have hno2 : ezc xs C i k = false → (List.range R).all (ezc xs C i) = false := fun hh => range_all_false (p := ezc xs C i) hkR hh
                            rw [HP.out k] at hno2
                            have hkp : k * C + p < n := by have := idx_nat hkR hp; rw [HNL.out]; exact this
                            have c1 := (hbw.cell (p := ⟨ab, ao + (k * C + p), none⟩) hab).trans (hac.out (k * C + p) (by omega))
                            rw [← cel_nat] at c1
                            by_cases hki : k = i
                            · have hnx := Lib.hid (show (List.range (k + 1)).all (ezc xs C i) = true by rw [hs]; simp [hki])
                              have b4 : ((k : Int) != (i : Int)) = false := by simp [hki]
                              clear hs hno2 hki
                              go_wp2
                              go_roundw
                              case rel => exact ⟨k + 1, by go_num, by omega, hnx.out, Kb hO, Kw⟩
                              case measure => simp only [intOf]; omega
                            · have b4 : ((k : Int) != (i : Int)) = true := by simp; omega
                              by_cases hz : cel xs C k p = 0
                              · have hnx := Lib.hid (show (List.range (k + 1)).all (ezc xs C i) = true by rw [hs]; simp [hz])
                                rw [hz] at c1
                                clear hs hno2 hki hz
                                go_wp2
                                go_roundw
                                case rel => exact ⟨k + 1, by go_num, by omega, hnx.out, Kb hO, Kw⟩
                                case measure => simp only [intOf]; omega
                              · have hf := Lib.hid (HNO1.out (by rw [hno2 (by simp [hki, hz])]; simp))
                                have b5 : (cel xs C k p != 0) = true := by simpa using hz
                                clear hs hno2 hki hz
                                generalize cel xs C k p = z at *
                                go_wp2
                                go_ret
                                exact BV.mk (vbool hf.out.symm) Kw
                          · have hak2 : (List.range R).all (ezc xs C i) = true := by rw [show R = k by omega]; exact hak.out
                            have hnx := Lib.hid (show (List.range (i + 1)).all (fun i => erow xs R C i) = true by rw [HS1.out, hak2, HLP.out, HG.out]; simpa using hge)
                            clear hak2
                            go_wp2
                            go_roundw
                            case rel => exact ⟨i + 1, by go_num, by rw [HSU.out], by omega, hnx.out, Kb hO, Kw⟩
                            case measure => simp only [intOf]; omega
                      · have b3 : ((G : Int) != 1) = true := by simp; omega
                        have hf := Lib.hid (HNO1.out (by simp [hG1]))
                        clear hG1
                        go_wp2
                        go_ret
                        exact BV.mk (vbool hf.out.symm) Kw
            · have hrw : erow xs R C i = true := by unfold erow; rw [if_neg hp]
              have hnx := Lib.hid (show (List.range (i + 1)).all (fun i => erow xs R C i) = true by rw [HS.out, hrw])
              have hpc : pv xs C i = C := by omega
              have HSU2 : Hid (lastP xs C (i + 1) = C) := Lib.hid (by rw [HSU.out, hpc])
              clear hrw
              rw [hpc] at *
              clear hpc
              go_wp2
              obtain ⟨wo3, rfl⟩ : ∃ wo : World, wo = wr := ⟨_, rfl⟩
              go_loopw [6, 7] (fun u v wr => ∃ j : Nat, v = .int .i64 j ∧ u = .int .i64 (gcdL ((rowL xs C i).take j) : Nat) ∧ j ≤ C ∧ BM wr w.heap.size R C A n cap ∧ Below w.heap.size w wr) (fun _ v _ => C - (intOf v).toNat)
              case atStart => exact ⟨0, rfl, by simp [gcdL], Nat.zero_le _, hO, hbw⟩
              case round =>
                clear hO hbw oa ob oc of ol
                obtain ⟨j, rfl, rfl, hj, hO, hbw⟩ := hrel
                obtain ⟨oa, ob, oc, of, ol⟩ := hO.mx
                have hgb := HGB.out j
                by_cases hjC : j < C
                · obtain ⟨z1, z2, z3, z4⟩ := idx_bd (r := R) (c := C) (i := i) (j := j) hR hC (by omega) (by omega) (by omega) (by omega)
                  obtain ⟨z5, z6⟩ := hcb.out i j
                  obtain ⟨ab, ao, rfl, hab, hac0⟩ := H2.out.2 (by omega)
                  have hac := Lib.hid hac0
                  clear hac0
                  have hik : i * C + j < n := by have := HI.out; omega
                  have c1 := (hbw.cell (p := ⟨ab, ao + (i * C + j), none⟩) hab).trans (hac.out (i * C + j) (by omega))
                  rw [← cel_nat] at c1
                  have hst := Lib.hid (gcdL_take (l := rowL xs C i) (k := j) (by rw [HRL.out]; exact hjC))
                  rw [rowL_getD hjC] at hst
                  generalize gcdL ((rowL xs C i).take j) = q at *
                  generalize cel xs C i j = y at *
                  go_wp2_with (first | (go_at_call 175; refine (spec_GcdOf _ _ _ (by omega) (by omega)).mono ?_; rintro e w' ⟨rfl, nd, rfl⟩))
                  go_roundw
                  case rel => exact ⟨j + 1, by go_num, by rw [hst.out], by omega, Kb hO, Kw⟩
                  case measure => simp only [intOf]; omega
                · obtain rfl : C = j := by omega
                  have htk : (rowL xs C i).take C = rowL xs C i := List.take_of_length_le (by have := HRL.out; omega)
                  rw [htk] at hgb ⊢
                  clear htk
                  clear hgb
                  generalize gcdL (rowL xs C i) = G at *
                  go_wp2
                  refine wp_loop_rounds 1 ?_
                  rw [rounds_succ]
                  go_wp2
                  go_roundw
                  case rel => exact ⟨i + 1, by go_num, by rw [HSU2.out], by omega, hnx.out, Kb hO, Kw⟩
                  case measure => simp only [intOf]; omega
      · obtain rfl : R = i := by omega
        have hres := Lib.hid (show (List.range R).all (erow xs R C) = true from hal.out)
        go_wp2_with (go_at_call 107; refine (spec_IsMatrix R C A n cap xs _ (C := w.heap.size) (Kr H2.out) Ks hn).mono ?_; rw [HM.out]; rintro e w1 ⟨rfl, hb⟩; have hO_1 : BM w1 (w.heap.size) R C A n cap := (Kb hO); have hbw_1 : Below w.heap.size w w1 := Kw; clear hO hbw; have hO := hO_1; have hbw := hbw_1; clear hO_1 hbw_1; clear oa ob oc of ol; obtain ⟨oa, ob, oc, of, ol⟩ := hO.mx)
        go_ret
        exact BV.mk (vbool hres.out.symm) Kw
end Go.Proofs.Ytacjonkehcamgaa

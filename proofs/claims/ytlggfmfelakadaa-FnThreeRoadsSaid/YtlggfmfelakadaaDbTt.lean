/-
  DERIVED. DeterminantBySteps of the program.
-/
import Derived.Test.YtlggfmfelakadaaT5
import Derived.Test.YtlggfmfelakadaaDetSt
import Derived.Test.YtlggfmfelakadaaT2
import Derived.Test.YtlggfmfelakadaaRowOpt
import Derived.Test.YtlggfmfelakadaaT6
import Derived.Test.YtlggfmfelakadaaT3
namespace Go.Proofs.Ytlggfmfelakadaa
open Go.RowKit
set_option linter.unusedVariables false
set_option linter.unusedSimpArgs false
theorem tdiv_absB (a b : Int) : (a.tdiv b).natAbs ≤ a.natAbs := by
  rw [Int.natAbs_tdiv]; exact Nat.div_le_self _ _
set_option maxRecDepth 100000 in
set_option maxHeartbeats 16000000 in
theorem impl_DeterminantBySteps (r c : Int) (A : Option Addr) (n cap : Nat) (xs : List Int) (w : World) {B : Nat} (h : RI w B A n xs) (hB : B ≤ w.heap.size) (hn : n ≤ 1048576) :
    Calls Try.prog 20 #[.agg #[.int .i64 r, .int .i64 c, .slice A n cap]] w (ODV (bsX r c xs) w) := by
  have H2 := Lib.hid (h.more hB)
  clear h
  rcases hq : isSq r c xs with _ | _
  · have hv : bsX r c xs = none := by unfold bsX; rw [hq]; rfl
    rw [hv]
    have HQ := Lib.hid hq
    clear hq hv
    go_enter Try.func20, Try.ntmps20
    go_wp2_with fail
    refine (impl_IsSquare r c A n cap xs _ (B := w.heap.size) (Kr H2.out) Ks hn).mono ?_
    rw [HQ.out]
    rintro e w1 ⟨rfl, hb1⟩
    have hbw : Below w.heap.size w w1 := Kw
    go_wp2_with fail
    go_ret2
    exact ⟨rfl, Kw⟩
  · have S := isSq_iff.1 hq
    have hv : bsX r c xs = bsGo r.toNat r.toNat 0 (fun i j => cel xs r.toNat i j) 1 1 := by unfold bsX; rw [hq]; rfl
    rw [hv]
    obtain ⟨R, rfl⟩ := nat_of S.m.r0
    have hc := S.e
    subst hc
    have hR := S.le
    have HT : Hid (xs = tb R R (fun i j => cel xs R i j)) := Lib.hid (tb_of (by have := S.m.len; rw [← Int.natCast_mul] at this; omega))
    have HBD : Hid (∀ i c : Nat, i < R → c < R → -400000000 ≤ (fun i j : Nat => cel xs R i j) i c ∧ (fun i j : Nat => cel xs R i j) i c ≤ 400000000) := Lib.hid (fun i c _ _ => S.m.cel_bd i c)
    have HQ := Lib.hid hq
    clear hq hv S
    simp only [Int.toNat_natCast]
    generalize (fun i j : Nat => cel xs R i j) = f0 at *
    obtain ⟨X, hX⟩ : ∃ X, bsGo R R 0 f0 1 1 = X := ⟨_, rfl⟩
    rw [hX]
    have HRUN : Hid (bsGo R (R - 0) 0 f0 1 1 = X) := Lib.hid hX
    clear hX
    go_enter Try.func20, Try.ntmps20
    go_wp2_with fail
    refine (impl_IsSquare R R A n cap xs _ (B := w.heap.size) (Kr H2.out) Ks hn).mono ?_
    rw [HQ.out]
    rintro e w1 ⟨rfl, hb1⟩
    have hsz1 := hb1.size
    (try simp at hsz1)
    have hM : BM w1 w.heap.size R R A n cap := Ka
    have hbw1 : Below w.heap.size w w1 := Kw
    have hri : RI w1 w.heap.size A n xs := Kr H2.out
    obtain ⟨ma, mb, mc, mf, ml⟩ := hM.mx
    go_wp2_with fail
    refine (impl_copyMatrix R R A n cap xs _ (B := w.heap.size) (Kr hri) Ks hn).mono ?_
    rintro e w2 ⟨A2, n2, cap2, rfl, hn2, hown, hb2⟩
    have hsz2 := hb2.size
    (try simp at hsz2)
    have hM2 : BM w2 w.heap.size R R A n cap := Kb hM
    have hbw0 : Below w.heap.size w w2 := Kw
    rw [HT.out] at hown hn2
    have hcap2 := hown.caps
    have HG : Hid (0 < R * R → ∃ g, A2 = some ⟨g, 0, none⟩ ∧ w.heap.size + 1 ≤ g ∧ g < w2.heap.size) := Lib.hid (fun h0 => by
      obtain ⟨g, e, h1, h2⟩ := hown.begins (by rw [tb_len]; exact h0)
      exact ⟨g, e, by omega, h2⟩)
    have hown0 : OR w2 (w.heap.size + 1) (.slice A2 n2 cap2) (tb R R f0) := OR.mono (B' := w.heap.size + 1) hown (by omega)
    clear hown hb2 hn2 hM hbw1 hri hb1 ma mb mc mf ml
    obtain ⟨ma, mb, mc, mf, ml⟩ := hM2.mx
    go_wp2_with fail
    have hO1 : BM (w2.alloc (.cells #[.int .i64 R, .int .i64 R, .slice A2 n2 cap2] 26)) w2.heap.size R R A2 n2 cap2 := Ka
    have hown1 : OR (w2.alloc (.cells #[.int .i64 R, .int .i64 R, .slice A2 n2 cap2] 26)) (w.heap.size + 1) (.slice A2 n2 cap2) (tb R R f0) := Ko hown0
    have hbw1 : Below w.heap.size w (w2.alloc (.cells #[.int .i64 R, .int .i64 R, .slice A2 n2 cap2] 26)) := Kw
    clear hown0 hM2 hbw0 ma mb mc mf ml
    generalize hbO : w2.heap.size = bO at *
    have HBO := Lib.hid hbO
    clear hbO
    go_loopw [6, 7, 8] (fun vs vb vt wr => ∃ (t : Nat) (f : Fn2) (s b : Int), vs = .int .i64 s ∧ vb = .int .i64 b ∧ vt = .int .i64 t ∧ t ≤ R ∧ -1 ≤ s ∧ s ≤ 1 ∧ b ≠ 0 ∧ -400000000 ≤ b ∧ b ≤ 400000000 ∧ (∀ i c : Nat, i < R → c < R → -400000000 ≤ f i c ∧ f i c ≤ 400000000) ∧ bsGo R (R - t) t f b s = X ∧ BM wr bO R R A2 n2 cap2 ∧ OR wr (w.heap.size + 1) (.slice A2 n2 cap2) (tb R R f) ∧ Below w.heap.size w wr) (fun _ _ v _ => R - (intOf v).toNat)
    case atStart => exact ⟨0, f0, 1, 1, rfl, rfl, rfl, Nat.zero_le _, by omega, by omega, by omega, by omega, by omega, HBD.out, HRUN.out, hO1, hown1, hbw1⟩
    case round => as_aux_lemma =>
      clear hO1 hown1 hbw1 HRUN
      obtain ⟨t, f, s, b, rfl, rfl, rfl, ht, hs1, hs2, hb0, hbl, hbh, hf, hX0, hO, hown, hbw⟩ := hrel
      have HF := Lib.hid hf
      have HX0 := Lib.hid hX0
      clear hf hX0
      obtain ⟨oa, ob, oc, of, ol⟩ := hO.mx
      by_cases htR : t < R
      · obtain ⟨g, rfl, hg1, hg2⟩ := HG.out (Nat.mul_pos (by omega) (by omega))
        go_wp2_with fail
        obtain ⟨wo, rfl⟩ : ∃ wo : World, wo = wr := ⟨_, rfl⟩
        go_loopw [9] (fun v wr => ∃ k : Nat, v = .int .i64 k ∧ t ≤ k ∧ k ≤ R ∧ fnd f t (R - k) k = fnd f t (R - t) t ∧ BM wr bO R R (some ⟨g, 0, none⟩) n2 cap2 ∧ OR wr (w.heap.size + 1) (.slice (some ⟨g, 0, none⟩) n2 cap2) (tb R R f) ∧ Below w.heap.size w wr) (fun v _ => R - (intOf v).toNat)
        case atStart => exact ⟨t, rfl, Nat.le_refl _, by omega, rfl, hO, hown, hbw⟩
        case round => as_aux_lemma =>
          clear hO hown hbw oa ob oc of ol
          obtain ⟨k, rfl, hk1, hk2, hfn0, hO, hown, hbw⟩ := hrel
          have hfn := Lib.hid hfn0
          clear hfn0
          obtain ⟨oa, ob, oc, of, ol⟩ := hO.mx
          by_cases hkR : k < R
          · by_cases hz : f k t = 0
            · have hfx := Lib.hid ((fnd_next hkR hz).symm.trans hfn.out)
              have HZ := Lib.hid hz
              clear hz
              go_wp2_with fail
              refine (impl_at_tb R R k t _ n2 cap2 f 0 HZ.out _ (B := w.heap.size + 1) (Ko hown) (by omega) (by omega) hkR htR).mono ?_
              rintro e w1 ⟨rfl, hb⟩
              have hO_1 : BM w1 bO R R (some ⟨g, 0, none⟩) n2 cap2 := (Kb hO); have hown_1 : OR w1 (w.heap.size + 1) (.slice (some ⟨g, 0, none⟩) n2 cap2) (tb R R f) := (Ko hown); have hbw_1 : Below w.heap.size w w1 := Kw; clear hb; clear hO hown hbw oa ob oc of ol; have hO := hO_1; have hown := hown_1; have hbw := hbw_1; clear hO_1 hown_1 hbw_1; obtain ⟨oa, ob, oc, of, ol⟩ := hO.mx
              go_wp2_with fail
              go_roundw
              case rel => exact ⟨k + 1, by go_num, by omega, by omega, hfx.out, hO, hown, hbw⟩
              case measure => simp only [intOf]; omega
            · have hP : fnd f t (R - t) t = k := hfn.out.symm.trans (fnd_here hkR hz)
              have hgo := bsGo_next (b := b) (s := s) htR hP hkR
              have hzb : (f k t == 0) = false := by simpa using hz
              have HNZ0 := Lib.hid hz
              clear hP hz
              rw [HX0.out] at hgo
              have HX1 := Lib.hid hgo.symm
              clear hgo
              have hkRb : ((k : Int) == (R : Int)) = false := by simp; omega
              generalize hy : f k t = y at *
              have HY := Lib.hid hy
              clear hy
              by_cases hkt : k = t
              · obtain rfl : t = k := hkt.symm
                clear hkt
                have hsf : swF f t t = f := swF_same f t
                have HX : Hid ((if bsOk R f t b = true then bsGo R (R - (t + 1)) (t + 1) (bsF f t b) (f t t) s else none) = X) := Lib.hid (by
                  have := HX1.out
                  rw [hsf, if_pos rfl, HY.out] at this
                  rw [HY.out]
                  exact this)
                have HNZ : Hid (f t t ≠ 0) := Lib.hid (by rw [HY.out]; exact HNZ0.out)
                have HF1 := HF
                clear hsf HX1 HNZ0 HX0
                go_wp2_with fail
                refine (impl_at_tb R R t t _ n2 cap2 f y HY.out _ (B := w.heap.size + 1) (Ko hown) (by omega) (by omega) hkR htR).mono ?_
                rintro e w1 ⟨rfl, hb⟩
                have hO_1 : BM w1 bO R R (some ⟨g, 0, none⟩) n2 cap2 := (Kb hO); have hown_1 : OR w1 (w.heap.size + 1) (.slice (some ⟨g, 0, none⟩) n2 cap2) (tb R R f) := (Ko hown); have hbw_1 : Below w.heap.size w w1 := Kw; clear hb; clear hO hown hbw oa ob oc of ol; have hO := hO_1; have hown := hown_1; have hbw := hbw_1; clear hO_1 hown_1 hbw_1; obtain ⟨oa, ob, oc, of, ol⟩ := hO.mx
                generalize hF1 : f = F1 at *
                generalize hs1' : s = s1 at *
                go_wp2_with fail
                obtain ⟨wo3, rfl⟩ : ∃ wo : World, wo = w1 := ⟨_, rfl⟩
                go_loopw [10] (fun v wr => ∃ i : Nat, v = .int .i64 i ∧ t + 1 ≤ i ∧ i ≤ R ∧ BsN R F1 t b i (t + 1) ∧ BM wr bO R R (some ⟨g, 0, none⟩) n2 cap2 ∧ OR wr (w.heap.size + 1) (.slice (some ⟨g, 0, none⟩) n2 cap2) (tb R R (bsK F1 t b i (t + 1))) ∧ Below w.heap.size w wr) (fun v _ => R - (intOf v).toNat)
                case atStart => exact ⟨t + 1, by go_num, Nat.le_refl _, by omega, BsN.zero _ _ _ _, hO, by rw [bsK_zero]; exact hown, hbw⟩
                case round => as_aux_lemma =>
                  clear hO hown hbw oa ob oc of ol
                  obtain ⟨i, rfl, hi0, hi, hN0, hO, hown, hbw⟩ := hrel
                  have HN := Lib.hid hN0
                  clear hN0
                  obtain ⟨oa, ob, oc, of, ol⟩ := hO.mx
                  by_cases hiR : i < R
                  · go_wp2_with fail
                    obtain ⟨wo4, rfl⟩ : ∃ wo : World, wo = wr := ⟨_, rfl⟩
                    go_loopw [11] (fun v wr => ∃ j : Nat, v = .int .i64 j ∧ t + 1 ≤ j ∧ j ≤ R ∧ BsN R F1 t b i j ∧ BM wr bO R R (some ⟨g, 0, none⟩) n2 cap2 ∧ OR wr (w.heap.size + 1) (.slice (some ⟨g, 0, none⟩) n2 cap2) (tb R R (bsK F1 t b i j)) ∧ Below w.heap.size w wr) (fun v _ => R - (intOf v).toNat)
                    case atStart => exact ⟨t + 1, by go_num, Nat.le_refl _, by omega, HN.out, hO, hown, hbw⟩
                    case round => as_aux_lemma =>
                      clear hO hown hbw oa ob oc of ol
                      obtain ⟨j, rfl, hj0, hj, hN1, hO, hown, hbw⟩ := hrel
                      have HN1 := Lib.hid hN1
                      clear hN1
                      obtain ⟨oa, ob, oc, of, ol⟩ := hO.mx
                      by_cases hjR : j < R
                      · have z1b := HF1.out i j hiR hjR
                        have z2b := HF1.out t t htR htR
                        have z3b := HF1.out i t hiR htR
                        have z4b := HF1.out t j htR hjR
                        have HA1 := Lib.hid (bsK_at F1 t b i j)
                        have HA2 := Lib.hid (bsK_t F1 t b i j t)
                        have HA3 := Lib.hid (bsK_c F1 t b i j i)
                        have HA4 := Lib.hid (bsK_t F1 t b i j j)
                        have HST := Lib.hid (bsK_step (f := F1) b (show t < i by omega) (show t < j by omega))
                        have HNO : Hid (isNum (bsE F1 t b i j) = false → X = none) := Lib.hid (fun h => by
                          have := HX.out
                          rw [if_neg (by rw [bsOk_not (show t < i by omega) (show t < j by omega) hiR hjR h]; simp)] at this
                          exact this.symm)
                        have HNX : Hid (isNum (bsE F1 t b i j) = true → BsN R F1 t b i (j + 1)) := Lib.hid (fun h => HN1.out.step h)
                        rw [show bsE F1 t b i j = (F1 i j * F1 t t - F1 i t * F1 t j).tdiv b from rfl] at HST HNO HNX
                        generalize F1 i j = z1 at *
                        generalize F1 t t = z2 at *
                        generalize F1 i t = z3 at *
                        generalize F1 t j = z4 at *
                        obtain ⟨y1, y2⟩ := z1b
                        obtain ⟨y3, y4⟩ := z2b
                        obtain ⟨y5, y6⟩ := z3b
                        obtain ⟨y7, y8⟩ := z4b
                        have hm1 := mul_bd4 z1 z2 400000000 400000000 y1 y2 y3 y4
                        have hm2 := mul_bd4 z3 z4 400000000 400000000 y5 y6 y7 y8
                        have g1 : IntKind.i64.wrap (z1 * z2) = z1 * z2 := IntWalk.i64_in _ (by omega)
                        have g2 : IntKind.i64.wrap (z3 * z4) = z3 * z4 := IntWalk.i64_in _ (by omega)
                        have g3 : IntKind.i64.wrap (z1 * z2 - z3 * z4) = z1 * z2 - z3 * z4 := IntWalk.i64_in _ (by omega)
                        have hq := tdiv_absB (z1 * z2 - z3 * z4) b
                        have g4 : IntKind.i64.wrap ((z1 * z2 - z3 * z4).tdiv b) = (z1 * z2 - z3 * z4).tdiv b := IntWalk.i64_in _ (by omega)
                        clear hq hm1 hm2
                        go_wp2_with fail
                        ((refine wp_region_held_drew (S := (fun w' => w'.cell? ⟨bO, 0, none⟩ = some (.int .i64 R) ∧ w'.cell? ⟨bO, 1, none⟩ = some (.int .i64 R) ∧ w'.cell? ⟨bO, 2, none⟩ = some (.slice (some ⟨g, 0, none⟩) n2 cap2))) (by kernel_rfl) ?_ (fun hHeld => ?_)); ((focus ((try dsimp only); (go_keep)))); ((refine tk_ (i := 0) (v := ?_) (y := Or.inl ⟨by rfl, ?_⟩) (h := ?_); rotate_left; (focus (((intro w hSw; (try dsimp only at hSw); go_simp) <;> (try with_reducible rfl)); done)); (try simp only [Act.put, p1_, p2_, p3_]))); ((refine tk_ (i := 1) (v := ?_) (y := Or.inl ⟨by rfl, ?_⟩) (h := ?_); rotate_left; (focus (((intro w hSw; (try dsimp only at hSw); go_simp) <;> (try with_reducible rfl)); done)); (try simp only [Act.put, p1_, p2_, p3_]))); ((refine tk_ (i := 2) (v := ?_) (y := Or.inl ⟨by rfl, ?_⟩) (h := ?_); rotate_left; (focus (((intro w hSw; (try dsimp only at hSw); go_simp) <;> (try with_reducible rfl)); done)); (try simp only [Act.put, p1_, p2_, p3_]))); ((refine tk_ (i := 4) (v := ?_) (y := Or.inl ⟨by rfl, ?_⟩) (h := ?_); rotate_left; (focus (((intro w hSw; (try dsimp only at hSw); go_simp) <;> (try with_reducible rfl)); done)); (try simp only [Act.put, p1_, p2_, p3_]))); ((refine tk_ (i := 5) (v := ?_) (y := Or.inl ⟨by rfl, ?_⟩) (h := ?_); rotate_left; (focus (((intro w hSw; (try dsimp only at hSw); go_simp) <;> (try with_reducible rfl)); done)); (try simp only [Act.put, p1_, p2_, p3_]))); ((refine tk_ (i := 6) (v := ?_) (y := Or.inl ⟨by rfl, ?_⟩) (h := ?_); rotate_left; (focus (((intro w hSw; (try dsimp only at hSw); go_simp) <;> (try with_reducible rfl)); done)); (try simp only [Act.put, p1_, p2_, p3_]))); ((refine tk_ (i := 9) (v := ?_) (y := Or.inl ⟨by rfl, ?_⟩) (h := ?_); rotate_left; (focus (((intro w hSw; (try dsimp only at hSw); go_simp) <;> (try with_reducible rfl)); done)); (try simp only [Act.put, p1_, p2_, p3_]))); ((refine tk_ (i := 10) (v := ?_) (y := Or.inl ⟨by rfl, ?_⟩) (h := ?_); rotate_left; (focus (((intro w hSw; (try dsimp only at hSw); go_simp) <;> (try with_reducible rfl)); done)); (try simp only [Act.put, p1_, p2_, p3_]))); ((refine tk_ (i := 11) (v := ?_) (y := Or.inl ⟨by rfl, ?_⟩) (h := ?_); rotate_left; (focus (((intro w hSw; (try dsimp only at hSw); go_simp) <;> (try with_reducible rfl)); done)); (try simp only [Act.put, p1_, p2_, p3_]))); ((refine tk_ (i := 13) (v := ?_) (y := Or.inl ⟨by rfl, ?_⟩) (h := ?_); rotate_left; (focus (((intro w hSw; (try dsimp only at hSw); go_simp) <;> (try with_reducible rfl)); done)); (try simp only [Act.put, p1_, p2_, p3_]))); ((refine tk_ (i := 14) (v := ?_) (y := Or.inl ⟨by rfl, ?_⟩) (h := ?_); rotate_left; (focus (((intro w hSw; (try dsimp only at hSw); go_simp) <;> (try with_reducible rfl)); done)); (try simp only [Act.put, p1_, p2_, p3_]))); ((refine tk_ (i := 15) (v := ?_) (y := Or.inl ⟨by rfl, ?_⟩) (h := ?_); rotate_left; (focus (((intro w hSw; (try dsimp only at hSw); go_simp) <;> (try with_reducible rfl)); done)); (try simp only [Act.put, p1_, p2_, p3_]))); ((refine tk_ (i := 19) (v := ?_) (y := Or.inl ⟨by rfl, ?_⟩) (h := ?_); rotate_left; (focus (((intro w hSw; (try dsimp only at hSw); go_simp) <;> (try with_reducible rfl)); done)); (try simp only [Act.put, p1_, p2_, p3_]))); ((refine wpAnyH_ready (rs := [3]) (by kernel_rfl) (by simp) ?_; refine AllReadyH.cons (by simp only [e1_, e2_, e3_]; try rfl) (fun K hK => ?_) AllReadyH.nil; go_simp; (go_at_call 53; refine (impl_at_tb R R _ _ _ n2 cap2 (bsK F1 t b i j) z1 HA1.out _ (B := w.heap.size + 1) (Ko hown) (by omega) (by omega) (by omega) (by omega)).mono ?_; rintro e w1 ⟨rfl, hb⟩; have hO_1 : BM w1 bO R R (some ⟨g, 0, none⟩) n2 cap2 := (Kb hO); have hown_1 : OR w1 (w.heap.size + 1) (.slice (some ⟨g, 0, none⟩) n2 cap2) (tb R R (bsK F1 t b i j)) := (Ko hown); have hbw_1 : Below w.heap.size w w1 := Kw; clear hb; clear hO hown hbw oa ob oc of ol; have hO := hO_1; have hown := hown_1; have hbw := hbw_1; clear hO_1 hown_1 hbw_1; obtain ⟨oa, ob, oc, of, ol⟩ := hO.mx); (try go_wp2_with fail); refine hK.out _ _ ?_ (fun hHeld => ?_); (focus ((try dsimp only); (go_keep))); clear hK K; (try simp only [Act.put, p1_, p2_, p3_]))); ((refine wpAnyH_ready (rs := [7]) (by kernel_rfl) (by simp) ?_; refine AllReadyH.cons (by simp only [e1_, e2_, e3_]; try rfl) (fun K hK => ?_) AllReadyH.nil; go_simp; (go_at_call 53; refine (impl_at_tb R R _ _ _ n2 cap2 (bsK F1 t b i j) z2 HA2.out _ (B := w.heap.size + 1) (Ko hown) (by omega) (by omega) (by omega) (by omega)).mono ?_; rintro e w1 ⟨rfl, hb⟩; have hO_1 : BM w1 bO R R (some ⟨g, 0, none⟩) n2 cap2 := (Kb hO); have hown_1 : OR w1 (w.heap.size + 1) (.slice (some ⟨g, 0, none⟩) n2 cap2) (tb R R (bsK F1 t b i j)) := (Ko hown); have hbw_1 : Below w.heap.size w w1 := Kw; clear hb; clear hO hown hbw oa ob oc of ol; have hO := hO_1; have hown := hown_1; have hbw := hbw_1; clear hO_1 hown_1 hbw_1; obtain ⟨oa, ob, oc, of, ol⟩ := hO.mx); (try go_wp2_with fail); refine hK.out _ _ ?_ (fun hHeld => ?_); (focus ((try dsimp only); (go_keep))); clear hK K; (try simp only [Act.put, p1_, p2_, p3_]))); ((refine tk_ (i := 8) (v := ?_) (y := Or.inl ⟨by rfl, ?_⟩) (h := ?_); rotate_left; (focus (((intro w hSw; (try dsimp only at hSw); go_simp) <;> (try with_reducible rfl)); done)); (try simp only [Act.put, p1_, p2_, p3_]))); ((refine wpAnyH_ready (rs := [12]) (by kernel_rfl) (by simp) ?_; refine AllReadyH.cons (by simp only [e1_, e2_, e3_]; try rfl) (fun K hK => ?_) AllReadyH.nil; go_simp; (go_at_call 53; refine (impl_at_tb R R _ _ _ n2 cap2 (bsK F1 t b i j) z3 HA3.out _ (B := w.heap.size + 1) (Ko hown) (by omega) (by omega) (by omega) (by omega)).mono ?_; rintro e w1 ⟨rfl, hb⟩; have hO_1 : BM w1 bO R R (some ⟨g, 0, none⟩) n2 cap2 := (Kb hO); have hown_1 : OR w1 (w.heap.size + 1) (.slice (some ⟨g, 0, none⟩) n2 cap2) (tb R R (bsK F1 t b i j)) := (Ko hown); have hbw_1 : Below w.heap.size w w1 := Kw; clear hb; clear hO hown hbw oa ob oc of ol; have hO := hO_1; have hown := hown_1; have hbw := hbw_1; clear hO_1 hown_1 hbw_1; obtain ⟨oa, ob, oc, of, ol⟩ := hO.mx); (try go_wp2_with fail); refine hK.out _ _ ?_ (fun hHeld => ?_); (focus ((try dsimp only); (go_keep))); clear hK K; (try simp only [Act.put, p1_, p2_, p3_]))); ((refine wpAnyH_ready (rs := [16]) (by kernel_rfl) (by simp) ?_; refine AllReadyH.cons (by simp only [e1_, e2_, e3_]; try rfl) (fun K hK => ?_) AllReadyH.nil; go_simp; (go_at_call 53; refine (impl_at_tb R R _ _ _ n2 cap2 (bsK F1 t b i j) z4 HA4.out _ (B := w.heap.size + 1) (Ko hown) (by omega) (by omega) (by omega) (by omega)).mono ?_; rintro e w1 ⟨rfl, hb⟩; have hO_1 : BM w1 bO R R (some ⟨g, 0, none⟩) n2 cap2 := (Kb hO); have hown_1 : OR w1 (w.heap.size + 1) (.slice (some ⟨g, 0, none⟩) n2 cap2) (tb R R (bsK F1 t b i j)) := (Ko hown); have hbw_1 : Below w.heap.size w w1 := Kw; clear hb; clear hO hown hbw oa ob oc of ol; have hO := hO_1; have hown := hown_1; have hbw := hbw_1; clear hO_1 hown_1 hbw_1; obtain ⟨oa, ob, oc, of, ol⟩ := hO.mx); (try go_wp2_with fail); refine hK.out _ _ ?_ (fun hHeld => ?_); (focus ((try dsimp only); (go_keep))); clear hK K; (try simp only [Act.put, p1_, p2_, p3_]))); ((refine tk_ (i := 17) (v := ?_) (y := Or.inl ⟨by rfl, ?_⟩) (h := ?_); rotate_left; (focus (((intro w hSw; (try dsimp only at hSw); go_simp) <;> (try with_reducible rfl)); done)); (try simp only [Act.put, p1_, p2_, p3_]))); ((refine tk_ (i := 18) (v := ?_) (y := Or.inl ⟨by rfl, ?_⟩) (h := ?_); rotate_left; (focus (((intro w hSw; (try dsimp only at hSw); go_simp) <;> (try with_reducible rfl)); done)); (try simp only [Act.put, p1_, p2_, p3_]))); ((refine tk_ (i := 20) (v := ?_) (y := Or.inl ⟨by rfl, ?_⟩) (h := ?_); rotate_left; (focus (((intro w hSw; (try dsimp only at hSw); go_simp) <;> (try with_reducible rfl)); done)); (try simp only [Act.put, p1_, p2_, p3_]))); ((refine tk_ (i := 21) (v := ?_) (y := Or.inl ⟨by rfl, ?_⟩) (h := ?_); rotate_left; (focus (((intro w hSw; (try dsimp only at hSw); go_simp) <;> (try with_reducible rfl)); done)); (try simp only [Act.put, p1_, p2_, p3_]))); (refine wpAnyH_done (by kernel_rfl) ?_ _))
                        clear g1 g2 g3 g4
                        generalize (z1 * z2 - z3 * z4).tdiv b = x at *
                        rcases hx : isNum x with _ | _
                        · have HI := Lib.hid hx
                          clear hx
                          go_wp2_with fail
                          refine (impl_IsNumber x _).mono ?_
                          rw [HI.out]
                          rintro e w' ⟨rfl, rfl⟩
                          go_wp2_with fail
                          go_ret2
                          rw [HNO.out HI.out]
                          exact ⟨rfl, Kw⟩
                        · have HI := Lib.hid hx
                          clear hx
                          go_wp2_with fail
                          refine (impl_IsNumber x _).mono ?_
                          rw [HI.out]
                          rintro e w' ⟨rfl, rfl⟩
                          go_wp2_with fail
                          refine (impl_set_tb R R _ _ _ _ n2 cap2 (bsK F1 t b i j) (bsK F1 t b i (j + 1)) HST.out _ (B := w.heap.size + 1) (Ko hown) (by omega) (by omega) (by omega) (by omega)).mono ?_
                          rintro e w1 ⟨rfl, hown_1, hgr_0, hsz_0⟩
                          have hO_1 : BM w1 bO R R (some ⟨g, 0, none⟩) n2 cap2 := (hO.grown hgr_0 (by simp [Value.ownBlock]; omega)); have hbw_1 : Below w.heap.size w w1 := (hbw.trans (only_below hgr_0 (by omega) (by intro g' h; simp [Value.ownBlock] at h; omega))); clear hgr_0 hsz_0; clear hO hown hbw oa ob oc of ol; have hO := hO_1; have hown := hown_1; have hbw := hbw_1; clear hO_1 hown_1 hbw_1; obtain ⟨oa, ob, oc, of, ol⟩ := hO.mx
                          go_wp2_with fail
                          go_roundw
                          case rel => exact ⟨j + 1, by go_num, by omega, by omega, HNX.out HI.out, hO, hown, hbw⟩
                          case measure => simp only [intOf]; omega
                      · obtain rfl : R = j := by omega
                        have hnx := hown.as (bsK_row F1 t b i)
                        go_wp2_with fail
                        go_roundw
                        case rel => exact ⟨i + 1, by go_num, by omega, by omega, HN1.out.row, hO, hnx, hbw⟩
                        case measure => simp only [intOf]; omega
                  · obtain rfl : R = i := by omega
                    have hnx := hown.as (bsK_end F1 t b)
                    have HXN : Hid (bsGo R (R - (t + 1)) (t + 1) (bsF F1 t b) (F1 t t) s1 = X) := Lib.hid (by
                      have := HX.out
                      rw [if_pos HN.out.ok] at this
                      exact this)
                    have HFN := Lib.hid (HN.out.num HF1.out)
                    have HTT := Lib.hid (bsF_tt F1 t b)
                    have hd := HF1.out t t htR htR
                    clear hown
                    have hown := hnx
                    clear hnx HX HN HF1
                    generalize bsF F1 t b = F2 at *
                    generalize F1 t t = d at *
                    go_wp2_with fail
                    refine (impl_at_tb R R t t _ n2 cap2 F2 d HTT.out _ (B := w.heap.size + 1) (Ko hown) (by omega) (by omega) (by omega) (by omega)).mono ?_
                    rintro e w1 ⟨rfl, hb⟩
                    have hO_1 : BM w1 bO R R (some ⟨g, 0, none⟩) n2 cap2 := (Kb hO); have hown_1 : OR w1 (w.heap.size + 1) (.slice (some ⟨g, 0, none⟩) n2 cap2) (tb R R F2) := (Ko hown); have hbw_1 : Below w.heap.size w w1 := Kw; clear hb; clear hO hown hbw oa ob oc of ol; have hO := hO_1; have hown := hown_1; have hbw := hbw_1; clear hO_1 hown_1 hbw_1; obtain ⟨oa, ob, oc, of, ol⟩ := hO.mx
                    go_wp2_with fail
                    go_roundw
                    case rel => exact ⟨t + 1, F2, s1, d, rfl, rfl, by go_num, by omega, by omega, by omega, HNZ.out, hd.1, hd.2, HFN.out, HXN.out, hO, hown, hbw⟩
                    case measure => simp only [intOf]; omega
              · have hktb : ((k : Int) != (t : Int)) = true := by simp; omega
                have HX : Hid ((if bsOk R (swF f k t) t b = true then bsGo R (R - (t + 1)) (t + 1) (bsF (swF f k t) t b) (swF f k t t t) (-s) else none) = X) := Lib.hid (by
                  have := HX1.out
                  rw [if_neg hkt] at this
                  exact this)
                have HNZ : Hid (swF f k t t t ≠ 0) := Lib.hid (by rw [swF_t, HY.out]; exact HNZ0.out)
                have HF1 : Hid (∀ i c : Nat, i < R → c < R → -400000000 ≤ swF f k t i c ∧ swF f k t i c ≤ 400000000) := Lib.hid (fun i c hi hc => by
                  show -400000000 ≤ f (if i = k then t else if i = t then k else i) c ∧ f (if i = k then t else if i = t then k else i) c ≤ 400000000
                  exact HF.out _ _ (by split <;> (try split) <;> omega) hc)
                have HKT := Lib.hid hkt
                clear HX1 HNZ0 HX0 hkt
                go_wp2_with fail
                refine (impl_at_tb R R k t _ n2 cap2 f y HY.out _ (B := w.heap.size + 1) (Ko hown) (by omega) (by omega) hkR htR).mono ?_
                rintro e w1 ⟨rfl, hb⟩
                have hO_1 : BM w1 bO R R (some ⟨g, 0, none⟩) n2 cap2 := (Kb hO); have hown_1 : OR w1 (w.heap.size + 1) (.slice (some ⟨g, 0, none⟩) n2 cap2) (tb R R f) := (Ko hown); have hbw_1 : Below w.heap.size w w1 := Kw; clear hb; clear hO hown hbw oa ob oc of ol; have hO := hO_1; have hown := hown_1; have hbw := hbw_1; clear hO_1 hown_1 hbw_1; obtain ⟨oa, ob, oc, of, ol⟩ := hO.mx
                go_wp2_with fail
                refine (impl_rowOp_swap R R k t 0 _ n2 cap2 f _ (B := w.heap.size + 1) (Ko hown) hkR htR HKT.out (by omega) (by omega) (by omega)).mono ?_
                rintro e w1 ⟨rfl, hown_1, hgr_0, hsz_0⟩
                have hO_1 : BM w1 bO R R (some ⟨g, 0, none⟩) n2 cap2 := (hO.grown hgr_0 (by simp [Value.ownBlock]; omega)); have hbw_1 : Below w.heap.size w w1 := (hbw.trans (only_below hgr_0 (by omega) (by intro g' h; simp [Value.ownBlock] at h; omega))); clear hgr_0 hsz_0; clear hO hown hbw oa ob oc of ol; have hO := hO_1; have hown := hown_1; have hbw := hbw_1; clear hO_1 hown_1 hbw_1; obtain ⟨oa, ob, oc, of, ol⟩ := hO.mx
                generalize swF f k t = F1 at *
                have hs3 : IntKind.i64.wrap (-s) = -s := IntWalk.i64_in _ (by omega)
                have hs4 : -1 ≤ -s ∧ -s ≤ 1 := by omega
                go_wp2_with fail
                generalize -s = s1 at *
                obtain ⟨hs5, hs6⟩ := hs4
                go_wp2_with fail
                obtain ⟨wo3, rfl⟩ : ∃ wo : World, wo = w1 := ⟨_, rfl⟩
                go_loopw [10] (fun v wr => ∃ i : Nat, v = .int .i64 i ∧ t + 1 ≤ i ∧ i ≤ R ∧ BsN R F1 t b i (t + 1) ∧ BM wr bO R R (some ⟨g, 0, none⟩) n2 cap2 ∧ OR wr (w.heap.size + 1) (.slice (some ⟨g, 0, none⟩) n2 cap2) (tb R R (bsK F1 t b i (t + 1))) ∧ Below w.heap.size w wr) (fun v _ => R - (intOf v).toNat)
                case atStart => exact ⟨t + 1, by go_num, Nat.le_refl _, by omega, BsN.zero _ _ _ _, hO, by rw [bsK_zero]; exact hown, hbw⟩
                case round => as_aux_lemma =>
                  clear hO hown hbw oa ob oc of ol
                  obtain ⟨i, rfl, hi0, hi, hN0, hO, hown, hbw⟩ := hrel
                  have HN := Lib.hid hN0
                  clear hN0
                  obtain ⟨oa, ob, oc, of, ol⟩ := hO.mx
                  by_cases hiR : i < R
                  · go_wp2_with fail
                    obtain ⟨wo4, rfl⟩ : ∃ wo : World, wo = wr := ⟨_, rfl⟩
                    go_loopw [11] (fun v wr => ∃ j : Nat, v = .int .i64 j ∧ t + 1 ≤ j ∧ j ≤ R ∧ BsN R F1 t b i j ∧ BM wr bO R R (some ⟨g, 0, none⟩) n2 cap2 ∧ OR wr (w.heap.size + 1) (.slice (some ⟨g, 0, none⟩) n2 cap2) (tb R R (bsK F1 t b i j)) ∧ Below w.heap.size w wr) (fun v _ => R - (intOf v).toNat)
                    case atStart => exact ⟨t + 1, by go_num, Nat.le_refl _, by omega, HN.out, hO, hown, hbw⟩
                    case round => as_aux_lemma =>
                      clear hO hown hbw oa ob oc of ol
                      obtain ⟨j, rfl, hj0, hj, hN1, hO, hown, hbw⟩ := hrel
                      have HN1 := Lib.hid hN1
                      clear hN1
                      obtain ⟨oa, ob, oc, of, ol⟩ := hO.mx
                      by_cases hjR : j < R
                      · have z1b := HF1.out i j hiR hjR
                        have z2b := HF1.out t t htR htR
                        have z3b := HF1.out i t hiR htR
                        have z4b := HF1.out t j htR hjR
                        have HA1 := Lib.hid (bsK_at F1 t b i j)
                        have HA2 := Lib.hid (bsK_t F1 t b i j t)
                        have HA3 := Lib.hid (bsK_c F1 t b i j i)
                        have HA4 := Lib.hid (bsK_t F1 t b i j j)
                        have HST := Lib.hid (bsK_step (f := F1) b (show t < i by omega) (show t < j by omega))
                        have HNO : Hid (isNum (bsE F1 t b i j) = false → X = none) := Lib.hid (fun h => by
                          have := HX.out
                          rw [if_neg (by rw [bsOk_not (show t < i by omega) (show t < j by omega) hiR hjR h]; simp)] at this
                          exact this.symm)
                        have HNX : Hid (isNum (bsE F1 t b i j) = true → BsN R F1 t b i (j + 1)) := Lib.hid (fun h => HN1.out.step h)
                        rw [show bsE F1 t b i j = (F1 i j * F1 t t - F1 i t * F1 t j).tdiv b from rfl] at HST HNO HNX
                        generalize F1 i j = z1 at *
                        generalize F1 t t = z2 at *
                        generalize F1 i t = z3 at *
                        generalize F1 t j = z4 at *
                        obtain ⟨y1, y2⟩ := z1b
                        obtain ⟨y3, y4⟩ := z2b
                        obtain ⟨y5, y6⟩ := z3b
                        obtain ⟨y7, y8⟩ := z4b
                        have hm1 := mul_bd4 z1 z2 400000000 400000000 y1 y2 y3 y4
                        have hm2 := mul_bd4 z3 z4 400000000 400000000 y5 y6 y7 y8
                        have g1 : IntKind.i64.wrap (z1 * z2) = z1 * z2 := IntWalk.i64_in _ (by omega)
                        have g2 : IntKind.i64.wrap (z3 * z4) = z3 * z4 := IntWalk.i64_in _ (by omega)
                        have g3 : IntKind.i64.wrap (z1 * z2 - z3 * z4) = z1 * z2 - z3 * z4 := IntWalk.i64_in _ (by omega)
                        have hq := tdiv_absB (z1 * z2 - z3 * z4) b
                        have g4 : IntKind.i64.wrap ((z1 * z2 - z3 * z4).tdiv b) = (z1 * z2 - z3 * z4).tdiv b := IntWalk.i64_in _ (by omega)
                        clear hq hm1 hm2
                        go_wp2_with fail
                        ((refine wp_region_held_drew (S := (fun w' => w'.cell? ⟨bO, 0, none⟩ = some (.int .i64 R) ∧ w'.cell? ⟨bO, 1, none⟩ = some (.int .i64 R) ∧ w'.cell? ⟨bO, 2, none⟩ = some (.slice (some ⟨g, 0, none⟩) n2 cap2))) (by kernel_rfl) ?_ (fun hHeld => ?_)); ((focus ((try dsimp only); (go_keep)))); ((refine tk_ (i := 0) (v := ?_) (y := Or.inl ⟨by rfl, ?_⟩) (h := ?_); rotate_left; (focus (((intro w hSw; (try dsimp only at hSw); go_simp) <;> (try with_reducible rfl)); done)); (try simp only [Act.put, p1_, p2_, p3_]))); ((refine tk_ (i := 1) (v := ?_) (y := Or.inl ⟨by rfl, ?_⟩) (h := ?_); rotate_left; (focus (((intro w hSw; (try dsimp only at hSw); go_simp) <;> (try with_reducible rfl)); done)); (try simp only [Act.put, p1_, p2_, p3_]))); ((refine tk_ (i := 2) (v := ?_) (y := Or.inl ⟨by rfl, ?_⟩) (h := ?_); rotate_left; (focus (((intro w hSw; (try dsimp only at hSw); go_simp) <;> (try with_reducible rfl)); done)); (try simp only [Act.put, p1_, p2_, p3_]))); ((refine tk_ (i := 4) (v := ?_) (y := Or.inl ⟨by rfl, ?_⟩) (h := ?_); rotate_left; (focus (((intro w hSw; (try dsimp only at hSw); go_simp) <;> (try with_reducible rfl)); done)); (try simp only [Act.put, p1_, p2_, p3_]))); ((refine tk_ (i := 5) (v := ?_) (y := Or.inl ⟨by rfl, ?_⟩) (h := ?_); rotate_left; (focus (((intro w hSw; (try dsimp only at hSw); go_simp) <;> (try with_reducible rfl)); done)); (try simp only [Act.put, p1_, p2_, p3_]))); ((refine tk_ (i := 6) (v := ?_) (y := Or.inl ⟨by rfl, ?_⟩) (h := ?_); rotate_left; (focus (((intro w hSw; (try dsimp only at hSw); go_simp) <;> (try with_reducible rfl)); done)); (try simp only [Act.put, p1_, p2_, p3_]))); ((refine tk_ (i := 9) (v := ?_) (y := Or.inl ⟨by rfl, ?_⟩) (h := ?_); rotate_left; (focus (((intro w hSw; (try dsimp only at hSw); go_simp) <;> (try with_reducible rfl)); done)); (try simp only [Act.put, p1_, p2_, p3_]))); ((refine tk_ (i := 10) (v := ?_) (y := Or.inl ⟨by rfl, ?_⟩) (h := ?_); rotate_left; (focus (((intro w hSw; (try dsimp only at hSw); go_simp) <;> (try with_reducible rfl)); done)); (try simp only [Act.put, p1_, p2_, p3_]))); ((refine tk_ (i := 11) (v := ?_) (y := Or.inl ⟨by rfl, ?_⟩) (h := ?_); rotate_left; (focus (((intro w hSw; (try dsimp only at hSw); go_simp) <;> (try with_reducible rfl)); done)); (try simp only [Act.put, p1_, p2_, p3_]))); ((refine tk_ (i := 13) (v := ?_) (y := Or.inl ⟨by rfl, ?_⟩) (h := ?_); rotate_left; (focus (((intro w hSw; (try dsimp only at hSw); go_simp) <;> (try with_reducible rfl)); done)); (try simp only [Act.put, p1_, p2_, p3_]))); ((refine tk_ (i := 14) (v := ?_) (y := Or.inl ⟨by rfl, ?_⟩) (h := ?_); rotate_left; (focus (((intro w hSw; (try dsimp only at hSw); go_simp) <;> (try with_reducible rfl)); done)); (try simp only [Act.put, p1_, p2_, p3_]))); ((refine tk_ (i := 15) (v := ?_) (y := Or.inl ⟨by rfl, ?_⟩) (h := ?_); rotate_left; (focus (((intro w hSw; (try dsimp only at hSw); go_simp) <;> (try with_reducible rfl)); done)); (try simp only [Act.put, p1_, p2_, p3_]))); ((refine tk_ (i := 19) (v := ?_) (y := Or.inl ⟨by rfl, ?_⟩) (h := ?_); rotate_left; (focus (((intro w hSw; (try dsimp only at hSw); go_simp) <;> (try with_reducible rfl)); done)); (try simp only [Act.put, p1_, p2_, p3_]))); ((refine wpAnyH_ready (rs := [3]) (by kernel_rfl) (by simp) ?_; refine AllReadyH.cons (by simp only [e1_, e2_, e3_]; try rfl) (fun K hK => ?_) AllReadyH.nil; go_simp; (go_at_call 53; refine (impl_at_tb R R _ _ _ n2 cap2 (bsK F1 t b i j) z1 HA1.out _ (B := w.heap.size + 1) (Ko hown) (by omega) (by omega) (by omega) (by omega)).mono ?_; rintro e w1 ⟨rfl, hb⟩; have hO_1 : BM w1 bO R R (some ⟨g, 0, none⟩) n2 cap2 := (Kb hO); have hown_1 : OR w1 (w.heap.size + 1) (.slice (some ⟨g, 0, none⟩) n2 cap2) (tb R R (bsK F1 t b i j)) := (Ko hown); have hbw_1 : Below w.heap.size w w1 := Kw; clear hb; clear hO hown hbw oa ob oc of ol; have hO := hO_1; have hown := hown_1; have hbw := hbw_1; clear hO_1 hown_1 hbw_1; obtain ⟨oa, ob, oc, of, ol⟩ := hO.mx); (try go_wp2_with fail); refine hK.out _ _ ?_ (fun hHeld => ?_); (focus ((try dsimp only); (go_keep))); clear hK K; (try simp only [Act.put, p1_, p2_, p3_]))); ((refine wpAnyH_ready (rs := [7]) (by kernel_rfl) (by simp) ?_; refine AllReadyH.cons (by simp only [e1_, e2_, e3_]; try rfl) (fun K hK => ?_) AllReadyH.nil; go_simp; (go_at_call 53; refine (impl_at_tb R R _ _ _ n2 cap2 (bsK F1 t b i j) z2 HA2.out _ (B := w.heap.size + 1) (Ko hown) (by omega) (by omega) (by omega) (by omega)).mono ?_; rintro e w1 ⟨rfl, hb⟩; have hO_1 : BM w1 bO R R (some ⟨g, 0, none⟩) n2 cap2 := (Kb hO); have hown_1 : OR w1 (w.heap.size + 1) (.slice (some ⟨g, 0, none⟩) n2 cap2) (tb R R (bsK F1 t b i j)) := (Ko hown); have hbw_1 : Below w.heap.size w w1 := Kw; clear hb; clear hO hown hbw oa ob oc of ol; have hO := hO_1; have hown := hown_1; have hbw := hbw_1; clear hO_1 hown_1 hbw_1; obtain ⟨oa, ob, oc, of, ol⟩ := hO.mx); (try go_wp2_with fail); refine hK.out _ _ ?_ (fun hHeld => ?_); (focus ((try dsimp only); (go_keep))); clear hK K; (try simp only [Act.put, p1_, p2_, p3_]))); ((refine tk_ (i := 8) (v := ?_) (y := Or.inl ⟨by rfl, ?_⟩) (h := ?_); rotate_left; (focus (((intro w hSw; (try dsimp only at hSw); go_simp) <;> (try with_reducible rfl)); done)); (try simp only [Act.put, p1_, p2_, p3_]))); ((refine wpAnyH_ready (rs := [12]) (by kernel_rfl) (by simp) ?_; refine AllReadyH.cons (by simp only [e1_, e2_, e3_]; try rfl) (fun K hK => ?_) AllReadyH.nil; go_simp; (go_at_call 53; refine (impl_at_tb R R _ _ _ n2 cap2 (bsK F1 t b i j) z3 HA3.out _ (B := w.heap.size + 1) (Ko hown) (by omega) (by omega) (by omega) (by omega)).mono ?_; rintro e w1 ⟨rfl, hb⟩; have hO_1 : BM w1 bO R R (some ⟨g, 0, none⟩) n2 cap2 := (Kb hO); have hown_1 : OR w1 (w.heap.size + 1) (.slice (some ⟨g, 0, none⟩) n2 cap2) (tb R R (bsK F1 t b i j)) := (Ko hown); have hbw_1 : Below w.heap.size w w1 := Kw; clear hb; clear hO hown hbw oa ob oc of ol; have hO := hO_1; have hown := hown_1; have hbw := hbw_1; clear hO_1 hown_1 hbw_1; obtain ⟨oa, ob, oc, of, ol⟩ := hO.mx); (try go_wp2_with fail); refine hK.out _ _ ?_ (fun hHeld => ?_); (focus ((try dsimp only); (go_keep))); clear hK K; (try simp only [Act.put, p1_, p2_, p3_]))); ((refine wpAnyH_ready (rs := [16]) (by kernel_rfl) (by simp) ?_; refine AllReadyH.cons (by simp only [e1_, e2_, e3_]; try rfl) (fun K hK => ?_) AllReadyH.nil; go_simp; (go_at_call 53; refine (impl_at_tb R R _ _ _ n2 cap2 (bsK F1 t b i j) z4 HA4.out _ (B := w.heap.size + 1) (Ko hown) (by omega) (by omega) (by omega) (by omega)).mono ?_; rintro e w1 ⟨rfl, hb⟩; have hO_1 : BM w1 bO R R (some ⟨g, 0, none⟩) n2 cap2 := (Kb hO); have hown_1 : OR w1 (w.heap.size + 1) (.slice (some ⟨g, 0, none⟩) n2 cap2) (tb R R (bsK F1 t b i j)) := (Ko hown); have hbw_1 : Below w.heap.size w w1 := Kw; clear hb; clear hO hown hbw oa ob oc of ol; have hO := hO_1; have hown := hown_1; have hbw := hbw_1; clear hO_1 hown_1 hbw_1; obtain ⟨oa, ob, oc, of, ol⟩ := hO.mx); (try go_wp2_with fail); refine hK.out _ _ ?_ (fun hHeld => ?_); (focus ((try dsimp only); (go_keep))); clear hK K; (try simp only [Act.put, p1_, p2_, p3_]))); ((refine tk_ (i := 17) (v := ?_) (y := Or.inl ⟨by rfl, ?_⟩) (h := ?_); rotate_left; (focus (((intro w hSw; (try dsimp only at hSw); go_simp) <;> (try with_reducible rfl)); done)); (try simp only [Act.put, p1_, p2_, p3_]))); ((refine tk_ (i := 18) (v := ?_) (y := Or.inl ⟨by rfl, ?_⟩) (h := ?_); rotate_left; (focus (((intro w hSw; (try dsimp only at hSw); go_simp) <;> (try with_reducible rfl)); done)); (try simp only [Act.put, p1_, p2_, p3_]))); ((refine tk_ (i := 20) (v := ?_) (y := Or.inl ⟨by rfl, ?_⟩) (h := ?_); rotate_left; (focus (((intro w hSw; (try dsimp only at hSw); go_simp) <;> (try with_reducible rfl)); done)); (try simp only [Act.put, p1_, p2_, p3_]))); ((refine tk_ (i := 21) (v := ?_) (y := Or.inl ⟨by rfl, ?_⟩) (h := ?_); rotate_left; (focus (((intro w hSw; (try dsimp only at hSw); go_simp) <;> (try with_reducible rfl)); done)); (try simp only [Act.put, p1_, p2_, p3_]))); (refine wpAnyH_done (by kernel_rfl) ?_ _))
                        clear g1 g2 g3 g4
                        generalize (z1 * z2 - z3 * z4).tdiv b = x at *
                        rcases hx : isNum x with _ | _
                        · have HI := Lib.hid hx
                          clear hx
                          go_wp2_with fail
                          refine (impl_IsNumber x _).mono ?_
                          rw [HI.out]
                          rintro e w' ⟨rfl, rfl⟩
                          go_wp2_with fail
                          go_ret2
                          rw [HNO.out HI.out]
                          exact ⟨rfl, Kw⟩
                        · have HI := Lib.hid hx
                          clear hx
                          go_wp2_with fail
                          refine (impl_IsNumber x _).mono ?_
                          rw [HI.out]
                          rintro e w' ⟨rfl, rfl⟩
                          go_wp2_with fail
                          refine (impl_set_tb R R _ _ _ _ n2 cap2 (bsK F1 t b i j) (bsK F1 t b i (j + 1)) HST.out _ (B := w.heap.size + 1) (Ko hown) (by omega) (by omega) (by omega) (by omega)).mono ?_
                          rintro e w1 ⟨rfl, hown_1, hgr_0, hsz_0⟩
                          have hO_1 : BM w1 bO R R (some ⟨g, 0, none⟩) n2 cap2 := (hO.grown hgr_0 (by simp [Value.ownBlock]; omega)); have hbw_1 : Below w.heap.size w w1 := (hbw.trans (only_below hgr_0 (by omega) (by intro g' h; simp [Value.ownBlock] at h; omega))); clear hgr_0 hsz_0; clear hO hown hbw oa ob oc of ol; have hO := hO_1; have hown := hown_1; have hbw := hbw_1; clear hO_1 hown_1 hbw_1; obtain ⟨oa, ob, oc, of, ol⟩ := hO.mx
                          go_wp2_with fail
                          go_roundw
                          case rel => exact ⟨j + 1, by go_num, by omega, by omega, HNX.out HI.out, hO, hown, hbw⟩
                          case measure => simp only [intOf]; omega
                      · obtain rfl : R = j := by omega
                        have hnx := hown.as (bsK_row F1 t b i)
                        go_wp2_with fail
                        go_roundw
                        case rel => exact ⟨i + 1, by go_num, by omega, by omega, HN1.out.row, hO, hnx, hbw⟩
                        case measure => simp only [intOf]; omega
                  · obtain rfl : R = i := by omega
                    have hnx := hown.as (bsK_end F1 t b)
                    have HXN : Hid (bsGo R (R - (t + 1)) (t + 1) (bsF F1 t b) (F1 t t) s1 = X) := Lib.hid (by
                      have := HX.out
                      rw [if_pos HN.out.ok] at this
                      exact this)
                    have HFN := Lib.hid (HN.out.num HF1.out)
                    have HTT := Lib.hid (bsF_tt F1 t b)
                    have hd := HF1.out t t htR htR
                    clear hown
                    have hown := hnx
                    clear hnx HX HN HF1
                    generalize bsF F1 t b = F2 at *
                    generalize F1 t t = d at *
                    go_wp2_with fail
                    refine (impl_at_tb R R t t _ n2 cap2 F2 d HTT.out _ (B := w.heap.size + 1) (Ko hown) (by omega) (by omega) (by omega) (by omega)).mono ?_
                    rintro e w1 ⟨rfl, hb⟩
                    have hO_1 : BM w1 bO R R (some ⟨g, 0, none⟩) n2 cap2 := (Kb hO); have hown_1 : OR w1 (w.heap.size + 1) (.slice (some ⟨g, 0, none⟩) n2 cap2) (tb R R F2) := (Ko hown); have hbw_1 : Below w.heap.size w w1 := Kw; clear hb; clear hO hown hbw oa ob oc of ol; have hO := hO_1; have hown := hown_1; have hbw := hbw_1; clear hO_1 hown_1 hbw_1; obtain ⟨oa, ob, oc, of, ol⟩ := hO.mx
                    go_wp2_with fail
                    go_roundw
                    case rel => exact ⟨t + 1, F2, s1, d, rfl, rfl, by go_num, by omega, by omega, by omega, HNZ.out, hd.1, hd.2, HFN.out, HXN.out, hO, hown, hbw⟩
                    case measure => simp only [intOf]; omega
          · obtain rfl : k = R := by omega
            have hP : fnd f t (k - t) t = k := hfn.out.symm.trans (fnd_end f t k)
            have hX : X = some 0 := HX0.out.symm.trans (bsGo_none htR hP)
            subst hX
            clear hP
            go_wp2_with fail
            go_ret2
            exact ⟨rfl, Kw⟩
      · obtain rfl : t = R := by omega
        have hX : X = some (s * b) := HX0.out.symm.trans (bsGo_end _ _ _ _)
        subst hX
        have hm := mul_bd4 s b 1 400000000 hs1 hs2 hbl hbh
        have g1 : IntKind.i64.wrap (s * b) = s * b := IntWalk.i64_in _ (by omega)
        go_wp2_with fail
        go_ret2
        exact ⟨rfl, Kw⟩
end Go.Proofs.Ytlggfmfelakadaa

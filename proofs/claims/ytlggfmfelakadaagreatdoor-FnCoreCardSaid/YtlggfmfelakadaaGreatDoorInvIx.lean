/-
  DERIVED. InverseMod of the program.
-/
import Derived.Test.YtlggfmfelakadaaGreatDoorc8
import Derived.Test.YtlggfmfelakadaaGreatDoorc7
import Derived.Test.YtlggfmfelakadaaGreatDoorc4
namespace Go.Proofs.YtlggfmfelakadaaGreatDoor
open Go.RowKit
set_option linter.unusedVariables false
set_option linter.unusedSimpArgs false
set_option maxRecDepth 100000 in
set_option maxHeartbeats 8000000 in
theorem impl_InverseMod (r c p : Int) (A : Option Addr) (n cap : Nat) (xs : List Int) (w : World) {B : Nat} (h : RI w B A n xs) (hB : B ≤ w.heap.size) (hn : n ≤ 1048576) :
    Calls Tryz.prog 31 #[.agg #[.int .i64 r, .int .i64 c, .slice A n cap], .int .i64 p] w (MBR (imM r c xs p) (imB r c xs p) w) := by
  have H2 := Lib.hid (h.more hB)
  clear h
  rcases im_cases r c xs p with ⟨hb, hi⟩ | ⟨hb, hrc, hi⟩ | ⟨hb, hrc, h12, hi⟩ | ⟨hb, hrc, h12, hi⟩
  · rw [imM_no hi, hi]
    have HB := Lib.hid hb
    have HX := Lib.hid (redM_no hb)
    clear hb hi
    go_enter Tryz.func31, Tryz.ntmps31
    go_wp2_with fail
    refine (impl_ReduceMod r c p A n cap xs _ (B := w.heap.size) (Kr H2.out) Ks hn).mono ?_; rw [HB.out, HX.out]; rintro e w1 ⟨A', n', cap', rfl, hown, hb1⟩; have hsz1 := hb1.size; simp at hsz1; have hM1 : BM w1 w.heap.size r c A n cap := Ka; have hR1 : BM w1 (w.heap.size + 1) 0 0 none 0 0 := Ka; have hbw1 : Below w.heap.size w w1 := Kw; obtain ⟨ma, mb, mc, mf, ml⟩ := hM1.mx; obtain ⟨ra, rb, rc, rf, rl⟩ := hR1.mx
    go_wp2_with fail
    refine ret_MB (r := 0) (c := 0) (A := none) (n := 0) (cap := 0) Tryz.results31 rfl (Kb hR1) rfl ?_
    exact MBR.mk rfl (OR.nil_ _ _) Kw
  · rw [imM_no hi, hi]
    have HB := Lib.hid hb
    have HX := Lib.hid (redOk hb).mx
    clear hb hi
    go_enter Tryz.func31, Tryz.ntmps31
    go_wp2_with fail
    refine (impl_ReduceMod r c p A n cap xs _ (B := w.heap.size) (Kr H2.out) Ks hn).mono ?_; rw [HB.out, HX.out]; rintro e w1 ⟨A', n', cap', rfl, hown, hb1⟩; have hsz1 := hb1.size; simp at hsz1; have hM1 : BM w1 w.heap.size r c A n cap := Ka; have hR1 : BM w1 (w.heap.size + 1) 0 0 none 0 0 := Ka; have hbw1 : Below w.heap.size w w1 := Kw; obtain ⟨ma, mb, mc, mf, ml⟩ := hM1.mx; obtain ⟨ra, rb, rc, rf, rl⟩ := hR1.mx
    go_wp2_with fail
    refine ret_MB (r := 0) (c := 0) (A := none) (n := 0) (cap := 0) Tryz.results31 rfl (Kb hR1) rfl ?_
    exact MBR.mk rfl (OR.nil_ _ _) Kw
  · rw [imM_no hi, hi]
    have HB := Lib.hid hb
    have HX := Lib.hid (redOk hb).mx
    have hrb : (r != c) = false := by simpa using hrc
    clear hb hi hrc
    go_enter Tryz.func31, Tryz.ntmps31
    go_wp2_with fail
    refine (impl_ReduceMod r c p A n cap xs _ (B := w.heap.size) (Kr H2.out) Ks hn).mono ?_; rw [HB.out, HX.out]; rintro e w1 ⟨A', n', cap', rfl, hown, hb1⟩; have hsz1 := hb1.size; simp at hsz1; have hM1 : BM w1 w.heap.size r c A n cap := Ka; have hR1 : BM w1 (w.heap.size + 1) 0 0 none 0 0 := Ka; have hbw1 : Below w.heap.size w w1 := Kw; obtain ⟨ma, mb, mc, mf, ml⟩ := hM1.mx; obtain ⟨ra, rb, rc, rf, rl⟩ := hR1.mx
    go_wp2_with fail
    refine ret_MB (r := 0) (c := 0) (A := none) (n := 0) (cap := 0) Tryz.results31 rfl (Kb hR1) rfl ?_
    exact MBR.mk rfl (OR.nil_ _ _) Kw
  · subst hrc
    have K := redOk hb
    have HI := Lib.hid hi
    have HB := Lib.hid hb
    have HX := Lib.hid K.mx
    have HT := Lib.hid K.tb_
    have HF := Lib.hid K.f0
    have HR : Hid (runE r.toNat r.toNat p (wideF r.toNat (rmF r xs p)) = imS r r xs p) := Lib.hid rfl
    have HNO := Lib.hid (@imM_no r r xs p)
    have HYES := Lib.hid (@imM_yes r r xs p)
    obtain ⟨hp1, hp2⟩ := K.pb
    obtain ⟨R, rfl⟩ := nat_of K.m.r0
    have hrb : ((R : Int) != (R : Int)) = false := by simp
    clear hb hi K
    generalize imS (R : Int) (R : Int) xs p = X at *
    simp only [Int.toNat_natCast] at HT HF HR HYES
    generalize rmF (R : Int) xs p = f at *
    generalize imB (R : Int) (R : Int) xs p = vb at *
    generalize imM (R : Int) (R : Int) xs p = vm at *
    have HWF := Lib.hid (wideF_bd (n := R) hp1 HF.out)
    obtain ⟨D, hD⟩ : ∃ D : Nat, D = 2 * R := ⟨_, rfl⟩
    have hD2 : (2 : Int) * (R : Int) = (D : Int) := by omega
    have HD := Lib.hid hD2
    have hD3 : D ≤ 2 * R ∧ 2 * R ≤ D := by omega
    have hRD : R * D ≤ 12 * 24 := Nat.mul_le_mul (by omega) (by omega)
    have hRR : R * R ≤ 12 * 12 := Nat.mul_le_mul (by omega) (by omega)
    clear hD hD2
    go_enter Tryz.func31, Tryz.ntmps31
    go_wp2_with fail
    refine (impl_ReduceMod R R p A n cap xs _ (B := w.heap.size) (Kr H2.out) Ks hn).mono ?_
    rw [HB.out, HX.out]
    rintro e w1 ⟨A', n', cap', rfl, hown, hb1⟩
    have hsz1 := hb1.size
    simp at hsz1
    have hM1 : BM w1 w.heap.size R R A n cap := Ka
    have hR1 : BM w1 (w.heap.size + 1) 0 0 none 0 0 := Ka
    have hbw1 : Below w.heap.size w w1 := Kw
    have hoa1 : OR w1 (w.heap.size + 1 + 1) (.slice A' n' cap') (tb R R f) := by
      have := hown
      rw [show (⟨(R : Int), (R : Int), redL xs p⟩ : Mx).xs = redL xs p from rfl, HT.out] at this
      simpa using this
    have HUA : Hid (Own (.slice A' n' cap') (w.heap.size + 1 + 1) w1.heap.size) := Lib.hid (hoa1.own.wide (Nat.le_refl _) (Nat.le_refl _))
    have hl1 := hM1.lt
    obtain ⟨ma, mb, mc, mf, ml⟩ := hM1.mx
    clear hown
    go_wp2_with fail
    rw [HD.out]
    refine (impl_newMatrix R D _ (by omega) (by omega) (by omega)).mono ?_
    rintro e w2 ⟨Aw, nw, cw, rfl, how0, hb2⟩
    have hsz2 := hb2.size
    simp at hsz2
    generalize hbO : w2.heap.size = bO at *
    have hR : BM (w2.alloc (.cells #[.int .i64 R, .int .i64 D, .slice Aw nw cw] 26)) (w.heap.size + 1) 0 0 none 0 0 := Kb hR1
    have hA : BM (w2.alloc (.cells #[.int .i64 R, .int .i64 D, .slice Aw nw cw] 26)) w1.heap.size R R A' n' cap' := Ka
    have hW : BM (w2.alloc (.cells #[.int .i64 R, .int .i64 D, .slice Aw nw cw] 26)) bO R D Aw nw cw := Ka
    have hoa : OR (w2.alloc (.cells #[.int .i64 R, .int .i64 D, .slice Aw nw cw] 26)) (w.heap.size + 1 + 1) (.slice A' n' cap') (tb R R f) := Ko hoa1
    have how : OR (w2.alloc (.cells #[.int .i64 R, .int .i64 D, .slice Aw nw cw] 26)) (w1.heap.size + 1) (.slice Aw nw cw) (tb R D (wK R f 0)) := by
      rw [wK_zero, tb_zeros]; exact (OR.mono (xs := List.replicate (R * D) 0) how0 (by simp)).alloc _
    have hbw : Below w.heap.size w (w2.alloc (.cells #[.int .i64 R, .int .i64 D, .slice Aw nw cw] 26)) := Kw
    have HU : Hid (Own (.slice Aw nw cw) (w1.heap.size + 1) bO) := Lib.hid (by rw [← hbO]; exact (OR.own (xs := List.replicate (R * D) 0) how0).wide (by simp) (Nat.le_refl _))
    have hnw := how.lenEq
    rw [tb_len] at hnw
    have hcw := how.caps
    have hna := hoa.lenEq
    rw [tb_len] at hna
    have hca := hoa.caps
    have HNW : Hid (nw ≤ R * D ∧ R * D ≤ nw ∧ n' ≤ R * R ∧ R * R ≤ n') := Lib.hid (by omega)
    clear hnw hna hM1 hR1 hbw1 hoa1 ma mb mc mf ml how0 hb2 hb1
    obtain ⟨aa, ab, ac, af, al⟩ := hA.mx; obtain ⟨oa, ob, oc, of, ol⟩ := hW.mx
    go_wp2_with fail
    generalize hwo : w2.alloc (.cells #[.int .i64 R, .int .i64 D, .slice Aw nw cw] 26) = wo at *
    clear hwo
    go_loopw [10] (fun v wr => ∃ i : Nat, v = .int .i64 i ∧ i ≤ R ∧ BM wr (w.heap.size + 1) 0 0 none 0 0 ∧ BM wr w1.heap.size R R A' n' cap' ∧ BM wr bO R D Aw nw cw ∧ OR wr (w.heap.size + 1 + 1) (.slice A' n' cap') (tb R R f) ∧ OR wr (w1.heap.size + 1) (.slice Aw nw cw) (tb R D ((wK R f i))) ∧ Below w.heap.size w wr) (fun v _ => R - (intOf v).toNat)
    case atStart => exact ⟨0, rfl, Nat.zero_le _, hR, hA, hW, hoa, how, hbw⟩
    case round =>
      clear aa ab ac af al oa ob oc of ol
      clear hR hA hW hoa how hbw
      obtain ⟨i, rfl, hi, hR, hA, hW, hoa, how, hbw⟩ := hrel
      have hlw := hW.lt
      by_cases hiR : i < R
      · obtain ⟨g, rfl, hg1, hg2⟩ := how.begins (by rw [tb_len]; exact Nat.mul_pos (by omega) (by omega))
        have hgb := HU.out g rfl
        have hfitw : i * D + D ≤ R * D := by
          have h3 := Nat.mul_le_mul_right D (show i + 1 ≤ R by omega); rw [Nat.add_mul, Nat.one_mul] at h3; exact h3
        have hfita : i * R + R ≤ R * R := by
          have h3 := Nat.mul_le_mul_right R (show i + 1 ≤ R by omega); rw [Nat.add_mul, Nat.one_mul] at h3; exact h3
        have e1 : (i : Int) * (D : Int) = ((i * D : Nat) : Int) := by rw [Int.natCast_mul]
        have e2 : 0 ≤ (i : Int) * (D : Int) ∧ (i : Int) * (D : Int) ≤ 10000 := by omega
        have e3 : (i : Int) * (D : Int) + ((R : Int) + (i : Int)) < (nw : Int) := by have := HNW.out; omega
        have e4 : ((i : Int) * (D : Int) + ((R : Int) + (i : Int))).toNat = i * D + (R + i) := by omega
        have E4 := Lib.hid e4
        clear e1 e4
        obtain ⟨aa, ab, ac, af, al⟩ := hA.mx; obtain ⟨oa, ob, oc, of, ol⟩ := hW.mx
        go_wp2_with fail
        ((refine wp_region_held_drew (S := (fun w' => w'.cell? ⟨bO, 0, none⟩ = some (.int .i64 R) ∧ w'.cell? ⟨bO, 1, none⟩ = some (.int .i64 D) ∧ w'.cell? ⟨bO, 2, none⟩ = some (.slice (some ⟨g, 0, none⟩) nw cw) ∧ w'.cell? ⟨w1.heap.size, 0, none⟩ = some (.int .i64 R) ∧ w'.cell? ⟨w1.heap.size, 1, none⟩ = some (.int .i64 R) ∧ w'.cell? ⟨w1.heap.size, 2, none⟩ = some (.slice A' n' cap'))) (by kernel_rfl) ?_ (fun hHeld => ?_)); ((focus ((try dsimp only); (go_keep)))); ((refine tk_ (i := 0) (v := ?_) (y := Or.inl ⟨by rfl, ?_⟩) (h := ?_); rotate_left; (focus (((intro w hSw; (try dsimp only at hSw); go_simp) <;> (try with_reducible rfl)); done)); (try simp only [Act.put, p1_, p2_, p3_]))); ((refine tk_ (i := 1) (v := ?_) (y := Or.inl ⟨by rfl, ?_⟩) (h := ?_); rotate_left; (focus (((intro w hSw; (try dsimp only at hSw); go_simp) <;> (try with_reducible rfl)); done)); (try simp only [Act.put, p1_, p2_, p3_]))); ((refine tk_ (i := 3) (v := ?_) (y := Or.inl ⟨by rfl, ?_⟩) (h := ?_); rotate_left; (focus (((intro w hSw; (try dsimp only at hSw); go_simp) <;> (try with_reducible rfl)); done)); (try simp only [Act.put, p1_, p2_, p3_]))); ((refine tk_ (i := 4) (v := ?_) (y := Or.inl ⟨by rfl, ?_⟩) (h := ?_); rotate_left; (focus (((intro w hSw; (try dsimp only at hSw); go_simp) <;> (try with_reducible rfl)); done)); (try simp only [Act.put, p1_, p2_, p3_]))); ((refine wpAnyH_ready (rs := [2]) (by kernel_rfl) (by simp) ?_; refine AllReadyH.cons (by simp only [e1_, e2_, e3_]; try rfl) (fun K hK => ?_) AllReadyH.nil; go_simp; (refine (impl_row_own R D i g nw cw _ Ks (by omega) (by omega) (by omega) (by omega) (by omega) (by have := HNW.out; omega)).mono ?_; rintro e w3 ⟨rfl, hb3⟩; have hsz_0 := hb3.size; (try simp at hsz_0); have hR_1 : BM w3 (w.heap.size + 1) 0 0 none 0 0 := (Kb hR); have hA_1 : BM w3 w1.heap.size R R A' n' cap' := (Kb hA); have hW_1 : BM w3 bO R D (some ⟨g, 0, none⟩) nw cw := (Kb hW); have hoa_1 : OR w3 (w.heap.size + 1 + 1) (.slice A' n' cap') (tb R R f) := (Ko hoa); have how_1 : OR w3 (w1.heap.size + 1) (.slice (some ⟨g, 0, none⟩) nw cw) (tb R D (wK R f i)) := (Ko how); have hbw_1 : Below w.heap.size w w3 := Kw; clear aa ab ac af al oa ob oc of ol; clear hR hA hW hoa how hbw; have hR := hR_1; have hA := hA_1; have hW := hW_1; have hoa := hoa_1; have how := how_1; have hbw := hbw_1; clear hR_1 hA_1 hW_1 hoa_1 how_1 hbw_1; obtain ⟨aa, ab, ac, af, al⟩ := hA.mx; obtain ⟨oa, ob, oc, of, ol⟩ := hW.mx); (try go_wp2_with fail); refine hK.out _ _ ?_ (fun hHeld => ?_); (focus ((try dsimp only); (go_keep))); clear hK K; (try simp only [Act.put, p1_, p2_, p3_]))); ((refine wpAnyH_ready (rs := [5]) (by kernel_rfl) (by simp) ?_; refine AllReadyH.cons (by simp only [e1_, e2_, e3_]; try rfl) (fun K hK => ?_) AllReadyH.nil; go_simp; (refine (impl_row R R i A' n' cap' (tb R R f) _ (OR.reads (B := w.heap.size + 1 + 1) (cap := cap') (Ko hoa)) (Nat.le_refl _) (by omega) (by omega) (by omega) (by omega) (by have := HNW.out; omega)).mono ?_; rintro e w4 ⟨As, cs, rfl, hri, hb4, hcs1, hcs2⟩; have hsz_0 := hb4.size; (try simp at hsz_0); have hR_1 : BM w4 (w.heap.size + 1) 0 0 none 0 0 := (Kb hR); have hA_1 : BM w4 w1.heap.size R R A' n' cap' := (Kb hA); have hW_1 : BM w4 bO R D (some ⟨g, 0, none⟩) nw cw := (Kb hW); have hoa_1 : OR w4 (w.heap.size + 1 + 1) (.slice A' n' cap') (tb R R f) := (Ko hoa); have how_1 : OR w4 (w1.heap.size + 1) (.slice (some ⟨g, 0, none⟩) nw cw) (tb R D (wK R f i)) := (Ko how); have hbw_1 : Below w.heap.size w w4 := Kw; clear aa ab ac af al oa ob oc of ol; clear hR hA hW hoa how hbw; have hR := hR_1; have hA := hA_1; have hW := hW_1; have hoa := hoa_1; have how := how_1; have hbw := hbw_1; clear hR_1 hA_1 hW_1 hoa_1 how_1 hbw_1; obtain ⟨aa, ab, ac, af, al⟩ := hA.mx; obtain ⟨oa, ob, oc, of, ol⟩ := hW.mx); (try go_wp2_with fail); refine hK.out _ _ ?_ (fun hHeld => ?_); (focus ((try dsimp only); (go_keep))); clear hK K; (try simp only [Act.put, p1_, p2_, p3_]))); ((refine wpAnyH_ready (rs := [6]) (by kernel_rfl) (by simp) ?_; refine AllReadyH.cons (by simp only [e1_, e2_, e3_]; try rfl) (fun K hK => ?_) AllReadyH.nil; (refine step_copy_win _ rfl (.tmp 49) (.tmp 52) rfl (w1.heap.size + 1) (some ⟨g, 0, none⟩) nw cw (tb R D (wK R f i)) (Ko how) (i * D) R D (cw - i * D) cs (by omega) (some ⟨g, i * D, none⟩) As rfl rfl _ (rowL (tb R R f) R i) (Kr hri) (by rw [tb_len]; omega) (fun _ => by simp [addr_add]) ?_; intro w5 hst_0 hgr_0 hsz_0; (try simp at hsz_0); rw [wR_row hiR (by omega)] at hst_0; have hR_1 := BX.keptOwn (b := w.heap.size + 1) (Kb hR) hgr_0 HU.out (by omega); have hA_1 := BX.keptOwn (b := w1.heap.size) (Kb hA) hgr_0 HU.out (by omega); have hW_1 := BX.keptOwn (b := bO) (Kb hW) hgr_0 HU.out (by omega); have hoa_1 := OR.keptOwn (B := w.heap.size + 1 + 1) (Ko hoa) hgr_0 HUA.out HU.out (by omega); have hbw_1 : Below w.heap.size w w5 := Below.trans Kw (below_keptOwn hgr_0 HU.out (by omega) Ks); have how_1 := hst_0; clear hgr_0 hst_0; clear aa ab ac af al oa ob oc of ol; clear hR hA hW hoa how hbw; have hR := hR_1; have hA := hA_1; have hW := hW_1; have hoa := hoa_1; have how := how_1; have hbw := hbw_1; clear hR_1 hA_1 hW_1 hoa_1 how_1 hbw_1; obtain ⟨aa, ab, ac, af, al⟩ := hA.mx; obtain ⟨oa, ob, oc, of, ol⟩ := hW.mx); refine hK.out _ _ ?_ (fun hHeld => ?_); (focus ((try dsimp only); (go_keep))); clear hK K; (try simp only [Act.put, p1_, p2_, p3_]))); (refine wpAnyH_done (by kernel_rfl) ?_ _))
        clear hri
        go_wp2_with fail
        refine (impl_set R D i ((R : Int) + (i : Int)) 1 (some ⟨g, 0, none⟩) nw cw _ _ (B := w1.heap.size + 1) (Ko how) e2 ⟨by omega, by omega⟩ e3).mono ?_
        rintro e w6 ⟨rfl, hst_0, hgr_0, hsz_0⟩
        rw [E4.out, tb_set hiR (by omega), wR_end] at hst_0
        have hR_1 := BX.keptOwn (b := w.heap.size + 1) (Kb hR) hgr_0 HU.out (by omega); have hA_1 := BX.keptOwn (b := w1.heap.size) (Kb hA) hgr_0 HU.out (by omega); have hW_1 := BX.keptOwn (b := bO) (Kb hW) hgr_0 HU.out (by omega); have hoa_1 := OR.keptOwn (B := w.heap.size + 1 + 1) (Ko hoa) hgr_0 HUA.out HU.out (by omega); have hbw_1 : Below w.heap.size w w6 := Below.trans Kw (below_keptOwn hgr_0 HU.out (by omega) Ks); have how_1 := hst_0; clear hgr_0 hst_0; clear aa ab ac af al oa ob oc of ol; clear hR hA hW hoa how hbw; have hR := hR_1; have hA := hA_1; have hW := hW_1; have hoa := hoa_1; have how := how_1; have hbw := hbw_1; clear hR_1 hA_1 hW_1 hoa_1 how_1 hbw_1; obtain ⟨aa, ab, ac, af, al⟩ := hA.mx; obtain ⟨oa, ob, oc, of, ol⟩ := hW.mx
        go_wp2_with fail
        go_roundw
        case rel => exact ⟨i + 1, by go_num, by omega, hR, hA, hW, hoa, how, hbw⟩
        case measure => simp only [intOf]; omega
      · obtain rfl : i = R := by omega
        have how2 := how.as (wK_end i f)
        clear how
        obtain ⟨aa, ab, ac, af, al⟩ := hA.mx; obtain ⟨oa, ob, oc, of, ol⟩ := hW.mx
        go_wp2_with fail
        refine (impl_eliminate i D i p Aw nw cw (wideF i f) _ (B := w1.heap.size + 1) (Ko how2) (by omega) (by omega) (by omega) ⟨hp1, hp2⟩ HWF.out).mono ?_
        rw [HR.out]
        rintro e w3 ⟨rfl, hst_0, hgr_0, hsz_0⟩
        have hR3 := BX.keptOwn (b := w.heap.size + 1) (Kb hR) hgr_0 HU.out (by omega)
        have hW3 := BX.keptOwn (b := bO) (Kb hW) hgr_0 HU.out (by omega)
        have hbw3 : Below w.heap.size w w3 := Below.trans Kw (below_keptOwn hgr_0 HU.out (by omega) Ks)
        have hlw3 := hW3.lt
        clear aa ab ac af al oa ob oc of ol
        clear hR hA hW hoa hbw hgr_0 how2
        obtain ⟨ra, rb, rc, rf, rl⟩ := hR3.mx
        obtain ⟨oa, ob, oc, of, ol⟩ := hW3.mx
        by_cases ht : X.t < i
        · have hno : vb = false := by rw [HI.out]; simp; omega
          have HV := Lib.hid hno
          clear hno
          go_wp2_with fail
          refine ret_MB (r := 0) (c := 0) (A := none) (n := 0) (cap := 0) Tryz.results31 rfl (Kb hR3) rfl ?_
          rw [HNO.out HV.out, HV.out]
          exact MBR.mk rfl (OR.nil_ _ _) Kw
        · have hyes : vb = true := by rw [HI.out]; simp; omega
          have HV := Lib.hid hyes
          clear hyes
          go_wp2_with fail
          refine (impl_newMatrix i i _ (by omega) (by omega) (by omega)).mono ?_
          rintro e w4 ⟨Ao, no, co, rfl, hoo0, hb4⟩
          have hsz4 := hb4.size
          have hst : OR w3 (w1.heap.size + 1) (.slice Aw nw cw) (tb i D X.f) := hst_0
          generalize hbU : w4.heap.size = bU at *
          have hR : BM (w4.alloc (.cells #[.int .i64 i, .int .i64 i, .slice Ao no co] 26)) (w.heap.size + 1) 0 0 none 0 0 := Kb hR3
          have hW : BM (w4.alloc (.cells #[.int .i64 i, .int .i64 i, .slice Ao no co] 26)) bO i D Aw nw cw := Kb hW3
          have hO : BM (w4.alloc (.cells #[.int .i64 i, .int .i64 i, .slice Ao no co] 26)) bU i i Ao no co := Ka
          have how : OR (w4.alloc (.cells #[.int .i64 i, .int .i64 i, .slice Ao no co] 26)) (w1.heap.size + 1) (.slice Aw nw cw) (tb i D X.f) := Ko hst
          have hoo : OR (w4.alloc (.cells #[.int .i64 i, .int .i64 i, .slice Ao no co] 26)) w3.heap.size (.slice Ao no co) (tb i i (oK i X.f 0)) := by
            rw [oK_zero, tb_zeros]; exact OR.alloc (xs := List.replicate (i * i) 0) hoo0 _
          have hbw : Below w.heap.size w (w4.alloc (.cells #[.int .i64 i, .int .i64 i, .slice Ao no co] 26)) := Kw
          have HUO : Hid (Own (.slice Ao no co) w3.heap.size bU) := Lib.hid (by rw [← hbU]; exact OR.own (xs := List.replicate (i * i) 0) hoo0)
          have hno := hoo.lenEq
          rw [tb_len] at hno
          have hco := hoo.caps
          have HNO2 : Hid (no ≤ i * i ∧ i * i ≤ no) := Lib.hid (by omega)
          clear hno hR3 hW3 hbw3 ra rb rc rf rl oa ob oc of ol hoo0 hb4 hst_0 hst
          obtain ⟨oa, ob, oc, of, ol⟩ := hW.mx
          obtain ⟨ua, ub, uc, uf, ul⟩ := hO.mx
          go_wp2_with fail
          generalize hwo : w4.alloc (.cells #[.int .i64 i, .int .i64 i, .slice Ao no co] 26) = wo2 at *
          clear hwo
          go_loopw [14] (fun v wr => ∃ m : Nat, v = .int .i64 m ∧ m ≤ i ∧ BM wr (w.heap.size + 1) 0 0 none 0 0 ∧ BM wr bO i D Aw nw cw ∧ BM wr bU i i Ao no co ∧ OR wr (w1.heap.size + 1) (.slice Aw nw cw) (tb i D X.f) ∧ OR wr w3.heap.size (.slice Ao no co) (tb i i ((oK i X.f m))) ∧ Below w.heap.size w wr) (fun v _ => i - (intOf v).toNat)
          case atStart => exact ⟨0, rfl, Nat.zero_le _, hR, hW, hO, how, hoo, hbw⟩
          case round =>
            clear ua ub uc uf ul oa ob oc of ol
            clear hR hW hO how hoo hbw
            obtain ⟨m, rfl, hm, hR, hW, hO, how, hoo, hbw⟩ := hrel
            have hlo := hO.lt
            by_cases hmR : m < i
            · obtain ⟨gw, rfl, hg1, hg2⟩ := how.begins (by rw [tb_len]; exact Nat.mul_pos (by omega) (by omega))
              obtain ⟨go, rfl, hg3, hg4⟩ := hoo.begins (by rw [tb_len]; exact Nat.mul_pos (by omega) (by omega))
              have hgb := HU.out gw rfl
              have hgb2 := HUO.out go rfl
              have hfitw : m * D + D ≤ i * D := by
                have h3 := Nat.mul_le_mul_right D (show m + 1 ≤ i by omega); rw [Nat.add_mul, Nat.one_mul] at h3; exact h3
              have hfita : m * i + i ≤ i * i := by
                have h3 := Nat.mul_le_mul_right i (show m + 1 ≤ i by omega); rw [Nat.add_mul, Nat.one_mul] at h3; exact h3
              have hcap1 : m * D + D ≤ cw := by have := HNW.out; omega
              have hcap2 : (i : Int) ≤ ((cw - m * D : Nat) : Int) := by omega
              have hcap3 : (i : Int) ≤ (D : Int) := by omega
              have hcap4 : i < cw - m * D := by omega
              obtain ⟨ua, ub, uc, uf, ul⟩ := hO.mx; obtain ⟨oa, ob, oc, of, ol⟩ := hW.mx
              go_wp2_with fail
              ((refine wp_region_held_drew (S := (fun w' => w'.cell? ⟨bO, 0, none⟩ = some (.int .i64 i) ∧ w'.cell? ⟨bO, 1, none⟩ = some (.int .i64 D) ∧ w'.cell? ⟨bO, 2, none⟩ = some (.slice (some ⟨gw, 0, none⟩) nw cw) ∧ w'.cell? ⟨bU, 0, none⟩ = some (.int .i64 i) ∧ w'.cell? ⟨bU, 1, none⟩ = some (.int .i64 i) ∧ w'.cell? ⟨bU, 2, none⟩ = some (.slice (some ⟨go, 0, none⟩) no co))) (by kernel_rfl) ?_ (fun hHeld => ?_)); ((focus ((try dsimp only); (go_keep)))); ((refine tk_ (i := 0) (v := ?_) (y := Or.inl ⟨by rfl, ?_⟩) (h := ?_); rotate_left; (focus (((intro w hSw; (try dsimp only at hSw); go_simp) <;> (try with_reducible rfl)); done)); (try simp only [Act.put, p1_, p2_, p3_]))); ((refine tk_ (i := 1) (v := ?_) (y := Or.inl ⟨by rfl, ?_⟩) (h := ?_); rotate_left; (focus (((intro w hSw; (try dsimp only at hSw); go_simp) <;> (try with_reducible rfl)); done)); (try simp only [Act.put, p1_, p2_, p3_]))); ((refine tk_ (i := 3) (v := ?_) (y := Or.inl ⟨by rfl, ?_⟩) (h := ?_); rotate_left; (focus (((intro w hSw; (try dsimp only at hSw); go_simp) <;> (try with_reducible rfl)); done)); (try simp only [Act.put, p1_, p2_, p3_]))); ((refine tk_ (i := 4) (v := ?_) (y := Or.inl ⟨by rfl, ?_⟩) (h := ?_); rotate_left; (focus (((intro w hSw; (try dsimp only at hSw); go_simp) <;> (try with_reducible rfl)); done)); (try simp only [Act.put, p1_, p2_, p3_]))); ((refine tk_ (i := 6) (v := ?_) (y := Or.inl ⟨by rfl, ?_⟩) (h := ?_); rotate_left; (focus (((intro w hSw; (try dsimp only at hSw); go_simp) <;> (try with_reducible rfl)); done)); (try simp only [Act.put, p1_, p2_, p3_]))); ((refine wpAnyH_ready (rs := [2]) (by kernel_rfl) (by simp) ?_; refine AllReadyH.cons (by simp only [e1_, e2_, e3_]; try rfl) (fun K hK => ?_) AllReadyH.nil; go_simp; (refine (impl_row_own i i m go no co _ Ks (by omega) (by omega) (by omega) (by omega) (by omega) (by have := HNO2.out; omega)).mono ?_; rintro e w5 ⟨rfl, hb5⟩; have hsz_0 := hb5.size; (try simp at hsz_0); have hR_1 : BM w5 (w.heap.size + 1) 0 0 none 0 0 := (Kb hR); have hW_1 : BM w5 bO i D (some ⟨gw, 0, none⟩) nw cw := (Kb hW); have hO_1 : BM w5 bU i i (some ⟨go, 0, none⟩) no co := (Kb hO); have how_1 : OR w5 (w1.heap.size + 1) (.slice (some ⟨gw, 0, none⟩) nw cw) (tb i D X.f) := (Ko how); have hoo_1 : OR w5 w3.heap.size (.slice (some ⟨go, 0, none⟩) no co) (tb i i (oK i X.f m)) := (Ko hoo); have hbw_1 : Below w.heap.size w w5 := Kw; clear ua ub uc uf ul oa ob oc of ol; clear hR hW hO how hoo hbw; have hR := hR_1; have hW := hW_1; have hO := hO_1; have how := how_1; have hoo := hoo_1; have hbw := hbw_1; clear hR_1 hW_1 hO_1 how_1 hoo_1 hbw_1; obtain ⟨ua, ub, uc, uf, ul⟩ := hO.mx; obtain ⟨oa, ob, oc, of, ol⟩ := hW.mx); (try go_wp2_with fail); refine hK.out _ _ ?_ (fun hHeld => ?_); (focus ((try dsimp only); (go_keep))); clear hK K; (try simp only [Act.put, p1_, p2_, p3_]))); ((refine wpAnyH_ready (rs := [5]) (by kernel_rfl) (by simp) ?_; refine AllReadyH.cons (by simp only [e1_, e2_, e3_]; try rfl) (fun K hK => ?_) AllReadyH.nil; go_simp; (refine (impl_row_own i D m gw nw cw _ Ks (by omega) (by omega) (by omega) (by omega) (by omega) (by have := HNW.out; omega)).mono ?_; rintro e w6 ⟨rfl, hb6⟩; have hsz_0 := hb6.size; (try simp at hsz_0); have hR_1 : BM w6 (w.heap.size + 1) 0 0 none 0 0 := (Kb hR); have hW_1 : BM w6 bO i D (some ⟨gw, 0, none⟩) nw cw := (Kb hW); have hO_1 : BM w6 bU i i (some ⟨go, 0, none⟩) no co := (Kb hO); have how_1 : OR w6 (w1.heap.size + 1) (.slice (some ⟨gw, 0, none⟩) nw cw) (tb i D X.f) := (Ko how); have hoo_1 : OR w6 w3.heap.size (.slice (some ⟨go, 0, none⟩) no co) (tb i i (oK i X.f m)) := (Ko hoo); have hbw_1 : Below w.heap.size w w6 := Kw; clear ua ub uc uf ul oa ob oc of ol; clear hR hW hO how hoo hbw; have hR := hR_1; have hW := hW_1; have hO := hO_1; have how := how_1; have hoo := hoo_1; have hbw := hbw_1; clear hR_1 hW_1 hO_1 how_1 hoo_1 hbw_1; obtain ⟨ua, ub, uc, uf, ul⟩ := hO.mx; obtain ⟨oa, ob, oc, of, ol⟩ := hW.mx); (try go_wp2_with fail); refine hK.out _ _ ?_ (fun hHeld => ?_); (focus ((try dsimp only); (go_keep))); clear hK K; (try simp only [Act.put, p1_, p2_, p3_]))); ((refine tk_ (i := 7) (v := ?_) (y := Or.inl ⟨by rfl, ?_⟩) (h := ?_); rotate_left; (focus (((intro w hSw; (try dsimp only at hSw); go_simp) <;> (try with_reducible rfl)); done)); (try simp only [Act.put, p1_, p2_, p3_]))); ((refine wpAnyH_ready (rs := [8]) (by kernel_rfl) (by simp) ?_; refine AllReadyH.cons (by simp only [e1_, e2_, e3_]; try rfl) (fun K hK => ?_) AllReadyH.nil; (refine step_copy_win _ rfl (.tmp 81) (.tmp 86) rfl w3.heap.size (some ⟨go, 0, none⟩) no co (tb i i (oK i X.f m)) (Ko hoo) (m * i) i i (co - m * i) (cw - m * D - i) (Nat.le_refl _) (some ⟨go, m * i, none⟩) (some ⟨gw, m * D + i, none⟩) rfl (by simp [Act.eval]; omega) _ (winL (tb i D X.f) (m * D + i) i) (OR.win (B := w1.heap.size + 1) (n := nw) (cap := cw) (Ko how) (by rw [tb_len]; omega)) (by rw [tb_len]; omega) (fun _ => by simp [addr_add]) ?_; intro w7 hst_0 hgr_0 hsz_0; (try simp at hsz_0); rw [oK_row hmR (by omega)] at hst_0; have hR_1 := BX.keptOwn (b := w.heap.size + 1) (Kb hR) hgr_0 HUO.out (by omega); have hW_1 := BX.keptOwn (b := bO) (Kb hW) hgr_0 HUO.out (by omega); have hO_1 := BX.keptOwn (b := bU) (Kb hO) hgr_0 HUO.out (by omega); have how_1 := OR.keptOwn (B := w1.heap.size + 1) (Ko how) hgr_0 HU.out HUO.out (by omega); have hbw_1 : Below w.heap.size w w7 := Below.trans Kw (below_keptOwn hgr_0 HUO.out (by omega) Ks); have hoo_1 := hst_0; clear hgr_0 hst_0; clear ua ub uc uf ul oa ob oc of ol; clear hR hW hO how hoo hbw; have hR := hR_1; have hW := hW_1; have hO := hO_1; have how := how_1; have hoo := hoo_1; have hbw := hbw_1; clear hR_1 hW_1 hO_1 how_1 hoo_1 hbw_1; obtain ⟨ua, ub, uc, uf, ul⟩ := hO.mx; obtain ⟨oa, ob, oc, of, ol⟩ := hW.mx); refine hK.out _ _ ?_ (fun hHeld => ?_); (focus ((try dsimp only); (go_keep))); clear hK K; (try simp only [Act.put, p1_, p2_, p3_]))); (refine wpAnyH_done (by kernel_rfl) ?_ _))
              go_wp2_with fail
              go_roundw
              case rel => exact ⟨m + 1, by go_num, by omega, hR, hW, hO, how, hoo, hbw⟩
              case measure => simp only [intOf]; omega
            · obtain rfl : m = i := by omega
              have hoo2 := hoo.as (oK_end m X.f)
              clear hoo
              obtain ⟨ra, rb, rc, rf, rl⟩ := hR.mx
              obtain ⟨ua, ub, uc, uf, ul⟩ := hO.mx; obtain ⟨oa, ob, oc, of, ol⟩ := hW.mx
              go_wp2_with fail
              refine ret_MB (r := m) (c := m) (A := Ao) (n := no) (cap := co) Tryz.results31 rfl (Kb hR) rfl ?_
              rw [HYES.out HV.out, HV.out]
              exact MBR.mk rfl (OR.mono (B := w3.heap.size) (Ko hoo2) (by omega)) Kw
end Go.Proofs.YtlggfmfelakadaaGreatDoor

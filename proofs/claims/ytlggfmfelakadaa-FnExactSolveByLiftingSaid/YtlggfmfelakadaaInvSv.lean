/-
  DERIVED. InverseMod of the reference.
-/
import Derived.Test.YtlggfmfelakadaaVS
import Derived.Test.YtlggfmfelakadaaInvIv
import Derived.Test.YtlggfmfelakadaaElimS
namespace Go.Proofs.Ytlggfmfelakadaa
open Go.RowKit
set_option linter.unusedVariables false
set_option linter.unusedSimpArgs false
set_option maxRecDepth 100000 in
set_option maxHeartbeats 8000000 in
theorem spec_InverseMod (r c p : Int) (A : Option Addr) (n cap : Nat) (xs : List Int) (w : World) {B : Nat} (h : RI w B A n xs) (hB : B ≤ w.heap.size) (hn : n ≤ 1048576) :
    Calls Try.prog 74 #[.agg #[.int .i64 r, .int .i64 c, .slice A n cap], .int .i64 p] w (MBR (imM r c xs p) (imB r c xs p) w) := by
  have H2 := Lib.hid (h.more hB)
  clear h
  rcases im_cases r c xs p with ⟨hb, hi⟩ | ⟨hb, hrc, hi⟩ | ⟨hb, hrc, h12, hi⟩ | ⟨hb, hrc, h12, hi⟩
  · rw [imM_no hi, hi]
    have HB := Lib.hid hb
    have HX := Lib.hid (redM_no hb)
    clear hb hi
    go_enter Try.func74, Try.ntmps74
    go_wp2_with fail
    refine (spec_ReduceMod r c p A n cap xs _ (B := w.heap.size) (Kr H2.out) Ks hn).mono ?_; rw [HB.out, HX.out]; rintro e w1 ⟨A', n', cap', rfl, hown, hb1⟩; have hsz1 := hb1.size; simp at hsz1; have hM1 : BM w1 w.heap.size r c A n cap := Ka; have hR1 : BM w1 (w.heap.size + 1) 0 0 none 0 0 := Ka; have hbw1 : Below w.heap.size w w1 := Kw; obtain ⟨ma, mb, mc, mf, ml⟩ := hM1.mx; obtain ⟨ra, rb, rc, rf, rl⟩ := hR1.mx
    go_wp2_with fail
    refine ret_MB (r := 0) (c := 0) (A := none) (n := 0) (cap := 0) Try.results74 rfl (Kb hR1) rfl ?_
    exact MBR.mk rfl (OR.nil_ _ _) Kw
  · rw [imM_no hi, hi]
    have HB := Lib.hid hb
    have hr0 := (redOk hb).m.r0
    have hr1 := (redOk hb).m.r1
    have HX := Lib.hid (redOk hb).mx
    clear hb hi
    go_enter Try.func74, Try.ntmps74
    go_wp2_with fail
    refine (spec_ReduceMod r c p A n cap xs _ (B := w.heap.size) (Kr H2.out) Ks hn).mono ?_; rw [HB.out, HX.out]; rintro e w1 ⟨A', n', cap', rfl, hown, hb1⟩; have hsz1 := hb1.size; simp at hsz1; have hM1 : BM w1 w.heap.size r c A n cap := Ka; have hR1 : BM w1 (w.heap.size + 1) 0 0 none 0 0 := Ka; have hbw1 : Below w.heap.size w w1 := Kw; obtain ⟨ma, mb, mc, mf, ml⟩ := hM1.mx; obtain ⟨ra, rb, rc, rf, rl⟩ := hR1.mx
    go_wp2_with fail
    refine ret_MB (r := 0) (c := 0) (A := none) (n := 0) (cap := 0) Try.results74 rfl (Kb hR1) rfl ?_
    exact MBR.mk rfl (OR.nil_ _ _) Kw
  · rw [imM_no hi, hi]
    have HB := Lib.hid hb
    have hr0 := (redOk hb).m.r0
    have hr1 := (redOk hb).m.r1
    have HX := Lib.hid (redOk hb).mx
    have hrb : (r != c) = false := by simpa using hrc
    clear hb hi hrc
    go_enter Try.func74, Try.ntmps74
    go_wp2_with fail
    refine (spec_ReduceMod r c p A n cap xs _ (B := w.heap.size) (Kr H2.out) Ks hn).mono ?_; rw [HB.out, HX.out]; rintro e w1 ⟨A', n', cap', rfl, hown, hb1⟩; have hsz1 := hb1.size; simp at hsz1; have hM1 : BM w1 w.heap.size r c A n cap := Ka; have hR1 : BM w1 (w.heap.size + 1) 0 0 none 0 0 := Ka; have hbw1 : Below w.heap.size w w1 := Kw; obtain ⟨ma, mb, mc, mf, ml⟩ := hM1.mx; obtain ⟨ra, rb, rc, rf, rl⟩ := hR1.mx
    go_wp2_with fail
    refine ret_MB (r := 0) (c := 0) (A := none) (n := 0) (cap := 0) Try.results74 rfl (Kb hR1) rfl ?_
    exact MBR.mk rfl (OR.nil_ _ _) Kw
  · subst hrc
    have K := redOk hb
    have HI := Lib.hid hi
    have HB := Lib.hid hb
    have HX := Lib.hid K.mx
    have HT := Lib.hid K.tb_
    have HF := Lib.hid K.f0
    have HR : Hid (runE r.toNat r.toNat p (wideF r.toNat (rmF r xs p)) = imS r r xs p) := Lib.hid rfl
    have HNO := Lib.hid (@imM_no r r xs p)
    have HYES := Lib.hid (@imM_yes r r xs p)
    obtain ⟨hp1, hp2⟩ := K.pb
    obtain ⟨R, rfl⟩ := nat_of K.m.r0
    have hrb : ((R : Int) != (R : Int)) = false := by simp
    have HPR := Lib.hid K.pr
    clear hb hi K
    generalize imS (R : Int) (R : Int) xs p = X at *
    simp only [Int.toNat_natCast] at HT HF HR HYES
    generalize rmF (R : Int) xs p = f at *
    generalize imB (R : Int) (R : Int) xs p = vb at *
    generalize imM (R : Int) (R : Int) xs p = vm at *
    have HWF := Lib.hid (wideF_bd (n := R) hp1 HF.out)
    obtain ⟨D, hD⟩ : ∃ D : Nat, D = 2 * R := ⟨_, rfl⟩
    have hD2 : (2 : Int) * (R : Int) = (D : Int) := by omega
    have HD := Lib.hid hD2
    have hD3 : D ≤ 2 * R ∧ 2 * R ≤ D := by omega
    have hRD : R * D ≤ 12 * 24 := Nat.mul_le_mul (by omega) (by omega)
    have hRR : R * R ≤ 12 * 12 := Nat.mul_le_mul (by omega) (by omega)
    clear hD hD2
    go_enter Try.func74, Try.ntmps74
    go_wp2_with fail
    refine (spec_ReduceMod R R p A n cap xs _ (B := w.heap.size) (Kr H2.out) Ks hn).mono ?_
    rw [HB.out, HX.out]
    rintro e w1 ⟨A', n', cap', rfl, hown, hb1⟩
    have hsz1 := hb1.size
    simp at hsz1
    have hM1 : BM w1 w.heap.size R R A n cap := Ka
    have hR1 : BM w1 (w.heap.size + 1) 0 0 none 0 0 := Ka
    have hbw1 : Below w.heap.size w w1 := Kw
    have hoa1 : OR w1 (w.heap.size + 1 + 1) (.slice A' n' cap') (tb R R f) := by
      have := hown
      rw [show (⟨(R : Int), (R : Int), redL xs p⟩ : Mx).xs = redL xs p from rfl, HT.out] at this
      simpa using this
    have HUA : Hid (Own (.slice A' n' cap') (w.heap.size + 1 + 1) w1.heap.size) := Lib.hid (hoa1.own.wide (Nat.le_refl _) (Nat.le_refl _))
    have hl1 := hM1.lt
    obtain ⟨ma, mb, mc, mf, ml⟩ := hM1.mx
    clear hown
    go_wp2_with fail
    rw [HD.out]
    refine (spec_l3New R D _ (by omega) (by omega) (by omega)).mono ?_
    rintro e w2 ⟨Aw, nw, cw, rfl, how0, hb2⟩
    have hsz2 := hb2.size
    simp at hsz2
    generalize hbO : w2.heap.size = bO at *
    have hR : BM (w2.alloc (.cells #[.int .i64 R, .int .i64 D, .slice Aw nw cw] 26)) (w.heap.size + 1) 0 0 none 0 0 := Kb hR1
    have hA : BM (w2.alloc (.cells #[.int .i64 R, .int .i64 D, .slice Aw nw cw] 26)) w1.heap.size R R A' n' cap' := Ka
    have hW : BM (w2.alloc (.cells #[.int .i64 R, .int .i64 D, .slice Aw nw cw] 26)) bO R D Aw nw cw := Ka
    have hoa : OR (w2.alloc (.cells #[.int .i64 R, .int .i64 D, .slice Aw nw cw] 26)) (w.heap.size + 1 + 1) (.slice A' n' cap') (tb R R f) := Ko hoa1
    have how : OR (w2.alloc (.cells #[.int .i64 R, .int .i64 D, .slice Aw nw cw] 26)) (w1.heap.size + 1) (.slice Aw nw cw) (tb R D (wK R f 0)) := by
      rw [wK_zero, tb_zeros]; exact (OR.mono (xs := List.replicate (R * D) 0) how0 (by simp)).alloc _
    have hbw : Below w.heap.size w (w2.alloc (.cells #[.int .i64 R, .int .i64 D, .slice Aw nw cw] 26)) := Kw
    have HU : Hid (Own (.slice Aw nw cw) (w1.heap.size + 1) bO) := Lib.hid (by rw [← hbO]; exact (OR.own (xs := List.replicate (R * D) 0) how0).wide (by simp) (Nat.le_refl _))
    have hnw := how.lenEq
    rw [tb_len] at hnw
    have hcw := how.caps
    have hna := hoa.lenEq
    rw [tb_len] at hna
    have hca := hoa.caps
    have HNW : Hid (nw ≤ R * D ∧ R * D ≤ nw ∧ n' ≤ R * R ∧ R * R ≤ n') := Lib.hid (by omega)
    clear hnw hna hM1 hR1 hbw1 hoa1 ma mb mc mf ml how0 hb2 hb1
    obtain ⟨aa, ab, ac, af, al⟩ := hA.mx; obtain ⟨oa, ob, oc, of, ol⟩ := hW.mx
    go_wp2_with fail
    generalize hwo : w2.alloc (.cells #[.int .i64 R, .int .i64 D, .slice Aw nw cw] 26) = wo at *
    clear hwo
    go_loopw [10] (fun v wr => ∃ i : Nat, v = .int .i64 i ∧ i ≤ R ∧ BM wr (w.heap.size + 1) 0 0 none 0 0 ∧ BM wr w1.heap.size R R A' n' cap' ∧ BM wr bO R D Aw nw cw ∧ OR wr (w.heap.size + 1 + 1) (.slice A' n' cap') (tb R R f) ∧ OR wr (w1.heap.size + 1) (.slice Aw nw cw) (tb R D ((wK R f i))) ∧ Below w.heap.size w wr) (fun v _ => R - (intOf v).toNat)
    case atStart => exact ⟨0, rfl, Nat.zero_le _, hR, hA, hW, hoa, how, hbw⟩
    case round =>
      clear aa ab ac af al oa ob oc of ol
      clear hR hA hW hoa how hbw
      obtain ⟨i, rfl, hi, hR, hA, hW, hoa, how, hbw⟩ := hrel
      have hlw := hW.lt
      by_cases hiR : i < R
      · obtain ⟨g, rfl, hg1, hg2⟩ := how.begins (by rw [tb_len]; exact Nat.mul_pos (by omega) (by omega))
        obtain ⟨ga, rfl, hga1, hga2⟩ := hoa.begins (by rw [tb_len]; exact Nat.mul_pos (by omega) (by omega))
        have hgb := HU.out g rfl
        obtain ⟨hgb3, hgb4⟩ := HUA.out ga rfl
        have hne : g ≠ ga := by omega
        have hne1 : g ≠ bO := by omega
        have hne2 : g ≠ w1.heap.size := by omega
        have hfitw : i * D + D ≤ R * D := by
          have h3 := Nat.mul_le_mul_right D (show i + 1 ≤ R by omega); rw [Nat.add_mul, Nat.one_mul] at h3; exact h3
        have hfita : i * R + R ≤ R * R := by
          have h3 := Nat.mul_le_mul_right R (show i + 1 ≤ R by omega); rw [Nat.add_mul, Nat.one_mul] at h3; exact h3
        have i1 : (i : Int) * 2 * (R : Int) = ((i * D : Nat) : Int) := by rw [Int.natCast_mul, ← HD.out, Int.mul_assoc]
        have i2 : (i : Int) * (R : Int) = ((i * R : Nat) : Int) := by rw [Int.natCast_mul]
        have g1 : IntKind.i64.wrap ((i : Int) * 2) = (i : Int) * 2 := IntWalk.i64_in _ (by omega)
        have g2 : IntKind.i64.wrap ((i : Int) * 2 * (R : Int)) = (i : Int) * 2 * (R : Int) := IntWalk.i64_in _ (by omega)
        have g3 : IntKind.i64.wrap ((i : Int) * (R : Int)) = (i : Int) * (R : Int) := IntWalk.i64_in _ (by omega)
        have I1 := Lib.hid i1
        have I2 := Lib.hid i2
        have hnw2 : R * D ≤ nw ∧ R * R ≤ n' := by have := HNW.out; omega
        clear i1 i2
        obtain ⟨aa, ab, ac, af, al⟩ := hA.mx; obtain ⟨oa, ob, oc, of, ol⟩ := hW.mx
        go_wp2_with fail
        obtain ⟨wo2, rfl⟩ : ∃ wo : World, wo = wr := ⟨_, rfl⟩
        rw [← wR_zero] at how
        go_loopw [11] (fun v wr => ∃ j : Nat, v = .int .i64 j ∧ j ≤ R ∧ BM wr (w.heap.size + 1) 0 0 none 0 0 ∧ BM wr w1.heap.size R R (some ⟨ga, 0, none⟩) n' cap' ∧ BM wr bO R D (some ⟨g, 0, none⟩) nw cw ∧ OR wr (w.heap.size + 1 + 1) (.slice (some ⟨ga, 0, none⟩) n' cap') (tb R R f) ∧ OR wr (w1.heap.size + 1) (.slice (some ⟨g, 0, none⟩) nw cw) (tb R D (wR R f i j)) ∧ Below w.heap.size w wr) (fun v _ => R - (intOf v).toNat)
        case atStart => exact ⟨0, rfl, Nat.zero_le _, hR, hA, hW, hoa, how, hbw⟩
        case round =>
          clear aa ab ac af al oa ob oc of ol
          clear hR hA hW hoa how hbw
          obtain ⟨j, rfl, hj, hR, hA, hW, hoa, how, hbw⟩ := hrel
          have hlw' := hW.lt
          obtain ⟨aa, ab, ac, af, al⟩ := hA.mx; obtain ⟨oa, ob, oc, of, ol⟩ := hW.mx
          by_cases hjR : j < R
          · have c1 := hoa.cell (i * R + j) (by rw [tb_len]; omega)
            rw [tb_at hiR hjR] at c1
            have c2 := how.cell (i * D + j) (by rw [tb_len]; omega)
            have f2 := how.frozen (i * D + j)
            have hst := how.set_ (i * D + j) (f i j)
            rw [tb_set hiR (by omega), wR_step] at hst
            have i1 := I1.out
            have i2 := I2.out
            have g4 : IntKind.i64.wrap ((i : Int) * 2 * (R : Int) + (j : Int)) = (i : Int) * 2 * (R : Int) + (j : Int) := IntWalk.i64_in _ (by omega)
            have g5 : IntKind.i64.wrap ((i : Int) * (R : Int) + (j : Int)) = (i : Int) * (R : Int) + (j : Int) := IntWalk.i64_in _ (by omega)
            have g6 : 0 ≤ (i : Int) * 2 * (R : Int) + (j : Int) ∧ (i : Int) * 2 * (R : Int) + (j : Int) < (nw : Int) := by omega
            have g7 : 0 ≤ (i : Int) * (R : Int) + (j : Int) ∧ (i : Int) * (R : Int) + (j : Int) < (n' : Int) := by omega
            have e5 : ((i : Int) * 2 * (R : Int) + (j : Int)).toNat = i * D + j := by omega
            have e6 : ((i : Int) * (R : Int) + (j : Int)).toNat = i * R + j := by omega
            rw [← e5] at c2 f2 hst
            rw [← e6] at c1
            clear i1 i2 e5 e6
            generalize f i j = z1 at *
            generalize (tb R D (wR R f i j)).getD _ 0 = z2 at c2
            go_wp2_with fail
            ((refine wp_region_held_drew (S := (fun w' => w'.cell? ⟨bO, 2, none⟩ = some (.slice (some ⟨g, 0, none⟩) nw cw) ∧ w'.cell? ⟨w1.heap.size, 2, none⟩ = some (.slice (some ⟨ga, 0, none⟩) n' cap') ∧ w'.cell? ⟨ga, ((i : Int) * (R : Int) + (j : Int)).toNat, none⟩ = some (.int .i64 z1))) (by kernel_rfl) ?_ (fun hHeld => ?_)); ((focus ((try dsimp only); (go_keep)))); ((refine tk_ (i := 0) (v := ?_) (y := Or.inl ⟨by rfl, ?_⟩) (h := ?_); rotate_left; (focus (((intro w hSw; (try dsimp only at hSw); go_simp) <;> (try with_reducible rfl)); done)); (try simp only [Act.put, p1_, p2_, p3_]))); ((refine tk_ (i := 1) (v := ?_) (y := Or.inl ⟨by rfl, ?_⟩) (h := ?_); rotate_left; (focus (((intro w hSw; (try dsimp only at hSw); go_simp) <;> (try with_reducible rfl)); done)); (try simp only [Act.put, p1_, p2_, p3_]))); ((refine tk_ (i := 2) (v := ?_) (y := Or.inl ⟨by rfl, ?_⟩) (h := ?_); rotate_left; (focus (((intro w hSw; (try dsimp only at hSw); go_simp) <;> (try with_reducible rfl)); done)); (try simp only [Act.put, p1_, p2_, p3_]))); ((refine tk_ (i := 3) (v := ?_) (y := Or.inl ⟨by rfl, ?_⟩) (h := ?_); rotate_left; (focus (((intro w hSw; (try dsimp only at hSw); go_simp) <;> (try with_reducible rfl)); done)); (try simp only [Act.put, p1_, p2_, p3_]))); ((refine tk_ (i := 4) (v := ?_) (y := Or.inl ⟨by rfl, ?_⟩) (h := ?_); rotate_left; (focus (((intro w hSw; (try dsimp only at hSw); go_simp) <;> (try with_reducible rfl)); done)); (try simp only [Act.put, p1_, p2_, p3_]))); ((refine tk_ (i := 5) (v := ?_) (y := Or.inl ⟨by rfl, ?_⟩) (h := ?_); rotate_left; (focus (((intro w hSw; (try dsimp only at hSw); go_simp) <;> (try with_reducible rfl)); done)); (try simp only [Act.put, p1_, p2_, p3_]))); ((refine tk_ (i := 6) (v := ?_) (y := Or.inl ⟨by rfl, ?_⟩) (h := ?_); rotate_left; (focus (((intro w hSw; (try dsimp only at hSw); go_simp) <;> (try with_reducible rfl)); done)); (try simp only [Act.put, p1_, p2_, p3_]))); ((refine tk_ (i := 7) (v := ?_) (y := Or.inl ⟨by rfl, ?_⟩) (h := ?_); rotate_left; (focus (((intro w hSw; (try dsimp only at hSw); go_simp) <;> (try with_reducible rfl)); done)); (try simp only [Act.put, p1_, p2_, p3_]))); ((refine tk_ (i := 8) (v := ?_) (y := Or.inl ⟨by rfl, ?_⟩) (h := ?_); rotate_left; (focus (((intro w hSw; (try dsimp only at hSw); go_simp) <;> (try with_reducible rfl)); done)); (try simp only [Act.put, p1_, p2_, p3_]))); ((refine tk_ (i := 9) (v := ?_) (y := Or.inl ⟨by rfl, ?_⟩) (h := ?_); rotate_left; (focus (((intro w hSw; (try dsimp only at hSw); go_simp) <;> (try with_reducible rfl)); done)); (try simp only [Act.put, p1_, p2_, p3_]))); ((refine tk_ (i := 10) (v := ?_) (y := Or.inl ⟨by rfl, ?_⟩) (h := ?_); rotate_left; (focus (((intro w hSw; (try dsimp only at hSw); go_simp) <;> (try with_reducible rfl)); done)); (try simp only [Act.put, p1_, p2_, p3_]))); ((refine tk_ (i := 11) (v := ?_) (y := Or.inl ⟨by rfl, ?_⟩) (h := ?_); rotate_left; (focus (((intro w hSw; (try dsimp only at hSw); go_simp) <;> (try with_reducible rfl)); done)); (try simp only [Act.put, p1_, p2_, p3_]))); ((refine tk_ (i := 12) (v := ?_) (y := Or.inl ⟨by rfl, ?_⟩) (h := ?_); rotate_left; (focus (((intro w hSw; (try dsimp only at hSw); go_simp) <;> (try with_reducible rfl)); done)); (try simp only [Act.put, p1_, p2_, p3_]))); ((refine tk_ (i := 13) (v := ?_) (y := Or.inl ⟨by rfl, ?_⟩) (h := ?_); rotate_left; (focus (((intro w hSw; (try dsimp only at hSw); go_simp) <;> (try with_reducible rfl)); done)); (try simp only [Act.put, p1_, p2_, p3_]))); ((refine tk_ (i := 14) (v := ?_) (y := Or.inl ⟨by rfl, ?_⟩) (h := ?_); rotate_left; (focus (((intro w hSw; (try dsimp only at hSw); go_simp) <;> (try with_reducible rfl)); done)); (try simp only [Act.put, p1_, p2_, p3_]))); ((refine tk_ (i := 15) (v := ?_) (y := Or.inl ⟨by rfl, ?_⟩) (h := ?_); rotate_left; (focus (((intro w hSw; (try dsimp only at hSw); go_simp) <;> (try with_reducible rfl)); done)); (try simp only [Act.put, p1_, p2_, p3_]))); ((refine tk_ (i := 16) (v := ?_) (y := Or.inl ⟨by rfl, ?_⟩) (h := ?_); rotate_left; (focus (((intro w hSw; (try dsimp only at hSw); go_simp) <;> (try with_reducible rfl)); done)); (try simp only [Act.put, p1_, p2_, p3_]))); ((refine tk_ (i := 17) (v := ?_) (y := Or.inl ⟨by rfl, ?_⟩) (h := ?_); rotate_left; (focus (((intro w hSw; (try dsimp only at hSw); go_simp) <;> (try with_reducible rfl)); done)); (try simp only [Act.put, p1_, p2_, p3_]))); ((refine wpAnyH_ready (rs := [18]) (by kernel_rfl) (by simp) ?_; refine AllReadyH.cons (by simp only [e1_, e2_, e3_]; try rfl) (fun K hK => ?_) AllReadyH.nil; go_simp; (try go_wp2_with fail); refine hK.out _ _ ?_ (fun hHeld => ?_); (focus ((try dsimp only); (go_keep))); clear hK K; (try simp only [Act.put, p1_, p2_, p3_]))); (refine wpAnyH_done (by kernel_rfl) ?_ _))
            go_wp2_with fail
            go_roundw
            case rel => exact ⟨j + 1, by go_num, by omega, Kb hR, Kb hA, Kb hW, (by first | exact OR.far hoa (by simp [Value.ownBlock]; omega) _ | exact OR.drew (OR.far hoa (by simp [Value.ownBlock]; omega) _)), (by first | exact hst | exact OR.drew hst), Kw⟩
            case measure => simp only [intOf]; omega
          · obtain rfl : j = R := by omega
            have c2 := how.cell (i * D + (j + i)) (by rw [tb_len]; omega)
            have f2 := how.frozen (i * D + (j + i))
            have hst := how.set_ (i * D + (j + i)) 1
            rw [tb_set hiR (by omega), wR_end] at hst
            have i1 := I1.out
            have g4 : IntKind.i64.wrap ((i : Int) * 2 * (j : Int) + (j : Int)) = (i : Int) * 2 * (j : Int) + (j : Int) := IntWalk.i64_in _ (by omega)
            have g5 : IntKind.i64.wrap ((i : Int) * 2 * (j : Int) + (j : Int) + (i : Int)) = (i : Int) * 2 * (j : Int) + (j : Int) + (i : Int) := IntWalk.i64_in _ (by omega)
            have g6 : 0 ≤ (i : Int) * 2 * (j : Int) + (j : Int) + (i : Int) ∧ (i : Int) * 2 * (j : Int) + (j : Int) + (i : Int) < (nw : Int) := by omega
            have e5 : i * 2 * j + j + i = i * D + (j + i) := by
              have e6 : ((i * 2 * j : Nat) : Int) = ((i * D : Nat) : Int) := by rw [Int.natCast_mul, Int.natCast_mul]; exact i1
              omega
            rw [← e5] at c2 f2 hst
            have HE5 := Lib.hid e5
            clear i1 e5
            generalize (tb j D (wR j f i j)).getD _ 0 = z2 at c2
            go_wp2_with fail
            go_roundw
            case rel => exact ⟨i + 1, by go_num, by omega, Kb hR, Kb hA, Kb hW, (by first | exact OR.far hoa (by simp [Value.ownBlock]; omega) _ | exact OR.drew (OR.far hoa (by simp [Value.ownBlock]; omega) _)), (by first | exact hst | exact OR.drew hst), Kw⟩
            case measure => simp only [intOf]; omega
      · obtain rfl : i = R := by omega
        have how2 := how.as (wK_end i f)
        clear how
        obtain ⟨aa, ab, ac, af, al⟩ := hA.mx; obtain ⟨oa, ob, oc, of, ol⟩ := hW.mx
        go_wp2_with fail
        refine (spec_l8Eliminate i D i p Aw nw cw (wideF i f) _ (OR.reads (B := w1.heap.size + 1) (cap := cw) (Ko how2)) (Nat.le_refl _) (by have := HNW.out; omega) (by omega) (by omega) (by omega) HPR.out HWF.out).mono ?_
        rw [HR.out]
        rintro e w3 ⟨Aa, na, ca, P, kp, pc, ps, rfl, ho3, hp3, hpl, hb3⟩
        have hsz3 := hb3.size
        have hR3 : BM w3 (w.heap.size + 1) 0 0 none 0 0 := Kb hR
        have hkp := hp3.lenEq
        have hpt : (kp : Int) = (X.t : Int) := by omega
        have ho3' : OR w3 (w.heap.size + 1) (.slice Aa na ca) (tb i D X.f) := ho3.mono (by have := hbw.size; omega)
        have HUA3 : Hid (Own (.slice Aa na ca) (w.heap.size + 1 + 1) w3.heap.size) := Lib.hid (ho3.own.wide (by have := hR.lt; omega) (Nat.le_refl _))
        have hbw3 : Below w.heap.size w w3 := Kw
        clear aa ab ac af al oa ob oc of ol
        clear hR hA hW hoa hbw how2 ho3 hp3 hb3 hpl hkp
        have HPT := Lib.hid hpt
        obtain ⟨ra, rb, rc, rf, rl⟩ := hR3.mx
        by_cases ht : X.t < i
        · have hno : vb = false := by rw [HI.out]; simp; omega
          have HV := Lib.hid hno
          clear hno hpt
          have hkt : (kp : Int) < (i : Int) := by have := HPT.out; omega
          go_wp2_with fail
          refine ret_MB (r := 0) (c := 0) (A := none) (n := 0) (cap := 0) Try.results74 rfl (Kb hR3) rfl ?_
          rw [HNO.out HV.out, HV.out]
          exact MBR.mk rfl (OR.nil_ _ _) Kw
        · have hyes : vb = true := by rw [HI.out]; simp; omega
          have HV := Lib.hid hyes
          clear hyes hpt
          have hkt : (i : Int) ≤ (kp : Int) := by have := HPT.out; omega
          go_wp2_with fail
          refine (spec_l3New i i _ (by omega) (by omega) (by omega)).mono ?_
          rintro e w4 ⟨Ao, no, co, rfl, hoo0, hb4⟩
          have hsz4 := hb4.size
          simp at hsz4
          generalize hbA : w3.heap.size = bA at *
          generalize hbU : w4.heap.size = bU at *
          have hR : BM (w4.alloc (.cells #[.int .i64 i, .int .i64 i, .slice Ao no co] 26)) (w.heap.size + 1) 0 0 none 0 0 := Kb hR3
          have hW : BM (w4.alloc (.cells #[.int .i64 i, .int .i64 i, .slice Ao no co] 26)) bA i D Aa na ca := Ka
          have hO : BM (w4.alloc (.cells #[.int .i64 i, .int .i64 i, .slice Ao no co] 26)) bU i i Ao no co := Ka
          have how : OR (w4.alloc (.cells #[.int .i64 i, .int .i64 i, .slice Ao no co] 26)) (w.heap.size + 1) (.slice Aa na ca) (tb i D X.f) := Ko ho3'
          have hoo : OR (w4.alloc (.cells #[.int .i64 i, .int .i64 i, .slice Ao no co] 26)) (bA + 1) (.slice Ao no co) (tb i i (oK i X.f 0)) := by
            rw [oK_zero, tb_zeros]; exact OR.alloc (xs := List.replicate (i * i) 0) (OR.mono (xs := List.replicate (i * i) 0) hoo0 (by simp [hbA])) _
          have hbw : Below w.heap.size w (w4.alloc (.cells #[.int .i64 i, .int .i64 i, .slice Ao no co] 26)) := Kw
          have HUO : Hid (Own (.slice Ao no co) (bA + 1) bU) := Lib.hid (by rw [← hbU]; exact (OR.own (xs := List.replicate (i * i) 0) hoo0).wide (by simp [hbA]) (Nat.le_refl _))
          have hno := hoo.lenEq
          rw [tb_len] at hno
          have hco := hoo.caps
          have hna2 := how.lenEq
          rw [tb_len] at hna2
          have HNO2 : Hid (no ≤ i * i ∧ i * i ≤ no ∧ na ≤ i * D ∧ i * D ≤ na) := Lib.hid (by omega)
          clear hno hna2 hR3 hbw3 ra rb rc rf rl hoo0 hb4
          obtain ⟨ua, ub, uc, uf, ul⟩ := hO.mx; obtain ⟨oa, ob, oc, of, ol⟩ := hW.mx
          go_wp2_with fail
          generalize hwo : w4.alloc (.cells #[.int .i64 i, .int .i64 i, .slice Ao no co] 26) = wo2 at *
          clear hwo
          go_loopw [16] (fun v wr => ∃ m : Nat, v = .int .i64 m ∧ m ≤ i ∧ BM wr (w.heap.size + 1) 0 0 none 0 0 ∧ BM wr bA i D Aa na ca ∧ BM wr bU i i Ao no co ∧ OR wr (w.heap.size + 1) (.slice Aa na ca) (tb i D X.f) ∧ OR wr (bA + 1) (.slice Ao no co) (tb i i ((oK i X.f m))) ∧ Below w.heap.size w wr) (fun v _ => i - (intOf v).toNat)
          case atStart => exact ⟨0, rfl, Nat.zero_le _, hR, hW, hO, how, hoo, hbw⟩
          case round =>
            clear ua ub uc uf ul oa ob oc of ol
            clear hR hW hO how hoo hbw
            obtain ⟨m, rfl, hm, hR, hW, hO, how, hoo, hbw⟩ := hrel
            by_cases hmR : m < i
            · obtain ⟨ga, rfl, hga1, hga2⟩ := how.begins (by rw [tb_len]; exact Nat.mul_pos (by omega) (by omega))
              obtain ⟨go, rfl, hgo1, hgo2⟩ := hoo.begins (by rw [tb_len]; exact Nat.mul_pos (by omega) (by omega))
              obtain ⟨hgb3, hgb4⟩ := HUA3.out ga rfl
              obtain ⟨hgb5, hgb6⟩ := HUO.out go rfl
              have hne : go ≠ ga := by omega
              have hne1 : go ≠ bA := by omega
              have hne2 : go ≠ bU := by omega
              have hfitw : m * D + D ≤ i * D := by
                have h3 := Nat.mul_le_mul_right D (show m + 1 ≤ i by omega); rw [Nat.add_mul, Nat.one_mul] at h3; exact h3
              have hfita : m * i + i ≤ i * i := by
                have h3 := Nat.mul_le_mul_right i (show m + 1 ≤ i by omega); rw [Nat.add_mul, Nat.one_mul] at h3; exact h3
              have i1 : (m : Int) * 2 * (i : Int) = ((m * D : Nat) : Int) := by rw [Int.natCast_mul, ← HD.out, Int.mul_assoc]
              have i2 : (m : Int) * (i : Int) = ((m * i : Nat) : Int) := by rw [Int.natCast_mul]
              have g1 : IntKind.i64.wrap ((m : Int) * 2) = (m : Int) * 2 := IntWalk.i64_in _ (by omega)
              have g2 : IntKind.i64.wrap ((m : Int) * 2 * (i : Int)) = (m : Int) * 2 * (i : Int) := IntWalk.i64_in _ (by omega)
              have g3 : IntKind.i64.wrap ((m : Int) * (i : Int)) = (m : Int) * (i : Int) := IntWalk.i64_in _ (by omega)
              have g8 : IntKind.i64.wrap ((m : Int) * 2 * (i : Int) + (i : Int)) = (m : Int) * 2 * (i : Int) + (i : Int) := IntWalk.i64_in _ (by omega)
              have I1 := Lib.hid i1
              have I2 := Lib.hid i2
              have hnw2 : i * D ≤ na ∧ i * i ≤ no := by have := HNO2.out; omega
              clear i1 i2
              obtain ⟨ua, ub, uc, uf, ul⟩ := hO.mx; obtain ⟨oa, ob, oc, of, ol⟩ := hW.mx
              go_wp2_with fail
              obtain ⟨wo3, rfl⟩ : ∃ wo : World, wo = wr := ⟨_, rfl⟩
              rw [← oR_zero] at hoo
              go_loopw [17] (fun v wr => ∃ j : Nat, v = .int .i64 j ∧ j ≤ i ∧ BM wr (w.heap.size + 1) 0 0 none 0 0 ∧ BM wr bA i D (some ⟨ga, 0, none⟩) na ca ∧ BM wr bU i i (some ⟨go, 0, none⟩) no co ∧ OR wr (w.heap.size + 1) (.slice (some ⟨ga, 0, none⟩) na ca) (tb i D X.f) ∧ OR wr (bA + 1) (.slice (some ⟨go, 0, none⟩) no co) (tb i i (oR i X.f m j)) ∧ Below w.heap.size w wr) (fun v _ => i - (intOf v).toNat)
              case atStart => exact ⟨0, rfl, Nat.zero_le _, hR, hW, hO, how, hoo, hbw⟩
              case round =>
                clear ua ub uc uf ul oa ob oc of ol
                clear hR hW hO how hoo hbw
                obtain ⟨j, rfl, hj, hR, hW, hO, how, hoo, hbw⟩ := hrel
                obtain ⟨ua, ub, uc, uf, ul⟩ := hO.mx; obtain ⟨oa, ob, oc, of, ol⟩ := hW.mx
                by_cases hjR : j < i
                · have c1 := how.cell (m * D + (i + j)) (by rw [tb_len]; omega)
                  rw [tb_at hmR (by omega)] at c1
                  have c2 := hoo.cell (m * i + j) (by rw [tb_len]; omega)
                  have f2 := hoo.frozen (m * i + j)
                  have hst := hoo.set_ (m * i + j) (X.f m (i + j))
                  rw [tb_set hmR hjR, oR_step] at hst
                  have i1 := I1.out
                  have i2 := I2.out
                  have g4 : IntKind.i64.wrap ((m : Int) * 2 * (i : Int) + (i : Int) + (j : Int)) = (m : Int) * 2 * (i : Int) + (i : Int) + (j : Int) := IntWalk.i64_in _ (by omega)
                  have g5 : IntKind.i64.wrap ((m : Int) * (i : Int) + (j : Int)) = (m : Int) * (i : Int) + (j : Int) := IntWalk.i64_in _ (by omega)
                  have g6 : 0 ≤ (m : Int) * 2 * (i : Int) + (i : Int) + (j : Int) ∧ (m : Int) * 2 * (i : Int) + (i : Int) + (j : Int) < (na : Int) := by omega
                  have g7 : 0 ≤ (m : Int) * (i : Int) + (j : Int) ∧ (m : Int) * (i : Int) + (j : Int) < (no : Int) := by omega
                  have e5 : ((m : Int) * 2 * (i : Int) + (i : Int) + (j : Int)).toNat = m * D + (i + j) := by omega
                  have e6 : ((m : Int) * (i : Int) + (j : Int)).toNat = m * i + j := by omega
                  rw [← e6] at c2 f2 hst
                  rw [← e5] at c1
                  clear i1 i2 e5 e6
                  generalize X.f m (i + j) = z1 at *
                  generalize (tb i i (oR i X.f m j)).getD _ 0 = z2 at c2
                  go_wp2_with fail
                  ((refine wp_region_held_drew (S := (fun w' => w'.cell? ⟨bU, 2, none⟩ = some (.slice (some ⟨go, 0, none⟩) no co) ∧ w'.cell? ⟨bA, 2, none⟩ = some (.slice (some ⟨ga, 0, none⟩) na ca) ∧ w'.cell? ⟨ga, ((m : Int) * 2 * (i : Int) + (i : Int) + (j : Int)).toNat, none⟩ = some (.int .i64 z1))) (by kernel_rfl) ?_ (fun hHeld => ?_)); ((focus ((try dsimp only); (go_keep)))); ((refine tk_ (i := 0) (v := ?_) (y := Or.inl ⟨by rfl, ?_⟩) (h := ?_); rotate_left; (focus (((intro w hSw; (try dsimp only at hSw); go_simp) <;> (try with_reducible rfl)); done)); (try simp only [Act.put, p1_, p2_, p3_]))); ((refine tk_ (i := 1) (v := ?_) (y := Or.inl ⟨by rfl, ?_⟩) (h := ?_); rotate_left; (focus (((intro w hSw; (try dsimp only at hSw); go_simp) <;> (try with_reducible rfl)); done)); (try simp only [Act.put, p1_, p2_, p3_]))); ((refine tk_ (i := 2) (v := ?_) (y := Or.inl ⟨by rfl, ?_⟩) (h := ?_); rotate_left; (focus (((intro w hSw; (try dsimp only at hSw); go_simp) <;> (try with_reducible rfl)); done)); (try simp only [Act.put, p1_, p2_, p3_]))); ((refine tk_ (i := 3) (v := ?_) (y := Or.inl ⟨by rfl, ?_⟩) (h := ?_); rotate_left; (focus (((intro w hSw; (try dsimp only at hSw); go_simp) <;> (try with_reducible rfl)); done)); (try simp only [Act.put, p1_, p2_, p3_]))); ((refine tk_ (i := 4) (v := ?_) (y := Or.inl ⟨by rfl, ?_⟩) (h := ?_); rotate_left; (focus (((intro w hSw; (try dsimp only at hSw); go_simp) <;> (try with_reducible rfl)); done)); (try simp only [Act.put, p1_, p2_, p3_]))); ((refine tk_ (i := 5) (v := ?_) (y := Or.inl ⟨by rfl, ?_⟩) (h := ?_); rotate_left; (focus (((intro w hSw; (try dsimp only at hSw); go_simp) <;> (try with_reducible rfl)); done)); (try simp only [Act.put, p1_, p2_, p3_]))); ((refine tk_ (i := 6) (v := ?_) (y := Or.inl ⟨by rfl, ?_⟩) (h := ?_); rotate_left; (focus (((intro w hSw; (try dsimp only at hSw); go_simp) <;> (try with_reducible rfl)); done)); (try simp only [Act.put, p1_, p2_, p3_]))); ((refine tk_ (i := 7) (v := ?_) (y := Or.inl ⟨by rfl, ?_⟩) (h := ?_); rotate_left; (focus (((intro w hSw; (try dsimp only at hSw); go_simp) <;> (try with_reducible rfl)); done)); (try simp only [Act.put, p1_, p2_, p3_]))); ((refine tk_ (i := 8) (v := ?_) (y := Or.inl ⟨by rfl, ?_⟩) (h := ?_); rotate_left; (focus (((intro w hSw; (try dsimp only at hSw); go_simp) <;> (try with_reducible rfl)); done)); (try simp only [Act.put, p1_, p2_, p3_]))); ((refine tk_ (i := 9) (v := ?_) (y := Or.inl ⟨by rfl, ?_⟩) (h := ?_); rotate_left; (focus (((intro w hSw; (try dsimp only at hSw); go_simp) <;> (try with_reducible rfl)); done)); (try simp only [Act.put, p1_, p2_, p3_]))); ((refine tk_ (i := 10) (v := ?_) (y := Or.inl ⟨by rfl, ?_⟩) (h := ?_); rotate_left; (focus (((intro w hSw; (try dsimp only at hSw); go_simp) <;> (try with_reducible rfl)); done)); (try simp only [Act.put, p1_, p2_, p3_]))); ((refine tk_ (i := 11) (v := ?_) (y := Or.inl ⟨by rfl, ?_⟩) (h := ?_); rotate_left; (focus (((intro w hSw; (try dsimp only at hSw); go_simp) <;> (try with_reducible rfl)); done)); (try simp only [Act.put, p1_, p2_, p3_]))); ((refine tk_ (i := 12) (v := ?_) (y := Or.inl ⟨by rfl, ?_⟩) (h := ?_); rotate_left; (focus (((intro w hSw; (try dsimp only at hSw); go_simp) <;> (try with_reducible rfl)); done)); (try simp only [Act.put, p1_, p2_, p3_]))); ((refine tk_ (i := 13) (v := ?_) (y := Or.inl ⟨by rfl, ?_⟩) (h := ?_); rotate_left; (focus (((intro w hSw; (try dsimp only at hSw); go_simp) <;> (try with_reducible rfl)); done)); (try simp only [Act.put, p1_, p2_, p3_]))); ((refine tk_ (i := 14) (v := ?_) (y := Or.inl ⟨by rfl, ?_⟩) (h := ?_); rotate_left; (focus (((intro w hSw; (try dsimp only at hSw); go_simp) <;> (try with_reducible rfl)); done)); (try simp only [Act.put, p1_, p2_, p3_]))); ((refine tk_ (i := 15) (v := ?_) (y := Or.inl ⟨by rfl, ?_⟩) (h := ?_); rotate_left; (focus (((intro w hSw; (try dsimp only at hSw); go_simp) <;> (try with_reducible rfl)); done)); (try simp only [Act.put, p1_, p2_, p3_]))); ((refine tk_ (i := 16) (v := ?_) (y := Or.inl ⟨by rfl, ?_⟩) (h := ?_); rotate_left; (focus (((intro w hSw; (try dsimp only at hSw); go_simp) <;> (try with_reducible rfl)); done)); (try simp only [Act.put, p1_, p2_, p3_]))); ((refine tk_ (i := 17) (v := ?_) (y := Or.inl ⟨by rfl, ?_⟩) (h := ?_); rotate_left; (focus (((intro w hSw; (try dsimp only at hSw); go_simp) <;> (try with_reducible rfl)); done)); (try simp only [Act.put, p1_, p2_, p3_]))); ((refine tk_ (i := 18) (v := ?_) (y := Or.inl ⟨by rfl, ?_⟩) (h := ?_); rotate_left; (focus (((intro w hSw; (try dsimp only at hSw); go_simp) <;> (try with_reducible rfl)); done)); (try simp only [Act.put, p1_, p2_, p3_]))); ((refine tk_ (i := 19) (v := ?_) (y := Or.inl ⟨by rfl, ?_⟩) (h := ?_); rotate_left; (focus (((intro w hSw; (try dsimp only at hSw); go_simp) <;> (try with_reducible rfl)); done)); (try simp only [Act.put, p1_, p2_, p3_]))); ((refine wpAnyH_ready (rs := [20]) (by kernel_rfl) (by simp) ?_; refine AllReadyH.cons (by simp only [e1_, e2_, e3_]; try rfl) (fun K hK => ?_) AllReadyH.nil; go_simp; (try go_wp2_with fail); refine hK.out _ _ ?_ (fun hHeld => ?_); (focus ((try dsimp only); (go_keep))); clear hK K; (try simp only [Act.put, p1_, p2_, p3_]))); (refine wpAnyH_done (by kernel_rfl) ?_ _))
                  go_wp2_with fail
                  go_roundw
                  case rel => exact ⟨j + 1, by go_num, by omega, Kb hR, Kb hW, Kb hO, (by first | exact OR.far how (by simp [Value.ownBlock]; omega) _ | exact OR.drew (OR.far how (by simp [Value.ownBlock]; omega) _)), (by first | exact hst | exact OR.drew hst), Kw⟩
                  case measure => simp only [intOf]; omega
                · obtain rfl : j = i := by omega
                  have hoo2 := hoo.as oR_end
                  clear hoo
                  go_wp2_with fail
                  go_roundw
                  case rel => exact ⟨m + 1, by go_num, by omega, Kb hR, Kb hW, Kb hO, Ko how, Ko hoo2, Kw⟩
                  case measure => simp only [intOf]; omega
            · obtain rfl : m = i := by omega
              have hoo2 := hoo.as (oK_end m X.f)
              clear hoo
              obtain ⟨ra, rb, rc, rf, rl⟩ := hR.mx
              obtain ⟨ua, ub, uc, uf, ul⟩ := hO.mx; obtain ⟨oa, ob, oc, of, ol⟩ := hW.mx
              go_wp2_with fail
              refine ret_MB (r := m) (c := m) (A := Ao) (n := no) (cap := co) Try.results74 rfl (Kb hR) rfl ?_
              rw [HYES.out HV.out, HV.out]
              exact MBR.mk rfl (OR.mono (B := bA + 1) (Ko hoo2) (by omega)) Kw
end Go.Proofs.Ytlggfmfelakadaa

/-
  DERIVED. The law FnSolved: solutions by determinants, by elimination and by lifting agree, and solve the equations.
-/
import Derived.Test.YtlggfmfelakadaaDrEu
import Derived.Test.YtlggfmfelakadaaU1
import Derived.Test.YtlggfmfelakadaaU8
import Derived.Test.YtlggfmfelakadaaU6
import Derived.Test.YtlggfmfelakadaaSolDIu
import Derived.Test.YtlggfmfelakadaaSolEu
import Derived.Test.YtlggfmfelakadaaLfIu
import Derived.Test.YtlggfmfelakadaaIsRatSu
namespace Go.Proofs.Ytlggfmfelakadaa
open Go.RowKit
set_option linter.unusedVariables false
set_option linter.unusedSimpArgs false
/-- What the three roads say of one another: flags, lengths, ratios. -/
structure RDV (b1 b2 b3 : Bool) (n1 n2 n3 : Nat) (v1 v2 v3 : List Int) (ir : Bool) : Prop where
  ab : b1 = true → b2 = true → n2 = n1 ∧ v2 = v1
  ac : b1 = true → b3 = true → n3 = n1 ∧ v3 = v1
  bc : b2 = true → b3 = true → n3 = n2 ∧ v3 = v2
  ir : b3 = true → ir = true
theorem sd_some {r c : Int} {xs bs : List Int} (h : sdB r c xs bs = true) : ∃ q, sdO r c xs bs = some q ∧ sdN r c xs bs = r.toNat ∧ sdV r c xs bs = q := by
  rcases hq : sdO r c xs bs with _ | q
  · rw [(sd_no hq).2.2] at h; cases h
  · obtain ⟨h1, h2, h3⟩ := sd_yes hq
    exact ⟨q, rfl, h1, h2⟩
theorem roadsV (r c : Int) (xs bs : List Int) : RDV (sdB r c xs bs) (seB r c xs bs) (lsX r c xs bs).isSome (sdN r c xs bs) (seN r c xs bs) (lsN r (lsX r c xs bs)) (sdV r c xs bs) (seV r c xs bs) ((lsX r c xs bs).getD []) (irB r c xs bs ((lsX r c xs bs).getD [])) where
  ab := fun h1 h2 => by
    obtain ⟨q, e1, e2, e3⟩ := sd_some h1
    obtain ⟨R, rfl, -, hD, k1⟩ := sd_slv e1
    obtain ⟨R', hR', -, k2⟩ := se_slv h2
    obtain rfl : R = R' := by omega
    refine ⟨?_, ?_⟩
    · rw [e2]; unfold seN; rw [if_pos h2]
    · rw [e3]; exact SLV.uniq hD k2 k1
  ac := fun h1 h2 => by
    obtain ⟨q, e1, e2, e3⟩ := sd_some h1
    obtain ⟨R, rfl, -, hD, k1⟩ := sd_slv e1
    rcases hx : lsX R c xs bs with _ | q3
    · rw [hx] at h2; cases h2
    · obtain ⟨-, R', hR', -, -, k2⟩ := ls_slv hx
      obtain rfl : R = R' := by omega
      refine ⟨?_, ?_⟩
      · rw [e2]; rfl
      · rw [e3]; exact SLV.uniq hD k2 k1
  bc := fun h1 h2 => by
    rcases hx : lsX r c xs bs with _ | q3
    · rw [hx] at h2; cases h2
    · obtain ⟨-, R, rfl, rfl, hD, k2⟩ := ls_slv hx
      obtain ⟨R', hR', -, k1⟩ := se_slv h1
      obtain rfl : R = R' := by omega
      refine ⟨?_, ?_⟩
      · unfold seN; rw [if_pos h1]; rfl
      · exact SLV.uniq hD k2 k1
  ir := fun h => by
    rcases hx : lsX r c xs bs with _ | q3
    · rw [hx] at h; cases h
    · exact (ls_slv hx).1
theorem lsN_le {r : Int} {o : Option (List Int)} (h : r ≤ 1000) : lsN r o ≤ 1000 := by unfold lsN; split <;> omega
set_option maxRecDepth 100000 in
set_option maxHeartbeats 16000000 in
theorem law_FnSolved (w : World) (A : Option Addr) (n cap : Nat) (xs : List Int) (hnc : n ≤ cap) (hcm : cap ≤ maxLen) (hby : RB w w.heap.size A n xs) :
    Calls Try.prog 6 #[.slice A n cap] w fun e w' => e = .returned (.bool true) ∧ Below w.heap.size w w' := by
  by_cases hn : 1048576 < n
  · go_enter Try.func6, Try.ntmps6
    go_wp2_with (go_at_call 7; refine (laws_big A n cap _).mono ?_; rintro e w1 ⟨rfl, rfl⟩)
    go_ret
    exact ⟨rfl, Below.refl _ _⟩
  · go_enter Try.func6, Try.ntmps6
    go_wp2_with (go_at_call 7; refine (laws_big A n cap _).mono ?_; rintro e w1 ⟨rfl, rfl⟩)
    refine (spec_DrawSolveByDeterminants n cap A xs _ hby (by omega)).mono ?_
    rintro e w1 ⟨r, c, A1, n1, c1, ys, Ab, nb, cb, bs, rfl, ho1, ho2, hl1, hl2, hr1, hbw0⟩
    have hsz := hbw0.size
    have e1 := ho1.lenEq
    have e2 := ho2.lenEq
    obtain ⟨e3, e4⟩ := ho1.caps
    have H1 : Hid (RI (w1.alloc (.cells #[.int .i64 r, .int .i64 c, .slice A1 n1 c1] 26)) (w1.alloc (.cells #[.int .i64 r, .int .i64 c, .slice A1 n1 c1] 26)).heap.size A1 n1 ys) := Lib.hid ((ho1.alloc _).reads)
    have HB : Hid (RI (w1.alloc (.cells #[.int .i64 r, .int .i64 c, .slice A1 n1 c1] 26)) (w1.alloc (.cells #[.int .i64 r, .int .i64 c, .slice A1 n1 c1] 26)).heap.size Ab nb bs) := Lib.hid ((ho2.alloc _).reads)
    have hM : BM (w1.alloc (.cells #[.int .i64 r, .int .i64 c, .slice A1 n1 c1] 26)) w1.heap.size r c A1 n1 c1 := Ka
    have n1x : n1 ≤ 17 := by omega
    have nbx : nb ≤ 1001 := by omega
    have HB0 : Hid (Below w.heap.size w (w1.alloc (.cells #[.int .i64 r, .int .i64 c, .slice A1 n1 c1] 26))) := Lib.hid (hbw0.alloc hsz _)
    clear hbw0 ho1 ho2 hby e1 e2 hl1 hl2
    obtain ⟨ma, mb, mc, mf, ml⟩ := hM.mx
    go_wp2_with fail
    generalize (w1.alloc (.cells #[.int .i64 r, .int .i64 c, .slice A1 n1 c1] 26)) = w0 at *
    generalize w1.heap.size = bM at *
    have hbw : Below w0.heap.size w0 w0 := Below.refl _ _
    have hs0 : w.heap.size ≤ w0.heap.size := by have := HB0.out.size; omega
    have hlM := hM.lt
    clear hsz
    have G := roadsV r c ys bs
    have hm3 : lsN r (lsX r c ys bs) ≤ 1000 := lsN_le (by omega)
    have hm2 : seN r c ys bs ≤ 1048576 := seV_len
    have hm1 : sdN r c ys bs ≤ 1048576 := sdN_len
    obtain ⟨b1, h1⟩ : ∃ b, sdB r c ys bs = b := ⟨_, rfl⟩
    obtain ⟨b2, h2⟩ : ∃ b, seB r c ys bs = b := ⟨_, rfl⟩
    obtain ⟨b3, h3⟩ : ∃ b, (lsX r c ys bs).isSome = b := ⟨_, rfl⟩
    obtain ⟨m1, h4⟩ : ∃ b, sdN r c ys bs = b := ⟨_, rfl⟩
    obtain ⟨m2, h5⟩ : ∃ b, seN r c ys bs = b := ⟨_, rfl⟩
    obtain ⟨m3, h6⟩ : ∃ b, lsN r (lsX r c ys bs) = b := ⟨_, rfl⟩
    obtain ⟨v1, h7⟩ : ∃ b, sdV r c ys bs = b := ⟨_, rfl⟩
    obtain ⟨v2, h8⟩ : ∃ b, seV r c ys bs = b := ⟨_, rfl⟩
    obtain ⟨v3, h9⟩ : ∃ b, (lsX r c ys bs).getD [] = b := ⟨_, rfl⟩
    rw [h1, h2, h3, h4, h5, h6, h7, h8, h9] at G
    rw [h6] at hm3
    rw [h5] at hm2
    rw [h4] at hm1
    have HG := Lib.hid G
    have K1 := Lib.hid (And.intro h1 (And.intro h4 h7))
    have K2 := Lib.hid (And.intro h2 (And.intro h5 h8))
    have K3 := Lib.hid (And.intro h3 (And.intro h6 h9))
    clear h1 h2 h3 h4 h5 h6 h7 h8 h9 G
    refine (impl_SolveByDeterminants r c A1 Ab n1 c1 nb cb ys bs _ (B := w0.heap.size) (B' := w0.heap.size) (Kr H1.out) (Kr HB.out) Ks Ks (by omega) (by omega)).mono ?_
    rw [K1.out.1, K1.out.2.1, K1.out.2.2]
    rintro e w2 ⟨Ax, mx_, cx, rfl, hof, hb2⟩
    have hq := hof.lenEq.symm
    subst hq
    have hszw2 := hb2.size; (try simp at hszw2); have hM_1 : BM w2 bM r c A1 n1 c1 := (Kb hM); have H1_1 : Hid (RI w2 w0.heap.size A1 n1 ys) := Lib.hid (Kr H1.out); have HB_1 : Hid (RI w2 w0.heap.size Ab nb bs) := Lib.hid (Kr HB.out); (try (have HX_1 : Hid (RI w2 Bq1 Ax (m1 * 2) v1) := Lib.hid (Kr HX.out))); (try (have HY_1 : Hid (RI w2 Bq2 Ay (m2 * 2) v2) := Lib.hid (Kr HY.out))); (try (have HZ_1 : Hid (RI w2 Bq3 Az (m3 * 2) v3) := Lib.hid (Kr HZ.out))); have hbw_1 : Below w0.heap.size w0 w2 := Kw; clear hM hbw H1 HB ma mb mc mf ml hb2; (try clear HX); (try clear HY); (try clear HZ); have hM := hM_1; have H1 := H1_1; have HB := HB_1; (try have HX := HX_1); (try have HY := HY_1); (try have HZ := HZ_1); have hbw := hbw_1; clear hM_1 H1_1 HB_1 hbw_1; (try clear HX_1); (try clear HY_1); (try clear HZ_1); obtain ⟨ma, mb, mc, mf, ml⟩ := hM.mx
    obtain ⟨Bq1, hBX, hBX1⟩ : ∃ B, RI w2 B Ax (m1 * 2) v1 ∧ B ≤ w2.heap.size := ⟨_, hof.reads, Nat.le_refl _⟩
    clear hof
    have HX := Lib.hid hBX
    clear hBX
    go_wp2_with fail
    refine (spec_SolveByDeterminants r c A1 Ab n1 c1 nb cb ys bs _ (B := w0.heap.size) (B' := w0.heap.size) (Kr H1.out) (Kr HB.out) Ks Ks (by omega) (by omega)).mono ?_
    rw [K1.out.1, K1.out.2.1, K1.out.2.2]
    rintro e w3 ⟨Au, mu_, cu, rfl, -, hb3⟩
    have hszw3 := hb3.size; (try simp at hszw3); have hM_1 : BM w3 bM r c A1 n1 c1 := (Kb hM); have H1_1 : Hid (RI w3 w0.heap.size A1 n1 ys) := Lib.hid (Kr H1.out); have HB_1 : Hid (RI w3 w0.heap.size Ab nb bs) := Lib.hid (Kr HB.out); (try (have HX_1 : Hid (RI w3 Bq1 Ax (m1 * 2) v1) := Lib.hid (Kr HX.out))); (try (have HY_1 : Hid (RI w3 Bq2 Ay (m2 * 2) v2) := Lib.hid (Kr HY.out))); (try (have HZ_1 : Hid (RI w3 Bq3 Az (m3 * 2) v3) := Lib.hid (Kr HZ.out))); have hbw_1 : Below w0.heap.size w0 w3 := Kw; clear hM hbw H1 HB ma mb mc mf ml hb3; (try clear HX); (try clear HY); (try clear HZ); have hM := hM_1; have H1 := H1_1; have HB := HB_1; (try have HX := HX_1); (try have HY := HY_1); (try have HZ := HZ_1); have hbw := hbw_1; clear hM_1 H1_1 HB_1 hbw_1; (try clear HX_1); (try clear HY_1); (try clear HZ_1); obtain ⟨ma, mb, mc, mf, ml⟩ := hM.mx
    have hne : (b1 != b1) = false := by cases b1 <;> rfl
    go_wp2_with fail
    refine (impl_SolveByEchelon r c A1 Ab n1 c1 nb cb ys bs _ (B := w0.heap.size) (B' := w0.heap.size) (Kr H1.out) (Kr HB.out) Ks Ks (by omega) (by omega) (by omega) (by omega)).mono ?_
    rw [K2.out.1, K2.out.2.1, K2.out.2.2]
    rintro e w4 ⟨Ay, my_, cy, rfl, hof, hb4⟩
    have hq := hof.lenEq.symm
    subst hq
    have hszw4 := hb4.size; (try simp at hszw4); have hM_1 : BM w4 bM r c A1 n1 c1 := (Kb hM); have H1_1 : Hid (RI w4 w0.heap.size A1 n1 ys) := Lib.hid (Kr H1.out); have HB_1 : Hid (RI w4 w0.heap.size Ab nb bs) := Lib.hid (Kr HB.out); (try (have HX_1 : Hid (RI w4 Bq1 Ax (m1 * 2) v1) := Lib.hid (Kr HX.out))); (try (have HY_1 : Hid (RI w4 Bq2 Ay (m2 * 2) v2) := Lib.hid (Kr HY.out))); (try (have HZ_1 : Hid (RI w4 Bq3 Az (m3 * 2) v3) := Lib.hid (Kr HZ.out))); have hbw_1 : Below w0.heap.size w0 w4 := Kw; clear hM hbw H1 HB ma mb mc mf ml hb4; (try clear HX); (try clear HY); (try clear HZ); have hM := hM_1; have H1 := H1_1; have HB := HB_1; (try have HX := HX_1); (try have HY := HY_1); (try have HZ := HZ_1); have hbw := hbw_1; clear hM_1 H1_1 HB_1 hbw_1; (try clear HX_1); (try clear HY_1); (try clear HZ_1); obtain ⟨ma, mb, mc, mf, ml⟩ := hM.mx
    obtain ⟨Bq2, hBY, hBY1⟩ : ∃ B, RI w4 B Ay (m2 * 2) v2 ∧ B ≤ w4.heap.size := ⟨_, hof.reads, Nat.le_refl _⟩
    clear hof
    have HY := Lib.hid hBY
    clear hBY
    go_wp2_with fail
    refine (impl_SolveByLifting r c A1 Ab n1 c1 nb cb ys bs _ (B := w0.heap.size) (B' := w0.heap.size) (Kr H1.out) (Kr HB.out) Ks Ks (by omega) (by omega)).mono ?_
    unfold LSR
    rw [K3.out.1, K3.out.2.1, K3.out.2.2]
    rintro e w5 ⟨Az, mz_, cz, rfl, hof, hb5⟩
    have hq := hof.lenEq.symm
    subst hq
    have hszw5 := hb5.size; (try simp at hszw5); have hM_1 : BM w5 bM r c A1 n1 c1 := (Kb hM); have H1_1 : Hid (RI w5 w0.heap.size A1 n1 ys) := Lib.hid (Kr H1.out); have HB_1 : Hid (RI w5 w0.heap.size Ab nb bs) := Lib.hid (Kr HB.out); (try (have HX_1 : Hid (RI w5 Bq1 Ax (m1 * 2) v1) := Lib.hid (Kr HX.out))); (try (have HY_1 : Hid (RI w5 Bq2 Ay (m2 * 2) v2) := Lib.hid (Kr HY.out))); (try (have HZ_1 : Hid (RI w5 Bq3 Az (m3 * 2) v3) := Lib.hid (Kr HZ.out))); have hbw_1 : Below w0.heap.size w0 w5 := Kw; clear hM hbw H1 HB ma mb mc mf ml hb5; (try clear HX); (try clear HY); (try clear HZ); have hM := hM_1; have H1 := H1_1; have HB := HB_1; (try have HX := HX_1); (try have HY := HY_1); (try have HZ := HZ_1); have hbw := hbw_1; clear hM_1 H1_1 HB_1 hbw_1; (try clear HX_1); (try clear HY_1); (try clear HZ_1); obtain ⟨ma, mb, mc, mf, ml⟩ := hM.mx
    obtain ⟨Bq3, hBZ, hBZ1⟩ : ∃ B, RI w5 B Az (m3 * 2) v3 ∧ B ≤ w5.heap.size := ⟨_, hof.reads, Nat.le_refl _⟩
    clear hof
    have HZ := Lib.hid hBZ
    clear hBZ
    have hs5 : w0.heap.size ≤ w5.heap.size := hbw.size
    have hcur : Below w5.heap.size w5 w5 := Below.refl _ _
    have hlM5 := hM.lt
    rcases b1 with _ | _
    · rcases b2 with _ | _
      · rcases b3 with _ | _
        · go_wp2_with fail
          go_ret
          have hbw := hbw.trans (hcur.mono hs5)
          exact ⟨rfl, HB0.out.trans (Below.mono (B := w0.heap.size) Kw hs0)⟩
        · have hir := HG.out.ir rfl
          have HI := Lib.hid hir
          clear hir
          go_wp2_with fail
          refine (impl_IsRational r c A1 Ab Az n1 c1 nb cb _ _ ys bs _ _ (RI.below H1.out hcur (by omega)) (RI.below HB.out hcur (by omega)) (RI.below HZ.out hcur (by omega)) (by omega) (by omega) (by omega) (by omega) (by omega) (by omega)).mono ?_
          rw [HI.out]
          rintro e w6 ⟨rfl, hb9⟩
          have hcur_1 : Below w5.heap.size w5 w6 := Kw; have hsz_w6 := hcur_1.size; have hM_w6 : BM w6 bM r c A1 n1 c1 := (BX.below hM hcur_1 (by omega)); (try clear ma mb mc mf ml); obtain ⟨ma, mb, mc, mf, ml⟩ := hM_w6.mx; clear hcur hb9; have hcur := hcur_1; clear hcur_1
          go_wp2_with fail
          refine (spec_IsRational r c A1 Ab Az n1 c1 nb cb _ _ ys bs _ _ (RI.below H1.out hcur (by omega)) (RI.below HB.out hcur (by omega)) (RI.below HZ.out hcur (by omega)) (by omega) (by omega) (by omega) (by omega) (by omega) (by omega)).mono ?_
          rw [HI.out]
          rintro e w7 ⟨rfl, hb9⟩
          have hcur_1 : Below w5.heap.size w5 w7 := Kw; have hsz_w7 := hcur_1.size; have hM_w7 : BM w7 bM r c A1 n1 c1 := (BX.below hM hcur_1 (by omega)); (try clear ma mb mc mf ml); obtain ⟨ma, mb, mc, mf, ml⟩ := hM_w7.mx; clear hcur hb9; have hcur := hcur_1; clear hcur_1
          go_wp2_with fail
          go_ret
          have hbw := hbw.trans (hcur.mono hs5)
          exact ⟨rfl, HB0.out.trans (Below.mono (B := w0.heap.size) Kw hs0)⟩
      · rcases b3 with _ | _
        · go_wp2_with fail
          go_ret
          have hbw := hbw.trans (hcur.mono hs5)
          exact ⟨rfl, HB0.out.trans (Below.mono (B := w0.heap.size) Kw hs0)⟩
        · obtain ⟨q1, q2⟩ := HG.out.bc rfl rfl
          subst q1
          subst q2
          go_wp2_with fail
          refine (laws_sameRatios Ay Az _ _ _ _ _ (RI.below HY.out hcur (by omega)) (RI.below HZ.out hcur (by omega)) (by omega) (by omega) (by omega)).mono ?_
          rintro e w11 ⟨rfl, hb9⟩
          have hcur_1 : Below w5.heap.size w5 w11 := Kw; have hsz_w11 := hcur_1.size; have hM_w11 : BM w11 bM r c A1 n1 c1 := (BX.below hM hcur_1 (by omega)); (try clear ma mb mc mf ml); obtain ⟨ma, mb, mc, mf, ml⟩ := hM_w11.mx; clear hcur hb9; have hcur := hcur_1; clear hcur_1
          have hir := HG.out.ir rfl
          have HI := Lib.hid hir
          clear hir
          go_wp2_with fail
          refine (impl_IsRational r c A1 Ab Az n1 c1 nb cb _ _ ys bs _ _ (RI.below H1.out hcur (by omega)) (RI.below HB.out hcur (by omega)) (RI.below HZ.out hcur (by omega)) (by omega) (by omega) (by omega) (by omega) (by omega) (by omega)).mono ?_
          rw [HI.out]
          rintro e w6 ⟨rfl, hb9⟩
          have hcur_1 : Below w5.heap.size w5 w6 := Kw; have hsz_w6 := hcur_1.size; have hM_w6 : BM w6 bM r c A1 n1 c1 := (BX.below hM hcur_1 (by omega)); (try clear ma mb mc mf ml); obtain ⟨ma, mb, mc, mf, ml⟩ := hM_w6.mx; clear hcur hb9; have hcur := hcur_1; clear hcur_1
          go_wp2_with fail
          refine (spec_IsRational r c A1 Ab Az n1 c1 nb cb _ _ ys bs _ _ (RI.below H1.out hcur (by omega)) (RI.below HB.out hcur (by omega)) (RI.below HZ.out hcur (by omega)) (by omega) (by omega) (by omega) (by omega) (by omega) (by omega)).mono ?_
          rw [HI.out]
          rintro e w7 ⟨rfl, hb9⟩
          have hcur_1 : Below w5.heap.size w5 w7 := Kw; have hsz_w7 := hcur_1.size; have hM_w7 : BM w7 bM r c A1 n1 c1 := (BX.below hM hcur_1 (by omega)); (try clear ma mb mc mf ml); obtain ⟨ma, mb, mc, mf, ml⟩ := hM_w7.mx; clear hcur hb9; have hcur := hcur_1; clear hcur_1
          go_wp2_with fail
          go_ret
          have hbw := hbw.trans (hcur.mono hs5)
          exact ⟨rfl, HB0.out.trans (Below.mono (B := w0.heap.size) Kw hs0)⟩
    · rcases b2 with _ | _
      · rcases b3 with _ | _
        · go_wp2_with fail
          go_ret
          have hbw := hbw.trans (hcur.mono hs5)
          exact ⟨rfl, HB0.out.trans (Below.mono (B := w0.heap.size) Kw hs0)⟩
        · obtain ⟨q1, q2⟩ := HG.out.ac rfl rfl
          subst q1
          subst q2
          go_wp2_with fail
          refine (laws_sameRatios Ax Az _ _ _ _ _ (RI.below HX.out hcur (by omega)) (RI.below HZ.out hcur (by omega)) (by omega) (by omega) (by omega)).mono ?_
          rintro e w11 ⟨rfl, hb9⟩
          have hcur_1 : Below w5.heap.size w5 w11 := Kw; have hsz_w11 := hcur_1.size; have hM_w11 : BM w11 bM r c A1 n1 c1 := (BX.below hM hcur_1 (by omega)); (try clear ma mb mc mf ml); obtain ⟨ma, mb, mc, mf, ml⟩ := hM_w11.mx; clear hcur hb9; have hcur := hcur_1; clear hcur_1
          have hir := HG.out.ir rfl
          have HI := Lib.hid hir
          clear hir
          go_wp2_with fail
          refine (impl_IsRational r c A1 Ab Az n1 c1 nb cb _ _ ys bs _ _ (RI.below H1.out hcur (by omega)) (RI.below HB.out hcur (by omega)) (RI.below HZ.out hcur (by omega)) (by omega) (by omega) (by omega) (by omega) (by omega) (by omega)).mono ?_
          rw [HI.out]
          rintro e w6 ⟨rfl, hb9⟩
          have hcur_1 : Below w5.heap.size w5 w6 := Kw; have hsz_w6 := hcur_1.size; have hM_w6 : BM w6 bM r c A1 n1 c1 := (BX.below hM hcur_1 (by omega)); (try clear ma mb mc mf ml); obtain ⟨ma, mb, mc, mf, ml⟩ := hM_w6.mx; clear hcur hb9; have hcur := hcur_1; clear hcur_1
          go_wp2_with fail
          refine (spec_IsRational r c A1 Ab Az n1 c1 nb cb _ _ ys bs _ _ (RI.below H1.out hcur (by omega)) (RI.below HB.out hcur (by omega)) (RI.below HZ.out hcur (by omega)) (by omega) (by omega) (by omega) (by omega) (by omega) (by omega)).mono ?_
          rw [HI.out]
          rintro e w7 ⟨rfl, hb9⟩
          have hcur_1 : Below w5.heap.size w5 w7 := Kw; have hsz_w7 := hcur_1.size; have hM_w7 : BM w7 bM r c A1 n1 c1 := (BX.below hM hcur_1 (by omega)); (try clear ma mb mc mf ml); obtain ⟨ma, mb, mc, mf, ml⟩ := hM_w7.mx; clear hcur hb9; have hcur := hcur_1; clear hcur_1
          go_wp2_with fail
          go_ret
          have hbw := hbw.trans (hcur.mono hs5)
          exact ⟨rfl, HB0.out.trans (Below.mono (B := w0.heap.size) Kw hs0)⟩
      · obtain ⟨q1, q2⟩ := HG.out.ab rfl rfl
        subst q1
        subst q2
        rcases b3 with _ | _
        · skip
          go_wp2_with fail
          refine (laws_sameRatios Ax Ay _ _ _ _ _ (RI.below HX.out hcur (by omega)) (RI.below HY.out hcur (by omega)) (by omega) (by omega) (by omega)).mono ?_
          rintro e w11 ⟨rfl, hb9⟩
          have hcur_1 : Below w5.heap.size w5 w11 := Kw; have hsz_w11 := hcur_1.size; have hM_w11 : BM w11 bM r c A1 n1 c1 := (BX.below hM hcur_1 (by omega)); (try clear ma mb mc mf ml); obtain ⟨ma, mb, mc, mf, ml⟩ := hM_w11.mx; clear hcur hb9; have hcur := hcur_1; clear hcur_1
          go_wp2_with fail
          go_ret
          have hbw := hbw.trans (hcur.mono hs5)
          exact ⟨rfl, HB0.out.trans (Below.mono (B := w0.heap.size) Kw hs0)⟩
        · obtain ⟨q1, q2⟩ := HG.out.ac rfl rfl
          subst q1
          subst q2
          go_wp2_with fail
          refine (laws_sameRatios Ax Ay _ _ _ _ _ (RI.below HX.out hcur (by omega)) (RI.below HY.out hcur (by omega)) (by omega) (by omega) (by omega)).mono ?_
          rintro e w11 ⟨rfl, hb9⟩
          have hcur_1 : Below w5.heap.size w5 w11 := Kw; have hsz_w11 := hcur_1.size; have hM_w11 : BM w11 bM r c A1 n1 c1 := (BX.below hM hcur_1 (by omega)); (try clear ma mb mc mf ml); obtain ⟨ma, mb, mc, mf, ml⟩ := hM_w11.mx; clear hcur hb9; have hcur := hcur_1; clear hcur_1
          go_wp2_with fail
          refine (laws_sameRatios Ax Az _ _ _ _ _ (RI.below HX.out hcur (by omega)) (RI.below HZ.out hcur (by omega)) (by omega) (by omega) (by omega)).mono ?_
          rintro e w12 ⟨rfl, hb9⟩
          have hcur_1 : Below w5.heap.size w5 w12 := Kw; have hsz_w12 := hcur_1.size; have hM_w12 : BM w12 bM r c A1 n1 c1 := (BX.below hM hcur_1 (by omega)); (try clear ma mb mc mf ml); obtain ⟨ma, mb, mc, mf, ml⟩ := hM_w12.mx; clear hcur hb9; have hcur := hcur_1; clear hcur_1
          go_wp2_with fail
          refine (laws_sameRatios Ay Az _ _ _ _ _ (RI.below HY.out hcur (by omega)) (RI.below HZ.out hcur (by omega)) (by omega) (by omega) (by omega)).mono ?_
          rintro e w13 ⟨rfl, hb9⟩
          have hcur_1 : Below w5.heap.size w5 w13 := Kw; have hsz_w13 := hcur_1.size; have hM_w13 : BM w13 bM r c A1 n1 c1 := (BX.below hM hcur_1 (by omega)); (try clear ma mb mc mf ml); obtain ⟨ma, mb, mc, mf, ml⟩ := hM_w13.mx; clear hcur hb9; have hcur := hcur_1; clear hcur_1
          have hir := HG.out.ir rfl
          have HI := Lib.hid hir
          clear hir
          go_wp2_with fail
          refine (impl_IsRational r c A1 Ab Az n1 c1 nb cb _ _ ys bs _ _ (RI.below H1.out hcur (by omega)) (RI.below HB.out hcur (by omega)) (RI.below HZ.out hcur (by omega)) (by omega) (by omega) (by omega) (by omega) (by omega) (by omega)).mono ?_
          rw [HI.out]
          rintro e w6 ⟨rfl, hb9⟩
          have hcur_1 : Below w5.heap.size w5 w6 := Kw; have hsz_w6 := hcur_1.size; have hM_w6 : BM w6 bM r c A1 n1 c1 := (BX.below hM hcur_1 (by omega)); (try clear ma mb mc mf ml); obtain ⟨ma, mb, mc, mf, ml⟩ := hM_w6.mx; clear hcur hb9; have hcur := hcur_1; clear hcur_1
          go_wp2_with fail
          refine (spec_IsRational r c A1 Ab Az n1 c1 nb cb _ _ ys bs _ _ (RI.below H1.out hcur (by omega)) (RI.below HB.out hcur (by omega)) (RI.below HZ.out hcur (by omega)) (by omega) (by omega) (by omega) (by omega) (by omega) (by omega)).mono ?_
          rw [HI.out]
          rintro e w7 ⟨rfl, hb9⟩
          have hcur_1 : Below w5.heap.size w5 w7 := Kw; have hsz_w7 := hcur_1.size; have hM_w7 : BM w7 bM r c A1 n1 c1 := (BX.below hM hcur_1 (by omega)); (try clear ma mb mc mf ml); obtain ⟨ma, mb, mc, mf, ml⟩ := hM_w7.mx; clear hcur hb9; have hcur := hcur_1; clear hcur_1
          go_wp2_with fail
          go_ret
          have hbw := hbw.trans (hcur.mono hs5)
          exact ⟨rfl, HB0.out.trans (Below.mono (B := w0.heap.size) Kw hs0)⟩
end Go.Proofs.Ytlggfmfelakadaa

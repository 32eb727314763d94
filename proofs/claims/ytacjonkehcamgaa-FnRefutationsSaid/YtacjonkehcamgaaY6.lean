/-
  DERIVED. Several small texts in one: SiB, SiV, SiG, SiRs, DrF, LRefutations.
-/
import Derived.Test.YtacjonkehcamgaaSiSv
import Derived.Test.YtacjonkehcamgaaY5
import Derived.Test.YtacjonkehcamgaaSiFv
import Derived.Test.YtacjonkehcamgaaY4
import Derived.Test.YtacjonkehcamgaaY1
import Derived.Test.YtacjonkehcamgaaRefSv
import Derived.Test.YtacjonkehcamgaaIsSolv
/-
  DERIVED. l14Blocked of the reference.
-/
namespace Go.Proofs.Ytacjonkehcamgaa
open Go.RowKit
set_option linter.unusedVariables false
set_option linter.unusedSimpArgs false
set_option maxRecDepth 100000 in
set_option maxHeartbeats 4000000 in
theorem spec_l14Blocked (R C : Nat) (A Ac : Option Addr) (n cap nc capc : Nat) (f : Fn2) (cs : List Int) (w : World) {B B' : Nat} (h : OR w B (.slice A n cap) (tb R C f)) (hc : RI w B' Ac nc cs) (hB' : B' ≤ w.heap.size) (hl : cs.length = R) (hf : OKF R C f) (hR : R ≤ 24) (hC : C ≤ 24) :
    Calls Try.prog 189 #[.agg #[.int .i64 R, .int .i64 C, .slice A n cap], .slice Ac nc capc] w (BV (.int .i64 (fwV (fwF (dgF R C f) 0 cs))) w) := by
  have hln := hc.len
  have hlx : cs.length ≤ R ∧ R ≤ cs.length ∧ nc ≤ R ∧ R ≤ nc := by omega
  have HOW : Hid (∀ w', Below w.heap.size w w' → OR w' B (.slice A n cap) (tb R C f)) := Lib.hid (fun w' hb => h.below hb (Nat.le_refl _))
  have HC := Lib.hid (hc.more hB')
  have HF := Lib.hid hf
  clear hc hl hln hf h
  obtain ⟨X, hX⟩ : ∃ X, fwF (dgF R C f) 0 cs = X := ⟨_, rfl⟩
  rw [hX]
  have HX0 := Lib.hid hX
  clear hX
  go_enter Try.func189, Try.ntmps189
  go_wp2_with fail
  go_loopw [5] (fun v wr => ∃ k : Nat, v = .int .i64 k ∧ k ≤ R ∧ fwF (dgF R C f) k (cs.drop k) = X ∧ BM wr w.heap.size R C A n cap ∧ Below w.heap.size w wr) (fun v _ => R - (intOf v).toNat)
  case atStart => exact ⟨0, rfl, Nat.zero_le _, HX0.out, Ka, Kw⟩
  case round =>
    obtain ⟨k, rfl, hk, hfw, hM, hbw⟩ := hrel
    have HX := Lib.hid hfw
    clear hfw
    obtain ⟨ma, mb, mc, mf, ml⟩ := hM.mx
    have hsw := hbw.size
    by_cases hlt : k < R
    · obtain ⟨b, o, rfl, hbb, hcells⟩ := HC.out.2 (by omega)
      have c1 := (hbw.cell (p := ⟨b, o + k, none⟩) hbb).trans (hcells k (by omega))
      have hbl := Nat.lt_of_lt_of_le hbb hbw.size
      clear hcells
      have hknc : k < nc := by omega
      have ho := HOW.out _ hbw
      generalize hcv : cs.getD k 0 = c at *
      have HCV := Lib.hid hcv
      clear hcv
      by_cases hkC : k < C
      · have hdk : dgF R C f k = f k k := dgF_in hlt hkC
        generalize hv : f k k = z at *
        have HV := Lib.hid hv
        clear hv
        by_cases hz : z = 0
        · by_cases hc0 : c = 0
          · subst hz
            subst hc0
            have HNX : Hid (fwF (dgF R C f) (k + 1) (cs.drop (k + 1)) = X) := Lib.hid ((fwF_yes (k := k) (by omega) (by rw [hdk, HCV.out]; exact Int.dvd_refl _)).symm.trans HX.out)
            clear hdk
            go_wp2_with fail
            refine (spec_l12Cell_tb R C k k A n cap f 0 HV.out _ (B := B) (Ko ho) (by omega) (by omega) (by omega) (by omega)).mono ?_
            rintro e w1 ⟨rfl, hb1⟩
            have hs1 := hb1.size
            have hM_1 : BM w1 w.heap.size R C A n cap := Kb hM
            have hbw_1 : Below w.heap.size w w1 := Kw
            have c2 := (hb1.cell (p := ⟨b, o + k, none⟩) (by simpa using hbl)).trans c1
            clear hM hbw c1 hb1 ma mb mc mf ml
            have hM := hM_1
            have hbw := hbw_1
            clear hM_1 hbw_1
            obtain ⟨ma, mb, mc, mf, ml⟩ := hM.mx
            go_wp2_with fail
            go_wp2_with fail
            go_roundw
            case rel => exact ⟨k + 1, by go_num, by omega, HNX.out, Kb hM, Kw⟩
            case measure => simp only [intOf]; omega
          · subst hz
            have HFD : Hid (X = some k) := Lib.hid (by rw [← HX.out, fwF_no (by omega) (by rw [hdk, HCV.out]; exact fun h => hc0 (Int.zero_dvd.1 h))])
            have hcb : (c != 0) = true := by simpa using hc0
            clear hdk hc0
            go_wp2_with fail
            refine (spec_l12Cell_tb R C k k A n cap f 0 HV.out _ (B := B) (Ko ho) (by omega) (by omega) (by omega) (by omega)).mono ?_
            rintro e w1 ⟨rfl, hb1⟩
            have hs1 := hb1.size
            have hM_1 : BM w1 w.heap.size R C A n cap := Kb hM
            have hbw_1 : Below w.heap.size w w1 := Kw
            have c2 := (hb1.cell (p := ⟨b, o + k, none⟩) (by simpa using hbl)).trans c1
            clear hM hbw c1 hb1 ma mb mc mf ml
            have hM := hM_1
            have hbw := hbw_1
            clear hM_1 hbw_1
            obtain ⟨ma, mb, mc, mf, ml⟩ := hM.mx
            go_wp2_with fail
            go_wp2_with fail
            go_ret
            exact BV.mk (vint (show (k : Int) = _ by rw [HFD.out]; rfl)) Kw
        · by_cases hc0 : c.tmod z = 0
          · skip
            have HNX : Hid (fwF (dgF R C f) (k + 1) (cs.drop (k + 1)) = X) := Lib.hid ((fwF_yes (k := k) (by omega) (by rw [hdk, HCV.out]; exact Int.dvd_of_tmod_eq_zero hc0)).symm.trans HX.out)
            have hzb : (z == 0) = false := by simpa using hz
            have hzb2 : (z != 0) = true := by simpa using hz
            have hcb : (c.tmod z != 0) = false := by simp [hc0]
            clear hdk hc0
            go_wp2_with fail
            refine (spec_l12Cell_tb R C k k A n cap f z HV.out _ (B := B) (Ko ho) (by omega) (by omega) (by omega) (by omega)).mono ?_
            rintro e w1 ⟨rfl, hb1⟩
            have hs1 := hb1.size
            have hM_1 : BM w1 w.heap.size R C A n cap := Kb hM
            have hbw_1 : Below w.heap.size w w1 := Kw
            have c2 := (hb1.cell (p := ⟨b, o + k, none⟩) (by simpa using hbl)).trans c1
            clear hM hbw c1 hb1 ma mb mc mf ml
            have hM := hM_1
            have hbw := hbw_1
            clear hM_1 hbw_1
            obtain ⟨ma, mb, mc, mf, ml⟩ := hM.mx
            go_wp2_with fail
            go_wp2_with fail
            go_roundw
            case rel => exact ⟨k + 1, by go_num, by omega, HNX.out, Kb hM, Kw⟩
            case measure => simp only [intOf]; omega
          · skip
            have HFD : Hid (X = some k) := Lib.hid (by rw [← HX.out, fwF_no (by omega) (by rw [hdk, HCV.out]; exact fun h => hc0 (Int.tmod_eq_zero_of_dvd h))])
            have hzb : (z == 0) = false := by simpa using hz
            have hzb2 : (z != 0) = true := by simpa using hz
            have hcb : (c.tmod z != 0) = true := by simpa using hc0
            clear hdk hc0
            go_wp2_with fail
            refine (spec_l12Cell_tb R C k k A n cap f z HV.out _ (B := B) (Ko ho) (by omega) (by omega) (by omega) (by omega)).mono ?_
            rintro e w1 ⟨rfl, hb1⟩
            have hs1 := hb1.size
            have hM_1 : BM w1 w.heap.size R C A n cap := Kb hM
            have hbw_1 : Below w.heap.size w w1 := Kw
            have c2 := (hb1.cell (p := ⟨b, o + k, none⟩) (by simpa using hbl)).trans c1
            clear hM hbw c1 hb1 ma mb mc mf ml
            have hM := hM_1
            have hbw := hbw_1
            clear hM_1 hbw_1
            obtain ⟨ma, mb, mc, mf, ml⟩ := hM.mx
            go_wp2_with fail
            go_wp2_with fail
            go_ret
            exact BV.mk (vint (show (k : Int) = _ by rw [HFD.out]; rfl)) Kw
      · have hdk : dgF R C f k = 0 := dgF_out (by omega)
        by_cases hc0 : c = 0
        · subst hc0
          have HNX : Hid (fwF (dgF R C f) (k + 1) (cs.drop (k + 1)) = X) := Lib.hid ((fwF_yes (k := k) (by omega) (by rw [hdk, HCV.out]; exact Int.dvd_refl _)).symm.trans HX.out)
          clear hdk
          go_wp2_with fail
          go_roundw
          case rel => exact ⟨k + 1, by go_num, by omega, HNX.out, Kb hM, Kw⟩
          case measure => simp only [intOf]; omega
        · skip
          have HFD : Hid (X = some k) := Lib.hid (by rw [← HX.out, fwF_no (by omega) (by rw [hdk, HCV.out]; exact fun h => hc0 (Int.zero_dvd.1 h))])
          have hcb : (c != 0) = true := by simpa using hc0
          clear hdk hc0
          go_wp2_with fail
          go_ret
          exact BV.mk (vint (show (k : Int) = _ by rw [HFD.out]; rfl)) Kw
    · have hkE : k = R := by omega
      have HE : Hid (X = none) := Lib.hid (by rw [← HX.out, fwF_end (by omega)])
      clear hkE
      go_wp2_with fail
      go_ret
      exact BV.mk (vint (show (-1 : Int) = _ by rw [HE.out]; rfl)) Kw
end Go.Proofs.Ytacjonkehcamgaa

/-
  DERIVED. SolveInteger of the reference.
-/
namespace Go.Proofs.Ytacjonkehcamgaa
open Go.RowKit
set_option linter.unusedVariables false
set_option linter.unusedSimpArgs false
set_option maxRecDepth 100000 in
set_option maxHeartbeats 8000000 in
theorem spec_SolveInteger (r c : Int) (A Ab : Option Addr) (n cap nb capb : Nat) (xs bs : List Int) (w : World) {B B' : Nat} (h : RI w B A n xs) (hb : RI w B' Ab nb bs) (hB : B ≤ w.heap.size) (hB' : B' ≤ w.heap.size) (hn : n ≤ 1048576) (hnb : nb ≤ 1048576) :
    Calls Try.prog 98 #[.agg #[.int .i64 r, .int .i64 c, .slice A n cap], .slice Ab nb capb] w (IIR (siR r c xs bs).1 (siR r c xs bs).2 w) := by
  have hlb := hb.len
  have hlb2 : bs.length ≤ nb ∧ nb ≤ bs.length := by omega
  have HLB := Lib.hid hlb
  have H2 := Lib.hid (h.more hB)
  have H3 := Lib.hid (hb.more hB')
  clear h hb hlb
  rcases hS : siS r c xs bs with _ | ⟨s, cs⟩
  · have HR := Lib.hid (siR_fail hS)
    have HS := Lib.hid hS
    clear hS
    go_enter Try.func98, Try.ntmps98
    go_wp2_with fail
    refine (spec_l14Ready r c A Ab n cap nb capb xs bs _ (B := w.heap.size) (B' := w.heap.size) (Kr H2.out) (Kr H3.out) Ks Ks hn hnb).mono ?_
    intro e w1 hk1
    obtain ⟨r1, c1, r2, c2, r3, c3, A1, A2, A3, A4, n1, k1, n2, k2, n3, k3, n4, k4, rfl, hb1⟩ := SFR.no HS.out hk1
    clear hk1
    have hs1 := hb1.size
    simp at hs1
    go_wp2_with fail
    go_ret2
    exact IIR.mk (by rw [HR.out]) (OR.empty' _ _ (by simp) Ks) Kw
  · have hm : isMat r c xs = true := by
      rcases hm : isMat r c xs with _ | _
      · rw [siS_none (sfX_no hm)] at hS; cases hS
      · rfl
    have M := isMat_iff.1 hm
    obtain ⟨R, rfl⟩ := nat_of M.r0
    obtain ⟨C, rfl⟩ := nat_of M.c0
    have hR : R ≤ 24 := by have := M.r1; omega
    have hC : C ≤ 24 := by have := M.c1; omega
    obtain ⟨hX, hlen, hmul, hcs⟩ := siS_some hS
    have HOK : Hid (OKF R C s.f) := Lib.hid (sfX_gd hX).2.2.2.ok.f
    have hcl : cs.length = R := by rw [hcs, mulL_len]; omega
    have HCN : Hid (∀ k, Num (cs.getD k 0)) := Lib.hid (by
      unfold mulB at hmul
      rw [Bool.and_eq_true] at hmul
      have h2 := (isMat_iff.1 hmul.2).num
      simp only [Int.toNat_natCast] at h2
      rw [hcs]
      exact getD_num h2)
    have HS := Lib.hid hS
    have HCL := Lib.hid hcl
    have hcl2 : cs.length ≤ R ∧ R ≤ cs.length := by omega
    clear M hm hX hlen hmul hcs hcl hS
    go_enter Try.func98, Try.ntmps98
    go_wp2_with fail
    refine (spec_l14Ready R C A Ab n cap nb capb xs bs _ (B := w.heap.size) (B' := w.heap.size) (Kr H2.out) (Kr H3.out) Ks Ks hn hnb).mono ?_
    intro e w1 hk1
    obtain ⟨A1, n1, k1, A2, n2, k2, A3, n3, k3, A4, n4, k4, rfl, o1, o2, o3, o4, hb1⟩ := SFR.yes HS.out hk1
    clear hk1
    have hs1 := hb1.size
    simp at hs1
    have hMx : BM w1 w.heap.size R C A n cap := Ka
    have hMx2 : BM (((w1.alloc (.cells #[.int .i64 (R : Int), .int .i64 (C : Int), .slice A1 n1 k1] 26)).alloc (.cells #[.int .i64 (R : Int), .int .i64 (R : Int), .slice A2 n2 k2] 26)).alloc (.cells #[.int .i64 (C : Int), .int .i64 (C : Int), .slice A3 n3 k3] 26)) w.heap.size R C A n cap := ((hMx.alloc _).alloc _).alloc _
    have hM1 : BM (((w1.alloc (.cells #[.int .i64 (R : Int), .int .i64 (C : Int), .slice A1 n1 k1] 26)).alloc (.cells #[.int .i64 (R : Int), .int .i64 (R : Int), .slice A2 n2 k2] 26)).alloc (.cells #[.int .i64 (C : Int), .int .i64 (C : Int), .slice A3 n3 k3] 26)) w1.heap.size (R : Int) (C : Int) A1 n1 k1 := Ka
    have hM3 : BM (((w1.alloc (.cells #[.int .i64 (R : Int), .int .i64 (C : Int), .slice A1 n1 k1] 26)).alloc (.cells #[.int .i64 (R : Int), .int .i64 (R : Int), .slice A2 n2 k2] 26)).alloc (.cells #[.int .i64 (C : Int), .int .i64 (C : Int), .slice A3 n3 k3] 26)) (w1.heap.size + 1 + 1) (C : Int) (C : Int) A3 n3 k3 := Ka
    have q1 : OR (((w1.alloc (.cells #[.int .i64 (R : Int), .int .i64 (C : Int), .slice A1 n1 k1] 26)).alloc (.cells #[.int .i64 (R : Int), .int .i64 (R : Int), .slice A2 n2 k2] 26)).alloc (.cells #[.int .i64 (C : Int), .int .i64 (C : Int), .slice A3 n3 k3] 26)) (w.heap.size + 1) (.slice A1 n1 k1) (tb R C s.f) := by have q := OR.mono (xs := tb R C s.f) (B' := (w.heap.size + 1)) o1 (by simp); (with_reducible (repeat (first | exact q | refine OR.drew ?_ | refine OR.drewN ?_ _ | refine OR.alloc ?_ _ | refine OR.b_ ?_ | refine OR.l_ ?_)))
    have q3 : OR (((w1.alloc (.cells #[.int .i64 (R : Int), .int .i64 (C : Int), .slice A1 n1 k1] 26)).alloc (.cells #[.int .i64 (R : Int), .int .i64 (R : Int), .slice A2 n2 k2] 26)).alloc (.cells #[.int .i64 (C : Int), .int .i64 (C : Int), .slice A3 n3 k3] 26)) (w.heap.size + 1) (.slice A3 n3 k3) (tb C C s.h) := by have q := OR.mono (xs := tb C C s.h) (B' := (w.heap.size + 1)) o3 (by simp); (with_reducible (repeat (first | exact q | refine OR.drew ?_ | refine OR.drewN ?_ _ | refine OR.alloc ?_ _ | refine OR.b_ ?_ | refine OR.l_ ?_)))
    have q4 : OR (((w1.alloc (.cells #[.int .i64 (R : Int), .int .i64 (C : Int), .slice A1 n1 k1] 26)).alloc (.cells #[.int .i64 (R : Int), .int .i64 (R : Int), .slice A2 n2 k2] 26)).alloc (.cells #[.int .i64 (C : Int), .int .i64 (C : Int), .slice A3 n3 k3] 26)) (w.heap.size + 1) (.slice A4 n4 k4) cs := by have q := OR.mono (xs := cs) (B' := (w.heap.size + 1)) o4 (by simp); (with_reducible (repeat (first | exact q | refine OR.drew ?_ | refine OR.drewN ?_ _ | refine OR.alloc ?_ _ | refine OR.b_ ?_ | refine OR.l_ ?_)))
    have hbw : Below w.heap.size w (((w1.alloc (.cells #[.int .i64 (R : Int), .int .i64 (C : Int), .slice A1 n1 k1] 26)).alloc (.cells #[.int .i64 (R : Int), .int .i64 (R : Int), .slice A2 n2 k2] 26)).alloc (.cells #[.int .i64 (C : Int), .int .i64 (C : Int), .slice A3 n3 k3] 26)) := Kw
    have hsz2 : w1.heap.size + 1 + 1 + 1 ≤ ((((w1.alloc (.cells #[.int .i64 (R : Int), .int .i64 (C : Int), .slice A1 n1 k1] 26)).alloc (.cells #[.int .i64 (R : Int), .int .i64 (R : Int), .slice A2 n2 k2] 26)).alloc (.cells #[.int .i64 (C : Int), .int .i64 (C : Int), .slice A3 n3 k3] 26))).heap.size := by simp
    clear o1 o2 o3 o4 hb1
    go_wp2_with fail
    generalize (((w1.alloc (.cells #[.int .i64 (R : Int), .int .i64 (C : Int), .slice A1 n1 k1] 26)).alloc (.cells #[.int .i64 (R : Int), .int .i64 (R : Int), .slice A2 n2 k2] 26)).alloc (.cells #[.int .i64 (C : Int), .int .i64 (C : Int), .slice A3 n3 k3] 26)) = w2 at *
    generalize w1.heap.size = bH at *
    rcases hF : fwF (dgF R C s.f) 0 cs with _ | k
    · have HF := Lib.hid hF
      clear hF
      refine (spec_l14Blocked R C A1 A4 n1 k1 n4 k4 s.f cs _ (B := (w.heap.size + 1)) (B' := w2.heap.size) q1 q4.reads (Nat.le_refl _) HCL.out HOK.out hR hC).mono ?_
      rw [HF.out, show fwV none = (-1 : Int) from rfl]
      rintro e w3 ⟨rfl, hb3⟩
      have hs3 := hb3.size
      have nMx : BM w3 w.heap.size R C A n cap := hMx2.below hb3 (by have := hMx2.lt; omega)
      have nM1 : BM w3 bH (R : Int) (C : Int) A1 n1 k1 := hM1.below hb3 hM1.lt
      have nM3 : BM w3 (bH + 1 + 1) (C : Int) (C : Int) A3 n3 k3 := hM3.below hb3 hM3.lt
      have p1 : OR w3 (w.heap.size + 1) (.slice A1 n1 k1) (tb R C s.f) := Ko q1
      have p3 : OR w3 (w.heap.size + 1) (.slice A3 n3 k3) (tb C C s.h) := Ko q3
      have p4 : OR w3 (w.heap.size + 1) (.slice A4 n4 k4) cs := Ko q4
      have HO4 := Lib.hid p4.own
      have HO1 := Lib.hid p1.own
      have HO3 := Lib.hid p3.own
      have hbw3 : Below w.heap.size w w3 := Kw
      clear hMx2 hM1 hM3 q1 q3 q4 hbw hb3
      obtain ⟨ma, mb, mc, mf, ml⟩ := nMx.mx
      obtain ⟨i0, hi, hz0, hz1, hz2⟩ := info_parts int_info
      go_wp2_with (at_make; refine wpList_make_full _ rfl _ _ 24 rfl w3.heap.size 3 i0 (.int .i64 0) 1 Try.underlying24 hi hz0 hz1 _ _ _ _ C rfl rfl rfl rfl ?b2 ?b3 (Nat.le_refl _) ?_)
      case b2 => rw [hz2]; omega
      case b3 => unfold maxLen; omega
      intro w4 hown0 hgrow0
      have hy : OR w4 w3.heap.size (.slice (some ⟨w3.heap.size, 0, none⟩) C C) (siK R C s cs 0) := by rw [siK_zero]; exact OR.of_made hown0
      have hb4 : Below w3.heap.size w3 w4 := (Below.refl _ _).grown hgrow0 (Nat.le_refl _) (by simp)
      have nMx : BM w4 w.heap.size R C A n cap := nMx.below hb4 (by omega)
      have nM1 : BM w4 bH (R : Int) (C : Int) A1 n1 k1 := nM1.below hb4 nM1.lt
      have nM3 : BM w4 (bH + 1 + 1) (C : Int) (C : Int) A3 n3 k3 := nM3.below hb4 nM3.lt
      have p1 : OR w4 (w.heap.size + 1) (.slice A1 n1 k1) (tb R C s.f) := Ko p1
      have p3 : OR w4 (w.heap.size + 1) (.slice A3 n3 k3) (tb C C s.h) := Ko p3
      have p4 : OR w4 (w.heap.size + 1) (.slice A4 n4 k4) cs := Ko p4
      have hbw4 : Below w.heap.size w w4 := Kw
      clear hown0 hgrow0 ma mb mc mf ml hi hz0 hz1 hz2
      go_wp2_with fail
      go_loopg [12] (min R C + 1) (fun k v wr => ∃ i : Nat, v = .int .i64 i ∧ i ≤ min R C ∧ min R C - i < k ∧ OR wr w3.heap.size (.slice (some ⟨w3.heap.size, 0, none⟩) C C) (siK R C s cs i) ∧ BM wr w.heap.size R C A n cap ∧ BM wr bH (R : Int) (C : Int) A1 n1 k1 ∧ BM wr (bH + 1 + 1) (C : Int) (C : Int) A3 n3 k3 ∧ OR wr (w.heap.size + 1) (.slice A1 n1 k1) (tb R C s.f) ∧ OR wr (w.heap.size + 1) (.slice A3 n3 k3) (tb C C s.h) ∧ OR wr (w.heap.size + 1) (.slice A4 n4 k4) cs ∧ Below w.heap.size w wr ∧ w3.heap.size < wr.heap.size)
      case atStart => exact ⟨0, rfl, Nat.zero_le _, by omega, hy, nMx, nM1, nM3, p1, p3, p4, hbw4, by have := hy.own _ rfl; omega⟩
      case round =>
        clear hy hb4 nMx nM1 nM3 p1 p3 p4 hbw4 hbw3
        obtain ⟨i, rfl, hi, hk, hy, nMx, nM1, nM3, p1, p3, p4, hbw, hs4⟩ := hrel
        obtain ⟨ma, mb, mc, mf, ml⟩ := nMx.mx
        obtain ⟨ua, ub, uc, uf, ul⟩ := nM1.mx
        go_upto_region 8 with fail
        go_cut [41] from 35 to 60 (fun v wc => ∃ tb : Bool, v = .bool tb ∧ (tb = decide (i < min R C)) ∧ wc = wr)
        case first =>
          rcases Nat.lt_or_ge C R with hRC | hRC
          · go_wp2_with fail
            go_meet
            case rel => exact ⟨_, rfl, (by rw [Bool.eq_iff_iff]; (try simp only [decide_eq_true_eq]); omega), rfl⟩
          · go_wp2_with fail
            go_meet
            case rel => exact ⟨_, rfl, (by rw [Bool.eq_iff_iff]; (try simp only [decide_eq_true_eq]); omega), rfl⟩
        obtain ⟨tst, rfl, htst, rfl⟩ := hcut
        by_cases hiR : i < min R C
        · rw [decide_eq_true hiR] at htst
          subst htst
          have hd : dgF R C s.f i = s.f i i := dgF_in (by omega) (by omega)
          have HDE := Lib.hid hd
          clear hd
          by_cases hz : s.f i i = 0
          · have HE := Lib.hid (siK_skip (cs := cs) (HDE.out.trans hz))
            have HD := Lib.hid hz
            clear hz
            go_wp2_with fail
            refine (spec_l12Cell_tb R C i i A1 n1 k1 s.f 0 HD.out _ (B := (w.heap.size + 1)) (Ko p1) (by omega) (by omega) (by omega) (by omega)).mono ?_
            rintro e w5 ⟨rfl, hb5⟩
            have hs5 := hb5.size
            (try simp at hs5)
            go_wp2_with fail
            go_roundg (gk - 1)
            case measure => omega
            case rel => exact ⟨i + 1, by go_num, by omega, by omega, by rw [HE.out]; (with_reducible (repeat (first | exact hy | refine OR.drew ?_ | refine OR.drewN ?_ _ | refine OR.alloc ?_ _ | refine OR.b_ ?_ | refine OR.l_ ?_))), Kb nMx, Kb nM1, Kb nM3, Ko p1, Ko p3, Ko p4, Kw, Ks⟩
          · have hz0 : ¬ s.f i i = 0 := hz
            have hznb : (s.f i i != 0) = true := by simpa using hz
            have HE : Hid ((siK R C s cs i).set i ((cs.getD i 0).tdiv (s.f i i)) = siK R C s cs (i + 1)) := Lib.hid (by rw [← HDE.out]; exact siK_set (by omega))
            obtain ⟨x1, x2⟩ := HCN.out i
            have hqb : ((cs.getD i 0).tdiv (s.f i i)).natAbs ≤ (cs.getD i 0).natAbs := by rw [Int.natAbs_tdiv]; exact Nat.div_le_self _ _
            have hw1 : IntKind.i64.wrap ((cs.getD i 0).tdiv (s.f i i)) = (cs.getD i 0).tdiv (s.f i i) := IntWalk.i64_in _ (by omega)
            obtain ⟨g4, rfl, hg1, hg2⟩ := p4.begins (by omega)
            have hg3 := (HO4.out g4 rfl).2
            have c1 := p4.cell i (by omega)
            have hln4 := p4.lenEq
            have hi4 : i < n4 := by omega
            have hiC : i < C := by omega
            have c2 := hy.cell i (by rw [siK_len]; omega)
            have f2 := hy.frozen i
            have ne1 : ¬ g4 = w3.heap.size := by omega
            have ne2 : ¬ w3.heap.size = g4 := by omega
            have hbH : bH < w3.heap.size := by have := nM1; omega
            have ne3 : ¬ bH = w3.heap.size := by omega
            have ne4 : ¬ w3.heap.size = bH := by omega
            have HI4 : Hid (i < cs.length) := Lib.hid (by omega)
            have HI5 : Hid (i < (siK R C s cs i).length) := Lib.hid (by rw [siK_len]; omega)
            have HI6 : Hid (i < R ∧ i < C) := Lib.hid (by omega)
            generalize hxv : cs.getD i 0 = x at *
            generalize hzv : s.f i i = z at *
            have HXV := Lib.hid hxv
            have HZV := Lib.hid hzv
            clear hxv hzv hz hqb hln4
            go_wp2_with fail
            refine (spec_l12Cell_tb R C i i A1 n1 k1 s.f z HZV.out _ (B := (w.heap.size + 1)) (Ko p1) (by omega) (by omega) HI6.out.1 HI6.out.2).mono ?_
            rintro e w5 ⟨rfl, hb5⟩
            (have hs5 := hb5.size); (try simp at hs5); (have hy_1 : OR w5 w3.heap.size (.slice (some ⟨w3.heap.size, 0, none⟩) C C) (siK R C s cs i) := (Ko hy)); (have nMx_1 : BM w5 w.heap.size R C A n cap := (Kb nMx)); (have nM1_1 : BM w5 bH (R : Int) (C : Int) A1 n1 k1 := (Kb nM1)); (have nM3_1 : BM w5 (bH + 1 + 1) (C : Int) (C : Int) A3 n3 k3 := (Kb nM3)); (have p1_1 : OR w5 (w.heap.size + 1) (.slice A1 n1 k1) (tb R C s.f) := (Ko p1)); (have p3_1 : OR w5 (w.heap.size + 1) (.slice A3 n3 k3) (tb C C s.h) := (Ko p3)); (have p4_1 : OR w5 (w.heap.size + 1) (.slice (some ⟨g4, 0, none⟩) n4 k4) cs := (Ko p4)); (have hbw_1 : Below w.heap.size w w5 := Kw); clear hy nMx nM1 nM3 p1 p3 p4 hbw hb5 ua ub uc uf ul ma mb mc mf ml c1 c2 f2; (have hy := hy_1); (have nMx := nMx_1); (have nM1 := nM1_1); (have nM3 := nM3_1); (have p1 := p1_1); (have p3 := p3_1); (have p4 := p4_1); (have hbw := hbw_1); clear hy_1 nMx_1 nM1_1 nM3_1 p1_1 p3_1 p4_1 hbw_1; obtain ⟨ua, ub, uc, uf, ul⟩ := nM1.mx; obtain ⟨ma, mb, mc, mf, ml⟩ := nMx.mx; (have c1 := p4.cell i HI4.out); (have c2 := hy.cell i HI5.out); (have f2 := hy.frozen i); rw [HXV.out] at c1
            go_wp2_with fail
            ((refine wp_region_held_drew (S := (fun w' => w'.cell? ⟨g4, i, none⟩ = some (.int .i64 x) ∧ w'.cell? ⟨bH, 0, none⟩ = some (.int .i64 R) ∧ w'.cell? ⟨bH, 1, none⟩ = some (.int .i64 C) ∧ w'.cell? ⟨bH, 2, none⟩ = some (.slice A1 n1 k1))) (by kernel_rfl) ?_ (fun hHeld => ?_)); ((focus ((try dsimp only); (go_keep)))); ((refine tk_ (i := 0) (v := ?_) (y := Or.inl ⟨by rfl, ?_⟩) (h := ?_); rotate_left; (focus (((intro w hSw; (try dsimp only at hSw); go_simp) <;> (try with_reducible rfl)); done)); (try simp only [Act.put, p1_, p2_, p3_]))); ((refine tk_ (i := 1) (v := ?_) (y := Or.inl ⟨by rfl, ?_⟩) (h := ?_); rotate_left; (focus (((intro w hSw; (try dsimp only at hSw); go_simp) <;> (try with_reducible rfl)); done)); (try simp only [Act.put, p1_, p2_, p3_]))); ((refine tk_ (i := 2) (v := ?_) (y := Or.inl ⟨by rfl, ?_⟩) (h := ?_); rotate_left; (focus (((intro w hSw; (try dsimp only at hSw); go_simp) <;> (try with_reducible rfl)); done)); (try simp only [Act.put, p1_, p2_, p3_]))); ((refine tk_ (i := 3) (v := ?_) (y := Or.inl ⟨by rfl, ?_⟩) (h := ?_); rotate_left; (focus (((intro w hSw; (try dsimp only at hSw); go_simp) <;> (try with_reducible rfl)); done)); (try simp only [Act.put, p1_, p2_, p3_]))); ((refine tk_ (i := 4) (v := ?_) (y := Or.inl ⟨by rfl, ?_⟩) (h := ?_); rotate_left; (focus (((intro w hSw; (try dsimp only at hSw); go_simp) <;> (try with_reducible rfl)); done)); (try simp only [Act.put, p1_, p2_, p3_]))); ((refine tk_ (i := 5) (v := ?_) (y := Or.inl ⟨by rfl, ?_⟩) (h := ?_); rotate_left; (focus (((intro w hSw; (try dsimp only at hSw); go_simp) <;> (try with_reducible rfl)); done)); (try simp only [Act.put, p1_, p2_, p3_]))); ((refine tk_ (i := 6) (v := ?_) (y := Or.inl ⟨by rfl, ?_⟩) (h := ?_); rotate_left; (focus (((intro w hSw; (try dsimp only at hSw); go_simp) <;> (try with_reducible rfl)); done)); (try simp only [Act.put, p1_, p2_, p3_]))); ((refine tk_ (i := 7) (v := ?_) (y := Or.inl ⟨by rfl, ?_⟩) (h := ?_); rotate_left; (focus (((intro w hSw; (try dsimp only at hSw); go_simp) <;> (try with_reducible rfl)); done)); (try simp only [Act.put, p1_, p2_, p3_]))); ((refine tk_ (i := 8) (v := ?_) (y := Or.inl ⟨by rfl, ?_⟩) (h := ?_); rotate_left; (focus (((intro w hSw; (try dsimp only at hSw); go_simp) <;> (try with_reducible rfl)); done)); (try simp only [Act.put, p1_, p2_, p3_]))); ((refine wpAnyH_ready (rs := [9]) (by kernel_rfl) (by simp) ?_; refine AllReadyH.cons (by simp only [e1_, e2_, e3_]; try rfl) (fun K hK => ?_) AllReadyH.nil; go_simp; (refine (spec_l12Cell_tb R C i i A1 n1 k1 s.f z HZV.out _ (B := (w.heap.size + 1)) (Ko p1) (by omega) (by omega) HI6.out.1 HI6.out.2).mono ?_; rintro e w5 ⟨rfl, hb5⟩; (have hs5 := hb5.size); (try simp at hs5); (have hy_1 : OR w5 w3.heap.size (.slice (some ⟨w3.heap.size, 0, none⟩) C C) (siK R C s cs i) := (Ko hy)); (have nMx_1 : BM w5 w.heap.size R C A n cap := (Kb nMx)); (have nM1_1 : BM w5 bH (R : Int) (C : Int) A1 n1 k1 := (Kb nM1)); (have nM3_1 : BM w5 (bH + 1 + 1) (C : Int) (C : Int) A3 n3 k3 := (Kb nM3)); (have p1_1 : OR w5 (w.heap.size + 1) (.slice A1 n1 k1) (tb R C s.f) := (Ko p1)); (have p3_1 : OR w5 (w.heap.size + 1) (.slice A3 n3 k3) (tb C C s.h) := (Ko p3)); (have p4_1 : OR w5 (w.heap.size + 1) (.slice (some ⟨g4, 0, none⟩) n4 k4) cs := (Ko p4)); (have hbw_1 : Below w.heap.size w w5 := Kw); clear hy nMx nM1 nM3 p1 p3 p4 hbw hb5 ua ub uc uf ul ma mb mc mf ml c1 c2 f2; (have hy := hy_1); (have nMx := nMx_1); (have nM1 := nM1_1); (have nM3 := nM3_1); (have p1 := p1_1); (have p3 := p3_1); (have p4 := p4_1); (have hbw := hbw_1); clear hy_1 nMx_1 nM1_1 nM3_1 p1_1 p3_1 p4_1 hbw_1; obtain ⟨ua, ub, uc, uf, ul⟩ := nM1.mx; obtain ⟨ma, mb, mc, mf, ml⟩ := nMx.mx; (have c1 := p4.cell i HI4.out); (have c2 := hy.cell i HI5.out); (have f2 := hy.frozen i); rw [HXV.out] at c1); (try go_wp2_with fail); refine hK.out _ _ ?_ (fun hHeld => ?_); (focus ((try dsimp only); (go_keep))); clear hK K; (try simp only [Act.put, p1_, p2_, p3_]))); ((refine tk_ (i := 10) (v := ?_) (y := Or.inl ⟨by rfl, ?_⟩) (h := ?_); rotate_left; (focus (((intro w hSw; (try dsimp only at hSw); go_simp) <;> (try with_reducible rfl)); done)); (try simp only [Act.put, p1_, p2_, p3_]))); ((refine tk_ (i := 11) (v := ?_) (y := Or.inl ⟨by rfl, ?_⟩) (h := ?_); rotate_left; (focus (((intro w hSw; (try dsimp only at hSw); go_simp) <;> (try with_reducible rfl)); done)); (try simp only [Act.put, p1_, p2_, p3_]))); ((refine wpAnyH_ready (rs := [12]) (by kernel_rfl) (by simp) ?_; refine AllReadyH.cons (by simp only [e1_, e2_, e3_]; try rfl) (fun K hK => ?_) AllReadyH.nil; go_simp; (try go_wp2_with fail); refine hK.out _ _ ?_ (fun hHeld => ?_); (focus ((try dsimp only); (go_keep))); clear hK K; (try simp only [Act.put, p1_, p2_, p3_]))); (refine wpAnyH_done (by kernel_rfl) ?_ _))
            have hst := hy.set_ i (x.tdiv z)
            rw [HE.out] at hst
            go_wp2_with fail
            go_roundg (gk - 1)
            case measure => omega
            case rel => exact ⟨i + 1, by go_num, by omega, by omega, by first | exact hst | exact OR.drew hst, Kb nMx, Kb nM1, Kb nM3, OR.far (Ko p1) (fun e => Nat.lt_irrefl _ (HO1.out w3.heap.size e).2) _, OR.far (Ko p3) (fun e => Nat.lt_irrefl _ (HO3.out w3.heap.size e).2) _, OR.far (Ko p4) (fun e => Nat.lt_irrefl _ (HO4.out w3.heap.size e).2) _, Kw, Ks⟩
        · have hiE : i = min R C := by omega
          rw [hiE, siK_end HCL.out] at hy
          rw [decide_eq_false hiR] at htst
          subst htst
          clear hiE hiR
          have hn3 : n3 ≤ 1048576 := by have h8 := p3.lenEq; rw [tb_len] at h8; have := Nat.mul_le_mul hC hC; omega
          obtain ⟨za, zb, zc, zf, zl⟩ := nM3.mx
          go_wp2_with fail
          refine (spec_l14Times C C A3 (some ⟨w3.heap.size, 0, none⟩) n3 k3 C C (tb C C s.h) (siY R C s cs) _ p3.reads hy.reads (Nat.le_refl _) (Nat.le_refl _) hn3 (by omega)).mono ?_
          rcases hmb : mulB C C (tb C C s.h) C 1 (siY R C s cs) with _ | _
          · have HR := Lib.hid (siR_big HS.out HF.out hmb)
            clear hmb
            rintro e w5 ⟨A5, n5, k5, rfl, -, hb5⟩
            have hs5 := hb5.size
            have hs6 := hbw.size
            go_wp2_with fail
            go_ret2
            exact IIR.mk (by rw [HR.out]) (OR.empty' _ _ (by simp) Ks) Kw
          · have HR := Lib.hid (siR_yes HS.out HF.out hmb)
            rw [mulM_yes hmb]
            clear hmb
            rintro e w5 ⟨A5, n5, k5, rfl, o5_, hb5⟩
            have o5 : OR w5 w.heap.size (.slice A5 n5 k5) (mulL (tb C C s.h) C C (siY R C s cs) 1) := OR.mono (xs := mulL (tb C C s.h) C C (siY R C s cs) 1) o5_ hbw.size
            clear o5_
            have hs5 := hb5.size
            have hs6 := hbw.size
            go_wp2_with fail
            go_ret2
            exact IIR.mk (by rw [HR.out]) (Ko o5) Kw
    · have HF := Lib.hid hF
      have HR := Lib.hid (siR_none HS.out hF)
      clear hF
      refine (spec_l14Blocked R C A1 A4 n1 k1 n4 k4 s.f cs _ (B := (w.heap.size + 1)) (B' := w2.heap.size) q1 q4.reads (Nat.le_refl _) HCL.out HOK.out hR hC).mono ?_
      rw [HF.out]
      rintro e w3 ⟨rfl, hb3⟩
      have hk0 : (0 : Int) ≤ fwV (some k) := by show (0 : Int) ≤ (k : Int); omega
      have hbw3 : Below w.heap.size w w3 := Kw
      have hs3 := hb3.size
      have hs2 := hbw.size
      clear hb3 hbw
      go_wp2_with fail
      go_ret2
      exact IIR.mk (by rw [HR.out]) (OR.empty' _ _ (by simp) Ks) Kw
end Go.Proofs.Ytacjonkehcamgaa

/-
  DERIVED. SolveInteger of the program.
-/
namespace Go.Proofs.Ytacjonkehcamgaa
open Go.RowKit
set_option linter.unusedVariables false
set_option linter.unusedSimpArgs false
theorem siK_endC (R C : Nat) (s : SS) (cs : List Int) : siK R C s cs C = siY R C s cs := tab_cg fun j hj => if_pos hj
set_option maxRecDepth 100000 in
set_option maxHeartbeats 8000000 in
theorem impl_SolveInteger (r c : Int) (A Ab : Option Addr) (n cap nb capb : Nat) (xs bs : List Int) (w : World) {B B' : Nat} (h : RI w B A n xs) (hb : RI w B' Ab nb bs) (hB : B ≤ w.heap.size) (hB' : B' ≤ w.heap.size) (hn : n ≤ 1048576) (hnb : nb ≤ 1048576) :
    Calls Try.prog 18 #[.agg #[.int .i64 r, .int .i64 c, .slice A n cap], .slice Ab nb capb] w (IIR (siR r c xs bs).1 (siR r c xs bs).2 w) := by
  have hlb := hb.len
  have hlb2 : bs.length ≤ nb ∧ nb ≤ bs.length := by omega
  have HLB := Lib.hid hlb
  have H2 := Lib.hid (h.more hB)
  have H3 := Lib.hid (hb.more hB')
  clear h hb hlb
  rcases hS : siS r c xs bs with _ | ⟨s, cs⟩
  · have HR := Lib.hid (siR_fail hS)
    have HS := Lib.hid hS
    clear hS
    go_enter Try.func18, Try.ntmps18
    go_wp2_with fail
    refine (impl_smithFor r c A Ab n cap nb capb xs bs _ (B := w.heap.size) (B' := w.heap.size) (Kr H2.out) (Kr H3.out) Ks Ks hn hnb).mono ?_
    intro e w1 hk1
    obtain ⟨r1, c1, r2, c2, r3, c3, A1, A2, A3, A4, n1, k1, n2, k2, n3, k3, n4, k4, rfl, hb1⟩ := SFR.no HS.out hk1
    clear hk1
    have hs1 := hb1.size
    simp at hs1
    go_wp2_with fail
    go_ret2
    exact IIR.mk (by rw [HR.out]) (OR.empty' _ _ (by simp) Ks) Kw
  · have hm : isMat r c xs = true := by
      rcases hm : isMat r c xs with _ | _
      · rw [siS_none (sfX_no hm)] at hS; cases hS
      · rfl
    have M := isMat_iff.1 hm
    obtain ⟨R, rfl⟩ := nat_of M.r0
    obtain ⟨C, rfl⟩ := nat_of M.c0
    have hR : R ≤ 24 := by have := M.r1; omega
    have hC : C ≤ 24 := by have := M.c1; omega
    obtain ⟨hX, hlen, hmul, hcs⟩ := siS_some hS
    have HOK : Hid (OKF R C s.f) := Lib.hid (sfX_gd hX).2.2.2.ok.f
    have hcl : cs.length = R := by rw [hcs, mulL_len]; omega
    have HCN : Hid (∀ k, Num (cs.getD k 0)) := Lib.hid (by
      unfold mulB at hmul
      rw [Bool.and_eq_true] at hmul
      have h2 := (isMat_iff.1 hmul.2).num
      simp only [Int.toNat_natCast] at h2
      rw [hcs]
      exact getD_num h2)
    have HS := Lib.hid hS
    have HCL := Lib.hid hcl
    have hcl2 : cs.length ≤ R ∧ R ≤ cs.length := by omega
    clear M hm hX hlen hmul hcs hcl hS
    go_enter Try.func18, Try.ntmps18
    go_wp2_with fail
    refine (impl_smithFor R C A Ab n cap nb capb xs bs _ (B := w.heap.size) (B' := w.heap.size) (Kr H2.out) (Kr H3.out) Ks Ks hn hnb).mono ?_
    intro e w1 hk1
    obtain ⟨A1, n1, k1, A2, n2, k2, A3, n3, k3, A4, n4, k4, rfl, o1, o2, o3, o4, hb1⟩ := SFR.yes HS.out hk1
    clear hk1
    have hs1 := hb1.size
    simp at hs1
    have hMx : BM w1 w.heap.size R C A n cap := Ka
    have hMx2 : BM (((w1.alloc (.cells #[.int .i64 (R : Int), .int .i64 (C : Int), .slice A1 n1 k1] 26)).alloc (.cells #[.int .i64 (R : Int), .int .i64 (R : Int), .slice A2 n2 k2] 26)).alloc (.cells #[.int .i64 (C : Int), .int .i64 (C : Int), .slice A3 n3 k3] 26)) w.heap.size R C A n cap := ((hMx.alloc _).alloc _).alloc _
    have hM1 : BM (((w1.alloc (.cells #[.int .i64 (R : Int), .int .i64 (C : Int), .slice A1 n1 k1] 26)).alloc (.cells #[.int .i64 (R : Int), .int .i64 (R : Int), .slice A2 n2 k2] 26)).alloc (.cells #[.int .i64 (C : Int), .int .i64 (C : Int), .slice A3 n3 k3] 26)) w1.heap.size (R : Int) (C : Int) A1 n1 k1 := Ka
    have hM3 : BM (((w1.alloc (.cells #[.int .i64 (R : Int), .int .i64 (C : Int), .slice A1 n1 k1] 26)).alloc (.cells #[.int .i64 (R : Int), .int .i64 (R : Int), .slice A2 n2 k2] 26)).alloc (.cells #[.int .i64 (C : Int), .int .i64 (C : Int), .slice A3 n3 k3] 26)) (w1.heap.size + 1 + 1) (C : Int) (C : Int) A3 n3 k3 := Ka
    have q1 : OR (((w1.alloc (.cells #[.int .i64 (R : Int), .int .i64 (C : Int), .slice A1 n1 k1] 26)).alloc (.cells #[.int .i64 (R : Int), .int .i64 (R : Int), .slice A2 n2 k2] 26)).alloc (.cells #[.int .i64 (C : Int), .int .i64 (C : Int), .slice A3 n3 k3] 26)) (w.heap.size + 1) (.slice A1 n1 k1) (tb R C s.f) := by have q := OR.mono (xs := tb R C s.f) (B' := (w.heap.size + 1)) o1 (by simp); (with_reducible (repeat (first | exact q | refine OR.drew ?_ | refine OR.drewN ?_ _ | refine OR.alloc ?_ _ | refine OR.b_ ?_ | refine OR.l_ ?_)))
    have q3 : OR (((w1.alloc (.cells #[.int .i64 (R : Int), .int .i64 (C : Int), .slice A1 n1 k1] 26)).alloc (.cells #[.int .i64 (R : Int), .int .i64 (R : Int), .slice A2 n2 k2] 26)).alloc (.cells #[.int .i64 (C : Int), .int .i64 (C : Int), .slice A3 n3 k3] 26)) (w.heap.size + 1) (.slice A3 n3 k3) (tb C C s.h) := by have q := OR.mono (xs := tb C C s.h) (B' := (w.heap.size + 1)) o3 (by simp); (with_reducible (repeat (first | exact q | refine OR.drew ?_ | refine OR.drewN ?_ _ | refine OR.alloc ?_ _ | refine OR.b_ ?_ | refine OR.l_ ?_)))
    have q4 : OR (((w1.alloc (.cells #[.int .i64 (R : Int), .int .i64 (C : Int), .slice A1 n1 k1] 26)).alloc (.cells #[.int .i64 (R : Int), .int .i64 (R : Int), .slice A2 n2 k2] 26)).alloc (.cells #[.int .i64 (C : Int), .int .i64 (C : Int), .slice A3 n3 k3] 26)) (w.heap.size + 1) (.slice A4 n4 k4) cs := by have q := OR.mono (xs := cs) (B' := (w.heap.size + 1)) o4 (by simp); (with_reducible (repeat (first | exact q | refine OR.drew ?_ | refine OR.drewN ?_ _ | refine OR.alloc ?_ _ | refine OR.b_ ?_ | refine OR.l_ ?_)))
    have hbw : Below w.heap.size w (((w1.alloc (.cells #[.int .i64 (R : Int), .int .i64 (C : Int), .slice A1 n1 k1] 26)).alloc (.cells #[.int .i64 (R : Int), .int .i64 (R : Int), .slice A2 n2 k2] 26)).alloc (.cells #[.int .i64 (C : Int), .int .i64 (C : Int), .slice A3 n3 k3] 26)) := Kw
    have hsz2 : w1.heap.size + 1 + 1 + 1 ≤ ((((w1.alloc (.cells #[.int .i64 (R : Int), .int .i64 (C : Int), .slice A1 n1 k1] 26)).alloc (.cells #[.int .i64 (R : Int), .int .i64 (R : Int), .slice A2 n2 k2] 26)).alloc (.cells #[.int .i64 (C : Int), .int .i64 (C : Int), .slice A3 n3 k3] 26))).heap.size := by simp
    clear o1 o2 o3 o4 hb1
    go_wp2_with fail
    generalize (((w1.alloc (.cells #[.int .i64 (R : Int), .int .i64 (C : Int), .slice A1 n1 k1] 26)).alloc (.cells #[.int .i64 (R : Int), .int .i64 (R : Int), .slice A2 n2 k2] 26)).alloc (.cells #[.int .i64 (C : Int), .int .i64 (C : Int), .slice A3 n3 k3] 26)) = w2 at *
    generalize w1.heap.size = bH at *
    rcases hF : fwF (dgF R C s.f) 0 cs with _ | k
    · have HF := Lib.hid hF
      clear hF
      refine (impl_firstWrong R C A1 A4 n1 k1 n4 k4 s.f cs _ (B := (w.heap.size + 1)) (B' := w2.heap.size) q1 q4.reads (Nat.le_refl _) HCL.out HOK.out HCN.out hR hC).mono ?_
      rw [HF.out, show fwV none = (-1 : Int) from rfl]
      rintro e w3 ⟨rfl, hb3⟩
      have hs3 := hb3.size
      have nMx : BM w3 w.heap.size R C A n cap := hMx2.below hb3 (by have := hMx2.lt; omega)
      have nM1 : BM w3 bH (R : Int) (C : Int) A1 n1 k1 := hM1.below hb3 hM1.lt
      have nM3 : BM w3 (bH + 1 + 1) (C : Int) (C : Int) A3 n3 k3 := hM3.below hb3 hM3.lt
      have p1 : OR w3 (w.heap.size + 1) (.slice A1 n1 k1) (tb R C s.f) := Ko q1
      have p3 : OR w3 (w.heap.size + 1) (.slice A3 n3 k3) (tb C C s.h) := Ko q3
      have p4 : OR w3 (w.heap.size + 1) (.slice A4 n4 k4) cs := Ko q4
      have HO4 := Lib.hid p4.own
      have HO1 := Lib.hid p1.own
      have HO3 := Lib.hid p3.own
      have hbw3 : Below w.heap.size w w3 := Kw
      clear hMx2 hM1 hM3 q1 q3 q4 hbw hb3
      obtain ⟨ma, mb, mc, mf, ml⟩ := nMx.mx
      obtain ⟨i0, hi, hz0, hz1, hz2⟩ := info_parts int_info
      go_wp2_with (at_make; refine wpList_make_full _ rfl _ _ 24 rfl w3.heap.size 3 i0 (.int .i64 0) 1 Try.underlying24 hi hz0 hz1 _ _ _ _ C rfl rfl rfl rfl ?b2 ?b3 (Nat.le_refl _) ?_)
      case b2 => rw [hz2]; omega
      case b3 => unfold maxLen; omega
      intro w4 hown0 hgrow0
      have hy : OR w4 w3.heap.size (.slice (some ⟨w3.heap.size, 0, none⟩) C C) (siK R C s cs 0) := by rw [siK_zero]; exact OR.of_made hown0
      have hb4 : Below w3.heap.size w3 w4 := (Below.refl _ _).grown hgrow0 (Nat.le_refl _) (by simp)
      have nMx : BM w4 w.heap.size R C A n cap := nMx.below hb4 (by omega)
      have nM1 : BM w4 bH (R : Int) (C : Int) A1 n1 k1 := nM1.below hb4 nM1.lt
      have nM3 : BM w4 (bH + 1 + 1) (C : Int) (C : Int) A3 n3 k3 := nM3.below hb4 nM3.lt
      have p1 : OR w4 (w.heap.size + 1) (.slice A1 n1 k1) (tb R C s.f) := Ko p1
      have p3 : OR w4 (w.heap.size + 1) (.slice A3 n3 k3) (tb C C s.h) := Ko p3
      have p4 : OR w4 (w.heap.size + 1) (.slice A4 n4 k4) cs := Ko p4
      have hbw4 : Below w.heap.size w w4 := Kw
      clear hown0 hgrow0 ma mb mc mf ml hi hz0 hz1 hz2
      go_wp2_with fail
      go_loopw [38] (fun v wr => ∃ i : Nat, v = .int .i64 i ∧ i ≤ C ∧ OR wr w3.heap.size (.slice (some ⟨w3.heap.size, 0, none⟩) C C) (siK R C s cs i) ∧ BM wr w.heap.size R C A n cap ∧ BM wr bH (R : Int) (C : Int) A1 n1 k1 ∧ BM wr (bH + 1 + 1) (C : Int) (C : Int) A3 n3 k3 ∧ OR wr (w.heap.size + 1) (.slice A1 n1 k1) (tb R C s.f) ∧ OR wr (w.heap.size + 1) (.slice A3 n3 k3) (tb C C s.h) ∧ OR wr (w.heap.size + 1) (.slice A4 n4 k4) cs ∧ Below w.heap.size w wr ∧ w3.heap.size < wr.heap.size) (fun v _ => C - (intOf v).toNat)
      case atStart => exact ⟨0, rfl, Nat.zero_le _, hy, nMx, nM1, nM3, p1, p3, p4, hbw4, by have := hy.own _ rfl; omega⟩
      case round =>
        clear hy hb4 nMx nM1 nM3 p1 p3 p4 hbw4 hbw3
        obtain ⟨i, rfl, hi, hy, nMx, nM1, nM3, p1, p3, p4, hbw, hs4⟩ := hrel
        obtain ⟨ma, mb, mc, mf, ml⟩ := nMx.mx
        obtain ⟨ua, ub, uc, uf, ul⟩ := nM1.mx
        by_cases hiC : i < C
        · obtain ⟨z, hz⟩ : ∃ z, dgF R C s.f i = z := ⟨_, rfl⟩
          by_cases hz0 : z = 0
          · have HE := Lib.hid (siK_skip (cs := cs) (hz.trans hz0))
            have HZ := Lib.hid (hz.trans hz0)
            have hznb : (z != 0) = false := by simp [hz0]
            clear hz hz0
            go_wp2_with fail
            refine (impl_diagonal R C i A1 n1 k1 s.f _ (B := (w.heap.size + 1)) (Ko p1) (by omega) hR hC).mono ?_
            rw [HZ.out]
            rintro e w5 ⟨rfl, hb5⟩
            have hs5 := hb5.size
            (try simp at hs5)
            go_wp2_with fail
            go_roundw
            case measure => simp only [intOf]; omega
            case rel => exact ⟨i + 1, by go_num, by omega, by rw [HE.out]; (with_reducible (repeat (first | exact hy | refine OR.drew ?_ | refine OR.drewN ?_ _ | refine OR.alloc ?_ _ | refine OR.b_ ?_ | refine OR.l_ ?_))), Kb nMx, Kb nM1, Kb nM3, Ko p1, Ko p3, Ko p4, Kw, Ks⟩
          · have hznb : (z != 0) = true := by simpa using hz0
            have HE : Hid ((siK R C s cs i).set i ((cs.getD i 0).tdiv z) = siK R C s cs (i + 1)) := Lib.hid (by rw [← hz]; exact siK_set hiC)
            have hiR : i < R := Nat.lt_of_not_le fun h => hz0 (by rw [← hz, dgF_out (by omega)])
            have HZV := Lib.hid hz
            obtain ⟨z1, z2⟩ := dgF_num (i := i) HOK.out
            rw [hz] at z1 z2
            obtain ⟨x1, x2⟩ := HCN.out i
            have hqb : ((cs.getD i 0).tdiv z).natAbs ≤ (cs.getD i 0).natAbs := by rw [Int.natAbs_tdiv]; exact Nat.div_le_self _ _
            have hw1 : IntKind.i64.wrap ((cs.getD i 0).tdiv z) = (cs.getD i 0).tdiv z := IntWalk.i64_in _ (by omega)
            obtain ⟨g4, rfl, hg1, hg2⟩ := p4.begins (by omega)
            have hg3 := (HO4.out g4 rfl).2
            have c1 := p4.cell i (by omega)
            have hln4 := p4.lenEq
            have hi4 : i < n4 := by omega
            have c2 := hy.cell i (by rw [siK_len]; omega)
            have f2 := hy.frozen i
            have ne1 : ¬ g4 = w3.heap.size := by omega
            have ne2 : ¬ w3.heap.size = g4 := by omega
            have hbH : bH < w3.heap.size := by have := nM1; omega
            have ne3 : ¬ bH = w3.heap.size := by omega
            have ne4 : ¬ w3.heap.size = bH := by omega
            have HI4 : Hid (i < cs.length) := Lib.hid (by omega)
            have HI5 : Hid (i < (siK R C s cs i).length) := Lib.hid (by rw [siK_len]; omega)
            generalize hxv : cs.getD i 0 = x at *
            have HXV := Lib.hid hxv
            clear hxv hz hqb hln4
            go_wp2_with fail
            refine (impl_diagonal R C i A1 n1 k1 s.f _ (B := (w.heap.size + 1)) (Ko p1) (by omega) hR hC).mono ?_
            rw [HZV.out]
            rintro e w5 ⟨rfl, hb5⟩
            (have hs5 := hb5.size); (try simp at hs5); (have hy_1 : OR w5 w3.heap.size (.slice (some ⟨w3.heap.size, 0, none⟩) C C) (siK R C s cs i) := (Ko hy)); (have nMx_1 : BM w5 w.heap.size R C A n cap := (Kb nMx)); (have nM1_1 : BM w5 bH (R : Int) (C : Int) A1 n1 k1 := (Kb nM1)); (have nM3_1 : BM w5 (bH + 1 + 1) (C : Int) (C : Int) A3 n3 k3 := (Kb nM3)); (have p1_1 : OR w5 (w.heap.size + 1) (.slice A1 n1 k1) (tb R C s.f) := (Ko p1)); (have p3_1 : OR w5 (w.heap.size + 1) (.slice A3 n3 k3) (tb C C s.h) := (Ko p3)); (have p4_1 : OR w5 (w.heap.size + 1) (.slice (some ⟨g4, 0, none⟩) n4 k4) cs := (Ko p4)); (have hbw_1 : Below w.heap.size w w5 := Kw); clear hy nMx nM1 nM3 p1 p3 p4 hbw hb5 ua ub uc uf ul ma mb mc mf ml c1 c2 f2; (have hy := hy_1); (have nMx := nMx_1); (have nM1 := nM1_1); (have nM3 := nM3_1); (have p1 := p1_1); (have p3 := p3_1); (have p4 := p4_1); (have hbw := hbw_1); clear hy_1 nMx_1 nM1_1 nM3_1 p1_1 p3_1 p4_1 hbw_1; obtain ⟨ua, ub, uc, uf, ul⟩ := nM1.mx; obtain ⟨ma, mb, mc, mf, ml⟩ := nMx.mx; (have c1 := p4.cell i HI4.out); (have c2 := hy.cell i HI5.out); (have f2 := hy.frozen i); rw [HXV.out] at c1
            go_wp2_with fail
            have hst := hy.set_ i (x.tdiv z)
            rw [HE.out] at hst
            go_roundw
            case measure => simp only [intOf]; omega
            case rel => exact ⟨i + 1, by go_num, by omega, by first | exact hst | exact OR.drew hst, Kb nMx, Kb nM1, Kb nM3, OR.far (Ko p1) (fun e => Nat.lt_irrefl _ (HO1.out w3.heap.size e).2) _, OR.far (Ko p3) (fun e => Nat.lt_irrefl _ (HO3.out w3.heap.size e).2) _, OR.far (Ko p4) (fun e => Nat.lt_irrefl _ (HO4.out w3.heap.size e).2) _, Kw, Ks⟩
        · have hiE : i = C := by omega
          rw [hiE, siK_endC R C s cs] at hy
          clear hiE
          have hn3 : n3 ≤ 1048576 := by have h8 := p3.lenEq; rw [tb_len] at h8; have := Nat.mul_le_mul hC hC; omega
          obtain ⟨za, zb, zc, zf, zl⟩ := nM3.mx
          go_upto_region 14 with fail
          have hyr := Lib.hid hy.reads
          have hPr := Lib.hid p3.reads
          have hsr := hbw.size
          have l3 := nM3.lt
          have lM := nMx.lt
          have HO := Lib.hid hy.own
          clear ua ub uc uf ul p1 p4 nM1 hy
          go_cut [14, 15] from 56 to 62 (fun vp vb wc => ∃ bC A4 n4 c4, vp = .pointer (some ⟨bC, 0, none⟩) ∧ vb = .bool (mulB C C (tb C C s.h) C 1 (siY R C s cs)) ∧ BM wc w.heap.size R C A n cap ∧ BM wc bC (mulM C C (tb C C s.h) C 1 (siY R C s cs)).r (mulM C C (tb C C s.h) C 1 (siY R C s cs)).c A4 n4 c4 ∧ OR wc w.heap.size (.slice A4 n4 c4) (mulM C C (tb C C s.h) C 1 (siY R C s cs)).xs ∧ Below w.heap.size w wc)
          case first =>
            ((refine wp_region_held_drew (S := (fun w' => w'.cell? ⟨bH + 1 + 1, 0, none⟩ = some (.int .i64 (C : Int)) ∧ w'.cell? ⟨bH + 1 + 1, 1, none⟩ = some (.int .i64 (C : Int)) ∧ w'.cell? ⟨bH + 1 + 1, 2, none⟩ = some (.slice A3 n3 k3))) (by kernel_rfl) ?_ (fun hHeld => ?_)); ((focus ((try dsimp only); (go_keep)))); ((refine tk_ (i := 0) (v := ?_) (y := Or.inl ⟨by rfl, ?_⟩) (h := ?_); rotate_left; (focus (((intro w hSw; (try dsimp only at hSw); go_simp) <;> (try with_reducible rfl)); done)); (try simp only [Act.put, p1_, p2_, p3_]))); ((refine tk_ (i := 1) (v := ?_) (y := Or.inl ⟨by rfl, ?_⟩) (h := ?_); rotate_left; (focus (((intro w hSw; (try dsimp only at hSw); go_simp) <;> (try with_reducible rfl)); done)); (try simp only [Act.put, p1_, p2_, p3_]))); (refine wpAnyH_ready (rs := [2, 7]) (by kernel_rfl) (by simp) ?_); (refine AllReadyH.cons (by simp only [e1_, e2_, e3_]; try rfl) ?_ ?_); ((focus ((intro K hK); (go_simp); ((go_at_call 102; refine (impl_columnOf (some ⟨w3.heap.size, 0, none⟩) C C (siY R C s cs) _ (B := wr.heap.size) (Kr hyr.out) Ks (by omega)).mono ?_; rintro e w4 ⟨Ac, nc, cc, rfl, hc_, hb4⟩; have hc : OR w4 wr.heap.size (.slice Ac nc cc) (siY R C s cs) := OR.mono (xs := siY R C s cs) hc_ Ks; clear hc_; have hs4 := hb4.size; (try simp at hs4); have tV : BM w4 w.heap.size R C A n cap := (Kb nMx); have t3 : BM w4 (bH + 1 + 1) (C : Int) (C : Int) A3 n3 k3 := (Kb nM3); have u3 : OR w4 (w.heap.size + 1) (.slice A3 n3 k3) (tb C C s.h) := (Ko p3); have tb_ : Below w.heap.size w w4 := Kw; have HP2 := Lib.hid u3.reads; have HC := Lib.hid hc.reads; have hnc := hc.lenEq; have hnc2 : nc ≤ 1048576 := (by have : (siY R C s cs).length = C := tab_len _ _; omega); clear hnc hb4; obtain ⟨ya, yb, yc, yf, yl⟩ := t3.mx; have ne1 : ¬ bH + 1 + 1 = wr.heap.size := (by omega); have ne2 : ¬ wr.heap.size = bH + 1 + 1 := (by omega); have ne3 : ¬ bH + 1 + 1 = w4.heap.size := (by omega); have ne4 : ¬ w4.heap.size = bH + 1 + 1 := (by omega); have hs42 : wr.heap.size ≤ w4.heap.size := (by omega))); ((try go_wp2_with fail)); (refine hK.out _ _ ?_ (fun hHeld => ?_)); ((focus ((try dsimp only); (go_keep)))); (clear hK K); ((try simp only [Act.put, p1_, p2_, p3_])); (refine wpAnyH_ready (rs := [3, 7]) (by kernel_rfl) (by simp) ?_); (refine AllReadyH.cons (by simp only [e1_, e2_, e3_]; try rfl) ?_ ?_); ((focus ((intro K hK); (go_simp); ((go_at_call 40; refine (impl_MultiplyMatrices C C C 1 A3 Ac n3 k3 nc cc (tb C C s.h) (siY R C s cs) _ (B := w4.heap.size) (B' := w4.heap.size) (Kr HP2.out) (Kr HC.out) Ks Ks hn3 hnc2).mono ?_; rintro e w5 ⟨A4, n4, k4, rfl, ho4_, hb5⟩; have hs5 := hb5.size; (try simp at hs5); have ho5 : OR w5 w4.heap.size (.slice A4 n4 k4) (mulM C C (tb C C s.h) C 1 (siY R C s cs)).xs := OR.mono ho4_ Ks; have k5 : ¬ Value.ownBlock (.slice A4 n4 k4) = some w5.heap.size := (fun e => by have := ho5.own _ e; omega); have rV : BM w5 w.heap.size R C A n cap := (Kb tV); have r3 : BM w5 (bH + 1 + 1) (C : Int) (C : Int) A3 n3 k3 := (Kb t3); have rb_ : Below w.heap.size w w5 := Kw; clear hb5; obtain ⟨ja, jb, jc, jf, jl⟩ := r3.mx; have ne5 : ¬ bH + 1 + 1 = w5.heap.size := (by omega); have ne6 : ¬ w5.heap.size = bH + 1 + 1 := (by omega))); ((try go_wp2_with fail)); (refine hK.out _ _ ?_ (fun hHeld => ?_)); ((focus ((try dsimp only); (go_keep)))); (clear hK K); ((try simp only [Act.put, p1_, p2_, p3_])); ((refine tk_ (i := 4) (v := ?_) (y := Or.inl ⟨by rfl, ?_⟩) (h := ?_); rotate_left; (focus (((intro w hSw; (try dsimp only at hSw); go_simp) <;> (try with_reducible rfl)); done)); (try simp only [Act.put, p1_, p2_, p3_]))); ((refine tk_ (i := 5) (v := ?_) (y := Or.inl ⟨by rfl, ?_⟩) (h := ?_); rotate_left; (focus (((intro w hSw; (try dsimp only at hSw); go_simp) <;> (try with_reducible rfl)); done)); (try simp only [Act.put, p1_, p2_, p3_]))); ((refine tk_ (i := 6) (v := ?_) (y := Or.inl ⟨by rfl, ?_⟩) (h := ?_); rotate_left; (focus (((intro w hSw; (try dsimp only at hSw); go_simp) <;> (try with_reducible rfl)); done)); (try simp only [Act.put, p1_, p2_, p3_]))); (refine wpAnyH_ready (rs := [7]) (by kernel_rfl) (by simp) ?_); (refine AllReadyH.cons (by simp only [e1_, e2_, e3_]; try rfl) ?_ ?_); ((focus ((intro K hK); (go_simp); ((try go_wp2_with fail)); (refine hK.out _ _ ?_ (fun hHeld => ?_)); ((focus ((try dsimp only); (go_keep)))); (clear hK K); ((try simp only [Act.put, p1_, p2_, p3_])); (refine wpAnyH_ready (rs := [8]) (by kernel_rfl) (by simp) ?_); (refine AllReadyH.cons (by simp only [e1_, e2_, e3_]; try rfl) ?_ ?_); ((focus ((intro K hK); (go_simp); ((try go_wp2_with fail)); (refine hK.out _ _ ?_ (fun hHeld => ?_)); ((focus ((try dsimp only); (go_keep)))); (clear hK K); ((try simp only [Act.put, p1_, p2_, p3_])); ((refine tk_ (i := 9) (v := ?_) (y := Or.inl ⟨by rfl, ?_⟩) (h := ?_); rotate_left; (focus (((intro w hSw; (try dsimp only at hSw); go_simp) <;> (try with_reducible rfl)); done)); (try simp only [Act.put, p1_, p2_, p3_]))); (refine wpAnyH_done (by kernel_rfl) ?_ _)))); (rotate_left 1); (exact AllReadyH.nil)))); (rotate_left 1); (exact AllReadyH.nil)))); (rotate_left 1); (refine AllReadyH.cons (by simp only [e1_, e2_, e3_]; try rfl) ?_ ?_); ((focus ((intro K hK); (go_simp); ((try go_wp2_with fail)); (refine hK.out _ _ ?_ (fun hHeld => ?_)); ((focus ((try dsimp only); (go_keep)))); (clear hK K); ((try simp only [Act.put, p1_, p2_, p3_])); (refine wpAnyH_ready (rs := [3]) (by kernel_rfl) (by simp) ?_); (refine AllReadyH.cons (by simp only [e1_, e2_, e3_]; try rfl) ?_ ?_); ((focus ((intro K hK); (go_simp); ((go_at_call 40; refine (impl_MultiplyMatrices C C C 1 A3 Ac n3 k3 nc cc (tb C C s.h) (siY R C s cs) _ (B := w4.heap.size) (B' := w4.heap.size) (Kr HP2.out) (Kr HC.out) Ks Ks hn3 hnc2).mono ?_; rintro e w5 ⟨A4, n4, k4, rfl, ho4_, hb5⟩; have hs5 := hb5.size; (try simp at hs5); have ho5 : OR w5 (w4.heap.size + 1) (.slice A4 n4 k4) (mulM C C (tb C C s.h) C 1 (siY R C s cs)).xs := OR.mono ho4_ Ks; have k5 : ¬ Value.ownBlock (.slice A4 n4 k4) = some w4.heap.size := (fun e => by have := ho5.own _ e; omega); have rV : BM w5 w.heap.size R C A n cap := (Kb tV); have r3 : BM w5 (bH + 1 + 1) (C : Int) (C : Int) A3 n3 k3 := (Kb t3); have h9 : B3 26 w5 w4.heap.size := (by refine B3.below ?_ hb5 Ks; (with_reducible (repeat (first | refine B3.n_ | exact B3.new _ _ _ _ _ _ rfl | refine B3.drew ?_ | refine B3.drewN ?_ _ | refine B3.alloc ?_ _)))); have rb_ : Below w.heap.size w w5 := Kw; clear hb5; obtain ⟨x0, x1, x2, hx⟩ := id h9; have z0 := hx.cell 0; have z1 := hx.cell 1; have z2 := hx.cell 2; have zf := hx.frozen; have zl := hx.lt; simp at z0 z1 z2; obtain ⟨ja, jb, jc, jf, jl⟩ := r3.mx; have ne5 : ¬ bH + 1 + 1 = w5.heap.size := (by omega); have ne6 : ¬ w5.heap.size = bH + 1 + 1 := (by omega))); ((try go_wp2_with fail)); (refine hK.out _ _ ?_ (fun hHeld => ?_)); ((focus ((try dsimp only); (go_keep)))); (clear hK K); ((try simp only [Act.put, p1_, p2_, p3_])); ((refine tk_ (i := 4) (v := ?_) (y := Or.inl ⟨by rfl, ?_⟩) (h := ?_); rotate_left; (focus (((intro w hSw; (try dsimp only at hSw); go_simp) <;> (try with_reducible rfl)); done)); (try simp only [Act.put, p1_, p2_, p3_]))); ((refine tk_ (i := 5) (v := ?_) (y := Or.inl ⟨by rfl, ?_⟩) (h := ?_); rotate_left; (focus (((intro w hSw; (try dsimp only at hSw); go_simp) <;> (try with_reducible rfl)); done)); (try simp only [Act.put, p1_, p2_, p3_]))); ((refine tk_ (i := 6) (v := ?_) (y := Or.inl ⟨by rfl, ?_⟩) (h := ?_); rotate_left; (focus (((intro w hSw; (try dsimp only at hSw); go_simp) <;> (try with_reducible rfl)); done)); (try simp only [Act.put, p1_, p2_, p3_]))); (refine wpAnyH_ready (rs := [8]) (by kernel_rfl) (by simp) ?_); (refine AllReadyH.cons (by simp only [e1_, e2_, e3_]; try rfl) ?_ ?_); ((focus ((intro K hK); (go_simp); ((try go_wp2_with fail)); (refine hK.out _ _ ?_ (fun hHeld => ?_)); ((focus ((try dsimp only); (go_keep)))); (clear hK K); ((try simp only [Act.put, p1_, p2_, p3_])); ((refine tk_ (i := 9) (v := ?_) (y := Or.inl ⟨by rfl, ?_⟩) (h := ?_); rotate_left; (focus (((intro w hSw; (try dsimp only at hSw); go_simp) <;> (try with_reducible rfl)); done)); (try simp only [Act.put, p1_, p2_, p3_]))); (refine wpAnyH_done (by kernel_rfl) ?_ _)))); (rotate_left 1); (exact AllReadyH.nil)))); (rotate_left 1); (exact AllReadyH.nil)))); (rotate_left 1); (exact AllReadyH.nil)))); (rotate_left 2); (refine AllReadyH.cons (by simp only [e1_, e2_, e3_]; try rfl) ?_ ?_); ((focus ((intro K hK); (go_simp); ((try go_wp2_with fail)); (refine hK.out _ _ ?_ (fun hHeld => ?_)); ((focus ((try dsimp only); (go_keep)))); (clear hK K); ((try simp only [Act.put, p1_, p2_, p3_])); (refine wpAnyH_ready (rs := [2]) (by kernel_rfl) (by simp) ?_); (refine AllReadyH.cons (by simp only [e1_, e2_, e3_]; try rfl) ?_ ?_); ((focus ((intro K hK); (go_simp); ((go_at_call 102; refine (impl_columnOf (some ⟨w3.heap.size, 0, none⟩) C C (siY R C s cs) _ (B := wr.heap.size) (Kr hyr.out) Ks (by omega)).mono ?_; rintro e w4 ⟨Ac, nc, cc, rfl, hc_, hb4⟩; have hc : OR w4 wr.heap.size (.slice Ac nc cc) (siY R C s cs) := OR.mono (xs := siY R C s cs) hc_ Ks; clear hc_; have hs4 := hb4.size; (try simp at hs4); have tV : BM w4 w.heap.size R C A n cap := (Kb nMx); have t3 : BM w4 (bH + 1 + 1) (C : Int) (C : Int) A3 n3 k3 := (Kb nM3); have u3 : OR w4 (w.heap.size + 1) (.slice A3 n3 k3) (tb C C s.h) := (Ko p3); have h8 : B3 26 w4 wr.heap.size := (by refine B3.below ?_ hb4 Ks; (with_reducible (repeat (first | refine B3.n_ | exact B3.new _ _ _ _ _ _ rfl | refine B3.drew ?_ | refine B3.drewN ?_ _ | refine B3.alloc ?_ _)))); have tb_ : Below w.heap.size w w4 := Kw; have HP2 := Lib.hid u3.reads; have HC := Lib.hid hc.reads; have hnc := hc.lenEq; have hnc2 : nc ≤ 1048576 := (by have : (siY R C s cs).length = C := tab_len _ _; omega); clear hnc hb4; obtain ⟨ya, yb, yc, yf, yl⟩ := t3.mx; have ne1 : ¬ bH + 1 + 1 = wr.heap.size := (by omega); have ne2 : ¬ wr.heap.size = bH + 1 + 1 := (by omega); have ne3 : ¬ bH + 1 + 1 = w4.heap.size := (by omega); have ne4 : ¬ w4.heap.size = bH + 1 + 1 := (by omega); have hs42 : wr.heap.size ≤ w4.heap.size := (by omega))); ((try go_wp2_with fail)); (refine hK.out _ _ ?_ (fun hHeld => ?_)); ((focus ((try dsimp only); (go_keep)))); (clear hK K); ((try simp only [Act.put, p1_, p2_, p3_])); (refine wpAnyH_ready (rs := [3]) (by kernel_rfl) (by simp) ?_); (refine AllReadyH.cons (by simp only [e1_, e2_, e3_]; try rfl) ?_ ?_); ((focus ((intro K hK); (go_simp); ((go_at_call 40; refine (impl_MultiplyMatrices C C C 1 A3 Ac n3 k3 nc cc (tb C C s.h) (siY R C s cs) _ (B := w4.heap.size) (B' := w4.heap.size) (Kr HP2.out) (Kr HC.out) Ks Ks hn3 hnc2).mono ?_; rintro e w5 ⟨A4, n4, k4, rfl, ho4_, hb5⟩; have hs5 := hb5.size; (try simp at hs5); have ho5 : OR w5 w4.heap.size (.slice A4 n4 k4) (mulM C C (tb C C s.h) C 1 (siY R C s cs)).xs := OR.mono ho4_ Ks; have k5 : ¬ Value.ownBlock (.slice A4 n4 k4) = some wr.heap.size := (fun e => by have := ho5.own _ e; omega); have rV : BM w5 w.heap.size R C A n cap := (Kb tV); have r3 : BM w5 (bH + 1 + 1) (C : Int) (C : Int) A3 n3 k3 := (Kb t3); have h9 : B3 26 w5 wr.heap.size := h8.below hb5 Ks; have rb_ : Below w.heap.size w w5 := Kw; clear hb5; obtain ⟨x0, x1, x2, hx⟩ := id h9; have z0 := hx.cell 0; have z1 := hx.cell 1; have z2 := hx.cell 2; have zf := hx.frozen; have zl := hx.lt; simp at z0 z1 z2; obtain ⟨ja, jb, jc, jf, jl⟩ := r3.mx; have ne5 : ¬ bH + 1 + 1 = w5.heap.size := (by omega); have ne6 : ¬ w5.heap.size = bH + 1 + 1 := (by omega))); ((try go_wp2_with fail)); (refine hK.out _ _ ?_ (fun hHeld => ?_)); ((focus ((try dsimp only); (go_keep)))); (clear hK K); ((try simp only [Act.put, p1_, p2_, p3_])); ((refine tk_ (i := 4) (v := ?_) (y := Or.inl ⟨by rfl, ?_⟩) (h := ?_); rotate_left; (focus (((intro w hSw; (try dsimp only at hSw); go_simp) <;> (try with_reducible rfl)); done)); (try simp only [Act.put, p1_, p2_, p3_]))); ((refine tk_ (i := 5) (v := ?_) (y := Or.inl ⟨by rfl, ?_⟩) (h := ?_); rotate_left; (focus (((intro w hSw; (try dsimp only at hSw); go_simp) <;> (try with_reducible rfl)); done)); (try simp only [Act.put, p1_, p2_, p3_]))); ((refine tk_ (i := 6) (v := ?_) (y := Or.inl ⟨by rfl, ?_⟩) (h := ?_); rotate_left; (focus (((intro w hSw; (try dsimp only at hSw); go_simp) <;> (try with_reducible rfl)); done)); (try simp only [Act.put, p1_, p2_, p3_]))); (refine wpAnyH_ready (rs := [8]) (by kernel_rfl) (by simp) ?_); (refine AllReadyH.cons (by simp only [e1_, e2_, e3_]; try rfl) ?_ ?_); ((focus ((intro K hK); (go_simp); ((try go_wp2_with fail)); (refine hK.out _ _ ?_ (fun hHeld => ?_)); ((focus ((try dsimp only); (go_keep)))); (clear hK K); ((try simp only [Act.put, p1_, p2_, p3_])); ((refine tk_ (i := 9) (v := ?_) (y := Or.inl ⟨by rfl, ?_⟩) (h := ?_); rotate_left; (focus (((intro w hSw; (try dsimp only at hSw); go_simp) <;> (try with_reducible rfl)); done)); (try simp only [Act.put, p1_, p2_, p3_]))); (refine wpAnyH_done (by kernel_rfl) ?_ _)))); (rotate_left 1); (exact AllReadyH.nil)))); (rotate_left 1); (exact AllReadyH.nil)))); (rotate_left 1); (exact AllReadyH.nil)))); (rotate_left 1); (exact AllReadyH.nil))
            all_goals
              go_wp2_with fail
              go_meet
              case rel => exact ⟨_, _, _, _, rfl, rfl, Kb rV, by first | exact BX.put h9 | (with_reducible (repeat (first | assumption | refine BX.n_ | refine BX.b_ ?_ | apply BX.drew | apply BX.drewN | refine BX.put ?_ | refine BX.put2 ?_ | refine BX.f_ ?_ | apply BX.alloc | refine B3.n_ | refine B3.of (by assumption) | refine B3.b_ ?_ | apply B3.drew | apply B3.drewN | refine B3.f_ ?_ | apply B3.alloc))), OR.mono (B := w4.heap.size) (by first | ((repeat (first | (with_reducible exact ho5) | (with_reducible refine OR.drew ?_) | (with_reducible refine OR.drewN ?_ _) | (with_reducible refine OR.alloc ?_ _) | (refine OR.far ?_ k5 _))); done) | (refine OR.mono (B := w4.heap.size + 1) ?_ (by omega); (repeat (first | (with_reducible exact ho5) | (with_reducible refine OR.drew ?_) | (with_reducible refine OR.drewN ?_ _) | (with_reducible refine OR.alloc ?_ _) | (refine OR.far ?_ k5 _))); done)) (by omega), Kw⟩
          obtain ⟨bC, A4, n4, c4, rfl, rfl, hV4, hNC, ho4, hbw5⟩ := hcut
          clear nMx nM3 ma mb mc mf ml za zb zc zf zl p3 hbw
          obtain ⟨ca, cb, cc, cf, cl⟩ := hNC.mx
          have hs6 := hbw5.size
          rcases hmb : mulB C C (tb C C s.h) C 1 (siY R C s cs) with _ | _
          · have HR := Lib.hid (siR_big HS.out HF.out hmb)
            clear hmb
            go_wp2_with fail
            go_ret2
            exact IIR.mk (by rw [HR.out]) (OR.empty' _ _ (by simp) Ks) Kw
          · have HR := Lib.hid (siR_yes HS.out HF.out hmb)
            rw [mulM_yes hmb] at ho4
            have ho4' : OR _ w.heap.size (.slice A4 n4 c4) (mulL (tb C C s.h) C C (siY R C s cs) 1) := ho4
            clear ho4
            have ho4 := ho4'
            clear ho4' hmb
            go_wp2_with fail
            go_ret2
            exact IIR.mk (by rw [HR.out]) (Ko ho4) Kw
    · have HF := Lib.hid hF
      have HR := Lib.hid (siR_none HS.out hF)
      clear hF
      refine (impl_firstWrong R C A1 A4 n1 k1 n4 k4 s.f cs _ (B := (w.heap.size + 1)) (B' := w2.heap.size) q1 q4.reads (Nat.le_refl _) HCL.out HOK.out HCN.out hR hC).mono ?_
      rw [HF.out]
      rintro e w3 ⟨rfl, hb3⟩
      have hk0 : (0 : Int) ≤ fwV (some k) := by show (0 : Int) ≤ (k : Int); omega
      have hbw3 : Below w.heap.size w w3 := Kw
      have hs3 := hb3.size
      have hs2 := hbw.size
      clear hb3 hbw
      go_wp2_with fail
      go_ret2
      exact IIR.mk (by rw [HR.out]) (OR.empty' _ _ (by simp) Ks) Kw
theorem siR_len (r c : Int) (xs bs : List Int) : (siR r c xs bs).1.length ≤ 1048576 := by
  rcases hS : siS r c xs bs with _ | ⟨s, cs⟩
  · rw [siR_fail hS]; exact Nat.zero_le _
  · have hm : isMat r c xs = true := by
      rcases hm : isMat r c xs with _ | _
      · rw [siS_none (sfX_no hm)] at hS; cases hS
      · rfl
    have M := isMat_iff.1 hm
    obtain ⟨R, rfl⟩ := nat_of M.r0
    obtain ⟨C, rfl⟩ := nat_of M.c0
    have hC : C ≤ 24 := by have := M.c1; omega
    rcases hF : fwF (dgF R C s.f) 0 cs with _ | k
    · rcases hmb : mulB C C (tb C C s.h) C 1 (siY R C s cs) with _ | _
      · rw [siR_big hS hF hmb]; exact Nat.zero_le _
      · rw [siR_yes hS hF hmb]
        show (mulL _ _ _ _ _).length ≤ _
        rw [mulL_len]; omega
    · rw [siR_none hS hF]; exact Nat.zero_le _
end Go.Proofs.Ytacjonkehcamgaa

/-
  DERIVED. RefuteInteger of the reference.
-/
namespace Go.Proofs.Ytacjonkehcamgaa
open Go.RowKit
set_option linter.unusedVariables false
set_option linter.unusedSimpArgs false
set_option maxRecDepth 100000 in
set_option maxHeartbeats 8000000 in
theorem spec_RefuteInteger (r c : Int) (A Ab : Option Addr) (n cap nb capb : Nat) (xs bs : List Int) (w : World) {B B' : Nat} (h : RI w B A n xs) (hb : RI w B' Ab nb bs) (hB : B ≤ w.heap.size) (hB' : B' ≤ w.heap.size) (hn : n ≤ 1048576) (hnb : nb ≤ 1048576) :
    Calls Try.prog 96 #[.agg #[.int .i64 r, .int .i64 c, .slice A n cap], .slice Ab nb capb] w (QIR (riR r c xs bs).1 (riR r c xs bs).2.1 (riR r c xs bs).2.2 w) := by
  have hlb := hb.len
  have hlb2 : bs.length ≤ nb ∧ nb ≤ bs.length := by omega
  have HLB := Lib.hid hlb
  have H2 := Lib.hid (h.more hB)
  have H3 := Lib.hid (hb.more hB')
  clear h hb hlb
  rcases hS : siS r c xs bs with _ | ⟨s, cs⟩
  · have HR := Lib.hid (riR_fail hS)
    have HS := Lib.hid hS
    clear hS
    go_enter Try.func96, Try.ntmps96
    go_wp2_with fail
    refine (spec_l14Ready r c A Ab n cap nb capb xs bs _ (B := w.heap.size) (B' := w.heap.size) (Kr H2.out) (Kr H3.out) Ks Ks hn hnb).mono ?_
    intro e w1 hk1
    obtain ⟨r1, c1, r2, c2, r3, c3, A1, A2, A3, A4, n1, k1, n2, k2, n3, k3, n4, k4, rfl, hb1⟩ := SFR.no HS.out hk1
    clear hk1
    have hs1 := hb1.size
    simp at hs1
    go_wp2_with fail
    go_ret2; exact QIR.mk (by rw [HR.out]) (OF.empty _ _ (by simp) Ks) Kw
  · have hm : isMat r c xs = true := by
      rcases hm : isMat r c xs with _ | _
      · rw [siS_none (sfX_no hm)] at hS; cases hS
      · rfl
    have M := isMat_iff.1 hm
    obtain ⟨R, rfl⟩ := nat_of M.r0
    obtain ⟨C, rfl⟩ := nat_of M.c0
    have hR : R ≤ 24 := by have := M.r1; omega
    have hC : C ≤ 24 := by have := M.c1; omega
    obtain ⟨hX, hlen, hmul, hcs⟩ := siS_some hS
    have HOK : Hid (OKF R C s.f) := Lib.hid (sfX_gd hX).2.2.2.ok.f
    have HG0 : OKF R R s.g := (sfX_gd hX).2.2.2.ok.g
    have HG : Hid (∀ k j, k < R → j < R → Num (s.g k j)) := Lib.hid (fun k j hk hj => HG0 k j hk hj)
    clear HG0
    have hcl : cs.length = R := by rw [hcs, mulL_len]; omega
    have HCN : Hid (∀ k, Num (cs.getD k 0)) := Lib.hid (by
      unfold mulB at hmul
      rw [Bool.and_eq_true] at hmul
      have h2 := (isMat_iff.1 hmul.2).num
      simp only [Int.toNat_natCast] at h2
      rw [hcs]
      exact getD_num h2)
    have HS := Lib.hid hS
    have HCL := Lib.hid hcl
    have hcl2 : cs.length ≤ R ∧ R ≤ cs.length := by omega
    clear M hm hX hlen hmul hcs hcl hS
    go_enter Try.func96, Try.ntmps96
    go_wp2_with fail
    refine (spec_l14Ready R C A Ab n cap nb capb xs bs _ (B := w.heap.size) (B' := w.heap.size) (Kr H2.out) (Kr H3.out) Ks Ks hn hnb).mono ?_
    intro e w1 hk1
    obtain ⟨A1, n1, k1, A2, n2, k2, A3, n3, k3, A4, n4, k4, rfl, o1, o2, o3, o4, hb1⟩ := SFR.yes HS.out hk1
    clear hk1 o3
    have hs1 := hb1.size
    simp at hs1
    have hMx : BM w1 w.heap.size R C A n cap := Ka
    have nMx : BM (((w1.alloc (.cells #[.int .i64 (R : Int), .int .i64 (C : Int), .slice A1 n1 k1] 26)).alloc (.cells #[.int .i64 (R : Int), .int .i64 (R : Int), .slice A2 n2 k2] 26)).alloc (.cells #[.int .i64 (C : Int), .int .i64 (C : Int), .slice A3 n3 k3] 26)) w.heap.size R C A n cap := ((hMx.alloc _).alloc _).alloc _
    have nM1 : BM (((w1.alloc (.cells #[.int .i64 (R : Int), .int .i64 (C : Int), .slice A1 n1 k1] 26)).alloc (.cells #[.int .i64 (R : Int), .int .i64 (R : Int), .slice A2 n2 k2] 26)).alloc (.cells #[.int .i64 (C : Int), .int .i64 (C : Int), .slice A3 n3 k3] 26)) w1.heap.size (R : Int) (C : Int) A1 n1 k1 := Ka
    have nM2 : BM (((w1.alloc (.cells #[.int .i64 (R : Int), .int .i64 (C : Int), .slice A1 n1 k1] 26)).alloc (.cells #[.int .i64 (R : Int), .int .i64 (R : Int), .slice A2 n2 k2] 26)).alloc (.cells #[.int .i64 (C : Int), .int .i64 (C : Int), .slice A3 n3 k3] 26)) (w1.heap.size + 1) (R : Int) (R : Int) A2 n2 k2 := Ka
    have p1 : OR (((w1.alloc (.cells #[.int .i64 (R : Int), .int .i64 (C : Int), .slice A1 n1 k1] 26)).alloc (.cells #[.int .i64 (R : Int), .int .i64 (R : Int), .slice A2 n2 k2] 26)).alloc (.cells #[.int .i64 (C : Int), .int .i64 (C : Int), .slice A3 n3 k3] 26)) (w.heap.size + 1) (.slice A1 n1 k1) (tb R C s.f) := by have q := OR.mono (xs := tb R C s.f) (B' := (w.heap.size + 1)) o1 (by simp); (with_reducible (repeat (first | exact q | refine OR.drew ?_ | refine OR.drewN ?_ _ | refine OR.alloc ?_ _ | refine OR.b_ ?_ | refine OR.l_ ?_)))
    have p2 : OR (((w1.alloc (.cells #[.int .i64 (R : Int), .int .i64 (C : Int), .slice A1 n1 k1] 26)).alloc (.cells #[.int .i64 (R : Int), .int .i64 (R : Int), .slice A2 n2 k2] 26)).alloc (.cells #[.int .i64 (C : Int), .int .i64 (C : Int), .slice A3 n3 k3] 26)) (w.heap.size + 1) (.slice A2 n2 k2) (tb R R s.g) := by have q := OR.mono (xs := tb R R s.g) (B' := (w.heap.size + 1)) o2 (by simp); (with_reducible (repeat (first | exact q | refine OR.drew ?_ | refine OR.drewN ?_ _ | refine OR.alloc ?_ _ | refine OR.b_ ?_ | refine OR.l_ ?_)))
    have p4 : OR (((w1.alloc (.cells #[.int .i64 (R : Int), .int .i64 (C : Int), .slice A1 n1 k1] 26)).alloc (.cells #[.int .i64 (R : Int), .int .i64 (R : Int), .slice A2 n2 k2] 26)).alloc (.cells #[.int .i64 (C : Int), .int .i64 (C : Int), .slice A3 n3 k3] 26)) (w.heap.size + 1) (.slice A4 n4 k4) cs := by have q := OR.mono (xs := cs) (B' := (w.heap.size + 1)) o4 (by simp); (with_reducible (repeat (first | exact q | refine OR.drew ?_ | refine OR.drewN ?_ _ | refine OR.alloc ?_ _ | refine OR.b_ ?_ | refine OR.l_ ?_)))
    have hbw : Below w.heap.size w (((w1.alloc (.cells #[.int .i64 (R : Int), .int .i64 (C : Int), .slice A1 n1 k1] 26)).alloc (.cells #[.int .i64 (R : Int), .int .i64 (R : Int), .slice A2 n2 k2] 26)).alloc (.cells #[.int .i64 (C : Int), .int .i64 (C : Int), .slice A3 n3 k3] 26)) := Kw
    have hsz2 : w1.heap.size + 1 + 1 + 1 ≤ ((((w1.alloc (.cells #[.int .i64 (R : Int), .int .i64 (C : Int), .slice A1 n1 k1] 26)).alloc (.cells #[.int .i64 (R : Int), .int .i64 (R : Int), .slice A2 n2 k2] 26)).alloc (.cells #[.int .i64 (C : Int), .int .i64 (C : Int), .slice A3 n3 k3] 26))).heap.size := by simp
    clear o1 o2 o4 hb1 hMx
    go_wp2_with fail
    generalize (((w1.alloc (.cells #[.int .i64 (R : Int), .int .i64 (C : Int), .slice A1 n1 k1] 26)).alloc (.cells #[.int .i64 (R : Int), .int .i64 (R : Int), .slice A2 n2 k2] 26)).alloc (.cells #[.int .i64 (C : Int), .int .i64 (C : Int), .slice A3 n3 k3] 26)) = w2 at *
    generalize w1.heap.size = bH at *
    rcases hF : fwF (dgF R C s.f) 0 cs with _ | k
    · have HF := Lib.hid hF
      have HR := Lib.hid (riR_none HS.out hF)
      clear hF
      refine (spec_l14Blocked R C A1 A4 n1 k1 n4 k4 s.f cs _ (B := (w.heap.size + 1)) (B' := w2.heap.size) p1 p4.reads (Nat.le_refl _) HCL.out HOK.out  hR hC).mono ?_
      rw [HF.out, show fwV none = (-1 : Int) from rfl]
      rintro e w3 ⟨rfl, hb3⟩
      have hs3 := hb3.size
      have hs2 := hbw.size
      have hbw3 : Below w.heap.size w w3 := Kw
      clear hb3 hbw
      go_wp2_with fail
      go_ret2; exact QIR.mk (by rw [HR.out]) (OF.empty _ _ (by simp) Ks) Kw
    · have HF := Lib.hid hF
      have K := RiK.of HCL.out hF
      have HKR := Lib.hid K.kR
      have hkR := K.kR
      have hnz := K.nz
      have HY := Lib.hid (riR_yes HS.out hF)
      have HN := Lib.hid (riR_big HS.out hF)
      clear hF K
      refine (spec_l14Blocked R C A1 A4 n1 k1 n4 k4 s.f cs _ (B := (w.heap.size + 1)) (B' := w2.heap.size) p1 p4.reads (Nat.le_refl _) HCL.out HOK.out  hR hC).mono ?_
      rw [HF.out, show fwV (some k) = (k : Int) from rfl]
      rintro e w3 ⟨rfl, hb3⟩
      have hs3 := hb3.size
      (have hs5 := hb3.size); (try simp at hs5); (have nMx_1 : BM w3 w.heap.size R C A n cap := (Kb nMx)); (have nM1_1 : BM w3 bH (R : Int) (C : Int) A1 n1 k1 := (Kb nM1)); (have nM2_1 : BM w3 (bH + 1) (R : Int) (R : Int) A2 n2 k2 := (Kb nM2)); (have p1_1 : OR w3 (w.heap.size + 1) (.slice A1 n1 k1) (tb R C s.f) := (Ko p1)); (have p2_1 : OR w3 (w.heap.size + 1) (.slice A2 n2 k2) (tb R R s.g) := (Ko p2)); (have p4_1 : OR w3 (w.heap.size + 1) (.slice A4 n4 k4) cs := (Ko p4)); (have hbw_1 : Below w.heap.size w w3 := Kw); clear nMx nM1 nM2 p1 p2 p4 hbw hb3; (have nMx := nMx_1); (have nM1 := nM1_1); (have nM2 := nM2_1); (have p1 := p1_1); (have p2 := p2_1); (have p4 := p4_1); (have hbw := hbw_1); clear nMx_1 nM1_1 nM2_1 p1_1 p2_1 p4_1 hbw_1
      have hbHl := nM2.lt
      have hsr := hbw.size
      obtain ⟨ma, mb, mc, mf, ml⟩ := nMx.mx; obtain ⟨ua, ub, uc, uf, ul⟩ := nM1.mx; obtain ⟨va, vb, vc, vf, vl⟩ := nM2.mx
      obtain ⟨x1, x2⟩ := HCN.out k
      obtain ⟨d1, d2⟩ := dgF_num (i := k) HOK.out
      obtain ⟨g4, rfl, hg1, hg2⟩ := p4.begins (by omega)
      have c1 := p4.cell k (by omega)
      have hln4 := p4.lenEq
      have hk4 : k < n4 := by omega
      clear hln4
      obtain ⟨z, hzv⟩ : ∃ z, riN (dgF R C s.f k) (cs.getD k 0) = z := ⟨_, rfl⟩
      rw [hzv] at HY HN hnz
      obtain ⟨d, hdv⟩ : ∃ d, dgF R C s.f k = d := ⟨_, rfl⟩
      have HDV := Lib.hid hdv
      rw [hdv] at hzv d1 d2
      generalize hcv : cs.getD k 0 = y at *
      have HCV := Lib.hid hcv
      clear hcv hdv
      have hzn0 : z ≠ 0 := hnz
      clear hnz
      by_cases hkC : k < C
      · by_cases hd0 : d = 0
        · have hz2 : z = 2 * y := by rw [← hzv]; unfold riN; rw [if_pos hd0]
          have HFD : Hid (s.f k k = 0) := Lib.hid (by rw [← hd0, ← HDV.out, dgF_in HKR.out hkC])
          have HZ2 := Lib.hid hz2
          clear hd0 hz2 hzv
          go_wp2_with fail
          refine (spec_l12Cell_tb R C k k A1 n1 k1 s.f 0 HFD.out _ (B := (w.heap.size + 1)) (Ko p1) (by omega) (by omega) HKR.out hkC).mono ?_
          rintro e w4 ⟨rfl, hb4⟩
          clear ma mb mc mf ml ua ub uc uf ul va vb vc vf vl
          have hs4 := hb4.size
          have c1' := (hb4.cell (p := ⟨g4, k, none⟩) (by simpa using hg2)).trans c1
          (have hs5 := hb4.size); (try simp at hs5); (have nMx_1 : BM w4 w.heap.size R C A n cap := (Kb nMx)); (have nM1_1 : BM w4 bH (R : Int) (C : Int) A1 n1 k1 := (Kb nM1)); (have nM2_1 : BM w4 (bH + 1) (R : Int) (R : Int) A2 n2 k2 := (Kb nM2)); (have p1_1 : OR w4 (w.heap.size + 1) (.slice A1 n1 k1) (tb R C s.f) := (Ko p1)); (have p2_1 : OR w4 (w.heap.size + 1) (.slice A2 n2 k2) (tb R R s.g) := (Ko p2)); (have p4_1 : OR w4 (w.heap.size + 1) (.slice (some ⟨g4, 0, none⟩) n4 k4) cs := (Ko p4)); (have hbw_1 : Below w.heap.size w w4 := Kw); clear nMx nM1 nM2 p1 p2 p4 hbw hb4; (have nMx := nMx_1); (have nM1 := nM1_1); (have nM2 := nM2_1); (have p1 := p1_1); (have p2 := p2_1); (have p4 := p4_1); (have hbw := hbw_1); clear nMx_1 nM1_1 nM2_1 p1_1 p2_1 p4_1 hbw_1
          obtain ⟨ma, mb, mc, mf, ml⟩ := nMx.mx; obtain ⟨ua, ub, uc, uf, ul⟩ := nM1.mx; obtain ⟨va, vb, vc, vf, vl⟩ := nM2.mx
          clear c1
          have c1 := c1'
          clear c1'
          go_wp2_with fail
          rcases hnm : isNum z with _ | _
          · have hmf : mulF 2 y = -4611686018427387904 := by rw [mulF_num (by omega) (by omega), ← HZ2.out, fit_out ((isNum_not _).1 hnm)]; rfl
            refine (spec_l1Mul 2 y _ (.inr (by omega)) (.inr (by omega))).mono ?_
            rw [hmf]
            clear hmf
            rintro e w' ⟨rfl, rfl⟩
            have HR := Lib.hid (HN.out hnm)
            have hR0 : 0 < R := by omega
            clear hnm
            clear ma mb mc mf ml ua ub uc uf ul va vb vc vf vl
            go_wp2_with fail
            go_loopw [14] (fun u wr => u = .int .i64 0 ∧ BM wr (bH + 1) (R : Int) (R : Int) A2 n2 k2 ∧ Below w.heap.size w wr) (fun _ _ => 0)
            case atStart => exact ⟨rfl, Kb nM2, Kw⟩
            case round =>
              clear nM2 hbw
              obtain ⟨rfl, nM2, hbw⟩ := hrel
              have hs9 := hbw.size
              obtain ⟨va, vb, vc, vf, vl⟩ := nM2.mx
              go_wp2_with fail
              go_ret2; exact QIR.mk (by rw [HR.out]) (OF.empty _ _ (by simp) Ks) Kw
          · have hmf : mulF 2 y = z := by rw [mulF_num (by omega) (by omega), ← HZ2.out, fit_in ((isNum_iff _).1 hnm)]
            refine (spec_l1Mul 2 y _ (.inr (by omega)) (.inr (by omega))).mono ?_
            rw [hmf]
            clear hmf
            rintro e w' ⟨rfl, rfl⟩
            have HR := Lib.hid (HY.out hnm)
            have HZN : Hid (Num z) := Lib.hid (Num.of hnm)
            obtain ⟨zn1, zn2⟩ := Num.of hnm
            have hzb1 : (z != -4611686018427387904) = true := by simp; omega
            have hzb2 : (z == -4611686018427387904) = false := by simp; omega
            clear hnm
            clear ma mb mc mf ml ua ub uc uf ul va vb vc vf vl
            go_wp2_with fail
            generalize hbq : w4.heap.size = bQ at *
            have OW1 : Hid (Own (.slice A1 n1 k1) (w.heap.size + 1) bQ) := Lib.hid (by rw [← hbq]; exact p1.own)
            have OW2 : Hid (Own (.slice A2 n2 k2) (w.heap.size + 1) bQ) := Lib.hid (by rw [← hbq]; exact p2.own)
            have OW4 : Hid (Own (.slice (some ⟨g4, 0, none⟩) n4 k4) (w.heap.size + 1) bQ) := Lib.hid (by rw [← hbq]; exact p4.own)
            have hbB : bH + 1 < bQ := by omega
            have hof : OF (w4.alloc (.cells #[] 92)) bQ (.slice (some ⟨bQ, 0, none⟩) 0 0) 0 [] := OF.empty _ _ hbq.symm (by omega)
            go_loopw [13, 14] (fun vo u wr => ∃ (j : Nat) (P : Option Addr) (pc : Nat) (qs : List Int), u = .int .i64 j ∧ vo = .slice P j pc ∧ j ≤ R ∧ Hid (riL R s.g k z j = qs) ∧ BM wr w.heap.size R C A n cap ∧ BM wr bH (R : Int) (C : Int) A1 n1 k1 ∧ BM wr (bH + 1) (R : Int) (R : Int) A2 n2 k2 ∧ OR wr (w.heap.size + 1) (.slice A1 n1 k1) (tb R C s.f) ∧ OR wr (w.heap.size + 1) (.slice A2 n2 k2) (tb R R s.g) ∧ OR wr (w.heap.size + 1) (.slice (some ⟨g4, 0, none⟩) n4 k4) cs ∧ OF wr bQ (.slice P j pc) j qs ∧ bQ ≤ wr.heap.size ∧ Below w.heap.size w wr) (fun _ u _ => R - (intOf u).toNat)
            case atStart => exact ⟨0, _, _, [], rfl, rfl, Nat.zero_le _, Lib.hid rfl, Kb nMx, Kb nM1, Kb nM2, Ko p1, Ko p2, Ko p4, hof, by simp; omega, Kw⟩
            case round =>
              clear nMx nM1 nM2 p1 p2 p4 hof hbw
              obtain ⟨j, P, pc, qs, rfl, rfl, hj, HQS, nMx, nM1, nM2, p1, p2, p4, hof, hszq, hbw⟩ := hrel
              obtain ⟨ma, mb, mc, mf, ml⟩ := nMx.mx; obtain ⟨ua, ub, uc, uf, ul⟩ := nM1.mx; obtain ⟨va, vb, vc, vf, vl⟩ := nM2.mx
              have hszr := hbw.size
              by_cases hjR : j < R
              · obtain ⟨x, hxv⟩ : ∃ x, s.g k j = x := ⟨_, rfl⟩
                have HXV := Lib.hid hxv
                clear hxv
                go_wp2_with fail
                refine (spec_l12Cell_tb R R k j A2 n2 k2 s.g x HXV.out _ (B := (w.heap.size + 1)) (Ko p2) (by omega) (by omega) HKR.out hjR).mono ?_
                rintro e w8 ⟨rfl, hb8⟩
                have hof8 : OF w8 bQ (.slice P j pc) j qs := by (with_reducible (repeat (first | exact hof | refine OF.drew ?_ | refine OF.drewN ?_ _ | refine OF.alloc ?_ _ | refine OF.b_ ?_ | refine OF.l_ ?_)))
                clear ma mb mc mf ml ua ub uc uf ul va vb vc vf vl
                clear hof
                have hof := hof8
                clear hof8
                have hsz9 := hb8.size
                (have hs5 := hb8.size); (try simp at hs5); (have nMx_1 : BM w8 w.heap.size R C A n cap := (Kb nMx)); (have nM1_1 : BM w8 bH (R : Int) (C : Int) A1 n1 k1 := (Kb nM1)); (have nM2_1 : BM w8 (bH + 1) (R : Int) (R : Int) A2 n2 k2 := (Kb nM2)); (have p1_1 : OR w8 (w.heap.size + 1) (.slice A1 n1 k1) (tb R C s.f) := (Ko p1)); (have p2_1 : OR w8 (w.heap.size + 1) (.slice A2 n2 k2) (tb R R s.g) := (Ko p2)); (have p4_1 : OR w8 (w.heap.size + 1) (.slice (some ⟨g4, 0, none⟩) n4 k4) cs := (Ko p4)); (have hbw_1 : Below w.heap.size w w8 := Kw); clear nMx nM1 nM2 p1 p2 p4 hbw hb8; (have nMx := nMx_1); (have nM1 := nM1_1); (have nM2 := nM2_1); (have p1 := p1_1); (have p2 := p2_1); (have p4 := p4_1); (have hbw := hbw_1); clear nMx_1 nM1_1 nM2_1 p1_1 p2_1 p4_1 hbw_1
                obtain ⟨ma, mb, mc, mf, ml⟩ := nMx.mx; obtain ⟨ua, ub, uc, uf, ul⟩ := nM1.mx; obtain ⟨va, vb, vc, vf, vl⟩ := nM2.mx
                go_wp2_with fail
                refine (spec_MakeRatio x z _).mono ?_
                obtain ⟨q, hq⟩ : ∃ q, makR x z = q := ⟨_, rfl⟩
                have HDN : Hid (riL R s.g k z (j + 1) = qs ++ [q.1, q.2]) := Lib.hid (riL_next HQS.out HXV.out hq (HG.out k j HKR.out hjR) HZN.out hzn0)
                rw [hq]
                clear hq
                rintro e w5 ⟨rfl, hb7⟩
                unfold rV
                clear ma mb mc mf ml ua ub uc uf ul va vb vc vf vl
                have hsz7 := hb7.size
                have hof7 : OF w5 bQ (.slice P j pc) j qs := by (with_reducible (repeat (first | exact hof | refine OF.drew ?_ | refine OF.drewN ?_ _ | refine OF.alloc ?_ _ | refine OF.b_ ?_ | refine OF.l_ ?_)))
                skip
                (have hs5 := hb7.size); (try simp at hs5); (have nMx_1 : BM w5 w.heap.size R C A n cap := (Kb nMx)); (have nM1_1 : BM w5 bH (R : Int) (C : Int) A1 n1 k1 := (Kb nM1)); (have nM2_1 : BM w5 (bH + 1) (R : Int) (R : Int) A2 n2 k2 := (Kb nM2)); (have p1_1 : OR w5 (w.heap.size + 1) (.slice A1 n1 k1) (tb R C s.f) := (Ko p1)); (have p2_1 : OR w5 (w.heap.size + 1) (.slice A2 n2 k2) (tb R R s.g) := (Ko p2)); (have p4_1 : OR w5 (w.heap.size + 1) (.slice (some ⟨g4, 0, none⟩) n4 k4) cs := (Ko p4)); (have hbw_1 : Below w.heap.size w w5 := Kw); clear nMx nM1 nM2 p1 p2 p4 hbw hb7; (have nMx := nMx_1); (have nM1 := nM1_1); (have nM2 := nM2_1); (have p1 := p1_1); (have p2 := p2_1); (have p4 := p4_1); (have hbw := hbw_1); clear nMx_1 nM1_1 nM2_1 p1_1 p2_1 p4_1 hbw_1
                go_wp2_with (at_builtin; refine wpList_append_ratio _ rfl (.tmp 59) (.tmp 66) rfl bQ _ j qs rfl (hof7.alloc _) _ q.1 q.2 rfl ?f1 ?f2 ?f3 ?f4 ?_)
                case f1 => simp [go_sem]
                case f2 => simp [go_sem]
                case f3 => omega
                case f4 => simp; omega
                intro v1 w6 hown1 hgr hat
                have nMx_2 := (nMx.alloc (.cells #[.int .i64 q.1, .int .i64 q.2] 92)).grown hgr (hof7.ne_low (by omega))
                have nM1_2 := (nM1.alloc (.cells #[.int .i64 q.1, .int .i64 q.2] 92)).grown hgr (hof7.ne_low (by omega))
                have nM2_2 := (nM2.alloc (.cells #[.int .i64 q.1, .int .i64 q.2] 92)).grown hgr (hof7.ne_low (by omega))
                have hsv := hof7.own
                have p1_2 := OR.keptOwn (p1.alloc (.cells #[.int .i64 q.1, .int .i64 q.2] 92)) hgr OW1.out hsv (.inl (Nat.le_refl _))
                have p2_2 := OR.keptOwn (p2.alloc (.cells #[.int .i64 q.1, .int .i64 q.2] 92)) hgr OW2.out hsv (.inl (Nat.le_refl _))
                have p4_2 := OR.keptOwn (p4.alloc (.cells #[.int .i64 q.1, .int .i64 q.2] 92)) hgr OW4.out hsv (.inl (Nat.le_refl _))
                have hgr2 := hgr
                have hb8 := Below.trans (show Below w.heap.size w (w5.alloc (.cells #[.int .i64 q.1, .int .i64 q.2] 92)) from Kw) ((hof7.alloc (.cells #[.int .i64 q.1, .int .i64 q.2] 92)).below_grown hgr (by simp; omega) |>.mono (by omega))
                have hsz8 := hgr.size
                simp at hsz8
                obtain ⟨P', pc', rfl⟩ := hown1.shape
                clear hof hof7 hgr hat nMx nM1 nM2 p1 p2 p4 hbw
                clear hgr2
                go_wp2_with fail
                go_roundw
                case rel => exact ⟨j + 1, P', pc', qs ++ [q.1, q.2], by go_num, rfl, by omega, HDN, Kb nMx_2, Kb nM1_2, Kb nM2_2, Ko p1_2, Ko p2_2, Ko p4_2, by (with_reducible (repeat (first | exact hown1 | refine OF.drew ?_ | refine OF.drewN ?_ _ | refine OF.alloc ?_ _ | refine OF.b_ ?_ | refine OF.l_ ?_))), Ks, Kw⟩
                case measure => simp only [intOf]; omega
              · obtain rfl : j = R := by omega
                have HOF := Lib.hid (show OF _ bQ (.slice P j pc) j (riL j s.g k z j) by rw [HQS.out]; exact hof)
                clear hof
                go_wp2_with fail
                go_ret2
                exact QIR.mk (by rw [HR.out]) (OF.mono (B := bQ) (by (with_reducible (repeat (first | exact HOF.out | refine OF.drew ?_ | refine OF.drewN ?_ _ | refine OF.alloc ?_ _ | refine OF.b_ ?_ | refine OF.l_ ?_)))) (by omega)) Kw
        · have hz2 : d = z := by rw [← hzv]; unfold riN; rw [if_neg hd0]
          have hdb : (z == 0) = false := by simpa using hzn0
          have HFD : Hid (s.f k k = z) := Lib.hid (by rw [← hz2, ← HDV.out, dgF_in HKR.out hkC])
          have hdz : Num z := by rw [← hz2]; exact ⟨d1, d2⟩
          clear hd0 hz2 hzv
          go_wp2_with fail
          refine (spec_l12Cell_tb R C k k A1 n1 k1 s.f z HFD.out _ (B := (w.heap.size + 1)) (Ko p1) (by omega) (by omega) HKR.out hkC).mono ?_
          rintro e w4 ⟨rfl, hb4⟩
          clear ma mb mc mf ml ua ub uc uf ul va vb vc vf vl
          have hs4 := hb4.size
          have c1' := (hb4.cell (p := ⟨g4, k, none⟩) (by simpa using hg2)).trans c1
          (have hs5 := hb4.size); (try simp at hs5); (have nMx_1 : BM w4 w.heap.size R C A n cap := (Kb nMx)); (have nM1_1 : BM w4 bH (R : Int) (C : Int) A1 n1 k1 := (Kb nM1)); (have nM2_1 : BM w4 (bH + 1) (R : Int) (R : Int) A2 n2 k2 := (Kb nM2)); (have p1_1 : OR w4 (w.heap.size + 1) (.slice A1 n1 k1) (tb R C s.f) := (Ko p1)); (have p2_1 : OR w4 (w.heap.size + 1) (.slice A2 n2 k2) (tb R R s.g) := (Ko p2)); (have p4_1 : OR w4 (w.heap.size + 1) (.slice (some ⟨g4, 0, none⟩) n4 k4) cs := (Ko p4)); (have hbw_1 : Below w.heap.size w w4 := Kw); clear nMx nM1 nM2 p1 p2 p4 hbw hb4; (have nMx := nMx_1); (have nM1 := nM1_1); (have nM2 := nM2_1); (have p1 := p1_1); (have p2 := p2_1); (have p4 := p4_1); (have hbw := hbw_1); clear nMx_1 nM1_1 nM2_1 p1_1 p2_1 p4_1 hbw_1
          obtain ⟨ma, mb, mc, mf, ml⟩ := nMx.mx; obtain ⟨ua, ub, uc, uf, ul⟩ := nM1.mx; obtain ⟨va, vb, vc, vf, vl⟩ := nM2.mx
          clear c1
          have c1 := c1'
          clear c1'
          have hnm : isNum z = true := hdz.isN
          clear hdz
          have HR := Lib.hid (HY.out hnm)
          have HZN : Hid (Num z) := Lib.hid (Num.of hnm)
          obtain ⟨zn1, zn2⟩ := Num.of hnm
          have hzb1 : (z != -4611686018427387904) = true := by simp; omega
          have hzb2 : (z == -4611686018427387904) = false := by simp; omega
          clear hnm
          clear ma mb mc mf ml ua ub uc uf ul va vb vc vf vl
          go_wp2_with fail
          generalize hbq : w4.heap.size = bQ at *
          have OW1 : Hid (Own (.slice A1 n1 k1) (w.heap.size + 1) bQ) := Lib.hid (by rw [← hbq]; exact p1.own)
          have OW2 : Hid (Own (.slice A2 n2 k2) (w.heap.size + 1) bQ) := Lib.hid (by rw [← hbq]; exact p2.own)
          have OW4 : Hid (Own (.slice (some ⟨g4, 0, none⟩) n4 k4) (w.heap.size + 1) bQ) := Lib.hid (by rw [← hbq]; exact p4.own)
          have hbB : bH + 1 < bQ := by omega
          have hof : OF (w4.alloc (.cells #[] 92)) bQ (.slice (some ⟨bQ, 0, none⟩) 0 0) 0 [] := OF.empty _ _ hbq.symm (by omega)
          go_loopw [13, 14] (fun vo u wr => ∃ (j : Nat) (P : Option Addr) (pc : Nat) (qs : List Int), u = .int .i64 j ∧ vo = .slice P j pc ∧ j ≤ R ∧ Hid (riL R s.g k z j = qs) ∧ BM wr w.heap.size R C A n cap ∧ BM wr bH (R : Int) (C : Int) A1 n1 k1 ∧ BM wr (bH + 1) (R : Int) (R : Int) A2 n2 k2 ∧ OR wr (w.heap.size + 1) (.slice A1 n1 k1) (tb R C s.f) ∧ OR wr (w.heap.size + 1) (.slice A2 n2 k2) (tb R R s.g) ∧ OR wr (w.heap.size + 1) (.slice (some ⟨g4, 0, none⟩) n4 k4) cs ∧ OF wr bQ (.slice P j pc) j qs ∧ bQ ≤ wr.heap.size ∧ Below w.heap.size w wr) (fun _ u _ => R - (intOf u).toNat)
          case atStart => exact ⟨0, _, _, [], rfl, rfl, Nat.zero_le _, Lib.hid rfl, Kb nMx, Kb nM1, Kb nM2, Ko p1, Ko p2, Ko p4, hof, by simp; omega, Kw⟩
          case round =>
            clear nMx nM1 nM2 p1 p2 p4 hof hbw
            obtain ⟨j, P, pc, qs, rfl, rfl, hj, HQS, nMx, nM1, nM2, p1, p2, p4, hof, hszq, hbw⟩ := hrel
            obtain ⟨ma, mb, mc, mf, ml⟩ := nMx.mx; obtain ⟨ua, ub, uc, uf, ul⟩ := nM1.mx; obtain ⟨va, vb, vc, vf, vl⟩ := nM2.mx
            have hszr := hbw.size
            by_cases hjR : j < R
            · obtain ⟨x, hxv⟩ : ∃ x, s.g k j = x := ⟨_, rfl⟩
              have HXV := Lib.hid hxv
              clear hxv
              go_wp2_with fail
              refine (spec_l12Cell_tb R R k j A2 n2 k2 s.g x HXV.out _ (B := (w.heap.size + 1)) (Ko p2) (by omega) (by omega) HKR.out hjR).mono ?_
              rintro e w8 ⟨rfl, hb8⟩
              have hof8 : OF w8 bQ (.slice P j pc) j qs := by (with_reducible (repeat (first | exact hof | refine OF.drew ?_ | refine OF.drewN ?_ _ | refine OF.alloc ?_ _ | refine OF.b_ ?_ | refine OF.l_ ?_)))
              clear ma mb mc mf ml ua ub uc uf ul va vb vc vf vl
              clear hof
              have hof := hof8
              clear hof8
              have hsz9 := hb8.size
              (have hs5 := hb8.size); (try simp at hs5); (have nMx_1 : BM w8 w.heap.size R C A n cap := (Kb nMx)); (have nM1_1 : BM w8 bH (R : Int) (C : Int) A1 n1 k1 := (Kb nM1)); (have nM2_1 : BM w8 (bH + 1) (R : Int) (R : Int) A2 n2 k2 := (Kb nM2)); (have p1_1 : OR w8 (w.heap.size + 1) (.slice A1 n1 k1) (tb R C s.f) := (Ko p1)); (have p2_1 : OR w8 (w.heap.size + 1) (.slice A2 n2 k2) (tb R R s.g) := (Ko p2)); (have p4_1 : OR w8 (w.heap.size + 1) (.slice (some ⟨g4, 0, none⟩) n4 k4) cs := (Ko p4)); (have hbw_1 : Below w.heap.size w w8 := Kw); clear nMx nM1 nM2 p1 p2 p4 hbw hb8; (have nMx := nMx_1); (have nM1 := nM1_1); (have nM2 := nM2_1); (have p1 := p1_1); (have p2 := p2_1); (have p4 := p4_1); (have hbw := hbw_1); clear nMx_1 nM1_1 nM2_1 p1_1 p2_1 p4_1 hbw_1
              obtain ⟨ma, mb, mc, mf, ml⟩ := nMx.mx; obtain ⟨ua, ub, uc, uf, ul⟩ := nM1.mx; obtain ⟨va, vb, vc, vf, vl⟩ := nM2.mx
              go_wp2_with fail
              refine (spec_MakeRatio x z _).mono ?_
              obtain ⟨q, hq⟩ : ∃ q, makR x z = q := ⟨_, rfl⟩
              have HDN : Hid (riL R s.g k z (j + 1) = qs ++ [q.1, q.2]) := Lib.hid (riL_next HQS.out HXV.out hq (HG.out k j HKR.out hjR) HZN.out hzn0)
              rw [hq]
              clear hq
              rintro e w5 ⟨rfl, hb7⟩
              unfold rV
              clear ma mb mc mf ml ua ub uc uf ul va vb vc vf vl
              have hsz7 := hb7.size
              have hof7 : OF w5 bQ (.slice P j pc) j qs := by (with_reducible (repeat (first | exact hof | refine OF.drew ?_ | refine OF.drewN ?_ _ | refine OF.alloc ?_ _ | refine OF.b_ ?_ | refine OF.l_ ?_)))
              skip
              (have hs5 := hb7.size); (try simp at hs5); (have nMx_1 : BM w5 w.heap.size R C A n cap := (Kb nMx)); (have nM1_1 : BM w5 bH (R : Int) (C : Int) A1 n1 k1 := (Kb nM1)); (have nM2_1 : BM w5 (bH + 1) (R : Int) (R : Int) A2 n2 k2 := (Kb nM2)); (have p1_1 : OR w5 (w.heap.size + 1) (.slice A1 n1 k1) (tb R C s.f) := (Ko p1)); (have p2_1 : OR w5 (w.heap.size + 1) (.slice A2 n2 k2) (tb R R s.g) := (Ko p2)); (have p4_1 : OR w5 (w.heap.size + 1) (.slice (some ⟨g4, 0, none⟩) n4 k4) cs := (Ko p4)); (have hbw_1 : Below w.heap.size w w5 := Kw); clear nMx nM1 nM2 p1 p2 p4 hbw hb7; (have nMx := nMx_1); (have nM1 := nM1_1); (have nM2 := nM2_1); (have p1 := p1_1); (have p2 := p2_1); (have p4 := p4_1); (have hbw := hbw_1); clear nMx_1 nM1_1 nM2_1 p1_1 p2_1 p4_1 hbw_1
              go_wp2_with (at_builtin; refine wpList_append_ratio _ rfl (.tmp 59) (.tmp 66) rfl bQ _ j qs rfl (hof7.alloc _) _ q.1 q.2 rfl ?f1 ?f2 ?f3 ?f4 ?_)
              case f1 => simp [go_sem]
              case f2 => simp [go_sem]
              case f3 => omega
              case f4 => simp; omega
              intro v1 w6 hown1 hgr hat
              have nMx_2 := (nMx.alloc (.cells #[.int .i64 q.1, .int .i64 q.2] 92)).grown hgr (hof7.ne_low (by omega))
              have nM1_2 := (nM1.alloc (.cells #[.int .i64 q.1, .int .i64 q.2] 92)).grown hgr (hof7.ne_low (by omega))
              have nM2_2 := (nM2.alloc (.cells #[.int .i64 q.1, .int .i64 q.2] 92)).grown hgr (hof7.ne_low (by omega))
              have hsv := hof7.own
              have p1_2 := OR.keptOwn (p1.alloc (.cells #[.int .i64 q.1, .int .i64 q.2] 92)) hgr OW1.out hsv (.inl (Nat.le_refl _))
              have p2_2 := OR.keptOwn (p2.alloc (.cells #[.int .i64 q.1, .int .i64 q.2] 92)) hgr OW2.out hsv (.inl (Nat.le_refl _))
              have p4_2 := OR.keptOwn (p4.alloc (.cells #[.int .i64 q.1, .int .i64 q.2] 92)) hgr OW4.out hsv (.inl (Nat.le_refl _))
              have hgr2 := hgr
              have hb8 := Below.trans (show Below w.heap.size w (w5.alloc (.cells #[.int .i64 q.1, .int .i64 q.2] 92)) from Kw) ((hof7.alloc (.cells #[.int .i64 q.1, .int .i64 q.2] 92)).below_grown hgr (by simp; omega) |>.mono (by omega))
              have hsz8 := hgr.size
              simp at hsz8
              obtain ⟨P', pc', rfl⟩ := hown1.shape
              clear hof hof7 hgr hat nMx nM1 nM2 p1 p2 p4 hbw
              clear hgr2
              go_wp2_with fail
              go_roundw
              case rel => exact ⟨j + 1, P', pc', qs ++ [q.1, q.2], by go_num, rfl, by omega, HDN, Kb nMx_2, Kb nM1_2, Kb nM2_2, Ko p1_2, Ko p2_2, Ko p4_2, by (with_reducible (repeat (first | exact hown1 | refine OF.drew ?_ | refine OF.drewN ?_ _ | refine OF.alloc ?_ _ | refine OF.b_ ?_ | refine OF.l_ ?_))), Ks, Kw⟩
              case measure => simp only [intOf]; omega
            · obtain rfl : j = R := by omega
              have HOF := Lib.hid (show OF _ bQ (.slice P j pc) j (riL j s.g k z j) by rw [HQS.out]; exact hof)
              clear hof
              go_wp2_with fail
              go_ret2
              exact QIR.mk (by rw [HR.out]) (OF.mono (B := bQ) (by (with_reducible (repeat (first | exact HOF.out | refine OF.drew ?_ | refine OF.drewN ?_ _ | refine OF.alloc ?_ _ | refine OF.b_ ?_ | refine OF.l_ ?_)))) (by omega)) Kw
      · have hd0 : d = 0 := by rw [← HDV.out, dgF_out (by omega)]
        have hz2 : z = 2 * y := by rw [← hzv]; unfold riN; rw [if_pos hd0]
        have HZ2 := Lib.hid hz2
        clear hd0 hz2 hzv
        go_wp2_with fail
        rcases hnm : isNum z with _ | _
        · have hmf : mulF 2 y = -4611686018427387904 := by rw [mulF_num (by omega) (by omega), ← HZ2.out, fit_out ((isNum_not _).1 hnm)]; rfl
          refine (spec_l1Mul 2 y _ (.inr (by omega)) (.inr (by omega))).mono ?_
          rw [hmf]
          clear hmf
          rintro e w' ⟨rfl, rfl⟩
          have HR := Lib.hid (HN.out hnm)
          have hR0 : 0 < R := by omega
          clear hnm
          clear ma mb mc mf ml ua ub uc uf ul va vb vc vf vl
          go_wp2_with fail
          go_loopw [14] (fun u wr => u = .int .i64 0 ∧ BM wr (bH + 1) (R : Int) (R : Int) A2 n2 k2 ∧ Below w.heap.size w wr) (fun _ _ => 0)
          case atStart => exact ⟨rfl, Kb nM2, Kw⟩
          case round =>
            clear nM2 hbw
            obtain ⟨rfl, nM2, hbw⟩ := hrel
            have hs9 := hbw.size
            obtain ⟨va, vb, vc, vf, vl⟩ := nM2.mx
            go_wp2_with fail
            go_ret2; exact QIR.mk (by rw [HR.out]) (OF.empty _ _ (by simp) Ks) Kw
        · have hmf : mulF 2 y = z := by rw [mulF_num (by omega) (by omega), ← HZ2.out, fit_in ((isNum_iff _).1 hnm)]
          refine (spec_l1Mul 2 y _ (.inr (by omega)) (.inr (by omega))).mono ?_
          rw [hmf]
          clear hmf
          rintro e w' ⟨rfl, rfl⟩
          have HR := Lib.hid (HY.out hnm)
          have HZN : Hid (Num z) := Lib.hid (Num.of hnm)
          obtain ⟨zn1, zn2⟩ := Num.of hnm
          have hzb1 : (z != -4611686018427387904) = true := by simp; omega
          have hzb2 : (z == -4611686018427387904) = false := by simp; omega
          clear hnm
          clear ma mb mc mf ml ua ub uc uf ul va vb vc vf vl
          go_wp2_with fail
          generalize hbq : w3.heap.size = bQ at *
          have OW1 : Hid (Own (.slice A1 n1 k1) (w.heap.size + 1) bQ) := Lib.hid (by rw [← hbq]; exact p1.own)
          have OW2 : Hid (Own (.slice A2 n2 k2) (w.heap.size + 1) bQ) := Lib.hid (by rw [← hbq]; exact p2.own)
          have OW4 : Hid (Own (.slice (some ⟨g4, 0, none⟩) n4 k4) (w.heap.size + 1) bQ) := Lib.hid (by rw [← hbq]; exact p4.own)
          have hbB : bH + 1 < bQ := by omega
          have hof : OF (w3.alloc (.cells #[] 92)) bQ (.slice (some ⟨bQ, 0, none⟩) 0 0) 0 [] := OF.empty _ _ hbq.symm (by omega)
          go_loopw [13, 14] (fun vo u wr => ∃ (j : Nat) (P : Option Addr) (pc : Nat) (qs : List Int), u = .int .i64 j ∧ vo = .slice P j pc ∧ j ≤ R ∧ Hid (riL R s.g k z j = qs) ∧ BM wr w.heap.size R C A n cap ∧ BM wr bH (R : Int) (C : Int) A1 n1 k1 ∧ BM wr (bH + 1) (R : Int) (R : Int) A2 n2 k2 ∧ OR wr (w.heap.size + 1) (.slice A1 n1 k1) (tb R C s.f) ∧ OR wr (w.heap.size + 1) (.slice A2 n2 k2) (tb R R s.g) ∧ OR wr (w.heap.size + 1) (.slice (some ⟨g4, 0, none⟩) n4 k4) cs ∧ OF wr bQ (.slice P j pc) j qs ∧ bQ ≤ wr.heap.size ∧ Below w.heap.size w wr) (fun _ u _ => R - (intOf u).toNat)
          case atStart => exact ⟨0, _, _, [], rfl, rfl, Nat.zero_le _, Lib.hid rfl, Kb nMx, Kb nM1, Kb nM2, Ko p1, Ko p2, Ko p4, hof, by simp; omega, Kw⟩
          case round =>
            clear nMx nM1 nM2 p1 p2 p4 hof hbw
            obtain ⟨j, P, pc, qs, rfl, rfl, hj, HQS, nMx, nM1, nM2, p1, p2, p4, hof, hszq, hbw⟩ := hrel
            obtain ⟨ma, mb, mc, mf, ml⟩ := nMx.mx; obtain ⟨ua, ub, uc, uf, ul⟩ := nM1.mx; obtain ⟨va, vb, vc, vf, vl⟩ := nM2.mx
            have hszr := hbw.size
            by_cases hjR : j < R
            · obtain ⟨x, hxv⟩ : ∃ x, s.g k j = x := ⟨_, rfl⟩
              have HXV := Lib.hid hxv
              clear hxv
              go_wp2_with fail
              refine (spec_l12Cell_tb R R k j A2 n2 k2 s.g x HXV.out _ (B := (w.heap.size + 1)) (Ko p2) (by omega) (by omega) HKR.out hjR).mono ?_
              rintro e w8 ⟨rfl, hb8⟩
              have hof8 : OF w8 bQ (.slice P j pc) j qs := by (with_reducible (repeat (first | exact hof | refine OF.drew ?_ | refine OF.drewN ?_ _ | refine OF.alloc ?_ _ | refine OF.b_ ?_ | refine OF.l_ ?_)))
              clear ma mb mc mf ml ua ub uc uf ul va vb vc vf vl
              clear hof
              have hof := hof8
              clear hof8
              have hsz9 := hb8.size
              (have hs5 := hb8.size); (try simp at hs5); (have nMx_1 : BM w8 w.heap.size R C A n cap := (Kb nMx)); (have nM1_1 : BM w8 bH (R : Int) (C : Int) A1 n1 k1 := (Kb nM1)); (have nM2_1 : BM w8 (bH + 1) (R : Int) (R : Int) A2 n2 k2 := (Kb nM2)); (have p1_1 : OR w8 (w.heap.size + 1) (.slice A1 n1 k1) (tb R C s.f) := (Ko p1)); (have p2_1 : OR w8 (w.heap.size + 1) (.slice A2 n2 k2) (tb R R s.g) := (Ko p2)); (have p4_1 : OR w8 (w.heap.size + 1) (.slice (some ⟨g4, 0, none⟩) n4 k4) cs := (Ko p4)); (have hbw_1 : Below w.heap.size w w8 := Kw); clear nMx nM1 nM2 p1 p2 p4 hbw hb8; (have nMx := nMx_1); (have nM1 := nM1_1); (have nM2 := nM2_1); (have p1 := p1_1); (have p2 := p2_1); (have p4 := p4_1); (have hbw := hbw_1); clear nMx_1 nM1_1 nM2_1 p1_1 p2_1 p4_1 hbw_1
              obtain ⟨ma, mb, mc, mf, ml⟩ := nMx.mx; obtain ⟨ua, ub, uc, uf, ul⟩ := nM1.mx; obtain ⟨va, vb, vc, vf, vl⟩ := nM2.mx
              go_wp2_with fail
              refine (spec_MakeRatio x z _).mono ?_
              obtain ⟨q, hq⟩ : ∃ q, makR x z = q := ⟨_, rfl⟩
              have HDN : Hid (riL R s.g k z (j + 1) = qs ++ [q.1, q.2]) := Lib.hid (riL_next HQS.out HXV.out hq (HG.out k j HKR.out hjR) HZN.out hzn0)
              rw [hq]
              clear hq
              rintro e w5 ⟨rfl, hb7⟩
              unfold rV
              clear ma mb mc mf ml ua ub uc uf ul va vb vc vf vl
              have hsz7 := hb7.size
              have hof7 : OF w5 bQ (.slice P j pc) j qs := by (with_reducible (repeat (first | exact hof | refine OF.drew ?_ | refine OF.drewN ?_ _ | refine OF.alloc ?_ _ | refine OF.b_ ?_ | refine OF.l_ ?_)))
              skip
              (have hs5 := hb7.size); (try simp at hs5); (have nMx_1 : BM w5 w.heap.size R C A n cap := (Kb nMx)); (have nM1_1 : BM w5 bH (R : Int) (C : Int) A1 n1 k1 := (Kb nM1)); (have nM2_1 : BM w5 (bH + 1) (R : Int) (R : Int) A2 n2 k2 := (Kb nM2)); (have p1_1 : OR w5 (w.heap.size + 1) (.slice A1 n1 k1) (tb R C s.f) := (Ko p1)); (have p2_1 : OR w5 (w.heap.size + 1) (.slice A2 n2 k2) (tb R R s.g) := (Ko p2)); (have p4_1 : OR w5 (w.heap.size + 1) (.slice (some ⟨g4, 0, none⟩) n4 k4) cs := (Ko p4)); (have hbw_1 : Below w.heap.size w w5 := Kw); clear nMx nM1 nM2 p1 p2 p4 hbw hb7; (have nMx := nMx_1); (have nM1 := nM1_1); (have nM2 := nM2_1); (have p1 := p1_1); (have p2 := p2_1); (have p4 := p4_1); (have hbw := hbw_1); clear nMx_1 nM1_1 nM2_1 p1_1 p2_1 p4_1 hbw_1
              go_wp2_with (at_builtin; refine wpList_append_ratio _ rfl (.tmp 59) (.tmp 66) rfl bQ _ j qs rfl (hof7.alloc _) _ q.1 q.2 rfl ?f1 ?f2 ?f3 ?f4 ?_)
              case f1 => simp [go_sem]
              case f2 => simp [go_sem]
              case f3 => omega
              case f4 => simp; omega
              intro v1 w6 hown1 hgr hat
              have nMx_2 := (nMx.alloc (.cells #[.int .i64 q.1, .int .i64 q.2] 92)).grown hgr (hof7.ne_low (by omega))
              have nM1_2 := (nM1.alloc (.cells #[.int .i64 q.1, .int .i64 q.2] 92)).grown hgr (hof7.ne_low (by omega))
              have nM2_2 := (nM2.alloc (.cells #[.int .i64 q.1, .int .i64 q.2] 92)).grown hgr (hof7.ne_low (by omega))
              have hsv := hof7.own
              have p1_2 := OR.keptOwn (p1.alloc (.cells #[.int .i64 q.1, .int .i64 q.2] 92)) hgr OW1.out hsv (.inl (Nat.le_refl _))
              have p2_2 := OR.keptOwn (p2.alloc (.cells #[.int .i64 q.1, .int .i64 q.2] 92)) hgr OW2.out hsv (.inl (Nat.le_refl _))
              have p4_2 := OR.keptOwn (p4.alloc (.cells #[.int .i64 q.1, .int .i64 q.2] 92)) hgr OW4.out hsv (.inl (Nat.le_refl _))
              have hgr2 := hgr
              have hb8 := Below.trans (show Below w.heap.size w (w5.alloc (.cells #[.int .i64 q.1, .int .i64 q.2] 92)) from Kw) ((hof7.alloc (.cells #[.int .i64 q.1, .int .i64 q.2] 92)).below_grown hgr (by simp; omega) |>.mono (by omega))
              have hsz8 := hgr.size
              simp at hsz8
              obtain ⟨P', pc', rfl⟩ := hown1.shape
              clear hof hof7 hgr hat nMx nM1 nM2 p1 p2 p4 hbw
              clear hgr2
              go_wp2_with fail
              go_roundw
              case rel => exact ⟨j + 1, P', pc', qs ++ [q.1, q.2], by go_num, rfl, by omega, HDN, Kb nMx_2, Kb nM1_2, Kb nM2_2, Ko p1_2, Ko p2_2, Ko p4_2, by (with_reducible (repeat (first | exact hown1 | refine OF.drew ?_ | refine OF.drewN ?_ _ | refine OF.alloc ?_ _ | refine OF.b_ ?_ | refine OF.l_ ?_))), Ks, Kw⟩
              case measure => simp only [intOf]; omega
            · obtain rfl : j = R := by omega
              have HOF := Lib.hid (show OF _ bQ (.slice P j pc) j (riL j s.g k z j) by rw [HQS.out]; exact hof)
              clear hof
              go_wp2_with fail
              go_ret2
              exact QIR.mk (by rw [HR.out]) (OF.mono (B := bQ) (by (with_reducible (repeat (first | exact HOF.out | refine OF.drew ?_ | refine OF.drewN ?_ _ | refine OF.alloc ?_ _ | refine OF.b_ ?_ | refine OF.l_ ?_)))) (by omega)) Kw
end Go.Proofs.Ytacjonkehcamgaa

/-
  DERIVED. What is drawn for refutations: DrawIsSolution, DrawIsRefutation.
-/
namespace Go.Proofs.Ytacjonkehcamgaa
open Go.RowKit
set_option linter.unusedVariables false
set_option linter.unusedSimpArgs false
/-- The call drew a matrix and two lists. -/
def DSF (k : Nat) (wo : World) (e : Ending) (w' : World) : Prop := ∃ (r c : Int) (Am : Option Addr) (nm cm Bm : Nat) (ys : List Int) (Ab : Option Addr) (nb cb Bb : Nat) (bs : List Int) (Ax : Option Addr) (nx cx Bx : Nat) (zs : List Int), e = .returned (.tuple #[.agg #[.int .i64 r, .int .i64 c, .slice Am nm cm], .slice Ab nb cb, .slice Ax nx cx]) ∧ RI w' Bm Am nm ys ∧ RI w' Bb Ab nb bs ∧ RI w' Bx Ax (nx * k) zs ∧ Bm ≤ w'.heap.size ∧ Bb ≤ w'.heap.size ∧ Bx ≤ w'.heap.size ∧ nm ≤ 17 ∧ nb ≤ 1001 ∧ nx ≤ 1048576 ∧ Below wo.heap.size wo w'
theorem ret_MTF {fn : Func} {R : Ending → World → Prop} {a : Act} {w : World} {t s s2 : Tmp} {b n cap : Nat} {r c : Int} {A : Option Addr} (hr : fn.results = #[.cell t 26, .tmp s, .tmp s2])
    (ht : a.tmps.getD t undef = .pointer (some ⟨b, 0, none⟩)) (h : BM w b r c A n cap) (hd : a.defers = []) (hR : R (.returned (.tuple #[.agg #[.int .i64 r, .int .i64 c, .slice A n cap], a.tmps.getD s undef, a.tmps.getD s2 undef])) w) : bodyPost Try.prog fn R .ret a w :=
  bodyPost_ret (v := .tuple #[.agg #[.int .i64 r, .int .i64 c, .slice A n cap], a.tmps.getD s undef, a.tmps.getD s2 undef]) (by
    obtain ⟨r0, r1, r2, rf, rl⟩ := h.mx
    have ht' := ht
    simp only [Array.getD_eq_getD_getElem?] at ht'
    simp [results, hr, ht', go_sem, r0, r1, r2]) hd hR
theorem siR_lenF (r c : Int) (xs bs : List Int) : (siR r c xs bs).1.length ≤ 1048576 := by
  rcases hS : siS r c xs bs with _ | ⟨s, cs⟩
  · rw [siR_fail hS]; exact Nat.zero_le _
  · have hm : isMat r c xs = true := by
      rcases hm : isMat r c xs with _ | _
      · rw [siS_none (sfX_no hm)] at hS; cases hS
      · rfl
    have M := isMat_iff.1 hm
    obtain ⟨R, rfl⟩ := nat_of M.r0
    obtain ⟨C, rfl⟩ := nat_of M.c0
    have hC : C ≤ 24 := by have := M.c1; omega
    rcases hF : fwF (dgF R C s.f) 0 cs with _ | k
    · rcases hmb : mulB C C (tb C C s.h) C 1 (siY R C s cs) with _ | _
      · rw [siR_big hS hF hmb]; exact Nat.zero_le _
      · rw [siR_yes hS hF hmb]
        show (mulL _ _ _ _ _).length ≤ _
        rw [mulL_len]; omega
    · rw [siR_none hS hF]; exact Nat.zero_le _
set_option maxRecDepth 100000 in
set_option maxHeartbeats 8000000 in
theorem spec_DrawIsSolution (n cap : Nat) (A : Option Addr) (xs : List Int) (wo : World) (hby : RB wo wo.heap.size A n xs) (hn : n ≤ 2000000) :
    Calls Try.prog 17 #[.slice A n cap] wo (DSF 1 wo) := by
  have HBY := Lib.hid hby
  clear hby
  go_enter Try.func17, Try.ntmps17
  go_wp2_with fail
  refine (spec_l14Draw n cap A xs _ (RB.more (B := wo.heap.size) (by (with_reducible (repeat (first | exact HBY.out | refine RB.drew ?_ | refine RB.drewN ?_ _ | refine RB.alloc ?_ Ks _ | refine RB.setCell ?_ Ks _ | refine RB.below ?_ (by assumption) Ks)))) (by simp)) hn).mono ?_
  rintro e w1 ⟨r, c, Am, nm, cm, ys, Ab, nb, cb, bs, rfl, ho1, ho2, hl1, hl2, hb1⟩
  have hsz1 := hb1.size; (try simp at hsz1); have e1 := ho1.lenEq; have e2 := ho2.lenEq; have n1x : nm ≤ 17 := (by omega); have n2x : nb ≤ 1001 := (by omega); have H1 : Hid (RI w1 w1.heap.size Am nm ys) := Lib.hid ho1.reads; have H2 : Hid (RI w1 w1.heap.size Ab nb bs) := Lib.hid ho2.reads; have K1 : Hid (OR w1 (wo.heap.size + 1) (.slice Am nm cm) ys) := Lib.hid (OR.mono (xs := ys) ho1 (by simp)); have K2 : Hid (OR w1 (wo.heap.size + 1) (.slice Ab nb cb) bs) := Lib.hid (OR.mono (xs := bs) ho2 (by simp)); have O1 := Lib.hid ho1.own; have O2 := Lib.hid ho2.own; have hR : BM w1 wo.heap.size 0 0 none 0 0 := Ka; have hbw : Below wo.heap.size wo w1 := Kw; have hM : BM (w1.alloc (.cells #[.int .i64 r, .int .i64 c, .slice Am nm cm] 26)) w1.heap.size r c Am nm cm := Ka; have hR2 : BM (w1.alloc (.cells #[.int .i64 r, .int .i64 c, .slice Am nm cm] 26)) wo.heap.size 0 0 none 0 0 := (Kb hR); clear ho1 ho2 hb1 e1 e2 hR; obtain ⟨ma, mb, mc, mf, ml⟩ := hM.mx; obtain ⟨ra, rb, rc, rf, rl⟩ := hR2.mx
  go_wp2_with fail
  refine (spec_SolveInteger r c Am Ab nm cm nb cb ys bs _ (B := w1.heap.size) (B' := w1.heap.size) (Kr H1.out) (Kr H2.out) Ks Ks (by omega) (by omega)).mono ?_
  have hlx := siR_lenF r c ys bs
  obtain ⟨⟨x, k⟩, hxk⟩ : ∃ q, siR r c ys bs = q := ⟨_, rfl⟩
  rw [hxk] at hlx
  rw [hxk]
  clear hxk
  rintro e w2 ⟨A3, n3, c3, rfl, ho3_, hb2⟩
  have ho3 : OR w2 (w1.heap.size + 1) (.slice A3 n3 c3) x := OR.mono (xs := x) ho3_ (by simp)
  have hn3 := ho3.lenEq
  have n3x : n3 ≤ 1048576 := by have h : x.length ≤ 1048576 := hlx; omega
  have hx3 : n3 ≤ x.length := by omega
  have hx4 : x.length ≤ n3 := by omega
  clear hlx hn3 ho3_
  have hsz2 := hb2.size; (try simp at hsz2); have hM_1 : BM w2 w1.heap.size r c Am nm cm := (Kb hM); have hR_1 : BM w2 wo.heap.size 0 0 none 0 0 := (Kb hR2); have H1_1 : Hid (RI w2 w1.heap.size Am nm ys) := Lib.hid (Kr H1.out); have H2_1 : Hid (RI w2 w1.heap.size Ab nb bs) := Lib.hid (Kr H2.out); have K1_1 : Hid (OR w2 (wo.heap.size + 1) (.slice Am nm cm) ys) := Lib.hid (Ko K1.out); have K2_1 : Hid (OR w2 (wo.heap.size + 1) (.slice Ab nb cb) bs) := Lib.hid (Ko K2.out); have hbw_1 : Below wo.heap.size wo w2 := Kw; clear hM hR2 H1 H2 K1 K2 hbw ma mb mc mf ml ra rb rc rf rl hb2; have hM := hM_1; have hR2 := hR_1; have H1 := H1_1; have H2 := H2_1; have K1 := K1_1; have K2 := K2_1; have hbw := hbw_1; clear hM_1 hR_1 H1_1 H2_1 K1_1 K2_1 hbw_1; obtain ⟨ma, mb, mc, mf, ml⟩ := hM.mx; obtain ⟨ra, rb, rc, rf, rl⟩ := hR2.mx; have hvr := B3.of hR2
  by_cases h0 : 0 < n3
  · obtain ⟨g, rfl, hg1, hg2⟩ := ho3.begins (by omega)
    have q0 := ho3.cell 0 (by omega)
    have qf := ho3.frozen 0
    have HX := Lib.hid ho3
    have ne1 : ¬ g = w1.heap.size := by omega
    have z1 : ¬ Value.ownBlock (.slice Am nm cm) = some g := fun e => by have := (O1.out _ e).2; omega
    have z2 : ¬ Value.ownBlock (.slice Ab nb cb) = some g := fun e => by have := (O2.out _ e).2; omega
    have ne2 : ¬ w1.heap.size = g := by omega
    have ne3 : ¬ g = wo.heap.size := by omega
    have ne4 : ¬ wo.heap.size = g := by omega
    generalize x.getD 0 0 = x0 at *
    by_cases h3 : n % 3 = 0
    · have t3 : ((n : Int) % 3 == 0) = true := by simp; omega
      clear h3 ho3
      go_wp2_with fail
      refine ret_MTF (b := wo.heap.size) (r := r) (c := c) (A := Am) (n := nm) (cap := cm) Try.results17 rfl (by first | exact BX.put hvr | (with_reducible (repeat (first | exact hvr | refine BX.n_ | refine BX.b_ ?_ | apply BX.drew | apply BX.drewN | refine BX.put ?_ | refine BX.put2 ?_ | refine BX.f_ ?_ | apply BX.alloc | refine B3.n_ | exact B3.of hvr | refine B3.b_ ?_ | apply B3.drew | apply B3.drewN | refine B3.f_ ?_ | apply B3.alloc)))) rfl ?_
      exact ⟨r, c, Am, nm, cm, _, ys, Ab, nb, cb, _, bs, _, n3, c3, _, _, rfl, OR.reads (B := wo.heap.size + 1) (cap := cm) (xs := ys) (by (repeat (first | (with_reducible exact K1.out) | (with_reducible refine OR.drew ?_) | (with_reducible refine OR.drewN ?_ _) | (with_reducible refine OR.alloc ?_ _) | (refine OR.l_ ?_) | (refine OR.far ?_ (by assumption) _)))), OR.reads (B := wo.heap.size + 1) (cap := cb) (xs := bs) (by (repeat (first | (with_reducible exact K2.out) | (with_reducible refine OR.drew ?_) | (with_reducible refine OR.drewN ?_ _) | (with_reducible refine OR.alloc ?_ _) | (refine OR.l_ ?_) | (refine OR.far ?_ (by assumption) _)))), (by rw [Nat.mul_one]; exact OR.reads (B := w1.heap.size + 1) (cap := c3) (xs := x.set 0 _) (by (repeat (first | (with_reducible exact HX.out.set_ 0 _) | (with_reducible refine OR.drew ?_) | (with_reducible refine OR.drewN ?_ _) | (with_reducible refine OR.alloc ?_ _) | (refine OR.l_ ?_))))), Nat.le_refl _, Nat.le_refl _, Nat.le_refl _, n1x, n2x, n3x, Kw⟩
    · have t3 : ((n : Int) % 3 == 0) = false := by simp; omega
      clear h3 ho3
      go_wp2_with fail
      refine ret_MTF (b := wo.heap.size) (r := r) (c := c) (A := Am) (n := nm) (cap := cm) Try.results17 rfl (by first | exact BX.put hvr | (with_reducible (repeat (first | exact hvr | refine BX.n_ | refine BX.b_ ?_ | apply BX.drew | apply BX.drewN | refine BX.put ?_ | refine BX.put2 ?_ | refine BX.f_ ?_ | apply BX.alloc | refine B3.n_ | exact B3.of hvr | refine B3.b_ ?_ | apply B3.drew | apply B3.drewN | refine B3.f_ ?_ | apply B3.alloc)))) rfl ?_
      exact ⟨r, c, Am, nm, cm, _, ys, Ab, nb, cb, _, bs, _, n3, c3, _, _, rfl, OR.reads (B := wo.heap.size + 1) (cap := cm) (xs := ys) (by (repeat (first | (with_reducible exact K1.out) | (with_reducible refine OR.drew ?_) | (with_reducible refine OR.drewN ?_ _) | (with_reducible refine OR.alloc ?_ _) | (refine OR.l_ ?_) | (refine OR.far ?_ (by assumption) _)))), OR.reads (B := wo.heap.size + 1) (cap := cb) (xs := bs) (by (repeat (first | (with_reducible exact K2.out) | (with_reducible refine OR.drew ?_) | (with_reducible refine OR.drewN ?_ _) | (with_reducible refine OR.alloc ?_ _) | (refine OR.l_ ?_) | (refine OR.far ?_ (by assumption) _)))), (by rw [Nat.mul_one]; exact OR.reads (B := w1.heap.size + 1) (cap := c3) (xs := x) (Ko HX.out)), Nat.le_refl _, Nat.le_refl _, Nat.le_refl _, n1x, n2x, n3x, Kw⟩
  · obtain rfl : n3 = 0 := by omega
    have HX := Lib.hid ho3
    clear ho3
    go_wp2_with fail
    refine ret_MTF (b := wo.heap.size) (r := r) (c := c) (A := Am) (n := nm) (cap := cm) Try.results17 rfl (by first | exact BX.put hvr | (with_reducible (repeat (first | exact hvr | refine BX.n_ | refine BX.b_ ?_ | apply BX.drew | apply BX.drewN | refine BX.put ?_ | refine BX.put2 ?_ | refine BX.f_ ?_ | apply BX.alloc | refine B3.n_ | exact B3.of hvr | refine B3.b_ ?_ | apply B3.drew | apply B3.drewN | refine B3.f_ ?_ | apply B3.alloc)))) rfl ?_
    exact ⟨r, c, Am, nm, cm, _, ys, Ab, nb, cb, _, bs, _, 0, c3, _, _, rfl, OR.reads (B := wo.heap.size + 1) (cap := cm) (xs := ys) (by (repeat (first | (with_reducible exact K1.out) | (with_reducible refine OR.drew ?_) | (with_reducible refine OR.drewN ?_ _) | (with_reducible refine OR.alloc ?_ _) | (refine OR.l_ ?_) | (refine OR.far ?_ (by assumption) _)))), OR.reads (B := wo.heap.size + 1) (cap := cb) (xs := bs) (by (repeat (first | (with_reducible exact K2.out) | (with_reducible refine OR.drew ?_) | (with_reducible refine OR.drewN ?_ _) | (with_reducible refine OR.alloc ?_ _) | (refine OR.l_ ?_) | (refine OR.far ?_ (by assumption) _)))), (by rw [Nat.mul_one]; exact OR.reads (B := w1.heap.size + 1) (cap := c3) (xs := x) (Ko HX.out)), Nat.le_refl _, Nat.le_refl _, Nat.le_refl _, n1x, n2x, n3x, Kw⟩
set_option maxRecDepth 100000 in
set_option maxHeartbeats 8000000 in
theorem spec_DrawIsRefutation (n cap : Nat) (A : Option Addr) (xs : List Int) (wo : World) (hby : RB wo wo.heap.size A n xs) (hn : n ≤ 2000000) :
    Calls Try.prog 16 #[.slice A n cap] wo (DSF 2 wo) := by
  have HBY := Lib.hid hby
  clear hby
  go_enter Try.func16, Try.ntmps16
  go_wp2_with fail
  refine (spec_l14Draw n cap A xs _ (RB.more (B := wo.heap.size) (by (with_reducible (repeat (first | exact HBY.out | refine RB.drew ?_ | refine RB.drewN ?_ _ | refine RB.alloc ?_ Ks _ | refine RB.setCell ?_ Ks _ | refine RB.below ?_ (by assumption) Ks)))) (by simp)) hn).mono ?_
  rintro e w1 ⟨r, c, Am, nm, cm, ys, Ab, nb, cb, bs, rfl, ho1, ho2, hl1, hl2, hb1⟩
  have hsz1 := hb1.size; (try simp at hsz1); have e1 := ho1.lenEq; have e2 := ho2.lenEq; have n1x : nm ≤ 17 := (by omega); have n2x : nb ≤ 1001 := (by omega); have H1 : Hid (RI w1 w1.heap.size Am nm ys) := Lib.hid ho1.reads; have H2 : Hid (RI w1 w1.heap.size Ab nb bs) := Lib.hid ho2.reads; have K1 : Hid (OR w1 (wo.heap.size + 1) (.slice Am nm cm) ys) := Lib.hid (OR.mono (xs := ys) ho1 (by simp)); have K2 : Hid (OR w1 (wo.heap.size + 1) (.slice Ab nb cb) bs) := Lib.hid (OR.mono (xs := bs) ho2 (by simp)); have O1 := Lib.hid ho1.own; have O2 := Lib.hid ho2.own; have hR : BM w1 wo.heap.size 0 0 none 0 0 := Ka; have hbw : Below wo.heap.size wo w1 := Kw; have hM : BM (w1.alloc (.cells #[.int .i64 r, .int .i64 c, .slice Am nm cm] 26)) w1.heap.size r c Am nm cm := Ka; have hR2 : BM (w1.alloc (.cells #[.int .i64 r, .int .i64 c, .slice Am nm cm] 26)) wo.heap.size 0 0 none 0 0 := (Kb hR); clear ho1 ho2 hb1 e1 e2 hR; obtain ⟨ma, mb, mc, mf, ml⟩ := hM.mx; obtain ⟨ra, rb, rc, rf, rl⟩ := hR2.mx
  go_wp2_with fail
  refine (spec_RefuteInteger r c Am Ab nm cm nb cb ys bs _ (B := w1.heap.size) (B' := w1.heap.size) (Kr H1.out) (Kr H2.out) Ks Ks (by omega) (by omega)).mono ?_
  have hlx := riR_cnt r c ys bs
  obtain ⟨⟨m, qs, k⟩, hxk⟩ : ∃ q, riR r c ys bs = q := ⟨_, rfl⟩
  rw [hxk] at hlx
  rw [hxk]
  clear hxk
  rintro e w2 ⟨A3, n3, c3, rfl, ho3_, hb2⟩
  have ho3 : OF w2 (w1.heap.size + 1) (.slice A3 n3 c3) m qs := OF.mono ho3_ (by simp)
  have hn3 := ho3.lenEq
  have n3x : n3 ≤ 1048576 := by have h : m ≤ 1048576 := hlx; omega
  subst hn3
  clear hlx ho3_
  have hsz2 := hb2.size; (try simp at hsz2); have hM_1 : BM w2 w1.heap.size r c Am nm cm := (Kb hM); have hR_1 : BM w2 wo.heap.size 0 0 none 0 0 := (Kb hR2); have H1_1 : Hid (RI w2 w1.heap.size Am nm ys) := Lib.hid (Kr H1.out); have H2_1 : Hid (RI w2 w1.heap.size Ab nb bs) := Lib.hid (Kr H2.out); have K1_1 : Hid (OR w2 (wo.heap.size + 1) (.slice Am nm cm) ys) := Lib.hid (Ko K1.out); have K2_1 : Hid (OR w2 (wo.heap.size + 1) (.slice Ab nb cb) bs) := Lib.hid (Ko K2.out); have hbw_1 : Below wo.heap.size wo w2 := Kw; clear hM hR2 H1 H2 K1 K2 hbw ma mb mc mf ml ra rb rc rf rl hb2; have hM := hM_1; have hR2 := hR_1; have H1 := H1_1; have H2 := H2_1; have K1 := K1_1; have K2 := K2_1; have hbw := hbw_1; clear hM_1 hR_1 H1_1 H2_1 K1_1 K2_1 hbw_1; obtain ⟨ma, mb, mc, mf, ml⟩ := hM.mx; obtain ⟨ra, rb, rc, rf, rl⟩ := hR2.mx; have hvr := B3.of hR2
  by_cases h0 : 0 < n3
  · obtain ⟨g, rfl, hg1, hg2⟩ := ho3.begins h0
    have q0 := ho3.cell 0 (by omega)
    have q1 := ho3.cell 1 (by omega)
    have qf := ho3.frozen 0
    have qf1 := ho3.frozen 1
    have HX := Lib.hid ho3
    have ne1 : ¬ g = w1.heap.size := by omega
    have z1 : ¬ Value.ownBlock (.slice Am nm cm) = some g := fun e => by have := (O1.out _ e).2; omega
    have z2 : ¬ Value.ownBlock (.slice Ab nb cb) = some g := fun e => by have := (O2.out _ e).2; omega
    have ne2 : ¬ w1.heap.size = g := by omega
    have ne3 : ¬ g = wo.heap.size := by omega
    have ne4 : ¬ wo.heap.size = g := by omega
    generalize qs.getD 0 0 = x0 at *
    generalize qs.getD 1 0 = x1 at *
    by_cases h3 : n % 3 = 0
    · have t3 : ((n : Int) % 3 == 0) = true := by simp; omega
      clear h3 ho3
      go_wp2_with fail
      refine (spec_AddRatios x0 x1 1 3 _).mono ?_
      obtain ⟨⟨u, v⟩, huv⟩ : ∃ q, addR (x0, x1) (1, 3) = q := ⟨_, rfl⟩
      rw [huv]
      clear huv
      rintro e w4 ⟨rfl, hb4⟩
      unfold rV
      have hsz4 := hb4.size
      (try simp at hsz4)
      have hM4 : BM w4 w1.heap.size r c Am nm cm := Kb hM
      have hR4 : BM w4 wo.heap.size 0 0 none 0 0 := Kb hR2
      have HX4 : Hid (OF w4 (w1.heap.size + 1) (.slice (some ⟨g, 0, none⟩) n3 c3) n3 qs) := Lib.hid (by (with_reducible (repeat (first | exact HX.out | refine OF.drew ?_ | refine OF.drewN ?_ _ | refine OF.alloc ?_ _ | refine OF.b_ ?_ | refine OF.l_ ?_))))
      have K14 : Hid (OR w4 (wo.heap.size + 1) (.slice Am nm cm) ys) := Lib.hid (Ko K1.out)
      have K24 : Hid (OR w4 (wo.heap.size + 1) (.slice Ab nb cb) bs) := Lib.hid (Ko K2.out)
      have H14 : Hid (RI w4 w1.heap.size Am nm ys) := Lib.hid (Kr H1.out)
      have H24 : Hid (RI w4 w1.heap.size Ab nb bs) := Lib.hid (Kr H2.out)
      have hbw4 : Below wo.heap.size wo w4 := Kw
      have q0_ := HX4.out.cell 0 (by omega)
      have q1_ := HX4.out.cell 1 (by omega)
      have qf_ := HX4.out.frozen 0
      have qf1_ := HX4.out.frozen 1
      clear hM hR2 H1 H2 K1 K2 hbw ma mb mc mf ml ra rb rc rf rl hb4 hvr HX q0 q1 qf qf1
      obtain ⟨ma, mb, mc, mf, ml⟩ := hM4.mx
      obtain ⟨ra, rb, rc, rf, rl⟩ := hR4.mx
      have hvr := B3.of hR4
      have hg3 : g < w4.heap.size := by omega
      go_wp2_with fail
      refine ret_MTF (b := wo.heap.size) (r := r) (c := c) (A := Am) (n := nm) (cap := cm) Try.results16 rfl (by first | exact BX.put hvr | (with_reducible (repeat (first | exact hvr | refine BX.n_ | refine BX.b_ ?_ | apply BX.drew | apply BX.drewN | refine BX.put ?_ | refine BX.put2 ?_ | refine BX.f_ ?_ | apply BX.alloc | refine B3.n_ | exact B3.of hvr | refine B3.b_ ?_ | apply B3.drew | apply B3.drewN | refine B3.f_ ?_ | apply B3.alloc)))) rfl ?_
      exact ⟨r, c, Am, nm, cm, _, ys, Ab, nb, cb, _, bs, _, n3, c3, _, _, rfl, OR.reads (B := wo.heap.size + 1) (cap := cm) (xs := ys) (by (repeat (first | (with_reducible exact K14.out) | (with_reducible refine OR.drew ?_) | (with_reducible refine OR.drewN ?_ _) | (with_reducible refine OR.alloc ?_ _) | (refine OR.l_ ?_) | (refine OR.far ?_ (by assumption) _)))), OR.reads (B := wo.heap.size + 1) (cap := cb) (xs := bs) (by (repeat (first | (with_reducible exact K24.out) | (with_reducible refine OR.drew ?_) | (with_reducible refine OR.drewN ?_ _) | (with_reducible refine OR.alloc ?_ _) | (refine OR.l_ ?_) | (refine OR.far ?_ (by assumption) _)))), OF.reads (B := w1.heap.size + 1) (cap := c3) (n := n3) (xs := (qs.set 0 u).set 1 v) (by (repeat (first | (with_reducible exact (HX4.out.set_ 0 u).set_ 1 v) | (with_reducible refine OF.drew ?_) | (with_reducible refine OF.drewN ?_ _) | (with_reducible refine OF.alloc ?_ _) | (refine OF.l_ ?_)))), Nat.le_refl _, Nat.le_refl _, Nat.le_refl _, n1x, n2x, n3x, Kw⟩
    · have t3 : ((n : Int) % 3 == 0) = false := by simp; omega
      clear h3 ho3
      go_wp2_with fail
      refine ret_MTF (b := wo.heap.size) (r := r) (c := c) (A := Am) (n := nm) (cap := cm) Try.results16 rfl (by first | exact BX.put hvr | (with_reducible (repeat (first | exact hvr | refine BX.n_ | refine BX.b_ ?_ | apply BX.drew | apply BX.drewN | refine BX.put ?_ | refine BX.put2 ?_ | refine BX.f_ ?_ | apply BX.alloc | refine B3.n_ | exact B3.of hvr | refine B3.b_ ?_ | apply B3.drew | apply B3.drewN | refine B3.f_ ?_ | apply B3.alloc)))) rfl ?_
      exact ⟨r, c, Am, nm, cm, _, ys, Ab, nb, cb, _, bs, _, n3, c3, _, _, rfl, OR.reads (B := wo.heap.size + 1) (cap := cm) (xs := ys) (by (repeat (first | (with_reducible exact K1.out) | (with_reducible refine OR.drew ?_) | (with_reducible refine OR.drewN ?_ _) | (with_reducible refine OR.alloc ?_ _) | (refine OR.l_ ?_) | (refine OR.far ?_ (by assumption) _)))), OR.reads (B := wo.heap.size + 1) (cap := cb) (xs := bs) (by (repeat (first | (with_reducible exact K2.out) | (with_reducible refine OR.drew ?_) | (with_reducible refine OR.drewN ?_ _) | (with_reducible refine OR.alloc ?_ _) | (refine OR.l_ ?_) | (refine OR.far ?_ (by assumption) _)))), OF.reads (B := w1.heap.size + 1) (cap := c3) (n := n3) (xs := qs) (by (with_reducible (repeat (first | exact HX.out | refine OF.drew ?_ | refine OF.drewN ?_ _ | refine OF.alloc ?_ _ | refine OF.b_ ?_ | refine OF.l_ ?_)))), Nat.le_refl _, Nat.le_refl _, Nat.le_refl _, n1x, n2x, n3x, Kw⟩
  · obtain rfl : n3 = 0 := by omega
    have HX := Lib.hid ho3
    clear ho3
    go_wp2_with fail
    refine ret_MTF (b := wo.heap.size) (r := r) (c := c) (A := Am) (n := nm) (cap := cm) Try.results16 rfl (by first | exact BX.put hvr | (with_reducible (repeat (first | exact hvr | refine BX.n_ | refine BX.b_ ?_ | apply BX.drew | apply BX.drewN | refine BX.put ?_ | refine BX.put2 ?_ | refine BX.f_ ?_ | apply BX.alloc | refine B3.n_ | exact B3.of hvr | refine B3.b_ ?_ | apply B3.drew | apply B3.drewN | refine B3.f_ ?_ | apply B3.alloc)))) rfl ?_
    exact ⟨r, c, Am, nm, cm, _, ys, Ab, nb, cb, _, bs, _, 0, c3, _, _, rfl, OR.reads (B := wo.heap.size + 1) (cap := cm) (xs := ys) (by (repeat (first | (with_reducible exact K1.out) | (with_reducible refine OR.drew ?_) | (with_reducible refine OR.drewN ?_ _) | (with_reducible refine OR.alloc ?_ _) | (refine OR.l_ ?_) | (refine OR.far ?_ (by assumption) _)))), OR.reads (B := wo.heap.size + 1) (cap := cb) (xs := bs) (by (repeat (first | (with_reducible exact K2.out) | (with_reducible refine OR.drew ?_) | (with_reducible refine OR.drewN ?_ _) | (with_reducible refine OR.alloc ?_ _) | (refine OR.l_ ?_) | (refine OR.far ?_ (by assumption) _)))), OF.reads (B := w1.heap.size + 1) (cap := c3) (n := 0) (xs := qs) (by (with_reducible (repeat (first | exact HX.out | refine OF.drew ?_ | refine OF.drewN ?_ _ | refine OF.alloc ?_ _ | refine OF.b_ ?_ | refine OF.l_ ?_)))), Nat.le_refl _, Nat.le_refl _, Nat.le_refl _, n1x, n2x, n3x, Kw⟩
end Go.Proofs.Ytacjonkehcamgaa

/-
  DERIVED. The law FnRefutations: a refutation that is checked rules out every vector of whole numbers.
-/
namespace Go.Proofs.Ytacjonkehcamgaa
open Go.RowKit
set_option linter.unusedVariables false
set_option linter.unusedSimpArgs false
/-- Where a refutation holds no vector solves. -/
theorem ref_sol {R C : Nat} {xs bs qs : List Int} (h : refB R C xs bs qs = true) (hx : xs.length = R * C) (x : List Int) : solB R C xs bs x = false := by
  rcases hs : solB R C xs bs x with _ | _
  · rfl
  · exfalso
    unfold solB at hs
    rw [Bool.and_eq_true] at hs
    obtain ⟨h1, h2⟩ := hs
    unfold eqB at h2
    have h2 := of_decide_eq_true h2
    rw [mulM_yes h1] at h2
    simp only [Int.toNat_natCast] at h2
    have h3 : mulL xs R C x 1 = bs := h2
    rw [mulL_cel hx] at h3
    refine ref_excl h (fun k => x.getD k 0) fun i hi => ?_
    rw [← h3, tab_getD hi]
theorem ref_parts {r c : Int} {xs bs qs : List Int} (h : refB r c xs bs qs = true) : ∃ R C : Nat, r = R ∧ c = C ∧ xs.length = R * C := by
  have h0 := h
  unfold refB at h0
  simp only [Bool.and_eq_true] at h0
  have hm : isMat r c xs = true := by
    rcases hm : isMat r c xs with _ | _
    · simp [hm] at h0
    · rfl
  have M := isMat_iff.1 hm
  have h5 := M.len
  obtain ⟨R, rfl⟩ := nat_of M.r0
  obtain ⟨C, rfl⟩ := nat_of M.c0
  rw [← Int.natCast_mul] at h5
  exact ⟨R, C, rfl, rfl, by omega⟩
theorem RB.moreF {w : World} {B B' n : Nat} {A : Option Addr} {xs : List Int} (h : RB w B A n xs) (hB : B ≤ B') : RB w B' A n xs :=
  ⟨h.1, fun hn => by
    obtain ⟨b, o, e, hb, hc⟩ := h.2.1 hn
    exact ⟨b, o, e, by omega, hc⟩, h.2.2⟩
set_option maxRecDepth 100000 in
set_option maxHeartbeats 8000000 in
theorem law_FnRefutations (w : World) (A : Option Addr) (n cap : Nat) (xs : List Int) (hnc : n ≤ cap) (hcm : cap ≤ maxLen) (hby : RB w w.heap.size A n xs) :
    Calls Try.prog 3 #[.slice A n cap] w fun e w' => e = .returned (.bool true) ∧ Below w.heap.size w w' := by
  have HBY := Lib.hid hby
  by_cases hn : 1048576 < n
  · go_enter Try.func3, Try.ntmps3
    go_wp2_with (go_at_call 15; refine (laws_big A n cap _).mono ?_; rintro e w1 ⟨rfl, rfl⟩)
    go_ret
    exact ⟨rfl, Below.refl _ _⟩
  · go_enter Try.func3, Try.ntmps3
    go_wp2_with (go_at_call 15; refine (laws_big A n cap _).mono ?_; rintro e w1 ⟨rfl, rfl⟩)
    refine (spec_DrawIsRefutation n cap A xs _ hby (by omega)).mono ?_
    rintro e w1 ⟨r, c, A1, n1, c1, B1, ys, A2, n2, c2, B2, bs, A3, n3, c3, B3_, qs, rfl, hr1, hr2, hr3, hB1, hB2, hB3, n1x, n2x, n3x, hbw0⟩
    have hsz := hbw0.size
    have H1 : Hid (RI w1 B1 A1 n1 ys) := Lib.hid hr1
    have H2 : Hid (RI w1 B2 A2 n2 bs) := Lib.hid hr2
    have H3 : Hid (RI w1 B3_ A3 (n3 * 2) qs) := Lib.hid hr3
    have hM : BM (w1.alloc (.cells #[.int .i64 r, .int .i64 c, .slice A1 n1 c1] 26)) w1.heap.size r c A1 n1 c1 := Ka
    have HR : Hid (RB w1 w.heap.size A n xs) := Lib.hid (RB.below HBY.out hbw0 (Nat.le_refl _))
    have HB0 : Hid (Below w.heap.size w (w1.alloc (.cells #[.int .i64 r, .int .i64 c, .slice A1 n1 c1] 26))) := Lib.hid (hbw0.alloc hsz _)
    have hly := hr1.len
    have hlb := hr2.len
    have HLY : Hid (ys.length = n1) := Lib.hid (by omega)
    clear hbw0 hby hr1 hr2 hr3 hly hlb
    obtain ⟨ma, mb, mc, mf, ml⟩ := hM.mx
    go_wp2_with fail
    refine (spec_DrawIsSolution n cap A xs _ (by refine RB.moreF (B := w.heap.size) ?_ Ks; (with_reducible (repeat (first | exact HR.out | refine RB.drew ?_ | refine RB.drewN ?_ _ | refine RB.alloc ?_ Ks _ | refine RB.setCell ?_ Ks _ | refine RB.below ?_ (by assumption) Ks)))) (by omega)).mono ?_
    rintro e w2 ⟨r9, c9, A9, n9, c9', B9, ys9, A8, n8, c8, B8, bs8, A4, n4, c4, B4, x, rfl, -, -, hr4, -, -, hB4, -, -, n4x, hb2⟩
    rw [Nat.mul_one] at hr4
    have hsz2 := hb2.size
    simp at hsz2
    have hM0 : BM w2 w1.heap.size r c A1 n1 c1 := Kb hM
    have H10 : Hid (RI w2 B1 A1 n1 ys) := Lib.hid (Kr H1.out)
    have H20 : Hid (RI w2 B2 A2 n2 bs) := Lib.hid (Kr H2.out)
    have H30 : Hid (RI w2 B3_ A3 (n3 * 2) qs) := Lib.hid (Kr H3.out)
    have H40 : Hid (RI w2 B4 A4 n4 x) := Lib.hid hr4
    have HB2 : Hid (Below w.heap.size w w2) := Lib.hid (HB0.out.trans (hb2.mono (by simp; omega)))
    clear hM H1 H2 H3 hr4 ma mb mc mf ml hb2 HB0 HR
    have hM : BM (w2.alloc (.cells #[.int .i64 r9, .int .i64 c9, .slice A9 n9 c9'] 26)) w1.heap.size r c A1 n1 c1 := hM0.alloc _
    have H1 : Hid (RI (w2.alloc (.cells #[.int .i64 r9, .int .i64 c9, .slice A9 n9 c9'] 26)) B1 A1 n1 ys) := Lib.hid (Kr H10.out)
    have H2 : Hid (RI (w2.alloc (.cells #[.int .i64 r9, .int .i64 c9, .slice A9 n9 c9'] 26)) B2 A2 n2 bs) := Lib.hid (Kr H20.out)
    have H3 : Hid (RI (w2.alloc (.cells #[.int .i64 r9, .int .i64 c9, .slice A9 n9 c9'] 26)) B3_ A3 (n3 * 2) qs) := Lib.hid (Kr H30.out)
    have H4 : Hid (RI (w2.alloc (.cells #[.int .i64 r9, .int .i64 c9, .slice A9 n9 c9'] 26)) B4 A4 n4 x) := Lib.hid (Kr H40.out)
    have HB0 : Hid (Below w.heap.size w (w2.alloc (.cells #[.int .i64 r9, .int .i64 c9, .slice A9 n9 c9'] 26))) := Lib.hid (HB2.out.alloc (by omega) _)
    have hs9 : w2.heap.size < (w2.alloc (.cells #[.int .i64 r9, .int .i64 c9, .slice A9 n9 c9'] 26)).heap.size := by simp
    clear hM0 H10 H20 H30 H40 HB2
    obtain ⟨ma, mb, mc, mf, ml⟩ := hM.mx
    go_wp2_with fail
    generalize (w2.alloc (.cells #[.int .i64 r9, .int .i64 c9, .slice A9 n9 c9'] 26)) = w0 at *
    generalize w1.heap.size = bM at *
    have hbw : Below w0.heap.size w0 w0 := Below.refl _ _
    have hs0 : w.heap.size ≤ w0.heap.size := by have := HB0.out.size; omega
    have hlM := hM.lt
    have hRS := fun h => ref_si (R := r.toNat) (C := c.toNat) (xs := ys) (bs := bs) (qs := qs) h
    have HEL := Lib.hid (fun h => si_else (r := r) (c := c) (xs := ys) (bs := bs) h)
    refine (impl_SolveInteger r c A1 A2 n1 c1 n2 c2 ys bs _ (B := B1) (B' := B2) (Kr H1.out) (Kr H2.out) Ks Ks (by omega) (by omega)).mono ?_
    obtain ⟨⟨z, kk⟩, hq⟩ : ∃ q, siR r c ys bs = q := ⟨_, rfl⟩
    rw [hq] at HEL
    rw [hq]
    have HQ := Lib.hid hq
    clear hq hRS
    rintro e w3 ⟨A5, n5, c5, rfl, ho5, hb3⟩
    have hn5 := OR.lenEq (xs := z) ho5
    have HN5 := Lib.hid hn5
    clear ho5 hn5
    have H4_1 : Hid (RI w3 B4 A4 n4 x) := Lib.hid (Kr H4.out); clear H4; have H4 := H4_1; clear H4_1; have hszw3 := hb3.size; (try simp at hszw3); have hM_1 : BM w3 bM ((r)) ((c)) A1 n1 c1 := (Kb hM); have H1_1 : Hid (RI w3 B1 A1 n1 ys) := Lib.hid (Kr H1.out); have H2_1 : Hid (RI w3 B2 A2 n2 bs) := Lib.hid (Kr H2.out); have H3_1 : Hid (RI w3 B3_ A3 (n3 * 2) qs) := Lib.hid (Kr H3.out); have hbw_1 : Below w0.heap.size w0 w3 := Kw; clear hM hbw H1 H2 H3 ma mb mc mf ml hb3; have hM := hM_1; have H1 := H1_1; have H2 := H2_1; have H3 := H3_1; have hbw := hbw_1; clear hM_1 H1_1 H2_1 H3_1 hbw_1; obtain ⟨ma, mb, mc, mf, ml⟩ := hM.mx
    go_wp2_with fail
    refine (impl_IsRefutation r c A1 A2 A3 n1 c1 n2 c2 n3 c3 ys bs qs _ (B := B1) (B' := B2) (B'' := B3_) (Kr H1.out) (Kr H2.out) (Kr H3.out) Ks Ks Ks (by omega) (by omega) n3x).mono ?_
    rcases hf : refB r c ys bs qs with _ | _
    · have HF := Lib.hid hf
      clear hf
      rintro e w4 ⟨rfl, hb4⟩
      have H4_1 : Hid (RI w4 B4 A4 n4 x) := Lib.hid (Kr H4.out); clear H4; have H4 := H4_1; clear H4_1; have hszw4 := hb4.size; (try simp at hszw4); have hM_1 : BM w4 bM ((r)) ((c)) A1 n1 c1 := (Kb hM); have H1_1 : Hid (RI w4 B1 A1 n1 ys) := Lib.hid (Kr H1.out); have H2_1 : Hid (RI w4 B2 A2 n2 bs) := Lib.hid (Kr H2.out); have H3_1 : Hid (RI w4 B3_ A3 (n3 * 2) qs) := Lib.hid (Kr H3.out); have hbw_1 : Below w0.heap.size w0 w4 := Kw; clear hM hbw H1 H2 H3 ma mb mc mf ml hb4; have hM := hM_1; have H1 := H1_1; have H2 := H2_1; have H3 := H3_1; have hbw := hbw_1; clear hM_1 H1_1 H2_1 H3_1 hbw_1; obtain ⟨ma, mb, mc, mf, ml⟩ := hM.mx
      go_wp2_with fail
      refine (spec_IsRefutation r c A1 A2 A3 n1 c1 n2 c2 n3 c3 ys bs qs _ (B := B1) (B' := B2) (B'' := B3_) (Kr H1.out) (Kr H2.out) (Kr H3.out) Ks Ks Ks (by omega) (by omega) n3x).mono ?_
      rw [HF.out]
      rintro e w5 ⟨rfl, hb5⟩
      have H4_1 : Hid (RI w5 B4 A4 n4 x) := Lib.hid (Kr H4.out); clear H4; have H4 := H4_1; clear H4_1; have hszw5 := hb5.size; (try simp at hszw5); have hM_1 : BM w5 bM ((r)) ((c)) A1 n1 c1 := (Kb hM); have H1_1 : Hid (RI w5 B1 A1 n1 ys) := Lib.hid (Kr H1.out); have H2_1 : Hid (RI w5 B2 A2 n2 bs) := Lib.hid (Kr H2.out); have H3_1 : Hid (RI w5 B3_ A3 (n3 * 2) qs) := Lib.hid (Kr H3.out); have hbw_1 : Below w0.heap.size w0 w5 := Kw; clear hM hbw H1 H2 H3 ma mb mc mf ml hb5; have hM := hM_1; have H1 := H1_1; have H2 := H2_1; have H3 := H3_1; have hbw := hbw_1; clear hM_1 H1_1 H2_1 H3_1 hbw_1; obtain ⟨ma, mb, mc, mf, ml⟩ := hM.mx
      go_wp2_with fail
      go_ret
      exact ⟨rfl, HB0.out.trans (Below.mono (B := w0.heap.size) Kw hs0)⟩
    · obtain ⟨R, C, rfl, rfl, hlen⟩ := ref_parts hf
      have hk0 : kk ≠ 0 := by have h := ref_si hf; rw [HQ.out] at h; exact h
      have hz0 : z = [] := HEL.out hk0
      have HSOL := Lib.hid (ref_sol hf hlen x)
      have HF := Lib.hid hf
      have hn50 : n5 = 0 := by have h := HN5.out; rw [hz0] at h; exact h
      have hkb : (kk != 0) = true := by simp [hk0]
      subst hn50
      clear hf hk0 hz0 hlen HN5 HEL HQ
      rintro e w4 ⟨rfl, hb4⟩
      have H4_1 : Hid (RI w4 B4 A4 n4 x) := Lib.hid (Kr H4.out); clear H4; have H4 := H4_1; clear H4_1; have hszw4 := hb4.size; (try simp at hszw4); have hM_1 : BM w4 bM (((R : Int))) (((C : Int))) A1 n1 c1 := (Kb hM); have H1_1 : Hid (RI w4 B1 A1 n1 ys) := Lib.hid (Kr H1.out); have H2_1 : Hid (RI w4 B2 A2 n2 bs) := Lib.hid (Kr H2.out); have H3_1 : Hid (RI w4 B3_ A3 (n3 * 2) qs) := Lib.hid (Kr H3.out); have hbw_1 : Below w0.heap.size w0 w4 := Kw; clear hM hbw H1 H2 H3 ma mb mc mf ml hb4; have hM := hM_1; have H1 := H1_1; have H2 := H2_1; have H3 := H3_1; have hbw := hbw_1; clear hM_1 H1_1 H2_1 H3_1 hbw_1; obtain ⟨ma, mb, mc, mf, ml⟩ := hM.mx
      go_wp2_with fail
      refine (spec_IsRefutation R C A1 A2 A3 n1 c1 n2 c2 n3 c3 ys bs qs _ (B := B1) (B' := B2) (B'' := B3_) (Kr H1.out) (Kr H2.out) (Kr H3.out) Ks Ks Ks (by omega) (by omega) n3x).mono ?_
      rw [HF.out]
      rintro e w5 ⟨rfl, hb5⟩
      have H4_1 : Hid (RI w5 B4 A4 n4 x) := Lib.hid (Kr H4.out); clear H4; have H4 := H4_1; clear H4_1; have hszw5 := hb5.size; (try simp at hszw5); have hM_1 : BM w5 bM (((R : Int))) (((C : Int))) A1 n1 c1 := (Kb hM); have H1_1 : Hid (RI w5 B1 A1 n1 ys) := Lib.hid (Kr H1.out); have H2_1 : Hid (RI w5 B2 A2 n2 bs) := Lib.hid (Kr H2.out); have H3_1 : Hid (RI w5 B3_ A3 (n3 * 2) qs) := Lib.hid (Kr H3.out); have hbw_1 : Below w0.heap.size w0 w5 := Kw; clear hM hbw H1 H2 H3 ma mb mc mf ml hb5; have hM := hM_1; have H1 := H1_1; have H2 := H2_1; have H3 := H3_1; have hbw := hbw_1; clear hM_1 H1_1 H2_1 H3_1 hbw_1; obtain ⟨ma, mb, mc, mf, ml⟩ := hM.mx
      go_wp2_with fail
      refine (impl_IsSolution R C A1 A2 A4 n1 c1 n2 c2 n4 c4 ys bs x _ (B := B1) (B2 := B2) (B3' := B4) (Kr H1.out) (Kr H2.out) (Kr H4.out) Ks Ks Ks (by omega) (by omega) n4x).mono ?_
      rw [HSOL.out]
      rintro e w6 ⟨rfl, hb6⟩
      have H4_1 : Hid (RI w6 B4 A4 n4 x) := Lib.hid (Kr H4.out); clear H4; have H4 := H4_1; clear H4_1; have hszw6 := hb6.size; (try simp at hszw6); have hM_1 : BM w6 bM (((R : Int))) (((C : Int))) A1 n1 c1 := (Kb hM); have H1_1 : Hid (RI w6 B1 A1 n1 ys) := Lib.hid (Kr H1.out); have H2_1 : Hid (RI w6 B2 A2 n2 bs) := Lib.hid (Kr H2.out); have H3_1 : Hid (RI w6 B3_ A3 (n3 * 2) qs) := Lib.hid (Kr H3.out); have hbw_1 : Below w0.heap.size w0 w6 := Kw; clear hM hbw H1 H2 H3 ma mb mc mf ml hb6; have hM := hM_1; have H1 := H1_1; have H2 := H2_1; have H3 := H3_1; have hbw := hbw_1; clear hM_1 H1_1 H2_1 H3_1 hbw_1; obtain ⟨ma, mb, mc, mf, ml⟩ := hM.mx
      go_wp2_with fail
      go_ret
      exact ⟨rfl, HB0.out.trans (Below.mono (B := w0.heap.size) Kw hs0)⟩
end Go.Proofs.Ytacjonkehcamgaa

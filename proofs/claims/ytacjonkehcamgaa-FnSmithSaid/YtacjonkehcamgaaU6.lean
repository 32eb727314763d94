/-
  DERIVED. Several small texts in one: FacI, Sm7, LSmith.
-/
import Derived.Test.YtacjonkehcamgaaU5
import Derived.Test.YtacjonkehcamgaaSm4s
import Derived.Deep.CutBlock
import Derived.Test.YtacjonkehcamgaaSm6s
import Derived.Test.YtacjonkehcamgaaU3
import Derived.Test.YtacjonkehcamgaaU1
import Derived.Test.YtacjonkehcamgaaMixs
import Derived.Test.YtacjonkehcamgaaU2
import Derived.Test.YtacjonkehcamgaaMinIs
import Derived.Test.YtacjonkehcamgaaMuls
/-
  DERIVED. FactorsOf of the program.
-/
namespace Go.Proofs.Ytacjonkehcamgaa
open Go.RowKit
set_option linter.unusedVariables false
set_option linter.unusedSimpArgs false
set_option maxRecDepth 100000 in
set_option maxHeartbeats 4000000 in
theorem impl_FactorsOf (r c : Int) (A : Option Addr) (n cap : Nat) (xs : List Int) (w : World) {B : Nat} (h : RI w B A n xs) (hB : B ≤ w.heap.size) (hn : n ≤ 1048576) :
    Calls Try.prog 60 #[.agg #[.int .i64 r, .int .i64 c, .slice A n cap]] w (IBR (facV r c xs) (sfX r c xs).isSome w) := by
  unfold facV
  have hlen := h.len
  have H2 := Lib.hid (h.more hB)
  clear h
  rcases hX : sfX r c xs with _ | s
  · have HX := Lib.hid hX
    clear hX
    go_enter Try.func60, Try.ntmps60
    go_wp2_with fail
    (refine (impl_SmithForm r c A n cap xs _ (B := w.heap.size) (Kr H2.out) Ks hn).mono ?_)
    rw [HX.out]
    rintro e w1 ⟨A1, n1, c1, A2, n2, c2, A3, n3, c3, rfl, -, -, -, -, -, -, hb1⟩
    have hs1 := hb1.size
    simp at hs1
    go_wp2_with fail
    go_ret2
    exact IBR.mk rfl (OR.empty' _ _ (by simp) Ks) Kw
  · obtain ⟨hm, hgd⟩ : isMat r c xs = true ∧ True := by
      rcases hm : isMat r c xs with _ | _
      · rw [sfX_no hm] at hX; cases hX
      · exact ⟨rfl, trivial⟩
    have M := isMat_iff.1 hm
    obtain ⟨R, rfl⟩ := nat_of M.r0
    obtain ⟨C, rfl⟩ := nat_of M.c0
    have hR : R ≤ 24 := by have := M.r1; omega
    have hC : C ≤ 24 := by have := M.c1; omega
    have hg := (sfX_gd hX).2.2.2
    have HOK := Lib.hid hg.ok.f
    have HX := Lib.hid hX
    clear M hm hgd hX hg
    go_enter Try.func60, Try.ntmps60
    go_wp2_with fail
    refine (impl_SmithForm R C A n cap xs _ (B := w.heap.size) (Kr H2.out) Ks hn).mono ?_
    rw [HX.out]
    rintro e w1 ⟨A1, n1, c1, A2, n2, c2, A3, n3, c3, rfl, ho1, ho2, ho3, -, -, -, hb1⟩
    have ho : OR w1 (w.heap.size + 1) (.slice A1 n1 c1) (tb R C s.f) := by have := OR.mono (B' := w.heap.size + 1) ho1 (by simp); exact this
    clear ho1 ho2 ho3
    have hs1 := hb1.size
    simp at hs1
    have HOA : Hid (Own (.slice A1 n1 c1) (w.heap.size + 1) w1.heap.size) := Lib.hid ho.own
    have hb0 : Below w.heap.size w w1 := Kw
    clear hb1
    go_wp2_with fail
    have hM : BM (((w1.alloc (.cells #[.int .i64 R, .int .i64 C, .slice A1 n1 c1] 26)).alloc (.cells #[.int .i64 R, .int .i64 R, .slice A2 n2 c2] 26)).alloc (.cells #[.int .i64 C, .int .i64 C, .slice A3 n3 c3] 26)) w1.heap.size R C A1 n1 c1 := Ka
    go_loopg [8, 9] (R + 1) (fun k v8 v9 wr => ∃ i : Nat, v9 = .int .i64 i ∧ i ≤ R ∧ R - i < k ∧ OR wr (w1.heap.size + 1 + 1 + 1) v8 (facK (dgF R C s.f) i) ∧ BM wr w1.heap.size R C A1 n1 c1 ∧ OR wr (w.heap.size + 1) (.slice A1 n1 c1) (tb R C s.f) ∧ Below w.heap.size w wr ∧ w1.heap.size + 1 + 1 + 1 ≤ wr.heap.size)
    case atStart => exact ⟨0, rfl, Nat.zero_le _, by omega, OR.empty' _ _ (by simp) Ks, hM.alloc _, Ko ho, Kw, Ks⟩
    case round =>
      clear hM ho hb0
      obtain ⟨i, rfl, hi, hk, hl, hM, hoa, hbw, hs3⟩ := hrel
      obtain ⟨Al, cl, rfl⟩ := hl.shapeF
      have hnl2 : (facK (dgF R C s.f) i).length ≤ 24 := by have := facK_len (dgF R C s.f) i; omega
      obtain ⟨ma, mb, mc, mf, ml⟩ := hM.mx
      have hsr := hM.lt
      by_cases hiR : i < R
      · by_cases hz : dgF R C s.f i = 0
        · have HE := Lib.hid (facK_skip hz)
          have HD := Lib.hid hz
          clear hz
          go_wp2_with fail
          refine (impl_diagonal R C i A1 n1 c1 s.f _ (B := w.heap.size + 1) (Ko hoa) (by omega) hR hC).mono ?_
          rw [HD.out]
          rintro e w2 ⟨rfl, hb2⟩
          (have hM_1 : BM w2 w1.heap.size R C A1 n1 c1 := (Kb hM)); (have hoa_1 : OR w2 (w.heap.size + 1) (.slice A1 n1 c1) (tb R C s.f) := (Ko hoa)); (have hl_1 : OR w2 (w1.heap.size + 1 + 1 + 1) (.slice Al (facK (dgF R C s.f) i).length cl) (facK (dgF R C s.f) i) := (Ko hl)); (have hbw_1 : Below w.heap.size w w2 := Kw); (have hz2 := hb2.size); (try simp at hz2); (have hs3_1 : w1.heap.size + 1 + 1 + 1 ≤ w2.heap.size := (by omega)); clear hs3 hz2; (have hs3 := hs3_1); clear hs3_1; clear hM hoa hl hbw hb2 ma mb mc mf ml; (have hM := hM_1); (have hoa := hoa_1); (have hl := hl_1); (have hbw := hbw_1); clear hM_1 hoa_1 hl_1 hbw_1; obtain ⟨ma, mb, mc, mf, ml⟩ := hM.mx
          go_wp2_with fail
          go_roundg (gk - 1)
          case measure => omega
          case rel => exact ⟨i + 1, by go_num, by omega, by omega, by rw [HE.out]; (with_reducible (repeat (first | exact hl | refine OR.drew ?_ | refine OR.drewN ?_ _ | refine OR.alloc ?_ _ | refine OR.b_ ?_ | refine OR.l_ ?_))), Kb hM, Ko hoa, Kw, Ks⟩
        · have HE := Lib.hid (facK_add hz)
          have hzb : (dgF R C s.f i != 0) = true := by simpa using hz
          have hdv := dgF_num (R := R) (C := C) (i := i) HOK.out
          generalize hv : dgF R C s.f i = z at *
          have HD := Lib.hid hv
          clear hv hz
          go_wp2_with fail
          refine (impl_diagonal R C i A1 n1 c1 s.f _ (B := w.heap.size + 1) (Ko hoa) (by omega) hR hC).mono ?_
          rw [HD.out]
          rintro e w2 ⟨rfl, hb2⟩
          (have hM_1 : BM w2 w1.heap.size R C A1 n1 c1 := (Kb hM)); (have hoa_1 : OR w2 (w.heap.size + 1) (.slice A1 n1 c1) (tb R C s.f) := (Ko hoa)); (have hl_1 : OR w2 (w1.heap.size + 1 + 1 + 1) (.slice Al (facK (dgF R C s.f) i).length cl) (facK (dgF R C s.f) i) := (Ko hl)); (have hbw_1 : Below w.heap.size w w2 := Kw); (have hz2 := hb2.size); (try simp at hz2); (have hs3_1 : w1.heap.size + 1 + 1 + 1 ≤ w2.heap.size := (by omega)); clear hs3 hz2; (have hs3 := hs3_1); clear hs3_1; clear hM hoa hl hbw hb2 ma mb mc mf ml; (have hM := hM_1); (have hoa := hoa_1); (have hl := hl_1); (have hbw := hbw_1); clear hM_1 hoa_1 hl_1 hbw_1; obtain ⟨ma, mb, mc, mf, ml⟩ := hM.mx
          go_wp2_with (at_builtin; refine wpList_append_one _ rfl (.tmp 33) (.tmp 35) rfl (w1.heap.size + 1 + 1 + 1) _ _ rfl (hl.alloc _) _ z rfl ?f1 ?f2 ?f3 ?_)
          case f1 => simp [go_sem]
          case f2 => omega
          case f3 => exact Ks
          intro v1 w3 hown1 hgr hat
          have HOL := (hl.alloc (.cells #[.int .i64 z] 3)).own
          have hz3 := hgr.size
          simp at hz3
          have hM_1 : BM w3 w1.heap.size R C A1 n1 c1 := BX.keptOwn (Kb hM) hgr HOL (.inl (by omega)); have hoa_1 : OR w3 (w.heap.size + 1) (.slice A1 n1 c1) (tb R C s.f) := OR.keptOwn (Ko hoa) hgr HOA.out HOL (.inl (by omega)); have hbw_1 : Below w.heap.size w w3 := Below.trans Kw (below_keptOwn hgr HOL (by omega) Ks)
          clear hM hoa hl hbw hgr hat HOL ma mb mc mf ml
          go_wp2_with fail
          go_roundg (gk - 1)
          case measure => omega
          case rel => exact ⟨i + 1, by go_num, by omega, by omega, by rw [HE.out]; exact hown1, hM_1, hoa_1, hbw_1, Ks⟩
      · have hiE : i = R := by omega
        subst hiE
        go_wp2_with fail
        go_ret2
        exact IBR.mk (facO_rows _ _ _) (OR.mono (B := w1.heap.size + 1 + 1 + 1) (Ko hl) (by omega)) Kw
theorem facO_min (R C : Nat) (s : SS) : facO R C (some s) = facK (dgF R C s.f) (min R C) := rfl
end Go.Proofs.Ytacjonkehcamgaa

/-
  DERIVED. SmithForm of the reference.
-/
namespace Go.Proofs.Ytacjonkehcamgaa
open Go.RowKit
set_option linter.unusedVariables false
set_option linter.unusedSimpArgs false
set_option maxRecDepth 100000 in
set_option maxHeartbeats 8000000 in
theorem spec_SmithForm (r c : Int) (A : Option Addr) (n cap : Nat) (xs : List Int) (w : World) {B : Nat} (h : RI w B A n xs) (hB : B ≤ w.heap.size) (hn : n ≤ 1048576) :
    Calls Try.prog 57 #[.agg #[.int .i64 r, .int .i64 c, .slice A n cap]] w (M3R (sfDO r c (sfX r c xs)) (sfUO r (sfX r c xs)) (sfVO c (sfX r c xs)) (sfX r c xs).isSome w) := by
  have hlen := h.len
  have H2 := Lib.hid (h.more hB)
  clear h
  rcases hm : isMat r c xs with _ | _
  · have HM := Lib.hid hm
    have HX := Lib.hid (sfX_no hm)
    clear hm
    generalize sfX r c xs = X at *
    go_enter Try.func57, Try.ntmps57
    go_wp2_with fail
    refine (spec_IsMatrix r c A n cap xs _ (C := w.heap.size) (Kr H2.out) Ks hn).mono ?_
    rw [HM.out]
    rintro e w1 ⟨rfl, hb1⟩
    have hV : HV3 w w1 r c A n cap := ⟨Ka, Ka, Ka, Ka, Kw⟩
    obtain ⟨r0a, r0b, r0c, r0f, r0l⟩ := hV.r1.mx
    obtain ⟨r1a, r1b, r1c, r1f, r1l⟩ := hV.r2.mx
    obtain ⟨r2a, r2b, r2c, r2f, r2l⟩ := hV.r3.mx
    obtain ⟨ma, mb, mc, mf, ml⟩ := hV.m.mx
    have hvr1 := hV.r1
    have hvr2 := hV.r2
    have hvr3 := hV.r3
    have hbw := hV.b
    go_wp2_with fail
    refine ret_M3 (r := 0) (c := 0) (A := none) (n := 0) (cap := 0) (r' := 0) (c' := 0) (A' := none) (n' := 0) (cap' := 0) (r'' := 0) (c'' := 0) (A'' := none) (n'' := 0) (cap'' := 0) Try.results57 rfl rfl rfl (Kb hvr1) (Kb hvr2) (Kb hvr3) rfl ?_
    exact M3R.none_ HX.out Kw
  · have M := isMat_iff.1 hm
    obtain ⟨R, rfl⟩ := nat_of M.r0
    obtain ⟨C, rfl⟩ := nat_of M.c0
    have hR : R ≤ 24 := by have := M.r1; omega
    have hC : C ≤ 24 := by have := M.c1; omega
    have hlx : xs.length = R * C := by have := M.len; rw [← Int.natCast_mul] at this; omega
    have hs0 := start_gd (R := R) (C := C) M.num
    have HG0 : Hid (SGD R C ⟨fun i j => cel xs C i j, idF, idF⟩) := Lib.hid ⟨⟨hs0.ok.f, hs0.ok.g, idF_ok C C⟩, ⟨hs0.nb.f, hs0.nb.g, idF_nb⟩⟩
    have HX := Lib.hid (sfX_yes hm)
    have HT := Lib.hid (tb_of hlx)
    have HM := Lib.hid hm
    clear M hm hlx hs0
    generalize sfX (R : Int) (C : Int) xs = X at *
    generalize hf : (fun (i j : Nat) => cel xs C i j) = f0 at HG0 HX HT
    clear hf
    have HH : Hid (∀ (Aa : Option Addr) (na capa : Nat) (A2 : Option Addr) (n2 cap2 : Nat) (A3 : Option Addr) (n3 cap3 : Nat) (w' : World) (B0 : Nat), OR w' B0 (.slice Aa na capa) (tb R C f0) → OR w' B0 (.slice A2 n2 cap2) (tb R R idF) → OR w' B0 (.slice A3 n3 cap3) (tb C C idF) → Apart (.slice Aa na capa) (.slice A2 n2 cap2) → Apart (.slice Aa na capa) (.slice A3 n3 cap3) → Apart (.slice A2 n2 cap2) (.slice A3 n3 cap3) → B0 ≤ w'.heap.size → Calls Try.prog 157 #[.agg #[.int .i64 R, .int .i64 C, .slice Aa na capa], .agg #[.int .i64 R, .int .i64 R, .slice A2 n2 cap2], .agg #[.int .i64 C, .int .i64 C, .slice A3 n3 cap3]] w' (SmR (.slice Aa na capa) (.slice A2 n2 cap2) (.slice A3 n3 cap3) B0 R C X w')) :=
      Lib.hid (fun Aa na capa A2 n2 cap2 A3 n3 cap3 w' B0 k1 k2 k3 a1 a2 a3 k4 => by rw [HX.out]; exact spec_l13Smith R C Aa na capa A2 n2 cap2 A3 n3 cap3 ⟨f0, idF, idF⟩ w' k1 k2 k3 a1 a2 a3 k4 HG0.out hC hR)
    clear HX HG0
    go_enter Try.func57, Try.ntmps57
    go_wp2_with fail
    refine (spec_IsMatrix R C A n cap xs _ (C := w.heap.size) (Kr H2.out) Ks hn).mono ?_
    rw [HM.out]
    rintro e w1 ⟨rfl, hb1⟩
    have hV : HV3 w w1 R C A n cap := ⟨Ka, Ka, Ka, Ka, Kw⟩
    have hri : RI w1 w.heap.size A n xs := Kr H2.out
    clear hb1
    obtain ⟨ma, mb, mc, mf, ml⟩ := hV.m.mx
    have hlow := hV.lt
    go_wp2_with fail
    refine (spec_l3Copy R C A n cap xs _ (B := w.heap.size) (Kr hri) Ks hn).mono ?_
    rintro e w2 ⟨Aa, na, capa, rfl, -, hoa, hb2⟩
    have hV2 : HV3 w w2 R C A n cap := by (with_reducible (repeat (first | exact hV | refine HV3.b_ ?_ | refine HV3.drew ?_ | refine HV3.drewN ?_ _ | refine HV3.alloc ?_ _)))
    clear ma mb mc mf ml
    rw [HT.out] at hoa
    have hs2 := hb2.size
    (try simp at hs2)
    obtain ⟨B0, hB0, hB2, hBw⟩ : ∃ B0, w.heap.size + 1 + 1 + 1 + 1 ≤ B0 ∧ B0 ≤ w2.heap.size ∧ OR w2 B0 (.slice Aa na capa) (tb R C f0) := ⟨_, hlow, hs2, hoa⟩
    have HOA := Lib.hid hBw.own
    clear hV hb2 hri hoa
    have hV := hV2
    clear hV2
    have hlow2 := hV.lt
    obtain ⟨ma, mb, mc, mf, ml⟩ := hV.m.mx
    go_wp2_with fail
    refine (spec_IdentityMatrix R _ hR).mono ?_
    rintro e w3 ⟨A2, n2, cap2, rfl, ho2, hb3⟩
    have hs3 := hb3.size
    simp at hs3
    have h5 : BM w3 w2.heap.size R C Aa na capa := Ka
    have hoa : OR w3 B0 (.slice Aa na capa) (tb R C f0) := Ko hBw
    have HOB : Hid (Own (.slice A2 n2 cap2) (w2.heap.size + 1) w3.heap.size) := Lib.hid ((OR.own (xs := tb R R idF) ho2).wide (by simp) (Nat.le_refl _))
    have ho2' : OR w3 B0 (.slice A2 n2 cap2) (tb R R idF) := OR.mono (xs := tb R R idF) ho2 (by simp; omega)
    have hV3 : HV3 w w3 R C A n cap := by (with_reducible (repeat (first | exact hV | refine HV3.b_ ?_ | refine HV3.drew ?_ | refine HV3.drewN ?_ _ | refine HV3.alloc ?_ _)))
    clear ma mb mc mf ml
    clear hV hBw ho2 hb3
    have hV := hV3
    clear hV3
    obtain ⟨ma, mb, mc, mf, ml⟩ := hV.m.mx
    go_wp2_with fail
    refine (spec_IdentityMatrix C _ hC).mono ?_
    rintro e w4 ⟨A3, n3, cap3, rfl, ho3, hb4⟩
    have hs4 := hb4.size
    simp at hs4
    have h6 : BM w4 w2.heap.size R C Aa na capa := Kb h5
    have h7 : BM w4 w3.heap.size R R A2 n2 cap2 := Ka
    have hoa4 : OR w4 B0 (.slice Aa na capa) (tb R C f0) := Ko hoa
    have ho24 : OR w4 B0 (.slice A2 n2 cap2) (tb R R idF) := Ko ho2'
    have HOC : Hid (Own (.slice A3 n3 cap3) (w3.heap.size + 1) w4.heap.size) := Lib.hid ((OR.own (xs := tb C C idF) ho3).wide (by simp) (Nat.le_refl _))
    have ho3' : OR w4 B0 (.slice A3 n3 cap3) (tb C C idF) := OR.mono (xs := tb C C idF) ho3 (by simp; omega)
    have hV4 : HV3 w w4 R C A n cap := by (with_reducible (repeat (first | exact hV | refine HV3.b_ ?_ | refine HV3.drew ?_ | refine HV3.drewN ?_ _ | refine HV3.alloc ?_ _)))
    clear ma mb mc mf ml
    clear hV h5 hoa ho2' ho3 hb4
    have hV := hV4
    clear hV4
    have HAP : Hid (Apart (.slice Aa na capa) (.slice A2 n2 cap2)) := Lib.hid (fun g e1 e2 => by have := HOA.out g e1; have := HOB.out g e2; omega)
    have HAP2 : Hid (Apart (.slice Aa na capa) (.slice A3 n3 cap3)) := Lib.hid (fun g e1 e2 => by have := HOA.out g e1; have := HOC.out g e2; omega)
    have HAP3 : Hid (Apart (.slice A2 n2 cap2) (.slice A3 n3 cap3)) := Lib.hid (fun g e1 e2 => by have := HOB.out g e1; have := HOC.out g e2; omega)
    obtain ⟨ma, mb, mc, mf, ml⟩ := hV.m.mx
    obtain ⟨la, lb, lc, lf, ll⟩ := h6.mx
    obtain ⟨na_, nb_, nc_, nf_, nl_⟩ := h7.mx
    go_wp2_with fail
    refine (HH.out Aa na capa A2 n2 cap2 A3 n3 cap3 (w4.alloc (.cells #[.int .i64 C, .int .i64 C, .slice A3 n3 cap3] 26)) B0 (Ko hoa4) (Ko ho24) (Ko ho3') HAP.out HAP2.out HAP3.out Ks).mono ?_
    rcases hs : X with _ | s
    · have HXN := Lib.hid hs
      have hv : X.isSome = false := by rw [hs]; rfl
      rw [← hs]
      clear hs HH
      rintro e w5 ⟨he, -, hb5, -⟩
      rw [hv] at he
      subst he
      have hV4 : HV3 w w5 R C A n cap := by (with_reducible (repeat (first | exact hV | refine HV3.b_ ?_ | refine HV3.drew ?_ | refine HV3.drewN ?_ _ | refine HV3.alloc ?_ _)))
      clear ma mb mc mf ml
      clear la lb lc lf ll na_ nb_ nc_ nf_ nl_
      clear hV h6 h7 hb5 hv hoa4 ho24 ho3'
      obtain ⟨r0a, r0b, r0c, r0f, r0l⟩ := hV4.r1.mx
      obtain ⟨r1a, r1b, r1c, r1f, r1l⟩ := hV4.r2.mx
      obtain ⟨r2a, r2b, r2c, r2f, r2l⟩ := hV4.r3.mx
      have hvr1 := hV4.r1
      have hvr2 := hV4.r2
      have hvr3 := hV4.r3
      have hbw := hV4.b
      go_wp2_with fail
      refine ret_M3 (r := 0) (c := 0) (A := none) (n := 0) (cap := 0) (r' := 0) (c' := 0) (A' := none) (n' := 0) (cap' := 0) (r'' := 0) (c'' := 0) (A'' := none) (n'' := 0) (cap'' := 0) Try.results57 rfl rfl rfl (Kb hvr1) (Kb hvr2) (Kb hvr3) rfl ?_
      exact M3R.none_ HXN.out Kw
    · have HXS := Lib.hid hs
      have hv : X.isSome = true := by rw [hs]; rfl
      rw [← hs]
      clear hs HH
      rintro e w5 ⟨he, ⟨f', g', h', k1, k2, k3, kk⟩, hb5, hk5⟩
      rw [hv] at he
      subst he
      obtain ⟨rfl, rfl, rfl⟩ := kk s HXS.out
      have hV4 : HV3 w w5 R C A n cap := by (with_reducible (repeat (first | exact hV | refine HV3.b_ ?_ | refine HV3.drew ?_ | refine HV3.drewN ?_ _ | refine HV3.alloc ?_ _)))
      have o1 : ∀ k, w2.heap.size ≤ k → some k ≠ (Value.slice Aa na capa).ownBlock := fun k hk e => by have := HOA.out k e.symm; omega
      have o2 : ∀ k, k ≤ w2.heap.size ∨ w3.heap.size ≤ k → some k ≠ (Value.slice A2 n2 cap2).ownBlock := fun k hk e => by have := HOB.out k e.symm; omega
      have o3 : ∀ k, k ≤ w3.heap.size ∨ w4.heap.size ≤ k → some k ≠ (Value.slice A3 n3 cap3).ownBlock := fun k hk e => by have := HOC.out k e.symm; omega
      have hm1 : BM w5 w2.heap.size R C Aa na capa := (hk5 _ (by simp; omega) (o1 _ (Nat.le_refl _)) (o2 _ (.inl (Nat.le_refl _))) (o3 _ (.inl (by omega)))).trans (show BM _ w2.heap.size R C Aa na capa from Kb h6)
      have hm2 : BM w5 w3.heap.size R R A2 n2 cap2 := (hk5 _ (by simp; omega) (o1 _ (by omega)) (o2 _ (.inr (Nat.le_refl _))) (o3 _ (.inl (Nat.le_refl _)))).trans (show BM _ w3.heap.size R R A2 n2 cap2 from Kb h7)
      have hm3 : BM w5 w4.heap.size C C A3 n3 cap3 := (hk5 _ (by simp) (o1 _ (by omega)) (o2 _ (.inr (by omega))) (o3 _ (.inr (Nat.le_refl _)))).trans (show BM _ w4.heap.size C C A3 n3 cap3 from Ka)
      clear ma mb mc mf ml
      clear la lb lc lf ll na_ nb_ nc_ nf_ nl_
      clear hV h6 h7 hb5 hv hoa4 ho24 ho3' hk5 o1 o2 o3 kk
      obtain ⟨r0a, r0b, r0c, r0f, r0l⟩ := hV4.r1.mx
      obtain ⟨r1a, r1b, r1c, r1f, r1l⟩ := hV4.r2.mx
      obtain ⟨r2a, r2b, r2c, r2f, r2l⟩ := hV4.r3.mx
      obtain ⟨ua, ub, uc, uf, ul⟩ := hm1.mx
      obtain ⟨va, vb, vc, vf, vl⟩ := hm2.mx
      obtain ⟨za, zb, zc, zf, zl⟩ := hm3.mx
      have hvr1 := B3.of hV4.r1
      have hvr2 := B3.of hV4.r2
      have hvr3 := B3.of hV4.r3
      have hbw := hV4.b
      have HAO := Lib.hid (HOA.out)
      have ne0 : ¬ w2.heap.size = w.heap.size + 1 := by omega
      have nf0 : ¬ w.heap.size + 1 = w2.heap.size := by omega
      have ne1 : ¬ w2.heap.size = w.heap.size + 1 + 1 := by omega
      have nf1 : ¬ w.heap.size + 1 + 1 = w2.heap.size := by omega
      have ne2 : ¬ w2.heap.size = w.heap.size + 1 + 1 + 1 := by omega
      have nf2 : ¬ w.heap.size + 1 + 1 + 1 = w2.heap.size := by omega
      have ne3 : ¬ w3.heap.size = w.heap.size + 1 := by omega
      have nf3 : ¬ w.heap.size + 1 = w3.heap.size := by omega
      have ne4 : ¬ w3.heap.size = w.heap.size + 1 + 1 := by omega
      have nf4 : ¬ w.heap.size + 1 + 1 = w3.heap.size := by omega
      have ne5 : ¬ w3.heap.size = w.heap.size + 1 + 1 + 1 := by omega
      have nf5 : ¬ w.heap.size + 1 + 1 + 1 = w3.heap.size := by omega
      have ne6 : ¬ w4.heap.size = w.heap.size + 1 := by omega
      have nf6 : ¬ w.heap.size + 1 = w4.heap.size := by omega
      have ne7 : ¬ w4.heap.size = w.heap.size + 1 + 1 := by omega
      have nf7 : ¬ w.heap.size + 1 + 1 = w4.heap.size := by omega
      have ne8 : ¬ w4.heap.size = w.heap.size + 1 + 1 + 1 := by omega
      have nf8 : ¬ w.heap.size + 1 + 1 + 1 = w4.heap.size := by omega
      go_wp2_with fail
      ((refine wp_region_held_drew (S := (fun w' => w'.cell? ⟨w2.heap.size, 0, none⟩ = some (.int .i64 R) ∧ w'.cell? ⟨w2.heap.size, 1, none⟩ = some (.int .i64 C) ∧ w'.cell? ⟨w2.heap.size, 2, none⟩ = some (.slice Aa na capa) ∧ w'.cell? ⟨w3.heap.size, 0, none⟩ = some (.int .i64 R) ∧ w'.cell? ⟨w3.heap.size, 1, none⟩ = some (.int .i64 R) ∧ w'.cell? ⟨w3.heap.size, 2, none⟩ = some (.slice A2 n2 cap2) ∧ w'.cell? ⟨w4.heap.size, 0, none⟩ = some (.int .i64 C) ∧ w'.cell? ⟨w4.heap.size, 1, none⟩ = some (.int .i64 C) ∧ w'.cell? ⟨w4.heap.size, 2, none⟩ = some (.slice A3 n3 cap3))) (by kernel_rfl) ?_ (fun hHeld => ?_)); ((focus ((try dsimp only); (go_keep)))); ((refine tk_ (i := 0) (v := ?_) (y := Or.inl ⟨by rfl, ?_⟩) (h := ?_); rotate_left; (focus (((intro w hSw; (try dsimp only at hSw); go_simp) <;> (try with_reducible rfl)); done)); (try simp only [Act.put, p1_, p2_, p3_]))); ((refine tk_ (i := 1) (v := ?_) (y := Or.inl ⟨by rfl, ?_⟩) (h := ?_); rotate_left; (focus (((intro w hSw; (try dsimp only at hSw); go_simp) <;> (try with_reducible rfl)); done)); (try simp only [Act.put, p1_, p2_, p3_]))); ((refine tk_ (i := 2) (v := ?_) (y := Or.inl ⟨by rfl, ?_⟩) (h := ?_); rotate_left; (focus (((intro w hSw; (try dsimp only at hSw); go_simp) <;> (try with_reducible rfl)); done)); (try simp only [Act.put, p1_, p2_, p3_]))); ((refine wpAnyH_ready (rs := [3]) (by kernel_rfl) (by simp) ?_; refine AllReadyH.cons (by simp only [e1_, e2_, e3_]; try rfl) (fun K hK => ?_) AllReadyH.nil; go_simp; (try go_wp2_with fail); refine hK.out _ _ ?_ (fun hHeld => ?_); (focus ((try dsimp only); (go_keep))); clear hK K; (try simp only [Act.put, p1_, p2_, p3_]))); ((refine wpAnyH_ready (rs := [4]) (by kernel_rfl) (by simp) ?_; refine AllReadyH.cons (by simp only [e1_, e2_, e3_]; try rfl) (fun K hK => ?_) AllReadyH.nil; go_simp; (try go_wp2_with fail); refine hK.out _ _ ?_ (fun hHeld => ?_); (focus ((try dsimp only); (go_keep))); clear hK K; (try simp only [Act.put, p1_, p2_, p3_]))); ((refine wpAnyH_ready (rs := [5]) (by kernel_rfl) (by simp) ?_; refine AllReadyH.cons (by simp only [e1_, e2_, e3_]; try rfl) (fun K hK => ?_) AllReadyH.nil; go_simp; (try go_wp2_with fail); refine hK.out _ _ ?_ (fun hHeld => ?_); (focus ((try dsimp only); (go_keep))); clear hK K; (try simp only [Act.put, p1_, p2_, p3_]))); ((refine tk_ (i := 6) (v := ?_) (y := Or.inl ⟨by rfl, ?_⟩) (h := ?_); rotate_left; (focus (((intro w hSw; (try dsimp only at hSw); go_simp) <;> (try with_reducible rfl)); done)); (try simp only [Act.put, p1_, p2_, p3_]))); (refine wpAnyH_done (by kernel_rfl) ?_ _))
      go_wp2_with fail
      refine ret_M3 (r := R) (c := C) (A := Aa) (n := na) (cap := capa) (r' := R) (c' := R) (A' := A2) (n' := n2) (cap' := cap2) (r'' := C) (c'' := C) (A'' := A3) (n'' := n3) (cap'' := cap3) Try.results57 rfl rfl rfl (Kb hvr1) (Kb hvr2) (Kb hvr3) rfl ?_
      exact M3R.some_ HXS.out (OR.mono (B := B0) (Ko k1) (by omega)) (OR.mono (B := B0) (Ko k2) (by omega)) (OR.mono (B := B0) (Ko k3) (by omega)) HAP.out HAP2.out HAP3.out Kw
end Go.Proofs.Ytacjonkehcamgaa

/-
  DERIVED. The law FnSmith: Smith forms come with unimodular matrices on both sides; their first numbers together are the greatest common divisors of minors, and no change of bases changes them.
-/
namespace Go.Proofs.Ytacjonkehcamgaa
open Go.RowKit
set_option linter.unusedVariables false
set_option linter.unusedSimpArgs false
theorem RI.firstS {w : World} {B n m : Nat} {A : Option Addr} {xs : List Int} (h : RI w B A n xs) (hm : m ≤ n) : RI w B A m (xs.take m) := by
  refine ⟨by rw [List.length_take, h.len]; omega, fun h0 => ?_⟩
  obtain ⟨b, o, e, hb, hc⟩ := h.2 (by omega)
  refine ⟨b, o, e, hb, fun k hk => ?_⟩
  rw [hc k (by omega)]
  simp [List.getD, hk]
theorem sfX_nat {r c : Int} {xs : List Int} {s : SS} (h : sfX r c xs = some s) : ∃ R C : Nat, r = R ∧ c = C ∧ R ≤ 24 ∧ C ≤ 24 ∧ xs.length = R * C ∧ isMat R C xs = true := by
  rcases hm : isMat r c xs with _ | _
  · rw [sfX_no hm] at h; cases h
  · have M := isMat_iff.1 hm
    have h1 := M.r1; have h2 := M.c1; have h5 := M.len
    obtain ⟨R, rfl⟩ := nat_of M.r0
    obtain ⟨C, rfl⟩ := nat_of M.c0
    rw [← Int.natCast_mul] at h5
    exact ⟨R, C, rfl, rfl, by omega, by omega, by omega, hm⟩
theorem same_self (R C : Int) (xs : List Int) : sameB R C xs R C xs = true := by simp [sameB, eqB]
theorem eqB_self (xs : List Int) : eqB xs xs = true := by simp [eqB]
theorem sm_xy {R C : Nat} {xs : List Int} {s : SS} (h : sfX R C xs = some s) {MX MY : Mx} {fx fy : Bool} (hx : mulM R R (tb R R s.g) R C xs = MX) (hfx : mulB R R (tb R R s.g) R C xs = fx) (hy : mulM MX.r MX.c MX.xs C C (tb C C s.h) = MY) (hfy : mulB MX.r MX.c MX.xs C C (tb C C s.h) = fy) : fx = false ∨ fy = false ∨ MY = ⟨R, C, tb R C s.f⟩ := by
  rcases fx with _ | _
  · exact .inl rfl
  · right
    rcases fy with _ | _
    · exact .inl rfl
    · right
      rw [mulM_yes hfx] at hx
      simp only [Int.toNat_natCast] at hx
      subst hx
      dsimp only at hy hfy
      rw [mulM_yes hfy] at hy
      simp only [Int.toNat_natCast] at hy
      rw [← hy, sm_prod h]
theorem trM_lenS (r c : Int) (xs : List Int) : (trM r c xs).xs.length ≤ 1048576 := by
  unfold trM
  split
  · rename_i hm
    have M := isMat_iff.1 hm
    have h1 := M.r1; have h2 := M.c1
    obtain ⟨R, rfl⟩ := nat_of M.r0
    obtain ⟨C, rfl⟩ := nat_of M.c0
    dsimp only
    rw [tb_len]
    simp only [Int.toNat_natCast]
    have := Nat.mul_le_mul (show C ≤ 24 by omega) (show R ≤ 24 by omega)
    omega
  · exact Nat.zero_le _
/-- The factors of the mixed matrix turned over, where there are. -/
theorem sm_mixed {R C : Nat} {ys : List Int} {s : SS} {fu : Fn2} (hX : sfX R C ys = some s) (hs : SPN R R idF fu) {m : Mx} (hm : mulM R R (tb R R fu) R C ys = m) {f : Bool} (hf : mulB R R (tb R R fu) R C ys = f) : f = false ∨ (sfX (trM m.r m.c m.xs).r (trM m.r m.c m.xs).c (trM m.r m.c m.xs).xs).isSome = false ∨ facV (trM m.r m.c m.xs).r (trM m.r m.c m.xs).c (trM m.r m.c m.xs).xs = facV R C ys := by
  rcases f with _ | _
  · exact .inl rfl
  · right
    rw [mulM_yes hf] at hm
    simp only [Int.toNat_natCast] at hm
    subst hm
    have hL : isMat R C (mulL (tb R R fu) R R ys C) = true := by
      unfold mulB at hf
      rw [Bool.and_eq_true] at hf
      have := hf.2
      simpa only [Int.toNat_natCast] using this
    have ht : trM R C (mulL (tb R R fu) R R ys C) = ⟨C, R, tb C R (fun a b => cel (mulL (tb R R fu) R R ys C) C b a)⟩ := by unfold trM; rw [if_pos hL]; simp only [Int.toNat_natCast]
    dsimp only
    rw [ht]
    dsimp only
    rcases h2 : sfX C R (tb C R (fun a b => cel (mulL (tb R R fu) R R ys C) C b a)) with _ | s2
    · exact .inl rfl
    · exact .inr (sm_fact hs hX h2)
theorem RB.moreS {w : World} {B B' n : Nat} {A : Option Addr} {xs : List Int} (h : RB w B A n xs) (hB : B ≤ B') : RB w B' A n xs :=
  ⟨h.1, fun hn => by
    obtain ⟨b, o, e, hb, hc⟩ := h.2.1 hn
    exact ⟨b, o, e, by omega, hc⟩, h.2.2⟩
theorem mulM_lenS (r c : Int) (xs : List Int) (r2 c2 : Int) (ys : List Int) : (mulM r c xs r2 c2 ys).xs.length ≤ 1048576 := by
  unfold mulM
  split
  · rename_i h
    unfold mulB at h
    rw [Bool.and_eq_true] at h
    have M := isMat_iff.1 h.2
    have h1 := M.r1; have h2 := M.c1; have h3 := M.r0; have h4 := M.c0
    obtain ⟨R, rfl⟩ := nat_of h3
    obtain ⟨C, rfl⟩ := nat_of h4
    show (mulL xs (R : Int).toNat c.toNat ys (C : Int).toNat).length ≤ _
    rw [mulL_len]
    simp only [Int.toNat_natCast]
    have := Nat.mul_le_mul (show R ≤ 24 by omega) (show C ≤ 24 by omega)
    omega
  · exact Nat.zero_le _
set_option maxRecDepth 100000 in
set_option maxHeartbeats 8000000 in
theorem law_FnSmith (w : World) (A : Option Addr) (n cap : Nat) (xs : List Int) (hnc : n ≤ cap) (hcm : cap ≤ maxLen) (hby : RB w w.heap.size A n xs) :
    Calls Try.prog 8 #[.slice A n cap] w fun e w' => e = .returned (.bool true) ∧ Below w.heap.size w w' := by
  have HBY := Lib.hid hby
  by_cases hn : 1048576 < n
  · go_enter Try.func8, Try.ntmps8
    go_wp2_with (go_at_call 15; refine (laws_big A n cap _).mono ?_; rintro e w1 ⟨rfl, rfl⟩)
    go_ret
    exact ⟨rfl, Below.refl _ _⟩
  · go_enter Try.func8, Try.ntmps8
    go_wp2_with (go_at_call 15; refine (laws_big A n cap _).mono ?_; rintro e w1 ⟨rfl, rfl⟩)
    refine (spec_DrawSmithForm n cap A xs _ hby (by omega)).mono ?_
    rintro e w1 ⟨r, c, A1, n1, c1, ys, rfl, ho1, hl1, hr1, hbw0⟩
    have hsz := hbw0.size
    have e1 := ho1.lenEq
    have H1 : Hid (RI (w1.alloc (.cells #[.int .i64 r, .int .i64 c, .slice A1 n1 c1] 26)) (w1.alloc (.cells #[.int .i64 r, .int .i64 c, .slice A1 n1 c1] 26)).heap.size A1 n1 ys) := Lib.hid ((ho1.alloc _).reads)
    have hM : BM (w1.alloc (.cells #[.int .i64 r, .int .i64 c, .slice A1 n1 c1] 26)) w1.heap.size r c A1 n1 c1 := Ka
    have n1x : n1 ≤ 17 := by omega
    have HB0 : Hid (Below w.heap.size w (w1.alloc (.cells #[.int .i64 r, .int .i64 c, .slice A1 n1 c1] 26))) := Lib.hid (hbw0.alloc hsz _)
    clear hbw0 ho1 hby e1
    obtain ⟨ma, mb, mc, mf, ml⟩ := hM.mx
    go_wp2_with fail
    generalize (w1.alloc (.cells #[.int .i64 r, .int .i64 c, .slice A1 n1 c1] 26)) = w0 at *
    generalize w1.heap.size = bM at *
    have hbw : Below w0.heap.size w0 w0 := Below.refl _ _
    have hs0 : w.heap.size ≤ w0.heap.size := by have := HB0.out.size; omega
    have hlM := hM.lt
    clear hsz
    rcases hX : sfX r c ys with _ | s
    · have HX := Lib.hid hX
      clear hX
      refine (impl_SmithForm r c A1 n1 c1 ys _ (B := w0.heap.size) (Kr H1.out) Ks (by omega)).mono ?_
      rw [HX.out, show sfDO r c none = ⟨0, 0, []⟩ from rfl, show sfUO r none = ⟨0, 0, []⟩ from rfl, show sfVO c none = ⟨0, 0, []⟩ from rfl]
      rintro e w2 ⟨A2, n2, c2, A3, n3, c3, A4, n4, c4, rfl, ho2, ho3, ho4, -, -, -, hb2⟩
      have h20 : n2 = 0 := by have := OR.lenEq (xs := []) ho2; simpa using this
      have h30 : n3 = 0 := by have := OR.lenEq (xs := []) ho3; simpa using this
      have h40 : n4 = 0 := by have := OR.lenEq (xs := []) ho4; simpa using this
      subst h20 h30 h40
      clear ho2 ho3 ho4
      have hszw2 := hb2.size; (try simp at hszw2); have hM_1 : BM w2 bM (r) (c) A1 n1 c1 := (Kb hM); have H1_1 : Hid (RI w2 w0.heap.size A1 n1 ys) := Lib.hid (Kr H1.out); have hbw_1 : Below w0.heap.size w0 w2 := Kw; clear hM hbw H1 ma mb mc mf ml hb2; have hM := hM_1; have H1 := H1_1; have hbw := hbw_1; clear hM_1 H1_1 hbw_1; obtain ⟨ma, mb, mc, mf, ml⟩ := hM.mx
      have hA : BM (((w2.alloc (.cells #[.int .i64 0, .int .i64 0, .slice A2 0 c2] 26)).alloc (.cells #[.int .i64 0, .int .i64 0, .slice A3 0 c3] 26)).alloc (.cells #[.int .i64 0, .int .i64 0, .slice A4 0 c4] 26)) w2.heap.size 0 0 A2 0 c2 := Ka
      have hB : BM (((w2.alloc (.cells #[.int .i64 0, .int .i64 0, .slice A2 0 c2] 26)).alloc (.cells #[.int .i64 0, .int .i64 0, .slice A3 0 c3] 26)).alloc (.cells #[.int .i64 0, .int .i64 0, .slice A4 0 c4] 26)) (w2.heap.size + 1) 0 0 A3 0 c3 := Ka
      have hV : BM (((w2.alloc (.cells #[.int .i64 0, .int .i64 0, .slice A2 0 c2] 26)).alloc (.cells #[.int .i64 0, .int .i64 0, .slice A3 0 c3] 26)).alloc (.cells #[.int .i64 0, .int .i64 0, .slice A4 0 c4] 26)) (w2.heap.size + 1 + 1) 0 0 A4 0 c4 := Ka
      obtain ⟨aa, ab, ac, af, al⟩ := hA.mx
      obtain ⟨ba, bb, bc, bf, bl⟩ := hB.mx
      obtain ⟨va, vb, vc, vf, vl⟩ := hV.mx
      clear ma mb mc mf ml
      obtain ⟨ma, mb, mc, mf, ml⟩ := (((hM.alloc _).alloc _).alloc _ : BM (((w2.alloc (.cells #[.int .i64 0, .int .i64 0, .slice A2 0 c2] 26)).alloc (.cells #[.int .i64 0, .int .i64 0, .slice A3 0 c3] 26)).alloc (.cells #[.int .i64 0, .int .i64 0, .slice A4 0 c4] 26)) bM _ _ A1 n1 c1).mx
      go_wp2_with fail
      refine (spec_SmithForm r c A1 n1 c1 ys _ (B := w0.heap.size) (Kr H1.out) Ks (by omega)).mono ?_
      rw [HX.out, show sfDO r c none = ⟨0, 0, []⟩ from rfl, show sfUO r none = ⟨0, 0, []⟩ from rfl, show sfVO c none = ⟨0, 0, []⟩ from rfl]
      rintro e w4 ⟨Ao5, no5, co5, Ao6, no6, co6, Ao7, no7, co7, rfl, -, -, -, -, -, -, hb4⟩
      have hA_1 : BM w4 w2.heap.size 0 0 A2 0 c2 := Kb hA
      have hB_1 : BM w4 (w2.heap.size + 1) 0 0 A3 0 c3 := Kb hB
      have hV_1 : BM w4 (w2.heap.size + 1 + 1) 0 0 A4 0 c4 := Kb hV
      clear hA aa ab ac af al hB ba bb bc bf bl hV va vb vc vf vl
      obtain ⟨aa, ab, ac, af, al⟩ := hA_1.mx
      obtain ⟨ba, bb, bc, bf, bl⟩ := hB_1.mx
      obtain ⟨va, vb, vc, vf, vl⟩ := hV_1.mx
      have hszw4 := hb4.size; (try simp at hszw4); have hM_1 : BM w4 bM (r) (c) A1 n1 c1 := (Kb hM); have H1_1 : Hid (RI w4 w0.heap.size A1 n1 ys) := Lib.hid (Kr H1.out); have hbw_1 : Below w0.heap.size w0 w4 := Kw; clear hM hbw H1 ma mb mc mf ml hb4; have hM := hM_1; have H1 := H1_1; have hbw := hbw_1; clear hM_1 H1_1 hbw_1; obtain ⟨ma, mb, mc, mf, ml⟩ := hM.mx
      clear aa ab ac af al
      obtain ⟨aa, ab, ac, af, al⟩ := (((hA_1.alloc (.cells #[.int .i64 0, .int .i64 0, .slice Ao5 no5 co5] 26)).alloc (.cells #[.int .i64 0, .int .i64 0, .slice Ao6 no6 co6] 26)).alloc (.cells #[.int .i64 0, .int .i64 0, .slice Ao7 no7 co7] 26)).mx
      clear ba bb bc bf bl
      obtain ⟨ba, bb, bc, bf, bl⟩ := (((hB_1.alloc (.cells #[.int .i64 0, .int .i64 0, .slice Ao5 no5 co5] 26)).alloc (.cells #[.int .i64 0, .int .i64 0, .slice Ao6 no6 co6] 26)).alloc (.cells #[.int .i64 0, .int .i64 0, .slice Ao7 no7 co7] 26)).mx
      clear va vb vc vf vl
      obtain ⟨va, vb, vc, vf, vl⟩ := (((hV_1.alloc (.cells #[.int .i64 0, .int .i64 0, .slice Ao5 no5 co5] 26)).alloc (.cells #[.int .i64 0, .int .i64 0, .slice Ao6 no6 co6] 26)).alloc (.cells #[.int .i64 0, .int .i64 0, .slice Ao7 no7 co7] 26)).mx
      clear ma mb mc mf ml
      obtain ⟨ma, mb, mc, mf, ml⟩ := (((hM.alloc (.cells #[.int .i64 0, .int .i64 0, .slice Ao5 no5 co5] 26)).alloc (.cells #[.int .i64 0, .int .i64 0, .slice Ao6 no6 co6] 26)).alloc (.cells #[.int .i64 0, .int .i64 0, .slice Ao7 no7 co7] 26)).mx
      go_wp2_with fail
      go_ret
      exact ⟨rfl, HB0.out.trans (Below.mono (B := w0.heap.size) Kw hs0)⟩
    · obtain ⟨R, C, rfl, rfl, hR24, hC24, hln, hmat⟩ := sfX_nat hX
      have HX := Lib.hid hX
      have HIS := Lib.hid (sm_isSmith hX)
      have HDU := Lib.hid (sm_detU hX)
      have HDV := Lib.hid (sm_detV hX)
      have HXY := Lib.hid (fun MX MY fx fy h1 h2 h3 h4 => sm_xy hX (MX := MX) (MY := MY) (fx := fx) (fy := fy) h1 h2 h3 h4)
      have HMIN0 := fun k g hk hg => sm_minor (k := k) (g := g) hX hk hg
      have HMIX0 := fun fu m f hs hm hf => sm_mixed (fu := fu) (m := m) (f := f) hX hs hm hf
      have hnum : ∀ i, Num ((facV R C ys).getD i 0) := fun i => by
        obtain ⟨K, e, -⟩ := fac_tab hX
        rw [e]
        by_cases hi : i < K
        · rw [tab_getD hi]; exact dgF_num (sfX_gd hX).2.2.2.ok.f
        · have : (tab K (dgF R C s.f)).getD i 0 = 0 := by simp [List.getD, List.getElem?_eq_none (show (tab K (dgF R C s.f)).length ≤ i by rw [tab_len]; omega)]
          rw [this]; exact ⟨by decide, by decide⟩
      have hfl := facV_len R C ys
      obtain ⟨fs, hfs⟩ : ∃ q, facV R C ys = q := ⟨_, rfl⟩
      rw [hfs] at HMIN0 HMIX0 hnum hfl
      have HMIN := Lib.hid HMIN0
      have HMIX := Lib.hid HMIX0
      have HFS := Lib.hid hfs
      have HNUM : Hid (∀ k i, Num ((fs.take k).getD i 0)) := Lib.hid (fun k i => by
        by_cases hi : i < k
        · have : (fs.take k).getD i 0 = fs.getD i 0 := by simp [List.getD, hi]
          rw [this]; exact hnum i
        · have : (fs.take k).getD i 0 = 0 := by simp [List.getD, List.getElem?_eq_none (show (fs.take k).length ≤ i by rw [List.length_take]; omega)]
          rw [this]; exact ⟨by decide, by decide⟩)
      have HTR : Hid (isMat R C ys = true) := Lib.hid hmat
      have hRC : R * C ≤ 24 * 24 := Nat.mul_le_mul hR24 hC24
      have hRR : R * R ≤ 24 * 24 := Nat.mul_le_mul hR24 hR24
      have hCC : C * C ≤ 24 * 24 := Nat.mul_le_mul hC24 hC24
      have HMX : Hid (sfDO R C (some s) = ⟨R, C, tb R C s.f⟩) := Lib.hid (by simp [sfDO])
      have HUX : Hid (sfUO R (some s) = ⟨R, R, tb R R s.g⟩) := Lib.hid (by simp [sfUO])
      have HVX : Hid (sfVO C (some s) = ⟨C, C, tb C C s.h⟩) := Lib.hid (by simp [sfVO])
      clear hX HMIN0 HMIX0 hnum hfs hmat
      refine (impl_SmithForm R C A1 n1 c1 ys _ (B := w0.heap.size) (Kr H1.out) Ks (by omega)).mono ?_
      rw [HX.out, HMX.out, HUX.out, HVX.out]
      rintro e w2 ⟨A2, n2, c2, A3, n3, c3, A4, n4, c4, rfl, ho2, ho3, ho4, -, -, -, hb2⟩
      have hn2 := OR.lenEq (xs := tb R C s.f) ho2
      have hn3 := OR.lenEq (xs := tb R R s.g) ho3
      have hn4 := OR.lenEq (xs := tb C C s.h) ho4
      rw [tb_len] at hn2 hn3 hn4
      have hn2x : n2 ≤ 1048576 := by omega
      have hn3x : n3 ≤ 1048576 := by omega
      have hn4x : n4 ≤ 1048576 := by omega
      have H2 : Hid (RI w2 w2.heap.size A2 n2 (tb R C s.f)) := Lib.hid (OR.reads (xs := tb R C s.f) ho2)
      have H3 : Hid (RI w2 w2.heap.size A3 n3 (tb R R s.g)) := Lib.hid (OR.reads (xs := tb R R s.g) ho3)
      have H4 : Hid (RI w2 w2.heap.size A4 n4 (tb C C s.h)) := Lib.hid (OR.reads (xs := tb C C s.h) ho4)
      clear ho2 ho3 ho4 hn2 hn3 hn4
      have hszw2 := hb2.size; (try simp at hszw2); have hM_1 : BM w2 bM ((R : Int)) ((C : Int)) A1 n1 c1 := (Kb hM); have H1_1 : Hid (RI w2 w0.heap.size A1 n1 ys) := Lib.hid (Kr H1.out); have hbw_1 : Below w0.heap.size w0 w2 := Kw; clear hM hbw H1 ma mb mc mf ml hb2; have hM := hM_1; have H1 := H1_1; have hbw := hbw_1; clear hM_1 H1_1 hbw_1; obtain ⟨ma, mb, mc, mf, ml⟩ := hM.mx
      have hA : BM (((w2.alloc (.cells #[.int .i64 R, .int .i64 C, .slice A2 n2 c2] 26)).alloc (.cells #[.int .i64 R, .int .i64 R, .slice A3 n3 c3] 26)).alloc (.cells #[.int .i64 C, .int .i64 C, .slice A4 n4 c4] 26)) w2.heap.size R C A2 n2 c2 := Ka
      have hB : BM (((w2.alloc (.cells #[.int .i64 R, .int .i64 C, .slice A2 n2 c2] 26)).alloc (.cells #[.int .i64 R, .int .i64 R, .slice A3 n3 c3] 26)).alloc (.cells #[.int .i64 C, .int .i64 C, .slice A4 n4 c4] 26)) (w2.heap.size + 1) R R A3 n3 c3 := Ka
      have hV : BM (((w2.alloc (.cells #[.int .i64 R, .int .i64 C, .slice A2 n2 c2] 26)).alloc (.cells #[.int .i64 R, .int .i64 R, .slice A3 n3 c3] 26)).alloc (.cells #[.int .i64 C, .int .i64 C, .slice A4 n4 c4] 26)) (w2.heap.size + 1 + 1) C C A4 n4 c4 := Ka
      obtain ⟨aa, ab, ac, af, al⟩ := hA.mx
      obtain ⟨ba, bb, bc, bf, bl⟩ := hB.mx
      obtain ⟨va, vb, vc, vf, vl⟩ := hV.mx
      clear ma mb mc mf ml
      obtain ⟨ma, mb, mc, mf, ml⟩ := (((hM.alloc _).alloc _).alloc _ : BM (((w2.alloc (.cells #[.int .i64 R, .int .i64 C, .slice A2 n2 c2] 26)).alloc (.cells #[.int .i64 R, .int .i64 R, .slice A3 n3 c3] 26)).alloc (.cells #[.int .i64 C, .int .i64 C, .slice A4 n4 c4] 26)) bM _ _ A1 n1 c1).mx
      go_wp2_with fail
      refine (spec_SmithForm R C A1 n1 c1 ys _ (B := w0.heap.size) (Kr H1.out) Ks (by omega)).mono ?_
      rw [HX.out, HMX.out, HUX.out, HVX.out]
      rintro e w4 ⟨Ao5, no5, co5, Ao6, no6, co6, Ao7, no7, co7, rfl, -, -, -, -, -, -, hb4⟩
      have hA_1 : BM w4 w2.heap.size R C A2 n2 c2 := (Kb hA); have hB_1 : BM w4 (w2.heap.size + 1) R R A3 n3 c3 := (Kb hB); have hV_1 : BM w4 (w2.heap.size + 1 + 1) C C A4 n4 c4 := (Kb hV); have H2_1 : Hid (RI w4 w2.heap.size A2 n2 (tb R C s.f)) := Lib.hid (Kr H2.out); have H3_1 : Hid (RI w4 w2.heap.size A3 n3 (tb R R s.g)) := Lib.hid (Kr H3.out); have H4_1 : Hid (RI w4 w2.heap.size A4 n4 (tb C C s.h)) := Lib.hid (Kr H4.out); clear hA hB hV H2 H3 H4 aa ab ac af al ba bb bc bf bl va vb vc vf vl; have hA := hA_1; have hB := hB_1; have hV := hV_1; have H2 := H2_1; have H3 := H3_1; have H4 := H4_1; clear hA_1 hB_1 hV_1 H2_1 H3_1 H4_1; obtain ⟨aa, ab, ac, af, al⟩ := hA.mx; obtain ⟨ba, bb, bc, bf, bl⟩ := hB.mx; obtain ⟨va, vb, vc, vf, vl⟩ := hV.mx; have hszw4 := hb4.size; (try simp at hszw4); have hM_1 : BM w4 bM ((R : Int)) ((C : Int)) A1 n1 c1 := (Kb hM); have H1_1 : Hid (RI w4 w0.heap.size A1 n1 ys) := Lib.hid (Kr H1.out); have hbw_1 : Below w0.heap.size w0 w4 := Kw; clear hM hbw H1 ma mb mc mf ml hb4; have hM := hM_1; have H1 := H1_1; have hbw := hbw_1; clear hM_1 H1_1 hbw_1; obtain ⟨ma, mb, mc, mf, ml⟩ := hM.mx
      clear aa ab ac af al
      obtain ⟨aa, ab, ac, af, al⟩ := (((hA.alloc (.cells #[.int .i64 R, .int .i64 C, .slice Ao5 no5 co5] 26)).alloc (.cells #[.int .i64 R, .int .i64 R, .slice Ao6 no6 co6] 26)).alloc (.cells #[.int .i64 C, .int .i64 C, .slice Ao7 no7 co7] 26)).mx
      clear ba bb bc bf bl
      obtain ⟨ba, bb, bc, bf, bl⟩ := (((hB.alloc (.cells #[.int .i64 R, .int .i64 C, .slice Ao5 no5 co5] 26)).alloc (.cells #[.int .i64 R, .int .i64 R, .slice Ao6 no6 co6] 26)).alloc (.cells #[.int .i64 C, .int .i64 C, .slice Ao7 no7 co7] 26)).mx
      clear va vb vc vf vl
      obtain ⟨va, vb, vc, vf, vl⟩ := (((hV.alloc (.cells #[.int .i64 R, .int .i64 C, .slice Ao5 no5 co5] 26)).alloc (.cells #[.int .i64 R, .int .i64 R, .slice Ao6 no6 co6] 26)).alloc (.cells #[.int .i64 C, .int .i64 C, .slice Ao7 no7 co7] 26)).mx
      clear ma mb mc mf ml
      obtain ⟨ma, mb, mc, mf, ml⟩ := (((hM.alloc (.cells #[.int .i64 R, .int .i64 C, .slice Ao5 no5 co5] 26)).alloc (.cells #[.int .i64 R, .int .i64 R, .slice Ao6 no6 co6] 26)).alloc (.cells #[.int .i64 C, .int .i64 C, .slice Ao7 no7 co7] 26)).mx
      go_wp2_with fail
      refine (impl_MultiplyMatrices R R R C A3 A1 n3 c3 n1 c1 (tb R R s.g) ys _ (B := w2.heap.size) (B' := w0.heap.size) (Kr H3.out) (Kr H1.out) Ks Ks hn3x (by omega)).mono ?_
      obtain ⟨MX, hmx⟩ : ∃ q, mulM R R (tb R R s.g) R C ys = q := ⟨_, rfl⟩
      obtain ⟨fx, hfx⟩ : ∃ q, mulB R R (tb R R s.g) R C ys = q := ⟨_, rfl⟩
      have hml := mulM_lenS R R (tb R R s.g) R C ys
      rw [hmx] at hml
      have HXY1 := Lib.hid (fun MY fy h3 h4 => HXY.out MX MY fx fy hmx hfx h3 h4)
      rw [hmx, hfx]
      clear hmx hfx HXY
      rintro e w5 ⟨A5, n5, c5, rfl, ho5, hb5⟩
      have hn5 := OR.lenEq (xs := MX.xs) ho5
      have hn5x : n5 ≤ 1048576 := by omega
      have H5 : Hid (RI w5 w5.heap.size A5 n5 MX.xs) := Lib.hid (OR.reads (xs := MX.xs) ho5)
      clear ho5 hn5 hml
      have hA_1 : BM w5 w2.heap.size R C A2 n2 c2 := (Kb hA); have hB_1 : BM w5 (w2.heap.size + 1) R R A3 n3 c3 := (Kb hB); have hV_1 : BM w5 (w2.heap.size + 1 + 1) C C A4 n4 c4 := (Kb hV); have H2_1 : Hid (RI w5 w2.heap.size A2 n2 (tb R C s.f)) := Lib.hid (Kr H2.out); have H3_1 : Hid (RI w5 w2.heap.size A3 n3 (tb R R s.g)) := Lib.hid (Kr H3.out); have H4_1 : Hid (RI w5 w2.heap.size A4 n4 (tb C C s.h)) := Lib.hid (Kr H4.out); clear hA hB hV H2 H3 H4 aa ab ac af al ba bb bc bf bl va vb vc vf vl; have hA := hA_1; have hB := hB_1; have hV := hV_1; have H2 := H2_1; have H3 := H3_1; have H4 := H4_1; clear hA_1 hB_1 hV_1 H2_1 H3_1 H4_1; obtain ⟨aa, ab, ac, af, al⟩ := hA.mx; obtain ⟨ba, bb, bc, bf, bl⟩ := hB.mx; obtain ⟨va, vb, vc, vf, vl⟩ := hV.mx; have hszw5 := hb5.size; (try simp at hszw5); have hM_1 : BM w5 bM ((R : Int)) ((C : Int)) A1 n1 c1 := (Kb hM); have H1_1 : Hid (RI w5 w0.heap.size A1 n1 ys) := Lib.hid (Kr H1.out); have hbw_1 : Below w0.heap.size w0 w5 := Kw; clear hM hbw H1 ma mb mc mf ml hb5; have hM := hM_1; have H1 := H1_1; have hbw := hbw_1; clear hM_1 H1_1 hbw_1; obtain ⟨ma, mb, mc, mf, ml⟩ := hM.mx
      have hE : BM (w5.alloc (.cells #[.int .i64 MX.r, .int .i64 MX.c, .slice A5 n5 c5] 26)) w5.heap.size MX.r MX.c A5 n5 c5 := Ka
      obtain ⟨ea, eb, ec, ef, el⟩ := hE.mx
      go_wp2_with fail
      refine (impl_MultiplyMatrices MX.r MX.c C C A5 A4 n5 c5 n4 c4 MX.xs (tb C C s.h) _ (B := w5.heap.size) (B' := w2.heap.size) (Kr H5.out) (Kr H4.out) Ks Ks hn5x hn4x).mono ?_
      obtain ⟨MY, hmy⟩ : ∃ q, mulM MX.r MX.c MX.xs C C (tb C C s.h) = q := ⟨_, rfl⟩
      obtain ⟨fy, hfy⟩ : ∃ q, mulB MX.r MX.c MX.xs C C (tb C C s.h) = q := ⟨_, rfl⟩
      have hml := mulM_lenS MX.r MX.c MX.xs C C (tb C C s.h)
      rw [hmy] at hml
      have HXY2 := Lib.hid (HXY1.out MY fy hmy hfy)
      rw [hmy, hfy]
      clear hmy hfy HXY1
      rintro e w6 ⟨A6, n6, c6, rfl, ho6, hb6⟩
      have hn6 := OR.lenEq (xs := MY.xs) ho6
      have hn6x : n6 ≤ 1048576 := by omega
      have H6 : Hid (RI w6 w6.heap.size A6 n6 MY.xs) := Lib.hid (OR.reads (xs := MY.xs) ho6)
      clear ho6 hn6 hml hE H5 ea eb ec ef el
      have hA_1 : BM w6 w2.heap.size R C A2 n2 c2 := (Kb hA); have hB_1 : BM w6 (w2.heap.size + 1) R R A3 n3 c3 := (Kb hB); have hV_1 : BM w6 (w2.heap.size + 1 + 1) C C A4 n4 c4 := (Kb hV); have H2_1 : Hid (RI w6 w2.heap.size A2 n2 (tb R C s.f)) := Lib.hid (Kr H2.out); have H3_1 : Hid (RI w6 w2.heap.size A3 n3 (tb R R s.g)) := Lib.hid (Kr H3.out); have H4_1 : Hid (RI w6 w2.heap.size A4 n4 (tb C C s.h)) := Lib.hid (Kr H4.out); clear hA hB hV H2 H3 H4 aa ab ac af al ba bb bc bf bl va vb vc vf vl; have hA := hA_1; have hB := hB_1; have hV := hV_1; have H2 := H2_1; have H3 := H3_1; have H4 := H4_1; clear hA_1 hB_1 hV_1 H2_1 H3_1 H4_1; obtain ⟨aa, ab, ac, af, al⟩ := hA.mx; obtain ⟨ba, bb, bc, bf, bl⟩ := hB.mx; obtain ⟨va, vb, vc, vf, vl⟩ := hV.mx; have hszw6 := hb6.size; (try simp at hszw6); have hM_1 : BM w6 bM ((R : Int)) ((C : Int)) A1 n1 c1 := (Kb hM); have H1_1 : Hid (RI w6 w0.heap.size A1 n1 ys) := Lib.hid (Kr H1.out); have hbw_1 : Below w0.heap.size w0 w6 := Kw; clear hM hbw H1 ma mb mc mf ml hb6; have hM := hM_1; have H1 := H1_1; have hbw := hbw_1; clear hM_1 H1_1 hbw_1; obtain ⟨ma, mb, mc, mf, ml⟩ := hM.mx
      have hY : BM (w6.alloc (.cells #[.int .i64 MY.r, .int .i64 MY.c, .slice A6 n6 c6] 26)) w6.heap.size MY.r MY.c A6 n6 c6 := Ka
      obtain ⟨ya, yb, yc, yf, yl⟩ := hY.mx
      rcases fx with _ | _ <;> rcases fy with _ | _
      rotate_right 1
      have hx := (HXY2.out.resolve_left (by decide)).resolve_left (by decide)
      subst hx
      have hY_1 : BM (w6.alloc (.cells #[.int .i64 R, .int .i64 C, .slice A6 n6 c6] 26)) w6.heap.size R C A6 n6 c6 := hY
      have H6_1 : Hid (RI w6 w6.heap.size A6 n6 (tb R C s.f)) := H6
      clear hY H6 ya yb yc yf yl
      obtain ⟨ya, yb, yc, yf, yl⟩ := hY_1.mx
      go_wp2_with fail
      refine (impl_SameMatrix R C R C A6 A2 n6 c6 n2 c2 (tb R C s.f) (tb R C s.f) _ (B := w6.heap.size) (B' := w2.heap.size) (Kr H6_1.out) (Kr H2.out) Ks Ks hn6x hn2x).mono ?_
      rw [same_self]
      rintro e w10 ⟨rfl, hb10⟩
      have hA_1 : BM w10 w2.heap.size R C A2 n2 c2 := (Kb hA); have hB_1 : BM w10 (w2.heap.size + 1) R R A3 n3 c3 := (Kb hB); have hV_1 : BM w10 (w2.heap.size + 1 + 1) C C A4 n4 c4 := (Kb hV); have H2_1 : Hid (RI w10 w2.heap.size A2 n2 (tb R C s.f)) := Lib.hid (Kr H2.out); have H3_1 : Hid (RI w10 w2.heap.size A3 n3 (tb R R s.g)) := Lib.hid (Kr H3.out); have H4_1 : Hid (RI w10 w2.heap.size A4 n4 (tb C C s.h)) := Lib.hid (Kr H4.out); clear hA hB hV H2 H3 H4 aa ab ac af al ba bb bc bf bl va vb vc vf vl; have hA := hA_1; have hB := hB_1; have hV := hV_1; have H2 := H2_1; have H3 := H3_1; have H4 := H4_1; clear hA_1 hB_1 hV_1 H2_1 H3_1 H4_1; obtain ⟨aa, ab, ac, af, al⟩ := hA.mx; obtain ⟨ba, bb, bc, bf, bl⟩ := hB.mx; obtain ⟨va, vb, vc, vf, vl⟩ := hV.mx; have hszw10 := hb10.size; (try simp at hszw10); have hM_1 : BM w10 bM ((R : Int)) ((C : Int)) A1 n1 c1 := (Kb hM); have H1_1 : Hid (RI w10 w0.heap.size A1 n1 ys) := Lib.hid (Kr H1.out); have hbw_1 : Below w0.heap.size w0 w10 := Kw; clear hM hbw H1 ma mb mc mf ml hb10; have hM := hM_1; have H1 := H1_1; have hbw := hbw_1; clear hM_1 H1_1 hbw_1; obtain ⟨ma, mb, mc, mf, ml⟩ := hM.mx
      all_goals
        go_wp2_with fail
        refine (laws_unimodular R R A3 n3 c3 (tb R R s.g) _ (B := w2.heap.size) (Kr H3.out) Ks hn3x HDU.out).mono ?_
        rintro e w11 ⟨rfl, hb11⟩
        have hA_1 : BM w11 w2.heap.size R C A2 n2 c2 := (Kb hA); have hB_1 : BM w11 (w2.heap.size + 1) R R A3 n3 c3 := (Kb hB); have hV_1 : BM w11 (w2.heap.size + 1 + 1) C C A4 n4 c4 := (Kb hV); have H2_1 : Hid (RI w11 w2.heap.size A2 n2 (tb R C s.f)) := Lib.hid (Kr H2.out); have H3_1 : Hid (RI w11 w2.heap.size A3 n3 (tb R R s.g)) := Lib.hid (Kr H3.out); have H4_1 : Hid (RI w11 w2.heap.size A4 n4 (tb C C s.h)) := Lib.hid (Kr H4.out); clear hA hB hV H2 H3 H4 aa ab ac af al ba bb bc bf bl va vb vc vf vl; have hA := hA_1; have hB := hB_1; have hV := hV_1; have H2 := H2_1; have H3 := H3_1; have H4 := H4_1; clear hA_1 hB_1 hV_1 H2_1 H3_1 H4_1; obtain ⟨aa, ab, ac, af, al⟩ := hA.mx; obtain ⟨ba, bb, bc, bf, bl⟩ := hB.mx; obtain ⟨va, vb, vc, vf, vl⟩ := hV.mx; have hszw11 := hb11.size; (try simp at hszw11); have hM_1 : BM w11 bM ((R : Int)) ((C : Int)) A1 n1 c1 := (Kb hM); have H1_1 : Hid (RI w11 w0.heap.size A1 n1 ys) := Lib.hid (Kr H1.out); have hbw_1 : Below w0.heap.size w0 w11 := Kw; clear hM hbw H1 ma mb mc mf ml hb11; have hM := hM_1; have H1 := H1_1; have hbw := hbw_1; clear hM_1 H1_1 hbw_1; obtain ⟨ma, mb, mc, mf, ml⟩ := hM.mx
        go_wp2_with fail
        refine (laws_unimodular C C A4 n4 c4 (tb C C s.h) _ (B := w2.heap.size) (Kr H4.out) Ks hn4x HDV.out).mono ?_
        rintro e w12 ⟨rfl, hb12⟩
        have hA_1 : BM w12 w2.heap.size R C A2 n2 c2 := (Kb hA); have hB_1 : BM w12 (w2.heap.size + 1) R R A3 n3 c3 := (Kb hB); have hV_1 : BM w12 (w2.heap.size + 1 + 1) C C A4 n4 c4 := (Kb hV); have H2_1 : Hid (RI w12 w2.heap.size A2 n2 (tb R C s.f)) := Lib.hid (Kr H2.out); have H3_1 : Hid (RI w12 w2.heap.size A3 n3 (tb R R s.g)) := Lib.hid (Kr H3.out); have H4_1 : Hid (RI w12 w2.heap.size A4 n4 (tb C C s.h)) := Lib.hid (Kr H4.out); clear hA hB hV H2 H3 H4 aa ab ac af al ba bb bc bf bl va vb vc vf vl; have hA := hA_1; have hB := hB_1; have hV := hV_1; have H2 := H2_1; have H3 := H3_1; have H4 := H4_1; clear hA_1 hB_1 hV_1 H2_1 H3_1 H4_1; obtain ⟨aa, ab, ac, af, al⟩ := hA.mx; obtain ⟨ba, bb, bc, bf, bl⟩ := hB.mx; obtain ⟨va, vb, vc, vf, vl⟩ := hV.mx; have hszw12 := hb12.size; (try simp at hszw12); have hM_1 : BM w12 bM ((R : Int)) ((C : Int)) A1 n1 c1 := (Kb hM); have H1_1 : Hid (RI w12 w0.heap.size A1 n1 ys) := Lib.hid (Kr H1.out); have hbw_1 : Below w0.heap.size w0 w12 := Kw; clear hM hbw H1 ma mb mc mf ml hb12; have hM := hM_1; have H1 := H1_1; have hbw := hbw_1; clear hM_1 H1_1 hbw_1; obtain ⟨ma, mb, mc, mf, ml⟩ := hM.mx
        go_wp2_with fail
        refine (impl_IsSmith R C A2 n2 c2 (tb R C s.f) _ (B := w2.heap.size) (Kr H2.out) Ks hn2x).mono ?_
        rw [HIS.out]
        rintro e w13 ⟨rfl, hb13⟩
        have hA_1 : BM w13 w2.heap.size R C A2 n2 c2 := (Kb hA); have hB_1 : BM w13 (w2.heap.size + 1) R R A3 n3 c3 := (Kb hB); have hV_1 : BM w13 (w2.heap.size + 1 + 1) C C A4 n4 c4 := (Kb hV); have H2_1 : Hid (RI w13 w2.heap.size A2 n2 (tb R C s.f)) := Lib.hid (Kr H2.out); have H3_1 : Hid (RI w13 w2.heap.size A3 n3 (tb R R s.g)) := Lib.hid (Kr H3.out); have H4_1 : Hid (RI w13 w2.heap.size A4 n4 (tb C C s.h)) := Lib.hid (Kr H4.out); clear hA hB hV H2 H3 H4 aa ab ac af al ba bb bc bf bl va vb vc vf vl; have hA := hA_1; have hB := hB_1; have hV := hV_1; have H2 := H2_1; have H3 := H3_1; have H4 := H4_1; clear hA_1 hB_1 hV_1 H2_1 H3_1 H4_1; obtain ⟨aa, ab, ac, af, al⟩ := hA.mx; obtain ⟨ba, bb, bc, bf, bl⟩ := hB.mx; obtain ⟨va, vb, vc, vf, vl⟩ := hV.mx; have hszw13 := hb13.size; (try simp at hszw13); have hM_1 : BM w13 bM ((R : Int)) ((C : Int)) A1 n1 c1 := (Kb hM); have H1_1 : Hid (RI w13 w0.heap.size A1 n1 ys) := Lib.hid (Kr H1.out); have hbw_1 : Below w0.heap.size w0 w13 := Kw; clear hM hbw H1 ma mb mc mf ml hb13; have hM := hM_1; have H1 := H1_1; have hbw := hbw_1; clear hM_1 H1_1 hbw_1; obtain ⟨ma, mb, mc, mf, ml⟩ := hM.mx
        go_wp2_with fail
        refine (spec_IsSmith R C A2 n2 c2 (tb R C s.f) _ (B := w2.heap.size) (Kr H2.out) Ks hn2x).mono ?_
        rw [HIS.out]
        rintro e w14 ⟨rfl, hb14⟩
        have hA_1 : BM w14 w2.heap.size R C A2 n2 c2 := (Kb hA); have hB_1 : BM w14 (w2.heap.size + 1) R R A3 n3 c3 := (Kb hB); have hV_1 : BM w14 (w2.heap.size + 1 + 1) C C A4 n4 c4 := (Kb hV); have H2_1 : Hid (RI w14 w2.heap.size A2 n2 (tb R C s.f)) := Lib.hid (Kr H2.out); have H3_1 : Hid (RI w14 w2.heap.size A3 n3 (tb R R s.g)) := Lib.hid (Kr H3.out); have H4_1 : Hid (RI w14 w2.heap.size A4 n4 (tb C C s.h)) := Lib.hid (Kr H4.out); clear hA hB hV H2 H3 H4 aa ab ac af al ba bb bc bf bl va vb vc vf vl; have hA := hA_1; have hB := hB_1; have hV := hV_1; have H2 := H2_1; have H3 := H3_1; have H4 := H4_1; clear hA_1 hB_1 hV_1 H2_1 H3_1 H4_1; obtain ⟨aa, ab, ac, af, al⟩ := hA.mx; obtain ⟨ba, bb, bc, bf, bl⟩ := hB.mx; obtain ⟨va, vb, vc, vf, vl⟩ := hV.mx; have hszw14 := hb14.size; (try simp at hszw14); have hM_1 : BM w14 bM ((R : Int)) ((C : Int)) A1 n1 c1 := (Kb hM); have H1_1 : Hid (RI w14 w0.heap.size A1 n1 ys) := Lib.hid (Kr H1.out); have hbw_1 : Below w0.heap.size w0 w14 := Kw; clear hM hbw H1 ma mb mc mf ml hb14; have hM := hM_1; have H1 := H1_1; have hbw := hbw_1; clear hM_1 H1_1 hbw_1; obtain ⟨ma, mb, mc, mf, ml⟩ := hM.mx
        go_wp2_with fail
        refine (impl_FactorsOf R C A1 n1 c1 ys _ (B := w0.heap.size) (Kr H1.out) Ks (by omega)).mono ?_
        rw [HX.out, HFS.out]
        rintro e w15 ⟨AF, nf, cf, rfl, hoF, hb15⟩
        have hnf := OR.lenEq (xs := fs) hoF
        obtain ⟨hcf1, hcf2⟩ := OR.caps (xs := fs) hoF
        have HNF : Hid (nf = fs.length) := Lib.hid hnf
        have hnfx : nf ≤ 1048576 := by omega
        have HF : Hid (RI w15 w15.heap.size AF nf fs) := Lib.hid (OR.reads (xs := fs) hoF)
        clear hoF hnf
        have hA_1 : BM w15 w2.heap.size R C A2 n2 c2 := (Kb hA); have hB_1 : BM w15 (w2.heap.size + 1) R R A3 n3 c3 := (Kb hB); have hV_1 : BM w15 (w2.heap.size + 1 + 1) C C A4 n4 c4 := (Kb hV); have H2_1 : Hid (RI w15 w2.heap.size A2 n2 (tb R C s.f)) := Lib.hid (Kr H2.out); have H3_1 : Hid (RI w15 w2.heap.size A3 n3 (tb R R s.g)) := Lib.hid (Kr H3.out); have H4_1 : Hid (RI w15 w2.heap.size A4 n4 (tb C C s.h)) := Lib.hid (Kr H4.out); clear hA hB hV H2 H3 H4 aa ab ac af al ba bb bc bf bl va vb vc vf vl; have hA := hA_1; have hB := hB_1; have hV := hV_1; have H2 := H2_1; have H3 := H3_1; have H4 := H4_1; clear hA_1 hB_1 hV_1 H2_1 H3_1 H4_1; obtain ⟨aa, ab, ac, af, al⟩ := hA.mx; obtain ⟨ba, bb, bc, bf, bl⟩ := hB.mx; obtain ⟨va, vb, vc, vf, vl⟩ := hV.mx; have hszw15 := hb15.size; (try simp at hszw15); have hM_1 : BM w15 bM ((R : Int)) ((C : Int)) A1 n1 c1 := (Kb hM); have H1_1 : Hid (RI w15 w0.heap.size A1 n1 ys) := Lib.hid (Kr H1.out); have hbw_1 : Below w0.heap.size w0 w15 := Kw; clear hM hbw H1 ma mb mc mf ml hb15; have hM := hM_1; have H1 := H1_1; have hbw := hbw_1; clear hM_1 H1_1 hbw_1; obtain ⟨ma, mb, mc, mf, ml⟩ := hM.mx
        obtain ⟨BF, hBF⟩ : ∃ q, q = w15.heap.size := ⟨_, rfl⟩
        rw [← hBF] at HF
        have hBF2 : BF ≤ w15.heap.size := by omega
        clear hBF hA hB hV H2 H3 H4 aa ab ac af al ba bb bc bf bl va vb vc vf vl
        go_wp2_with fail
        go_loopw [18] (fun v wr => ∃ k : Nat, v = .int .i64 k ∧ k ≤ nf + 1 ∧ BM wr bM R C A1 n1 c1 ∧ RI wr w0.heap.size A1 n1 ys ∧ RI wr BF AF nf fs ∧ BF ≤ wr.heap.size ∧ Below w0.heap.size w0 wr) (fun v _ => nf + 1 - (intOf v).toNat)
        case atStart => exact ⟨0, rfl, Nat.zero_le _, Kb hM, Kr H1.out, Kr HF.out, Ks, Kw⟩
        case round =>
          clear hM hbw H1 HF ma mb mc mf ml hBF2
          obtain ⟨k, rfl, hk, hM, hry, hrf, hBF2, hbw⟩ := hrel
          have H1 := Lib.hid hry
          have HF := Lib.hid hrf
          clear hry hrf
          have hszr := hbw.size
          obtain ⟨ma, mb, mc, mf, ml⟩ := hM.mx
          by_cases hle : k ≤ nf
          · go_wp2_with fail
            refine (impl_MinorGcd R C k A1 n1 c1 ys _ (B := w0.heap.size) (Kr H1.out) Ks (by omega)).mono ?_
            rcases hg : mgO R C ys k with _ | g
            · rintro e w16 ⟨rfl, hb16⟩
              have HF_1 : Hid (RI w16 BF AF nf fs) := Lib.hid (Kr HF.out); clear HF; have HF := HF_1; clear HF_1; have hszw16 := hb16.size; (try simp at hszw16); have hM_1 : BM w16 bM ((R : Int)) ((C : Int)) A1 n1 c1 := (Kb hM); have H1_1 : Hid (RI w16 w0.heap.size A1 n1 ys) := Lib.hid (Kr H1.out); have hbw_1 : Below w0.heap.size w0 w16 := Kw; clear hM hbw H1 ma mb mc mf ml hb16; have hM := hM_1; have H1 := H1_1; have hbw := hbw_1; clear hM_1 H1_1 hbw_1; obtain ⟨ma, mb, mc, mf, ml⟩ := hM.mx
              go_wp2_with fail
              go_roundw
              case rel => exact ⟨k + 1, by go_num, by omega, Kb hM, Kr H1.out, Kr HF.out, Ks, Kw⟩
              case measure => simp only [intOf]; omega
            · have HPS := Lib.hid (HMIN.out k g (by have := HNF.out; omega) hg)
              clear hg
              rintro e w16 ⟨rfl, hb16⟩
              have HF_1 : Hid (RI w16 BF AF nf fs) := Lib.hid (Kr HF.out); clear HF; have HF := HF_1; clear HF_1; have hszw16 := hb16.size; (try simp at hszw16); have hM_1 : BM w16 bM ((R : Int)) ((C : Int)) A1 n1 c1 := (Kb hM); have H1_1 : Hid (RI w16 w0.heap.size A1 n1 ys) := Lib.hid (Kr H1.out); have hbw_1 : Below w0.heap.size w0 w16 := Kw; clear hM hbw H1 ma mb mc mf ml hb16; have hM := hM_1; have H1 := H1_1; have hbw := hbw_1; clear hM_1 H1_1 hbw_1; obtain ⟨ma, mb, mc, mf, ml⟩ := hM.mx
              have hkc : k ≤ cf := by omega
              go_wp2_with fail
              refine (laws_product AF k cf (fs.take k) _ (B := BF) (RI.firstS (Kr HF.out) hle) Ks (by omega) (HNUM.out k)).mono ?_
              rw [HPS.out]
              rintro e w17 ⟨rfl, hb17⟩
              have tg : (g != g) = false := by simp
              have HF_1 : Hid (RI w17 BF AF nf fs) := Lib.hid (Kr HF.out); clear HF; have HF := HF_1; clear HF_1; have hszw17 := hb17.size; (try simp at hszw17); have hM_1 : BM w17 bM ((R : Int)) ((C : Int)) A1 n1 c1 := (Kb hM); have H1_1 : Hid (RI w17 w0.heap.size A1 n1 ys) := Lib.hid (Kr H1.out); have hbw_1 : Below w0.heap.size w0 w17 := Kw; clear hM hbw H1 ma mb mc mf ml hb17; have hM := hM_1; have H1 := H1_1; have hbw := hbw_1; clear hM_1 H1_1 hbw_1; obtain ⟨ma, mb, mc, mf, ml⟩ := hM.mx
              go_wp2_with fail
              go_roundw
              case rel => exact ⟨k + 1, by go_num, by omega, Kb hM, Kr H1.out, Kr HF.out, Ks, Kw⟩
              case measure => simp only [intOf]; omega
          · skip
            have hkn : k = nf + 1 := by omega
            have tk : decide ((k : Int) ≤ (nf : Int)) = false := decide_eq_false (by omega)
            clear hkn
            have HR : Hid (RB wr w.heap.size A n xs) := Lib.hid (RB.below HBY.out (HB0.out.trans (Below.mono (B := w0.heap.size) hbw hs0)) (Nat.le_refl _))
            go_upto_region 21 with fail
            go_cut [21, 22] from 134 to 142 (fun vp vb wc => ∃ (bU : Nat) (fits : Bool) (mx_ : Mx) (A8 : Option Addr) (n8 c8 B8 : Nat), vp = .pointer (some ⟨bU, 0, none⟩) ∧ vb = .bool fits ∧ n8 ≤ 1048576 ∧ (fits = false ∨ (sfX (trM mx_.r mx_.c mx_.xs).r (trM mx_.r mx_.c mx_.xs).c (trM mx_.r mx_.c mx_.xs).xs).isSome = false ∨ facV (trM mx_.r mx_.c mx_.xs).r (trM mx_.r mx_.c mx_.xs).c (trM mx_.r mx_.c mx_.xs).xs = fs) ∧ BM wc bM R C A1 n1 c1 ∧ RI wc w0.heap.size A1 n1 ys ∧ RI wc BF AF nf fs ∧ BM wc bU mx_.r mx_.c A8 n8 c8 ∧ RI wc B8 A8 n8 mx_.xs ∧ B8 ≤ wc.heap.size ∧ Below w0.heap.size w0 wc ∧ BF ≤ wc.heap.size)
            case first =>
              have hlM5 : bM < wr.heap.size := by have := hM.lt; omega
              have ne1 : ¬ bM = wr.heap.size := by omega
              have ne2 : ¬ wr.heap.size = bM := by omega
              ((refine wp_region_held_drew (S := (fun w' => w'.cell? ⟨bM, 0, none⟩ = some (.int .i64 R) ∧ w'.cell? ⟨bM, 1, none⟩ = some (.int .i64 C) ∧ w'.cell? ⟨bM, 2, none⟩ = some (.slice A1 n1 c1))) (by kernel_rfl) ?_ (fun hHeld => ?_)); ((focus ((try dsimp only); ((first | (go_keep; done) | exact ⟨ma, mb, mc⟩))))); ((refine tk_ (i := 0) (v := ?_) (y := Or.inl ⟨by rfl, ?_⟩) (h := ?_); rotate_left; (focus (((intro w hSw; (try dsimp only at hSw); go_simp) <;> (try with_reducible rfl)); done)); (try simp only [Act.put, p1_, p2_, p3_]))); ((refine tk_ (i := 1) (v := ?_) (y := Or.inl ⟨by rfl, ?_⟩) (h := ?_); rotate_left; (focus (((intro w hSw; (try dsimp only at hSw); go_simp) <;> (try with_reducible rfl)); done)); (try simp only [Act.put, p1_, p2_, p3_]))); ((refine tk_ (i := 2) (v := ?_) (y := Or.inl ⟨by rfl, ?_⟩) (h := ?_); rotate_left; (focus (((intro w hSw; (try dsimp only at hSw); go_simp) <;> (try with_reducible rfl)); done)); (try simp only [Act.put, p1_, p2_, p3_]))); ((refine tk_ (i := 4) (v := ?_) (y := Or.inl ⟨by rfl, ?_⟩) (h := ?_); rotate_left; (focus (((intro w hSw; (try dsimp only at hSw); go_simp) <;> (try with_reducible rfl)); done)); (try simp only [Act.put, p1_, p2_, p3_]))); (refine wpAnyH_ready (rs := [3, 9]) (by kernel_rfl) (by simp) ?_); (refine AllReadyH.cons (by simp only [e1_, e2_, e3_]; try rfl) ?_ ?_); ((focus ((intro K hK); (go_simp); ((go_at_call 52; refine (laws_mix R A n cap xs _ (by refine RB.moreS (B := w.heap.size) ?_ Ks; (with_reducible (repeat (first | exact HR.out | refine RB.drew ?_ | refine RB.drewN ?_ _ | refine RB.alloc ?_ Ks _ | refine RB.setCell ?_ Ks _ | refine RB.below ?_ (by assumption) Ks)))) (by omega) hR24).mono ?_; rintro e w7 ⟨fx, A7, n7, c7, rfl, ho7, hMF, hb7⟩; have hn7 := OR.lenEq (xs := tb R R fx) ho7; rw [tb_len] at hn7; have hRR : R * R ≤ 24 * 24 := Nat.mul_le_mul hR24 hR24; have hn7x : n7 ≤ 1048576 := (by omega); have H7 : Hid (RI w7 w7.heap.size A7 n7 (tb R R fx)) := Lib.hid (OR.reads (xs := tb R R fx) ho7); have HMF := Lib.hid hMF; clear ho7 hn7 hMF hRR; have HF_1 : Hid (RI w7 BF AF nf fs) := Lib.hid (Kr HF.out); clear HF; have HF := HF_1; clear HF_1; have hszw7 := hb7.size; (try simp at hszw7); have hM_1 : BM w7 bM ((R : Int)) ((C : Int)) A1 n1 c1 := (Kb hM); have H1_1 : Hid (RI w7 w0.heap.size A1 n1 ys) := Lib.hid (Kr H1.out); have hbw_1 : Below w0.heap.size w0 w7 := Kw; clear hM hbw H1 ma mb mc mf ml hb7; have hM := hM_1; have H1 := H1_1; have hbw := hbw_1; clear hM_1 H1_1 hbw_1; obtain ⟨ma, mb, mc, mf, ml⟩ := hM.mx)); ((try go_wp2_with fail)); (refine hK.out _ _ ?_ (fun hHeld => ?_)); ((focus ((try dsimp only); ((first | (go_keep; done) | exact ⟨ma, mb, mc⟩))))); (clear hK K); ((try simp only [Act.put, p1_, p2_, p3_])); (refine wpAnyH_ready (rs := [5, 9]) (by kernel_rfl) (by simp) ?_); (refine AllReadyH.cons (by simp only [e1_, e2_, e3_]; try rfl) ?_ ?_); ((focus ((intro K hK); (go_simp); ((go_at_call 40; obtain ⟨mx_, hmx⟩ : ∃ q, mulM R R (tb R R fx) R C ys = q := ⟨_, rfl⟩; obtain ⟨fits, hfits⟩ : ∃ q, mulB R R (tb R R fx) R C ys = q := ⟨_, rfl⟩; have HCS := Lib.hid (HMIX.out _ _ _ HMF.out.spn hmx hfits); have hml := mulM_lenS R R (tb R R fx) R C ys; refine (impl_MultiplyMatrices R R R C A7 A1 n7 c7 n1 c1 (tb R R fx) ys _ (B := w7.heap.size) (B' := w0.heap.size) (Kr H7.out) (Kr H1.out) Ks Ks hn7x (by omega)).mono ?_; rw [hmx, hfits]; rw [hmx] at hml; clear hmx hfits; rintro e w8 ⟨A8, n8, c8, rfl, ho8, hb8⟩; have hx8 := hb8.size; (try simp at hx8); have hn8 := OR.lenEq (xs := mx_.xs) ho8; have hn8x : n8 ≤ 1048576 := (by omega); have kO := OR.own (xs := mx_.xs) ho8; (try simp at kO); have ho8_ : OR w8 0 (.slice A8 n8 c8) mx_.xs := OR.mono (xs := mx_.xs) ho8 (Nat.zero_le _); clear ho8 hn8 hml; have nx1 : ¬ bM = w8.heap.size := (by omega); have nx2 : ¬ w8.heap.size = bM := (by omega); have k9 : ¬ Value.ownBlock (.slice A8 n8 c8) = some w8.heap.size := (fun e => by have := kO _ e; omega); clear kO hx8; have HF_1 : Hid (RI w8 BF AF nf fs) := Lib.hid (Kr HF.out); clear HF; have HF := HF_1; clear HF_1; have hszw8 := hb8.size; (try simp at hszw8); have hM_1 : BM w8 bM ((R : Int)) ((C : Int)) A1 n1 c1 := (Kb hM); have H1_1 : Hid (RI w8 w0.heap.size A1 n1 ys) := Lib.hid (Kr H1.out); have hbw_1 : Below w0.heap.size w0 w8 := Kw; clear hM hbw H1 ma mb mc mf ml hb8; have hM := hM_1; have H1 := H1_1; have hbw := hbw_1; clear hM_1 H1_1 hbw_1; obtain ⟨ma, mb, mc, mf, ml⟩ := hM.mx)); ((try go_wp2_with fail)); (refine hK.out _ _ ?_ (fun hHeld => ?_)); ((focus ((try dsimp only); ((first | (go_keep; done) | exact ⟨ma, mb, mc⟩))))); (clear hK K); ((try simp only [Act.put, p1_, p2_, p3_])); ((refine tk_ (i := 6) (v := ?_) (y := Or.inl ⟨by rfl, ?_⟩) (h := ?_); rotate_left; (focus (((intro w hSw; (try dsimp only at hSw); go_simp) <;> (try with_reducible rfl)); done)); (try simp only [Act.put, p1_, p2_, p3_]))); ((refine tk_ (i := 7) (v := ?_) (y := Or.inl ⟨by rfl, ?_⟩) (h := ?_); rotate_left; (focus (((intro w hSw; (try dsimp only at hSw); go_simp) <;> (try with_reducible rfl)); done)); (try simp only [Act.put, p1_, p2_, p3_]))); ((refine tk_ (i := 8) (v := ?_) (y := Or.inl ⟨by rfl, ?_⟩) (h := ?_); rotate_left; (focus (((intro w hSw; (try dsimp only at hSw); go_simp) <;> (try with_reducible rfl)); done)); (try simp only [Act.put, p1_, p2_, p3_]))); (refine wpAnyH_ready (rs := [9]) (by kernel_rfl) (by simp) ?_); (refine AllReadyH.cons (by simp only [e1_, e2_, e3_]; try rfl) ?_ ?_); ((focus ((intro K hK); (go_simp); ((try go_wp2_with fail)); (refine hK.out _ _ ?_ (fun hHeld => ?_)); ((focus ((try dsimp only); ((first | (go_keep; done) | exact ⟨ma, mb, mc⟩))))); (clear hK K); ((try simp only [Act.put, p1_, p2_, p3_])); (refine wpAnyH_ready (rs := [10]) (by kernel_rfl) (by simp) ?_); (refine AllReadyH.cons (by simp only [e1_, e2_, e3_]; try rfl) ?_ ?_); ((focus ((intro K hK); (go_simp); ((try go_wp2_with fail)); (refine hK.out _ _ ?_ (fun hHeld => ?_)); ((focus ((try dsimp only); ((first | (go_keep; done) | exact ⟨ma, mb, mc⟩))))); (clear hK K); ((try simp only [Act.put, p1_, p2_, p3_])); ((refine tk_ (i := 11) (v := ?_) (y := Or.inl ⟨by rfl, ?_⟩) (h := ?_); rotate_left; (focus (((intro w hSw; (try dsimp only at hSw); go_simp) <;> (try with_reducible rfl)); done)); (try simp only [Act.put, p1_, p2_, p3_]))); (refine wpAnyH_done (by kernel_rfl) ?_ _)))); (rotate_left 1); (exact AllReadyH.nil)))); (rotate_left 1); (exact AllReadyH.nil)))); (rotate_left 1); (refine AllReadyH.cons (by simp only [e1_, e2_, e3_]; try rfl) ?_ ?_); ((focus ((intro K hK); (go_simp); ((try go_wp2_with fail)); (refine hK.out _ _ ?_ (fun hHeld => ?_)); ((focus ((try dsimp only); ((first | (go_keep; done) | exact ⟨ma, mb, mc⟩))))); (clear hK K); ((try simp only [Act.put, p1_, p2_, p3_])); (refine wpAnyH_ready (rs := [5]) (by kernel_rfl) (by simp) ?_); (refine AllReadyH.cons (by simp only [e1_, e2_, e3_]; try rfl) ?_ ?_); ((focus ((intro K hK); (go_simp); ((go_at_call 40; obtain ⟨mx_, hmx⟩ : ∃ q, mulM R R (tb R R fx) R C ys = q := ⟨_, rfl⟩; obtain ⟨fits, hfits⟩ : ∃ q, mulB R R (tb R R fx) R C ys = q := ⟨_, rfl⟩; have HCS := Lib.hid (HMIX.out _ _ _ HMF.out.spn hmx hfits); have hml := mulM_lenS R R (tb R R fx) R C ys; refine (impl_MultiplyMatrices R R R C A7 A1 n7 c7 n1 c1 (tb R R fx) ys _ (B := w7.heap.size) (B' := w0.heap.size) (Kr H7.out) (Kr H1.out) Ks Ks hn7x (by omega)).mono ?_; rw [hmx, hfits]; rw [hmx] at hml; clear hmx hfits; rintro e w8 ⟨A8, n8, c8, rfl, ho8, hb8⟩; have hx8 := hb8.size; (try simp at hx8); have hn8 := OR.lenEq (xs := mx_.xs) ho8; have hn8x : n8 ≤ 1048576 := (by omega); have kO := OR.own (xs := mx_.xs) ho8; (try simp at kO); have ho8_ : OR w8 0 (.slice A8 n8 c8) mx_.xs := OR.mono (xs := mx_.xs) ho8 (Nat.zero_le _); clear ho8 hn8 hml; have h8 : B3 26 w8 w7.heap.size := (by refine B3.below ?_ hb8 Ks; (with_reducible (repeat (first | refine B3.n_ | exact B3.new _ _ _ _ _ _ rfl | refine B3.drew ?_ | refine B3.drewN ?_ _ | refine B3.alloc ?_ _)))); have nx1 : ¬ bM = w7.heap.size := (by omega); have nx2 : ¬ w7.heap.size = bM := (by omega); have k9 : ¬ Value.ownBlock (.slice A8 n8 c8) = some w7.heap.size := (fun e => by have := kO _ e; omega); clear kO hx8; obtain ⟨x0, x1, x2, hx⟩ := id h8; have z0 := hx.cell 0; have z1 := hx.cell 1; have z2 := hx.cell 2; have zf := hx.frozen; have zl := hx.lt; simp at z0 z1 z2; have HF_1 : Hid (RI w8 BF AF nf fs) := Lib.hid (Kr HF.out); clear HF; have HF := HF_1; clear HF_1; have hszw8 := hb8.size; (try simp at hszw8); have hM_1 : BM w8 bM ((R : Int)) ((C : Int)) A1 n1 c1 := (Kb hM); have H1_1 : Hid (RI w8 w0.heap.size A1 n1 ys) := Lib.hid (Kr H1.out); have hbw_1 : Below w0.heap.size w0 w8 := Kw; clear hM hbw H1 ma mb mc mf ml hb8; have hM := hM_1; have H1 := H1_1; have hbw := hbw_1; clear hM_1 H1_1 hbw_1; obtain ⟨ma, mb, mc, mf, ml⟩ := hM.mx)); ((try go_wp2_with fail)); (refine hK.out _ _ ?_ (fun hHeld => ?_)); ((focus ((try dsimp only); ((first | (go_keep; done) | exact ⟨ma, mb, mc⟩))))); (clear hK K); ((try simp only [Act.put, p1_, p2_, p3_])); ((refine tk_ (i := 6) (v := ?_) (y := Or.inl ⟨by rfl, ?_⟩) (h := ?_); rotate_left; (focus (((intro w hSw; (try dsimp only at hSw); go_simp) <;> (try with_reducible rfl)); done)); (try simp only [Act.put, p1_, p2_, p3_]))); ((refine tk_ (i := 7) (v := ?_) (y := Or.inl ⟨by rfl, ?_⟩) (h := ?_); rotate_left; (focus (((intro w hSw; (try dsimp only at hSw); go_simp) <;> (try with_reducible rfl)); done)); (try simp only [Act.put, p1_, p2_, p3_]))); ((refine tk_ (i := 8) (v := ?_) (y := Or.inl ⟨by rfl, ?_⟩) (h := ?_); rotate_left; (focus (((intro w hSw; (try dsimp only at hSw); go_simp) <;> (try with_reducible rfl)); done)); (try simp only [Act.put, p1_, p2_, p3_]))); (refine wpAnyH_ready (rs := [10]) (by kernel_rfl) (by simp) ?_); (refine AllReadyH.cons (by simp only [e1_, e2_, e3_]; try rfl) ?_ ?_); ((focus ((intro K hK); (go_simp); ((try go_wp2_with fail)); (refine hK.out _ _ ?_ (fun hHeld => ?_)); ((focus ((try dsimp only); ((first | (go_keep; done) | exact ⟨ma, mb, mc⟩))))); (clear hK K); ((try simp only [Act.put, p1_, p2_, p3_])); ((refine tk_ (i := 11) (v := ?_) (y := Or.inl ⟨by rfl, ?_⟩) (h := ?_); rotate_left; (focus (((intro w hSw; (try dsimp only at hSw); go_simp) <;> (try with_reducible rfl)); done)); (try simp only [Act.put, p1_, p2_, p3_]))); (refine wpAnyH_done (by kernel_rfl) ?_ _)))); (rotate_left 1); (exact AllReadyH.nil)))); (rotate_left 1); (exact AllReadyH.nil)))); (rotate_left 1); (exact AllReadyH.nil)))); (rotate_left 2); (refine AllReadyH.cons (by simp only [e1_, e2_, e3_]; try rfl) ?_ ?_); ((focus ((intro K hK); (go_simp); ((try go_wp2_with fail)); (refine hK.out _ _ ?_ (fun hHeld => ?_)); ((focus ((try dsimp only); ((first | (go_keep; done) | exact ⟨ma, mb, mc⟩))))); (clear hK K); ((try simp only [Act.put, p1_, p2_, p3_])); (refine wpAnyH_ready (rs := [3]) (by kernel_rfl) (by simp) ?_); (refine AllReadyH.cons (by simp only [e1_, e2_, e3_]; try rfl) ?_ ?_); ((focus ((intro K hK); (go_simp); ((go_at_call 52; refine (laws_mix R A n cap xs _ (by refine RB.moreS (B := w.heap.size) ?_ Ks; (with_reducible (repeat (first | exact HR.out | refine RB.drew ?_ | refine RB.drewN ?_ _ | refine RB.alloc ?_ Ks _ | refine RB.setCell ?_ Ks _ | refine RB.below ?_ (by assumption) Ks)))) (by omega) hR24).mono ?_; rintro e w7 ⟨fx, A7, n7, c7, rfl, ho7, hMF, hb7⟩; have hn7 := OR.lenEq (xs := tb R R fx) ho7; rw [tb_len] at hn7; have hRR : R * R ≤ 24 * 24 := Nat.mul_le_mul hR24 hR24; have hn7x : n7 ≤ 1048576 := (by omega); have H7 : Hid (RI w7 w7.heap.size A7 n7 (tb R R fx)) := Lib.hid (OR.reads (xs := tb R R fx) ho7); have HMF := Lib.hid hMF; clear ho7 hn7 hMF hRR; have h7 : B3 26 w7 (wr.heap.size) := (by refine B3.below ?_ hb7 Ks; (with_reducible (repeat (first | refine B3.n_ | exact B3.new _ _ _ _ _ _ rfl | refine B3.drew ?_ | refine B3.drewN ?_ _ | refine B3.alloc ?_ _)))); have HF_1 : Hid (RI w7 BF AF nf fs) := Lib.hid (Kr HF.out); clear HF; have HF := HF_1; clear HF_1; have hszw7 := hb7.size; (try simp at hszw7); have hM_1 : BM w7 bM ((R : Int)) ((C : Int)) A1 n1 c1 := (Kb hM); have H1_1 : Hid (RI w7 w0.heap.size A1 n1 ys) := Lib.hid (Kr H1.out); have hbw_1 : Below w0.heap.size w0 w7 := Kw; clear hM hbw H1 ma mb mc mf ml hb7; have hM := hM_1; have H1 := H1_1; have hbw := hbw_1; clear hM_1 H1_1 hbw_1; obtain ⟨ma, mb, mc, mf, ml⟩ := hM.mx)); ((try go_wp2_with fail)); (refine hK.out _ _ ?_ (fun hHeld => ?_)); ((focus ((try dsimp only); ((first | (go_keep; done) | exact ⟨ma, mb, mc⟩))))); (clear hK K); ((try simp only [Act.put, p1_, p2_, p3_])); (refine wpAnyH_ready (rs := [5]) (by kernel_rfl) (by simp) ?_); (refine AllReadyH.cons (by simp only [e1_, e2_, e3_]; try rfl) ?_ ?_); ((focus ((intro K hK); (go_simp); ((go_at_call 40; obtain ⟨mx_, hmx⟩ : ∃ q, mulM R R (tb R R fx) R C ys = q := ⟨_, rfl⟩; obtain ⟨fits, hfits⟩ : ∃ q, mulB R R (tb R R fx) R C ys = q := ⟨_, rfl⟩; have HCS := Lib.hid (HMIX.out _ _ _ HMF.out.spn hmx hfits); have hml := mulM_lenS R R (tb R R fx) R C ys; refine (impl_MultiplyMatrices R R R C A7 A1 n7 c7 n1 c1 (tb R R fx) ys _ (B := w7.heap.size) (B' := w0.heap.size) (Kr H7.out) (Kr H1.out) Ks Ks hn7x (by omega)).mono ?_; rw [hmx, hfits]; rw [hmx] at hml; clear hmx hfits; rintro e w8 ⟨A8, n8, c8, rfl, ho8, hb8⟩; have hx8 := hb8.size; (try simp at hx8); have hn8 := OR.lenEq (xs := mx_.xs) ho8; have hn8x : n8 ≤ 1048576 := (by omega); have kO := OR.own (xs := mx_.xs) ho8; (try simp at kO); have ho8_ : OR w8 0 (.slice A8 n8 c8) mx_.xs := OR.mono (xs := mx_.xs) ho8 (Nat.zero_le _); clear ho8 hn8 hml; have h8 : B3 26 w8 (wr.heap.size) := (by refine B3.below ?_ hb8 Ks; exact h7); have k9 : ¬ Value.ownBlock (.slice A8 n8 c8) = some (wr.heap.size) := (fun e => by have := kO _ e; omega); clear kO hx8; obtain ⟨x0, x1, x2, hx⟩ := id h8; have z0 := hx.cell 0; have z1 := hx.cell 1; have z2 := hx.cell 2; have zf := hx.frozen; have zl := hx.lt; simp at z0 z1 z2; have HF_1 : Hid (RI w8 BF AF nf fs) := Lib.hid (Kr HF.out); clear HF; have HF := HF_1; clear HF_1; have hszw8 := hb8.size; (try simp at hszw8); have hM_1 : BM w8 bM ((R : Int)) ((C : Int)) A1 n1 c1 := (Kb hM); have H1_1 : Hid (RI w8 w0.heap.size A1 n1 ys) := Lib.hid (Kr H1.out); have hbw_1 : Below w0.heap.size w0 w8 := Kw; clear hM hbw H1 ma mb mc mf ml hb8; have hM := hM_1; have H1 := H1_1; have hbw := hbw_1; clear hM_1 H1_1 hbw_1; obtain ⟨ma, mb, mc, mf, ml⟩ := hM.mx)); ((try go_wp2_with fail)); (refine hK.out _ _ ?_ (fun hHeld => ?_)); ((focus ((try dsimp only); ((first | (go_keep; done) | exact ⟨ma, mb, mc⟩))))); (clear hK K); ((try simp only [Act.put, p1_, p2_, p3_])); ((refine tk_ (i := 6) (v := ?_) (y := Or.inl ⟨by rfl, ?_⟩) (h := ?_); rotate_left; (focus (((intro w hSw; (try dsimp only at hSw); go_simp) <;> (try with_reducible rfl)); done)); (try simp only [Act.put, p1_, p2_, p3_]))); ((refine tk_ (i := 7) (v := ?_) (y := Or.inl ⟨by rfl, ?_⟩) (h := ?_); rotate_left; (focus (((intro w hSw; (try dsimp only at hSw); go_simp) <;> (try with_reducible rfl)); done)); (try simp only [Act.put, p1_, p2_, p3_]))); ((refine tk_ (i := 8) (v := ?_) (y := Or.inl ⟨by rfl, ?_⟩) (h := ?_); rotate_left; (focus (((intro w hSw; (try dsimp only at hSw); go_simp) <;> (try with_reducible rfl)); done)); (try simp only [Act.put, p1_, p2_, p3_]))); (refine wpAnyH_ready (rs := [10]) (by kernel_rfl) (by simp) ?_); (refine AllReadyH.cons (by simp only [e1_, e2_, e3_]; try rfl) ?_ ?_); ((focus ((intro K hK); (go_simp); ((try go_wp2_with fail)); (refine hK.out _ _ ?_ (fun hHeld => ?_)); ((focus ((try dsimp only); ((first | (go_keep; done) | exact ⟨ma, mb, mc⟩))))); (clear hK K); ((try simp only [Act.put, p1_, p2_, p3_])); ((refine tk_ (i := 11) (v := ?_) (y := Or.inl ⟨by rfl, ?_⟩) (h := ?_); rotate_left; (focus (((intro w hSw; (try dsimp only at hSw); go_simp) <;> (try with_reducible rfl)); done)); (try simp only [Act.put, p1_, p2_, p3_]))); (refine wpAnyH_done (by kernel_rfl) ?_ _)))); (rotate_left 1); (exact AllReadyH.nil)))); (rotate_left 1); (exact AllReadyH.nil)))); (rotate_left 1); (exact AllReadyH.nil)))); (rotate_left 1); (exact AllReadyH.nil))
              all_goals
                go_wp2_with fail
                go_meet
                case rel => exact ⟨_, fits, mx_, A8, n8, c8, _, rfl, rfl, hn8x, HCS.out, Kb hM, Kr H1.out, Kr HF.out, (by first | exact BX.put h8 | (with_reducible (repeat (first | assumption | refine BX.n_ | refine BX.b_ ?_ | apply BX.drew | apply BX.drewN | refine BX.put ?_ | refine BX.put2 ?_ | refine BX.f_ ?_ | apply BX.alloc | refine B3.n_ | refine B3.of (by assumption) | refine B3.b_ ?_ | apply B3.drew | apply B3.drewN | refine B3.f_ ?_ | apply B3.alloc)))), OR.reads (B := 0) (cap := c8) (xs := mx_.xs) (by (repeat (first | (with_reducible exact ho8_) | (with_reducible refine OR.drew ?_) | (with_reducible refine OR.drewN ?_ _) | (with_reducible refine OR.alloc ?_ _) | (refine OR.far ?_ k9 _)))), Nat.le_refl _, Kw, Ks⟩
            obtain ⟨bU, fits, mx_, A8, n8, c8, B8, rfl, rfl, hn8x, hcs, hM8, hry, hrf, hU, hru, hB8, hbw8, hBF8⟩ := hcut
            clear hM hbw H1 HF ma mb mc mf ml HR hszr hBF2
            have hM := hM8
            have hbw := hbw8
            have hszc := hbw8.size
            have H1 := Lib.hid hry
            have HF := Lib.hid hrf
            have H8 := Lib.hid hru
            clear hM8 hbw8 hry hrf hru
            obtain ⟨ma, mb, mc, mf, ml⟩ := hM.mx
            obtain ⟨ua, ub, uc, uf, ul⟩ := hU.mx
            have hlT := trM_lenS mx_.r mx_.c mx_.xs
            obtain ⟨MT, hMT⟩ : ∃ q, trM mx_.r mx_.c mx_.xs = q := ⟨_, rfl⟩
            rw [hMT] at hcs hlT
            have hlE := facV_len MT.r MT.c MT.xs
            obtain ⟨b4_, hb4⟩ : ∃ q, (sfX MT.r MT.c MT.xs).isSome = q := ⟨_, rfl⟩
            obtain ⟨es, hes⟩ : ∃ q, facV MT.r MT.c MT.xs = q := ⟨_, rfl⟩
            rw [hb4, hes] at hcs
            rw [hes] at hlE
            have HSET : Hid (trM mx_.r mx_.c mx_.xs = MT ∧ (sfX MT.r MT.c MT.xs).isSome = b4_ ∧ facV MT.r MT.c MT.xs = es) := Lib.hid ⟨hMT, hb4, hes⟩
            have HCS := Lib.hid hcs
            clear hMT hb4 hes hcs
            go_wp2_with fail
            refine (impl_TransposeOf mx_.r mx_.c A8 n8 c8 mx_.xs _ (B := B8) (Kr H8.out) Ks hn8x).mono ?_
            rw [HSET.out.1]
            obtain ⟨bt, hbt⟩ : ∃ q, isMat mx_.r mx_.c mx_.xs = q := ⟨_, rfl⟩
            rw [hbt]
            clear hbt
            rintro e w21 ⟨A9, n9, c9, rfl, ho9, hb21⟩
            have hn9 := OR.lenEq (xs := MT.xs) ho9
            have hn9x : n9 ≤ 1048576 := by omega
            have H9 : Hid (RI w21 w21.heap.size A9 n9 MT.xs) := Lib.hid (OR.reads (xs := MT.xs) ho9)
            clear ho9 hn9 hlT ua ub uc uf ul hU
            have HF_1 : Hid (RI w21 BF AF nf fs) := Lib.hid (Kr HF.out); clear HF; have HF := HF_1; clear HF_1; have hszw21 := hb21.size; (try simp at hszw21); have hM_1 : BM w21 bM ((R : Int)) ((C : Int)) A1 n1 c1 := (Kb hM); have H1_1 : Hid (RI w21 w0.heap.size A1 n1 ys) := Lib.hid (Kr H1.out); have hbw_1 : Below w0.heap.size w0 w21 := Kw; clear hM hbw H1 ma mb mc mf ml hb21; have hM := hM_1; have H1 := H1_1; have hbw := hbw_1; clear hM_1 H1_1 hbw_1; obtain ⟨ma, mb, mc, mf, ml⟩ := hM.mx
            have hT : BM (w21.alloc (.cells #[.int .i64 MT.r, .int .i64 MT.c, .slice A9 n9 c9] 26)) w21.heap.size MT.r MT.c A9 n9 c9 := Ka
            obtain ⟨ta, tb_, tc, tf, tl⟩ := hT.mx
            go_wp2_with fail
            refine (impl_FactorsOf MT.r MT.c A9 n9 c9 MT.xs _ (B := w21.heap.size) (Kr H9.out) Ks hn9x).mono ?_
            rw [HSET.out.2.1, HSET.out.2.2]
            rintro e w22 ⟨AE, ne_, ce_, rfl, hoE, hb22⟩
            have hnE := OR.lenEq (xs := es) hoE
            have hnEx : ne_ ≤ 1048576 := by omega
            have HE : Hid (RI w22 w22.heap.size AE ne_ es) := Lib.hid (OR.reads (xs := es) hoE)
            clear hoE hnE hlE hT ta tb_ tc tf tl
            have HF_1 : Hid (RI w22 BF AF nf fs) := Lib.hid (Kr HF.out); clear HF; have HF := HF_1; clear HF_1; have hszw22 := hb22.size; (try simp at hszw22); have hM_1 : BM w22 bM ((R : Int)) ((C : Int)) A1 n1 c1 := (Kb hM); have H1_1 : Hid (RI w22 w0.heap.size A1 n1 ys) := Lib.hid (Kr H1.out); have hbw_1 : Below w0.heap.size w0 w22 := Kw; clear hM hbw H1 ma mb mc mf ml hb22; have hM := hM_1; have H1 := H1_1; have hbw := hbw_1; clear hM_1 H1_1 hbw_1; obtain ⟨ma, mb, mc, mf, ml⟩ := hM.mx
            rcases fits with _ | _ <;> rcases b4_ with _ | _
            rotate_right 1
            have he := (HCS.out.resolve_left (by decide)).resolve_left (by decide)
            subst he
            go_wp2_with fail
            refine (laws_sameInts AE AF ne_ nf ce_ cf es es _ (C := w22.heap.size) (C' := BF) (Kr HE.out) (Kr HF.out) hnEx (by omega)).mono ?_
            rw [eqB_self]
            rintro e w23 ⟨rfl, nd, rfl⟩
            all_goals
              go_wp2_with fail
              go_ret
              exact ⟨rfl, HB0.out.trans (Below.mono (B := w0.heap.size) Kw hs0)⟩
end Go.Proofs.Ytacjonkehcamgaa

/-
  DERIVED. Several small texts in one: FacI, LRanks.
-/
import Derived.Test.YtacjonkehcamgaaV6
import Derived.Test.YtacjonkehcamgaaSm4t
import Derived.Deep.CutBlock
import Derived.Test.YtacjonkehcamgaaV1
import Derived.Test.YtacjonkehcamgaaV5
import Derived.Test.YtacjonkehcamgaaV3
/-
  DERIVED. FactorsOf of the program.
-/
namespace Go.Proofs.Ytacjonkehcamgaa
open Go.RowKit
set_option linter.unusedVariables false
set_option linter.unusedSimpArgs false
set_option maxRecDepth 100000 in
set_option maxHeartbeats 4000000 in
theorem impl_FactorsOf (r c : Int) (A : Option Addr) (n cap : Nat) (xs : List Int) (w : World) {B : Nat} (h : RI w B A n xs) (hB : B ≤ w.heap.size) (hn : n ≤ 1048576) :
    Calls Try.prog 60 #[.agg #[.int .i64 r, .int .i64 c, .slice A n cap]] w (IBR (facV r c xs) (sfX r c xs).isSome w) := by
  unfold facV
  have hlen := h.len
  have H2 := Lib.hid (h.more hB)
  clear h
  rcases hX : sfX r c xs with _ | s
  · have HX := Lib.hid hX
    clear hX
    go_enter Try.func60, Try.ntmps60
    go_wp2_with fail
    (refine (impl_SmithForm r c A n cap xs _ (B := w.heap.size) (Kr H2.out) Ks hn).mono ?_)
    rw [HX.out]
    rintro e w1 ⟨A1, n1, c1, A2, n2, c2, A3, n3, c3, rfl, -, -, -, -, -, -, hb1⟩
    have hs1 := hb1.size
    simp at hs1
    go_wp2_with fail
    go_ret2
    exact IBR.mk rfl (OR.empty' _ _ (by simp) Ks) Kw
  · obtain ⟨hm, hgd⟩ : isMat r c xs = true ∧ True := by
      rcases hm : isMat r c xs with _ | _
      · rw [sfX_no hm] at hX; cases hX
      · exact ⟨rfl, trivial⟩
    have M := isMat_iff.1 hm
    obtain ⟨R, rfl⟩ := nat_of M.r0
    obtain ⟨C, rfl⟩ := nat_of M.c0
    have hR : R ≤ 24 := by have := M.r1; omega
    have hC : C ≤ 24 := by have := M.c1; omega
    have hg := (sfX_gd hX).2.2.2
    have HOK := Lib.hid hg.ok.f
    have HX := Lib.hid hX
    clear M hm hgd hX hg
    go_enter Try.func60, Try.ntmps60
    go_wp2_with fail
    refine (impl_SmithForm R C A n cap xs _ (B := w.heap.size) (Kr H2.out) Ks hn).mono ?_
    rw [HX.out]
    rintro e w1 ⟨A1, n1, c1, A2, n2, c2, A3, n3, c3, rfl, ho1, ho2, ho3, -, -, -, hb1⟩
    have ho : OR w1 (w.heap.size + 1) (.slice A1 n1 c1) (tb R C s.f) := by have := OR.mono (B' := w.heap.size + 1) ho1 (by simp); exact this
    clear ho1 ho2 ho3
    have hs1 := hb1.size
    simp at hs1
    have HOA : Hid (Own (.slice A1 n1 c1) (w.heap.size + 1) w1.heap.size) := Lib.hid ho.own
    have hb0 : Below w.heap.size w w1 := Kw
    clear hb1
    go_wp2_with fail
    have hM : BM (((w1.alloc (.cells #[.int .i64 R, .int .i64 C, .slice A1 n1 c1] 26)).alloc (.cells #[.int .i64 R, .int .i64 R, .slice A2 n2 c2] 26)).alloc (.cells #[.int .i64 C, .int .i64 C, .slice A3 n3 c3] 26)) w1.heap.size R C A1 n1 c1 := Ka
    go_loopg [8, 9] (R + 1) (fun k v8 v9 wr => ∃ i : Nat, v9 = .int .i64 i ∧ i ≤ R ∧ R - i < k ∧ OR wr (w1.heap.size + 1 + 1 + 1) v8 (facK (dgF R C s.f) i) ∧ BM wr w1.heap.size R C A1 n1 c1 ∧ OR wr (w.heap.size + 1) (.slice A1 n1 c1) (tb R C s.f) ∧ Below w.heap.size w wr ∧ w1.heap.size + 1 + 1 + 1 ≤ wr.heap.size)
    case atStart => exact ⟨0, rfl, Nat.zero_le _, by omega, OR.empty' _ _ (by simp) Ks, hM.alloc _, Ko ho, Kw, Ks⟩
    case round =>
      clear hM ho hb0
      obtain ⟨i, rfl, hi, hk, hl, hM, hoa, hbw, hs3⟩ := hrel
      obtain ⟨Al, cl, rfl⟩ := hl.shapeF
      have hnl2 : (facK (dgF R C s.f) i).length ≤ 24 := by have := facK_len (dgF R C s.f) i; omega
      obtain ⟨ma, mb, mc, mf, ml⟩ := hM.mx
      have hsr := hM.lt
      by_cases hiR : i < R
      · by_cases hz : dgF R C s.f i = 0
        · have HE := Lib.hid (facK_skip hz)
          have HD := Lib.hid hz
          clear hz
          go_wp2_with fail
          refine (impl_diagonal R C i A1 n1 c1 s.f _ (B := w.heap.size + 1) (Ko hoa) (by omega) hR hC).mono ?_
          rw [HD.out]
          rintro e w2 ⟨rfl, hb2⟩
          (have hM_1 : BM w2 w1.heap.size R C A1 n1 c1 := (Kb hM)); (have hoa_1 : OR w2 (w.heap.size + 1) (.slice A1 n1 c1) (tb R C s.f) := (Ko hoa)); (have hl_1 : OR w2 (w1.heap.size + 1 + 1 + 1) (.slice Al (facK (dgF R C s.f) i).length cl) (facK (dgF R C s.f) i) := (Ko hl)); (have hbw_1 : Below w.heap.size w w2 := Kw); (have hz2 := hb2.size); (try simp at hz2); (have hs3_1 : w1.heap.size + 1 + 1 + 1 ≤ w2.heap.size := (by omega)); clear hs3 hz2; (have hs3 := hs3_1); clear hs3_1; clear hM hoa hl hbw hb2 ma mb mc mf ml; (have hM := hM_1); (have hoa := hoa_1); (have hl := hl_1); (have hbw := hbw_1); clear hM_1 hoa_1 hl_1 hbw_1; obtain ⟨ma, mb, mc, mf, ml⟩ := hM.mx
          go_wp2_with fail
          go_roundg (gk - 1)
          case measure => omega
          case rel => exact ⟨i + 1, by go_num, by omega, by omega, by rw [HE.out]; (with_reducible (repeat (first | exact hl | refine OR.drew ?_ | refine OR.drewN ?_ _ | refine OR.alloc ?_ _ | refine OR.b_ ?_ | refine OR.l_ ?_))), Kb hM, Ko hoa, Kw, Ks⟩
        · have HE := Lib.hid (facK_add hz)
          have hzb : (dgF R C s.f i != 0) = true := by simpa using hz
          have hdv := dgF_num (R := R) (C := C) (i := i) HOK.out
          generalize hv : dgF R C s.f i = z at *
          have HD := Lib.hid hv
          clear hv hz
          go_wp2_with fail
          refine (impl_diagonal R C i A1 n1 c1 s.f _ (B := w.heap.size + 1) (Ko hoa) (by omega) hR hC).mono ?_
          rw [HD.out]
          rintro e w2 ⟨rfl, hb2⟩
          (have hM_1 : BM w2 w1.heap.size R C A1 n1 c1 := (Kb hM)); (have hoa_1 : OR w2 (w.heap.size + 1) (.slice A1 n1 c1) (tb R C s.f) := (Ko hoa)); (have hl_1 : OR w2 (w1.heap.size + 1 + 1 + 1) (.slice Al (facK (dgF R C s.f) i).length cl) (facK (dgF R C s.f) i) := (Ko hl)); (have hbw_1 : Below w.heap.size w w2 := Kw); (have hz2 := hb2.size); (try simp at hz2); (have hs3_1 : w1.heap.size + 1 + 1 + 1 ≤ w2.heap.size := (by omega)); clear hs3 hz2; (have hs3 := hs3_1); clear hs3_1; clear hM hoa hl hbw hb2 ma mb mc mf ml; (have hM := hM_1); (have hoa := hoa_1); (have hl := hl_1); (have hbw := hbw_1); clear hM_1 hoa_1 hl_1 hbw_1; obtain ⟨ma, mb, mc, mf, ml⟩ := hM.mx
          go_wp2_with (at_builtin; refine wpList_append_one _ rfl (.tmp 33) (.tmp 35) rfl (w1.heap.size + 1 + 1 + 1) _ _ rfl (hl.alloc _) _ z rfl ?f1 ?f2 ?f3 ?_)
          case f1 => simp [go_sem]
          case f2 => omega
          case f3 => exact Ks
          intro v1 w3 hown1 hgr hat
          have HOL := (hl.alloc (.cells #[.int .i64 z] 3)).own
          have hz3 := hgr.size
          simp at hz3
          have hM_1 : BM w3 w1.heap.size R C A1 n1 c1 := BX.keptOwn (Kb hM) hgr HOL (.inl (by omega)); have hoa_1 : OR w3 (w.heap.size + 1) (.slice A1 n1 c1) (tb R C s.f) := OR.keptOwn (Ko hoa) hgr HOA.out HOL (.inl (by omega)); have hbw_1 : Below w.heap.size w w3 := Below.trans Kw (below_keptOwn hgr HOL (by omega) Ks)
          clear hM hoa hl hbw hgr hat HOL ma mb mc mf ml
          go_wp2_with fail
          go_roundg (gk - 1)
          case measure => omega
          case rel => exact ⟨i + 1, by go_num, by omega, by omega, by rw [HE.out]; exact hown1, hM_1, hoa_1, hbw_1, Ks⟩
      · have hiE : i = R := by omega
        subst hiE
        go_wp2_with fail
        go_ret2
        exact IBR.mk (facO_rows _ _ _) (OR.mono (B := w1.heap.size + 1 + 1 + 1) (Ko hl) (by omega)) Kw
theorem facO_min (R C : Nat) (s : SS) : facO R C (some s) = facK (dgF R C s.f) (min R C) := rfl
end Go.Proofs.Ytacjonkehcamgaa

/-
  DERIVED. The law FnRanks: the Hermite form, the echelon form and the Smith form have as many rows that are not zeros, and turned over as well.
-/
namespace Go.Proofs.Ytacjonkehcamgaa
open Go.RowKit
set_option linter.unusedVariables false
set_option linter.unusedSimpArgs false
theorem hmX_natR {r c : Int} {xs : List Int} {x : HS × Nat} (h : hmX r c xs = some x) : ∃ R C : Nat, r = R ∧ c = C := by
  unfold hmX at h
  split at h
  · rename_i hm
    have M := isMat_iff.1 hm
    obtain ⟨R, rfl⟩ := nat_of M.r0
    obtain ⟨C, rfl⟩ := nat_of M.c0
    exact ⟨R, C, rfl, rfl⟩
  · cases h
theorem bs_row {R C : Nat} {xs : List Int} {s : HS} {t : Nat} (h : hmX R C xs = some (s, t)) : (bsM R C xs).r = t := by unfold bsM; rw [h]; rfl
theorem rank_bas {r c : Int} {xs : List Int} (h : bsB r c xs = true) (h2 : (eoX r c xs).isSome = true) : ((bsM r c xs).r == ((psQ (eoX r c xs)).length : Nat)) = true := by
  rcases hx : hmX r c xs with _ | ⟨s, t⟩
  · unfold bsB at h; rw [hx] at h; cases h
  · obtain ⟨R, C, rfl, rfl⟩ := hmX_natR hx
    rcases hy : eoX R C xs with _ | q
    · rw [hy] at h2; cases h2
    · rw [bs_row hx]
      have := (hm_rke hx).uniq (eo_rke hy)
      show ((t : Int) == ((psQ (some q)).length : Nat)) = true
      show ((t : Int) == (q.ps.length : Nat)) = true
      simp [this]
theorem rank_fac {r c : Int} {xs : List Int} (h2 : (eoX r c xs).isSome = true) (h3 : (sfX r c xs).isSome = true) : ((facV r c xs).length : Int) = ((psQ (eoX r c xs)).length : Nat) := by
  rcases hy : eoX r c xs with _ | q
  · rw [hy] at h2; cases h2
  · obtain ⟨R, C, rfl, rfl⟩ : ∃ R C : Nat, r = R ∧ c = C := by
      unfold eoX at hy
      split at hy
      · rename_i hm
        have M := isMat_iff.1 hm
        obtain ⟨R, rfl⟩ := nat_of M.r0
        obtain ⟨C, rfl⟩ := nat_of M.c0
        exact ⟨R, C, rfl, rfl⟩
      · cases hy
    rcases hz : sfX R C xs with _ | s
    · rw [hz] at h3; cases h3
    · have := (sf_rke hz).uniq (eo_rke hy)
      show ((facV R C xs).length : Int) = (q.ps.length : Nat)
      omega
theorem rank_trn {r c : Int} {xs : List Int} (h : bsB r c xs = true) (h2 : bsB (trM r c xs).r (trM r c xs).c (trM r c xs).xs = true) : ((bsM (trM r c xs).r (trM r c xs).c (trM r c xs).xs).r == (bsM r c xs).r) = true := by
  rcases hx : hmX r c xs with _ | ⟨s, t⟩
  · unfold bsB at h; rw [hx] at h; cases h
  · obtain ⟨R, C, rfl, rfl⟩ := hmX_natR hx
    have hm : isMat R C xs = true := by
      unfold hmX at hx
      split at hx
      · rename_i hm; exact hm
      · cases hx
    have ht : trM R C xs = ⟨C, R, tb C R (fun a b => cel xs C b a)⟩ := by unfold trM; rw [if_pos hm]; simp only [Int.toNat_natCast]
    rw [ht] at h2 ⊢
    dsimp only at h2 ⊢
    rcases hy : hmX C R (tb C R (fun a b => cel xs C b a)) with _ | ⟨s2, t2⟩
    · unfold bsB at h2; rw [hy] at h2; cases h2
    · rw [bs_row hx, bs_row hy]
      have k := (hm_rke hy).congr (g := fun a b : Nat => cel xs C b a) fun i j hi hj => (cel_tb (f := fun a b : Nat => cel xs C b a) hi hj).symm
      have := k.uniq (hm_rke hx).turn
      simp [this]
theorem trM_lenR (r c : Int) (xs : List Int) : (trM r c xs).xs.length ≤ 1048576 := by
  unfold trM
  split
  · rename_i hm
    have M := isMat_iff.1 hm
    have h1 := M.r1; have h2 := M.c1
    obtain ⟨R, rfl⟩ := nat_of M.r0
    obtain ⟨C, rfl⟩ := nat_of M.c0
    dsimp only
    rw [tb_len]
    simp only [Int.toNat_natCast]
    have := Nat.mul_le_mul (show C ≤ 24 by omega) (show R ≤ 24 by omega)
    omega
  · exact Nat.zero_le _
set_option maxRecDepth 100000 in
set_option maxHeartbeats 8000000 in
theorem law_FnRanks (w : World) (A : Option Addr) (n cap : Nat) (xs : List Int) (hnc : n ≤ cap) (hcm : cap ≤ maxLen) (hby : RB w w.heap.size A n xs) :
    Calls Try.prog 13 #[.slice A n cap] w fun e w' => e = .returned (.bool true) ∧ Below w.heap.size w w' := by
  by_cases hn : 1048576 < n
  · go_enter Try.func13, Try.ntmps13
    go_wp2_with (go_at_call 15; refine (laws_big A n cap _).mono ?_; rintro e w1 ⟨rfl, rfl⟩)
    go_ret
    exact ⟨rfl, Below.refl _ _⟩
  · go_enter Try.func13, Try.ntmps13
    go_wp2_with (go_at_call 15; refine (laws_big A n cap _).mono ?_; rintro e w1 ⟨rfl, rfl⟩)
    refine (spec_DrawBasisOf n cap A xs _ hby (by omega)).mono ?_
    rintro e w1 ⟨r, c, A1, n1, c1, ys, rfl, ho1, hl1, hr1, hbw0⟩
    have hsz := hbw0.size
    have e1 := ho1.lenEq
    have H1 : Hid (RI (w1.alloc (.cells #[.int .i64 r, .int .i64 c, .slice A1 n1 c1] 26)) (w1.alloc (.cells #[.int .i64 r, .int .i64 c, .slice A1 n1 c1] 26)).heap.size A1 n1 ys) := Lib.hid ((ho1.alloc _).reads)
    have hM : BM (w1.alloc (.cells #[.int .i64 r, .int .i64 c, .slice A1 n1 c1] 26)) w1.heap.size r c A1 n1 c1 := Ka
    have n1x : n1 ≤ 17 := by omega
    have HB0 : Hid (Below w.heap.size w (w1.alloc (.cells #[.int .i64 r, .int .i64 c, .slice A1 n1 c1] 26))) := Lib.hid (hbw0.alloc hsz _)
    clear hbw0 ho1 hby e1
    obtain ⟨ma, mb, mc, mf, ml⟩ := hM.mx
    go_wp2_with fail
    generalize (w1.alloc (.cells #[.int .i64 r, .int .i64 c, .slice A1 n1 c1] 26)) = w0 at *
    generalize w1.heap.size = bM at *
    have hbw : Below w0.heap.size w0 w0 := Below.refl _ _
    have hs0 : w.heap.size ≤ w0.heap.size := by have := HB0.out.size; omega
    have hlM := hM.lt
    clear hsz
    have F1 := @rank_bas r c ys
    have F2 := @rank_fac r c ys
    have F4 := @rank_trn r c ys
    obtain ⟨MB, hMB⟩ : ∃ q, bsM r c ys = q := ⟨_, rfl⟩
    obtain ⟨o1, ho1⟩ : ∃ q, bsB r c ys = q := ⟨_, rfl⟩
    obtain ⟨b2, hb2_⟩ : ∃ q, (eoX r c ys).isSome = q := ⟨_, rfl⟩
    obtain ⟨l2, hl2⟩ : ∃ q, (psQ (eoX r c ys)).length = q := ⟨_, rfl⟩
    obtain ⟨b3, hb3_⟩ : ∃ q, (sfX r c ys).isSome = q := ⟨_, rfl⟩
    obtain ⟨fs, hfs⟩ : ∃ q, facV r c ys = q := ⟨_, rfl⟩
    obtain ⟨MT, hMT⟩ : ∃ q, trM r c ys = q := ⟨_, rfl⟩
    obtain ⟨MD, hMD⟩ : ∃ q, bsM MT.r MT.c MT.xs = q := ⟨_, rfl⟩
    obtain ⟨o4, ho4⟩ : ∃ q, bsB MT.r MT.c MT.xs = q := ⟨_, rfl⟩
    have lT := trM_lenR r c ys
    have lF := facV_len r c ys
    rw [ho1, hb2_, hMB, hl2] at F1
    rw [hb2_, hb3_, hfs, hl2] at F2
    rw [ho1, hMT, hMD, hMB, ho4] at F4
    rw [hMT] at lT
    rw [hfs] at lF
    have G1 := Lib.hid hMB; have G2 := Lib.hid ho1; have G3 := Lib.hid hb2_; have G4 := Lib.hid hl2; have G5 := Lib.hid hb3_; have G6 := Lib.hid hfs; have G7 := Lib.hid hMT; have G8 := Lib.hid hMD; have G9 := Lib.hid ho4
    have K1 := Lib.hid F1; have K2 := Lib.hid F2; have K4 := Lib.hid F4
    clear F1 F2 F4 hMB ho1 hb2_ hl2 hb3_ hfs hMT hMD ho4
    refine (impl_BasisOf r c A1 n1 c1 ys _ (B := w0.heap.size) (Kr H1.out) Ks (by omega)).mono ?_
    rw [G1.out, G2.out]
    rintro e w2 ⟨A2, n2, c2, rfl, -, hb2⟩
    have hszw2 := hb2.size; (try simp at hszw2); have hM_1 : BM w2 bM r c A1 n1 c1 := (Kb hM); have H1_1 : Hid (RI w2 w0.heap.size A1 n1 ys) := Lib.hid (Kr H1.out); have hbw_1 : Below w0.heap.size w0 w2 := Kw; clear hM hbw H1 ma mb mc mf ml hb2; have hM := hM_1; have H1 := H1_1; have hbw := hbw_1; clear hM_1 H1_1 hbw_1; obtain ⟨ma, mb, mc, mf, ml⟩ := hM.mx
    have hA : BM (w2.alloc (.cells #[.int .i64 MB.r, .int .i64 MB.c, .slice A2 n2 c2] 26)) w2.heap.size MB.r MB.c A2 n2 c2 := Ka
    obtain ⟨aa, ab, ac, af, al⟩ := hA.mx
    go_wp2_with fail
    refine (spec_BasisOf r c A1 n1 c1 ys _ (B := w0.heap.size) (Kr H1.out) Ks (by omega)).mono ?_
    rw [G1.out, G2.out]
    rintro e w3 ⟨A3, n3, c3, rfl, -, hb3⟩
    have hA_1 : BM w3 w2.heap.size MB.r MB.c A2 n2 c2 := (Kb hA); clear hA aa ab ac af al; have hA := hA_1; clear hA_1; obtain ⟨aa, ab, ac, af, al⟩ := hA.mx; have hszw3 := hb3.size; (try simp at hszw3); have hM_1 : BM w3 bM r c A1 n1 c1 := (Kb hM); have H1_1 : Hid (RI w3 w0.heap.size A1 n1 ys) := Lib.hid (Kr H1.out); have hbw_1 : Below w0.heap.size w0 w3 := Kw; clear hM hbw H1 ma mb mc mf ml hb3; have hM := hM_1; have H1 := H1_1; have hbw := hbw_1; clear hM_1 H1_1 hbw_1; obtain ⟨ma, mb, mc, mf, ml⟩ := hM.mx
    go_wp2_with fail
    refine (impl_RankOf r c A1 n1 c1 ys _ (B := w0.heap.size) (Kr H1.out) Ks (by omega)).mono ?_
    rw [G3.out, G4.out]
    rintro e w4 ⟨rfl, hb4⟩
    have hA_1 : BM w4 w2.heap.size MB.r MB.c A2 n2 c2 := (Kb hA); clear hA aa ab ac af al; have hA := hA_1; clear hA_1; obtain ⟨aa, ab, ac, af, al⟩ := hA.mx; have hszw4 := hb4.size; (try simp at hszw4); have hM_1 : BM w4 bM r c A1 n1 c1 := (Kb hM); have H1_1 : Hid (RI w4 w0.heap.size A1 n1 ys) := Lib.hid (Kr H1.out); have hbw_1 : Below w0.heap.size w0 w4 := Kw; clear hM hbw H1 ma mb mc mf ml hb4; have hM := hM_1; have H1 := H1_1; have hbw := hbw_1; clear hM_1 H1_1 hbw_1; obtain ⟨ma, mb, mc, mf, ml⟩ := hM.mx
    go_wp2_with fail
    refine (impl_FactorsOf r c A1 n1 c1 ys _ (B := w0.heap.size) (Kr H1.out) Ks (by omega)).mono ?_
    rw [G5.out, G6.out]
    rintro e w5 ⟨A5, n5, c5, rfl, ho5, hb5⟩
    have hn5 := OR.lenEq (xs := fs) ho5
    have n5x : n5 ≤ 1048576 := by omega
    have HN5 := Lib.hid hn5
    clear ho5 hn5
    have hA_1 : BM w5 w2.heap.size MB.r MB.c A2 n2 c2 := (Kb hA); clear hA aa ab ac af al; have hA := hA_1; clear hA_1; obtain ⟨aa, ab, ac, af, al⟩ := hA.mx; have hszw5 := hb5.size; (try simp at hszw5); have hM_1 : BM w5 bM r c A1 n1 c1 := (Kb hM); have H1_1 : Hid (RI w5 w0.heap.size A1 n1 ys) := Lib.hid (Kr H1.out); have hbw_1 : Below w0.heap.size w0 w5 := Kw; clear hM hbw H1 ma mb mc mf ml hb5; have hM := hM_1; have H1 := H1_1; have hbw := hbw_1; clear hM_1 H1_1 hbw_1; obtain ⟨ma, mb, mc, mf, ml⟩ := hM.mx
    go_wp2_with fail
    refine (impl_TransposeOf r c A1 n1 c1 ys _ (B := w0.heap.size) (Kr H1.out) Ks (by omega)).mono ?_
    rw [G7.out]
    obtain ⟨bt, hbt⟩ : ∃ q, isMat r c ys = q := ⟨_, rfl⟩
    rw [hbt]
    clear hbt
    rintro e w6 ⟨A6, n6, c6, rfl, ho6, hb6⟩
    have hn6 := OR.lenEq (xs := MT.xs) ho6
    have n6x : n6 ≤ 1048576 := by omega
    have H6 : Hid (RI w6 w6.heap.size A6 n6 MT.xs) := Lib.hid (OR.reads (xs := MT.xs) ho6)
    clear ho6 hn6 lT lF
    have hA_1 : BM w6 w2.heap.size MB.r MB.c A2 n2 c2 := (Kb hA); clear hA aa ab ac af al; have hA := hA_1; clear hA_1; obtain ⟨aa, ab, ac, af, al⟩ := hA.mx; have hszw6 := hb6.size; (try simp at hszw6); have hM_1 : BM w6 bM r c A1 n1 c1 := (Kb hM); have H1_1 : Hid (RI w6 w0.heap.size A1 n1 ys) := Lib.hid (Kr H1.out); have hbw_1 : Below w0.heap.size w0 w6 := Kw; clear hM hbw H1 ma mb mc mf ml hb6; have hM := hM_1; have H1 := H1_1; have hbw := hbw_1; clear hM_1 H1_1 hbw_1; obtain ⟨ma, mb, mc, mf, ml⟩ := hM.mx
    have hT : BM (w6.alloc (.cells #[.int .i64 MT.r, .int .i64 MT.c, .slice A6 n6 c6] 26)) w6.heap.size MT.r MT.c A6 n6 c6 := Ka
    obtain ⟨ta, tb_, tc, tf, tl⟩ := hT.mx
    go_wp2_with fail
    refine (impl_BasisOf MT.r MT.c A6 n6 c6 MT.xs _ (B := w6.heap.size) (Kr H6.out) Ks n6x).mono ?_
    rw [G8.out, G9.out]
    rintro e w7 ⟨A7, n7, c7, rfl, -, hb7⟩
    have hA_1 : BM w7 w2.heap.size MB.r MB.c A2 n2 c2 := (Kb hA); clear hA aa ab ac af al; have hA := hA_1; clear hA_1; obtain ⟨aa, ab, ac, af, al⟩ := hA.mx; have hszw7 := hb7.size; (try simp at hszw7); have hM_1 : BM w7 bM r c A1 n1 c1 := (Kb hM); have H1_1 : Hid (RI w7 w0.heap.size A1 n1 ys) := Lib.hid (Kr H1.out); have hbw_1 : Below w0.heap.size w0 w7 := Kw; clear hM hbw H1 ma mb mc mf ml hb7; have hM := hM_1; have H1 := H1_1; have hbw := hbw_1; clear hM_1 H1_1 hbw_1; obtain ⟨ma, mb, mc, mf, ml⟩ := hM.mx
    have hD : BM (w7.alloc (.cells #[.int .i64 MD.r, .int .i64 MD.c, .slice A7 n7 c7] 26)) w7.heap.size MD.r MD.c A7 n7 c7 := Ka
    obtain ⟨da, db, dc, df, dl⟩ := hD.mx
    clear G1 G2 G3 G4 G5 G6 G7 G8 G9 hT ta tb_ tc tf tl H6
    rcases o1 with _ | _ <;> rcases b2 with _ | _ <;> rcases b3 with _ | _ <;> rcases o4 with _ | _
    all_goals
      (first | have t1 := K1.out rfl rfl | skip)
      (first | (have t2 : ((n5 : Int) == (l2 : Int)) = true := (by have h2 := K2.out rfl rfl; have h3 := HN5.out; simp; omega)) | skip)
      (first | have t4 := K4.out rfl rfl | skip)
      go_wp2_with fail
      go_ret
      exact ⟨rfl, HB0.out.trans (Below.mono (B := w0.heap.size) Kw hs0)⟩
end Go.Proofs.Ytacjonkehcamgaa

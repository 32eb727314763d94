/-
  DERIVED. The law FnHermite: Hermite forms come with the unimodular matrices that make them; all matrices that span one lattice have one form.
-/
import Derived.Test.YtacjonkehcamgaaZS
import Derived.Test.YtacjonkehcamgaaZ3
import Derived.Test.YtacjonkehcamgaaZ1
import Derived.Test.YtacjonkehcamgaaMixq
import Derived.Test.YtacjonkehcamgaaHmI
import Derived.Test.YtacjonkehcamgaaZ2
import Derived.Test.YtacjonkehcamgaaMulq
namespace Go.Proofs.Ytacjonkehcamgaa
open Go.RowKit
set_option linter.unusedVariables false
set_option linter.unusedSimpArgs false
theorem hmX_nat {r c : Int} {xs : List Int} {x : HS × Nat} (h : hmX r c xs = some x) : ∃ R C : Nat, r = R ∧ c = C ∧ R ≤ 24 ∧ C ≤ 24 ∧ xs.length = R * C := by
  unfold hmX at h
  split at h
  · rename_i hm
    have M := isMat_iff.1 hm
    have h1 := M.r1; have h2 := M.c1; have h5 := M.len
    obtain ⟨R, rfl⟩ := nat_of M.r0
    obtain ⟨C, rfl⟩ := nat_of M.c0
    rw [← Int.natCast_mul] at h5
    exact ⟨R, C, rfl, rfl, by omega, by omega, by omega⟩
  · cases h
theorem hmM_lenH (r c : Int) (xs : List Int) : (hmM r c xs).xs.length ≤ 1048576 ∧ (hmU r c xs).xs.length ≤ 1048576 := by
  rcases hx : hmX r c xs with _ | x
  · unfold hmM hmU; rw [hx]; exact ⟨Nat.zero_le _, Nat.zero_le _⟩
  · obtain ⟨R, C, rfl, rfl, h1, h2, -⟩ := hmX_nat hx
    unfold hmM hmU; rw [hx]
    show (tb (R : Int).toNat (C : Int).toNat x.1.f).length ≤ _ ∧ (tb (R : Int).toNat (R : Int).toNat x.1.g).length ≤ _
    rw [tb_len, tb_len]
    simp only [Int.toNat_natCast]
    have := Nat.mul_le_mul h1 h2
    have := Nat.mul_le_mul h1 h1
    omega
theorem same_self (R C : Int) (xs : List Int) : sameB R C xs R C xs = true := by simp [sameB, eqB]
theorem RB.moreE {w : World} {B B' n : Nat} {A : Option Addr} {xs : List Int} (h : RB w B A n xs) (hB : B ≤ B') : RB w B' A n xs :=
  ⟨h.1, fun hn => by
    obtain ⟨b, o, e, hb, hc⟩ := h.2.1 hn
    exact ⟨b, o, e, by omega, hc⟩, h.2.2⟩
theorem mulM_lenE (r c : Int) (xs : List Int) (r2 c2 : Int) (ys : List Int) : (mulM r c xs r2 c2 ys).xs.length ≤ 1048576 := by
  unfold mulM
  split
  · rename_i h
    unfold mulB at h
    rw [Bool.and_eq_true] at h
    have M := isMat_iff.1 h.2
    have h1 := M.r1; have h2 := M.c1; have h3 := M.r0; have h4 := M.c0
    obtain ⟨R, rfl⟩ := nat_of h3
    obtain ⟨C, rfl⟩ := nat_of h4
    show (mulL xs (R : Int).toNat c.toNat ys (C : Int).toNat).length ≤ _
    rw [mulL_len]
    simp only [Int.toNat_natCast]
    have := Nat.mul_le_mul (show R ≤ 24 by omega) (show C ≤ 24 by omega)
    omega
  · exact Nat.zero_le _
/-- What the form of the mixed matrix is, where there is one. -/
theorem hm_mixed {R C : Nat} {ys : List Int} {s : HS} {t : Nat} {mf : Fn2} (hX : hmX R C ys = some (s, t)) (hs : SPN R R idF mf) {m : Mx} (hm : mulM R R (tb R R mf) R C ys = m) {f : Bool} (hf : mulB R R (tb R R mf) R C ys = f) : f = false ∨ (hmX m.r m.c m.xs).isSome = false ∨ ((hmX m.r m.c m.xs).isSome = true ∧ hmM m.r m.c m.xs = ⟨R, C, tb R C s.f⟩) := by
  rcases f with _ | _
  · exact .inl rfl
  · right
    rw [mulM_yes hf] at hm
    simp only [Int.toNat_natCast] at hm
    subst hm
    rcases h2 : hmX R C (mulL (tb R R mf) R R ys C) with _ | ⟨s2, t2⟩
    · exact .inl rfl
    · right
      refine ⟨rfl, ?_⟩
      show hmM R C (mulL (tb R R mf) R R ys C) = _
      unfold hmM
      rw [h2]
      show (⟨R, C, tb (R : Int).toNat (C : Int).toNat s2.f⟩ : Mx) = _
      simp only [Int.toNat_natCast]
      rw [hm_mix hs hX h2]
set_option maxRecDepth 100000 in
set_option maxHeartbeats 8000000 in
theorem law_FnHermite (w : World) (A : Option Addr) (n cap : Nat) (xs : List Int) (hnc : n ≤ cap) (hcm : cap ≤ maxLen) (hby : RB w w.heap.size A n xs) :
    Calls Try.prog 7 #[.slice A n cap] w fun e w' => e = .returned (.bool true) ∧ Below w.heap.size w w' := by
  have HBY := Lib.hid hby
  by_cases hn : 1048576 < n
  · go_enter Try.func7, Try.ntmps7
    go_wp2_with (go_at_call 15; refine (laws_big A n cap _).mono ?_; rintro e w1 ⟨rfl, rfl⟩)
    go_ret
    exact ⟨rfl, Below.refl _ _⟩
  · go_enter Try.func7, Try.ntmps7
    go_wp2_with (go_at_call 15; refine (laws_big A n cap _).mono ?_; rintro e w1 ⟨rfl, rfl⟩)
    refine (spec_DrawHermiteForm n cap A xs _ hby (by omega)).mono ?_
    rintro e w1 ⟨r, c, A1, n1, c1, ys, rfl, ho1, hl1, hr1, hbw0⟩
    have hsz := hbw0.size
    have e1 := ho1.lenEq
    have H1 : Hid (RI (w1.alloc (.cells #[.int .i64 r, .int .i64 c, .slice A1 n1 c1] 26)) (w1.alloc (.cells #[.int .i64 r, .int .i64 c, .slice A1 n1 c1] 26)).heap.size A1 n1 ys) := Lib.hid ((ho1.alloc _).reads)
    have hM : BM (w1.alloc (.cells #[.int .i64 r, .int .i64 c, .slice A1 n1 c1] 26)) w1.heap.size r c A1 n1 c1 := Ka
    have n1x : n1 ≤ 17 := by omega
    have HB0 : Hid (Below w.heap.size w (w1.alloc (.cells #[.int .i64 r, .int .i64 c, .slice A1 n1 c1] 26))) := Lib.hid (hbw0.alloc hsz _)
    clear hbw0 ho1 hby e1
    obtain ⟨ma, mb, mc, mf, ml⟩ := hM.mx
    go_wp2_with fail
    generalize (w1.alloc (.cells #[.int .i64 r, .int .i64 c, .slice A1 n1 c1] 26)) = w0 at *
    generalize w1.heap.size = bM at *
    have hbw : Below w0.heap.size w0 w0 := Below.refl _ _
    have hs0 : w.heap.size ≤ w0.heap.size := by have := HB0.out.size; omega
    have hlM := hM.lt
    clear hsz
    rcases hX : hmX r c ys with _ | ⟨s, t⟩
    · have HMX : Hid (hmM r c ys = ⟨0, 0, []⟩) := Lib.hid (by unfold hmM; rw [hX]; rfl)
      have HUX : Hid (hmU r c ys = ⟨0, 0, []⟩) := Lib.hid (by unfold hmU; rw [hX]; rfl)
      have HX := Lib.hid hX
      clear hX
      refine (impl_HermiteForm r c A1 n1 c1 ys _ (B := w0.heap.size) (Kr H1.out) Ks (by omega)).mono ?_
      rw [HX.out, HMX.out, HUX.out]
      rintro e w2 ⟨A2, n2, c2, A3, n3, c3, rfl, ho2, ho3, -, hb2⟩
      have h20 : n2 = 0 := by have := OR.lenEq (xs := []) ho2; simpa using this
      have hk0 : n3 = 0 := by have := OR.lenEq (xs := []) ho3; simpa using this
      subst h20 hk0
      clear ho2 ho3
      have hszw2 := hb2.size; (try simp at hszw2); have hM_1 : BM w2 bM (r) (c) A1 n1 c1 := (Kb hM); have H1_1 : Hid (RI w2 w0.heap.size A1 n1 ys) := Lib.hid (Kr H1.out); have hbw_1 : Below w0.heap.size w0 w2 := Kw; clear hM hbw H1 ma mb mc mf ml hb2; have hM := hM_1; have H1 := H1_1; have hbw := hbw_1; clear hM_1 H1_1 hbw_1; obtain ⟨ma, mb, mc, mf, ml⟩ := hM.mx
      have hA : BM ((w2.alloc (.cells #[.int .i64 0, .int .i64 0, .slice A2 0 c2] 26)).alloc (.cells #[.int .i64 0, .int .i64 0, .slice A3 0 c3] 26)) w2.heap.size 0 0 A2 0 c2 := Ka
      have hB : BM ((w2.alloc (.cells #[.int .i64 0, .int .i64 0, .slice A2 0 c2] 26)).alloc (.cells #[.int .i64 0, .int .i64 0, .slice A3 0 c3] 26)) (w2.heap.size + 1) 0 0 A3 0 c3 := Ka
      obtain ⟨aa, ab, ac, af, al⟩ := hA.mx
      obtain ⟨ba, bb, bc, bf, bl⟩ := hB.mx
      go_wp2_with fail
      refine (spec_HermiteForm r c A1 n1 c1 ys _ (B := w0.heap.size) (Kr H1.out) Ks (by omega)).mono ?_
      rw [HX.out, HMX.out, HUX.out]
      rintro e w4 ⟨A4, n4, c4, A6, n6, c6, rfl, -, -, -, hb4⟩
      have hA_1 : BM w4 w2.heap.size 0 0 A2 0 c2 := Kb hA
      have hB_1 : BM w4 (w2.heap.size + 1) 0 0 A3 0 c3 := Kb hB
      clear hA aa ab ac af al hB ba bb bc bf bl
      have hA := hA_1
      have hB := hB_1
      clear hA_1 hB_1
      obtain ⟨aa, ab, ac, af, al⟩ := hA.mx
      obtain ⟨ba, bb, bc, bf, bl⟩ := hB.mx
      have hszw4 := hb4.size; (try simp at hszw4); have hM_1 : BM w4 bM (r) (c) A1 n1 c1 := (Kb hM); have H1_1 : Hid (RI w4 w0.heap.size A1 n1 ys) := Lib.hid (Kr H1.out); have hbw_1 : Below w0.heap.size w0 w4 := Kw; clear hM hbw H1 ma mb mc mf ml hb4; have hM := hM_1; have H1 := H1_1; have hbw := hbw_1; clear hM_1 H1_1 hbw_1; obtain ⟨ma, mb, mc, mf, ml⟩ := hM.mx
      go_wp2_with fail
      go_ret
      exact ⟨rfl, HB0.out.trans (Below.mono (B := w0.heap.size) Kw hs0)⟩
    · obtain ⟨R, C, rfl, rfl, hR24, hC24, hln⟩ := hmX_nat hX
      have HX := Lib.hid hX
      obtain ⟨s', hs1, hs2⟩ := hm_again hX
      have HA1 := Lib.hid hs1
      have HEC := Lib.hid (hm_herm hX)
      have HDE := Lib.hid (hm_det hX)
      have HPR := Lib.hid (hm_prod hX)
      have HMX : Hid (hmM R C ys = ⟨R, C, tb R C s.f⟩) := Lib.hid (by unfold hmM; rw [hX]; simp [hmMO])
      have HUX : Hid (hmU R C ys = ⟨R, R, tb R R s.g⟩) := Lib.hid (by unfold hmU; rw [hX]; simp [hmUO])
      have HMX' : Hid (hmM R C (tb R C s.f) = ⟨R, C, tb R C s.f⟩) := Lib.hid (by unfold hmM; rw [hs1]; simp [hmMO, hs2])
      have hRC : R * C ≤ 24 * 24 := Nat.mul_le_mul hR24 hC24
      have hRR : R * R ≤ 24 * 24 := Nat.mul_le_mul hR24 hR24
      clear hX hs1 hs2
      refine (impl_HermiteForm R C A1 n1 c1 ys _ (B := w0.heap.size) (Kr H1.out) Ks (by omega)).mono ?_
      rw [HX.out, HMX.out, HUX.out]
      rintro e w2 ⟨A2, n2, c2, A3, n3, c3, rfl, ho2, ho3, -, hb2⟩
      have hn2 := OR.lenEq (xs := tb R C s.f) ho2
      rw [tb_len] at hn2
      have hn3 := OR.lenEq (xs := tb R R s.g) ho3
      rw [tb_len] at hn3
      have hn2x : n2 ≤ 1048576 := by omega
      have hn3x : n3 ≤ 1048576 := by omega
      obtain ⟨hnc2, hcm2⟩ := OR.caps (xs := tb R C s.f) ho2
      have H2 : Hid (RI w2 w2.heap.size A2 n2 (tb R C s.f)) := Lib.hid (OR.reads (xs := tb R C s.f) ho2)
      have H3 : Hid (RI w2 w2.heap.size A3 n3 (tb R R s.g)) := Lib.hid (OR.reads (xs := tb R R s.g) ho3)
      clear ho2 ho3 hn2 hn3
      have hszw2 := hb2.size; (try simp at hszw2); have hM_1 : BM w2 bM ((R : Int)) ((C : Int)) A1 n1 c1 := (Kb hM); have H1_1 : Hid (RI w2 w0.heap.size A1 n1 ys) := Lib.hid (Kr H1.out); have hbw_1 : Below w0.heap.size w0 w2 := Kw; clear hM hbw H1 ma mb mc mf ml hb2; have hM := hM_1; have H1 := H1_1; have hbw := hbw_1; clear hM_1 H1_1 hbw_1; obtain ⟨ma, mb, mc, mf, ml⟩ := hM.mx
      have hA : BM ((w2.alloc (.cells #[.int .i64 R, .int .i64 C, .slice A2 n2 c2] 26)).alloc (.cells #[.int .i64 R, .int .i64 R, .slice A3 n3 c3] 26)) w2.heap.size R C A2 n2 c2 := Ka
      have hB : BM ((w2.alloc (.cells #[.int .i64 R, .int .i64 C, .slice A2 n2 c2] 26)).alloc (.cells #[.int .i64 R, .int .i64 R, .slice A3 n3 c3] 26)) (w2.heap.size + 1) R R A3 n3 c3 := Ka
      obtain ⟨aa, ab, ac, af, al⟩ := hA.mx
      obtain ⟨ba, bb, bc, bf, bl⟩ := hB.mx
      go_wp2_with fail
      refine (spec_HermiteForm R C A1 n1 c1 ys _ (B := w0.heap.size) (Kr H1.out) Ks (by omega)).mono ?_
      rw [HX.out, HMX.out, HUX.out]
      rintro e w4 ⟨A4, n4, c4, A6, n6, c6, rfl, -, -, -, hb4⟩
      have hA_1 : BM w4 w2.heap.size R C A2 n2 c2 := (Kb hA); have hB_1 : BM w4 (w2.heap.size + 1) R R A3 n3 c3 := (Kb hB); have H2_1 : Hid (RI w4 w2.heap.size A2 n2 (tb R C s.f)) := Lib.hid (Kr H2.out); have H3_1 : Hid (RI w4 w2.heap.size A3 n3 (tb R R s.g)) := Lib.hid (Kr H3.out); clear hA hB H2 H3 aa ab ac af al ba bb bc bf bl; have hA := hA_1; have hB := hB_1; have H2 := H2_1; have H3 := H3_1; clear hA_1 hB_1 H2_1 H3_1; obtain ⟨aa, ab, ac, af, al⟩ := hA.mx; obtain ⟨ba, bb, bc, bf, bl⟩ := hB.mx; have hszw4 := hb4.size; (try simp at hszw4); have hM_1 : BM w4 bM ((R : Int)) ((C : Int)) A1 n1 c1 := (Kb hM); have H1_1 : Hid (RI w4 w0.heap.size A1 n1 ys) := Lib.hid (Kr H1.out); have hbw_1 : Below w0.heap.size w0 w4 := Kw; clear hM hbw H1 ma mb mc mf ml hb4; have hM := hM_1; have H1 := H1_1; have hbw := hbw_1; clear hM_1 H1_1 hbw_1; obtain ⟨ma, mb, mc, mf, ml⟩ := hM.mx
      go_wp2_with fail
      refine (impl_MultiplyMatrices R R R C A3 A1 n3 c3 n1 c1 (tb R R s.g) ys _ (B := w2.heap.size) (B' := w0.heap.size) (Kr H3.out) (Kr H1.out) Ks Ks hn3x (by omega)).mono ?_
      obtain ⟨MX, hmx⟩ : ∃ q, mulM R R (tb R R s.g) R C ys = q := ⟨_, rfl⟩
      obtain ⟨fx, hfx⟩ : ∃ q, mulB R R (tb R R s.g) R C ys = q := ⟨_, rfl⟩
      have hxc : fx = false ∨ MX = ⟨R, C, tb R C s.f⟩ := by
        rcases fx with _ | _
        · exact .inl rfl
        · right
          rw [← hmx, mulM_yes hfx]
          simp only [Int.toNat_natCast]
          rw [HPR.out]
      have hml := mulM_lenE R R (tb R R s.g) R C ys
      rw [hmx] at hml
      rw [hmx, hfx]
      have HXC := Lib.hid hxc
      clear hmx hfx hxc
      rintro e w5 ⟨A5, n5, c5, rfl, ho5, hb5⟩
      have hn5 := OR.lenEq (xs := MX.xs) ho5
      have hn5x : n5 ≤ 1048576 := by omega
      have H5 : Hid (RI w5 w5.heap.size A5 n5 MX.xs) := Lib.hid (OR.reads (xs := MX.xs) ho5)
      clear ho5 hn5 hml
      have hA_1 : BM w5 w2.heap.size R C A2 n2 c2 := (Kb hA); have hB_1 : BM w5 (w2.heap.size + 1) R R A3 n3 c3 := (Kb hB); have H2_1 : Hid (RI w5 w2.heap.size A2 n2 (tb R C s.f)) := Lib.hid (Kr H2.out); have H3_1 : Hid (RI w5 w2.heap.size A3 n3 (tb R R s.g)) := Lib.hid (Kr H3.out); clear hA hB H2 H3 aa ab ac af al ba bb bc bf bl; have hA := hA_1; have hB := hB_1; have H2 := H2_1; have H3 := H3_1; clear hA_1 hB_1 H2_1 H3_1; obtain ⟨aa, ab, ac, af, al⟩ := hA.mx; obtain ⟨ba, bb, bc, bf, bl⟩ := hB.mx; have hszw5 := hb5.size; (try simp at hszw5); have hM_1 : BM w5 bM ((R : Int)) ((C : Int)) A1 n1 c1 := (Kb hM); have H1_1 : Hid (RI w5 w0.heap.size A1 n1 ys) := Lib.hid (Kr H1.out); have hbw_1 : Below w0.heap.size w0 w5 := Kw; clear hM hbw H1 ma mb mc mf ml hb5; have hM := hM_1; have H1 := H1_1; have hbw := hbw_1; clear hM_1 H1_1 hbw_1; obtain ⟨ma, mb, mc, mf, ml⟩ := hM.mx
      have hE : BM (w5.alloc (.cells #[.int .i64 MX.r, .int .i64 MX.c, .slice A5 n5 c5] 26)) w5.heap.size MX.r MX.c A5 n5 c5 := Ka
      obtain ⟨ea, eb, ec, ef, el⟩ := hE.mx
      have HR : Hid (RB w5 w.heap.size A n xs) := Lib.hid (RB.below HBY.out (HB0.out.trans (Below.mono (B := w0.heap.size) hbw hs0)) (Nat.le_refl _))
      go_upto_region 11 with fail
      go_cut [12, 13] from 57 to 65 (fun vp vb wc => ∃ (bU : Nat) (fits : Bool) (mx_ : Mx) (A8 : Option Addr) (n8 c8 B8 : Nat), vp = .pointer (some ⟨bU, 0, none⟩) ∧ vb = .bool fits ∧ n8 ≤ 1048576 ∧ (fits = false ∨ (hmX mx_.r mx_.c mx_.xs).isSome = false ∨ ((hmX mx_.r mx_.c mx_.xs).isSome = true ∧ hmM mx_.r mx_.c mx_.xs = ⟨R, C, tb R C s.f⟩)) ∧ BM wc bM R C A1 n1 c1 ∧ RI wc w0.heap.size A1 n1 ys ∧ BM wc w2.heap.size R C A2 n2 c2 ∧ BM wc (w2.heap.size + 1) R R A3 n3 c3 ∧ RI wc w2.heap.size A2 n2 (tb R C s.f) ∧ RI wc w2.heap.size A3 n3 (tb R R s.g) ∧ BM wc w5.heap.size MX.r MX.c A5 n5 c5 ∧ RI wc w5.heap.size A5 n5 MX.xs ∧ BM wc bU mx_.r mx_.c A8 n8 c8 ∧ RI wc B8 A8 n8 mx_.xs ∧ B8 ≤ wc.heap.size ∧ Below w0.heap.size w0 wc ∧ w5.heap.size < wc.heap.size)
      case first =>
        have hlM5 : bM < w5.heap.size := by have := hM.lt; omega
        have ne1 : ¬ bM = w5.heap.size + 1 := by omega
        have ne2 : ¬ w5.heap.size + 1 = bM := by omega
        ((refine wp_region_held_drew (S := (fun w' => w'.cell? ⟨bM, 0, none⟩ = some (.int .i64 R) ∧ w'.cell? ⟨bM, 1, none⟩ = some (.int .i64 C) ∧ w'.cell? ⟨bM, 2, none⟩ = some (.slice A1 n1 c1))) (by kernel_rfl) ?_ (fun hHeld => ?_)); ((focus ((try dsimp only); ((first | (go_keep; done) | exact ⟨ma, mb, mc⟩))))); ((refine tk_ (i := 0) (v := ?_) (y := Or.inl ⟨by rfl, ?_⟩) (h := ?_); rotate_left; (focus (((intro w hSw; (try dsimp only at hSw); go_simp) <;> (try with_reducible rfl)); done)); (try simp only [Act.put, p1_, p2_, p3_]))); ((refine tk_ (i := 1) (v := ?_) (y := Or.inl ⟨by rfl, ?_⟩) (h := ?_); rotate_left; (focus (((intro w hSw; (try dsimp only at hSw); go_simp) <;> (try with_reducible rfl)); done)); (try simp only [Act.put, p1_, p2_, p3_]))); ((refine tk_ (i := 2) (v := ?_) (y := Or.inl ⟨by rfl, ?_⟩) (h := ?_); rotate_left; (focus (((intro w hSw; (try dsimp only at hSw); go_simp) <;> (try with_reducible rfl)); done)); (try simp only [Act.put, p1_, p2_, p3_]))); ((refine tk_ (i := 4) (v := ?_) (y := Or.inl ⟨by rfl, ?_⟩) (h := ?_); rotate_left; (focus (((intro w hSw; (try dsimp only at hSw); go_simp) <;> (try with_reducible rfl)); done)); (try simp only [Act.put, p1_, p2_, p3_]))); (refine wpAnyH_ready (rs := [3, 9]) (by kernel_rfl) (by simp) ?_); (refine AllReadyH.cons (by simp only [e1_, e2_, e3_]; try rfl) ?_ ?_); ((focus ((intro K hK); (go_simp); ((go_at_call 52; refine (laws_mix R A n cap xs _ (by refine RB.moreE (B := w.heap.size) ?_ Ks; (with_reducible (repeat (first | exact HR.out | refine RB.drew ?_ | refine RB.drewN ?_ _ | refine RB.alloc ?_ Ks _ | refine RB.setCell ?_ Ks _ | refine RB.below ?_ (by assumption) Ks)))) (by omega) hR24).mono ?_; rintro e w7 ⟨fx, A7, n7, c7, rfl, ho7, hMF, hb7⟩; have hn7 := OR.lenEq (xs := tb R R fx) ho7; rw [tb_len] at hn7; have hRR : R * R ≤ 24 * 24 := Nat.mul_le_mul hR24 hR24; have hn7x : n7 ≤ 1048576 := (by omega); have H7 : Hid (RI w7 w7.heap.size A7 n7 (tb R R fx)) := Lib.hid (OR.reads (xs := tb R R fx) ho7); have HMF := Lib.hid hMF; clear ho7 hn7 hMF hRR; have hE_1 : BM w7 w5.heap.size MX.r MX.c A5 n5 c5 := (Kb hE); have H5_1 : Hid (RI w7 w5.heap.size A5 n5 MX.xs) := Lib.hid (Kr H5.out); clear hE H5 ea eb ec ef el; have hE := hE_1; have H5 := H5_1; clear hE_1 H5_1; obtain ⟨ea, eb, ec, ef, el⟩ := hE.mx; have hA_1 : BM w7 w2.heap.size R C A2 n2 c2 := (Kb hA); have hB_1 : BM w7 (w2.heap.size + 1) R R A3 n3 c3 := (Kb hB); have H2_1 : Hid (RI w7 w2.heap.size A2 n2 (tb R C s.f)) := Lib.hid (Kr H2.out); have H3_1 : Hid (RI w7 w2.heap.size A3 n3 (tb R R s.g)) := Lib.hid (Kr H3.out); clear hA hB H2 H3 aa ab ac af al ba bb bc bf bl; have hA := hA_1; have hB := hB_1; have H2 := H2_1; have H3 := H3_1; clear hA_1 hB_1 H2_1 H3_1; obtain ⟨aa, ab, ac, af, al⟩ := hA.mx; obtain ⟨ba, bb, bc, bf, bl⟩ := hB.mx; have hszw7 := hb7.size; (try simp at hszw7); have hM_1 : BM w7 bM ((R : Int)) ((C : Int)) A1 n1 c1 := (Kb hM); have H1_1 : Hid (RI w7 w0.heap.size A1 n1 ys) := Lib.hid (Kr H1.out); have hbw_1 : Below w0.heap.size w0 w7 := Kw; clear hM hbw H1 ma mb mc mf ml hb7; have hM := hM_1; have H1 := H1_1; have hbw := hbw_1; clear hM_1 H1_1 hbw_1; obtain ⟨ma, mb, mc, mf, ml⟩ := hM.mx)); ((try go_wp2_with fail)); (refine hK.out _ _ ?_ (fun hHeld => ?_)); ((focus ((try dsimp only); ((first | (go_keep; done) | exact ⟨ma, mb, mc⟩))))); (clear hK K); ((try simp only [Act.put, p1_, p2_, p3_])); (refine wpAnyH_ready (rs := [5, 9]) (by kernel_rfl) (by simp) ?_); (refine AllReadyH.cons (by simp only [e1_, e2_, e3_]; try rfl) ?_ ?_); ((focus ((intro K hK); (go_simp); ((go_at_call 40; obtain ⟨mx_, hmx⟩ : ∃ q, mulM R R (tb R R fx) R C ys = q := ⟨_, rfl⟩; obtain ⟨fits, hfits⟩ : ∃ q, mulB R R (tb R R fx) R C ys = q := ⟨_, rfl⟩; have HCS := Lib.hid (hm_mixed HX.out HMF.out.spn hmx hfits); have hml := mulM_lenE R R (tb R R fx) R C ys; refine (impl_MultiplyMatrices R R R C A7 A1 n7 c7 n1 c1 (tb R R fx) ys _ (B := w7.heap.size) (B' := w0.heap.size) (Kr H7.out) (Kr H1.out) Ks Ks hn7x (by omega)).mono ?_; rw [hmx, hfits]; rw [hmx] at hml; clear hmx hfits; rintro e w8 ⟨A8, n8, c8, rfl, ho8, hb8⟩; have hx8 := hb8.size; (try simp at hx8); have hn8 := OR.lenEq (xs := mx_.xs) ho8; have hn8x : n8 ≤ 1048576 := (by omega); have kO := OR.own (xs := mx_.xs) ho8; (try simp at kO); have ho8_ : OR w8 0 (.slice A8 n8 c8) mx_.xs := OR.mono (xs := mx_.xs) ho8 (Nat.zero_le _); clear ho8 hn8 hml; have nx1 : ¬ bM = w8.heap.size := (by omega); have nx2 : ¬ w8.heap.size = bM := (by omega); have k9 : ¬ Value.ownBlock (.slice A8 n8 c8) = some w8.heap.size := (fun e => by have := kO _ e; omega); clear kO hx8; have hE_1 : BM w8 w5.heap.size MX.r MX.c A5 n5 c5 := (Kb hE); have H5_1 : Hid (RI w8 w5.heap.size A5 n5 MX.xs) := Lib.hid (Kr H5.out); clear hE H5 ea eb ec ef el; have hE := hE_1; have H5 := H5_1; clear hE_1 H5_1; obtain ⟨ea, eb, ec, ef, el⟩ := hE.mx; have hA_1 : BM w8 w2.heap.size R C A2 n2 c2 := (Kb hA); have hB_1 : BM w8 (w2.heap.size + 1) R R A3 n3 c3 := (Kb hB); have H2_1 : Hid (RI w8 w2.heap.size A2 n2 (tb R C s.f)) := Lib.hid (Kr H2.out); have H3_1 : Hid (RI w8 w2.heap.size A3 n3 (tb R R s.g)) := Lib.hid (Kr H3.out); clear hA hB H2 H3 aa ab ac af al ba bb bc bf bl; have hA := hA_1; have hB := hB_1; have H2 := H2_1; have H3 := H3_1; clear hA_1 hB_1 H2_1 H3_1; obtain ⟨aa, ab, ac, af, al⟩ := hA.mx; obtain ⟨ba, bb, bc, bf, bl⟩ := hB.mx; have hszw8 := hb8.size; (try simp at hszw8); have hM_1 : BM w8 bM ((R : Int)) ((C : Int)) A1 n1 c1 := (Kb hM); have H1_1 : Hid (RI w8 w0.heap.size A1 n1 ys) := Lib.hid (Kr H1.out); have hbw_1 : Below w0.heap.size w0 w8 := Kw; clear hM hbw H1 ma mb mc mf ml hb8; have hM := hM_1; have H1 := H1_1; have hbw := hbw_1; clear hM_1 H1_1 hbw_1; obtain ⟨ma, mb, mc, mf, ml⟩ := hM.mx)); ((try go_wp2_with fail)); (refine hK.out _ _ ?_ (fun hHeld => ?_)); ((focus ((try dsimp only); ((first | (go_keep; done) | exact ⟨ma, mb, mc⟩))))); (clear hK K); ((try simp only [Act.put, p1_, p2_, p3_])); ((refine tk_ (i := 6) (v := ?_) (y := Or.inl ⟨by rfl, ?_⟩) (h := ?_); rotate_left; (focus (((intro w hSw; (try dsimp only at hSw); go_simp) <;> (try with_reducible rfl)); done)); (try simp only [Act.put, p1_, p2_, p3_]))); ((refine tk_ (i := 7) (v := ?_) (y := Or.inl ⟨by rfl, ?_⟩) (h := ?_); rotate_left; (focus (((intro w hSw; (try dsimp only at hSw); go_simp) <;> (try with_reducible rfl)); done)); (try simp only [Act.put, p1_, p2_, p3_]))); ((refine tk_ (i := 8) (v := ?_) (y := Or.inl ⟨by rfl, ?_⟩) (h := ?_); rotate_left; (focus (((intro w hSw; (try dsimp only at hSw); go_simp) <;> (try with_reducible rfl)); done)); (try simp only [Act.put, p1_, p2_, p3_]))); (refine wpAnyH_ready (rs := [9]) (by kernel_rfl) (by simp) ?_); (refine AllReadyH.cons (by simp only [e1_, e2_, e3_]; try rfl) ?_ ?_); ((focus ((intro K hK); (go_simp); ((try go_wp2_with fail)); (refine hK.out _ _ ?_ (fun hHeld => ?_)); ((focus ((try dsimp only); ((first | (go_keep; done) | exact ⟨ma, mb, mc⟩))))); (clear hK K); ((try simp only [Act.put, p1_, p2_, p3_])); (refine wpAnyH_ready (rs := [10]) (by kernel_rfl) (by simp) ?_); (refine AllReadyH.cons (by simp only [e1_, e2_, e3_]; try rfl) ?_ ?_); ((focus ((intro K hK); (go_simp); ((try go_wp2_with fail)); (refine hK.out _ _ ?_ (fun hHeld => ?_)); ((focus ((try dsimp only); ((first | (go_keep; done) | exact ⟨ma, mb, mc⟩))))); (clear hK K); ((try simp only [Act.put, p1_, p2_, p3_])); ((refine tk_ (i := 11) (v := ?_) (y := Or.inl ⟨by rfl, ?_⟩) (h := ?_); rotate_left; (focus (((intro w hSw; (try dsimp only at hSw); go_simp) <;> (try with_reducible rfl)); done)); (try simp only [Act.put, p1_, p2_, p3_]))); (refine wpAnyH_done (by kernel_rfl) ?_ _)))); (rotate_left 1); (exact AllReadyH.nil)))); (rotate_left 1); (exact AllReadyH.nil)))); (rotate_left 1); (refine AllReadyH.cons (by simp only [e1_, e2_, e3_]; try rfl) ?_ ?_); ((focus ((intro K hK); (go_simp); ((try go_wp2_with fail)); (refine hK.out _ _ ?_ (fun hHeld => ?_)); ((focus ((try dsimp only); ((first | (go_keep; done) | exact ⟨ma, mb, mc⟩))))); (clear hK K); ((try simp only [Act.put, p1_, p2_, p3_])); (refine wpAnyH_ready (rs := [5]) (by kernel_rfl) (by simp) ?_); (refine AllReadyH.cons (by simp only [e1_, e2_, e3_]; try rfl) ?_ ?_); ((focus ((intro K hK); (go_simp); ((go_at_call 40; obtain ⟨mx_, hmx⟩ : ∃ q, mulM R R (tb R R fx) R C ys = q := ⟨_, rfl⟩; obtain ⟨fits, hfits⟩ : ∃ q, mulB R R (tb R R fx) R C ys = q := ⟨_, rfl⟩; have HCS := Lib.hid (hm_mixed HX.out HMF.out.spn hmx hfits); have hml := mulM_lenE R R (tb R R fx) R C ys; refine (impl_MultiplyMatrices R R R C A7 A1 n7 c7 n1 c1 (tb R R fx) ys _ (B := w7.heap.size) (B' := w0.heap.size) (Kr H7.out) (Kr H1.out) Ks Ks hn7x (by omega)).mono ?_; rw [hmx, hfits]; rw [hmx] at hml; clear hmx hfits; rintro e w8 ⟨A8, n8, c8, rfl, ho8, hb8⟩; have hx8 := hb8.size; (try simp at hx8); have hn8 := OR.lenEq (xs := mx_.xs) ho8; have hn8x : n8 ≤ 1048576 := (by omega); have kO := OR.own (xs := mx_.xs) ho8; (try simp at kO); have ho8_ : OR w8 0 (.slice A8 n8 c8) mx_.xs := OR.mono (xs := mx_.xs) ho8 (Nat.zero_le _); clear ho8 hn8 hml; have h8 : B3 26 w8 w7.heap.size := (by refine B3.below ?_ hb8 Ks; (with_reducible (repeat (first | refine B3.n_ | exact B3.new _ _ _ _ _ _ rfl | refine B3.drew ?_ | refine B3.drewN ?_ _ | refine B3.alloc ?_ _)))); have nx1 : ¬ bM = w7.heap.size := (by omega); have nx2 : ¬ w7.heap.size = bM := (by omega); have k9 : ¬ Value.ownBlock (.slice A8 n8 c8) = some w7.heap.size := (fun e => by have := kO _ e; omega); clear kO hx8; obtain ⟨x0, x1, x2, hx⟩ := id h8; have z0 := hx.cell 0; have z1 := hx.cell 1; have z2 := hx.cell 2; have zf := hx.frozen; have zl := hx.lt; simp at z0 z1 z2; have hE_1 : BM w8 w5.heap.size MX.r MX.c A5 n5 c5 := (Kb hE); have H5_1 : Hid (RI w8 w5.heap.size A5 n5 MX.xs) := Lib.hid (Kr H5.out); clear hE H5 ea eb ec ef el; have hE := hE_1; have H5 := H5_1; clear hE_1 H5_1; obtain ⟨ea, eb, ec, ef, el⟩ := hE.mx; have hA_1 : BM w8 w2.heap.size R C A2 n2 c2 := (Kb hA); have hB_1 : BM w8 (w2.heap.size + 1) R R A3 n3 c3 := (Kb hB); have H2_1 : Hid (RI w8 w2.heap.size A2 n2 (tb R C s.f)) := Lib.hid (Kr H2.out); have H3_1 : Hid (RI w8 w2.heap.size A3 n3 (tb R R s.g)) := Lib.hid (Kr H3.out); clear hA hB H2 H3 aa ab ac af al ba bb bc bf bl; have hA := hA_1; have hB := hB_1; have H2 := H2_1; have H3 := H3_1; clear hA_1 hB_1 H2_1 H3_1; obtain ⟨aa, ab, ac, af, al⟩ := hA.mx; obtain ⟨ba, bb, bc, bf, bl⟩ := hB.mx; have hszw8 := hb8.size; (try simp at hszw8); have hM_1 : BM w8 bM ((R : Int)) ((C : Int)) A1 n1 c1 := (Kb hM); have H1_1 : Hid (RI w8 w0.heap.size A1 n1 ys) := Lib.hid (Kr H1.out); have hbw_1 : Below w0.heap.size w0 w8 := Kw; clear hM hbw H1 ma mb mc mf ml hb8; have hM := hM_1; have H1 := H1_1; have hbw := hbw_1; clear hM_1 H1_1 hbw_1; obtain ⟨ma, mb, mc, mf, ml⟩ := hM.mx)); ((try go_wp2_with fail)); (refine hK.out _ _ ?_ (fun hHeld => ?_)); ((focus ((try dsimp only); ((first | (go_keep; done) | exact ⟨ma, mb, mc⟩))))); (clear hK K); ((try simp only [Act.put, p1_, p2_, p3_])); ((refine tk_ (i := 6) (v := ?_) (y := Or.inl ⟨by rfl, ?_⟩) (h := ?_); rotate_left; (focus (((intro w hSw; (try dsimp only at hSw); go_simp) <;> (try with_reducible rfl)); done)); (try simp only [Act.put, p1_, p2_, p3_]))); ((refine tk_ (i := 7) (v := ?_) (y := Or.inl ⟨by rfl, ?_⟩) (h := ?_); rotate_left; (focus (((intro w hSw; (try dsimp only at hSw); go_simp) <;> (try with_reducible rfl)); done)); (try simp only [Act.put, p1_, p2_, p3_]))); ((refine tk_ (i := 8) (v := ?_) (y := Or.inl ⟨by rfl, ?_⟩) (h := ?_); rotate_left; (focus (((intro w hSw; (try dsimp only at hSw); go_simp) <;> (try with_reducible rfl)); done)); (try simp only [Act.put, p1_, p2_, p3_]))); (refine wpAnyH_ready (rs := [10]) (by kernel_rfl) (by simp) ?_); (refine AllReadyH.cons (by simp only [e1_, e2_, e3_]; try rfl) ?_ ?_); ((focus ((intro K hK); (go_simp); ((try go_wp2_with fail)); (refine hK.out _ _ ?_ (fun hHeld => ?_)); ((focus ((try dsimp only); ((first | (go_keep; done) | exact ⟨ma, mb, mc⟩))))); (clear hK K); ((try simp only [Act.put, p1_, p2_, p3_])); ((refine tk_ (i := 11) (v := ?_) (y := Or.inl ⟨by rfl, ?_⟩) (h := ?_); rotate_left; (focus (((intro w hSw; (try dsimp only at hSw); go_simp) <;> (try with_reducible rfl)); done)); (try simp only [Act.put, p1_, p2_, p3_]))); (refine wpAnyH_done (by kernel_rfl) ?_ _)))); (rotate_left 1); (exact AllReadyH.nil)))); (rotate_left 1); (exact AllReadyH.nil)))); (rotate_left 1); (exact AllReadyH.nil)))); (rotate_left 2); (refine AllReadyH.cons (by simp only [e1_, e2_, e3_]; try rfl) ?_ ?_); ((focus ((intro K hK); (go_simp); ((try go_wp2_with fail)); (refine hK.out _ _ ?_ (fun hHeld => ?_)); ((focus ((try dsimp only); ((first | (go_keep; done) | exact ⟨ma, mb, mc⟩))))); (clear hK K); ((try simp only [Act.put, p1_, p2_, p3_])); (refine wpAnyH_ready (rs := [3]) (by kernel_rfl) (by simp) ?_); (refine AllReadyH.cons (by simp only [e1_, e2_, e3_]; try rfl) ?_ ?_); ((focus ((intro K hK); (go_simp); ((go_at_call 52; refine (laws_mix R A n cap xs _ (by refine RB.moreE (B := w.heap.size) ?_ Ks; (with_reducible (repeat (first | exact HR.out | refine RB.drew ?_ | refine RB.drewN ?_ _ | refine RB.alloc ?_ Ks _ | refine RB.setCell ?_ Ks _ | refine RB.below ?_ (by assumption) Ks)))) (by omega) hR24).mono ?_; rintro e w7 ⟨fx, A7, n7, c7, rfl, ho7, hMF, hb7⟩; have hn7 := OR.lenEq (xs := tb R R fx) ho7; rw [tb_len] at hn7; have hRR : R * R ≤ 24 * 24 := Nat.mul_le_mul hR24 hR24; have hn7x : n7 ≤ 1048576 := (by omega); have H7 : Hid (RI w7 w7.heap.size A7 n7 (tb R R fx)) := Lib.hid (OR.reads (xs := tb R R fx) ho7); have HMF := Lib.hid hMF; clear ho7 hn7 hMF hRR; have h7 : B3 26 w7 (w5.heap.size + 1) := (by refine B3.below ?_ hb7 Ks; (with_reducible (repeat (first | refine B3.n_ | exact B3.new _ _ _ _ _ _ rfl | refine B3.drew ?_ | refine B3.drewN ?_ _ | refine B3.alloc ?_ _)))); have hE_1 : BM w7 w5.heap.size MX.r MX.c A5 n5 c5 := (Kb hE); have H5_1 : Hid (RI w7 w5.heap.size A5 n5 MX.xs) := Lib.hid (Kr H5.out); clear hE H5 ea eb ec ef el; have hE := hE_1; have H5 := H5_1; clear hE_1 H5_1; obtain ⟨ea, eb, ec, ef, el⟩ := hE.mx; have hA_1 : BM w7 w2.heap.size R C A2 n2 c2 := (Kb hA); have hB_1 : BM w7 (w2.heap.size + 1) R R A3 n3 c3 := (Kb hB); have H2_1 : Hid (RI w7 w2.heap.size A2 n2 (tb R C s.f)) := Lib.hid (Kr H2.out); have H3_1 : Hid (RI w7 w2.heap.size A3 n3 (tb R R s.g)) := Lib.hid (Kr H3.out); clear hA hB H2 H3 aa ab ac af al ba bb bc bf bl; have hA := hA_1; have hB := hB_1; have H2 := H2_1; have H3 := H3_1; clear hA_1 hB_1 H2_1 H3_1; obtain ⟨aa, ab, ac, af, al⟩ := hA.mx; obtain ⟨ba, bb, bc, bf, bl⟩ := hB.mx; have hszw7 := hb7.size; (try simp at hszw7); have hM_1 : BM w7 bM ((R : Int)) ((C : Int)) A1 n1 c1 := (Kb hM); have H1_1 : Hid (RI w7 w0.heap.size A1 n1 ys) := Lib.hid (Kr H1.out); have hbw_1 : Below w0.heap.size w0 w7 := Kw; clear hM hbw H1 ma mb mc mf ml hb7; have hM := hM_1; have H1 := H1_1; have hbw := hbw_1; clear hM_1 H1_1 hbw_1; obtain ⟨ma, mb, mc, mf, ml⟩ := hM.mx)); ((try go_wp2_with fail)); (refine hK.out _ _ ?_ (fun hHeld => ?_)); ((focus ((try dsimp only); ((first | (go_keep; done) | exact ⟨ma, mb, mc⟩))))); (clear hK K); ((try simp only [Act.put, p1_, p2_, p3_])); (refine wpAnyH_ready (rs := [5]) (by kernel_rfl) (by simp) ?_); (refine AllReadyH.cons (by simp only [e1_, e2_, e3_]; try rfl) ?_ ?_); ((focus ((intro K hK); (go_simp); ((go_at_call 40; obtain ⟨mx_, hmx⟩ : ∃ q, mulM R R (tb R R fx) R C ys = q := ⟨_, rfl⟩; obtain ⟨fits, hfits⟩ : ∃ q, mulB R R (tb R R fx) R C ys = q := ⟨_, rfl⟩; have HCS := Lib.hid (hm_mixed HX.out HMF.out.spn hmx hfits); have hml := mulM_lenE R R (tb R R fx) R C ys; refine (impl_MultiplyMatrices R R R C A7 A1 n7 c7 n1 c1 (tb R R fx) ys _ (B := w7.heap.size) (B' := w0.heap.size) (Kr H7.out) (Kr H1.out) Ks Ks hn7x (by omega)).mono ?_; rw [hmx, hfits]; rw [hmx] at hml; clear hmx hfits; rintro e w8 ⟨A8, n8, c8, rfl, ho8, hb8⟩; have hx8 := hb8.size; (try simp at hx8); have hn8 := OR.lenEq (xs := mx_.xs) ho8; have hn8x : n8 ≤ 1048576 := (by omega); have kO := OR.own (xs := mx_.xs) ho8; (try simp at kO); have ho8_ : OR w8 0 (.slice A8 n8 c8) mx_.xs := OR.mono (xs := mx_.xs) ho8 (Nat.zero_le _); clear ho8 hn8 hml; have h8 : B3 26 w8 (w5.heap.size + 1) := (by refine B3.below ?_ hb8 Ks; exact h7); have k9 : ¬ Value.ownBlock (.slice A8 n8 c8) = some (w5.heap.size + 1) := (fun e => by have := kO _ e; omega); clear kO hx8; obtain ⟨x0, x1, x2, hx⟩ := id h8; have z0 := hx.cell 0; have z1 := hx.cell 1; have z2 := hx.cell 2; have zf := hx.frozen; have zl := hx.lt; simp at z0 z1 z2; have hE_1 : BM w8 w5.heap.size MX.r MX.c A5 n5 c5 := (Kb hE); have H5_1 : Hid (RI w8 w5.heap.size A5 n5 MX.xs) := Lib.hid (Kr H5.out); clear hE H5 ea eb ec ef el; have hE := hE_1; have H5 := H5_1; clear hE_1 H5_1; obtain ⟨ea, eb, ec, ef, el⟩ := hE.mx; have hA_1 : BM w8 w2.heap.size R C A2 n2 c2 := (Kb hA); have hB_1 : BM w8 (w2.heap.size + 1) R R A3 n3 c3 := (Kb hB); have H2_1 : Hid (RI w8 w2.heap.size A2 n2 (tb R C s.f)) := Lib.hid (Kr H2.out); have H3_1 : Hid (RI w8 w2.heap.size A3 n3 (tb R R s.g)) := Lib.hid (Kr H3.out); clear hA hB H2 H3 aa ab ac af al ba bb bc bf bl; have hA := hA_1; have hB := hB_1; have H2 := H2_1; have H3 := H3_1; clear hA_1 hB_1 H2_1 H3_1; obtain ⟨aa, ab, ac, af, al⟩ := hA.mx; obtain ⟨ba, bb, bc, bf, bl⟩ := hB.mx; have hszw8 := hb8.size; (try simp at hszw8); have hM_1 : BM w8 bM ((R : Int)) ((C : Int)) A1 n1 c1 := (Kb hM); have H1_1 : Hid (RI w8 w0.heap.size A1 n1 ys) := Lib.hid (Kr H1.out); have hbw_1 : Below w0.heap.size w0 w8 := Kw; clear hM hbw H1 ma mb mc mf ml hb8; have hM := hM_1; have H1 := H1_1; have hbw := hbw_1; clear hM_1 H1_1 hbw_1; obtain ⟨ma, mb, mc, mf, ml⟩ := hM.mx)); ((try go_wp2_with fail)); (refine hK.out _ _ ?_ (fun hHeld => ?_)); ((focus ((try dsimp only); ((first | (go_keep; done) | exact ⟨ma, mb, mc⟩))))); (clear hK K); ((try simp only [Act.put, p1_, p2_, p3_])); ((refine tk_ (i := 6) (v := ?_) (y := Or.inl ⟨by rfl, ?_⟩) (h := ?_); rotate_left; (focus (((intro w hSw; (try dsimp only at hSw); go_simp) <;> (try with_reducible rfl)); done)); (try simp only [Act.put, p1_, p2_, p3_]))); ((refine tk_ (i := 7) (v := ?_) (y := Or.inl ⟨by rfl, ?_⟩) (h := ?_); rotate_left; (focus (((intro w hSw; (try dsimp only at hSw); go_simp) <;> (try with_reducible rfl)); done)); (try simp only [Act.put, p1_, p2_, p3_]))); ((refine tk_ (i := 8) (v := ?_) (y := Or.inl ⟨by rfl, ?_⟩) (h := ?_); rotate_left; (focus (((intro w hSw; (try dsimp only at hSw); go_simp) <;> (try with_reducible rfl)); done)); (try simp only [Act.put, p1_, p2_, p3_]))); (refine wpAnyH_ready (rs := [10]) (by kernel_rfl) (by simp) ?_); (refine AllReadyH.cons (by simp only [e1_, e2_, e3_]; try rfl) ?_ ?_); ((focus ((intro K hK); (go_simp); ((try go_wp2_with fail)); (refine hK.out _ _ ?_ (fun hHeld => ?_)); ((focus ((try dsimp only); ((first | (go_keep; done) | exact ⟨ma, mb, mc⟩))))); (clear hK K); ((try simp only [Act.put, p1_, p2_, p3_])); ((refine tk_ (i := 11) (v := ?_) (y := Or.inl ⟨by rfl, ?_⟩) (h := ?_); rotate_left; (focus (((intro w hSw; (try dsimp only at hSw); go_simp) <;> (try with_reducible rfl)); done)); (try simp only [Act.put, p1_, p2_, p3_]))); (refine wpAnyH_done (by kernel_rfl) ?_ _)))); (rotate_left 1); (exact AllReadyH.nil)))); (rotate_left 1); (exact AllReadyH.nil)))); (rotate_left 1); (exact AllReadyH.nil)))); (rotate_left 1); (exact AllReadyH.nil))
        all_goals
          go_wp2_with fail
          go_meet
          case rel => exact ⟨_, fits, mx_, A8, n8, c8, _, rfl, rfl, hn8x, HCS.out, Kb hM, Kr H1.out, Kb hA, Kb hB, Kr H2.out, Kr H3.out, Kb hE, Kr H5.out, (by first | exact BX.put h8 | (with_reducible (repeat (first | assumption | refine BX.n_ | refine BX.b_ ?_ | apply BX.drew | apply BX.drewN | refine BX.put ?_ | refine BX.put2 ?_ | refine BX.f_ ?_ | apply BX.alloc | refine B3.n_ | refine B3.of (by assumption) | refine B3.b_ ?_ | apply B3.drew | apply B3.drewN | refine B3.f_ ?_ | apply B3.alloc)))), OR.reads (B := 0) (cap := c8) (xs := mx_.xs) (by (repeat (first | (with_reducible exact ho8_) | (with_reducible refine OR.drew ?_) | (with_reducible refine OR.drewN ?_ _) | (with_reducible refine OR.alloc ?_ _) | (refine OR.far ?_ k9 _)))), Nat.le_refl _, Kw, Ks⟩
      obtain ⟨bU, fits, mx_, A8, n8, c8, B8, rfl, rfl, hn8x, hcs, hM8, hry, hA8, hBB8, hra, hrp, hE8, hre, hU, hru, hB8, hbw8, hs8⟩ := hcut
      have hs25 : w2.heap.size + 1 < w5.heap.size := by omega
      clear hM hbw H1 ma mb mc mf ml hA hB H2 H3 aa ab ac af al ba bb bc bf bl hE H5 ea eb ec ef el
      have hM := hM8
      have hbw := hbw8
      have hA := hA8
      have hB := hBB8
      have hE := hE8
      have H1 := Lib.hid hry
      have H2 := Lib.hid hra
      have H3 := Lib.hid hrp
      have H5 := Lib.hid hre
      have H8 := Lib.hid hru
      clear hM8 hbw8 hA8 hBB8 hE8 hry hra hrp hre hru
      obtain ⟨ma, mb, mc, mf, ml⟩ := hM.mx
      obtain ⟨aa, ab, ac, af, al⟩ := hA.mx
      obtain ⟨ba, bb, bc, bf, bl⟩ := hB.mx
      obtain ⟨ea, eb, ec, ef, el⟩ := hE.mx
      obtain ⟨ua, ub, uc, uf, ul⟩ := hU.mx
      obtain ⟨lx1, lx2⟩ := hmM_lenH mx_.r mx_.c mx_.xs
      obtain ⟨MC, hmc⟩ : ∃ q, hmM mx_.r mx_.c mx_.xs = q := ⟨_, rfl⟩
      obtain ⟨b3_, hb3⟩ : ∃ q, (hmX mx_.r mx_.c mx_.xs).isSome = q := ⟨_, rfl⟩
      have HSET : Hid (hmM mx_.r mx_.c mx_.xs = MC ∧ (hmX mx_.r mx_.c mx_.xs).isSome = b3_) := Lib.hid ⟨hmc, hb3⟩
      rw [hmc, hb3] at hcs
      rw [hmc] at lx1
      have HCS := Lib.hid hcs
      clear hmc hb3 hcs
      go_wp2_with fail
      refine (impl_HermiteForm mx_.r mx_.c A8 n8 c8 mx_.xs _ (B := B8) (Kr H8.out) Ks hn8x).mono ?_
      rw [HSET.out.1, HSET.out.2]
      obtain ⟨MU, hmu⟩ : ∃ q, hmU mx_.r mx_.c mx_.xs = q := ⟨_, rfl⟩
      rw [hmu]
      clear hmu
      rintro e w9 ⟨A9, n9, c9, A7, n7, c7, rfl, ho9, -, -, hb9⟩
      have hn9 := OR.lenEq (xs := MC.xs) ho9
      have hn9x : n9 ≤ 1048576 := by omega
      have H9 : Hid (RI w9 w9.heap.size A9 n9 MC.xs) := Lib.hid (OR.reads (xs := MC.xs) ho9)
      clear ho9 hn9 lx1 lx2 ua ub uc uf ul hU
      have hE_1 : BM w9 w5.heap.size MX.r MX.c A5 n5 c5 := (Kb hE); have H5_1 : Hid (RI w9 w5.heap.size A5 n5 MX.xs) := Lib.hid (Kr H5.out); clear hE H5 ea eb ec ef el; have hE := hE_1; have H5 := H5_1; clear hE_1 H5_1; obtain ⟨ea, eb, ec, ef, el⟩ := hE.mx; have hA_1 : BM w9 w2.heap.size R C A2 n2 c2 := (Kb hA); have hB_1 : BM w9 (w2.heap.size + 1) R R A3 n3 c3 := (Kb hB); have H2_1 : Hid (RI w9 w2.heap.size A2 n2 (tb R C s.f)) := Lib.hid (Kr H2.out); have H3_1 : Hid (RI w9 w2.heap.size A3 n3 (tb R R s.g)) := Lib.hid (Kr H3.out); clear hA hB H2 H3 aa ab ac af al ba bb bc bf bl; have hA := hA_1; have hB := hB_1; have H2 := H2_1; have H3 := H3_1; clear hA_1 hB_1 H2_1 H3_1; obtain ⟨aa, ab, ac, af, al⟩ := hA.mx; obtain ⟨ba, bb, bc, bf, bl⟩ := hB.mx; have hszw9 := hb9.size; (try simp at hszw9); have hM_1 : BM w9 bM ((R : Int)) ((C : Int)) A1 n1 c1 := (Kb hM); have H1_1 : Hid (RI w9 w0.heap.size A1 n1 ys) := Lib.hid (Kr H1.out); have hbw_1 : Below w0.heap.size w0 w9 := Kw; clear hM hbw H1 ma mb mc mf ml hb9; have hM := hM_1; have H1 := H1_1; have hbw := hbw_1; clear hM_1 H1_1 hbw_1; obtain ⟨ma, mb, mc, mf, ml⟩ := hM.mx
      have hC : BM ((w9.alloc (.cells #[.int .i64 MC.r, .int .i64 MC.c, .slice A9 n9 c9] 26)).alloc (.cells #[.int .i64 MU.r, .int .i64 MU.c, .slice A7 n7 c7] 26)) w9.heap.size MC.r MC.c A9 n9 c9 := Ka
      obtain ⟨ca, cb, cc, cf, cl⟩ := hC.mx
      go_wp2_with fail
      refine (impl_HermiteForm R C A2 n2 c2 (tb R C s.f) _ (B := w2.heap.size) (Kr H2.out) Ks hn2x).mono ?_
      rw [HA1.out, HMX'.out]
      obtain ⟨MV, hmv⟩ : ∃ q, hmU R C (tb R C s.f) = q := ⟨_, rfl⟩
      rw [hmv]
      clear hmv
      rintro e w10 ⟨A10, n10, c10, A11, n11, c11, rfl, ho10, -, -, hb10⟩
      have hn10 := OR.lenEq (xs := tb R C s.f) ho10
      rw [tb_len] at hn10
      have hn10x : n10 ≤ 1048576 := by omega
      have H10 : Hid (RI w10 w10.heap.size A10 n10 (tb R C s.f)) := Lib.hid (OR.reads (xs := tb R C s.f) ho10)
      clear ho10 hn10
      have hC_1 : BM w10 w9.heap.size MC.r MC.c A9 n9 c9 := (Kb hC); have H9_1 : Hid (RI w10 w9.heap.size A9 n9 MC.xs) := Lib.hid (Kr H9.out); clear hC H9 ca cb cc cf cl; have hC := hC_1; have H9 := H9_1; clear hC_1 H9_1; obtain ⟨ca, cb, cc, cf, cl⟩ := hC.mx; have hE_1 : BM w10 w5.heap.size MX.r MX.c A5 n5 c5 := (Kb hE); have H5_1 : Hid (RI w10 w5.heap.size A5 n5 MX.xs) := Lib.hid (Kr H5.out); clear hE H5 ea eb ec ef el; have hE := hE_1; have H5 := H5_1; clear hE_1 H5_1; obtain ⟨ea, eb, ec, ef, el⟩ := hE.mx; have hA_1 : BM w10 w2.heap.size R C A2 n2 c2 := (Kb hA); have hB_1 : BM w10 (w2.heap.size + 1) R R A3 n3 c3 := (Kb hB); have H2_1 : Hid (RI w10 w2.heap.size A2 n2 (tb R C s.f)) := Lib.hid (Kr H2.out); have H3_1 : Hid (RI w10 w2.heap.size A3 n3 (tb R R s.g)) := Lib.hid (Kr H3.out); clear hA hB H2 H3 aa ab ac af al ba bb bc bf bl; have hA := hA_1; have hB := hB_1; have H2 := H2_1; have H3 := H3_1; clear hA_1 hB_1 H2_1 H3_1; obtain ⟨aa, ab, ac, af, al⟩ := hA.mx; obtain ⟨ba, bb, bc, bf, bl⟩ := hB.mx; have hszw10 := hb10.size; (try simp at hszw10); have hM_1 : BM w10 bM ((R : Int)) ((C : Int)) A1 n1 c1 := (Kb hM); have H1_1 : Hid (RI w10 w0.heap.size A1 n1 ys) := Lib.hid (Kr H1.out); have hbw_1 : Below w0.heap.size w0 w10 := Kw; clear hM hbw H1 ma mb mc mf ml hb10; have hM := hM_1; have H1 := H1_1; have hbw := hbw_1; clear hM_1 H1_1 hbw_1; obtain ⟨ma, mb, mc, mf, ml⟩ := hM.mx
      have hS : BM ((w10.alloc (.cells #[.int .i64 R, .int .i64 C, .slice A10 n10 c10] 26)).alloc (.cells #[.int .i64 MV.r, .int .i64 MV.c, .slice A11 n11 c11] 26)) w10.heap.size R C A10 n10 c10 := Ka
      obtain ⟨sa, sb, sc, sf, sl⟩ := hS.mx
      go_wp2_with fail
      refine (impl_IsHermite R C A2 n2 c2 (tb R C s.f) _ (B := w2.heap.size) (Kr H2.out) Ks hn2x hnc2 hcm2).mono ?_
      rw [HEC.out]
      rintro e w12 ⟨rfl, hb12⟩
      have hS_1 : BM w12 w10.heap.size R C A10 n10 c10 := (Kb hS); have H10_1 : Hid (RI w12 w10.heap.size A10 n10 (tb R C s.f)) := Lib.hid (Kr H10.out); clear hS H10 sa sb sc sf sl; have hS := hS_1; have H10 := H10_1; clear hS_1 H10_1; obtain ⟨sa, sb, sc, sf, sl⟩ := hS.mx; have hC_1 : BM w12 w9.heap.size MC.r MC.c A9 n9 c9 := (Kb hC); have H9_1 : Hid (RI w12 w9.heap.size A9 n9 MC.xs) := Lib.hid (Kr H9.out); clear hC H9 ca cb cc cf cl; have hC := hC_1; have H9 := H9_1; clear hC_1 H9_1; obtain ⟨ca, cb, cc, cf, cl⟩ := hC.mx; have hE_1 : BM w12 w5.heap.size MX.r MX.c A5 n5 c5 := (Kb hE); have H5_1 : Hid (RI w12 w5.heap.size A5 n5 MX.xs) := Lib.hid (Kr H5.out); clear hE H5 ea eb ec ef el; have hE := hE_1; have H5 := H5_1; clear hE_1 H5_1; obtain ⟨ea, eb, ec, ef, el⟩ := hE.mx; have hA_1 : BM w12 w2.heap.size R C A2 n2 c2 := (Kb hA); have hB_1 : BM w12 (w2.heap.size + 1) R R A3 n3 c3 := (Kb hB); have H2_1 : Hid (RI w12 w2.heap.size A2 n2 (tb R C s.f)) := Lib.hid (Kr H2.out); have H3_1 : Hid (RI w12 w2.heap.size A3 n3 (tb R R s.g)) := Lib.hid (Kr H3.out); clear hA hB H2 H3 aa ab ac af al ba bb bc bf bl; have hA := hA_1; have hB := hB_1; have H2 := H2_1; have H3 := H3_1; clear hA_1 hB_1 H2_1 H3_1; obtain ⟨aa, ab, ac, af, al⟩ := hA.mx; obtain ⟨ba, bb, bc, bf, bl⟩ := hB.mx; have hszw12 := hb12.size; (try simp at hszw12); have hM_1 : BM w12 bM ((R : Int)) ((C : Int)) A1 n1 c1 := (Kb hM); have H1_1 : Hid (RI w12 w0.heap.size A1 n1 ys) := Lib.hid (Kr H1.out); have hbw_1 : Below w0.heap.size w0 w12 := Kw; clear hM hbw H1 ma mb mc mf ml hb12; have hM := hM_1; have H1 := H1_1; have hbw := hbw_1; clear hM_1 H1_1 hbw_1; obtain ⟨ma, mb, mc, mf, ml⟩ := hM.mx
      go_wp2_with fail
      refine (spec_IsHermite R C A2 n2 c2 (tb R C s.f) _ (B := w2.heap.size) (Kr H2.out) Ks hn2x).mono ?_
      rw [HEC.out]
      rintro e w13 ⟨rfl, hb13⟩
      have hS_1 : BM w13 w10.heap.size R C A10 n10 c10 := (Kb hS); have H10_1 : Hid (RI w13 w10.heap.size A10 n10 (tb R C s.f)) := Lib.hid (Kr H10.out); clear hS H10 sa sb sc sf sl; have hS := hS_1; have H10 := H10_1; clear hS_1 H10_1; obtain ⟨sa, sb, sc, sf, sl⟩ := hS.mx; have hC_1 : BM w13 w9.heap.size MC.r MC.c A9 n9 c9 := (Kb hC); have H9_1 : Hid (RI w13 w9.heap.size A9 n9 MC.xs) := Lib.hid (Kr H9.out); clear hC H9 ca cb cc cf cl; have hC := hC_1; have H9 := H9_1; clear hC_1 H9_1; obtain ⟨ca, cb, cc, cf, cl⟩ := hC.mx; have hE_1 : BM w13 w5.heap.size MX.r MX.c A5 n5 c5 := (Kb hE); have H5_1 : Hid (RI w13 w5.heap.size A5 n5 MX.xs) := Lib.hid (Kr H5.out); clear hE H5 ea eb ec ef el; have hE := hE_1; have H5 := H5_1; clear hE_1 H5_1; obtain ⟨ea, eb, ec, ef, el⟩ := hE.mx; have hA_1 : BM w13 w2.heap.size R C A2 n2 c2 := (Kb hA); have hB_1 : BM w13 (w2.heap.size + 1) R R A3 n3 c3 := (Kb hB); have H2_1 : Hid (RI w13 w2.heap.size A2 n2 (tb R C s.f)) := Lib.hid (Kr H2.out); have H3_1 : Hid (RI w13 w2.heap.size A3 n3 (tb R R s.g)) := Lib.hid (Kr H3.out); clear hA hB H2 H3 aa ab ac af al ba bb bc bf bl; have hA := hA_1; have hB := hB_1; have H2 := H2_1; have H3 := H3_1; clear hA_1 hB_1 H2_1 H3_1; obtain ⟨aa, ab, ac, af, al⟩ := hA.mx; obtain ⟨ba, bb, bc, bf, bl⟩ := hB.mx; have hszw13 := hb13.size; (try simp at hszw13); have hM_1 : BM w13 bM ((R : Int)) ((C : Int)) A1 n1 c1 := (Kb hM); have H1_1 : Hid (RI w13 w0.heap.size A1 n1 ys) := Lib.hid (Kr H1.out); have hbw_1 : Below w0.heap.size w0 w13 := Kw; clear hM hbw H1 ma mb mc mf ml hb13; have hM := hM_1; have H1 := H1_1; have hbw := hbw_1; clear hM_1 H1_1 hbw_1; obtain ⟨ma, mb, mc, mf, ml⟩ := hM.mx
      go_wp2_with fail
      refine (laws_unimodular R R A3 n3 c3 (tb R R s.g) _ (B := w2.heap.size) (Kr H3.out) Ks hn3x HDE.out).mono ?_
      rintro e w14 ⟨rfl, hb14⟩
      have hS_1 : BM w14 w10.heap.size R C A10 n10 c10 := (Kb hS); have H10_1 : Hid (RI w14 w10.heap.size A10 n10 (tb R C s.f)) := Lib.hid (Kr H10.out); clear hS H10 sa sb sc sf sl; have hS := hS_1; have H10 := H10_1; clear hS_1 H10_1; obtain ⟨sa, sb, sc, sf, sl⟩ := hS.mx; have hC_1 : BM w14 w9.heap.size MC.r MC.c A9 n9 c9 := (Kb hC); have H9_1 : Hid (RI w14 w9.heap.size A9 n9 MC.xs) := Lib.hid (Kr H9.out); clear hC H9 ca cb cc cf cl; have hC := hC_1; have H9 := H9_1; clear hC_1 H9_1; obtain ⟨ca, cb, cc, cf, cl⟩ := hC.mx; have hE_1 : BM w14 w5.heap.size MX.r MX.c A5 n5 c5 := (Kb hE); have H5_1 : Hid (RI w14 w5.heap.size A5 n5 MX.xs) := Lib.hid (Kr H5.out); clear hE H5 ea eb ec ef el; have hE := hE_1; have H5 := H5_1; clear hE_1 H5_1; obtain ⟨ea, eb, ec, ef, el⟩ := hE.mx; have hA_1 : BM w14 w2.heap.size R C A2 n2 c2 := (Kb hA); have hB_1 : BM w14 (w2.heap.size + 1) R R A3 n3 c3 := (Kb hB); have H2_1 : Hid (RI w14 w2.heap.size A2 n2 (tb R C s.f)) := Lib.hid (Kr H2.out); have H3_1 : Hid (RI w14 w2.heap.size A3 n3 (tb R R s.g)) := Lib.hid (Kr H3.out); clear hA hB H2 H3 aa ab ac af al ba bb bc bf bl; have hA := hA_1; have hB := hB_1; have H2 := H2_1; have H3 := H3_1; clear hA_1 hB_1 H2_1 H3_1; obtain ⟨aa, ab, ac, af, al⟩ := hA.mx; obtain ⟨ba, bb, bc, bf, bl⟩ := hB.mx; have hszw14 := hb14.size; (try simp at hszw14); have hM_1 : BM w14 bM ((R : Int)) ((C : Int)) A1 n1 c1 := (Kb hM); have H1_1 : Hid (RI w14 w0.heap.size A1 n1 ys) := Lib.hid (Kr H1.out); have hbw_1 : Below w0.heap.size w0 w14 := Kw; clear hM hbw H1 ma mb mc mf ml hb14; have hM := hM_1; have H1 := H1_1; have hbw := hbw_1; clear hM_1 H1_1 hbw_1; obtain ⟨ma, mb, mc, mf, ml⟩ := hM.mx
      rcases HXC.out with hx | hx
      · subst hx
        rcases HCS.out with hf | hf | ⟨hf1, hf3⟩
        · subst hf
          go_wp2_with fail
          refine (impl_SameMatrix R C R C A10 A2 n10 c10 n2 c2 (tb R C s.f) (tb R C s.f) _ (B := w10.heap.size) (B' := w2.heap.size) (Kr H10.out) (Kr H2.out) Ks Ks hn10x hn2x).mono ?_
          rw [same_self]
          rintro e w20 ⟨rfl, hb20⟩
          have hA_1 : BM w20 w2.heap.size R C A2 n2 c2 := (Kb hA); have hB_1 : BM w20 (w2.heap.size + 1) R R A3 n3 c3 := (Kb hB); have H2_1 : Hid (RI w20 w2.heap.size A2 n2 (tb R C s.f)) := Lib.hid (Kr H2.out); have H3_1 : Hid (RI w20 w2.heap.size A3 n3 (tb R R s.g)) := Lib.hid (Kr H3.out); clear hA hB H2 H3 aa ab ac af al ba bb bc bf bl; have hA := hA_1; have hB := hB_1; have H2 := H2_1; have H3 := H3_1; clear hA_1 hB_1 H2_1 H3_1; obtain ⟨aa, ab, ac, af, al⟩ := hA.mx; obtain ⟨ba, bb, bc, bf, bl⟩ := hB.mx; have hszw20 := hb20.size; (try simp at hszw20); have hM_1 : BM w20 bM ((R : Int)) ((C : Int)) A1 n1 c1 := (Kb hM); have H1_1 : Hid (RI w20 w0.heap.size A1 n1 ys) := Lib.hid (Kr H1.out); have hbw_1 : Below w0.heap.size w0 w20 := Kw; clear hM hbw H1 ma mb mc mf ml hb20; have hM := hM_1; have H1 := H1_1; have hbw := hbw_1; clear hM_1 H1_1 hbw_1; obtain ⟨ma, mb, mc, mf, ml⟩ := hM.mx
          go_wp2_with fail
          go_ret
          exact ⟨rfl, HB0.out.trans (Below.mono (B := w0.heap.size) Kw hs0)⟩
        · subst hf
          rcases fits with _ | _
          · go_wp2_with fail
            refine (impl_SameMatrix R C R C A10 A2 n10 c10 n2 c2 (tb R C s.f) (tb R C s.f) _ (B := w10.heap.size) (B' := w2.heap.size) (Kr H10.out) (Kr H2.out) Ks Ks hn10x hn2x).mono ?_
            rw [same_self]
            rintro e w20 ⟨rfl, hb20⟩
            have hA_1 : BM w20 w2.heap.size R C A2 n2 c2 := (Kb hA); have hB_1 : BM w20 (w2.heap.size + 1) R R A3 n3 c3 := (Kb hB); have H2_1 : Hid (RI w20 w2.heap.size A2 n2 (tb R C s.f)) := Lib.hid (Kr H2.out); have H3_1 : Hid (RI w20 w2.heap.size A3 n3 (tb R R s.g)) := Lib.hid (Kr H3.out); clear hA hB H2 H3 aa ab ac af al ba bb bc bf bl; have hA := hA_1; have hB := hB_1; have H2 := H2_1; have H3 := H3_1; clear hA_1 hB_1 H2_1 H3_1; obtain ⟨aa, ab, ac, af, al⟩ := hA.mx; obtain ⟨ba, bb, bc, bf, bl⟩ := hB.mx; have hszw20 := hb20.size; (try simp at hszw20); have hM_1 : BM w20 bM ((R : Int)) ((C : Int)) A1 n1 c1 := (Kb hM); have H1_1 : Hid (RI w20 w0.heap.size A1 n1 ys) := Lib.hid (Kr H1.out); have hbw_1 : Below w0.heap.size w0 w20 := Kw; clear hM hbw H1 ma mb mc mf ml hb20; have hM := hM_1; have H1 := H1_1; have hbw := hbw_1; clear hM_1 H1_1 hbw_1; obtain ⟨ma, mb, mc, mf, ml⟩ := hM.mx
            go_wp2_with fail
            go_ret
            exact ⟨rfl, HB0.out.trans (Below.mono (B := w0.heap.size) Kw hs0)⟩
          · go_wp2_with fail
            refine (impl_SameMatrix R C R C A10 A2 n10 c10 n2 c2 (tb R C s.f) (tb R C s.f) _ (B := w10.heap.size) (B' := w2.heap.size) (Kr H10.out) (Kr H2.out) Ks Ks hn10x hn2x).mono ?_
            rw [same_self]
            rintro e w20 ⟨rfl, hb20⟩
            have hA_1 : BM w20 w2.heap.size R C A2 n2 c2 := (Kb hA); have hB_1 : BM w20 (w2.heap.size + 1) R R A3 n3 c3 := (Kb hB); have H2_1 : Hid (RI w20 w2.heap.size A2 n2 (tb R C s.f)) := Lib.hid (Kr H2.out); have H3_1 : Hid (RI w20 w2.heap.size A3 n3 (tb R R s.g)) := Lib.hid (Kr H3.out); clear hA hB H2 H3 aa ab ac af al ba bb bc bf bl; have hA := hA_1; have hB := hB_1; have H2 := H2_1; have H3 := H3_1; clear hA_1 hB_1 H2_1 H3_1; obtain ⟨aa, ab, ac, af, al⟩ := hA.mx; obtain ⟨ba, bb, bc, bf, bl⟩ := hB.mx; have hszw20 := hb20.size; (try simp at hszw20); have hM_1 : BM w20 bM ((R : Int)) ((C : Int)) A1 n1 c1 := (Kb hM); have H1_1 : Hid (RI w20 w0.heap.size A1 n1 ys) := Lib.hid (Kr H1.out); have hbw_1 : Below w0.heap.size w0 w20 := Kw; clear hM hbw H1 ma mb mc mf ml hb20; have hM := hM_1; have H1 := H1_1; have hbw := hbw_1; clear hM_1 H1_1 hbw_1; obtain ⟨ma, mb, mc, mf, ml⟩ := hM.mx
            go_wp2_with fail
            go_ret
            exact ⟨rfl, HB0.out.trans (Below.mono (B := w0.heap.size) Kw hs0)⟩
        · subst hf1 hf3
          rcases fits with _ | _
          · go_wp2_with fail
            refine (impl_SameMatrix R C R C A10 A2 n10 c10 n2 c2 (tb R C s.f) (tb R C s.f) _ (B := w10.heap.size) (B' := w2.heap.size) (Kr H10.out) (Kr H2.out) Ks Ks hn10x hn2x).mono ?_
            rw [same_self]
            rintro e w20 ⟨rfl, hb20⟩
            have hA_1 : BM w20 w2.heap.size R C A2 n2 c2 := (Kb hA); have hB_1 : BM w20 (w2.heap.size + 1) R R A3 n3 c3 := (Kb hB); have H2_1 : Hid (RI w20 w2.heap.size A2 n2 (tb R C s.f)) := Lib.hid (Kr H2.out); have H3_1 : Hid (RI w20 w2.heap.size A3 n3 (tb R R s.g)) := Lib.hid (Kr H3.out); clear hA hB H2 H3 aa ab ac af al ba bb bc bf bl; have hA := hA_1; have hB := hB_1; have H2 := H2_1; have H3 := H3_1; clear hA_1 hB_1 H2_1 H3_1; obtain ⟨aa, ab, ac, af, al⟩ := hA.mx; obtain ⟨ba, bb, bc, bf, bl⟩ := hB.mx; have hszw20 := hb20.size; (try simp at hszw20); have hM_1 : BM w20 bM ((R : Int)) ((C : Int)) A1 n1 c1 := (Kb hM); have H1_1 : Hid (RI w20 w0.heap.size A1 n1 ys) := Lib.hid (Kr H1.out); have hbw_1 : Below w0.heap.size w0 w20 := Kw; clear hM hbw H1 ma mb mc mf ml hb20; have hM := hM_1; have H1 := H1_1; have hbw := hbw_1; clear hM_1 H1_1 hbw_1; obtain ⟨ma, mb, mc, mf, ml⟩ := hM.mx
            go_wp2_with fail
            go_ret
            exact ⟨rfl, HB0.out.trans (Below.mono (B := w0.heap.size) Kw hs0)⟩
          · have hC_1 : BM w14 w9.heap.size R C A9 n9 c9 := hC
            have H9_1 : Hid (RI w14 w9.heap.size A9 n9 (tb R C s.f)) := H9
            clear hC H9 ca cb cc cf cl
            obtain ⟨ca, cb, cc, cf, cl⟩ := hC_1.mx
            go_wp2_with fail
            refine (impl_SameMatrix R C R C A9 A2 n9 c9 n2 c2 (tb R C s.f) (tb R C s.f) _ (B := w9.heap.size) (B' := w2.heap.size) (Kr H9_1.out) (Kr H2.out) Ks Ks hn9x hn2x).mono ?_
            rw [same_self]
            rintro e w19 ⟨rfl, hb19⟩
            have hS_1 : BM w19 w10.heap.size R C A10 n10 c10 := (Kb hS)
            have H10_1 : Hid (RI w19 w10.heap.size A10 n10 (tb R C s.f)) := Lib.hid (Kr H10.out)
            clear hS H10 sa sb sc sf sl
            have hS := hS_1
            have H10 := H10_1
            clear hS_1 H10_1
            obtain ⟨sa, sb, sc, sf, sl⟩ := hS.mx
            have hA_1 : BM w19 w2.heap.size R C A2 n2 c2 := (Kb hA); have hB_1 : BM w19 (w2.heap.size + 1) R R A3 n3 c3 := (Kb hB); have H2_1 : Hid (RI w19 w2.heap.size A2 n2 (tb R C s.f)) := Lib.hid (Kr H2.out); have H3_1 : Hid (RI w19 w2.heap.size A3 n3 (tb R R s.g)) := Lib.hid (Kr H3.out); clear hA hB H2 H3 aa ab ac af al ba bb bc bf bl; have hA := hA_1; have hB := hB_1; have H2 := H2_1; have H3 := H3_1; clear hA_1 hB_1 H2_1 H3_1; obtain ⟨aa, ab, ac, af, al⟩ := hA.mx; obtain ⟨ba, bb, bc, bf, bl⟩ := hB.mx; have hszw19 := hb19.size; (try simp at hszw19); have hM_1 : BM w19 bM ((R : Int)) ((C : Int)) A1 n1 c1 := (Kb hM); have H1_1 : Hid (RI w19 w0.heap.size A1 n1 ys) := Lib.hid (Kr H1.out); have hbw_1 : Below w0.heap.size w0 w19 := Kw; clear hM hbw H1 ma mb mc mf ml hb19; have hM := hM_1; have H1 := H1_1; have hbw := hbw_1; clear hM_1 H1_1 hbw_1; obtain ⟨ma, mb, mc, mf, ml⟩ := hM.mx
            go_wp2_with fail
            refine (impl_SameMatrix R C R C A10 A2 n10 c10 n2 c2 (tb R C s.f) (tb R C s.f) _ (B := w10.heap.size) (B' := w2.heap.size) (Kr H10.out) (Kr H2.out) Ks Ks hn10x hn2x).mono ?_
            rw [same_self]
            rintro e w20 ⟨rfl, hb20⟩
            have hA_1 : BM w20 w2.heap.size R C A2 n2 c2 := (Kb hA); have hB_1 : BM w20 (w2.heap.size + 1) R R A3 n3 c3 := (Kb hB); have H2_1 : Hid (RI w20 w2.heap.size A2 n2 (tb R C s.f)) := Lib.hid (Kr H2.out); have H3_1 : Hid (RI w20 w2.heap.size A3 n3 (tb R R s.g)) := Lib.hid (Kr H3.out); clear hA hB H2 H3 aa ab ac af al ba bb bc bf bl; have hA := hA_1; have hB := hB_1; have H2 := H2_1; have H3 := H3_1; clear hA_1 hB_1 H2_1 H3_1; obtain ⟨aa, ab, ac, af, al⟩ := hA.mx; obtain ⟨ba, bb, bc, bf, bl⟩ := hB.mx; have hszw20 := hb20.size; (try simp at hszw20); have hM_1 : BM w20 bM ((R : Int)) ((C : Int)) A1 n1 c1 := (Kb hM); have H1_1 : Hid (RI w20 w0.heap.size A1 n1 ys) := Lib.hid (Kr H1.out); have hbw_1 : Below w0.heap.size w0 w20 := Kw; clear hM hbw H1 ma mb mc mf ml hb20; have hM := hM_1; have H1 := H1_1; have hbw := hbw_1; clear hM_1 H1_1 hbw_1; obtain ⟨ma, mb, mc, mf, ml⟩ := hM.mx
            go_wp2_with fail
            go_ret
            exact ⟨rfl, HB0.out.trans (Below.mono (B := w0.heap.size) Kw hs0)⟩
      · subst hx
        rcases fx with _ | _
        · rcases HCS.out with hf | hf | ⟨hf1, hf3⟩
          · subst hf
            go_wp2_with fail
            refine (impl_SameMatrix R C R C A10 A2 n10 c10 n2 c2 (tb R C s.f) (tb R C s.f) _ (B := w10.heap.size) (B' := w2.heap.size) (Kr H10.out) (Kr H2.out) Ks Ks hn10x hn2x).mono ?_
            rw [same_self]
            rintro e w20 ⟨rfl, hb20⟩
            have hA_1 : BM w20 w2.heap.size R C A2 n2 c2 := (Kb hA); have hB_1 : BM w20 (w2.heap.size + 1) R R A3 n3 c3 := (Kb hB); have H2_1 : Hid (RI w20 w2.heap.size A2 n2 (tb R C s.f)) := Lib.hid (Kr H2.out); have H3_1 : Hid (RI w20 w2.heap.size A3 n3 (tb R R s.g)) := Lib.hid (Kr H3.out); clear hA hB H2 H3 aa ab ac af al ba bb bc bf bl; have hA := hA_1; have hB := hB_1; have H2 := H2_1; have H3 := H3_1; clear hA_1 hB_1 H2_1 H3_1; obtain ⟨aa, ab, ac, af, al⟩ := hA.mx; obtain ⟨ba, bb, bc, bf, bl⟩ := hB.mx; have hszw20 := hb20.size; (try simp at hszw20); have hM_1 : BM w20 bM ((R : Int)) ((C : Int)) A1 n1 c1 := (Kb hM); have H1_1 : Hid (RI w20 w0.heap.size A1 n1 ys) := Lib.hid (Kr H1.out); have hbw_1 : Below w0.heap.size w0 w20 := Kw; clear hM hbw H1 ma mb mc mf ml hb20; have hM := hM_1; have H1 := H1_1; have hbw := hbw_1; clear hM_1 H1_1 hbw_1; obtain ⟨ma, mb, mc, mf, ml⟩ := hM.mx
            go_wp2_with fail
            go_ret
            exact ⟨rfl, HB0.out.trans (Below.mono (B := w0.heap.size) Kw hs0)⟩
          · subst hf
            rcases fits with _ | _
            · go_wp2_with fail
              refine (impl_SameMatrix R C R C A10 A2 n10 c10 n2 c2 (tb R C s.f) (tb R C s.f) _ (B := w10.heap.size) (B' := w2.heap.size) (Kr H10.out) (Kr H2.out) Ks Ks hn10x hn2x).mono ?_
              rw [same_self]
              rintro e w20 ⟨rfl, hb20⟩
              have hA_1 : BM w20 w2.heap.size R C A2 n2 c2 := (Kb hA); have hB_1 : BM w20 (w2.heap.size + 1) R R A3 n3 c3 := (Kb hB); have H2_1 : Hid (RI w20 w2.heap.size A2 n2 (tb R C s.f)) := Lib.hid (Kr H2.out); have H3_1 : Hid (RI w20 w2.heap.size A3 n3 (tb R R s.g)) := Lib.hid (Kr H3.out); clear hA hB H2 H3 aa ab ac af al ba bb bc bf bl; have hA := hA_1; have hB := hB_1; have H2 := H2_1; have H3 := H3_1; clear hA_1 hB_1 H2_1 H3_1; obtain ⟨aa, ab, ac, af, al⟩ := hA.mx; obtain ⟨ba, bb, bc, bf, bl⟩ := hB.mx; have hszw20 := hb20.size; (try simp at hszw20); have hM_1 : BM w20 bM ((R : Int)) ((C : Int)) A1 n1 c1 := (Kb hM); have H1_1 : Hid (RI w20 w0.heap.size A1 n1 ys) := Lib.hid (Kr H1.out); have hbw_1 : Below w0.heap.size w0 w20 := Kw; clear hM hbw H1 ma mb mc mf ml hb20; have hM := hM_1; have H1 := H1_1; have hbw := hbw_1; clear hM_1 H1_1 hbw_1; obtain ⟨ma, mb, mc, mf, ml⟩ := hM.mx
              go_wp2_with fail
              go_ret
              exact ⟨rfl, HB0.out.trans (Below.mono (B := w0.heap.size) Kw hs0)⟩
            · go_wp2_with fail
              refine (impl_SameMatrix R C R C A10 A2 n10 c10 n2 c2 (tb R C s.f) (tb R C s.f) _ (B := w10.heap.size) (B' := w2.heap.size) (Kr H10.out) (Kr H2.out) Ks Ks hn10x hn2x).mono ?_
              rw [same_self]
              rintro e w20 ⟨rfl, hb20⟩
              have hA_1 : BM w20 w2.heap.size R C A2 n2 c2 := (Kb hA); have hB_1 : BM w20 (w2.heap.size + 1) R R A3 n3 c3 := (Kb hB); have H2_1 : Hid (RI w20 w2.heap.size A2 n2 (tb R C s.f)) := Lib.hid (Kr H2.out); have H3_1 : Hid (RI w20 w2.heap.size A3 n3 (tb R R s.g)) := Lib.hid (Kr H3.out); clear hA hB H2 H3 aa ab ac af al ba bb bc bf bl; have hA := hA_1; have hB := hB_1; have H2 := H2_1; have H3 := H3_1; clear hA_1 hB_1 H2_1 H3_1; obtain ⟨aa, ab, ac, af, al⟩ := hA.mx; obtain ⟨ba, bb, bc, bf, bl⟩ := hB.mx; have hszw20 := hb20.size; (try simp at hszw20); have hM_1 : BM w20 bM ((R : Int)) ((C : Int)) A1 n1 c1 := (Kb hM); have H1_1 : Hid (RI w20 w0.heap.size A1 n1 ys) := Lib.hid (Kr H1.out); have hbw_1 : Below w0.heap.size w0 w20 := Kw; clear hM hbw H1 ma mb mc mf ml hb20; have hM := hM_1; have H1 := H1_1; have hbw := hbw_1; clear hM_1 H1_1 hbw_1; obtain ⟨ma, mb, mc, mf, ml⟩ := hM.mx
              go_wp2_with fail
              go_ret
              exact ⟨rfl, HB0.out.trans (Below.mono (B := w0.heap.size) Kw hs0)⟩
          · subst hf1 hf3
            rcases fits with _ | _
            · go_wp2_with fail
              refine (impl_SameMatrix R C R C A10 A2 n10 c10 n2 c2 (tb R C s.f) (tb R C s.f) _ (B := w10.heap.size) (B' := w2.heap.size) (Kr H10.out) (Kr H2.out) Ks Ks hn10x hn2x).mono ?_
              rw [same_self]
              rintro e w20 ⟨rfl, hb20⟩
              have hA_1 : BM w20 w2.heap.size R C A2 n2 c2 := (Kb hA); have hB_1 : BM w20 (w2.heap.size + 1) R R A3 n3 c3 := (Kb hB); have H2_1 : Hid (RI w20 w2.heap.size A2 n2 (tb R C s.f)) := Lib.hid (Kr H2.out); have H3_1 : Hid (RI w20 w2.heap.size A3 n3 (tb R R s.g)) := Lib.hid (Kr H3.out); clear hA hB H2 H3 aa ab ac af al ba bb bc bf bl; have hA := hA_1; have hB := hB_1; have H2 := H2_1; have H3 := H3_1; clear hA_1 hB_1 H2_1 H3_1; obtain ⟨aa, ab, ac, af, al⟩ := hA.mx; obtain ⟨ba, bb, bc, bf, bl⟩ := hB.mx; have hszw20 := hb20.size; (try simp at hszw20); have hM_1 : BM w20 bM ((R : Int)) ((C : Int)) A1 n1 c1 := (Kb hM); have H1_1 : Hid (RI w20 w0.heap.size A1 n1 ys) := Lib.hid (Kr H1.out); have hbw_1 : Below w0.heap.size w0 w20 := Kw; clear hM hbw H1 ma mb mc mf ml hb20; have hM := hM_1; have H1 := H1_1; have hbw := hbw_1; clear hM_1 H1_1 hbw_1; obtain ⟨ma, mb, mc, mf, ml⟩ := hM.mx
              go_wp2_with fail
              go_ret
              exact ⟨rfl, HB0.out.trans (Below.mono (B := w0.heap.size) Kw hs0)⟩
            · have hC_1 : BM w14 w9.heap.size R C A9 n9 c9 := hC
              have H9_1 : Hid (RI w14 w9.heap.size A9 n9 (tb R C s.f)) := H9
              clear hC H9 ca cb cc cf cl
              obtain ⟨ca, cb, cc, cf, cl⟩ := hC_1.mx
              go_wp2_with fail
              refine (impl_SameMatrix R C R C A9 A2 n9 c9 n2 c2 (tb R C s.f) (tb R C s.f) _ (B := w9.heap.size) (B' := w2.heap.size) (Kr H9_1.out) (Kr H2.out) Ks Ks hn9x hn2x).mono ?_
              rw [same_self]
              rintro e w19 ⟨rfl, hb19⟩
              have hS_1 : BM w19 w10.heap.size R C A10 n10 c10 := (Kb hS)
              have H10_1 : Hid (RI w19 w10.heap.size A10 n10 (tb R C s.f)) := Lib.hid (Kr H10.out)
              clear hS H10 sa sb sc sf sl
              have hS := hS_1
              have H10 := H10_1
              clear hS_1 H10_1
              obtain ⟨sa, sb, sc, sf, sl⟩ := hS.mx
              have hA_1 : BM w19 w2.heap.size R C A2 n2 c2 := (Kb hA); have hB_1 : BM w19 (w2.heap.size + 1) R R A3 n3 c3 := (Kb hB); have H2_1 : Hid (RI w19 w2.heap.size A2 n2 (tb R C s.f)) := Lib.hid (Kr H2.out); have H3_1 : Hid (RI w19 w2.heap.size A3 n3 (tb R R s.g)) := Lib.hid (Kr H3.out); clear hA hB H2 H3 aa ab ac af al ba bb bc bf bl; have hA := hA_1; have hB := hB_1; have H2 := H2_1; have H3 := H3_1; clear hA_1 hB_1 H2_1 H3_1; obtain ⟨aa, ab, ac, af, al⟩ := hA.mx; obtain ⟨ba, bb, bc, bf, bl⟩ := hB.mx; have hszw19 := hb19.size; (try simp at hszw19); have hM_1 : BM w19 bM ((R : Int)) ((C : Int)) A1 n1 c1 := (Kb hM); have H1_1 : Hid (RI w19 w0.heap.size A1 n1 ys) := Lib.hid (Kr H1.out); have hbw_1 : Below w0.heap.size w0 w19 := Kw; clear hM hbw H1 ma mb mc mf ml hb19; have hM := hM_1; have H1 := H1_1; have hbw := hbw_1; clear hM_1 H1_1 hbw_1; obtain ⟨ma, mb, mc, mf, ml⟩ := hM.mx
              go_wp2_with fail
              refine (impl_SameMatrix R C R C A10 A2 n10 c10 n2 c2 (tb R C s.f) (tb R C s.f) _ (B := w10.heap.size) (B' := w2.heap.size) (Kr H10.out) (Kr H2.out) Ks Ks hn10x hn2x).mono ?_
              rw [same_self]
              rintro e w20 ⟨rfl, hb20⟩
              have hA_1 : BM w20 w2.heap.size R C A2 n2 c2 := (Kb hA); have hB_1 : BM w20 (w2.heap.size + 1) R R A3 n3 c3 := (Kb hB); have H2_1 : Hid (RI w20 w2.heap.size A2 n2 (tb R C s.f)) := Lib.hid (Kr H2.out); have H3_1 : Hid (RI w20 w2.heap.size A3 n3 (tb R R s.g)) := Lib.hid (Kr H3.out); clear hA hB H2 H3 aa ab ac af al ba bb bc bf bl; have hA := hA_1; have hB := hB_1; have H2 := H2_1; have H3 := H3_1; clear hA_1 hB_1 H2_1 H3_1; obtain ⟨aa, ab, ac, af, al⟩ := hA.mx; obtain ⟨ba, bb, bc, bf, bl⟩ := hB.mx; have hszw20 := hb20.size; (try simp at hszw20); have hM_1 : BM w20 bM ((R : Int)) ((C : Int)) A1 n1 c1 := (Kb hM); have H1_1 : Hid (RI w20 w0.heap.size A1 n1 ys) := Lib.hid (Kr H1.out); have hbw_1 : Below w0.heap.size w0 w20 := Kw; clear hM hbw H1 ma mb mc mf ml hb20; have hM := hM_1; have H1 := H1_1; have hbw := hbw_1; clear hM_1 H1_1 hbw_1; obtain ⟨ma, mb, mc, mf, ml⟩ := hM.mx
              go_wp2_with fail
              go_ret
              exact ⟨rfl, HB0.out.trans (Below.mono (B := w0.heap.size) Kw hs0)⟩
        · have hE_1 : BM w14 w5.heap.size R C A5 n5 c5 := hE
          have H5_1 : Hid (RI w14 w5.heap.size A5 n5 (tb R C s.f)) := H5
          clear hE H5 ea eb ec ef el
          obtain ⟨ea, eb, ec, ef, el⟩ := hE_1.mx
          go_wp2_with fail
          refine (impl_SameMatrix R C R C A5 A2 n5 c5 n2 c2 (tb R C s.f) (tb R C s.f) _ (B := w5.heap.size) (B' := w2.heap.size) (Kr H5_1.out) (Kr H2.out) Ks Ks hn5x hn2x).mono ?_
          rw [same_self]
          rintro e w15 ⟨rfl, hb15⟩
          have hS_1 : BM w15 w10.heap.size R C A10 n10 c10 := (Kb hS)
          have H10_1 : Hid (RI w15 w10.heap.size A10 n10 (tb R C s.f)) := Lib.hid (Kr H10.out)
          have hC_1 : BM w15 w9.heap.size MC.r MC.c A9 n9 c9 := (Kb hC)
          have H9_1 : Hid (RI w15 w9.heap.size A9 n9 MC.xs) := Lib.hid (Kr H9.out)
          clear hS H10 sa sb sc sf sl hC H9 ca cb cc cf cl
          have hS := hS_1
          have H10 := H10_1
          have hC := hC_1
          have H9 := H9_1
          clear hS_1 H10_1 hC_1 H9_1
          obtain ⟨sa, sb, sc, sf, sl⟩ := hS.mx
          obtain ⟨ca, cb, cc, cf, cl⟩ := hC.mx
          have hA_1 : BM w15 w2.heap.size R C A2 n2 c2 := (Kb hA); have hB_1 : BM w15 (w2.heap.size + 1) R R A3 n3 c3 := (Kb hB); have H2_1 : Hid (RI w15 w2.heap.size A2 n2 (tb R C s.f)) := Lib.hid (Kr H2.out); have H3_1 : Hid (RI w15 w2.heap.size A3 n3 (tb R R s.g)) := Lib.hid (Kr H3.out); clear hA hB H2 H3 aa ab ac af al ba bb bc bf bl; have hA := hA_1; have hB := hB_1; have H2 := H2_1; have H3 := H3_1; clear hA_1 hB_1 H2_1 H3_1; obtain ⟨aa, ab, ac, af, al⟩ := hA.mx; obtain ⟨ba, bb, bc, bf, bl⟩ := hB.mx; have hszw15 := hb15.size; (try simp at hszw15); have hM_1 : BM w15 bM ((R : Int)) ((C : Int)) A1 n1 c1 := (Kb hM); have H1_1 : Hid (RI w15 w0.heap.size A1 n1 ys) := Lib.hid (Kr H1.out); have hbw_1 : Below w0.heap.size w0 w15 := Kw; clear hM hbw H1 ma mb mc mf ml hb15; have hM := hM_1; have H1 := H1_1; have hbw := hbw_1; clear hM_1 H1_1 hbw_1; obtain ⟨ma, mb, mc, mf, ml⟩ := hM.mx
          rcases HCS.out with hf | hf | ⟨hf1, hf3⟩
          · subst hf
            go_wp2_with fail
            refine (impl_SameMatrix R C R C A10 A2 n10 c10 n2 c2 (tb R C s.f) (tb R C s.f) _ (B := w10.heap.size) (B' := w2.heap.size) (Kr H10.out) (Kr H2.out) Ks Ks hn10x hn2x).mono ?_
            rw [same_self]
            rintro e w20 ⟨rfl, hb20⟩
            have hA_1 : BM w20 w2.heap.size R C A2 n2 c2 := (Kb hA); have hB_1 : BM w20 (w2.heap.size + 1) R R A3 n3 c3 := (Kb hB); have H2_1 : Hid (RI w20 w2.heap.size A2 n2 (tb R C s.f)) := Lib.hid (Kr H2.out); have H3_1 : Hid (RI w20 w2.heap.size A3 n3 (tb R R s.g)) := Lib.hid (Kr H3.out); clear hA hB H2 H3 aa ab ac af al ba bb bc bf bl; have hA := hA_1; have hB := hB_1; have H2 := H2_1; have H3 := H3_1; clear hA_1 hB_1 H2_1 H3_1; obtain ⟨aa, ab, ac, af, al⟩ := hA.mx; obtain ⟨ba, bb, bc, bf, bl⟩ := hB.mx; have hszw20 := hb20.size; (try simp at hszw20); have hM_1 : BM w20 bM ((R : Int)) ((C : Int)) A1 n1 c1 := (Kb hM); have H1_1 : Hid (RI w20 w0.heap.size A1 n1 ys) := Lib.hid (Kr H1.out); have hbw_1 : Below w0.heap.size w0 w20 := Kw; clear hM hbw H1 ma mb mc mf ml hb20; have hM := hM_1; have H1 := H1_1; have hbw := hbw_1; clear hM_1 H1_1 hbw_1; obtain ⟨ma, mb, mc, mf, ml⟩ := hM.mx
            go_wp2_with fail
            go_ret
            exact ⟨rfl, HB0.out.trans (Below.mono (B := w0.heap.size) Kw hs0)⟩
          · subst hf
            rcases fits with _ | _
            · go_wp2_with fail
              refine (impl_SameMatrix R C R C A10 A2 n10 c10 n2 c2 (tb R C s.f) (tb R C s.f) _ (B := w10.heap.size) (B' := w2.heap.size) (Kr H10.out) (Kr H2.out) Ks Ks hn10x hn2x).mono ?_
              rw [same_self]
              rintro e w20 ⟨rfl, hb20⟩
              have hA_1 : BM w20 w2.heap.size R C A2 n2 c2 := (Kb hA); have hB_1 : BM w20 (w2.heap.size + 1) R R A3 n3 c3 := (Kb hB); have H2_1 : Hid (RI w20 w2.heap.size A2 n2 (tb R C s.f)) := Lib.hid (Kr H2.out); have H3_1 : Hid (RI w20 w2.heap.size A3 n3 (tb R R s.g)) := Lib.hid (Kr H3.out); clear hA hB H2 H3 aa ab ac af al ba bb bc bf bl; have hA := hA_1; have hB := hB_1; have H2 := H2_1; have H3 := H3_1; clear hA_1 hB_1 H2_1 H3_1; obtain ⟨aa, ab, ac, af, al⟩ := hA.mx; obtain ⟨ba, bb, bc, bf, bl⟩ := hB.mx; have hszw20 := hb20.size; (try simp at hszw20); have hM_1 : BM w20 bM ((R : Int)) ((C : Int)) A1 n1 c1 := (Kb hM); have H1_1 : Hid (RI w20 w0.heap.size A1 n1 ys) := Lib.hid (Kr H1.out); have hbw_1 : Below w0.heap.size w0 w20 := Kw; clear hM hbw H1 ma mb mc mf ml hb20; have hM := hM_1; have H1 := H1_1; have hbw := hbw_1; clear hM_1 H1_1 hbw_1; obtain ⟨ma, mb, mc, mf, ml⟩ := hM.mx
              go_wp2_with fail
              go_ret
              exact ⟨rfl, HB0.out.trans (Below.mono (B := w0.heap.size) Kw hs0)⟩
            · go_wp2_with fail
              refine (impl_SameMatrix R C R C A10 A2 n10 c10 n2 c2 (tb R C s.f) (tb R C s.f) _ (B := w10.heap.size) (B' := w2.heap.size) (Kr H10.out) (Kr H2.out) Ks Ks hn10x hn2x).mono ?_
              rw [same_self]
              rintro e w20 ⟨rfl, hb20⟩
              have hA_1 : BM w20 w2.heap.size R C A2 n2 c2 := (Kb hA); have hB_1 : BM w20 (w2.heap.size + 1) R R A3 n3 c3 := (Kb hB); have H2_1 : Hid (RI w20 w2.heap.size A2 n2 (tb R C s.f)) := Lib.hid (Kr H2.out); have H3_1 : Hid (RI w20 w2.heap.size A3 n3 (tb R R s.g)) := Lib.hid (Kr H3.out); clear hA hB H2 H3 aa ab ac af al ba bb bc bf bl; have hA := hA_1; have hB := hB_1; have H2 := H2_1; have H3 := H3_1; clear hA_1 hB_1 H2_1 H3_1; obtain ⟨aa, ab, ac, af, al⟩ := hA.mx; obtain ⟨ba, bb, bc, bf, bl⟩ := hB.mx; have hszw20 := hb20.size; (try simp at hszw20); have hM_1 : BM w20 bM ((R : Int)) ((C : Int)) A1 n1 c1 := (Kb hM); have H1_1 : Hid (RI w20 w0.heap.size A1 n1 ys) := Lib.hid (Kr H1.out); have hbw_1 : Below w0.heap.size w0 w20 := Kw; clear hM hbw H1 ma mb mc mf ml hb20; have hM := hM_1; have H1 := H1_1; have hbw := hbw_1; clear hM_1 H1_1 hbw_1; obtain ⟨ma, mb, mc, mf, ml⟩ := hM.mx
              go_wp2_with fail
              go_ret
              exact ⟨rfl, HB0.out.trans (Below.mono (B := w0.heap.size) Kw hs0)⟩
          · subst hf1 hf3
            rcases fits with _ | _
            · go_wp2_with fail
              refine (impl_SameMatrix R C R C A10 A2 n10 c10 n2 c2 (tb R C s.f) (tb R C s.f) _ (B := w10.heap.size) (B' := w2.heap.size) (Kr H10.out) (Kr H2.out) Ks Ks hn10x hn2x).mono ?_
              rw [same_self]
              rintro e w20 ⟨rfl, hb20⟩
              have hA_1 : BM w20 w2.heap.size R C A2 n2 c2 := (Kb hA); have hB_1 : BM w20 (w2.heap.size + 1) R R A3 n3 c3 := (Kb hB); have H2_1 : Hid (RI w20 w2.heap.size A2 n2 (tb R C s.f)) := Lib.hid (Kr H2.out); have H3_1 : Hid (RI w20 w2.heap.size A3 n3 (tb R R s.g)) := Lib.hid (Kr H3.out); clear hA hB H2 H3 aa ab ac af al ba bb bc bf bl; have hA := hA_1; have hB := hB_1; have H2 := H2_1; have H3 := H3_1; clear hA_1 hB_1 H2_1 H3_1; obtain ⟨aa, ab, ac, af, al⟩ := hA.mx; obtain ⟨ba, bb, bc, bf, bl⟩ := hB.mx; have hszw20 := hb20.size; (try simp at hszw20); have hM_1 : BM w20 bM ((R : Int)) ((C : Int)) A1 n1 c1 := (Kb hM); have H1_1 : Hid (RI w20 w0.heap.size A1 n1 ys) := Lib.hid (Kr H1.out); have hbw_1 : Below w0.heap.size w0 w20 := Kw; clear hM hbw H1 ma mb mc mf ml hb20; have hM := hM_1; have H1 := H1_1; have hbw := hbw_1; clear hM_1 H1_1 hbw_1; obtain ⟨ma, mb, mc, mf, ml⟩ := hM.mx
              go_wp2_with fail
              go_ret
              exact ⟨rfl, HB0.out.trans (Below.mono (B := w0.heap.size) Kw hs0)⟩
            · have hC_1 : BM w15 w9.heap.size R C A9 n9 c9 := hC
              have H9_1 : Hid (RI w15 w9.heap.size A9 n9 (tb R C s.f)) := H9
              clear hC H9 ca cb cc cf cl
              obtain ⟨ca, cb, cc, cf, cl⟩ := hC_1.mx
              go_wp2_with fail
              refine (impl_SameMatrix R C R C A9 A2 n9 c9 n2 c2 (tb R C s.f) (tb R C s.f) _ (B := w9.heap.size) (B' := w2.heap.size) (Kr H9_1.out) (Kr H2.out) Ks Ks hn9x hn2x).mono ?_
              rw [same_self]
              rintro e w19 ⟨rfl, hb19⟩
              have hS_1 : BM w19 w10.heap.size R C A10 n10 c10 := (Kb hS)
              have H10_1 : Hid (RI w19 w10.heap.size A10 n10 (tb R C s.f)) := Lib.hid (Kr H10.out)
              clear hS H10 sa sb sc sf sl
              have hS := hS_1
              have H10 := H10_1
              clear hS_1 H10_1
              obtain ⟨sa, sb, sc, sf, sl⟩ := hS.mx
              have hA_1 : BM w19 w2.heap.size R C A2 n2 c2 := (Kb hA); have hB_1 : BM w19 (w2.heap.size + 1) R R A3 n3 c3 := (Kb hB); have H2_1 : Hid (RI w19 w2.heap.size A2 n2 (tb R C s.f)) := Lib.hid (Kr H2.out); have H3_1 : Hid (RI w19 w2.heap.size A3 n3 (tb R R s.g)) := Lib.hid (Kr H3.out); clear hA hB H2 H3 aa ab ac af al ba bb bc bf bl; have hA := hA_1; have hB := hB_1; have H2 := H2_1; have H3 := H3_1; clear hA_1 hB_1 H2_1 H3_1; obtain ⟨aa, ab, ac, af, al⟩ := hA.mx; obtain ⟨ba, bb, bc, bf, bl⟩ := hB.mx; have hszw19 := hb19.size; (try simp at hszw19); have hM_1 : BM w19 bM ((R : Int)) ((C : Int)) A1 n1 c1 := (Kb hM); have H1_1 : Hid (RI w19 w0.heap.size A1 n1 ys) := Lib.hid (Kr H1.out); have hbw_1 : Below w0.heap.size w0 w19 := Kw; clear hM hbw H1 ma mb mc mf ml hb19; have hM := hM_1; have H1 := H1_1; have hbw := hbw_1; clear hM_1 H1_1 hbw_1; obtain ⟨ma, mb, mc, mf, ml⟩ := hM.mx
              go_wp2_with fail
              refine (impl_SameMatrix R C R C A10 A2 n10 c10 n2 c2 (tb R C s.f) (tb R C s.f) _ (B := w10.heap.size) (B' := w2.heap.size) (Kr H10.out) (Kr H2.out) Ks Ks hn10x hn2x).mono ?_
              rw [same_self]
              rintro e w20 ⟨rfl, hb20⟩
              have hA_1 : BM w20 w2.heap.size R C A2 n2 c2 := (Kb hA); have hB_1 : BM w20 (w2.heap.size + 1) R R A3 n3 c3 := (Kb hB); have H2_1 : Hid (RI w20 w2.heap.size A2 n2 (tb R C s.f)) := Lib.hid (Kr H2.out); have H3_1 : Hid (RI w20 w2.heap.size A3 n3 (tb R R s.g)) := Lib.hid (Kr H3.out); clear hA hB H2 H3 aa ab ac af al ba bb bc bf bl; have hA := hA_1; have hB := hB_1; have H2 := H2_1; have H3 := H3_1; clear hA_1 hB_1 H2_1 H3_1; obtain ⟨aa, ab, ac, af, al⟩ := hA.mx; obtain ⟨ba, bb, bc, bf, bl⟩ := hB.mx; have hszw20 := hb20.size; (try simp at hszw20); have hM_1 : BM w20 bM ((R : Int)) ((C : Int)) A1 n1 c1 := (Kb hM); have H1_1 : Hid (RI w20 w0.heap.size A1 n1 ys) := Lib.hid (Kr H1.out); have hbw_1 : Below w0.heap.size w0 w20 := Kw; clear hM hbw H1 ma mb mc mf ml hb20; have hM := hM_1; have H1 := H1_1; have hbw := hbw_1; clear hM_1 H1_1 hbw_1; obtain ⟨ma, mb, mc, mf, ml⟩ := hM.mx
              go_wp2_with fail
              go_ret
              exact ⟨rfl, HB0.out.trans (Below.mono (B := w0.heap.size) Kw hs0)⟩
end Go.Proofs.Ytacjonkehcamgaa

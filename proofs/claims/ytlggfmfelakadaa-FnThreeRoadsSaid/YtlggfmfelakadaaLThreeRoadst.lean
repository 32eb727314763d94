/-
  DERIVED. The law FnThreeRoads: determinants by expansion, by steps without fractions and by images agree, and none is greater than the product of the rows.
-/
import Derived.Test.YtlggfmfelakadaaDrDt
import Derived.Test.YtlggfmfelakadaaT1
import Derived.Test.YtlggfmfelakadaaT8
import Derived.Test.YtlggfmfelakadaaDbJt
import Derived.Test.YtlggfmfelakadaaDbTt
import Derived.Test.YtlggfmfelakadaaT3
namespace Go.Proofs.Ytlggfmfelakadaa
open Go.RowKit
set_option linter.unusedVariables false
set_option linter.unusedSimpArgs false
/-- What the three roads say of one another. -/
structure TRD (a b d n : Option Int) : Prop where
  ab : ∀ x y, a = some x → b = some y → x = y
  ad : ∀ x y, a = some x → d = some y → x = y
  bd : ∀ x y, b = some x → d = some y → x = y
  an : ∀ x y, a = some x → n = some y → (x.natAbs : Int) ≤ y
  dn : ∀ x, d = some x → ∃ y, n = some y
  av : ∀ x, a = some x → -400000000 ≤ x ∧ x ≤ 400000000
theorem dtO_Dt {r c x : Int} {ys : List Int} (h : dtO r c ys = some x) : ∃ R : Nat, r = R ∧ c = R ∧ x = Dt R (fun i j => cel ys R i j) := by
  unfold dtO at h
  split at h
  · rename_i hs
    obtain ⟨hm, he, -⟩ := isSq_iff.1 hs
    subst he
    obtain ⟨R, rfl⟩ := nat_of hm.r0
    simp only [Int.toNat_natCast] at h
    have hl := hm.len
    rw [← Int.natCast_mul] at hl
    exact ⟨R, rfl, rfl, detL_Dt R ys x (by omega) h⟩
  · cases h
theorem bsX_Dt {r c x : Int} {ys : List Int} (h : bsX r c ys = some x) : ∃ R : Nat, r = R ∧ c = R ∧ x = Dt R (fun i j => cel ys R i j) := by
  have h0 := h
  unfold bsX at h
  split at h
  · rename_i hs
    obtain ⟨hm, he, -⟩ := isSq_iff.1 hs
    subst he
    obtain ⟨R, rfl⟩ := nat_of hm.r0
    exact ⟨R, rfl, rfl, bsX_det h0⟩
  · cases h
theorem roads (r c : Int) (ys : List Int) : TRD (dtO r c ys) (bsX r c ys) (dbV r c ys) (bndRes r c ys) where
  ab := fun x y h1 h2 => by
    obtain ⟨R, rfl, -, rfl⟩ := dtO_Dt h1
    obtain ⟨R', h, -, rfl⟩ := bsX_Dt h2
    obtain rfl : R = R' := by omega
    rfl
  ad := fun x y h1 h2 => by
    obtain ⟨R, rfl, -, rfl⟩ := dtO_Dt h1
    obtain ⟨R', h, -, rfl⟩ := db_det h2
    obtain rfl : R = R' := by omega
    rfl
  bd := fun x y h1 h2 => by
    obtain ⟨R, rfl, -, rfl⟩ := bsX_Dt h1
    obtain ⟨R', h, -, rfl⟩ := db_det h2
    obtain rfl : R = R' := by omega
    rfl
  an := fun x y h1 h2 => by
    obtain ⟨R, rfl, -, rfl⟩ := dtO_Dt h1
    obtain ⟨R', h, -, -, hb⟩ := row_bound h2
    obtain rfl : R = R' := by omega
    exact hb
  dn := fun x h => by
    rcases hb : bndRes r c ys with _ | b
    · rw [dbV_none hb] at h; cases h
    · exact ⟨b, rfl⟩
  av := fun x h => dtO_num h
set_option maxRecDepth 100000 in
set_option maxHeartbeats 8000000 in
theorem law_FnThreeRoads (w : World) (A : Option Addr) (n cap : Nat) (xs : List Int) (hnc : n ≤ cap) (hcm : cap ≤ maxLen) (hby : RB w w.heap.size A n xs) :
    Calls Try.prog 4 #[.slice A n cap] w fun e w' => e = .returned (.bool true) ∧ Below w.heap.size w w' := by
  by_cases hn : 1048576 < n
  · go_enter Try.func4, Try.ntmps4
    go_wp2_with (go_at_call 7; refine (laws_big A n cap _).mono ?_; rintro e w1 ⟨rfl, rfl⟩)
    go_ret
    exact ⟨rfl, Below.refl _ _⟩
  · go_enter Try.func4, Try.ntmps4
    go_wp2_with (go_at_call 7; refine (laws_big A n cap _).mono ?_; rintro e w1 ⟨rfl, rfl⟩)
    refine (spec_DrawDeterminantByImages n cap A xs _ hby (by omega)).mono ?_
    rintro e w1 ⟨r, c, A1, n1, c1, ys, rfl, ho1, hl1, hr1, hbw0⟩
    have hsz := hbw0.size
    have e1 := ho1.lenEq
    obtain ⟨e2, e3⟩ := ho1.caps
    have H1 : Hid (RI (w1.alloc (.cells #[.int .i64 r, .int .i64 c, .slice A1 n1 c1] 26)) (w1.alloc (.cells #[.int .i64 r, .int .i64 c, .slice A1 n1 c1] 26)).heap.size A1 n1 ys) := Lib.hid ((ho1.alloc _).reads)
    have hM : BM (w1.alloc (.cells #[.int .i64 r, .int .i64 c, .slice A1 n1 c1] 26)) w1.heap.size r c A1 n1 c1 := Ka
    have n1x : n1 ≤ 17 := by omega
    have HB0 : Hid (Below w.heap.size w (w1.alloc (.cells #[.int .i64 r, .int .i64 c, .slice A1 n1 c1] 26))) := Lib.hid (hbw0.alloc hsz _)
    clear hbw0 ho1 hby e1
    obtain ⟨ma, mb, mc, mf, ml⟩ := hM.mx
    go_wp2_with fail
    generalize (w1.alloc (.cells #[.int .i64 r, .int .i64 c, .slice A1 n1 c1] 26)) = w0 at *
    generalize w1.heap.size = bM at *
    have hbw : Below w0.heap.size w0 w0 := Below.refl _ _
    have hs0 : w.heap.size ≤ w0.heap.size := by have := HB0.out.size; omega
    have hlM := hM.lt
    clear hsz
    have G := roads r c ys
    obtain ⟨X1, h1⟩ : ∃ X, dtO r c ys = X := ⟨_, rfl⟩
    obtain ⟨X2, h2⟩ : ∃ X, bsX r c ys = X := ⟨_, rfl⟩
    obtain ⟨X3, h3⟩ : ∃ X, dbV r c ys = X := ⟨_, rfl⟩
    obtain ⟨X4, h4⟩ : ∃ X, bndRes r c ys = X := ⟨_, rfl⟩
    rw [h1, h2, h3, h4] at G
    have K1 := Lib.hid h1
    have K2 := Lib.hid h2
    have K3 := Lib.hid h3
    have K4 := Lib.hid h4
    have HG := Lib.hid G
    clear h1 h2 h3 h4 G
    refine (impl_DeterminantOf r c A1 n1 c1 ys _ (B := w0.heap.size) (Kr H1.out) Ks (by omega)).mono ?_
    rw [K1.out]
    rintro e w2 ⟨rfl, hb2⟩
    have hszw2 := hb2.size; (try simp at hszw2); have hM_1 : BM w2 bM r c A1 n1 c1 := (Kb hM); have H1_1 : Hid (RI w2 w0.heap.size A1 n1 ys) := Lib.hid (Kr H1.out); have hbw_1 : Below w0.heap.size w0 w2 := Kw; clear hM hbw H1 ma mb mc mf ml hb2; have hM := hM_1; have H1 := H1_1; have hbw := hbw_1; clear hM_1 H1_1 hbw_1; obtain ⟨ma, mb, mc, mf, ml⟩ := hM.mx
    go_wp2_with fail
    refine (spec_DeterminantOf r c A1 n1 c1 ys _ (B := w0.heap.size) (Kr H1.out) Ks (by omega)).mono ?_
    rw [K1.out]
    rintro e w3 ⟨rfl, hb3⟩
    have hszw3 := hb3.size; (try simp at hszw3); have hM_1 : BM w3 bM r c A1 n1 c1 := (Kb hM); have H1_1 : Hid (RI w3 w0.heap.size A1 n1 ys) := Lib.hid (Kr H1.out); have hbw_1 : Below w0.heap.size w0 w3 := Kw; clear hM hbw H1 ma mb mc mf ml hb3; have hM := hM_1; have H1 := H1_1; have hbw := hbw_1; clear hM_1 H1_1 hbw_1; obtain ⟨ma, mb, mc, mf, ml⟩ := hM.mx
    have hne : ∀ b : Bool, (b != b) = false := fun b => by cases b <;> rfl
    rcases X1 with _ | x1
    all_goals
      go_wp2_with fail
      refine (impl_DeterminantBySteps r c A1 n1 c1 ys _ (B := w0.heap.size) (Kr H1.out) Ks (by omega)).mono ?_
      rw [K2.out]
      rintro e w4 ⟨rfl, hb4⟩
      have hszw4 := hb4.size; (try simp at hszw4); have hM_1 : BM w4 bM r c A1 n1 c1 := (Kb hM); have H1_1 : Hid (RI w4 w0.heap.size A1 n1 ys) := Lib.hid (Kr H1.out); have hbw_1 : Below w0.heap.size w0 w4 := Kw; clear hM hbw H1 ma mb mc mf ml hb4; have hM := hM_1; have H1 := H1_1; have hbw := hbw_1; clear hM_1 H1_1 hbw_1; obtain ⟨ma, mb, mc, mf, ml⟩ := hM.mx
      go_wp2_with fail
      refine (impl_DetImages r c A1 n1 c1 ys _ (B := w0.heap.size) (Kr H1.out) Ks (by omega) (by omega) (by omega)).mono ?_
      rw [K3.out]
      rintro e w5 ⟨rfl, hb5⟩
      have hszw5 := hb5.size; (try simp at hszw5); have hM_1 : BM w5 bM r c A1 n1 c1 := (Kb hM); have H1_1 : Hid (RI w5 w0.heap.size A1 n1 ys) := Lib.hid (Kr H1.out); have hbw_1 : Below w0.heap.size w0 w5 := Kw; clear hM hbw H1 ma mb mc mf ml hb5; have hM := hM_1; have H1 := H1_1; have hbw := hbw_1; clear hM_1 H1_1 hbw_1; obtain ⟨ma, mb, mc, mf, ml⟩ := hM.mx
      go_wp2_with fail
      refine (impl_RowBound r c A1 n1 c1 ys _ (B := w0.heap.size) (Kr H1.out) Ks (by omega) (by omega) (by omega)).mono ?_
      rw [K4.out, optV_eq]
      rintro e w6 ⟨rfl, hb6⟩
      have hszw6 := hb6.size; (try simp at hszw6); have hM_1 : BM w6 bM r c A1 n1 c1 := (Kb hM); have H1_1 : Hid (RI w6 w0.heap.size A1 n1 ys) := Lib.hid (Kr H1.out); have hbw_1 : Below w0.heap.size w0 w6 := Kw; clear hM hbw H1 ma mb mc mf ml hb6; have hM := hM_1; have H1 := H1_1; have hbw := hbw_1; clear hM_1 H1_1 hbw_1; obtain ⟨ma, mb, mc, mf, ml⟩ := hM.mx
    · rcases X2 with _ | x2
      · rcases X3 with _ | x3
        · rcases X4 with _ | x4
          · go_wp2_with (go_at_call 23; refine (laws_abs _ (by omega) (by omega) _).mono ?_; rintro e w9 ⟨rfl, rfl⟩)
            go_ret
            exact ⟨rfl, HB0.out.trans (Below.mono (B := w0.heap.size) Kw hs0)⟩
          · go_wp2_with (go_at_call 23; refine (laws_abs _ (by omega) (by omega) _).mono ?_; rintro e w9 ⟨rfl, rfl⟩)
            go_ret
            exact ⟨rfl, HB0.out.trans (Below.mono (B := w0.heap.size) Kw hs0)⟩
        · obtain ⟨x4, rfl⟩ := HG.out.dn x3 rfl
          go_wp2_with (go_at_call 23; refine (laws_abs _ (by omega) (by omega) _).mono ?_; rintro e w9 ⟨rfl, rfl⟩)
          go_ret
          exact ⟨rfl, HB0.out.trans (Below.mono (B := w0.heap.size) Kw hs0)⟩
      · rcases X3 with _ | x3
        · rcases X4 with _ | x4
          · go_wp2_with (go_at_call 23; refine (laws_abs _ (by omega) (by omega) _).mono ?_; rintro e w9 ⟨rfl, rfl⟩)
            go_ret
            exact ⟨rfl, HB0.out.trans (Below.mono (B := w0.heap.size) Kw hs0)⟩
          · go_wp2_with (go_at_call 23; refine (laws_abs _ (by omega) (by omega) _).mono ?_; rintro e w9 ⟨rfl, rfl⟩)
            go_ret
            exact ⟨rfl, HB0.out.trans (Below.mono (B := w0.heap.size) Kw hs0)⟩
        · obtain ⟨x4, rfl⟩ := HG.out.dn x3 rfl
          obtain rfl := HG.out.bd x2 x3 rfl rfl
          go_wp2_with (go_at_call 23; refine (laws_abs _ (by omega) (by omega) _).mono ?_; rintro e w9 ⟨rfl, rfl⟩)
          go_ret
          exact ⟨rfl, HB0.out.trans (Below.mono (B := w0.heap.size) Kw hs0)⟩
    · obtain ⟨v1, v2⟩ := HG.out.av x1 rfl
      rcases X2 with _ | x2
      · rcases X3 with _ | x3
        · rcases X4 with _ | x4
          · go_wp2_with (go_at_call 23; refine (laws_abs _ (by omega) (by omega) _).mono ?_; rintro e w9 ⟨rfl, rfl⟩)
            go_ret
            exact ⟨rfl, HB0.out.trans (Below.mono (B := w0.heap.size) Kw hs0)⟩
          · have t1 : decide ((x1.natAbs : Int) ≤ x4) = true := decide_eq_true (HG.out.an x1 x4 rfl rfl)
            go_wp2_with (go_at_call 23; refine (laws_abs _ (by omega) (by omega) _).mono ?_; rintro e w9 ⟨rfl, rfl⟩)
            go_ret
            exact ⟨rfl, HB0.out.trans (Below.mono (B := w0.heap.size) Kw hs0)⟩
        · obtain ⟨x4, rfl⟩ := HG.out.dn x3 rfl
          obtain rfl := HG.out.ad x1 x3 rfl rfl
          have t1 : decide ((x1.natAbs : Int) ≤ x4) = true := decide_eq_true (HG.out.an x1 x4 rfl rfl)
          go_wp2_with (go_at_call 23; refine (laws_abs _ (by omega) (by omega) _).mono ?_; rintro e w9 ⟨rfl, rfl⟩)
          go_ret
          exact ⟨rfl, HB0.out.trans (Below.mono (B := w0.heap.size) Kw hs0)⟩
      · obtain rfl := HG.out.ab x1 x2 rfl rfl
        rcases X3 with _ | x3
        · rcases X4 with _ | x4
          · go_wp2_with (go_at_call 23; refine (laws_abs _ (by omega) (by omega) _).mono ?_; rintro e w9 ⟨rfl, rfl⟩)
            go_ret
            exact ⟨rfl, HB0.out.trans (Below.mono (B := w0.heap.size) Kw hs0)⟩
          · have t1 : decide ((x1.natAbs : Int) ≤ x4) = true := decide_eq_true (HG.out.an x1 x4 rfl rfl)
            go_wp2_with (go_at_call 23; refine (laws_abs _ (by omega) (by omega) _).mono ?_; rintro e w9 ⟨rfl, rfl⟩)
            go_ret
            exact ⟨rfl, HB0.out.trans (Below.mono (B := w0.heap.size) Kw hs0)⟩
        · obtain ⟨x4, rfl⟩ := HG.out.dn x3 rfl
          obtain rfl := HG.out.ad x1 x3 rfl rfl
          have t1 : decide ((x1.natAbs : Int) ≤ x4) = true := decide_eq_true (HG.out.an x1 x4 rfl rfl)
          go_wp2_with (go_at_call 23; refine (laws_abs _ (by omega) (by omega) _).mono ?_; rintro e w9 ⟨rfl, rfl⟩)
          go_ret
          exact ⟨rfl, HB0.out.trans (Below.mono (B := w0.heap.size) Kw hs0)⟩
end Go.Proofs.Ytlggfmfelakadaa

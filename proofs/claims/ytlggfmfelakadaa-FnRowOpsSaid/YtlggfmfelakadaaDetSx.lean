/-
  DERIVED. l6Det of the reference; DeterminantOf, both sides.
-/
import Derived.Test.YtlggfmfelakadaaDetx
import Derived.Test.YtlggfmfelakadaaX1
namespace Go.Proofs.Ytlggfmfelakadaa
open Go.RowKit
set_option linter.unusedVariables false
set_option linter.unusedSimpArgs false
/-- The sign in column j. -/
def sgD (j : Nat) : Int := if j % 2 = 1 then -1 else 1
theorem sgD_succ (j : Nat) : sgD (j + 1) = -sgD j := by unfold sgD; split <;> split <;> omega
theorem sgD_bd (j : Nat) : -1 ≤ sgD j ∧ sgD j ≤ 1 := by unfold sgD; split <;> omega
theorem sgD_mul (j : Nat) (c : Int) : (if j % 2 = 1 then -c else c) = sgD j * c := by unfold sgD; split <;> omega
theorem sgD_cbd {j : Nat} {c : Int} (h : -400000000 ≤ c ∧ c ≤ 400000000) : -400000000 ≤ sgD j * c ∧ sgD j * c ≤ 400000000 := by rw [← sgD_mul]; split <;> omega
theorem detV_of {X : Option Int} {s : Int} (h : X = if isNum s then some s else none) : detV X = fit s := by
  subst h; unfold detV fit; split <;> rfl
set_option maxRecDepth 100000 in
set_option maxHeartbeats 8000000 in
theorem spec_l6Det : ∀ (n : Nat) (A : Option Addr) (m cap : Nat) (xs : List Int) (w : World) {B : Nat}, RI w B A m xs → B ≤ w.heap.size → xs.length = n * n → n ≤ 24 → xs.all isNum = true →
    Calls Try.prog 63 #[.agg #[.int .i64 n, .int .i64 n, .slice A m cap]] w (BV (.int .i64 (detV (detL n xs))) w) := by
  intro n
  induction n with
  | zero =>
    intro A m cap xs w B h hB hl hn hnum
    have hv : detV (detL 0 xs) = 1 := rfl
    rw [hv]
    clear h hnum hl hv
    go_enter Try.func63, Try.ntmps63
    go_wp2_with fail
    go_ret
    exact BV.mk rfl Kw
  | succ n ih =>
    intro A m cap xs w B h hB hl hn hnum
    obtain ⟨C, hCe⟩ : ∃ C, C = n + 1 := ⟨_, rfl⟩
    have hXS : ∀ s, detS (detL n) C xs C = some s → detL (n + 1) xs = if isNum s then some s else none := fun s h => by rw [detL_succ, ← hCe, h]; rfl
    have hXN : ∀ j, j ≤ C → detS (detL n) C xs j = none → detL (n + 1) xs = none := fun j hj h => by rw [detL_succ, ← hCe, detS_up h C hj]; rfl
    have hln := h.len
    have H2 := Lib.hid (h.more hB)
    clear h
    generalize hXX : detL (n + 1) xs = X at hXS hXN ⊢
    clear hXX
    rw [← hCe] at hl hn ⊢
    have HXS := Lib.hid hXS
    have HXN := Lib.hid hXN
    clear hXS hXN
    have hnC : (C : Int) - 1 = (n : Int) := by omega
    have hCC : C * C ≤ 24 * 24 := Nat.mul_le_mul hn hn
    have hmm : m ≤ C * C ∧ C * C ≤ m := by omega
    have hC0 : 0 < C := by omega
    have hjm : ∀ j, j < C → j < m := fun j hj => by have := Nat.le_mul_of_pos_left C hC0; omega
    have HJM := Lib.hid hjm
    have HNUM : Hid (∀ j, Num (xs.getD j 0)) := Lib.hid (getD_num hnum)
    have HWC : Hid (∀ (j : Nat) w', j < C → RI w' w.heap.size A m xs → w.heap.size ≤ w'.heap.size → Calls Try.prog 104 #[.agg #[.int .i64 C, .int .i64 C, .slice A m cap], .int .i64 0, .int .i64 j] w' (MR ⟨n, n, wcK xs C j (C * C)⟩ w')) := Lib.hid (fun j w' hj k1 k2 => by
      have := spec_l6Without C j A m cap xs w' k1 k2 hl hj hn
      rw [hnC] at this
      exact this)
    have HIH := Lib.hid ih
    have HWL : Hid (∀ j, j < C → (wcK xs C j (C * C)).length = n * n) := Lib.hid (fun j hj => by rw [wcK_len hj, show C - 1 = n by omega])
    have HWN : Hid (∀ j, (wcK xs C j (C * C)).all isNum = true) := Lib.hid (fun j => wcK_num hnum _)
    have HCE := Lib.hid hCe
    have hnn : n ≤ 24 := by omega
    clear ih hnum hl hln hjm hnC hCe
    obtain ⟨b, o, rfl, hbb, hcells⟩ := H2.out.2 (by have := Nat.mul_pos hC0 hC0; omega)
    have HCJ : Hid (∀ (j : Nat) w', j < C → Below w.heap.size w w' → w'.cell? ⟨b, o + j, none⟩ = some (.int .i64 (xs.getD j 0))) := Lib.hid (fun j w' hj hb => (hb.cell (p := ⟨b, o + j, none⟩) (by simpa using hbb)).trans (hcells j (HJM.out j hj)))
    have hCz : ((C : Int) == 0) = false := by simp; omega
    clear hcells
    go_enter Try.func63, Try.ntmps63
    go_wp2_with fail
    go_loopg [3, 4, 5] (C + 1) (fun gn vs vg vj wr => ∃ (j : Nat) (s g : Int), vj = .int .i64 j ∧ vs = .int .i64 s ∧ vg = .int .i64 g ∧ Hid (g = sgD j) ∧ j ≤ C ∧ C - j < gn ∧ Hid (detS (detL n) C xs j = some s) ∧ -((j : Int) * 160000000000000000) ≤ s ∧ s ≤ (j : Int) * 160000000000000000 ∧ BM wr w.heap.size C C (some ⟨b, o, none⟩) m cap ∧ Below w.heap.size w wr)
    case atStart => exact ⟨0, 0, 1, rfl, rfl, rfl, Lib.hid rfl, Nat.zero_le _, by omega, Lib.hid rfl, by omega, by omega, Ka, Kw⟩
    case round =>
      obtain ⟨j, s, g, rfl, rfl, rfl, HG, hj, hgk, HS, hs1, hs2, hM, hbw⟩ := hrel
      obtain ⟨ma, mb, mc, mf, ml⟩ := hM.mx
      have hszr := hbw.size
      have hgb := sgD_bd j
      rw [← HG.out] at hgb
      obtain ⟨hg1, hg2⟩ := hgb
      have wg : IntKind.i64.wrap (-g) = -g := IntWalk.i64_in _ (by omega)
      have HG2 : Hid (-g = sgD (j + 1)) := Lib.hid (by rw [sgD_succ, HG.out])
      by_cases hjC : j < C
      · have hjm := HJM.out j hjC
        have cj := HCJ.out j _ hjC hbw
        have hcn := HNUM.out j
        by_cases hz : xs.getD j 0 = 0
        · have HS2 := Lib.hid (detS_zero HS.out hz)
          rw [hz] at cj
          clear hz hcn
          go_wp2_with fail
          go_roundg (gk - 1)
          case measure => omega
          case rel => exact ⟨j + 1, s, -g, by go_num, rfl, rfl, HG2, by omega, by omega, HS2, by omega, by omega, Kb hM, Kw⟩
        · have hzb : (xs.getD j 0 != 0) = true := by simpa using hz
          have HDJ : Hid (∀ (A5 : Option Addr) (n5 c5 : Nat) w' B', RI w' B' A5 n5 (wcK xs C j (C * C)) → B' ≤ w'.heap.size → Calls Try.prog 63 #[.agg #[.int .i64 n, .int .i64 n, .slice A5 n5 c5]] w' (BV (.int .i64 (detV (detL n (wcK xs C j (C * C))))) w')) := Lib.hid (fun A5 n5 c5 w' B' k1 k2 => HIH.out A5 n5 c5 _ w' k1 k2 (HWL.out j hjC) hnn (HWN.out j))
          have HWJ := Lib.hid (fun w' => HWC.out j w' hjC)
          rcases hd : detL n (wcK xs C j (C * C)) with _ | d
          · rw [hd] at HDJ
            have HX := Lib.hid (HXN.out (j + 1) (by omega) (detS_bad hz hd))
            clear hz hd
            generalize wcK xs C j (C * C) = ys at *
            generalize xs.getD j 0 = c at *
            go_wp2_with fail
            refine (HWJ.out _ (Kr H2.out) Ks).mono ?_
            rintro e w2 ⟨A5, n5, c5, rfl, ho5, hb5⟩
            have HO5 := Lib.hid ho5
            (have hsz_1 := hb5.size); (try simp at hsz_1); (have hM_1 : BM w2 w.heap.size C C (some ⟨b, o, none⟩) m cap := (Kb hM)); (have hbw_1 : Below w.heap.size w w2 := Kw); clear ma mb mc mf ml; clear hM hbw; (have hM := hM_1); (have hbw := hbw_1); clear hM_1 hbw_1; obtain ⟨ma, mb, mc, mf, ml⟩ := hM.mx
            clear ho5
            go_wp2_with fail
            refine (HDJ.out A5 n5 c5 _ _ (OR.reads (xs := ys) HO5.out) (Nat.le_refl _)).mono ?_
            rintro e w3 ⟨rfl, hb6⟩
            (have hsz_1 := hb6.size); (try simp at hsz_1); (have hM_1 : BM w3 w.heap.size C C (some ⟨b, o, none⟩) m cap := (Kb hM)); (have hbw_1 : Below w.heap.size w w3 := Kw); clear ma mb mc mf ml; clear hM hbw; (have hM := hM_1); (have hbw := hbw_1); clear hM_1 hbw_1; obtain ⟨ma, mb, mc, mf, ml⟩ := hM.mx
            have hvb : detV none = -4611686018427387904 := rfl
            go_wp2_with fail
            go_ret
            exact BV.mk (vint (by rw [HX.out]; rfl)) Kw
          · have hdn := detL_num _ _ _ hd
            have HS2 := detS_next HS.out hz hd
            rw [sgD_mul, ← HG.out] at HS2
            have hgc := sgD_cbd (j := j) hcn
            rw [← HG.out] at hgc
            have HS3 := Lib.hid HS2
            have hvd : detV (some d) = d := rfl
            rw [hd, hvd] at HDJ
            have hdb : (d == -4611686018427387904) = false := by
              rw [beq_eq_false_iff_ne]
              have := hdn.1
              omega
            have hc2w : ∀ w', Below w.heap.size w w' → w'.cell? ⟨b, o + j, none⟩ = some (.int .i64 (xs.getD j 0)) := fun w' hb => HCJ.out j w' hjC hb
            have HC2 := Lib.hid hc2w
            clear hz hd HS2 hvd hc2w
            generalize wcK xs C j (C * C) = ys at *
            generalize xs.getD j 0 = c at *
            obtain ⟨hd1, hd2⟩ := hdn
            obtain ⟨hgc1, hgc2⟩ := hgc
            have hcd := mul_bd4 (g * c) d 400000000 400000000 hgc1 hgc2 hd1 hd2
            obtain ⟨k1, k2⟩ := hcd
            have w0' : IntKind.i64.wrap (g * c) = g * c := IntWalk.i64_in _ (by omega)
            have w1' : IntKind.i64.wrap (g * c * d) = g * c * d := IntWalk.i64_in _ (by omega)
            have w2' : IntKind.i64.wrap (s + g * c * d) = s + g * c * d := IntWalk.i64_in _ (by omega)
            go_wp2_with fail
            refine (HWJ.out _ (Kr H2.out) Ks).mono ?_
            rintro e w2 ⟨A5, n5, c5, rfl, ho5, hb5⟩
            have HO5 := Lib.hid ho5
            (have hsz_1 := hb5.size); (try simp at hsz_1); (have hM_1 : BM w2 w.heap.size C C (some ⟨b, o, none⟩) m cap := (Kb hM)); (have hbw_1 : Below w.heap.size w w2 := Kw); clear ma mb mc mf ml; clear hM hbw; (have hM := hM_1); (have hbw := hbw_1); clear hM_1 hbw_1; obtain ⟨ma, mb, mc, mf, ml⟩ := hM.mx
            clear ho5
            go_wp2_with fail
            refine (HDJ.out A5 n5 c5 _ _ (OR.reads (xs := ys) HO5.out) (Nat.le_refl _)).mono ?_
            rintro e w3 ⟨rfl, hb6⟩
            (have hsz_1 := hb6.size); (try simp at hsz_1); (have hM_1 : BM w3 w.heap.size C C (some ⟨b, o, none⟩) m cap := (Kb hM)); (have hbw_1 : Below w.heap.size w w3 := Kw); clear ma mb mc mf ml; clear hM hbw; (have hM := hM_1); (have hbw := hbw_1); clear hM_1 hbw_1; obtain ⟨ma, mb, mc, mf, ml⟩ := hM.mx
            clear cj
            have cj := HC2.out _ hbw
            go_wp2_with fail
            go_roundg (gk - 1)
            case measure => omega
            case rel => exact ⟨j + 1, s + g * c * d, -g, by go_num, rfl, rfl, HG2, by omega, by omega, HS3, by omega, by omega, Kb hM, Kw⟩
      · obtain rfl : j = C := by omega
        have HX := Lib.hid (detV_of (HXS.out s HS.out))
        go_wp2_with fail
        refine (spec_l1Fit s _).mono ?_
        rintro e w' ⟨rfl, rfl⟩
        go_wp2_with fail
        go_ret
        exact BV.mk (vint HX.out.symm) Kw
def dtO (r c : Int) (xs : List Int) : Option Int := if isSq r c xs then detL r.toNat xs else none
/-- A number that may lack: 0 where it does, and the flag. -/
def ODV (o : Option Int) (w : World) (e : Ending) (w' : World) : Prop := e = .returned (.tuple #[.int .i64 (o.getD 0), .bool o.isSome]) ∧ Below w.heap.size w w'
theorem dtO_num {r c : Int} {xs : List Int} {d : Int} (h : dtO r c xs = some d) : Num d := by
  unfold dtO at h
  split at h
  · exact detL_num _ _ _ h
  · cases h
set_option maxHeartbeats 4000000 in
theorem impl_DeterminantOf (r c : Int) (A : Option Addr) (n cap : Nat) (xs : List Int) (w : World) {B : Nat} (h : RI w B A n xs) (hB : B ≤ w.heap.size) (hn : n ≤ 1048576) :
    Calls Try.prog 18 #[.agg #[.int .i64 r, .int .i64 c, .slice A n cap]] w (ODV (dtO r c xs) w) := by
  have H2 := Lib.hid (h.more hB)
  clear h
  rcases hq : isSq r c xs with _ | _
  · have hv : dtO r c xs = none := by unfold dtO; rw [hq]; rfl
    rw [hv]
    have HQ := Lib.hid hq
    clear hq hv
    go_enter Try.func18, Try.ntmps18
    go_wp2_with fail
    refine (impl_IsSquare r c A n cap xs _ (B := w.heap.size) (Kr H2.out) Ks hn).mono ?_
    rw [HQ.out]
    rintro e w1 ⟨rfl, hb1⟩
    have hbw : Below w.heap.size w w1 := Kw
    go_wp2_with fail
    go_ret2
    exact ⟨rfl, Kw⟩
  · have S := isSq_iff.1 hq
    have hv : dtO r c xs = detL r.toNat xs := by unfold dtO; rw [hq]; rfl
    rw [hv]
    obtain ⟨R, rfl⟩ := nat_of S.m.r0
    have hc := S.e
    subst hc
    have hR := S.le
    have HLX : Hid (xs.length = R * R) := Lib.hid (by have := S.m.len; rw [← Int.natCast_mul] at this; omega)
    have HNU := Lib.hid S.m.num
    have HQ := Lib.hid hq
    clear hq hv S
    simp only [Int.toNat_natCast]
    have HD : Hid (∀ w', RI w' w.heap.size A n xs → w.heap.size ≤ w'.heap.size → Calls Try.prog 61 #[.agg #[.int .i64 R, .int .i64 R, .slice A n cap]] w' (DetR (detL R xs) w')) := Lib.hid (fun w' k1 k2 => impl_determinant R A n cap xs w' k1 k2 HLX.out (by omega) HNU.out)
    have hdn := detL_num R xs
    generalize detL R xs = X at *
    rcases X with _ | d
    · skip
      go_enter Try.func18, Try.ntmps18
      go_wp2_with fail
      refine (impl_IsSquare R R A n cap xs _ (B := w.heap.size) (Kr H2.out) Ks hn).mono ?_
      rw [HQ.out]
      rintro e w1 ⟨rfl, hb1⟩
      have hsz1 := hb1.size
      (try simp at hsz1)
      have hM : BM w1 w.heap.size R R A n cap := Ka
      have hbw : Below w.heap.size w w1 := Kw
      have hri : RI w1 w.heap.size A n xs := Kr H2.out
      obtain ⟨ma, mb, mc, mf, ml⟩ := hM.mx
      go_wp2_with fail
      refine (HD.out _ (Kr hri) Ks).mono ?_
      rintro e w2 ⟨⟨v, rfl, -⟩, hb2⟩
      have hbw2 : Below w.heap.size w w2 := Kw
      go_wp2_with fail
      go_ret2
      exact ⟨rfl, Kw⟩
    · skip
      go_enter Try.func18, Try.ntmps18
      go_wp2_with fail
      refine (impl_IsSquare R R A n cap xs _ (B := w.heap.size) (Kr H2.out) Ks hn).mono ?_
      rw [HQ.out]
      rintro e w1 ⟨rfl, hb1⟩
      have hsz1 := hb1.size
      (try simp at hsz1)
      have hM : BM w1 w.heap.size R R A n cap := Ka
      have hbw : Below w.heap.size w w1 := Kw
      have hri : RI w1 w.heap.size A n xs := Kr H2.out
      obtain ⟨ma, mb, mc, mf, ml⟩ := hM.mx
      go_wp2_with fail
      refine (HD.out _ (Kr hri) Ks).mono ?_
      rintro e w2 ⟨⟨v, rfl, hv⟩, hb2⟩
      obtain rfl := hv d rfl
      have hbw2 : Below w.heap.size w w2 := Kw
      go_wp2_with fail
      go_ret2
      exact ⟨rfl, Kw⟩
set_option maxHeartbeats 4000000 in
theorem spec_DeterminantOf (r c : Int) (A : Option Addr) (n cap : Nat) (xs : List Int) (w : World) {B : Nat} (h : RI w B A n xs) (hB : B ≤ w.heap.size) (hn : n ≤ 1048576) :
    Calls Try.prog 19 #[.agg #[.int .i64 r, .int .i64 c, .slice A n cap]] w (ODV (dtO r c xs) w) := by
  have H2 := Lib.hid (h.more hB)
  clear h
  rcases hq : isSq r c xs with _ | _
  · have hv : dtO r c xs = none := by unfold dtO; rw [hq]; rfl
    rw [hv]
    have HQ := Lib.hid hq
    clear hq hv
    go_enter Try.func19, Try.ntmps19
    go_wp2_with fail
    refine (spec_IsSquare r c A n cap xs _ (B := w.heap.size) (Kr H2.out) Ks hn).mono ?_
    rw [HQ.out]
    rintro e w1 ⟨rfl, hb1⟩
    have hbw : Below w.heap.size w w1 := Kw
    go_wp2_with fail
    go_ret2
    exact ⟨rfl, Kw⟩
  · have S := isSq_iff.1 hq
    have hv : dtO r c xs = detL r.toNat xs := by unfold dtO; rw [hq]; rfl
    rw [hv]
    obtain ⟨R, rfl⟩ := nat_of S.m.r0
    have hc := S.e
    subst hc
    have hR := S.le
    have HLX : Hid (xs.length = R * R) := Lib.hid (by have := S.m.len; rw [← Int.natCast_mul] at this; omega)
    have HNU := Lib.hid S.m.num
    have HQ := Lib.hid hq
    clear hq hv S
    simp only [Int.toNat_natCast]
    have HD : Hid (∀ w', RI w' w.heap.size A n xs → w.heap.size ≤ w'.heap.size → Calls Try.prog 63 #[.agg #[.int .i64 R, .int .i64 R, .slice A n cap]] w' (BV (.int .i64 (detV (detL R xs))) w')) := Lib.hid (fun w' k1 k2 => spec_l6Det R A n cap xs w' k1 k2 HLX.out (by omega) HNU.out)
    have hdn := detL_num R xs
    generalize detL R xs = X at *
    rcases X with _ | d
    · have hvb : detV none = -4611686018427387904 := rfl
      rw [hvb] at HD
      clear hvb
      go_enter Try.func19, Try.ntmps19
      go_wp2_with fail
      refine (spec_IsSquare R R A n cap xs _ (B := w.heap.size) (Kr H2.out) Ks hn).mono ?_
      rw [HQ.out]
      rintro e w1 ⟨rfl, hb1⟩
      have hsz1 := hb1.size
      (try simp at hsz1)
      have hM : BM w1 w.heap.size R R A n cap := Ka
      have hbw : Below w.heap.size w w1 := Kw
      have hri : RI w1 w.heap.size A n xs := Kr H2.out
      obtain ⟨ma, mb, mc, mf, ml⟩ := hM.mx
      go_wp2_with fail
      refine (HD.out _ (Kr hri) Ks).mono ?_
      rintro e w2 ⟨rfl, hb2⟩
      have hbw2 : Below w.heap.size w w2 := Kw
      go_wp2_with fail
      go_ret2
      exact ⟨rfl, Kw⟩
    · have hvd : detV (some d) = d := rfl
      rw [hvd] at HD
      have hdb : (d == -4611686018427387904) = false := by
        rw [beq_eq_false_iff_ne]
        have := (hdn d rfl).1
        omega
      clear hvd
      go_enter Try.func19, Try.ntmps19
      go_wp2_with fail
      refine (spec_IsSquare R R A n cap xs _ (B := w.heap.size) (Kr H2.out) Ks hn).mono ?_
      rw [HQ.out]
      rintro e w1 ⟨rfl, hb1⟩
      have hsz1 := hb1.size
      (try simp at hsz1)
      have hM : BM w1 w.heap.size R R A n cap := Ka
      have hbw : Below w.heap.size w w1 := Kw
      have hri : RI w1 w.heap.size A n xs := Kr H2.out
      obtain ⟨ma, mb, mc, mf, ml⟩ := hM.mx
      go_wp2_with fail
      refine (HD.out _ (Kr hri) Ks).mono ?_
      rintro e w2 ⟨rfl, hb2⟩
      have hbw2 : Below w.heap.size w w2 := Kw
      go_wp2_with fail
      go_ret2
      exact ⟨rfl, Kw⟩
end Go.Proofs.Ytlggfmfelakadaa

/-
  DERIVED. determinant of the program, l6Det of the reference, DeterminantOf of both.
-/
import Derived.Test.YtlggfmfelakadaaGreatDoorDetWx
import Derived.Test.YtlggfmfelakadaaGreatDoorc3
import Derived.Test.YtlggfmfelakadaaGreatDoorc2
import Derived.Deep.LoopGhost
namespace Go.Proofs.YtlggfmfelakadaaGreatDoor
open Go.RowKit
set_option linter.unusedVariables false
set_option linter.unusedSimpArgs false
section
variable {D : List Int → Option Int} {C j : Nat} {xs : List Int} {s d : Int}
theorem detS_zero (h : detS D C xs j = some s) (hz : xs.getD j 0 = 0) : detS D C xs (j + 1) = some s := by
  unfold detS; rw [h, Option.bind_some, if_pos hz]
theorem detS_bad (hz : ¬ xs.getD j 0 = 0) (hd : D (wcK xs C j (C * C)) = none) : detS D C xs (j + 1) = none := by
  unfold detS
  cases h : detS D C xs j with
  | none => rfl
  | some s => rw [Option.bind_some, if_neg hz, hd]; rfl
theorem detS_next (h : detS D C xs j = some s) (hz : ¬ xs.getD j 0 = 0) (hd : D (wcK xs C j (C * C)) = some d) : detS D C xs (j + 1) = some (s + (if j % 2 = 1 then -(xs.getD j 0) else xs.getD j 0) * d) := by
  unfold detS; rw [h, Option.bind_some, if_neg hz, hd]; rfl
theorem detS_up (h : detS D C xs j = none) : ∀ k, j ≤ k → detS D C xs k = none
  | 0, hk => by
    have e : j = 0 := by omega
    rw [← e]; exact h
  | k + 1, hk => by
    by_cases e : j = k + 1
    · rw [← e]; exact h
    · have := detS_up h k (by omega)
      unfold detS; rw [this]; rfl
end
theorem detL_succ (n : Nat) (xs : List Int) : detL (n + 1) xs = (detS (detL n) (n + 1) xs (n + 1)).bind fun s => if isNum s then some s else none := rfl
/-- What determinant answers. -/
def DetR (o : Option Int) (w : World) (e : Ending) (w' : World) : Prop := (∃ v, e = .returned (.tuple #[.int .i64 v, .bool o.isSome]) ∧ ∀ d, o = some d → v = d) ∧ Below w.heap.size w w'
def detV (o : Option Int) : Int := o.getD bad
theorem rem2_one {j : Nat} (h : j % 2 = 1) : ((j : Int) % 2 == 1) = true := by
  have : (j : Int) % 2 = 1 := by omega
  rw [this]; rfl
theorem rem2_no {j : Nat} (h : ¬ j % 2 = 1) : ((j : Int) % 2 == 1) = false := by
  have : (j : Int) % 2 = 0 := by omega
  rw [this]; rfl
set_option maxRecDepth 100000 in
set_option maxHeartbeats 8000000 in
theorem impl_determinant : ∀ (n : Nat) (A : Option Addr) (m cap : Nat) (xs : List Int) (w : World) {B : Nat}, RI w B A m xs → B ≤ w.heap.size → xs.length = n * n → n ≤ 24 → xs.all isNum = true →
    Calls Tryz.prog 67 #[.agg #[.int .i64 n, .int .i64 n, .slice A m cap]] w (DetR (detL n xs) w) := by
  intro n
  induction n with
  | zero =>
    intro A m cap xs w B h hB hl hn hnum
    have hv : detL 0 xs = some 1 := rfl
    rw [hv]
    clear h hnum hl hv
    go_enter Tryz.func67, Tryz.ntmps67
    go_wp2_with fail
    go_ret2
    exact ⟨⟨1, rfl, fun d hd => by cases hd; rfl⟩, Kw⟩
  | succ n ih =>
    intro A m cap xs w B h hB hl hn hnum
    obtain ⟨C, hCe⟩ : ∃ C, C = n + 1 := ⟨_, rfl⟩
    have hXS : ∀ s, detS (detL n) C xs C = some s → detL (n + 1) xs = if isNum s then some s else none := fun s h => by rw [detL_succ, ← hCe, h]; rfl
    have hXN : ∀ j, j ≤ C → detS (detL n) C xs j = none → detL (n + 1) xs = none := fun j hj h => by rw [detL_succ, ← hCe, detS_up h C hj]; rfl
    have hln := h.len
    have H2 := Lib.hid (h.more hB)
    clear h
    generalize hXX : detL (n + 1) xs = X at hXS hXN ⊢
    clear hXX
    rw [← hCe] at hl hn ⊢
    have HXS := Lib.hid hXS
    have HXN := Lib.hid hXN
    clear hXS hXN
    have hnC : (C : Int) - 1 = (n : Int) := by omega
    have hCC : C * C ≤ 24 * 24 := Nat.mul_le_mul hn hn
    have hmm : m ≤ C * C ∧ C * C ≤ m := by omega
    have hC0 : 0 < C := by omega
    have hjm : ∀ j, j < C → j < m := fun j hj => by have := Nat.le_mul_of_pos_left C hC0; omega
    have HJM := Lib.hid hjm
    have HNUM : Hid (∀ j, Num (xs.getD j 0)) := Lib.hid (getD_num hnum)
    have HWC : Hid (∀ (j : Nat) w', j < C → RI w' w.heap.size A m xs → w.heap.size ≤ w'.heap.size → Calls Tryz.prog 85 #[.agg #[.int .i64 C, .int .i64 C, .slice A m cap], .int .i64 0, .int .i64 j] w' (MR ⟨n, n, wcK xs C j (C * C)⟩ w')) := Lib.hid (fun j w' hj k1 k2 => by
      have := impl_withoutCross C j A m cap xs w' k1 k2 hl hj hn
      rw [hnC] at this
      exact this)
    have HIH := Lib.hid ih
    have HWL : Hid (∀ j, j < C → (wcK xs C j (C * C)).length = n * n) := Lib.hid (fun j hj => by rw [wcK_len hj, show C - 1 = n by omega])
    have HWN : Hid (∀ j, (wcK xs C j (C * C)).all isNum = true) := Lib.hid (fun j => wcK_num hnum _)
    have HCE := Lib.hid hCe
    have hnn : n ≤ 24 := by omega
    clear ih hnum hl hln hjm hnC hCe
    have HAT : Hid (∀ (j : Nat) w', j < C → RI w' w.heap.size A m xs → w.heap.size ≤ w'.heap.size → Calls Tryz.prog 33 #[.agg #[.int .i64 C, .int .i64 C, .slice A m cap], .int .i64 0, .int .i64 j] w' (BV (.int .i64 (xs.getD j 0)) w')) := Lib.hid (fun j w' hj k1 k2 => by
      have h1 := HJM.out j hj
      have := impl_at C C 0 j A m cap xs w' k1 k2 (by omega) (by omega) (by omega)
      have e : cel xs C 0 j = xs.getD j 0 := by unfold cel; congr 1; omega
      rw [e] at this
      exact this)
    have hCz : ((C : Int) == 0) = false := by simp; omega
    go_enter Tryz.func67, Tryz.ntmps67
    go_wp2_with fail
    go_loopg [4, 5] (C + 1) (fun gn vs vj wr => ∃ (j : Nat) (s : Int), vj = .int .i64 j ∧ vs = .int .i64 s ∧ j ≤ C ∧ C - j < gn ∧ Hid (detS (detL n) C xs j = some s) ∧ -((j : Int) * 160000000000000000) ≤ s ∧ s ≤ (j : Int) * 160000000000000000 ∧ BM wr w.heap.size C C A m cap ∧ Below w.heap.size w wr)
    case atStart => exact ⟨0, 0, rfl, rfl, Nat.zero_le _, by omega, Lib.hid rfl, by omega, by omega, Ka, Kw⟩
    case round =>
      obtain ⟨j, s, rfl, rfl, hj, hgk, HS, hs1, hs2, hM, hbw⟩ := hrel
      obtain ⟨ma, mb, mc, mf, ml⟩ := hM.mx
      have hszr := hbw.size
      by_cases hjC : j < C
      · go_wp2_with fail
        refine (HAT.out j _ hjC (Kr H2.out) Ks).mono ?_
        rintro e w1 ⟨rfl, hb1⟩
        (have hsz_1 := hb1.size); (try simp at hsz_1); (have hM_1 : BM w1 w.heap.size C C A m cap := (Kb hM)); (have hbw_1 : Below w.heap.size w w1 := Kw); clear ma mb mc mf ml; clear hM hbw; (have hM := hM_1); (have hbw := hbw_1); clear hM_1 hbw_1; obtain ⟨ma, mb, mc, mf, ml⟩ := hM.mx
        have hcn := HNUM.out j
        obtain ⟨hc1, hc2⟩ := hcn
        by_cases hz : xs.getD j 0 = 0
        · have HS2 := Lib.hid (detS_zero HS.out hz)
          rw [hz]
          clear hz hc1 hc2
          go_wp2_with fail
          go_roundg (gk - 1)
          case measure => omega
          case rel => exact ⟨j + 1, s, by go_num, rfl, by omega, by omega, HS2, by omega, by omega, Kb hM, Kw⟩
        · have hzb : (xs.getD j 0 == 0) = false := by simpa using hz
          have HDJ : Hid (∀ (A5 : Option Addr) (n5 c5 : Nat) w' B', RI w' B' A5 n5 (wcK xs C j (C * C)) → B' ≤ w'.heap.size → Calls Tryz.prog 67 #[.agg #[.int .i64 n, .int .i64 n, .slice A5 n5 c5]] w' (DetR (detL n (wcK xs C j (C * C))) w')) := Lib.hid (fun A5 n5 c5 w' B' k1 k2 => HIH.out A5 n5 c5 _ w' k1 k2 (HWL.out j hjC) hnn (HWN.out j))
          have HWJ := Lib.hid (fun w' => HWC.out j w' hjC)
          rcases hd : detL n (wcK xs C j (C * C)) with _ | d
          · rw [hd] at HDJ
            have HX := Lib.hid (HXN.out (j + 1) (by omega) (detS_bad hz hd))
            clear hz hd
            generalize wcK xs C j (C * C) = ys at *
            generalize xs.getD j 0 = c at *
            go_wp2_with fail
            refine (HWJ.out _ (Kr H2.out) Ks).mono ?_
            rintro e w2 ⟨A5, n5, c5, rfl, ho5, hb5⟩
            have HO5 := Lib.hid ho5
            (have hsz_1 := hb5.size); (try simp at hsz_1); (have hM_1 : BM w2 w.heap.size C C A m cap := (Kb hM)); (have hbw_1 : Below w.heap.size w w2 := Kw); clear ma mb mc mf ml; clear hM hbw; (have hM := hM_1); (have hbw := hbw_1); clear hM_1 hbw_1; obtain ⟨ma, mb, mc, mf, ml⟩ := hM.mx
            clear ho5
            go_wp2_with fail
            refine (HDJ.out A5 n5 c5 _ _ (OR.reads (xs := ys) HO5.out) (Nat.le_refl _)).mono ?_
            rintro e w3 ⟨⟨v, rfl, hv⟩, hb6⟩
            (have hsz_1 := hb6.size); (try simp at hsz_1); (have hM_1 : BM w3 w.heap.size C C A m cap := (Kb hM)); (have hbw_1 : Below w.heap.size w w3 := Kw); clear ma mb mc mf ml; clear hM hbw; (have hM := hM_1); (have hbw := hbw_1); clear hM_1 hbw_1; obtain ⟨ma, mb, mc, mf, ml⟩ := hM.mx
            clear hv
            go_wp2_with fail
            go_ret2
            rw [HX.out]
            exact ⟨⟨0, rfl, fun d hd => by cases hd⟩, Kw⟩
          · have hdn := detL_num _ _ _ hd
            have HS2 := Lib.hid (detS_next HS.out hz hd)
            rw [hd] at HDJ
            clear hz hd
            generalize wcK xs C j (C * C) = ys at *
            generalize xs.getD j 0 = c at *
            obtain ⟨hd1, hd2⟩ := hdn
            have hcd := mul_bd4 c d 400000000 400000000 hc1 hc2 hd1 hd2
            have hcd2 := mul_bd4 (-c) d 400000000 400000000 (by omega) (by omega) hd1 hd2
            obtain ⟨k1, k2⟩ := hcd
            obtain ⟨k3, k4⟩ := hcd2
            have wn : IntKind.i64.wrap (-c) = -c := IntWalk.i64_in _ (by omega)
            by_cases hp : j % 2 = 1
            · have hr := rem2_one hp
              rw [if_pos hp] at HS2
              have w1' : IntKind.i64.wrap (-c * d) = -c * d := IntWalk.i64_in _ (by omega)
              have w2' : IntKind.i64.wrap (s + -c * d) = s + -c * d := IntWalk.i64_in _ (by omega)
              clear hp k1 k2
              go_wp2_with fail
              refine (HWJ.out _ (Kr H2.out) Ks).mono ?_
              rintro e w2 ⟨A5, n5, c5, rfl, ho5, hb5⟩
              have HO5 := Lib.hid ho5
              (have hsz_1 := hb5.size); (try simp at hsz_1); (have hM_1 : BM w2 w.heap.size C C A m cap := (Kb hM)); (have hbw_1 : Below w.heap.size w w2 := Kw); clear ma mb mc mf ml; clear hM hbw; (have hM := hM_1); (have hbw := hbw_1); clear hM_1 hbw_1; obtain ⟨ma, mb, mc, mf, ml⟩ := hM.mx
              clear ho5
              go_wp2_with fail
              refine (HDJ.out A5 n5 c5 _ _ (OR.reads (xs := ys) HO5.out) (Nat.le_refl _)).mono ?_
              rintro e w3 ⟨⟨v, rfl, hv⟩, hb6⟩
              obtain rfl := hv d rfl
              (have hsz_1 := hb6.size); (try simp at hsz_1); (have hM_1 : BM w3 w.heap.size C C A m cap := (Kb hM)); (have hbw_1 : Below w.heap.size w w3 := Kw); clear ma mb mc mf ml; clear hM hbw; (have hM := hM_1); (have hbw := hbw_1); clear hM_1 hbw_1; obtain ⟨ma, mb, mc, mf, ml⟩ := hM.mx
              go_wp2_with fail
              go_roundg (gk - 1)
              case measure => omega
              case rel => exact ⟨j + 1, s + -c * v, by go_num, rfl, by omega, by omega, HS2, by omega, by omega, Kb hM, Kw⟩
            · have hr := rem2_no hp
              rw [if_neg hp] at HS2
              have w1' : IntKind.i64.wrap (c * d) = c * d := IntWalk.i64_in _ (by omega)
              have w2' : IntKind.i64.wrap (s + c * d) = s + c * d := IntWalk.i64_in _ (by omega)
              clear hp k3 k4
              go_wp2_with fail
              refine (HWJ.out _ (Kr H2.out) Ks).mono ?_
              rintro e w2 ⟨A5, n5, c5, rfl, ho5, hb5⟩
              have HO5 := Lib.hid ho5
              (have hsz_1 := hb5.size); (try simp at hsz_1); (have hM_1 : BM w2 w.heap.size C C A m cap := (Kb hM)); (have hbw_1 : Below w.heap.size w w2 := Kw); clear ma mb mc mf ml; clear hM hbw; (have hM := hM_1); (have hbw := hbw_1); clear hM_1 hbw_1; obtain ⟨ma, mb, mc, mf, ml⟩ := hM.mx
              clear ho5
              go_wp2_with fail
              refine (HDJ.out A5 n5 c5 _ _ (OR.reads (xs := ys) HO5.out) (Nat.le_refl _)).mono ?_
              rintro e w3 ⟨⟨v, rfl, hv⟩, hb6⟩
              obtain rfl := hv d rfl
              (have hsz_1 := hb6.size); (try simp at hsz_1); (have hM_1 : BM w3 w.heap.size C C A m cap := (Kb hM)); (have hbw_1 : Below w.heap.size w w3 := Kw); clear ma mb mc mf ml; clear hM hbw; (have hM := hM_1); (have hbw := hbw_1); clear hM_1 hbw_1; obtain ⟨ma, mb, mc, mf, ml⟩ := hM.mx
              go_wp2_with fail
              go_roundg (gk - 1)
              case measure => omega
              case rel => exact ⟨j + 1, s + c * v, by go_num, rfl, by omega, by omega, HS2, by omega, by omega, Kb hM, Kw⟩
      · obtain rfl : j = C := by omega
        have HX := Lib.hid (HXS.out s HS.out)
        rcases hi : isNum s with _ | _
        · have HI := Lib.hid hi
          rw [hi] at HX
          clear hi
          go_wp2_with fail
          refine (impl_IsNumber s _).mono ?_
          rw [HI.out]
          rintro e w' ⟨rfl, rfl⟩
          go_wp2_with fail
          go_ret2
          rw [HX.out]
          exact ⟨⟨s, rfl, fun d hd => by cases hd⟩, Kw⟩
        · have HI := Lib.hid hi
          rw [hi] at HX
          clear hi
          go_wp2_with fail
          refine (impl_IsNumber s _).mono ?_
          rw [HI.out]
          rintro e w' ⟨rfl, rfl⟩
          go_wp2_with fail
          go_ret2
          rw [HX.out]
          exact ⟨⟨s, rfl, fun d hd => by cases hd; rfl⟩, Kw⟩
end Go.Proofs.YtlggfmfelakadaaGreatDoor

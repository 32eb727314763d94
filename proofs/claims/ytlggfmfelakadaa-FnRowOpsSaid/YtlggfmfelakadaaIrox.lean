/-
  DERIVED. One operation on rows, of the program: IsRowOp, rowOp, DoRowOp.
-/
import Derived.Test.YtlggfmfelakadaaX5
import Derived.Test.YtlggfmfelakadaaOpsx
import Derived.Test.YtlggfmfelakadaaOpsSx
import Derived.Test.YtlggfmfelakadaaX1
import Derived.Test.YtlggfmfelakadaaMxx
import Derived.Test.YtlggfmfelakadaaX2
namespace Go.Proofs.Ytlggfmfelakadaa
open Go.RowKit
set_option linter.unusedVariables false
set_option linter.unusedSimpArgs false
theorem ropB_iff (R k i j t : Int) : ropB R ⟨k, i, j, t⟩ = true ↔ (0 ≤ R ∧ R ≤ 24 ∧ 0 ≤ i ∧ i < R ∧ 0 ≤ j ∧ j < R ∧ (-400000000 ≤ t ∧ t ≤ 400000000)) ∧ ((k = 0 ∧ i ≠ j ∧ t = 0) ∨ (k = 1 ∧ i = j ∧ t = 0) ∨ (k = 2 ∧ i ≠ j)) := by
  unfold ropB
  simp only [Bool.and_eq_true, decide_eq_true_eq, isNum_iff]
  constructor
  · rintro ⟨⟨⟨⟨⟨⟨⟨h1, h2⟩, h3⟩, h4⟩, h5⟩, h6⟩, h7⟩, h8⟩
    refine ⟨⟨h1, h2, h3, h4, h5, h6, h7⟩, ?_⟩
    split at h8
    · rename_i e; simp only [Bool.and_eq_true, decide_eq_true_eq] at h8; exact .inl ⟨e, h8⟩
    · split at h8
      · rename_i e; simp only [Bool.and_eq_true, decide_eq_true_eq] at h8; exact .inr (.inl ⟨e, h8⟩)
      · split at h8
        · rename_i e; simp only [decide_eq_true_eq] at h8; exact .inr (.inr ⟨e, h8⟩)
        · cases h8
  · rintro ⟨⟨h1, h2, h3, h4, h5, h6, h7⟩, h8⟩
    refine ⟨⟨⟨⟨⟨⟨⟨h1, h2⟩, h3⟩, h4⟩, h5⟩, h6⟩, h7⟩, ?_⟩
    rcases h8 with ⟨rfl, h9⟩ | ⟨rfl, h9⟩ | ⟨rfl, h9⟩
    · simp [h9]
    · simp [h9]
    · simp [h9]
theorem ropB_no {R k i j t : Int} (h : ¬ ((0 ≤ R ∧ R ≤ 24 ∧ 0 ≤ i ∧ i < R ∧ 0 ≤ j ∧ j < R ∧ (-400000000 ≤ t ∧ t ≤ 400000000)) ∧ ((k = 0 ∧ i ≠ j ∧ t = 0) ∨ (k = 1 ∧ i = j ∧ t = 0) ∨ (k = 2 ∧ i ≠ j)))) : ropB R ⟨k, i, j, t⟩ = false := by
  refine Bool.eq_false_iff.2 fun e => h ((ropB_iff R k i j t).1 e)
set_option maxRecDepth 100000 in
set_option maxHeartbeats 8000000 in
theorem impl_IsRowOp (R k i j t : Int) (w : World) : Calls Try.prog 57 #[.agg #[.int .i64 k, .int .i64 i, .int .i64 j, .int .i64 t], .int .i64 R] w (BV (.bool (ropB R ⟨k, i, j, t⟩)) w) := by
  by_cases h1 : R < 0
  · have HV := Lib.hid (ropB_no (R := R) (k := k) (i := i) (j := j) (t := t) (by omega))
    go_enter Try.func57, Try.ntmps57
    go_wp2_with (first | (go_at_call 65; (first | refine (impl_IsNumber_yes _ _ (by omega)).mono ?_ | refine (impl_IsNumber_no _ _ (by omega)).mono ?_ | refine (impl_IsNumber _ _).mono ?_); rintro e w' ⟨rfl, rfl⟩))
    go_ret
    exact BV.mk (vbool HV.out.symm) Kw
  by_cases h2 : 24 < R
  · have HV := Lib.hid (ropB_no (R := R) (k := k) (i := i) (j := j) (t := t) (by omega))
    go_enter Try.func57, Try.ntmps57
    go_wp2_with (first | (go_at_call 65; (first | refine (impl_IsNumber_yes _ _ (by omega)).mono ?_ | refine (impl_IsNumber_no _ _ (by omega)).mono ?_ | refine (impl_IsNumber _ _).mono ?_); rintro e w' ⟨rfl, rfl⟩))
    go_ret
    exact BV.mk (vbool HV.out.symm) Kw
  by_cases h3 : i < 0
  · have HV := Lib.hid (ropB_no (R := R) (k := k) (i := i) (j := j) (t := t) (by omega))
    go_enter Try.func57, Try.ntmps57
    go_wp2_with (first | (go_at_call 65; (first | refine (impl_IsNumber_yes _ _ (by omega)).mono ?_ | refine (impl_IsNumber_no _ _ (by omega)).mono ?_ | refine (impl_IsNumber _ _).mono ?_); rintro e w' ⟨rfl, rfl⟩))
    go_ret
    exact BV.mk (vbool HV.out.symm) Kw
  by_cases h4 : R ≤ i
  · have HV := Lib.hid (ropB_no (R := R) (k := k) (i := i) (j := j) (t := t) (by omega))
    go_enter Try.func57, Try.ntmps57
    go_wp2_with (first | (go_at_call 65; (first | refine (impl_IsNumber_yes _ _ (by omega)).mono ?_ | refine (impl_IsNumber_no _ _ (by omega)).mono ?_ | refine (impl_IsNumber _ _).mono ?_); rintro e w' ⟨rfl, rfl⟩))
    go_ret
    exact BV.mk (vbool HV.out.symm) Kw
  by_cases h5 : j < 0
  · have HV := Lib.hid (ropB_no (R := R) (k := k) (i := i) (j := j) (t := t) (by omega))
    go_enter Try.func57, Try.ntmps57
    go_wp2_with (first | (go_at_call 65; (first | refine (impl_IsNumber_yes _ _ (by omega)).mono ?_ | refine (impl_IsNumber_no _ _ (by omega)).mono ?_ | refine (impl_IsNumber _ _).mono ?_); rintro e w' ⟨rfl, rfl⟩))
    go_ret
    exact BV.mk (vbool HV.out.symm) Kw
  by_cases h6 : R ≤ j
  · have HV := Lib.hid (ropB_no (R := R) (k := k) (i := i) (j := j) (t := t) (by omega))
    go_enter Try.func57, Try.ntmps57
    go_wp2_with (first | (go_at_call 65; (first | refine (impl_IsNumber_yes _ _ (by omega)).mono ?_ | refine (impl_IsNumber_no _ _ (by omega)).mono ?_ | refine (impl_IsNumber _ _).mono ?_); rintro e w' ⟨rfl, rfl⟩))
    go_ret
    exact BV.mk (vbool HV.out.symm) Kw
  by_cases h7 : t < -400000000 ∨ 400000000 < t
  · rcases h7 with h7 | h7
    · have HV := Lib.hid (ropB_no (R := R) (k := k) (i := i) (j := j) (t := t) (by omega))
      go_enter Try.func57, Try.ntmps57
      go_wp2_with (first | (go_at_call 65; (first | refine (impl_IsNumber_yes _ _ (by omega)).mono ?_ | refine (impl_IsNumber_no _ _ (by omega)).mono ?_ | refine (impl_IsNumber _ _).mono ?_); rintro e w' ⟨rfl, rfl⟩))
      go_ret
      exact BV.mk (vbool HV.out.symm) Kw
    · have HV := Lib.hid (ropB_no (R := R) (k := k) (i := i) (j := j) (t := t) (by omega))
      go_enter Try.func57, Try.ntmps57
      go_wp2_with (first | (go_at_call 65; (first | refine (impl_IsNumber_yes _ _ (by omega)).mono ?_ | refine (impl_IsNumber_no _ _ (by omega)).mono ?_ | refine (impl_IsNumber _ _).mono ?_); rintro e w' ⟨rfl, rfl⟩))
      go_ret
      exact BV.mk (vbool HV.out.symm) Kw
  have h8 : -400000000 ≤ t := by omega
  have h9 : t ≤ 400000000 := by omega
  clear h7
  by_cases k0 : k = 0
  · subst k0
    by_cases e1 : i = j
    · have b1 : (i != j) = false := by simpa using e1
      have HV := Lib.hid (ropB_no (R := R) (k := 0) (i := i) (j := j) (t := t) (by omega))
      clear e1
      go_enter Try.func57, Try.ntmps57
      go_wp2_with (first | (go_at_call 65; (first | refine (impl_IsNumber_yes _ _ (by omega)).mono ?_ | refine (impl_IsNumber_no _ _ (by omega)).mono ?_ | refine (impl_IsNumber _ _).mono ?_); rintro e w' ⟨rfl, rfl⟩))
      go_ret
      exact BV.mk (vbool HV.out.symm) Kw
    · have b1 : (i != j) = true := by simpa using e1
      by_cases t0 : t = 0
      · subst t0
        have HV := Lib.hid ((ropB_iff R 0 i j 0).2 ⟨by omega, by omega⟩)
        clear e1
        go_enter Try.func57, Try.ntmps57
        go_wp2_with (first | (go_at_call 65; (first | refine (impl_IsNumber_yes _ _ (by omega)).mono ?_ | refine (impl_IsNumber_no _ _ (by omega)).mono ?_ | refine (impl_IsNumber _ _).mono ?_); rintro e w' ⟨rfl, rfl⟩))
        go_ret
        exact BV.mk (vbool HV.out.symm) Kw
      · have b2 : (t == 0) = false := by simpa using t0
        have HV := Lib.hid (ropB_no (R := R) (k := 0) (i := i) (j := j) (t := t) (by omega))
        clear e1 t0
        go_enter Try.func57, Try.ntmps57
        go_wp2_with (first | (go_at_call 65; (first | refine (impl_IsNumber_yes _ _ (by omega)).mono ?_ | refine (impl_IsNumber_no _ _ (by omega)).mono ?_ | refine (impl_IsNumber _ _).mono ?_); rintro e w' ⟨rfl, rfl⟩))
        go_ret
        exact BV.mk (vbool HV.out.symm) Kw
  by_cases k1 : k = 1
  · subst k1
    by_cases e1 : i = j
    · subst e1
      by_cases t0 : t = 0
      · subst t0
        have HV := Lib.hid ((ropB_iff R 1 i i 0).2 ⟨by omega, by omega⟩)
        go_enter Try.func57, Try.ntmps57
        go_wp2_with (first | (go_at_call 65; (first | refine (impl_IsNumber_yes _ _ (by omega)).mono ?_ | refine (impl_IsNumber_no _ _ (by omega)).mono ?_ | refine (impl_IsNumber _ _).mono ?_); rintro e w' ⟨rfl, rfl⟩))
        go_ret
        exact BV.mk (vbool HV.out.symm) Kw
      · have b2 : (t == 0) = false := by simpa using t0
        have HV := Lib.hid (ropB_no (R := R) (k := 1) (i := i) (j := i) (t := t) (by omega))
        clear t0
        go_enter Try.func57, Try.ntmps57
        go_wp2_with (first | (go_at_call 65; (first | refine (impl_IsNumber_yes _ _ (by omega)).mono ?_ | refine (impl_IsNumber_no _ _ (by omega)).mono ?_ | refine (impl_IsNumber _ _).mono ?_); rintro e w' ⟨rfl, rfl⟩))
        go_ret
        exact BV.mk (vbool HV.out.symm) Kw
    · have b1 : (i == j) = false := by simpa using e1
      have HV := Lib.hid (ropB_no (R := R) (k := 1) (i := i) (j := j) (t := t) (by omega))
      clear e1
      go_enter Try.func57, Try.ntmps57
      go_wp2_with (first | (go_at_call 65; (first | refine (impl_IsNumber_yes _ _ (by omega)).mono ?_ | refine (impl_IsNumber_no _ _ (by omega)).mono ?_ | refine (impl_IsNumber _ _).mono ?_); rintro e w' ⟨rfl, rfl⟩))
      go_ret
      exact BV.mk (vbool HV.out.symm) Kw
  by_cases k2 : k = 2
  · subst k2
    by_cases e1 : i = j
    · have b1 : (i != j) = false := by simpa using e1
      have HV := Lib.hid (ropB_no (R := R) (k := 2) (i := i) (j := j) (t := t) (by omega))
      clear e1
      go_enter Try.func57, Try.ntmps57
      go_wp2_with (first | (go_at_call 65; (first | refine (impl_IsNumber_yes _ _ (by omega)).mono ?_ | refine (impl_IsNumber_no _ _ (by omega)).mono ?_ | refine (impl_IsNumber _ _).mono ?_); rintro e w' ⟨rfl, rfl⟩))
      go_ret
      exact BV.mk (vbool HV.out.symm) Kw
    · have b1 : (i != j) = true := by simpa using e1
      have HV := Lib.hid ((ropB_iff R 2 i j t).2 ⟨by omega, by omega⟩)
      clear e1
      go_enter Try.func57, Try.ntmps57
      go_wp2_with (first | (go_at_call 65; (first | refine (impl_IsNumber_yes _ _ (by omega)).mono ?_ | refine (impl_IsNumber_no _ _ (by omega)).mono ?_ | refine (impl_IsNumber _ _).mono ?_); rintro e w' ⟨rfl, rfl⟩))
      go_ret
      exact BV.mk (vbool HV.out.symm) Kw
  · have b1 : (k == 0) = false := by simpa using k0
    have b2 : (k == 1) = false := by simpa using k1
    have b3 : (k == 2) = false := by simpa using k2
    have HV := Lib.hid (ropB_no (R := R) (k := k) (i := i) (j := j) (t := t) (by omega))
    go_enter Try.func57, Try.ntmps57
    go_wp2_with (first | (go_at_call 65; (first | refine (impl_IsNumber_yes _ _ (by omega)).mono ?_ | refine (impl_IsNumber_no _ _ (by omega)).mono ?_ | refine (impl_IsNumber _ _).mono ?_); rintro e w' ⟨rfl, rfl⟩))
    go_ret
    exact BV.mk (vbool HV.out.symm) Kw
/-- What rowOp leaves. -/
def RWX (R C : Nat) (f : Fn2) (x : Rop) (sv : Value) (B : Nat) (w : World) (e : Ending) (w' : World) : Prop := ∃ ys, WW (.bool (numC C f x)) sv B ys w e w' ∧ (numC C f x = true → ys = tb R C (opF f x))
theorem tb_opA {R C i j : Nat} {f : Fn2} {t : Int} (h : OKF R C f) (hi : i < R) (hj : j < R) (ht : Num t) (hr : rowOk f i j t C) : tb R C (opA f i j t) = tb R C (adF f i j t) := tb_ext fun a y ha hy => by
  unfold adF
  by_cases e : a = i
  · subst e
    rw [if_pos rfl, rowOk_val h hi hj ht hr hy]
  · rw [if_neg e, opA_other e]
theorem impl_rowOp_X {R C i j : Nat} {x : Rop} (K : RopOk R x i j) (A : Option Addr) (n cap : Nat) (f : Fn2) (w : World) {B : Nat} (h : OR w B (.slice A n cap) (tb R C f)) (hf : OKF R C f) (hC0 : 0 < C) (hC : C ≤ 24) :
    Calls Try.prog 64 #[.agg #[.int .i64 R, .int .i64 C, .slice A n cap], oV x] w (RWX R C f x (.slice A n cap) B w) := by
  have hR := K.R24
  rcases K.kind with ⟨rfl, hij⟩ | ⟨rfl, hij⟩ | ⟨t, rfl, hij, ht⟩
  · exact (impl_rowOp_swap R C i j 0 A n cap f w h K.hi K.hj hij hC0 (by omega) hR).mono fun e w' k => ⟨_, k, fun _ => rfl⟩
  · subst hij
    exact (impl_rowOp_neg R C i 0 A n cap f w h K.hi (fun k hk => hf i k K.hi hk) hC0 hC hR).mono fun e w' k => ⟨_, k, fun _ => rfl⟩
  · refine (impl_rowOp_add R C i j t A n cap f w h K.hi K.hj hij ht hf hC0 hC hR).mono fun e w' k => ?_
    rcases k with ⟨hr, k⟩ | ⟨hr, f', k⟩
    · have hn : numC C f ⟨2, i, j, t⟩ = true := numC_add.2 hr
      refine ⟨_, by rw [hn]; exact k, fun _ => tb_opA hf K.hi K.hj ht hr⟩
    · have hn : numC C f ⟨2, i, j, t⟩ = false := Bool.eq_false_iff.2 fun e => hr (numC_add.1 e)
      exact ⟨_, by rw [hn]; exact k, fun e => by rw [hn] at e; cases e⟩
end Go.Proofs.Ytlggfmfelakadaa

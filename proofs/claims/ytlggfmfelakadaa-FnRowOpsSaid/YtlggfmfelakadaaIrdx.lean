/-
  DERIVED. DoRowOp of the program.
-/
import Derived.Test.YtlggfmfelakadaaIrox
namespace Go.Proofs.Ytlggfmfelakadaa
open Go.RowKit
set_option linter.unusedVariables false
set_option linter.unusedSimpArgs false
theorem impl_row_zero (r : Int) (i : Nat) (A : Option Addr) (cap : Nat) (w : World) (hi : i ≤ 1000) (hA : A = none ∧ cap = 0 ∨ ∃ g, A = some ⟨g, 0, none⟩ ∧ cap ≤ 9223372036854775807) :
    Calls Try.prog 70 #[.agg #[.int .i64 r, .int .i64 0, .slice A 0 cap], .int .i64 i] w (fun e w' => ∃ A', e = .returned (.slice A' 0 cap) ∧ Below w.heap.size w w') := by
  have e1 : (i : Int) * 0 = 0 := Int.mul_zero _
  have e2 : ((i : Int) + 1) * 0 = 0 := Int.mul_zero _
  rcases hA with ⟨rfl, rfl⟩ | ⟨g, rfl, hc⟩
  · go_enter Try.func70, Try.ntmps70
    go_wp2_with fail
    go_ret
    exact ⟨_, rfl, Kw⟩
  · go_enter Try.func70, Try.ntmps70
    go_wp2_with fail
    go_ret
    exact ⟨_, rfl, Kw⟩
theorem OR.zero {w : World} {B n cap : Nat} {A : Option Addr} (h : OR w B (.slice A n cap) []) : n = 0 ∧ (A = none ∧ cap = 0 ∨ ∃ g, A = some ⟨g, 0, none⟩ ∧ cap ≤ 9223372036854775807) := by
  have hn := h.lenEq
  obtain ⟨c1, c2⟩ := h.caps
  rcases h.form with ⟨h1, _⟩ | ⟨g, cap', h1, _, _, _, h5⟩
  · injection h1 with e1 e2 e3; exact ⟨e2, .inl ⟨e1, e3⟩⟩
  · injection h1 with e1 e2 e3
    exact ⟨hn, .inr ⟨g, e1, c2⟩⟩
set_option maxRecDepth 100000 in
set_option maxHeartbeats 4000000 in
theorem impl_rowOp_zero (R i j : Nat) (k t : Int) (A : Option Addr) (cap : Nat) (w : World) (hi : i ≤ 1000) (hj : j ≤ 1000) (hA : A = none ∧ cap = 0 ∨ ∃ g, A = some ⟨g, 0, none⟩ ∧ cap ≤ 9223372036854775807) :
    Calls Try.prog 64 #[.agg #[.int .i64 R, .int .i64 0, .slice A 0 cap], .agg #[.int .i64 k, .int .i64 i, .int .i64 j, .int .i64 t]] w (BV (.bool true) w) := by
  have HA := Lib.hid hA
  clear hA
  go_enter Try.func64, Try.ntmps64
  go_wp2_with fail
  refine (impl_row_zero R i A cap _ hi HA.out).mono ?_
  rintro e w1 ⟨A1, rfl, hb1⟩
  have hsz1 := hb1.size
  simp at hsz1
  have hO1 : Blk w1 (w.heap.size + 1) 38 #[.int .i64 k, .int .i64 i, .int .i64 j, .int .i64 t] := by (with_reducible (repeat (first | assumption | refine Blk.new_at _ _ _ _ Ks | refine Blk.below ?_ (by assumption) Ks | apply Blk.drew | apply Blk.drewN | refine Blk.far ?_ (by simp only [ne_eq]; omega) _ | apply Blk.alloc)))
  have hM1 : BM w1 w.heap.size R 0 A 0 cap := Ka
  have hbw1 : Below w.heap.size w w1 := Kw
  obtain ⟨oa, ob, oc, of, ol⟩ := hM1.mx
  have x0 := hO1.cell 0
  have x1 := hO1.cell 1
  have x2 := hO1.cell 2
  have x3 := hO1.cell 3
  simp at x0 x1 x2 x3
  clear hb1
  go_wp2_with fail
  refine (impl_row_zero R j A cap _ hj HA.out).mono ?_
  rintro e w2 ⟨A2, rfl, hb2⟩
  have hsz2 := hb2.size
  have hbw2 : Below w.heap.size w w2 := Kw
  clear hb2 hO1 hM1 x0 x1 x2 x3 oa ob oc of ol
  go_wp2_with fail
  go_loopw [19] (fun v wr => v = .int .i64 0 ∧ Below w.heap.size w wr) (fun v _ => 0)
  case atStart => exact ⟨rfl, hbw2⟩
  case round =>
    obtain ⟨rfl, hbw⟩ := hrel
    go_wp2
    go_ret
    exact BV.mk rfl hbw
/-- What DoRowOp answers. -/
def doM (R C : Nat) (o : Option Fn2) : Mx := match o with
  | some g => ⟨R, C, tb R C g⟩
  | none => .none
set_option maxRecDepth 100000 in
set_option maxHeartbeats 8000000 in
theorem impl_DoRowOp (R C : Nat) (x : Rop) (A : Option Addr) (n cap : Nat) (f : Fn2) (w : World) {B : Nat} (h : RI w B A n (tb R C f)) (hB : B ≤ w.heap.size) (hf : OKF R C f) (hR24 : R ≤ 24) (hC24 : C ≤ 24) :
    Calls Try.prog 48 #[.agg #[.int .i64 R, .int .i64 C, .slice A n cap], oV x] w (MBR (doM R C (doX R C f x)) (doX R C f x).isSome w) := by
  have hm := isMat_tbR hR24 hC24 hf
  unfold oV
  rcases hb : ropB R x with _ | _
  · have hv : doX R C f x = none := by unfold doX; rw [hb]; rfl
    rw [hv]
    have HB : Hid (ropB R ⟨x.k, x.i, x.j, x.t⟩ = false) := Lib.hid hb
    clear hb hv
    have hln := h.len
    rw [tb_len] at hln
    have hRC : R * C ≤ 24 * 24 := Nat.mul_le_mul hR24 hC24
    have hn : n ≤ 1048576 := by omega
    have H2 := Lib.hid (h.more hB)
    have HM := Lib.hid hm
    clear h hm hln
    go_enter Try.func48, Try.ntmps48
    go_wp2_with fail
    refine (impl_IsMatrix R C A n cap (tb R C f) _ (C := w.heap.size) (Kr H2.out) Ks hn).mono ?_
    rw [HM.out]
    rintro e w1 ⟨rfl, hb1⟩
    have hsz1 := hb1.size
    (try simp at hsz1)
    have hM : BM w1 w.heap.size R C A n cap := Ka
    have hX : BO w1 (w.heap.size + 1) x := by unfold BO; (with_reducible (repeat (first | assumption | refine Blk.new_at _ _ _ _ Ks | refine Blk.below ?_ (by assumption) Ks | apply Blk.drew | apply Blk.drewN | refine Blk.far ?_ (by simp only [ne_eq]; omega) _ | apply Blk.alloc)))
    have hR : BM w1 (w.heap.size + 1 + 1) 0 0 none 0 0 := Ka
    have hbw : Below w.heap.size w w1 := Kw
    clear hb1
    obtain ⟨ma, mb, mc, mf, ml⟩ := hM.mx; obtain ⟨x0, x1, x2, x3, xf, xl⟩ := hX.cells; obtain ⟨ra, rb, rc, rf, rl⟩ := hR.mx
    go_wp2_with fail
    refine (impl_IsRowOp R x.k x.i x.j x.t _).mono ?_
    rw [HB.out]
    rintro e w2 ⟨rfl, hb2⟩
    have hszw2 := hb2.size; (try simp at hszw2); have hM_1 : BM w2 w.heap.size R C A n cap := (Kb hM); have hX_1 : BO w2 (w.heap.size + 1) x := (by (have hXu := hX; unfold BO at hXu ⊢; (with_reducible (repeat (first | exact hXu | refine Blk.below ?_ (by assumption) Ks | apply Blk.drew | apply Blk.drewN | apply Blk.alloc | apply Blk.set_ | apply Blk.far; rotate_left; (simp only [ne_eq]; omega); rotate_right))))); have hR_1 : BM w2 (w.heap.size + 1 + 1) 0 0 none 0 0 := (Kb hR); have hbw_1 : Below w.heap.size w w2 := Kw; clear ma mb mc mf ml x0 x1 x2 x3 xf xl ra rb rc rf rl; clear hM hX hR hbw hb2; have hM := hM_1; have hX := hX_1; have hR := hR_1; have hbw := hbw_1; clear hM_1 hX_1 hR_1 hbw_1; obtain ⟨ma, mb, mc, mf, ml⟩ := hM.mx; obtain ⟨x0, x1, x2, x3, xf, xl⟩ := hX.cells; obtain ⟨ra, rb, rc, rf, rl⟩ := hR.mx
    go_wp2_with fail
    have hvr := B3.of hR
    go_wp2_with fail
    refine ret_MB (b := w.heap.size + 1 + 1) (r := 0) (c := 0) (A := none) (n := 0) (cap := 0) Try.results48 rfl (Kb hvr) rfl ?_
    exact MBR.mk rfl (OR.nil_ _ _) Kw
  · obtain ⟨i, j, K⟩ := rop_ok hb
    have HB : Hid (ropB R ⟨x.k, x.i, x.j, x.t⟩ = true) := Lib.hid hb
    by_cases hC0 : 0 < C
    · have HOP : Hid (∀ (A3 : Option Addr) (n3 c3 : Nat) (w' : World) (B' : Nat), OR w' B' (.slice A3 n3 c3) (tb R C f) → Calls Try.prog 64 #[.agg #[.int .i64 R, .int .i64 C, .slice A3 n3 c3], .agg #[.int .i64 x.k, .int .i64 x.i, .int .i64 x.j, .int .i64 x.t]] w' (RWX R C f x (.slice A3 n3 c3) B' w')) := Lib.hid (fun A3 n3 c3 w' B' k => impl_rowOp_X K A3 n3 c3 f w' k hf hC0 hC24)
      have HDX : Hid (doX R C f x = if numC C f x = true then some (opF f x) else none) := Lib.hid (by unfold doX; rw [hb, Bool.true_and])
      generalize doX R C f x = X at *
      rcases hnc : numC C f x with _ | _
      · have hX0 : X = none := by have := HDX.out; rw [hnc] at this; exact this
        subst hX0
        have HNC := Lib.hid hnc
        clear hb K hC0 hnc
        have hln := h.len
        rw [tb_len] at hln
        have hRC : R * C ≤ 24 * 24 := Nat.mul_le_mul hR24 hC24
        have hn : n ≤ 1048576 := by omega
        have H2 := Lib.hid (h.more hB)
        have HM := Lib.hid hm
        clear h hm hln
        go_enter Try.func48, Try.ntmps48
        go_wp2_with fail
        refine (impl_IsMatrix R C A n cap (tb R C f) _ (C := w.heap.size) (Kr H2.out) Ks hn).mono ?_
        rw [HM.out]
        rintro e w1 ⟨rfl, hb1⟩
        have hsz1 := hb1.size
        (try simp at hsz1)
        have hM : BM w1 w.heap.size R C A n cap := Ka
        have hX : BO w1 (w.heap.size + 1) x := by unfold BO; (with_reducible (repeat (first | assumption | refine Blk.new_at _ _ _ _ Ks | refine Blk.below ?_ (by assumption) Ks | apply Blk.drew | apply Blk.drewN | refine Blk.far ?_ (by simp only [ne_eq]; omega) _ | apply Blk.alloc)))
        have hR : BM w1 (w.heap.size + 1 + 1) 0 0 none 0 0 := Ka
        have hbw : Below w.heap.size w w1 := Kw
        clear hb1
        obtain ⟨ma, mb, mc, mf, ml⟩ := hM.mx; obtain ⟨x0, x1, x2, x3, xf, xl⟩ := hX.cells; obtain ⟨ra, rb, rc, rf, rl⟩ := hR.mx
        go_wp2_with fail
        refine (impl_IsRowOp R x.k x.i x.j x.t _).mono ?_
        rw [HB.out]
        rintro e w2 ⟨rfl, hb2⟩
        have hszw2 := hb2.size; (try simp at hszw2); have hM_1 : BM w2 w.heap.size R C A n cap := (Kb hM); have hX_1 : BO w2 (w.heap.size + 1) x := (by (have hXu := hX; unfold BO at hXu ⊢; (with_reducible (repeat (first | exact hXu | refine Blk.below ?_ (by assumption) Ks | apply Blk.drew | apply Blk.drewN | apply Blk.alloc | apply Blk.set_ | apply Blk.far; rotate_left; (simp only [ne_eq]; omega); rotate_right))))); have hR_1 : BM w2 (w.heap.size + 1 + 1) 0 0 none 0 0 := (Kb hR); have hbw_1 : Below w.heap.size w w2 := Kw; clear ma mb mc mf ml x0 x1 x2 x3 xf xl ra rb rc rf rl; clear hM hX hR hbw hb2; have hM := hM_1; have hX := hX_1; have hR := hR_1; have hbw := hbw_1; clear hM_1 hX_1 hR_1 hbw_1; obtain ⟨ma, mb, mc, mf, ml⟩ := hM.mx; obtain ⟨x0, x1, x2, x3, xf, xl⟩ := hX.cells; obtain ⟨ra, rb, rc, rf, rl⟩ := hR.mx
        go_wp2_with fail
        refine (impl_copyMatrix R C A n cap (tb R C f) _ (B := w.heap.size) (Kr H2.out) Ks hn).mono ?_
        rintro e w3 ⟨A3, n3, c3, rfl, -, ho3, hb3⟩
        have hoc : OR w3 (w.heap.size + 1 + 1 + 1) (.slice A3 n3 c3) (tb R C f) := OR.mono (xs := tb R C f) ho3 Ks
        clear ho3
        have hszw3 := hb3.size; (try simp at hszw3); have hM_1 : BM w3 w.heap.size R C A n cap := (Kb hM); have hX_1 : BO w3 (w.heap.size + 1) x := (by (have hXu := hX; unfold BO at hXu ⊢; (with_reducible (repeat (first | exact hXu | refine Blk.below ?_ (by assumption) Ks | apply Blk.drew | apply Blk.drewN | apply Blk.alloc | apply Blk.set_ | apply Blk.far; rotate_left; (simp only [ne_eq]; omega); rotate_right))))); have hR_1 : BM w3 (w.heap.size + 1 + 1) 0 0 none 0 0 := (Kb hR); have hbw_1 : Below w.heap.size w w3 := Kw; clear ma mb mc mf ml x0 x1 x2 x3 xf xl ra rb rc rf rl; clear hM hX hR hbw hb3; have hM := hM_1; have hX := hX_1; have hR := hR_1; have hbw := hbw_1; clear hM_1 hX_1 hR_1 hbw_1; obtain ⟨ma, mb, mc, mf, ml⟩ := hM.mx; obtain ⟨x0, x1, x2, x3, xf, xl⟩ := hX.cells; obtain ⟨ra, rb, rc, rf, rl⟩ := hR.mx
        have hO : BM (w3.alloc (.cells #[.int .i64 R, .int .i64 C, .slice A3 n3 c3] 26)) w3.heap.size R C A3 n3 c3 := Ka
        have hoc2 : OR (w3.alloc (.cells #[.int .i64 R, .int .i64 C, .slice A3 n3 c3] 26)) (w.heap.size + 1 + 1 + 1) (.slice A3 n3 c3) (tb R C f) := hoc.alloc _
        have HOW := Lib.hid hoc.own
        obtain ⟨oa, ob, oc, of, ol⟩ := hO.mx
        go_wp2_with fail
        refine (HOP.out A3 n3 c3 _ (w.heap.size + 1 + 1 + 1) (Ko hoc2)).mono ?_
        unfold RWX
        rw [HNC.out]
        rintro e w4 ⟨ys, ⟨rfl, ho4, hg4, hsz4⟩, -⟩
        simp at hsz4
        have kM : BM w4 w.heap.size R C A n cap := BX.grown (Kb hM) hg4 (fun e => by have := (HOW.out _ e.symm).1; omega)
        have kX : BO w4 (w.heap.size + 1) x := Blk.grown (by (have hXu := hX; unfold BO at hXu; (with_reducible (repeat (first | exact hXu | refine Blk.below ?_ (by assumption) Ks | apply Blk.drew | apply Blk.drewN | apply Blk.alloc | apply Blk.set_ | apply Blk.far; rotate_left; (simp only [ne_eq]; omega); rotate_right))))) hg4 (fun e => by have := (HOW.out _ e.symm).1; omega)
        have kR : BM w4 (w.heap.size + 1 + 1) 0 0 none 0 0 := BX.grown (Kb hR) hg4 (fun e => by have := (HOW.out _ e.symm).1; omega)
        have kO : BM w4 w3.heap.size R C A3 n3 c3 := BX.grown (Kb hO) hg4 (fun e => by have := (HOW.out _ e.symm).2; omega)
        have kb : Below w.heap.size w w4 := Below.trans (show Below w.heap.size w (w3.alloc (.cells #[.int .i64 R, .int .i64 C, .slice A3 n3 c3] 26)) from Kw) (only_below hg4 (by simp; omega) fun g e => by have := (HOW.out g e).1; omega)
        clear ma mb mc mf ml x0 x1 x2 x3 xf xl ra rb rc rf rl
        clear hM hX hR hbw hO hoc hoc2 hg4 oa ob oc of ol
        have hM := kM
        have hX := kX
        have hR := kR
        have hbw := kb
        clear kM kX kR kb
        obtain ⟨ma, mb, mc, mf, ml⟩ := hM.mx; obtain ⟨x0, x1, x2, x3, xf, xl⟩ := hX.cells; obtain ⟨ra, rb, rc, rf, rl⟩ := hR.mx
        obtain ⟨oa, ob, oc, of, ol⟩ := kO.mx
        have hvr := B3.of hR
        go_wp2_with fail
        refine ret_MB (b := w.heap.size + 1 + 1) (r := 0) (c := 0) (A := none) (n := 0) (cap := 0) Try.results48 rfl (Kb hvr) rfl ?_
        exact MBR.mk rfl (OR.nil_ _ _) Kw
      · have hX0 : X = some (opF f x) := by have := HDX.out; rw [hnc] at this; exact this
        subst hX0
        have HNC := Lib.hid hnc
        clear hb K hC0 hnc
        have hln := h.len
        rw [tb_len] at hln
        have hRC : R * C ≤ 24 * 24 := Nat.mul_le_mul hR24 hC24
        have hn : n ≤ 1048576 := by omega
        have H2 := Lib.hid (h.more hB)
        have HM := Lib.hid hm
        clear h hm hln
        go_enter Try.func48, Try.ntmps48
        go_wp2_with fail
        refine (impl_IsMatrix R C A n cap (tb R C f) _ (C := w.heap.size) (Kr H2.out) Ks hn).mono ?_
        rw [HM.out]
        rintro e w1 ⟨rfl, hb1⟩
        have hsz1 := hb1.size
        (try simp at hsz1)
        have hM : BM w1 w.heap.size R C A n cap := Ka
        have hX : BO w1 (w.heap.size + 1) x := by unfold BO; (with_reducible (repeat (first | assumption | refine Blk.new_at _ _ _ _ Ks | refine Blk.below ?_ (by assumption) Ks | apply Blk.drew | apply Blk.drewN | refine Blk.far ?_ (by simp only [ne_eq]; omega) _ | apply Blk.alloc)))
        have hR : BM w1 (w.heap.size + 1 + 1) 0 0 none 0 0 := Ka
        have hbw : Below w.heap.size w w1 := Kw
        clear hb1
        obtain ⟨ma, mb, mc, mf, ml⟩ := hM.mx; obtain ⟨x0, x1, x2, x3, xf, xl⟩ := hX.cells; obtain ⟨ra, rb, rc, rf, rl⟩ := hR.mx
        go_wp2_with fail
        refine (impl_IsRowOp R x.k x.i x.j x.t _).mono ?_
        rw [HB.out]
        rintro e w2 ⟨rfl, hb2⟩
        have hszw2 := hb2.size; (try simp at hszw2); have hM_1 : BM w2 w.heap.size R C A n cap := (Kb hM); have hX_1 : BO w2 (w.heap.size + 1) x := (by (have hXu := hX; unfold BO at hXu ⊢; (with_reducible (repeat (first | exact hXu | refine Blk.below ?_ (by assumption) Ks | apply Blk.drew | apply Blk.drewN | apply Blk.alloc | apply Blk.set_ | apply Blk.far; rotate_left; (simp only [ne_eq]; omega); rotate_right))))); have hR_1 : BM w2 (w.heap.size + 1 + 1) 0 0 none 0 0 := (Kb hR); have hbw_1 : Below w.heap.size w w2 := Kw; clear ma mb mc mf ml x0 x1 x2 x3 xf xl ra rb rc rf rl; clear hM hX hR hbw hb2; have hM := hM_1; have hX := hX_1; have hR := hR_1; have hbw := hbw_1; clear hM_1 hX_1 hR_1 hbw_1; obtain ⟨ma, mb, mc, mf, ml⟩ := hM.mx; obtain ⟨x0, x1, x2, x3, xf, xl⟩ := hX.cells; obtain ⟨ra, rb, rc, rf, rl⟩ := hR.mx
        go_wp2_with fail
        refine (impl_copyMatrix R C A n cap (tb R C f) _ (B := w.heap.size) (Kr H2.out) Ks hn).mono ?_
        rintro e w3 ⟨A3, n3, c3, rfl, -, ho3, hb3⟩
        have hoc : OR w3 (w.heap.size + 1 + 1 + 1) (.slice A3 n3 c3) (tb R C f) := OR.mono (xs := tb R C f) ho3 Ks
        clear ho3
        have hszw3 := hb3.size; (try simp at hszw3); have hM_1 : BM w3 w.heap.size R C A n cap := (Kb hM); have hX_1 : BO w3 (w.heap.size + 1) x := (by (have hXu := hX; unfold BO at hXu ⊢; (with_reducible (repeat (first | exact hXu | refine Blk.below ?_ (by assumption) Ks | apply Blk.drew | apply Blk.drewN | apply Blk.alloc | apply Blk.set_ | apply Blk.far; rotate_left; (simp only [ne_eq]; omega); rotate_right))))); have hR_1 : BM w3 (w.heap.size + 1 + 1) 0 0 none 0 0 := (Kb hR); have hbw_1 : Below w.heap.size w w3 := Kw; clear ma mb mc mf ml x0 x1 x2 x3 xf xl ra rb rc rf rl; clear hM hX hR hbw hb3; have hM := hM_1; have hX := hX_1; have hR := hR_1; have hbw := hbw_1; clear hM_1 hX_1 hR_1 hbw_1; obtain ⟨ma, mb, mc, mf, ml⟩ := hM.mx; obtain ⟨x0, x1, x2, x3, xf, xl⟩ := hX.cells; obtain ⟨ra, rb, rc, rf, rl⟩ := hR.mx
        have hO : BM (w3.alloc (.cells #[.int .i64 R, .int .i64 C, .slice A3 n3 c3] 26)) w3.heap.size R C A3 n3 c3 := Ka
        have hoc2 : OR (w3.alloc (.cells #[.int .i64 R, .int .i64 C, .slice A3 n3 c3] 26)) (w.heap.size + 1 + 1 + 1) (.slice A3 n3 c3) (tb R C f) := hoc.alloc _
        have HOW := Lib.hid hoc.own
        obtain ⟨oa, ob, oc, of, ol⟩ := hO.mx
        go_wp2_with fail
        refine (HOP.out A3 n3 c3 _ (w.heap.size + 1 + 1 + 1) (Ko hoc2)).mono ?_
        unfold RWX
        rw [HNC.out]
        rintro e w4 ⟨ys, ⟨rfl, ho4, hg4, hsz4⟩, hys⟩
        rw [hys rfl] at ho4
        simp at hsz4
        have kM : BM w4 w.heap.size R C A n cap := BX.grown (Kb hM) hg4 (fun e => by have := (HOW.out _ e.symm).1; omega)
        have kX : BO w4 (w.heap.size + 1) x := Blk.grown (by (have hXu := hX; unfold BO at hXu; (with_reducible (repeat (first | exact hXu | refine Blk.below ?_ (by assumption) Ks | apply Blk.drew | apply Blk.drewN | apply Blk.alloc | apply Blk.set_ | apply Blk.far; rotate_left; (simp only [ne_eq]; omega); rotate_right))))) hg4 (fun e => by have := (HOW.out _ e.symm).1; omega)
        have kR : BM w4 (w.heap.size + 1 + 1) 0 0 none 0 0 := BX.grown (Kb hR) hg4 (fun e => by have := (HOW.out _ e.symm).1; omega)
        have kO : BM w4 w3.heap.size R C A3 n3 c3 := BX.grown (Kb hO) hg4 (fun e => by have := (HOW.out _ e.symm).2; omega)
        have kb : Below w.heap.size w w4 := Below.trans (show Below w.heap.size w (w3.alloc (.cells #[.int .i64 R, .int .i64 C, .slice A3 n3 c3] 26)) from Kw) (only_below hg4 (by simp; omega) fun g e => by have := (HOW.out g e).1; omega)
        clear ma mb mc mf ml x0 x1 x2 x3 xf xl ra rb rc rf rl
        clear hM hX hR hbw hO hoc hoc2 hg4 oa ob oc of ol
        have hM := kM
        have hX := kX
        have hR := kR
        have hbw := kb
        clear kM kX kR kb
        obtain ⟨ma, mb, mc, mf, ml⟩ := hM.mx; obtain ⟨x0, x1, x2, x3, xf, xl⟩ := hX.cells; obtain ⟨ra, rb, rc, rf, rl⟩ := hR.mx
        obtain ⟨oa, ob, oc, of, ol⟩ := kO.mx
        have hvr := B3.of hR
        go_wp2_with fail
        refine ret_MB (b := w.heap.size + 1 + 1) (r := R) (c := C) (A := A3) (n := n3) (cap := c3) Try.results48 rfl (Kb hvr) rfl ?_
        exact MBR.mk rfl (OR.mono (B := w.heap.size + 1 + 1 + 1) (Ko ho4) (by omega)) Kw
    · have hC : C = 0 := by omega
      have htb : ∀ g : Fn2, tb R C g = [] := fun g => List.eq_nil_of_length_eq_zero (by rw [tb_len, hC]; omega)
      have hxx : x.i = (i : Int) ∧ x.j = (j : Int) := by rcases K.kind with ⟨rfl, _⟩ | ⟨rfl, _⟩ | ⟨t, rfl, _⟩ <;> exact ⟨rfl, rfl⟩
      have hv : doX R C f x = some (opF f x) := doX_yes hb (by rw [hC]; unfold numC; split <;> rfl)
      have HOP : Hid (∀ (A3 : Option Addr) (c3 : Nat) (w' : World), (A3 = none ∧ c3 = 0 ∨ ∃ g, A3 = some ⟨g, 0, none⟩ ∧ c3 ≤ 9223372036854775807) → Calls Try.prog 64 #[.agg #[.int .i64 R, .int .i64 C, .slice A3 0 c3], .agg #[.int .i64 x.k, .int .i64 x.i, .int .i64 x.j, .int .i64 x.t]] w' (BV (.bool true) w')) := Lib.hid (fun A3 c3 w' k => by
        rw [hxx.1, hxx.2, hC]
        exact impl_rowOp_zero R i j x.k x.t A3 c3 w' (by have := K.hi; have := K.R24; omega) (by have := K.hj; have := K.R24; omega) k)
      rw [hv]
      have HTB := Lib.hid (htb (opF f x))
      have HTF := Lib.hid (htb f)
      clear hb K htb hv hxx hC hC0
      generalize opF f x = g at *
      have hln := h.len
      rw [tb_len] at hln
      have hRC : R * C ≤ 24 * 24 := Nat.mul_le_mul hR24 hC24
      have hn : n ≤ 1048576 := by omega
      have H2 := Lib.hid (h.more hB)
      have HM := Lib.hid hm
      clear h hm hln
      go_enter Try.func48, Try.ntmps48
      go_wp2_with fail
      refine (impl_IsMatrix R C A n cap (tb R C f) _ (C := w.heap.size) (Kr H2.out) Ks hn).mono ?_
      rw [HM.out]
      rintro e w1 ⟨rfl, hb1⟩
      have hsz1 := hb1.size
      (try simp at hsz1)
      have hM : BM w1 w.heap.size R C A n cap := Ka
      have hX : BO w1 (w.heap.size + 1) x := by unfold BO; (with_reducible (repeat (first | assumption | refine Blk.new_at _ _ _ _ Ks | refine Blk.below ?_ (by assumption) Ks | apply Blk.drew | apply Blk.drewN | refine Blk.far ?_ (by simp only [ne_eq]; omega) _ | apply Blk.alloc)))
      have hR : BM w1 (w.heap.size + 1 + 1) 0 0 none 0 0 := Ka
      have hbw : Below w.heap.size w w1 := Kw
      clear hb1
      obtain ⟨ma, mb, mc, mf, ml⟩ := hM.mx; obtain ⟨x0, x1, x2, x3, xf, xl⟩ := hX.cells; obtain ⟨ra, rb, rc, rf, rl⟩ := hR.mx
      go_wp2_with fail
      refine (impl_IsRowOp R x.k x.i x.j x.t _).mono ?_
      rw [HB.out]
      rintro e w2 ⟨rfl, hb2⟩
      have hszw2 := hb2.size; (try simp at hszw2); have hM_1 : BM w2 w.heap.size R C A n cap := (Kb hM); have hX_1 : BO w2 (w.heap.size + 1) x := (by (have hXu := hX; unfold BO at hXu ⊢; (with_reducible (repeat (first | exact hXu | refine Blk.below ?_ (by assumption) Ks | apply Blk.drew | apply Blk.drewN | apply Blk.alloc | apply Blk.set_ | apply Blk.far; rotate_left; (simp only [ne_eq]; omega); rotate_right))))); have hR_1 : BM w2 (w.heap.size + 1 + 1) 0 0 none 0 0 := (Kb hR); have hbw_1 : Below w.heap.size w w2 := Kw; clear ma mb mc mf ml x0 x1 x2 x3 xf xl ra rb rc rf rl; clear hM hX hR hbw hb2; have hM := hM_1; have hX := hX_1; have hR := hR_1; have hbw := hbw_1; clear hM_1 hX_1 hR_1 hbw_1; obtain ⟨ma, mb, mc, mf, ml⟩ := hM.mx; obtain ⟨x0, x1, x2, x3, xf, xl⟩ := hX.cells; obtain ⟨ra, rb, rc, rf, rl⟩ := hR.mx
      go_wp2_with fail
      refine (impl_copyMatrix R C A n cap (tb R C f) _ (B := w.heap.size) (Kr H2.out) Ks hn).mono ?_
      rintro e w3 ⟨A3, n3, c3, rfl, -, ho3, hb3⟩
      have hoc : OR w3 (w.heap.size + 1 + 1 + 1) (.slice A3 n3 c3) (tb R C f) := OR.mono (xs := tb R C f) ho3 Ks
      clear ho3
      have hszw3 := hb3.size; (try simp at hszw3); have hM_1 : BM w3 w.heap.size R C A n cap := (Kb hM); have hX_1 : BO w3 (w.heap.size + 1) x := (by (have hXu := hX; unfold BO at hXu ⊢; (with_reducible (repeat (first | exact hXu | refine Blk.below ?_ (by assumption) Ks | apply Blk.drew | apply Blk.drewN | apply Blk.alloc | apply Blk.set_ | apply Blk.far; rotate_left; (simp only [ne_eq]; omega); rotate_right))))); have hR_1 : BM w3 (w.heap.size + 1 + 1) 0 0 none 0 0 := (Kb hR); have hbw_1 : Below w.heap.size w w3 := Kw; clear ma mb mc mf ml x0 x1 x2 x3 xf xl ra rb rc rf rl; clear hM hX hR hbw hb3; have hM := hM_1; have hX := hX_1; have hR := hR_1; have hbw := hbw_1; clear hM_1 hX_1 hR_1 hbw_1; obtain ⟨ma, mb, mc, mf, ml⟩ := hM.mx; obtain ⟨x0, x1, x2, x3, xf, xl⟩ := hX.cells; obtain ⟨ra, rb, rc, rf, rl⟩ := hR.mx
      have hO : BM (w3.alloc (.cells #[.int .i64 R, .int .i64 C, .slice A3 n3 c3] 26)) w3.heap.size R C A3 n3 c3 := Ka
      have hoc2 : OR (w3.alloc (.cells #[.int .i64 R, .int .i64 C, .slice A3 n3 c3] 26)) (w.heap.size + 1 + 1 + 1) (.slice A3 n3 c3) (tb R C f) := hoc.alloc _
      have HOW := Lib.hid hoc.own
      obtain ⟨oa, ob, oc, of, ol⟩ := hO.mx
      obtain ⟨z1, z2⟩ := OR.zero (show OR w3 (w.heap.size + 1 + 1 + 1) (.slice A3 n3 c3) [] by rw [← HTF.out]; exact hoc)
      subst z1
      go_wp2_with fail
      refine (HOP.out A3 c3 _ z2).mono ?_
      rintro e w4 ⟨rfl, hb4⟩
      have hsz4 := hb4.size
      simp at hsz4
      have hO4 : BM w4 w3.heap.size R C A3 0 c3 := Kb hO
      have ho4 : OR w4 (w.heap.size + 1 + 1 + 1) (.slice A3 0 c3) (tb R C f) := Ko hoc2
      clear oa ob oc of ol hoc hoc2
      have hszw4 := hb4.size; (try simp at hszw4); have hM_1 : BM w4 w.heap.size R C A n cap := (Kb hM); have hX_1 : BO w4 (w.heap.size + 1) x := (by (have hXu := hX; unfold BO at hXu ⊢; (with_reducible (repeat (first | exact hXu | refine Blk.below ?_ (by assumption) Ks | apply Blk.drew | apply Blk.drewN | apply Blk.alloc | apply Blk.set_ | apply Blk.far; rotate_left; (simp only [ne_eq]; omega); rotate_right))))); have hR_1 : BM w4 (w.heap.size + 1 + 1) 0 0 none 0 0 := (Kb hR); have hbw_1 : Below w.heap.size w w4 := Kw; clear ma mb mc mf ml x0 x1 x2 x3 xf xl ra rb rc rf rl; clear hM hX hR hbw hb4; have hM := hM_1; have hX := hX_1; have hR := hR_1; have hbw := hbw_1; clear hM_1 hX_1 hR_1 hbw_1; obtain ⟨ma, mb, mc, mf, ml⟩ := hM.mx; obtain ⟨x0, x1, x2, x3, xf, xl⟩ := hX.cells; obtain ⟨ra, rb, rc, rf, rl⟩ := hR.mx
      obtain ⟨oa, ob, oc, of, ol⟩ := hO4.mx
      have hvr := B3.of hR
      go_wp2_with fail
      refine ret_MB (b := w.heap.size + 1 + 1) (r := R) (c := C) (A := A3) (n := 0) (cap := c3) Try.results48 rfl (Kb hvr) rfl ?_
      have ho5 : OR w4 (w.heap.size + 1 + 1 + 1) (.slice A3 0 c3) (tb R C g) := ho4.as (HTF.out.trans HTB.out.symm)
      exact MBR.mk rfl (OR.mono (B := w.heap.size + 1 + 1 + 1) (Ko ho5) (by omega)) Kw
end Go.Proofs.Ytlggfmfelakadaa

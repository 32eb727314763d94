/-
  DERIVED. One operation on rows, of the reference: IsRowOp, DoRowOp, where a multiple of a row is added.
-/
import Derived.Test.YtacjonkehcamgaaZS
import Derived.Test.YtacjonkehcamgaaOpsSq
import Derived.Test.YtacjonkehcamgaaCopyS
import Derived.Test.YtacjonkehcamgaaMatOps
import Derived.Test.YtacjonkehcamgaaMx2
namespace Go.Proofs.Ytacjonkehcamgaa
open Go.RowKit
set_option linter.unusedVariables false
set_option linter.unusedSimpArgs false
set_option maxRecDepth 100000 in
set_option maxHeartbeats 4000000 in
theorem spec_IsRowOp_add (R i j : Nat) (t : Int) (w : World) (hi : i < R) (hj : j < R) (hij : i ≠ j) (ht : Num t) (hR : R ≤ 24) :
    Calls Try.prog 211 #[.agg #[.int .i64 2, .int .i64 i, .int .i64 j, .int .i64 t], .int .i64 R] w (BV (.bool true) w) := by
  obtain ⟨t1, t2⟩ := ht
  have hne : ((j : Int) != (i : Int)) = true := by simp; omega
  go_enter Try.func211, Try.ntmps211
  go_wp2_with (first | (go_at_call 154; (first | refine (spec_l1In_yes _ _ _ _ (by omega)).mono ?_ | refine (spec_l1In_no _ _ _ _ (by omega)).mono ?_ | refine (spec_l1In _ _ _ _).mono ?_); rintro e w' ⟨rfl, rfl⟩) | (go_at_call 194; (first | refine (spec_IsNumber_yes _ _ (by omega)).mono ?_ | refine (spec_IsNumber_no _ _ (by omega)).mono ?_ | refine (spec_IsNumber _ _).mono ?_); rintro e w' ⟨rfl, rfl⟩))
  go_ret
  exact BV.mk rfl Kw
set_option maxRecDepth 100000 in
set_option maxHeartbeats 8000000 in
theorem spec_DoRowOp_add (R C i j : Nat) (t : Int) (A : Option Addr) (n cap : Nat) (f : Fn2) (w : World) {B : Nat} (h : RI w B A n (tb R C f)) (hB : B ≤ w.heap.size) (hm : isMat R C (tb R C f) = true) (hnb : NBF f) (hi : i < R) (hj : j < R) (hij : i ≠ j) (ht : Num t) (hm2 : isMat R C (tb R C (opA f i j t)) = true) (hC0 : 0 < C) (hR : R ≤ 24) (hC : C ≤ 24) :
    Calls Try.prog 152 #[.agg #[.int .i64 R, .int .i64 C, .slice A n cap], .agg #[.int .i64 2, .int .i64 i, .int .i64 j, .int .i64 t]] w (MBR ⟨R, C, tb R C (opA f i j t)⟩ true w) := by
  have hln := h.len
  rw [tb_len] at hln
  have hRC : R * C ≤ 24 * 24 := Nat.mul_le_mul hR hC
  have hn : n ≤ 1048576 := by omega
  have H2 := Lib.hid (h.more hB)
  have HM := Lib.hid hm
  have HM2 := Lib.hid hm2
  have HNB := Lib.hid hnb
  clear h hm hm2 hnb hln
  go_enter Try.func152, Try.ntmps152
  go_wp2_with fail
  refine (spec_IsMatrix R C A n cap (tb R C f) _ (C := w.heap.size) (Kr H2.out) Ks hn).mono ?_
  rw [HM.out]
  rintro e w1 ⟨rfl, hb1⟩
  have hs1 := hb1.size
  simp at hs1
  have hM : BM w1 w.heap.size R C A n cap := Ka
  have hX : Blk w1 (w.heap.size + 1) 66 #[.int .i64 2, .int .i64 i, .int .i64 j, .int .i64 t] := by (with_reducible (repeat (first | assumption | refine Blk.new_at _ _ _ _ Ks | refine Blk.below ?_ (by assumption) Ks | apply Blk.drew | apply Blk.drewN | refine Blk.far ?_ (by simp only [ne_eq]; omega) _ | apply Blk.alloc)))
  have hRS : BM w1 (w.heap.size + 1 + 1) 0 0 none 0 0 := Ka
  have hbw : Below w.heap.size w w1 := Kw
  clear hb1
  obtain ⟨ma, mb, mc, mf, ml⟩ := hM.mx
  have xa := hX.cell 0
  have xb := hX.cell 1
  have xc := hX.cell 2
  have xd := hX.cell 3
  have xf := hX.frozen
  have xl := hX.lt
  simp at xa xb xc xd
  go_wp2_with fail
  refine (spec_IsRowOp_add R i j t _ hi hj hij ht hR).mono ?_
  rintro e w2 ⟨rfl, hb2⟩
  have hszw2 := hb2.size; (try simp at hszw2); have hM_1 : BM w2 w.heap.size R C A n cap := (Kb hM); have hX_1 : Blk w2 (w.heap.size + 1) 66 #[.int .i64 2, .int .i64 i, .int .i64 j, .int .i64 t] := (by (with_reducible (repeat (first | exact hX | refine Blk.below ?_ (by assumption) Ks | apply Blk.drew | apply Blk.drewN | apply Blk.alloc | apply Blk.set_ | apply Blk.far; rotate_left; (simp only [ne_eq]; omega); rotate_right)))); have hR_1 : BM w2 (w.heap.size + 1 + 1) 0 0 none 0 0 := (Kb hRS); have hbw_1 : Below w.heap.size w w2 := Kw; clear hM hX hRS hbw ma mb mc mf ml xa xb xc xd xf xl; have hM := hM_1; have hX := hX_1; have hRS := hR_1; have hbw := hbw_1; clear hM_1 hX_1 hR_1 hbw_1; obtain ⟨ma, mb, mc, mf, ml⟩ := hM.mx; have xa := hX.cell 0; have xb := hX.cell 1; have xc := hX.cell 2; have xd := hX.cell 3; have xf := hX.frozen; have xl := hX.lt; simp at xa xb xc xd
  go_wp2_with fail
  refine (spec_l3Copy R C A n cap (tb R C f) _ (B := w.heap.size) (Kr H2.out) Ks hn).mono ?_
  rintro e w3 ⟨A3, n3, c3, rfl, -, ho3, hb3⟩
  have hoc : OR w3 (w.heap.size + 1 + 1 + 1) (.slice A3 n3 c3) (tb R C f) := OR.mono (xs := tb R C f) ho3 Ks
  clear ho3
  have hszw3 := hb3.size; (try simp at hszw3); have hM_1 : BM w3 w.heap.size R C A n cap := (Kb hM); have hX_1 : Blk w3 (w.heap.size + 1) 66 #[.int .i64 2, .int .i64 i, .int .i64 j, .int .i64 t] := (by (with_reducible (repeat (first | exact hX | refine Blk.below ?_ (by assumption) Ks | apply Blk.drew | apply Blk.drewN | apply Blk.alloc | apply Blk.set_ | apply Blk.far; rotate_left; (simp only [ne_eq]; omega); rotate_right)))); have hR_1 : BM w3 (w.heap.size + 1 + 1) 0 0 none 0 0 := (Kb hRS); have hbw_1 : Below w.heap.size w w3 := Kw; clear hM hX hRS hbw ma mb mc mf ml xa xb xc xd xf xl; have hM := hM_1; have hX := hX_1; have hRS := hR_1; have hbw := hbw_1; clear hM_1 hX_1 hR_1 hbw_1; obtain ⟨ma, mb, mc, mf, ml⟩ := hM.mx; have xa := hX.cell 0; have xb := hX.cell 1; have xc := hX.cell 2; have xd := hX.cell 3; have xf := hX.frozen; have xl := hX.lt; simp at xa xb xc xd
  have hO : BM (w3.alloc (.cells #[.int .i64 R, .int .i64 C, .slice A3 n3 c3] 26)) w3.heap.size R C A3 n3 c3 := Ka
  have hoc2 : OR (w3.alloc (.cells #[.int .i64 R, .int .i64 C, .slice A3 n3 c3] 26)) (w.heap.size + 1 + 1 + 1) (.slice A3 n3 c3) (tb R C f) := hoc.alloc _
  have HOW := Lib.hid hoc.own
  have hn3 := hoc.lenEq
  rw [tb_len] at hn3
  have hn3' : n3 ≤ 1048576 := by omega
  obtain ⟨oa, ob, oc, of, ol⟩ := hO.mx
  clear hoc hn3
  go_wp2_with fail
  refine (spec_l5Do_add R C i j t A3 n3 c3 f _ (B := w.heap.size + 1 + 1 + 1) (Ko hoc2) hi hj hij ht HNB.out hC0 hC hR).mono ?_
  rintro e w4 ⟨rfl, ho4, hg4, hsz4⟩
  simp at hsz4
  have kM : BM w4 w.heap.size R C A n cap := BX.grown (Kb hM) hg4 (fun e => by have := (HOW.out _ e.symm).1; omega)
  have kX : Blk w4 (w.heap.size + 1) 66 #[.int .i64 2, .int .i64 i, .int .i64 j, .int .i64 t] := Blk.grown (by (with_reducible (repeat (first | exact hX | refine Blk.below ?_ (by assumption) Ks | apply Blk.drew | apply Blk.drewN | apply Blk.alloc | apply Blk.set_ | apply Blk.far; rotate_left; (simp only [ne_eq]; omega); rotate_right)))) hg4 (fun e => by have := (HOW.out _ e.symm).1; omega)
  have kR : BM w4 (w.heap.size + 1 + 1) 0 0 none 0 0 := BX.grown (Kb hRS) hg4 (fun e => by have := (HOW.out _ e.symm).1; omega)
  have kO : BM w4 w3.heap.size R C A3 n3 c3 := BX.grown (Kb hO) hg4 (fun e => by have := (HOW.out _ e.symm).2; omega)
  have kb : Below w.heap.size w w4 := Below.trans (show Below w.heap.size w (w3.alloc (.cells #[.int .i64 R, .int .i64 C, .slice A3 n3 c3] 26)) from Kw) (only_below hg4 (by simp; omega) fun g e => by have := (HOW.out g e).1; omega)
  clear hM hX hRS hbw hO hoc2 hg4 ma mb mc mf ml xa xb xc xd xf xl oa ob oc of ol
  have hM := kM
  have hX := kX
  have hRS := kR
  have hbw := kb
  clear kM kX kR kb
  obtain ⟨ma, mb, mc, mf, ml⟩ := hM.mx
  have xa := hX.cell 0
  have xb := hX.cell 1
  have xc := hX.cell 2
  have xd := hX.cell 3
  have xf := hX.frozen
  have xl := hX.lt
  simp at xa xb xc xd
  obtain ⟨oa, ob, oc, of, ol⟩ := kO.mx
  go_wp2_with fail
  refine (spec_l3Done R C A3 n3 c3 (tb R C (opA f i j t)) _ (B := w4.heap.size) ho4.reads (Nat.le_refl _) hn3').mono ?_
  rw [HM2.out, chkV_t]
  rintro e w5 ⟨rfl, hb5⟩
  have ho5 : OR w5 (w.heap.size + 1 + 1 + 1) (.slice A3 n3 c3) (tb R C (opA f i j t)) := Ko ho4
  clear oa ob oc of ol
  have hszw5 := hb5.size; (try simp at hszw5); have hM_1 : BM w5 w.heap.size R C A n cap := (Kb hM); have hX_1 : Blk w5 (w.heap.size + 1) 66 #[.int .i64 2, .int .i64 i, .int .i64 j, .int .i64 t] := (by (with_reducible (repeat (first | exact hX | refine Blk.below ?_ (by assumption) Ks | apply Blk.drew | apply Blk.drewN | apply Blk.alloc | apply Blk.set_ | apply Blk.far; rotate_left; (simp only [ne_eq]; omega); rotate_right)))); have hR_1 : BM w5 (w.heap.size + 1 + 1) 0 0 none 0 0 := (Kb hRS); have hbw_1 : Below w.heap.size w w5 := Kw; clear hM hX hRS hbw ma mb mc mf ml xa xb xc xd xf xl; have hM := hM_1; have hX := hX_1; have hRS := hR_1; have hbw := hbw_1; clear hM_1 hX_1 hR_1 hbw_1; obtain ⟨ma, mb, mc, mf, ml⟩ := hM.mx; have xa := hX.cell 0; have xb := hX.cell 1; have xc := hX.cell 2; have xd := hX.cell 3; have xf := hX.frozen; have xl := hX.lt; simp at xa xb xc xd
  have hvr := B3.of hRS
  obtain ⟨ra, rb, rc, rf, rl⟩ := hRS.mx
  go_wp2_with fail
  refine ret_MB (b := w.heap.size + 1 + 1) (r := R) (c := C) (A := A3) (n := n3) (cap := c3) Try.results152 rfl (Kb hvr) rfl ?_
  exact MBR.mk rfl (OR.mono (B := w.heap.size + 1 + 1 + 1) (Ko ho5) (by omega)) Kw
end Go.Proofs.Ytacjonkehcamgaa

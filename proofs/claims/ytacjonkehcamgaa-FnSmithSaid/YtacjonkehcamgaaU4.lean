/-
  DERIVED. Several small texts in one: Sm1, Unit, PlUn, PlSm, Sm2, Least, LeastS, Ls2S.
-/
import Derived.Test.YtacjonkehcamgaaU2
import Derived.Test.YtacjonkehcamgaaU3
import Derived.Test.YtacjonkehcamgaaU1
/-
  DERIVED. Operations on columns in a work.
-/
namespace Go.Proofs.Ytacjonkehcamgaa
open Go.RowKit
set_option linter.unusedVariables false
set_option linter.unusedSimpArgs false
theorem isMat_tbO {R C : Nat} {f : Fn2} (h : OKF R C f) (hR : R ≤ 24) (hC : C ≤ 24) : isMat (R : Int) (C : Int) (tb R C f) = true := by
  refine isMat_iff.2 ⟨by omega, by omega, by omega, by omega, by rw [tb_len, Int.natCast_mul], ?_⟩
  rw [List.all_eq_true]
  exact tb_mem (P := fun x => isNum x = true) fun i j hi hj => (h i j hi hj).isN
theorem impl_Transpose_tb (R C : Nat) (A : Option Addr) (n cap : Nat) (f : Fn2) (w : World) {B : Nat} (h : RI w B A n (tb R C f)) (hB : B ≤ w.heap.size) (hf : OKF R C f) (hR : R ≤ 24) (hC : C ≤ 24) :
    Calls Try.prog 63 #[.agg #[.int .i64 R, .int .i64 C, .slice A n cap]] w (MBR ⟨C, R, tb C R (tp f)⟩ true w) := by
  have hl := h.len
  rw [tb_len] at hl
  have h2 := impl_TransposeOf R C A n cap (tb R C f) w h hB (by have := Nat.mul_le_mul hR hC; omega)
  have hv : trM (R : Int) (C : Int) (tb R C f) = ⟨C, R, tb C R (tp f)⟩ := by
    unfold trM
    rw [isMat_tbO hf hR hC]
    simp only [if_true, Int.toNat_natCast]
    congr 1
    exact tb_ext fun a b ha hb => cel_tb hb ha
  rw [hv, isMat_tbO hf hR hC] at h2
  exact h2
section
variable {w w' w2 : World} {B b R C n cap n2 cap2 n3 cap3 m k : Nat} {f g h : Fn2} {bd : Bool} {A A2 A3 M : Option Addr}
theorem WB.putM {f' : Fn2} (k5 : WB w B b R C f g h bd A n cap A2 n2 cap2 A3 n3 cap3) (hb : Below w.heap.size w w') (ho : OR w' w.heap.size (.slice M m k) (tb R C f')) :
    WB (((w'.setCell ⟨b, 0, none⟩ (.int .i64 R)).setCell ⟨b, 1, none⟩ (.int .i64 C)).setCell ⟨b, 2, none⟩ (.slice M m k)) B b R C f' g h bd M m k A2 n2 cap2 A3 n3 cap3 := by
  have k6 := k5.below hb (Nat.le_refl _)
  have hlt := k5.lt
  have hBb := k5.hb
  have hme : (Value.slice M m k).ownBlock ≠ some b := fun e => by have := (ho.own _ e).1; omega
  have ho2 := ho.mono (B' := B) (by omega)
  refine ⟨(((k6.blk.set_ 0 _).set_ 1 _).set_ 2 _).as rfl, k5.hb, ((ho2.far hme _).far hme _).far hme _, ((k6.l.far k6.lb _).far k6.lb _).far k6.lb _, ((k6.r.far k6.rb _).far k6.rb _).far k6.rb _, fun g h1 h2 => ?_, fun g h1 h2 => ?_, k6.lr, hme, k6.lb, k6.rb⟩
  · have := (ho.own _ h1).1; have := (k5.l.own _ h2).2; omega
  · have := (ho.own _ h1).1; have := (k5.r.own _ h2).2; omega
theorem WB.putR {h' : Fn2} (k5 : WB w B b R C f g h bd A n cap A2 n2 cap2 A3 n3 cap3) (hb : Below w.heap.size w w') (ho : OR w' w.heap.size (.slice M m k) (tb C C h')) :
    WB (((w'.setCell ⟨b, 6, none⟩ (.int .i64 C)).setCell ⟨b, 7, none⟩ (.int .i64 C)).setCell ⟨b, 8, none⟩ (.slice M m k)) B b R C f g h' bd A n cap A2 n2 cap2 M m k := by
  have k6 := k5.below hb (Nat.le_refl _)
  have hlt := k5.lt
  have hBb := k5.hb
  have hme : (Value.slice M m k).ownBlock ≠ some b := fun e => by have := (ho.own _ e).1; omega
  have ho2 := ho.mono (B' := B) (by omega)
  refine ⟨(((k6.blk.set_ 6 _).set_ 7 _).set_ 8 _).as rfl, k5.hb, ((k6.m.far k6.mb _).far k6.mb _).far k6.mb _, ((k6.l.far k6.lb _).far k6.lb _).far k6.lb _, ((ho2.far hme _).far hme _).far hme _, k6.ml, fun g h1 h2 => ?_, fun g h1 h2 => ?_, k6.mb, k6.lb, hme⟩
  · have := (ho.own _ h2).1; have := (k5.m.own _ h1).2; omega
  · have := (ho.own _ h2).1; have := (k5.l.own _ h1).2; omega
theorem below_put3 {b0 b1 b2 : Nat} {u0 u1 u2 : Value} (h : Below B w2 w') (hb : B ≤ b) : Below B w2 (((w'.setCell ⟨b, b0, none⟩ u0).setCell ⟨b, b1, none⟩ u1).setCell ⟨b, b2, none⟩ u2) :=
  ((h.trans (below_set_at hb)).trans (below_set_at hb)).trans (below_set_at hb)
end
/-- A sum of columns as it goes in both. -/
def okC (R C : Nat) (f h : Fn2) (i j : Nat) (t : Int) : Prop := OKF C R (opA (tp f) i j t) ∧ OKF C C (opA (tp h) i j t)
def CWA (B b R C : Nat) (f g h : Fn2) (i j : Nat) (t : Int) (w : World) (e : Ending) (w' : World) : Prop :=
  e = .returned (.tuple #[]) ∧ Below B w w' ∧ ((okC R C f h i j t ∧ WK w' B b R C (tp (opA (tp f) i j t)) g (tp (opA (tp h) i j t)) false) ∨ (¬ okC R C f h i j t ∧ ∃ f' g' h', WK w' B b R C f' g' h' true))
set_option maxRecDepth 100000 in
set_option maxHeartbeats 8000000 in
theorem impl_cols_swap (B b R C i j : Nat) (f g h : Fn2) (w : World) (hK : WK w B b R C f g h false) (hi : i < C) (hj : j < C) (hij : i ≠ j) (hf : OKF R C f) (hh : OKF C C h) (hR0 : 0 < R) (hC : C ≤ 24) (hR : R ≤ 24) :
    Calls Try.prog 215 #[.pointer (some ⟨b, 0, none⟩), .agg #[.int .i64 0, .int .i64 i, .int .i64 j, .int .i64 0]] w (RWD B b R C (tp (swF (tp f) i j)) g (tp (swF (tp h) i j)) w) := by
  obtain ⟨A, n, cap, A2, n2, cap2, A3, n3, cap3, hWw⟩ := hK
  have hBb := hWw.hb
  have hbl := hWw.lt
  have HIJ := Lib.hid hij
  have HF := Lib.hid hf
  have HH := Lib.hid hh
  clear hij hf hh
  go_enter Try.func215, Try.ntmps215
  go_wp2_with fail
  obtain ⟨xs, HXS⟩ : ∃ v : Array Value, Hid (v = #[.int .i64 0, .int .i64 i, .int .i64 j, .int .i64 0]) := ⟨_, Lib.hid rfl⟩
  obtain ⟨xb, hxb0⟩ : ∃ q, q = w.heap.size := ⟨_, rfl⟩
  have hX : Blk (w.alloc (.cells #[.int .i64 0, .int .i64 i, .int .i64 j, .int .i64 0] 66)) xb 66 #[.int .i64 0, .int .i64 i, .int .i64 j, .int .i64 0] := by rw [hxb0]; exact Blk.new _ _ _
  have hW := hWw.alloc (.cells #[.int .i64 0, .int .i64 i, .int .i64 j, .int .i64 0] 66)
  have HBW : Hid (Below B w (w.alloc (.cells #[.int .i64 0, .int .i64 i, .int .i64 j, .int .i64 0] 66))) := Lib.hid (Below.mono (B := w.heap.size) Kw (by omega))
  have hbe : ¬ b = xb := by omega
  have hbe2 : ¬ xb = b := by omega
  have hxw : xb < (w.alloc (.cells #[.int .i64 0, .int .i64 i, .int .i64 j, .int .i64 0] 66)).heap.size := by simp; omega
  rw [← hxb0]
  generalize w.alloc (.cells #[.int .i64 0, .int .i64 i, .int .i64 j, .int .i64 0] 66) = w0 at *
  have hxb := hxw
  clear hxb0 hWw hxw
  have HW0 := Lib.hid hW
  have HX0 : Hid (Blk w0 xb 66 xs) := Lib.hid (by rw [HXS.out]; exact hX)
  have hBw : B ≤ w0.heap.size := by have := hW.lt; omega
  have hbd : Below w0.heap.size w0 w0 := Below.refl _ _
  obtain ⟨c0, c1, c2, c3, c4, c5, c6, c7, c8, c9, cf, cl⟩ := hW.cells; have x0 := hX.cell 0; have x1 := hX.cell 1; have x2 := hX.cell 2; have x3 := hX.cell 3; simp at x0 x1 x2 x3
  ((refine wp_region_held_drew (S := (fun w' => w'.cell? ⟨b, 1, none⟩ = some (.int .i64 C) ∧ w'.cell? ⟨b, 9, none⟩ = some (.bool false) ∧ w'.cell? ⟨xb, 0, none⟩ = some (.int .i64 0) ∧ w'.cell? ⟨xb, 1, none⟩ = some (.int .i64 i) ∧ w'.cell? ⟨xb, 2, none⟩ = some (.int .i64 j) ∧ w'.cell? ⟨xb, 3, none⟩ = some (.int .i64 (0)))) (by kernel_rfl) ?_ (fun hHeld => ?_)); ((focus ((try dsimp only); (go_keep)))); ((refine tk_ (i := 0) (v := ?_) (y := Or.inl ⟨by rfl, ?_⟩) (h := ?_); rotate_left; (focus (((intro w hSw; (try dsimp only at hSw); go_simp) <;> (try with_reducible rfl)); done)); (try simp only [Act.put, p1_, p2_, p3_]))); ((refine tk_ (i := 1) (v := ?_) (y := Or.inl ⟨by rfl, ?_⟩) (h := ?_); rotate_left; (focus (((intro w hSw; (try dsimp only at hSw); go_simp) <;> (try with_reducible rfl)); done)); (try simp only [Act.put, p1_, p2_, p3_]))); ((refine tk_ (i := 2) (v := ?_) (y := Or.inl ⟨by rfl, ?_⟩) (h := ?_); rotate_left; (focus (((intro w hSw; (try dsimp only at hSw); go_simp) <;> (try with_reducible rfl)); done)); (try simp only [Act.put, p1_, p2_, p3_]))); ((refine tk_ (i := 3) (v := ?_) (y := Or.inl ⟨by rfl, ?_⟩) (h := ?_); rotate_left; (focus (((intro w hSw; (try dsimp only at hSw); go_simp) <;> (try with_reducible rfl)); done)); (try simp only [Act.put, p1_, p2_, p3_]))); ((refine tk_ (i := 4) (v := ?_) (y := Or.inl ⟨by rfl, ?_⟩) (h := ?_); rotate_left; (focus (((intro w hSw; (try dsimp only at hSw); go_simp) <;> (try with_reducible rfl)); done)); (try simp only [Act.put, p1_, p2_, p3_]))); ((refine tk_ (i := 5) (v := ?_) (y := Or.inl ⟨by rfl, ?_⟩) (h := ?_); rotate_left; (focus (((intro w hSw; (try dsimp only at hSw); go_simp) <;> (try with_reducible rfl)); done)); (try simp only [Act.put, p1_, p2_, p3_]))); ((refine tk_ (i := 6) (v := ?_) (y := Or.inl ⟨by rfl, ?_⟩) (h := ?_); rotate_left; (focus (((intro w hSw; (try dsimp only at hSw); go_simp) <;> (try with_reducible rfl)); done)); (try simp only [Act.put, p1_, p2_, p3_]))); ((refine tk_ (i := 7) (v := ?_) (y := Or.inl ⟨by rfl, ?_⟩) (h := ?_); rotate_left; (focus (((intro w hSw; (try dsimp only at hSw); go_simp) <;> (try with_reducible rfl)); done)); (try simp only [Act.put, p1_, p2_, p3_]))); ((refine tk_ (i := 8) (v := ?_) (y := Or.inl ⟨by rfl, ?_⟩) (h := ?_); rotate_left; (focus (((intro w hSw; (try dsimp only at hSw); go_simp) <;> (try with_reducible rfl)); done)); (try simp only [Act.put, p1_, p2_, p3_]))); ((refine tk_ (i := 9) (v := ?_) (y := Or.inl ⟨by rfl, ?_⟩) (h := ?_); rotate_left; (focus (((intro w hSw; (try dsimp only at hSw); go_simp) <;> (try with_reducible rfl)); done)); (try simp only [Act.put, p1_, p2_, p3_]))); ((refine tk_ (i := 10) (v := ?_) (y := Or.inl ⟨by rfl, ?_⟩) (h := ?_); rotate_left; (focus (((intro w hSw; (try dsimp only at hSw); go_simp) <;> (try with_reducible rfl)); done)); (try simp only [Act.put, p1_, p2_, p3_]))); ((refine wpAnyH_ready (rs := [11]) (by kernel_rfl) (by simp) ?_; refine AllReadyH.cons (by simp only [e1_, e2_, e3_]; try rfl) (fun K hK => ?_) AllReadyH.nil; go_simp; (go_at_call 142; refine (impl_IsRowOp_swap C i j _ hi hj HIJ.out hC).mono ?_; rintro e w1 ⟨rfl, hb1⟩; (have hsz := hb1.size); (try simp at hsz); (have hsd := hbd.size); (have hbd_1 : Below w0.heap.size w0 w1 := Kw); (have hW_1 : WB w1 B b R C f g h false A n cap A2 n2 cap2 A3 n3 cap3 := HW0.out.below hbd_1 (Nat.le_refl _)); (have hX_1 : Blk w1 xb 66 xs := HX0.out.below hbd_1 hxb); clear c0 c1 c2 c3 c4 c5 c6 c7 c8 c9 cf cl x0 x1 x2 x3; clear hW hX hbd; (have hW := hW_1); (have hX := hX_1); (have hbd := hbd_1); clear hW_1 hX_1 hbd_1; rw [HXS.out] at hX; obtain ⟨c0, c1, c2, c3, c4, c5, c6, c7, c8, c9, cf, cl⟩ := hW.cells; have x0 := hX.cell 0; have x1 := hX.cell 1; have x2 := hX.cell 2; have x3 := hX.cell 3; simp at x0 x1 x2 x3); (try go_wp2_with fail); refine hK.out _ _ ?_ (fun hHeld => ?_); (focus ((try dsimp only); (go_keep))); clear hK K; (try simp only [Act.put, p1_, p2_, p3_]))); ((refine tk_ (i := 12) (v := ?_) (y := Or.inl ⟨by rfl, ?_⟩) (h := ?_); rotate_left; (focus (((intro w hSw; (try dsimp only at hSw); go_simp) <;> (try with_reducible rfl)); done)); (try simp only [Act.put, p1_, p2_, p3_]))); ((refine tk_ (i := 13) (v := ?_) (y := Or.inl ⟨by rfl, ?_⟩) (h := ?_); rotate_left; (focus (((intro w hSw; (try dsimp only at hSw); go_simp) <;> (try with_reducible rfl)); done)); (try simp only [Act.put, p1_, p2_, p3_]))); (refine wpAnyH_done (by kernel_rfl) ?_ _))
  go_wp2_with fail
  refine (impl_Transpose_tb R C A n cap f _ hW.m.reads (Nat.le_refl _) HF.out hR hC).mono ?_
  rintro e w2 ⟨Aa, na, ca, rfl, hoa, hb2⟩
  have hs1 := hbd.size
  have hs2 := hb2.size
  have hUa : Own (.slice Aa na ca) w1.heap.size w2.heap.size := hoa.own
  have hbd_1 : Below w0.heap.size w0 w2 := Kw
  (have hW_1 : WB w2 B b R C f g h false A n cap A2 n2 cap2 A3 n3 cap3 := HW0.out.below hbd_1 (Nat.le_refl _)); (have hX_1 : Blk w2 xb 66 xs := HX0.out.below hbd_1 hxb); clear c0 c1 c2 c3 c4 c5 c6 c7 c8 c9 cf cl x0 x1 x2 x3; clear hW hX hbd; (have hW := hW_1); (have hX := hX_1); (have hbd := hbd_1); clear hW_1 hX_1 hbd_1; rw [HXS.out] at hX; obtain ⟨c0, c1, c2, c3, c4, c5, c6, c7, c8, c9, cf, cl⟩ := hW.cells; have x0 := hX.cell 0; have x1 := hX.cell 1; have x2 := hX.cell 2; have x3 := hX.cell 3; simp at x0 x1 x2 x3
  go_wp2_with fail
  refine (impl_Transpose_tb C C A3 n3 cap3 h _ (hW.r.alloc _).reads (Nat.le_refl _) HH.out hC hC).mono ?_
  rintro e w3 ⟨Ab, nb, cb, rfl, hob, hb3⟩
  have hs3 := hb3.size
  simp at hs3
  have hUb : Own (.slice Ab nb cb) (w2.heap.size + 1) w3.heap.size := by have := hob.own; simpa using this
  have hAx : BM w3 w2.heap.size C R Aa na ca := Ka
  have hoa3 : OR w3 w1.heap.size (.slice Aa na ca) (tb C R (tp f)) := Ko hoa
  have hob3 : OR w3 (w2.heap.size + 1) (.slice Ab nb cb) (tb C C (tp h)) := by simpa using hob
  have hbd_1 : Below w0.heap.size w0 w3 := Kw
  (have hW_1 : WB w3 B b R C f g h false A n cap A2 n2 cap2 A3 n3 cap3 := HW0.out.below hbd_1 (Nat.le_refl _)); (have hX_1 : Blk w3 xb 66 xs := HX0.out.below hbd_1 hxb); clear c0 c1 c2 c3 c4 c5 c6 c7 c8 c9 cf cl x0 x1 x2 x3; clear hW hX hbd; (have hW := hW_1); (have hX := hX_1); (have hbd := hbd_1); clear hW_1 hX_1 hbd_1; rw [HXS.out] at hX; obtain ⟨c0, c1, c2, c3, c4, c5, c6, c7, c8, c9, cf, cl⟩ := hW.cells; have x0 := hX.cell 0; have x1 := hX.cell 1; have x2 := hX.cell 2; have x3 := hX.cell 3; simp at x0 x1 x2 x3
  obtain ⟨aa, ab, ac, af, al⟩ := hAx.mx
  clear hoa hob hb2 hb3
  have hx3 : xb < w3.heap.size := by have := hbd.size; omega
  go_wp2_with fail
  have hBx : BM (w3.alloc (.cells #[.int .i64 C, .int .i64 C, .slice Ab nb cb] 26)) w3.heap.size C C Ab nb cb := Ka
  refine (impl_rowOp_swap C R i j 0 Aa na ca (tp f) _ (B := w1.heap.size) (Ko hoa3) hi hj HIJ.out hR0 (by omega) hC).mono ?_
  rintro e w4 ⟨rfl, hoa4, hgr4, hs4⟩
  simp at hs4; have hAx4 : BM w4 w2.heap.size C R Aa na ca := BX.keptOwn (Kb hAx) hgr4 hUa (.inr (Nat.le_refl _)); have hBx4 : BM w4 w3.heap.size C C Ab nb cb := BX.keptOwn hBx hgr4 hUa (.inr (by omega)); have hob4 : OR w4 (w2.heap.size + 1) (.slice Ab nb cb) (tb C C (tp h)) := OR.keptOwn (Ko hob3) hgr4 hUb hUa (.inr (by omega)); have hbd_1 : Below w0.heap.size w0 w4 := Below.trans Kw (below_keptOwn hgr4 hUa hs1 Ks); clear hgr4 hAx hoa3 hob3 hBx aa ab ac af al; (have hW_1 : WB w4 B b R C f g h false A n cap A2 n2 cap2 A3 n3 cap3 := HW0.out.below hbd_1 (Nat.le_refl _)); (have hX_1 : Blk w4 xb 66 xs := HX0.out.below hbd_1 hxb); clear c0 c1 c2 c3 c4 c5 c6 c7 c8 c9 cf cl x0 x1 x2 x3; clear hW hX hbd; (have hW := hW_1); (have hX := hX_1); (have hbd := hbd_1); clear hW_1 hX_1 hbd_1; rw [HXS.out] at hX; obtain ⟨c0, c1, c2, c3, c4, c5, c6, c7, c8, c9, cf, cl⟩ := hW.cells; have x0 := hX.cell 0; have x1 := hX.cell 1; have x2 := hX.cell 2; have x3 := hX.cell 3; simp at x0 x1 x2 x3; obtain ⟨aa, ab, ac, af, al⟩ := hAx4.mx; obtain ⟨ba, bb, bc, bf, bl⟩ := hBx4.mx
  go_wp2_with fail
  refine (impl_rowOp_swap C C i j 0 Ab nb cb (tp h) _ (B := w2.heap.size + 1) (Ko hob4) hi hj HIJ.out (by omega) (by omega) hC).mono ?_
  rintro e w5 ⟨rfl, hob5, hgr5, hs5⟩
  have hAx5 : BM w5 w2.heap.size C R Aa na ca := BX.keptOwn hAx4 hgr5 hUb (.inl (by omega)); have hBx5 : BM w5 w3.heap.size C C Ab nb cb := BX.keptOwn hBx4 hgr5 hUb (.inr (Nat.le_refl _)); have hoa5 := OR.keptOwn hoa4 hgr5 hUa hUb (.inl (by omega)); have hbd_1 : Below w0.heap.size w0 w5 := Below.trans hbd (below_keptOwn hgr5 hUb (by omega) Ks); clear hgr5 hAx4 hoa4 hob4 hBx4 aa ab ac af al ba bb bc bf bl; (have hW_1 : WB w5 B b R C f g h false A n cap A2 n2 cap2 A3 n3 cap3 := HW0.out.below hbd_1 (Nat.le_refl _)); (have hX_1 : Blk w5 xb 66 xs := HX0.out.below hbd_1 hxb); clear c0 c1 c2 c3 c4 c5 c6 c7 c8 c9 cf cl x0 x1 x2 x3; clear hW hX hbd; (have hW := hW_1); (have hX := hX_1); (have hbd := hbd_1); clear hW_1 hX_1 hbd_1; rw [HXS.out] at hX; obtain ⟨c0, c1, c2, c3, c4, c5, c6, c7, c8, c9, cf, cl⟩ := hW.cells; have x0 := hX.cell 0; have x1 := hX.cell 1; have x2 := hX.cell 2; have x3 := hX.cell 3; simp at x0 x1 x2 x3; obtain ⟨aa, ab, ac, af, al⟩ := hAx5.mx; obtain ⟨ba, bb, bc, bf, bl⟩ := hBx5.mx
  go_wp2_with fail
  refine (impl_Transpose_tb C R Aa na ca (swF (tp f) i j) _ hoa5.reads (Nat.le_refl _) (swF_ok (tp_ok HF.out) hi hj) hC hR).mono ?_
  rintro e w6 ⟨Am, nm, cm, rfl, hom, hb6⟩
  have hs6 := hb6.size
  have hW5 := hW
  have hbw0 := HW0.out.lt
  have hsd5 := hbd.size
  have hbx : ¬ w3.heap.size = b := by omega
  have hbx2 : ¬ b = w3.heap.size := by omega
  have hBx7 : BM w6 w3.heap.size C C Ab nb cb := Kb hBx5
  have hob7 : OR w6 (w2.heap.size + 1) (.slice Ab nb cb) (tb C C (swF (tp h) i j)) := Ko hob5
  have hbd_1 : Below w0.heap.size w0 w6 := Kw
  have HB7 := Lib.hid (below_put3 (b := b) (b0 := 0) (b1 := 1) (b2 := 2) (u0 := .int .i64 R) (u1 := .int .i64 C) (u2 := .slice Am nm cm) (hbd_1.mono hBw) hBb)
  (have hW_1 : WB w6 B b R C f g h false A n cap A2 n2 cap2 A3 n3 cap3 := HW0.out.below hbd_1 (Nat.le_refl _)); (have hX_1 : Blk w6 xb 66 xs := HX0.out.below hbd_1 hxb); clear c0 c1 c2 c3 c4 c5 c6 c7 c8 c9 cf cl x0 x1 x2 x3; clear hW hX hbd; (have hW := hW_1); (have hX := hX_1); (have hbd := hbd_1); clear hW_1 hX_1 hbd_1; rw [HXS.out] at hX; obtain ⟨c0, c1, c2, c3, c4, c5, c6, c7, c8, c9, cf, cl⟩ := hW.cells; have x0 := hX.cell 0; have x1 := hX.cell 1; have x2 := hX.cell 2; have x3 := hX.cell 3; simp at x0 x1 x2 x3
  clear aa ab ac af al ba bb bc bf bl
  obtain ⟨ba, bb, bc, bf, bl⟩ := hBx7.mx
  go_wp2_with fail
  refine (impl_Transpose_tb C C Ab nb cb (swF (tp h) i j) _ (OR.reads (OR.low (OR.low (OR.low hob7 (by simp; omega) _) (by simp; omega) _) (by simp; omega) _)) (Nat.le_refl _) (swF_ok (tp_ok HH.out) hi hj) hC hC).mono ?_
  rintro e w8 ⟨Ar, nr, cr, rfl, hor, hb8⟩
  have hW7 := hW5.putM hb6 hom
  have hs8 := hb8.size
  have hW8 := hW7.below hb8 (Nat.le_refl _)
  have hW9 := hW7.putR hb8 hor
  have HB8 := Lib.hid (HB7.out.trans (Below.mono hb8 (by have := hW7.lt; have := hW7.hb; omega)))
  clear c0 c1 c2 c3 c4 c5 c6 c7 c8 c9 cf cl x0 x1 x2 x3
  clear hW hW5 hW7 hX hbd hb8 hor hb6 hom ba bb bc bf bl hBx7 hob7 hBx5 hob5 hAx5 hoa5
  have HB9 := Lib.hid (below_put3 (b := b) (b0 := 6) (b1 := 7) (b2 := 8) (u0 := .int .i64 C) (u1 := .int .i64 C) (u2 := .slice Ar nr cr) HB8.out hBb)
  obtain ⟨c0, c1, c2, c3, c4, c5, c6, c7, c8, c9, cf, cl⟩ := hW8.cells
  go_wp2_with fail
  go_end0
  exact ⟨rfl, HBW.out.trans HB9.out, hW9.wk⟩
set_option maxRecDepth 100000 in
set_option maxHeartbeats 8000000 in
theorem impl_cols_add (B b R C i j : Nat) (f g h : Fn2) (t : Int) (w : World) (hK : WK w B b R C f g h false) (hi : i < C) (hj : j < C) (hij : i ≠ j) (ht : Num t) (hf : OKF R C f) (hh : OKF C C h) (hR0 : 0 < R) (hC : C ≤ 24) (hR : R ≤ 24) :
    Calls Try.prog 215 #[.pointer (some ⟨b, 0, none⟩), .agg #[.int .i64 2, .int .i64 i, .int .i64 j, .int .i64 t]] w (CWA B b R C f g h i j t w) := by
  have HT := Lib.hid ht
  clear ht
  obtain ⟨A, n, cap, A2, n2, cap2, A3, n3, cap3, hWw⟩ := hK
  have hBb := hWw.hb
  have hbl := hWw.lt
  have HIJ := Lib.hid hij
  have HF := Lib.hid hf
  have HH := Lib.hid hh
  clear hij hf hh
  go_enter Try.func215, Try.ntmps215
  go_wp2_with fail
  obtain ⟨xs, HXS⟩ : ∃ v : Array Value, Hid (v = #[.int .i64 2, .int .i64 i, .int .i64 j, .int .i64 t]) := ⟨_, Lib.hid rfl⟩
  obtain ⟨xb, hxb0⟩ : ∃ q, q = w.heap.size := ⟨_, rfl⟩
  have hX : Blk (w.alloc (.cells #[.int .i64 2, .int .i64 i, .int .i64 j, .int .i64 t] 66)) xb 66 #[.int .i64 2, .int .i64 i, .int .i64 j, .int .i64 t] := by rw [hxb0]; exact Blk.new _ _ _
  have hW := hWw.alloc (.cells #[.int .i64 2, .int .i64 i, .int .i64 j, .int .i64 t] 66)
  have HBW : Hid (Below B w (w.alloc (.cells #[.int .i64 2, .int .i64 i, .int .i64 j, .int .i64 t] 66))) := Lib.hid (Below.mono (B := w.heap.size) Kw (by omega))
  have hbe : ¬ b = xb := by omega
  have hbe2 : ¬ xb = b := by omega
  have hxw : xb < (w.alloc (.cells #[.int .i64 2, .int .i64 i, .int .i64 j, .int .i64 t] 66)).heap.size := by simp; omega
  rw [← hxb0]
  generalize w.alloc (.cells #[.int .i64 2, .int .i64 i, .int .i64 j, .int .i64 t] 66) = w0 at *
  have hxb := hxw
  clear hxb0 hWw hxw
  have HW0 := Lib.hid hW
  have HX0 : Hid (Blk w0 xb 66 xs) := Lib.hid (by rw [HXS.out]; exact hX)
  have hBw : B ≤ w0.heap.size := by have := hW.lt; omega
  have hbd : Below w0.heap.size w0 w0 := Below.refl _ _
  obtain ⟨c0, c1, c2, c3, c4, c5, c6, c7, c8, c9, cf, cl⟩ := hW.cells; have x0 := hX.cell 0; have x1 := hX.cell 1; have x2 := hX.cell 2; have x3 := hX.cell 3; simp at x0 x1 x2 x3
  ((refine wp_region_held_drew (S := (fun w' => w'.cell? ⟨b, 1, none⟩ = some (.int .i64 C) ∧ w'.cell? ⟨b, 9, none⟩ = some (.bool false) ∧ w'.cell? ⟨xb, 0, none⟩ = some (.int .i64 2) ∧ w'.cell? ⟨xb, 1, none⟩ = some (.int .i64 i) ∧ w'.cell? ⟨xb, 2, none⟩ = some (.int .i64 j) ∧ w'.cell? ⟨xb, 3, none⟩ = some (.int .i64 t))) (by kernel_rfl) ?_ (fun hHeld => ?_)); ((focus ((try dsimp only); (go_keep)))); ((refine tk_ (i := 0) (v := ?_) (y := Or.inl ⟨by rfl, ?_⟩) (h := ?_); rotate_left; (focus (((intro w hSw; (try dsimp only at hSw); go_simp) <;> (try with_reducible rfl)); done)); (try simp only [Act.put, p1_, p2_, p3_]))); ((refine tk_ (i := 1) (v := ?_) (y := Or.inl ⟨by rfl, ?_⟩) (h := ?_); rotate_left; (focus (((intro w hSw; (try dsimp only at hSw); go_simp) <;> (try with_reducible rfl)); done)); (try simp only [Act.put, p1_, p2_, p3_]))); ((refine tk_ (i := 2) (v := ?_) (y := Or.inl ⟨by rfl, ?_⟩) (h := ?_); rotate_left; (focus (((intro w hSw; (try dsimp only at hSw); go_simp) <;> (try with_reducible rfl)); done)); (try simp only [Act.put, p1_, p2_, p3_]))); ((refine tk_ (i := 3) (v := ?_) (y := Or.inl ⟨by rfl, ?_⟩) (h := ?_); rotate_left; (focus (((intro w hSw; (try dsimp only at hSw); go_simp) <;> (try with_reducible rfl)); done)); (try simp only [Act.put, p1_, p2_, p3_]))); ((refine tk_ (i := 4) (v := ?_) (y := Or.inl ⟨by rfl, ?_⟩) (h := ?_); rotate_left; (focus (((intro w hSw; (try dsimp only at hSw); go_simp) <;> (try with_reducible rfl)); done)); (try simp only [Act.put, p1_, p2_, p3_]))); ((refine tk_ (i := 5) (v := ?_) (y := Or.inl ⟨by rfl, ?_⟩) (h := ?_); rotate_left; (focus (((intro w hSw; (try dsimp only at hSw); go_simp) <;> (try with_reducible rfl)); done)); (try simp only [Act.put, p1_, p2_, p3_]))); ((refine tk_ (i := 6) (v := ?_) (y := Or.inl ⟨by rfl, ?_⟩) (h := ?_); rotate_left; (focus (((intro w hSw; (try dsimp only at hSw); go_simp) <;> (try with_reducible rfl)); done)); (try simp only [Act.put, p1_, p2_, p3_]))); ((refine tk_ (i := 7) (v := ?_) (y := Or.inl ⟨by rfl, ?_⟩) (h := ?_); rotate_left; (focus (((intro w hSw; (try dsimp only at hSw); go_simp) <;> (try with_reducible rfl)); done)); (try simp only [Act.put, p1_, p2_, p3_]))); ((refine tk_ (i := 8) (v := ?_) (y := Or.inl ⟨by rfl, ?_⟩) (h := ?_); rotate_left; (focus (((intro w hSw; (try dsimp only at hSw); go_simp) <;> (try with_reducible rfl)); done)); (try simp only [Act.put, p1_, p2_, p3_]))); ((refine tk_ (i := 9) (v := ?_) (y := Or.inl ⟨by rfl, ?_⟩) (h := ?_); rotate_left; (focus (((intro w hSw; (try dsimp only at hSw); go_simp) <;> (try with_reducible rfl)); done)); (try simp only [Act.put, p1_, p2_, p3_]))); ((refine tk_ (i := 10) (v := ?_) (y := Or.inl ⟨by rfl, ?_⟩) (h := ?_); rotate_left; (focus (((intro w hSw; (try dsimp only at hSw); go_simp) <;> (try with_reducible rfl)); done)); (try simp only [Act.put, p1_, p2_, p3_]))); ((refine wpAnyH_ready (rs := [11]) (by kernel_rfl) (by simp) ?_; refine AllReadyH.cons (by simp only [e1_, e2_, e3_]; try rfl) (fun K hK => ?_) AllReadyH.nil; go_simp; (go_at_call 142; refine (impl_IsRowOp_add C i j t _ hi hj HIJ.out HT.out hC).mono ?_; rintro e w1 ⟨rfl, hb1⟩; (have hsz := hb1.size); (try simp at hsz); (have hsd := hbd.size); (have hbd_1 : Below w0.heap.size w0 w1 := Kw); (have hW_1 : WB w1 B b R C f g h false A n cap A2 n2 cap2 A3 n3 cap3 := HW0.out.below hbd_1 (Nat.le_refl _)); (have hX_1 : Blk w1 xb 66 xs := HX0.out.below hbd_1 hxb); clear c0 c1 c2 c3 c4 c5 c6 c7 c8 c9 cf cl x0 x1 x2 x3; clear hW hX hbd; (have hW := hW_1); (have hX := hX_1); (have hbd := hbd_1); clear hW_1 hX_1 hbd_1; rw [HXS.out] at hX; obtain ⟨c0, c1, c2, c3, c4, c5, c6, c7, c8, c9, cf, cl⟩ := hW.cells; have x0 := hX.cell 0; have x1 := hX.cell 1; have x2 := hX.cell 2; have x3 := hX.cell 3; simp at x0 x1 x2 x3); (try go_wp2_with fail); refine hK.out _ _ ?_ (fun hHeld => ?_); (focus ((try dsimp only); (go_keep))); clear hK K; (try simp only [Act.put, p1_, p2_, p3_]))); ((refine tk_ (i := 12) (v := ?_) (y := Or.inl ⟨by rfl, ?_⟩) (h := ?_); rotate_left; (focus (((intro w hSw; (try dsimp only at hSw); go_simp) <;> (try with_reducible rfl)); done)); (try simp only [Act.put, p1_, p2_, p3_]))); ((refine tk_ (i := 13) (v := ?_) (y := Or.inl ⟨by rfl, ?_⟩) (h := ?_); rotate_left; (focus (((intro w hSw; (try dsimp only at hSw); go_simp) <;> (try with_reducible rfl)); done)); (try simp only [Act.put, p1_, p2_, p3_]))); (refine wpAnyH_done (by kernel_rfl) ?_ _))
  go_wp2_with fail
  refine (impl_Transpose_tb R C A n cap f _ hW.m.reads (Nat.le_refl _) HF.out hR hC).mono ?_
  rintro e w2 ⟨Aa, na, ca, rfl, hoa, hb2⟩
  have hs1 := hbd.size
  have hs2 := hb2.size
  have hUa : Own (.slice Aa na ca) w1.heap.size w2.heap.size := hoa.own
  have hbd_1 : Below w0.heap.size w0 w2 := Kw
  (have hW_1 : WB w2 B b R C f g h false A n cap A2 n2 cap2 A3 n3 cap3 := HW0.out.below hbd_1 (Nat.le_refl _)); (have hX_1 : Blk w2 xb 66 xs := HX0.out.below hbd_1 hxb); clear c0 c1 c2 c3 c4 c5 c6 c7 c8 c9 cf cl x0 x1 x2 x3; clear hW hX hbd; (have hW := hW_1); (have hX := hX_1); (have hbd := hbd_1); clear hW_1 hX_1 hbd_1; rw [HXS.out] at hX; obtain ⟨c0, c1, c2, c3, c4, c5, c6, c7, c8, c9, cf, cl⟩ := hW.cells; have x0 := hX.cell 0; have x1 := hX.cell 1; have x2 := hX.cell 2; have x3 := hX.cell 3; simp at x0 x1 x2 x3
  go_wp2_with fail
  refine (impl_Transpose_tb C C A3 n3 cap3 h _ (hW.r.alloc _).reads (Nat.le_refl _) HH.out hC hC).mono ?_
  rintro e w3 ⟨Ab, nb, cb, rfl, hob, hb3⟩
  have hs3 := hb3.size
  simp at hs3
  have hUb : Own (.slice Ab nb cb) (w2.heap.size + 1) w3.heap.size := by have := hob.own; simpa using this
  have hAx : BM w3 w2.heap.size C R Aa na ca := Ka
  have hoa3 : OR w3 w1.heap.size (.slice Aa na ca) (tb C R (tp f)) := Ko hoa
  have hob3 : OR w3 (w2.heap.size + 1) (.slice Ab nb cb) (tb C C (tp h)) := by simpa using hob
  have hbd_1 : Below w0.heap.size w0 w3 := Kw
  (have hW_1 : WB w3 B b R C f g h false A n cap A2 n2 cap2 A3 n3 cap3 := HW0.out.below hbd_1 (Nat.le_refl _)); (have hX_1 : Blk w3 xb 66 xs := HX0.out.below hbd_1 hxb); clear c0 c1 c2 c3 c4 c5 c6 c7 c8 c9 cf cl x0 x1 x2 x3; clear hW hX hbd; (have hW := hW_1); (have hX := hX_1); (have hbd := hbd_1); clear hW_1 hX_1 hbd_1; rw [HXS.out] at hX; obtain ⟨c0, c1, c2, c3, c4, c5, c6, c7, c8, c9, cf, cl⟩ := hW.cells; have x0 := hX.cell 0; have x1 := hX.cell 1; have x2 := hX.cell 2; have x3 := hX.cell 3; simp at x0 x1 x2 x3
  obtain ⟨aa, ab, ac, af, al⟩ := hAx.mx
  clear hoa hob hb2 hb3
  have hx3 : xb < w3.heap.size := by have := hbd.size; omega
  go_wp2_with fail
  have hBx : BM (w3.alloc (.cells #[.int .i64 C, .int .i64 C, .slice Ab nb cb] 26)) w3.heap.size C C Ab nb cb := Ka
  by_cases hr1 : rowOk (tp f) i j t R
  · refine (impl_rowOp_add_yes C R i j t Aa na ca (tp f) _ (B := w1.heap.size) (Ko hoa3) hi hj HIJ.out HT.out (tp_ok HF.out) hR0 hR hC hr1).mono ?_
    rintro e w4 ⟨rfl, hoa4, hgr4, hs4⟩
    simp at hs4; have hAx4 : BM w4 w2.heap.size C R Aa na ca := BX.keptOwn (Kb hAx) hgr4 hUa (.inr (Nat.le_refl _)); have hBx4 : BM w4 w3.heap.size C C Ab nb cb := BX.keptOwn hBx hgr4 hUa (.inr (by omega)); have hob4 : OR w4 (w2.heap.size + 1) (.slice Ab nb cb) (tb C C (tp h)) := OR.keptOwn (Ko hob3) hgr4 hUb hUa (.inr (by omega)); have hbd_1 : Below w0.heap.size w0 w4 := Below.trans Kw (below_keptOwn hgr4 hUa hs1 Ks); clear hgr4 hAx hoa3 hob3 hBx aa ab ac af al; (have hW_1 : WB w4 B b R C f g h false A n cap A2 n2 cap2 A3 n3 cap3 := HW0.out.below hbd_1 (Nat.le_refl _)); (have hX_1 : Blk w4 xb 66 xs := HX0.out.below hbd_1 hxb); clear c0 c1 c2 c3 c4 c5 c6 c7 c8 c9 cf cl x0 x1 x2 x3; clear hW hX hbd; (have hW := hW_1); (have hX := hX_1); (have hbd := hbd_1); clear hW_1 hX_1 hbd_1; rw [HXS.out] at hX; obtain ⟨c0, c1, c2, c3, c4, c5, c6, c7, c8, c9, cf, cl⟩ := hW.cells; have x0 := hX.cell 0; have x1 := hX.cell 1; have x2 := hX.cell 2; have x3 := hX.cell 3; simp at x0 x1 x2 x3; obtain ⟨aa, ab, ac, af, al⟩ := hAx4.mx; obtain ⟨ba, bb, bc, bf, bl⟩ := hBx4.mx
    have HR1 := Lib.hid ((rowOk_iff (tp_ok HF.out) hi hj HT.out).1 hr1)
    clear hr1
    go_wp2_with fail
    by_cases hr2 : rowOk (tp h) i j t C
    · refine (impl_rowOp_add_yes C C i j t Ab nb cb (tp h) _ (B := w2.heap.size + 1) (Ko hob4) hi hj HIJ.out HT.out (tp_ok HH.out) (by omega) hC hC hr2).mono ?_
      rintro e w5 ⟨rfl, hob5, hgr5, hs5⟩
      have hAx5 : BM w5 w2.heap.size C R Aa na ca := BX.keptOwn hAx4 hgr5 hUb (.inl (by omega)); have hBx5 : BM w5 w3.heap.size C C Ab nb cb := BX.keptOwn hBx4 hgr5 hUb (.inr (Nat.le_refl _)); have hoa5 := OR.keptOwn hoa4 hgr5 hUa hUb (.inl (by omega)); have hbd_1 : Below w0.heap.size w0 w5 := Below.trans hbd (below_keptOwn hgr5 hUb (by omega) Ks); clear hgr5 hAx4 hoa4 hob4 hBx4 aa ab ac af al ba bb bc bf bl; (have hW_1 : WB w5 B b R C f g h false A n cap A2 n2 cap2 A3 n3 cap3 := HW0.out.below hbd_1 (Nat.le_refl _)); (have hX_1 : Blk w5 xb 66 xs := HX0.out.below hbd_1 hxb); clear c0 c1 c2 c3 c4 c5 c6 c7 c8 c9 cf cl x0 x1 x2 x3; clear hW hX hbd; (have hW := hW_1); (have hX := hX_1); (have hbd := hbd_1); clear hW_1 hX_1 hbd_1; rw [HXS.out] at hX; obtain ⟨c0, c1, c2, c3, c4, c5, c6, c7, c8, c9, cf, cl⟩ := hW.cells; have x0 := hX.cell 0; have x1 := hX.cell 1; have x2 := hX.cell 2; have x3 := hX.cell 3; simp at x0 x1 x2 x3; obtain ⟨aa, ab, ac, af, al⟩ := hAx5.mx; obtain ⟨ba, bb, bc, bf, bl⟩ := hBx5.mx
      have HR2 := Lib.hid ((rowOk_iff (tp_ok HH.out) hi hj HT.out).1 hr2)
      clear hr2
      go_wp2_with fail
      refine (impl_Transpose_tb C R Aa na ca (opA (tp f) i j t) _ hoa5.reads (Nat.le_refl _) HR1.out hC hR).mono ?_
      rintro e w6 ⟨Am, nm, cm, rfl, hom, hb6⟩
      have hs6 := hb6.size
      have hW5 := hW
      have hbw0 := HW0.out.lt
      have hsd5 := hbd.size
      have hbx : ¬ w3.heap.size = b := by omega
      have hbx2 : ¬ b = w3.heap.size := by omega
      have hBx7 : BM w6 w3.heap.size C C Ab nb cb := Kb hBx5
      have hob7 : OR w6 (w2.heap.size + 1) (.slice Ab nb cb) (tb C C (opA (tp h) i j t)) := Ko hob5
      have hbd_1 : Below w0.heap.size w0 w6 := Kw
      have HB7 := Lib.hid (below_put3 (b := b) (b0 := 0) (b1 := 1) (b2 := 2) (u0 := .int .i64 R) (u1 := .int .i64 C) (u2 := .slice Am nm cm) (hbd_1.mono hBw) hBb)
      (have hW_1 : WB w6 B b R C f g h false A n cap A2 n2 cap2 A3 n3 cap3 := HW0.out.below hbd_1 (Nat.le_refl _)); (have hX_1 : Blk w6 xb 66 xs := HX0.out.below hbd_1 hxb); clear c0 c1 c2 c3 c4 c5 c6 c7 c8 c9 cf cl x0 x1 x2 x3; clear hW hX hbd; (have hW := hW_1); (have hX := hX_1); (have hbd := hbd_1); clear hW_1 hX_1 hbd_1; rw [HXS.out] at hX; obtain ⟨c0, c1, c2, c3, c4, c5, c6, c7, c8, c9, cf, cl⟩ := hW.cells; have x0 := hX.cell 0; have x1 := hX.cell 1; have x2 := hX.cell 2; have x3 := hX.cell 3; simp at x0 x1 x2 x3
      clear aa ab ac af al ba bb bc bf bl
      obtain ⟨ba, bb, bc, bf, bl⟩ := hBx7.mx
      go_wp2_with fail
      refine (impl_Transpose_tb C C Ab nb cb (opA (tp h) i j t) _ (OR.reads (OR.low (OR.low (OR.low hob7 (by simp; omega) _) (by simp; omega) _) (by simp; omega) _)) (Nat.le_refl _) HR2.out hC hC).mono ?_
      rintro e w8 ⟨Ar, nr, cr, rfl, hor, hb8⟩
      have hW7 := hW5.putM hb6 hom
      have hs8 := hb8.size
      have hW8 := hW7.below hb8 (Nat.le_refl _)
      have hW9 := hW7.putR hb8 hor
      have HB8 := Lib.hid (HB7.out.trans (Below.mono hb8 (by have := hW7.lt; have := hW7.hb; omega)))
      clear c0 c1 c2 c3 c4 c5 c6 c7 c8 c9 cf cl x0 x1 x2 x3
      clear hW hW5 hW7 hX hbd hb8 hor hb6 hom ba bb bc bf bl hBx7 hob7 hBx5 hob5 hAx5 hoa5
      have HB9 := Lib.hid (below_put3 (b := b) (b0 := 6) (b1 := 7) (b2 := 8) (u0 := .int .i64 C) (u1 := .int .i64 C) (u2 := .slice Ar nr cr) HB8.out hBb)
      obtain ⟨c0, c1, c2, c3, c4, c5, c6, c7, c8, c9, cf, cl⟩ := hW8.cells
      go_wp2_with fail
      go_end0
      exact ⟨rfl, HBW.out.trans HB9.out, .inl ⟨⟨HR1.out, HR2.out⟩, hW9.wk⟩⟩
    · refine (impl_rowOp_add_no C C i j t Ab nb cb (tp h) _ (B := w2.heap.size + 1) (Ko hob4) hi hj HIJ.out HT.out (tp_ok HH.out) (by omega) hC hC hr2).mono ?_
      rintro e w5 ⟨h', rfl, hob5, hgr5, hs5⟩
      have hAx5 : BM w5 w2.heap.size C R Aa na ca := BX.keptOwn hAx4 hgr5 hUb (.inl (by omega)); have hBx5 : BM w5 w3.heap.size C C Ab nb cb := BX.keptOwn hBx4 hgr5 hUb (.inr (Nat.le_refl _)); have hoa5 := OR.keptOwn hoa4 hgr5 hUa hUb (.inl (by omega)); have hbd_1 : Below w0.heap.size w0 w5 := Below.trans hbd (below_keptOwn hgr5 hUb (by omega) Ks); clear hgr5 hAx4 hoa4 hob4 hBx4 aa ab ac af al ba bb bc bf bl; (have hW_1 : WB w5 B b R C f g h false A n cap A2 n2 cap2 A3 n3 cap3 := HW0.out.below hbd_1 (Nat.le_refl _)); (have hX_1 : Blk w5 xb 66 xs := HX0.out.below hbd_1 hxb); clear c0 c1 c2 c3 c4 c5 c6 c7 c8 c9 cf cl x0 x1 x2 x3; clear hW hX hbd; (have hW := hW_1); (have hX := hX_1); (have hbd := hbd_1); clear hW_1 hX_1 hbd_1; rw [HXS.out] at hX; obtain ⟨c0, c1, c2, c3, c4, c5, c6, c7, c8, c9, cf, cl⟩ := hW.cells; have x0 := hX.cell 0; have x1 := hX.cell 1; have x2 := hX.cell 2; have x3 := hX.cell 3; simp at x0 x1 x2 x3; obtain ⟨aa, ab, ac, af, al⟩ := hAx5.mx; obtain ⟨ba, bb, bc, bf, bl⟩ := hBx5.mx
      have HR2 : Hid (¬ okC R C f h i j t) := Lib.hid (fun k => hr2 ((rowOk_iff (tp_ok HH.out) hi hj HT.out).2 k.2))
      clear hr2
      go_wp2_with fail
      go_end0
      exact ⟨rfl, HBW.out.trans ((hbd.mono hBw).trans (below_set_at hBb)), .inr ⟨HR2.out, _, _, _, hW.setBad.wk⟩⟩
  · refine (impl_rowOp_add_no C R i j t Aa na ca (tp f) _ (B := w1.heap.size) (Ko hoa3) hi hj HIJ.out HT.out (tp_ok HF.out) hR0 hR hC hr1).mono ?_
    rintro e w4 ⟨f', rfl, hoa4, hgr4, hs4⟩
    simp at hs4; have hAx4 : BM w4 w2.heap.size C R Aa na ca := BX.keptOwn (Kb hAx) hgr4 hUa (.inr (Nat.le_refl _)); have hBx4 : BM w4 w3.heap.size C C Ab nb cb := BX.keptOwn hBx hgr4 hUa (.inr (by omega)); have hob4 : OR w4 (w2.heap.size + 1) (.slice Ab nb cb) (tb C C (tp h)) := OR.keptOwn (Ko hob3) hgr4 hUb hUa (.inr (by omega)); have hbd_1 : Below w0.heap.size w0 w4 := Below.trans Kw (below_keptOwn hgr4 hUa hs1 Ks); clear hgr4 hAx hoa3 hob3 hBx aa ab ac af al; (have hW_1 : WB w4 B b R C f g h false A n cap A2 n2 cap2 A3 n3 cap3 := HW0.out.below hbd_1 (Nat.le_refl _)); (have hX_1 : Blk w4 xb 66 xs := HX0.out.below hbd_1 hxb); clear c0 c1 c2 c3 c4 c5 c6 c7 c8 c9 cf cl x0 x1 x2 x3; clear hW hX hbd; (have hW := hW_1); (have hX := hX_1); (have hbd := hbd_1); clear hW_1 hX_1 hbd_1; rw [HXS.out] at hX; obtain ⟨c0, c1, c2, c3, c4, c5, c6, c7, c8, c9, cf, cl⟩ := hW.cells; have x0 := hX.cell 0; have x1 := hX.cell 1; have x2 := hX.cell 2; have x3 := hX.cell 3; simp at x0 x1 x2 x3; obtain ⟨aa, ab, ac, af, al⟩ := hAx4.mx; obtain ⟨ba, bb, bc, bf, bl⟩ := hBx4.mx
    have HR1 : Hid (¬ okC R C f h i j t) := Lib.hid (fun k => hr1 ((rowOk_iff (tp_ok HF.out) hi hj HT.out).2 k.1))
    clear hr1
    go_wp2_with fail
    go_end0
    exact ⟨rfl, HBW.out.trans ((hbd.mono hBw).trans (below_set_at hBb)), .inr ⟨HR1.out, _, _, _, hW.setBad.wk⟩⟩
end Go.Proofs.Ytacjonkehcamgaa

/-
  DERIVED. The laws' unit: the identity matrix.
-/
namespace Go.Proofs.Ytacjonkehcamgaa
open Go.RowKit
set_option linter.unusedVariables false
set_option linter.unusedSimpArgs false
theorem laws_unit (n : Nat) (w : World) (hn : n ≤ 24) : Calls Try.prog 42 #[.int .i64 n] w (MR ⟨n, n, tb n n idF⟩ w) := by
  go_enter Try.func42, Try.ntmps42
  go_wp2_with fail
  refine (spec_IdentityMatrix n _ hn).mono ?_
  rintro e w1 ⟨A1, n1, c1, rfl, ho, hb1⟩
  have hs1 := hb1.size
  simp at hs1
  have hR : BM w1 w.heap.size 0 0 none 0 0 := Ka
  have hbw : Below w.heap.size w w1 := Kw
  have ho2 : OR w1 (w.heap.size + 1) (.slice A1 n1 c1) (tb n n idF) := OR.mono (xs := tb n n idF) ho (by simp)
  obtain ⟨ra, rb, rc, rf, rl⟩ := hR.mx
  have hvr := B3.of hR
  clear ho hb1
  go_wp2_with fail
  refine ret_M (b := w.heap.size) Try.results42 rfl (Kb hvr) rfl ?_
  exact MR.mk rfl (OR.mono (B := w.heap.size + 1) (Ko ho2) (by omega)) Kw
end Go.Proofs.Ytacjonkehcamgaa

/-
  DERIVED. The matrices that make the Smith form are unimodular: no program in sight.
-/
namespace Go.Proofs.Ytacjonkehcamgaa
set_option linter.unusedVariables false
def Pm (x : Int) : Prop := x = 1 ∨ x = -1
theorem Pm.neg {x y : Int} (h : Pm x) (e : y = -x) : Pm y := by
  unfold Pm at *
  omega
/-- Both accounts are unimodular. -/
def Unm (R C : Nat) (s : SS) : Prop := Pm (Dt R s.g) ∧ Pm (Dt C s.h)
theorem Dt_opA {R i j : Nat} {t : Int} {g : Fn2} (hk : OKF R R (opA g i j t)) (hi : i < R) (hj : j < R) (hij : i ≠ j) : Dt R (opA g i j t) = Dt R g :=
  (Dt_alt R).add hi hj hij (fun y hy => opA_val hk hi hy) (fun x y _ _ hne => opA_other hne)
theorem Dt_opM {R i : Nat} {g : Fn2} (h : OKF R R g) (hi : i < R) : Dt R (opM g i) = -Dt R g := by
  have := (Dt_alt R).scale (i := i) (t := -1) (f := g) (g := opM g i) hi (fun y hy => by rw [opM_at (h i y hi hy)]; omega) (fun x y _ _ hne => by unfold opM; rw [if_neg hne])
  rw [this]; omega
theorem Unm.stays (R C t0 : Nat) : Stays R C t0 (Unm R C) where
  radd := fun s i j t hi hj _ _ hij hg hk hP => by
    have kg : OKF R R (opA s.g i j t) := hk.g
    refine ⟨?_, hP.2⟩
    show Pm (Dt R (opA s.g i j t))
    rw [Dt_opA kg hi hj hij]
    exact hP.1
  rswap := fun s i j hi hj _ _ hij hg hP => ⟨hP.1.neg ((Dt_alt R).swap hi hj hij s.g), hP.2⟩
  rneg := fun s i hi _ hg hP => ⟨hP.1.neg (Dt_opM hg.ok.g hi), hP.2⟩
  cadd := fun s i j t hi hj _ _ hij hg hk hP => by
    have kh : OKF C C (opA (tp s.h) i j t) := tp_ok hk.h
    refine ⟨hP.1, ?_⟩
    have e : Dt C (tp (opA (tp s.h) i j t)) = Dt C s.h :=
      (Dt_altC C).add (f := tp s.h) (g := opA (tp s.h) i j t) hi hj hij (fun y hy => opA_val kh hi hy) (fun x y _ _ hne => opA_other hne)
    show Pm (Dt C (tp (opA (tp s.h) i j t)))
    rw [e]
    exact hP.2
  cswap := fun s i j hi hj _ _ hij hg hP => ⟨hP.1, hP.2.neg ((Dt_altC C).swap hi hj hij (tp s.h))⟩
theorem sfX_unm {R C : Nat} {xs : List Int} {s : SS} (h : sfX R C xs = some s) : Unm R C s :=
  Stays.all (Unm.stays R C) h ⟨.inl (Dt_id R), .inl (Dt_id C)⟩
end Go.Proofs.Ytacjonkehcamgaa

/-
  DERIVED. In the Smith form each number of the diagonal is no less than 0 and divides the next one: no program in sight.
-/
namespace Go.Proofs.Ytacjonkehcamgaa
set_option linter.unusedVariables false
/-- The first t numbers of the diagonal. -/
def Chn (R C t : Nat) (s : SS) : Prop := (∀ a, a < t → 0 ≤ s.f a a) ∧ ∀ a x y, a < t → a ≤ x → x < R → a ≤ y → y < C → s.f a a ∣ s.f x y
theorem Chn.stays (R C t : Nat) (htR : t ≤ R) (htC : t ≤ C) : Stays R C t (Chn R C t) where
  radd := fun s i j q hi hj ti tj hij hg hk hP => by
    have kf : OKF R C (opA s.f i j q) := hk.f
    have e : ∀ a, a < t → opA s.f i j q a a = s.f a a := fun a ha => opA_other (by omega)
    refine ⟨fun a ha => by show 0 ≤ opA s.f i j q a a; rw [e a ha]; exact hP.1 a ha, fun a x y ha hx hxR hy hyC => ?_⟩
    show opA s.f i j q a a ∣ opA s.f i j q x y
    rw [e a ha]
    by_cases hxi : x = i
    · subst hxi
      rw [opA_val kf hxR hyC]
      exact Int.dvd_add (hP.2 a x y ha hx hxR hy hyC) (Int.dvd_trans (hP.2 a j y ha (by omega) hj hy hyC) ⟨q, rfl⟩)
    · rw [opA_other hxi]; exact hP.2 a x y ha hx hxR hy hyC
  rswap := fun s i j hi hj ti tj hij hg hP => by
    have e : ∀ a, a < t → swF s.f i j a a = s.f a a := fun a ha => by unfold swF; rw [if_neg (by omega), if_neg (by omega)]
    refine ⟨fun a ha => by show 0 ≤ swF s.f i j a a; rw [e a ha]; exact hP.1 a ha, fun a x y ha hx hxR hy hyC => ?_⟩
    show swF s.f i j a a ∣ swF s.f i j x y
    rw [e a ha]
    unfold swF
    split
    · exact hP.2 a j y ha (by omega) hj hy hyC
    · split
      · exact hP.2 a i y ha (by omega) hi hy hyC
      · exact hP.2 a x y ha hx hxR hy hyC
  rneg := fun s i hi ti hg hP => by
    have e : ∀ a, a < t → opM s.f i a a = s.f a a := fun a ha => by unfold opM; rw [if_neg (by omega)]
    refine ⟨fun a ha => by show 0 ≤ opM s.f i a a; rw [e a ha]; exact hP.1 a ha, fun a x y ha hx hxR hy hyC => ?_⟩
    show opM s.f i a a ∣ opM s.f i x y
    rw [e a ha]
    by_cases hxi : x = i
    · subst hxi
      rw [opM_at (hg.ok.f x y hxR hyC)]
      exact Int.dvd_neg.2 (hP.2 a x y ha hx hxR hy hyC)
    · unfold opM; rw [if_neg hxi]; exact hP.2 a x y ha hx hxR hy hyC
  cadd := fun s i j q hi hj ti tj hij hg hk hP => by
    have kf : OKF C R (opA (tp s.f) i j q) := tp_ok hk.f
    have e : ∀ a, a < t → opA (tp s.f) i j q a a = s.f a a := fun a ha => opA_other (by omega)
    refine ⟨fun a ha => by show 0 ≤ opA (tp s.f) i j q a a; rw [e a ha]; exact hP.1 a ha, fun a x y ha hx hxR hy hyC => ?_⟩
    show opA (tp s.f) i j q a a ∣ opA (tp s.f) i j q y x
    rw [e a ha]
    by_cases hyi : y = i
    · subst hyi
      rw [opA_val kf hyC hxR]
      exact Int.dvd_add (hP.2 a x y ha hx hxR hy hyC) (Int.dvd_trans (hP.2 a x j ha hx hxR (by omega) hj) ⟨q, rfl⟩)
    · rw [opA_other hyi]; exact hP.2 a x y ha hx hxR hy hyC
  cswap := fun s i j hi hj ti tj hij hg hP => by
    have e : ∀ a, a < t → swF (tp s.f) i j a a = s.f a a := fun a ha => by unfold swF; rw [if_neg (by omega), if_neg (by omega)]; rfl
    refine ⟨fun a ha => by show 0 ≤ swF (tp s.f) i j a a; rw [e a ha]; exact hP.1 a ha, fun a x y ha hx hxR hy hyC => ?_⟩
    show swF (tp s.f) i j a a ∣ swF (tp s.f) i j y x
    rw [e a ha]
    unfold swF
    split
    · exact hP.2 a x j ha hx hxR (by omega) hj
    · split
      · exact hP.2 a x i ha hx hxR (by omega) hi
      · exact hP.2 a x y ha hx hxR hy hyC
theorem Dn.dvd {R C t : Nat} {s : SS} (h : Dn R C t s) (hg : SGD R C s) {x y : Nat} (hx : t ≤ x) (hxR : x < R) (hy : t ≤ y) (hyC : y < C) : s.f t t ∣ s.f x y := by
  obtain ⟨h1, h2, h3⟩ := h
  obtain ⟨z1, z2⟩ := clnS_yes h1
  by_cases ex : x = t
  · subst ex
    by_cases ey : y = x
    · subst ey; exact Int.dvd_refl _
    · rw [z2 y (by omega) hyC]; exact Int.dvd_zero _
  · by_cases ey : y = t
    · subst ey; rw [z1 x (by omega) hxR]; exact Int.dvd_zero _
    · have hf : fdR s.f t C x = false := by
        refine Bool.eq_false_iff.2 fun hc => ?_
        have key : ∀ m i, i ≤ x → x < i + m → fdS s.f t C i m ≠ none := fun m => by
          induction m with
          | zero => intro i a b; omega
          | succ m ih =>
            intro i a b
            rcases hr : fdR s.f t C i with _ | _
            · rw [fdS_no hr]
              by_cases e : i = x
              · subst e; rw [hr] at hc; cases hc
              · exact ih (i + 1) (by omega) (by omega)
            · rw [fdS_yes hr]; simp
        exact key (R - (t + 1)) (t + 1) (by omega) (by omega) h2
      have hn : ¬ (s.f x y).tmod (s.f t t) ≠ 0 := fun hne => by
        have : fdR s.f t C x = true := fdR_iff.2 ⟨y, by omega, hyC, (hg.ok.f x y hxR hyC).ne, hne⟩
        rw [hf] at this; cases this
      exact Int.dvd_of_tmod_eq_zero (Decidable.of_not_not hn)
/-- What the Smith form's diagonal is. -/
def Dia (R C : Nat) (s : SS) : Prop := (∀ a, a < R → a < C → 0 ≤ s.f a a) ∧ ∀ a, a + 1 < R → a + 1 < C → s.f a a ∣ s.f (a + 1) (a + 1)
theorem sfOut_chn {R C : Nat} : ∀ (m t : Nat) (s s' : SS), t + m = min R C → SGD R C s → Chn R C t s → sfOut R C m t s = some s' → Dia R C s'
  | 0, t, s, s', hm, hg, hc, he => by
    cases he
    exact ⟨fun a h1 h2 => hc.1 a (by omega), fun a h1 h2 => hc.2 a (a + 1) (a + 1) (by omega) (by omega) h1 (by omega) h2⟩
  | m + 1, t, s, s', hm, hg, hc, he => by
    by_cases hn : (ls2 R C s.f t).1 < 0
    · rw [sfOut_stop hn] at he
      cases he
      rcases ls2_cases R C s.f t with ⟨_, h⟩ | ⟨p, q, e, _⟩
      · refine ⟨fun a h1 h2 => ?_, fun a h1 h2 => ?_⟩
        · by_cases hat : a < t
          · exact hc.1 a hat
          · rw [h a a (by omega) h1 (by omega) h2]; exact Int.le_refl _
        · by_cases hat : a < t
          · exact hc.2 a (a + 1) (a + 1) hat (by omega) h1 (by omega) h2
          · rw [h (a + 1) (a + 1) (by omega) h1 (by omega) h2]; exact Int.dvd_zero _
      · rw [e] at hn; dsimp only at hn; omega
    · rw [sfOut_go hn] at he
      unfold sfGo at he
      rcases hi : sfIn R C t s with _ | s2
      · rw [hi] at he; cases he
      · rw [hi] at he
        have ht : t < R ∧ t < C := by omega
        have g2 := sfIn_gd ht.1 ht.2 _ s (Nat.le_refl _) hg hn s2 hi
        have p2 := (Chn.stays R C t (by omega) (by omega)).in_ ht.1 ht.2 _ s (Nat.le_refl _) hg hc hn s2 hi
        have d2 := sfIn_dn ht.1 ht.2 _ s (Nat.le_refl _) hg hn s2 hi
        have o1 : ∀ (x y : Nat), x ≠ t → opM s2.f t x y = s2.f x y := fun x y hne => by unfold opM; rw [if_neg hne]
        have o2 : ∀ y, y < C → opM s2.f t t y = -s2.f t y := fun y hy => opM_at (g2.ok.f t y ht.1 hy)
        have pN : Chn R C (t + 1) (sfN t s2) := by
          unfold sfN
          split
          · rename_i hneg
            have dv : ∀ a x y, a < t + 1 → a ≤ x → x < R → a ≤ y → y < C → s2.f a a ∣ s2.f x y := fun a x y ha hx hxR hy hyC => by
              by_cases e : a = t
              · subst e; exact d2.dvd g2 hx hxR hy hyC
              · exact p2.2 a x y (by omega) hx hxR hy hyC
            refine ⟨fun a ha => ?_, fun a x y ha hx hxR hy hyC => ?_⟩
            · show 0 ≤ opM s2.f t a a
              by_cases e : a = t
              · subst e; rw [o2 a ht.2]; omega
              · rw [o1 a a e]; exact p2.1 a (by omega)
            · show opM s2.f t a a ∣ opM s2.f t x y
              have h5 := dv a x y ha hx hxR hy hyC
              have h6 : opM s2.f t a a ∣ s2.f x y := by
                by_cases e : a = t
                · subst e; rw [o2 a ht.2]; exact Int.neg_dvd.2 h5
                · rw [o1 a a e]; exact h5
              by_cases e : x = t
              · subst e; rw [o2 y hyC]; exact Int.dvd_neg.2 h6
              · rw [o1 x y e]; exact h6
          · rename_i hpos
            refine ⟨fun a ha => ?_, fun a x y ha hx hxR hy hyC => ?_⟩
            · by_cases e : a = t
              · subst e; omega
              · exact p2.1 a (by omega)
            · by_cases e : a = t
              · subst e; exact d2.dvd g2 hx hxR hy hyC
              · exact p2.2 a x y (by omega) hx hxR hy hyC
        exact sfOut_chn m (t + 1) (sfN t s2) s' (by omega) (g2.n ht.1) pN he
theorem sfX_dia {R C : Nat} {xs : List Int} {s : SS} (h : sfX R C xs = some s) : Dia R C s := by
  rcases hm : isMat (R : Int) (C : Int) xs with _ | _
  · rw [sfX_no hm] at h; cases h
  · rw [sfX_yes hm] at h
    have M := isMat_iff.1 hm
    have hs := start_gd (R := R) (C := C) M.num
    exact sfOut_chn _ _ _ _ (by omega) ⟨⟨hs.ok.f, hs.ok.g, idF_ok C C⟩, ⟨hs.nb.f, hs.nb.g, idF_nb⟩⟩ ⟨fun a h => by omega, fun a x y h => by omega⟩ h
end Go.Proofs.Ytacjonkehcamgaa

/-
  DERIVED. leastFrom of a work.
-/
namespace Go.Proofs.Ytacjonkehcamgaa
open Go.RowKit
set_option linter.unusedVariables false
set_option linter.unusedSimpArgs false
theorem lsI_next {f : Fn2} {i t j : Nat} {st : Int × Int} (h : t ≤ j) : lsI f i t st (j + 1 - t) = if f i j ≠ 0 ∧ ((lsI f i t st (j - t)).1 < 0 ∨ (f i j).natAbs < (f (lsI f i t st (j - t)).1.toNat (lsI f i t st (j - t)).2.toNat).natAbs) then (((i : Nat) : Int), ((j : Nat) : Int)) else lsI f i t st (j - t) := by
  rw [show j + 1 - t = (j - t) + 1 by omega, lsI_succ, show t + (j - t) = j by omega]
theorem lsO_next {f : Fn2} {i t D : Nat} (h : t ≤ i) : lsO f t D (i + 1 - t) = lsI f i t (lsO f t D (i - t)) D := by
  rw [show i + 1 - t = (i - t) + 1 by omega]
  show lsI f (t + (i - t)) t _ D = _
  rw [show t + (i - t) = i by omega]
theorem lsI_form {f : Fn2} {R C t i j : Nat} (hti : t ≤ i) (hiR : i < R) (htj : t ≤ j) (hj : j ≤ C) : lsI f i t (lsO f t (C - t) (i - t)) (j - t) = (-1, -1) ∨
    ∃ p q : Nat, lsI f i t (lsO f t (C - t) (i - t)) (j - t) = ((p : Int), (q : Int)) ∧ p < R ∧ q < C ∧ f p q ≠ 0 := by
  have h := lsI_P (f := f) (t := t) (D := C - t) (i := i) hti ((lsO_P f t (C - t) (i - t)).as fun a b => by omega) (j - t) (by omega)
  rcases h with ⟨h1, _⟩ | ⟨p, q, h1, h2, h3, _⟩
  · exact .inl h1
  · exact .inr ⟨p, q, h1, by omega, by omega, h3⟩
/-- Two numbers and a flag. -/
def P2V (o : Int × Int) (w : World) (e : Ending) (w' : World) : Prop := e = .returned (.tuple #[.int .i64 o.1, .int .i64 o.2, .bool (decide (0 ≤ o.1))]) ∧ Below w.heap.size w w'
set_option maxRecDepth 100000 in
set_option maxHeartbeats 4000000 in
theorem impl_leastFrom (B b R C t : Nat) (f g h : Fn2) (bd : Bool) (w : World) (hK : WK w B b R C f g h bd) (ht : t ≤ R) (htC : t ≤ C) (hf : OKF R C f) (hC : C ≤ 24) (hR : R ≤ 24) :
    Calls Try.prog 155 #[.pointer (some ⟨b, 0, none⟩), .int .i64 t] w (P2V (ls2 R C f t) w) := by
  obtain ⟨A, n, cap, A2, n2, cap2, A3, n3, cap3, hW0⟩ := hK
  have HF := Lib.hid hf
  clear hf
  go_enter Try.func155, Try.ntmps155
  go_wp2_with fail
  go_loopw [7, 8, 9] (fun u v x wr => ∃ (i : Nat) (o : Int × Int), x = .int .i64 i ∧ lsO f t (C - t) (i - t) = o ∧ u = .int .i64 o.1 ∧ v = .int .i64 o.2 ∧ t ≤ i ∧ i ≤ R ∧ WB wr B b R C f g h bd A n cap A2 n2 cap2 A3 n3 cap3 ∧ Below w.heap.size w wr) (fun _ _ x _ => R - (intOf x).toNat)
  case atStart => exact ⟨t, (-1, -1), rfl, by rw [Nat.sub_self]; rfl, rfl, rfl, Nat.le_refl _, ht, hW0, Kw⟩
  case round =>
    clear hW0
    obtain ⟨i, o, rfl, hO, rfl, rfl, hti, hiR, hW, hbw⟩ := hrel
    obtain ⟨c0, c1, c2, c3, c4, c5, c6, c7, c8, c9, cf, cl⟩ := hW.cells
    have hsz := hbw.size
    by_cases hlt : i < R
    · have HO := Lib.hid hO
      have HO0 : Hid (lsI f i t (lsO f t (C - t) (i - t)) (t - t) = o) := Lib.hid (by rw [Nat.sub_self]; exact hO)
      clear hO
      go_wp2_with fail
      obtain ⟨wo2, rfl⟩ : ∃ wo : World, wo = wr := ⟨_, rfl⟩
      go_loopw [7, 8, 10] (fun u v x wr => ∃ (j : Nat) (o : Int × Int), x = .int .i64 j ∧ lsI f i t (lsO f t (C - t) (i - t)) (j - t) = o ∧ u = .int .i64 o.1 ∧ v = .int .i64 o.2 ∧ t ≤ j ∧ j ≤ C ∧ WB wr B b R C f g h bd A n cap A2 n2 cap2 A3 n3 cap3 ∧ Below w.heap.size w wr) (fun _ _ x _ => C - (intOf x).toNat)
      case atStart => exact ⟨t, o, rfl, HO0.out, rfl, rfl, Nat.le_refl _, htC, hW, hbw⟩
      case round =>
        clear c0 c1 c2 c3 c4 c5 c6 c7 c8 c9 cf cl
        clear hW hbw HO0 HO hsz
        obtain ⟨j, o2, rfl, hO, rfl, rfl, htj, hjC, hW, hbw⟩ := hrel
        obtain ⟨c0, c1, c2, c3, c4, c5, c6, c7, c8, c9, cf, cl⟩ := hW.cells
        have hsz := hbw.size
        by_cases hjl : j < C
        · have hn := HF.out i j hlt hjl
          have hx := lsI_next (f := f) (i := i) (st := lsO f t (C - t) (i - t)) htj
          have hcs := lsI_form (f := f) (C := C) hti hlt htj (Nat.le_of_lt hjl)
          rw [hO] at hx hcs
          by_cases hz : f i j = 0
          · rw [if_neg (by simp [hz])] at hx
            have HX := Lib.hid hx
            have hnz : ((((f i j).natAbs : Nat) : Int) != 0) = false := by simp [hz]
            obtain ⟨y1, y2⟩ := hn
            clear hx hz hcs hO
            generalize hv : f i j = v at *
            have HV := Lib.hid hv
            clear hv
            go_wp2_with fail
            (refine (impl_at_tb R C i j A n cap f (v) HV.out _ (B := B) (by have hm := hW.m; (with_reducible (repeat (first | exact hm | refine OR.drew ?_ | refine OR.drewN ?_ _ | refine OR.alloc ?_ _ | refine OR.b_ ?_ | refine OR.l_ ?_)))) (by omega) (by omega) (by omega) (by omega)).mono ?_; rintro e w1 ⟨rfl, hb1⟩; (have hW_1 : WB w1 B b R C f g h bd A n cap A2 n2 cap2 A3 n3 cap3 := by (with_reducible (repeat (first | exact hW | refine WB.b_ ?_ | refine WB.drew ?_ | refine WB.drewN ?_ _ | refine WB.alloc ?_ _)))); (have hbw_1 : Below w.heap.size w w1 := Kw); (have hsz_1 := hbw_1.size); clear hW hbw hb1; clear c0 c1 c2 c3 c4 c5 c6 c7 c8 c9 cf cl; have hW := hW_1; have hbw := hbw_1; clear hW_1 hbw_1; obtain ⟨c0, c1, c2, c3, c4, c5, c6, c7, c8, c9, cf, cl⟩ := hW.cells)
            go_wp2_with (go_at_call 169; refine (impl_absInt _ _ (by omega) (by omega)).mono ?_; rintro e w' ⟨rfl, rfl⟩)
            go_roundw
            case rel => exact ⟨j + 1, _, by go_num, HX.out, rfl, rfl, by omega, by omega, hW, hbw⟩
            case measure => simp only [intOf]; omega
          · rcases hcs with rfl | ⟨p, q, rfl, hpR, hqC, hpq⟩
            · rw [if_pos ⟨hz, .inl (by decide)⟩] at hx
              have HX := Lib.hid hx
              obtain ⟨y1, y2⟩ := hn
              have hnz : ((((f i j).natAbs : Nat) : Int) != 0) = true := by simp; omega
              clear hx hz hO
              generalize hv : f i j = v at *
              have HV := Lib.hid hv
              clear hv
              go_wp2_with fail
              (refine (impl_at_tb R C i j A n cap f (v) HV.out _ (B := B) (by have hm := hW.m; (with_reducible (repeat (first | exact hm | refine OR.drew ?_ | refine OR.drewN ?_ _ | refine OR.alloc ?_ _ | refine OR.b_ ?_ | refine OR.l_ ?_)))) (by omega) (by omega) (by omega) (by omega)).mono ?_; rintro e w1 ⟨rfl, hb1⟩; (have hW_1 : WB w1 B b R C f g h bd A n cap A2 n2 cap2 A3 n3 cap3 := by (with_reducible (repeat (first | exact hW | refine WB.b_ ?_ | refine WB.drew ?_ | refine WB.drewN ?_ _ | refine WB.alloc ?_ _)))); (have hbw_1 : Below w.heap.size w w1 := Kw); (have hsz_1 := hbw_1.size); clear hW hbw hb1; clear c0 c1 c2 c3 c4 c5 c6 c7 c8 c9 cf cl; have hW := hW_1; have hbw := hbw_1; clear hW_1 hbw_1; obtain ⟨c0, c1, c2, c3, c4, c5, c6, c7, c8, c9, cf, cl⟩ := hW.cells)
              go_wp2_with (go_at_call 169; refine (impl_absInt _ _ (by omega) (by omega)).mono ?_; rintro e w' ⟨rfl, rfl⟩)
              go_roundw
              case rel => exact ⟨j + 1, _, by go_num, HX.out, rfl, rfl, by omega, by omega, hW, hbw⟩
              case measure => simp only [intOf]; omega
            · simp only [Int.toNat_natCast] at hx
              have hnp := HF.out p q hpR hqC
              obtain ⟨y1, y2⟩ := hn
              obtain ⟨y3, y4⟩ := hnp
              have hnz : ((((f i j).natAbs : Nat) : Int) != 0) = true := by simp; omega
              by_cases hc : (f i j).natAbs < (f p q).natAbs
              · rw [if_pos ⟨hz, .inr hc⟩] at hx
                have HX := Lib.hid hx
                clear hx hz hO hpq
                generalize hv : f i j = v at *
                generalize hv2 : f p q = v2 at *
                have HV := Lib.hid hv
                have HV2 := Lib.hid hv2
                clear hv hv2
                go_wp2_with fail
                (refine (impl_at_tb R C i j A n cap f (v) HV.out _ (B := B) (by have hm := hW.m; (with_reducible (repeat (first | exact hm | refine OR.drew ?_ | refine OR.drewN ?_ _ | refine OR.alloc ?_ _ | refine OR.b_ ?_ | refine OR.l_ ?_)))) (by omega) (by omega) (by omega) (by omega)).mono ?_; rintro e w1 ⟨rfl, hb1⟩; (have hW_1 : WB w1 B b R C f g h bd A n cap A2 n2 cap2 A3 n3 cap3 := by (with_reducible (repeat (first | exact hW | refine WB.b_ ?_ | refine WB.drew ?_ | refine WB.drewN ?_ _ | refine WB.alloc ?_ _)))); (have hbw_1 : Below w.heap.size w w1 := Kw); (have hsz_1 := hbw_1.size); clear hW hbw hb1; clear c0 c1 c2 c3 c4 c5 c6 c7 c8 c9 cf cl; have hW := hW_1; have hbw := hbw_1; clear hW_1 hbw_1; obtain ⟨c0, c1, c2, c3, c4, c5, c6, c7, c8, c9, cf, cl⟩ := hW.cells)
                go_wp2_with (go_at_call 169; refine (impl_absInt _ _ (by omega) (by omega)).mono ?_; rintro e w' ⟨rfl, rfl⟩)
                (refine (impl_at_tb R C p q A n cap f (v2) HV2.out _ (B := B) (by have hm := hW.m; (with_reducible (repeat (first | exact hm | refine OR.drew ?_ | refine OR.drewN ?_ _ | refine OR.alloc ?_ _ | refine OR.b_ ?_ | refine OR.l_ ?_)))) (by omega) (by omega) (by omega) (by omega)).mono ?_; rintro e w1 ⟨rfl, hb1⟩; (have hW_1 : WB w1 B b R C f g h bd A n cap A2 n2 cap2 A3 n3 cap3 := by (with_reducible (repeat (first | exact hW | refine WB.b_ ?_ | refine WB.drew ?_ | refine WB.drewN ?_ _ | refine WB.alloc ?_ _)))); (have hbw_1 : Below w.heap.size w w1 := Kw); (have hsz_1 := hbw_1.size); clear hW hbw hb1; clear c0 c1 c2 c3 c4 c5 c6 c7 c8 c9 cf cl; have hW := hW_1; have hbw := hbw_1; clear hW_1 hbw_1; obtain ⟨c0, c1, c2, c3, c4, c5, c6, c7, c8, c9, cf, cl⟩ := hW.cells)
                go_wp2_with (go_at_call 169; refine (impl_absInt _ _ (by omega) (by omega)).mono ?_; rintro e w' ⟨rfl, rfl⟩)
                go_roundw
                case rel => exact ⟨j + 1, _, by go_num, HX.out, rfl, rfl, by omega, by omega, hW, hbw⟩
                case measure => simp only [intOf]; omega
              · rw [if_neg (by rintro ⟨_, h5⟩; omega)] at hx
                have HX := Lib.hid hx
                clear hx hz hO hpq
                generalize hv : f i j = v at *
                generalize hv2 : f p q = v2 at *
                have HV := Lib.hid hv
                have HV2 := Lib.hid hv2
                clear hv hv2
                go_wp2_with fail
                (refine (impl_at_tb R C i j A n cap f (v) HV.out _ (B := B) (by have hm := hW.m; (with_reducible (repeat (first | exact hm | refine OR.drew ?_ | refine OR.drewN ?_ _ | refine OR.alloc ?_ _ | refine OR.b_ ?_ | refine OR.l_ ?_)))) (by omega) (by omega) (by omega) (by omega)).mono ?_; rintro e w1 ⟨rfl, hb1⟩; (have hW_1 : WB w1 B b R C f g h bd A n cap A2 n2 cap2 A3 n3 cap3 := by (with_reducible (repeat (first | exact hW | refine WB.b_ ?_ | refine WB.drew ?_ | refine WB.drewN ?_ _ | refine WB.alloc ?_ _)))); (have hbw_1 : Below w.heap.size w w1 := Kw); (have hsz_1 := hbw_1.size); clear hW hbw hb1; clear c0 c1 c2 c3 c4 c5 c6 c7 c8 c9 cf cl; have hW := hW_1; have hbw := hbw_1; clear hW_1 hbw_1; obtain ⟨c0, c1, c2, c3, c4, c5, c6, c7, c8, c9, cf, cl⟩ := hW.cells)
                go_wp2_with (go_at_call 169; refine (impl_absInt _ _ (by omega) (by omega)).mono ?_; rintro e w' ⟨rfl, rfl⟩)
                (refine (impl_at_tb R C p q A n cap f (v2) HV2.out _ (B := B) (by have hm := hW.m; (with_reducible (repeat (first | exact hm | refine OR.drew ?_ | refine OR.drewN ?_ _ | refine OR.alloc ?_ _ | refine OR.b_ ?_ | refine OR.l_ ?_)))) (by omega) (by omega) (by omega) (by omega)).mono ?_; rintro e w1 ⟨rfl, hb1⟩; (have hW_1 : WB w1 B b R C f g h bd A n cap A2 n2 cap2 A3 n3 cap3 := by (with_reducible (repeat (first | exact hW | refine WB.b_ ?_ | refine WB.drew ?_ | refine WB.drewN ?_ _ | refine WB.alloc ?_ _)))); (have hbw_1 : Below w.heap.size w w1 := Kw); (have hsz_1 := hbw_1.size); clear hW hbw hb1; clear c0 c1 c2 c3 c4 c5 c6 c7 c8 c9 cf cl; have hW := hW_1; have hbw := hbw_1; clear hW_1 hbw_1; obtain ⟨c0, c1, c2, c3, c4, c5, c6, c7, c8, c9, cf, cl⟩ := hW.cells)
                go_wp2_with (go_at_call 169; refine (impl_absInt _ _ (by omega) (by omega)).mono ?_; rintro e w' ⟨rfl, rfl⟩)
                go_roundw
                case rel => exact ⟨j + 1, _, by go_num, HX.out, rfl, rfl, by omega, by omega, hW, hbw⟩
                case measure => simp only [intOf]; omega
        · obtain rfl : j = C := by omega
          have HX : Hid (lsO f t (j - t) (i + 1 - t) = o2) := Lib.hid (by rw [lsO_next hti]; exact hO)
          clear hO
          go_wp2_with fail
          go_roundw
          case rel => exact ⟨i + 1, o2, by go_num, HX.out, rfl, rfl, by omega, by omega, hW, hbw⟩
          case measure => simp only [intOf]; omega
    · obtain rfl : i = R := by omega
      have HX : Hid (ls2 i C f t = o) := Lib.hid hO
      have hb : -1 ≤ o.1 ∧ o.1 ≤ 100 := by
        rcases ls2_cases i C f t with ⟨e, _⟩ | ⟨p, q, e, h3, _⟩
        · rw [← HX.out, e]; decide
        · rw [← HX.out, e]; dsimp only; omega
      clear hO
      go_wp2_with fail
      go_ret3
      rw [HX.out]
      exact ⟨rfl, Kw⟩
end Go.Proofs.Ytacjonkehcamgaa

/-
  DERIVED. leastIn and others of a work.
-/
namespace Go.Proofs.Ytacjonkehcamgaa
open Go.RowKit
set_option linter.unusedVariables false
set_option linter.unusedSimpArgs false
theorem lst_succ {f : Fn2} {j t i : Nat} (h : t ≤ i) : lstK f j t (i + 1 - t) = if f i j ≠ 0 ∧ (lstK f j t (i - t) < 0 ∨ (f i j).natAbs < (f (lstK f j t (i - t)).toNat j).natAbs) then (i : Int) else lstK f j t (i - t) := by
  rw [show i + 1 - t = (i - t) + 1 by omega, lstK_succ, show t + (i - t) = i by omega]
set_option maxRecDepth 100000 in
set_option maxHeartbeats 4000000 in
theorem impl_leastIn (B b R C t j : Nat) (f g h : Fn2) (bd : Bool) (w : World) (hK : WK w B b R C f g h bd) (ht : t ≤ R) (hj : j < C) (hf : OKF R C f) (hC : C ≤ 24) (hR : R ≤ 24) :
    Calls Try.prog 145 #[.pointer (some ⟨b, 0, none⟩), .int .i64 t, .int .i64 j] w (BV (.int .i64 (lst R f j t)) w) := by
  obtain ⟨A, n, cap, A2, n2, cap2, A3, n3, cap3, hW0⟩ := hK
  have HF := Lib.hid hf
  clear hf
  go_enter Try.func145, Try.ntmps145
  go_wp2_with fail
  go_loopw [7, 8, 9] (fun u v _ wr => ∃ (i : Nat), v = .int .i64 i ∧ u = .int .i64 (lstK f j t (i - t)) ∧ t ≤ i ∧ i ≤ R ∧ WB wr B b R C f g h bd A n cap A2 n2 cap2 A3 n3 cap3 ∧ Below w.heap.size w wr) (fun _ v _ _ => R - (intOf v).toNat)
  case atStart => exact ⟨t, rfl, by rw [Nat.sub_self]; rfl, Nat.le_refl _, ht, hW0, Kw⟩
  case round =>
    clear hW0
    obtain ⟨i, rfl, rfl, hti, hiR, hW, hbw⟩ := hrel
    obtain ⟨c0, c1, c2, c3, c4, c5, c6, c7, c8, c9, cf, cl⟩ := hW.cells
    have hsz := hbw.size
    by_cases hlt : i < R
    · have hn := HF.out i j hlt hj
      have HS := Lib.hid (lst_succ (f := f) (j := j) hti)
      have hcs := lstK_cases f j t (i - t)
      by_cases hz : f i j = 0
      · have hx := HS.out
        rw [if_neg (by simp [hz])] at hx
        have HX := Lib.hid hx
        have hnz : ((((f i j).natAbs : Nat) : Int) != 0) = false := by simp [hz]
        obtain ⟨y1, y2⟩ := hn
        have hb : -1 ≤ lstK f j t (i - t) ∧ lstK f j t (i - t) ≤ 100 := by
          rcases hcs with ⟨e, _⟩ | ⟨p, e, _, h3, _⟩
          · omega
          · omega
        obtain ⟨b1, b2⟩ := hb
        clear hx hz hcs HS
        generalize lstK f j t (i - t) = q at *
        generalize hv : f i j = v at *
        have HV := Lib.hid hv
        clear hv
        go_wp2_with fail
        (refine (impl_at_tb R C i j A n cap f (v) HV.out _ (B := B) (by have hm := hW.m; (with_reducible (repeat (first | exact hm | refine OR.drew ?_ | refine OR.drewN ?_ _ | refine OR.alloc ?_ _ | refine OR.b_ ?_ | refine OR.l_ ?_)))) (by omega) (by omega) (by omega) (by omega)).mono ?_; rintro e w1 ⟨rfl, hb1⟩; (have hW_1 : WB w1 B b R C f g h bd A n cap A2 n2 cap2 A3 n3 cap3 := by (with_reducible (repeat (first | exact hW | refine WB.b_ ?_ | refine WB.drew ?_ | refine WB.drewN ?_ _ | refine WB.alloc ?_ _)))); (have hbw_1 : Below w.heap.size w w1 := Kw); (have hsz_1 := hbw_1.size); clear hW hbw hb1; clear c0 c1 c2 c3 c4 c5 c6 c7 c8 c9 cf cl; have hW := hW_1; have hbw := hbw_1; clear hW_1 hbw_1; obtain ⟨c0, c1, c2, c3, c4, c5, c6, c7, c8, c9, cf, cl⟩ := hW.cells)
        go_wp2_with (go_at_call 169; refine (impl_absInt _ _ (by omega) (by omega)).mono ?_; rintro e w' ⟨rfl, rfl⟩)
        go_roundw
        case rel => exact ⟨i + 1, by go_num, by rw [HX.out], by omega, by omega, hW, hbw⟩
        case measure => simp only [intOf]; omega
      · rcases hcs with ⟨e, _⟩ | ⟨p, e, h2, h3, h4, _⟩
        · have hx := HS.out
          rw [if_pos ⟨hz, .inl (by omega)⟩] at hx
          have HX := Lib.hid hx
          rw [e]
          obtain ⟨y1, y2⟩ := hn
          have hnz : ((((f i j).natAbs : Nat) : Int) != 0) = true := by simp; omega
          clear hx hz HS e
          generalize hv : f i j = v at *
          have HV := Lib.hid hv
          clear hv
          go_wp2_with fail
          (refine (impl_at_tb R C i j A n cap f (v) HV.out _ (B := B) (by have hm := hW.m; (with_reducible (repeat (first | exact hm | refine OR.drew ?_ | refine OR.drewN ?_ _ | refine OR.alloc ?_ _ | refine OR.b_ ?_ | refine OR.l_ ?_)))) (by omega) (by omega) (by omega) (by omega)).mono ?_; rintro e w1 ⟨rfl, hb1⟩; (have hW_1 : WB w1 B b R C f g h bd A n cap A2 n2 cap2 A3 n3 cap3 := by (with_reducible (repeat (first | exact hW | refine WB.b_ ?_ | refine WB.drew ?_ | refine WB.drewN ?_ _ | refine WB.alloc ?_ _)))); (have hbw_1 : Below w.heap.size w w1 := Kw); (have hsz_1 := hbw_1.size); clear hW hbw hb1; clear c0 c1 c2 c3 c4 c5 c6 c7 c8 c9 cf cl; have hW := hW_1; have hbw := hbw_1; clear hW_1 hbw_1; obtain ⟨c0, c1, c2, c3, c4, c5, c6, c7, c8, c9, cf, cl⟩ := hW.cells)
          go_wp2_with (go_at_call 169; refine (impl_absInt _ _ (by omega) (by omega)).mono ?_; rintro e w' ⟨rfl, rfl⟩)
          go_roundw
          case rel => exact ⟨i + 1, by go_num, by rw [HX.out], by omega, by omega, hW, hbw⟩
          case measure => simp only [intOf]; omega
        · have e2 : (lstK f j t (i - t)).toNat = p := by omega
          have hx := HS.out
          rw [e2] at hx
          have hnp := HF.out p j (by omega) hj
          obtain ⟨y1, y2⟩ := hn
          obtain ⟨y3, y4⟩ := hnp
          have hnz : ((((f i j).natAbs : Nat) : Int) != 0) = true := by simp; omega
          rw [e] at hx ⊢
          have hpR : p < R := by omega
          by_cases hc : (f i j).natAbs < (f p j).natAbs
          · rw [if_pos ⟨hz, .inr hc⟩] at hx
            have HX := Lib.hid hx
            clear hx hz HS e h4 e2
            generalize hv : f i j = v at *
            generalize hv2 : f p j = v2 at *
            have HV := Lib.hid hv
            have HV2 := Lib.hid hv2
            clear hv hv2
            go_wp2_with fail
            (refine (impl_at_tb R C i j A n cap f (v) HV.out _ (B := B) (by have hm := hW.m; (with_reducible (repeat (first | exact hm | refine OR.drew ?_ | refine OR.drewN ?_ _ | refine OR.alloc ?_ _ | refine OR.b_ ?_ | refine OR.l_ ?_)))) (by omega) (by omega) (by omega) (by omega)).mono ?_; rintro e w1 ⟨rfl, hb1⟩; (have hW_1 : WB w1 B b R C f g h bd A n cap A2 n2 cap2 A3 n3 cap3 := by (with_reducible (repeat (first | exact hW | refine WB.b_ ?_ | refine WB.drew ?_ | refine WB.drewN ?_ _ | refine WB.alloc ?_ _)))); (have hbw_1 : Below w.heap.size w w1 := Kw); (have hsz_1 := hbw_1.size); clear hW hbw hb1; clear c0 c1 c2 c3 c4 c5 c6 c7 c8 c9 cf cl; have hW := hW_1; have hbw := hbw_1; clear hW_1 hbw_1; obtain ⟨c0, c1, c2, c3, c4, c5, c6, c7, c8, c9, cf, cl⟩ := hW.cells)
            go_wp2_with (go_at_call 169; refine (impl_absInt _ _ (by omega) (by omega)).mono ?_; rintro e w' ⟨rfl, rfl⟩)
            (refine (impl_at_tb R C p j A n cap f (v2) HV2.out _ (B := B) (by have hm := hW.m; (with_reducible (repeat (first | exact hm | refine OR.drew ?_ | refine OR.drewN ?_ _ | refine OR.alloc ?_ _ | refine OR.b_ ?_ | refine OR.l_ ?_)))) (by omega) (by omega) (by omega) (by omega)).mono ?_; rintro e w1 ⟨rfl, hb1⟩; (have hW_1 : WB w1 B b R C f g h bd A n cap A2 n2 cap2 A3 n3 cap3 := by (with_reducible (repeat (first | exact hW | refine WB.b_ ?_ | refine WB.drew ?_ | refine WB.drewN ?_ _ | refine WB.alloc ?_ _)))); (have hbw_1 : Below w.heap.size w w1 := Kw); (have hsz_1 := hbw_1.size); clear hW hbw hb1; clear c0 c1 c2 c3 c4 c5 c6 c7 c8 c9 cf cl; have hW := hW_1; have hbw := hbw_1; clear hW_1 hbw_1; obtain ⟨c0, c1, c2, c3, c4, c5, c6, c7, c8, c9, cf, cl⟩ := hW.cells)
            go_wp2_with (go_at_call 169; refine (impl_absInt _ _ (by omega) (by omega)).mono ?_; rintro e w' ⟨rfl, rfl⟩)
            go_roundw
            case rel => exact ⟨i + 1, by go_num, by rw [HX.out], by omega, by omega, hW, hbw⟩
            case measure => simp only [intOf]; omega
          · rw [if_neg (by rintro ⟨_, h5⟩; omega)] at hx
            have HX := Lib.hid hx
            clear hx hz HS e h4 e2
            generalize hv : f i j = v at *
            generalize hv2 : f p j = v2 at *
            have HV := Lib.hid hv
            have HV2 := Lib.hid hv2
            clear hv hv2
            go_wp2_with fail
            (refine (impl_at_tb R C i j A n cap f (v) HV.out _ (B := B) (by have hm := hW.m; (with_reducible (repeat (first | exact hm | refine OR.drew ?_ | refine OR.drewN ?_ _ | refine OR.alloc ?_ _ | refine OR.b_ ?_ | refine OR.l_ ?_)))) (by omega) (by omega) (by omega) (by omega)).mono ?_; rintro e w1 ⟨rfl, hb1⟩; (have hW_1 : WB w1 B b R C f g h bd A n cap A2 n2 cap2 A3 n3 cap3 := by (with_reducible (repeat (first | exact hW | refine WB.b_ ?_ | refine WB.drew ?_ | refine WB.drewN ?_ _ | refine WB.alloc ?_ _)))); (have hbw_1 : Below w.heap.size w w1 := Kw); (have hsz_1 := hbw_1.size); clear hW hbw hb1; clear c0 c1 c2 c3 c4 c5 c6 c7 c8 c9 cf cl; have hW := hW_1; have hbw := hbw_1; clear hW_1 hbw_1; obtain ⟨c0, c1, c2, c3, c4, c5, c6, c7, c8, c9, cf, cl⟩ := hW.cells)
            go_wp2_with (go_at_call 169; refine (impl_absInt _ _ (by omega) (by omega)).mono ?_; rintro e w' ⟨rfl, rfl⟩)
            (refine (impl_at_tb R C p j A n cap f (v2) HV2.out _ (B := B) (by have hm := hW.m; (with_reducible (repeat (first | exact hm | refine OR.drew ?_ | refine OR.drewN ?_ _ | refine OR.alloc ?_ _ | refine OR.b_ ?_ | refine OR.l_ ?_)))) (by omega) (by omega) (by omega) (by omega)).mono ?_; rintro e w1 ⟨rfl, hb1⟩; (have hW_1 : WB w1 B b R C f g h bd A n cap A2 n2 cap2 A3 n3 cap3 := by (with_reducible (repeat (first | exact hW | refine WB.b_ ?_ | refine WB.drew ?_ | refine WB.drewN ?_ _ | refine WB.alloc ?_ _)))); (have hbw_1 : Below w.heap.size w w1 := Kw); (have hsz_1 := hbw_1.size); clear hW hbw hb1; clear c0 c1 c2 c3 c4 c5 c6 c7 c8 c9 cf cl; have hW := hW_1; have hbw := hbw_1; clear hW_1 hbw_1; obtain ⟨c0, c1, c2, c3, c4, c5, c6, c7, c8, c9, cf, cl⟩ := hW.cells)
            go_wp2_with (go_at_call 169; refine (impl_absInt _ _ (by omega) (by omega)).mono ?_; rintro e w' ⟨rfl, rfl⟩)
            go_roundw
            case rel => exact ⟨i + 1, by go_num, by rw [HX.out], by omega, by omega, hW, hbw⟩
            case measure => simp only [intOf]; omega
    · obtain rfl : i = R := by omega
      have hb : -1 ≤ lstK f j t (i - t) ∧ lstK f j t (i - t) ≤ 100 := by
        rcases lstK_cases f j t (i - t) with ⟨e, _⟩ | ⟨p, e, _, h3, _⟩
        · omega
        · omega
      obtain ⟨b1, b2⟩ := hb
      have HL : Hid (lst i f j t = lstK f j t (i - t)) := Lib.hid rfl
      generalize lstK f j t (i - t) = q at *
      go_wp2_with fail
      go_ret
      exact BV.mk (vint HL.out.symm) hbw
set_option maxRecDepth 100000 in
set_option maxHeartbeats 4000000 in
theorem impl_others (B b R C t p j : Nat) (f g h : Fn2) (bd : Bool) (w : World) (hK : WK w B b R C f g h bd) (ht : t ≤ R) (hj : j < C) (hp : p < R) (hC : C ≤ 24) (hR : R ≤ 24) :
    Calls Try.prog 146 #[.pointer (some ⟨b, 0, none⟩), .int .i64 t, .int .i64 p, .int .i64 j] w (BV (.bool (oth R f j t p)) w) := by
  obtain ⟨A, n, cap, A2, n2, cap2, A3, n3, cap3, hW0⟩ := hK
  have HNO := Lib.hid (oth_no (R := R) (f := f) (j := j) (t := t) (p := p))
  have HYES := Lib.hid (fun i h1 h2 h3 h4 => (oth_iff (R := R) (f := f) (j := j) (t := t) (p := p)).2 ⟨i, h1, h2, h3, h4⟩)
  generalize oth R f j t p = res at *
  go_enter Try.func146, Try.ntmps146
  go_wp2_with fail
  go_loopw [9] (fun v wr => ∃ (i : Nat), v = .int .i64 i ∧ t ≤ i ∧ i ≤ R ∧ (∀ k, t ≤ k → k < i → ¬ (k ≠ p ∧ f k j ≠ 0)) ∧ WB wr B b R C f g h bd A n cap A2 n2 cap2 A3 n3 cap3 ∧ Below w.heap.size w wr) (fun v _ => R - (intOf v).toNat)
  case atStart => exact ⟨t, rfl, Nat.le_refl _, ht, fun k h1 h2 => absurd h1 (by omega), hW0, Kw⟩
  case round =>
    clear hW0
    obtain ⟨i, rfl, hti, hiR, hno, hW, hbw⟩ := hrel
    obtain ⟨c0, c1, c2, c3, c4, c5, c6, c7, c8, c9, cf, cl⟩ := hW.cells
    have hsz := hbw.size
    have HN := Lib.hid hno
    clear hno
    by_cases hlt : i < R
    · by_cases hip : i = p
      · have hb : ((i : Int) != (p : Int)) = false := by simp [hip]
        have HS : Hid (∀ k, t ≤ k → k < i + 1 → ¬ (k ≠ p ∧ f k j ≠ 0)) := Lib.hid (fun k h1 h2 => by
          by_cases e : k = i
          · exact fun h3 => h3.1 (e.trans hip)
          · exact HN.out k h1 (by omega))
        clear hip
        go_wp2_with fail
        go_roundw
        case rel => exact ⟨i + 1, by go_num, by omega, by omega, HS.out, hW, hbw⟩
        case measure => simp only [intOf]; omega
      · have hb : ((i : Int) != (p : Int)) = true := by simp; omega
        have HIP := Lib.hid hip
        clear hip
        by_cases hz : f i j = 0
        · have HS : Hid (∀ k, t ≤ k → k < i + 1 → ¬ (k ≠ p ∧ f k j ≠ 0)) := Lib.hid (fun k h1 h2 => by
            by_cases e : k = i
            · exact fun h3 => h3.2 (by rw [e]; exact hz)
            · exact HN.out k h1 (by omega))
          have hnz : (f i j != 0) = false := by simp [hz]
          clear hz
          generalize hv : f i j = v at *
          have HV := Lib.hid hv
          clear hv
          go_wp2_with fail
          (refine (impl_at_tb R C i j A n cap f (v) HV.out _ (B := B) (by have hm := hW.m; (with_reducible (repeat (first | exact hm | refine OR.drew ?_ | refine OR.drewN ?_ _ | refine OR.alloc ?_ _ | refine OR.b_ ?_ | refine OR.l_ ?_)))) (by omega) (by omega) (by omega) (by omega)).mono ?_; rintro e w1 ⟨rfl, hb1⟩; (have hW_1 : WB w1 B b R C f g h bd A n cap A2 n2 cap2 A3 n3 cap3 := by (with_reducible (repeat (first | exact hW | refine WB.b_ ?_ | refine WB.drew ?_ | refine WB.drewN ?_ _ | refine WB.alloc ?_ _)))); (have hbw_1 : Below w.heap.size w w1 := Kw); (have hsz_1 := hbw_1.size); clear hW hbw hb1; clear c0 c1 c2 c3 c4 c5 c6 c7 c8 c9 cf cl; have hW := hW_1; have hbw := hbw_1; clear hW_1 hbw_1; obtain ⟨c0, c1, c2, c3, c4, c5, c6, c7, c8, c9, cf, cl⟩ := hW.cells)
          go_wp2_with fail
          go_roundw
          case rel => exact ⟨i + 1, by go_num, by omega, by omega, HS.out, hW, hbw⟩
          case measure => simp only [intOf]; omega
        · have HR := Lib.hid (HYES.out i hti hlt HIP.out hz)
          have hnz : (f i j != 0) = true := by simpa using hz
          clear hz
          generalize hv : f i j = v at *
          have HV := Lib.hid hv
          clear hv
          go_wp2_with fail
          (refine (impl_at_tb R C i j A n cap f (v) HV.out _ (B := B) (by have hm := hW.m; (with_reducible (repeat (first | exact hm | refine OR.drew ?_ | refine OR.drewN ?_ _ | refine OR.alloc ?_ _ | refine OR.b_ ?_ | refine OR.l_ ?_)))) (by omega) (by omega) (by omega) (by omega)).mono ?_; rintro e w1 ⟨rfl, hb1⟩; (have hW_1 : WB w1 B b R C f g h bd A n cap A2 n2 cap2 A3 n3 cap3 := by (with_reducible (repeat (first | exact hW | refine WB.b_ ?_ | refine WB.drew ?_ | refine WB.drewN ?_ _ | refine WB.alloc ?_ _)))); (have hbw_1 : Below w.heap.size w w1 := Kw); (have hsz_1 := hbw_1.size); clear hW hbw hb1; clear c0 c1 c2 c3 c4 c5 c6 c7 c8 c9 cf cl; have hW := hW_1; have hbw := hbw_1; clear hW_1 hbw_1; obtain ⟨c0, c1, c2, c3, c4, c5, c6, c7, c8, c9, cf, cl⟩ := hW.cells)
          go_wp2_with fail
          go_ret
          exact BV.mk (vbool HR.out.symm) hbw
    · obtain rfl : i = R := by omega
      have HR := Lib.hid (HNO.out HN.out)
      go_wp2_with fail
      go_ret
      exact BV.mk (vbool HR.out.symm) hbw
end Go.Proofs.Ytacjonkehcamgaa

/-
  DERIVED. l1Bads, l12Cell, l12Least, l12Alone, l12Ops of the reference.
-/
namespace Go.Proofs.Ytacjonkehcamgaa
open Go.RowKit
set_option linter.unusedVariables false
set_option linter.unusedSimpArgs false
theorem spec_l1Bads (A : Option Addr) (n cap : Nat) (xs : List Int) (w : World) {B : Nat} (h : RI w B A n xs) (hn : n ≤ 1048576) :
    Calls Try.prog 210 #[.slice A n cap] w (EV (.bool (!xs.all noBad)) w) := by
  have hlen := h.len
  have hlx : xs.length ≤ n ∧ n ≤ xs.length := by omega
  have H := Lib.hid h
  clear h hlen
  go_enter Try.func210, Try.ntmps210
  go_wp2_with fail
  go_loop [3] (fun v => ∃ k : Nat, v = .int .i64 k ∧ k ≤ n ∧ (xs.take k).all noBad = true) (fun v => n - (intOf v).toNat)
  case atStart => exact ⟨0, rfl, Nat.zero_le _, by simp⟩
  case round =>
    obtain ⟨k, rfl, hk, hz⟩ := hrel
    have HZ := Lib.hid hz
    clear hz
    by_cases hlt : k < n
    · obtain ⟨b, o, rfl, hbb, hcells⟩ := H.out.2 (by omega)
      have c1 := hcells k hlt
      clear hcells
      have hat := all_take (xs := xs) (p := noBad) (show k < xs.length by omega)
      have hfa := all_false (xs := xs) (p := noBad) (show k < xs.length by omega)
      rw [HZ.out, Bool.true_and] at hat
      generalize xs.getD k 0 = x at c1 hat hfa
      rcases hx : (x == -4611686018427387904) with _ | _
      · have hn := Lib.hid (hat.trans (show noBad x = true by unfold noBad; rw [hx]; rfl))
        clear hat hfa
        go_wp2_with fail
        go_round
        case rel => exact ⟨k + 1, by go_num, by omega, hn.out⟩
        case measure => simp only [intOf]; omega
      · have hn := Lib.hid (hfa (show noBad x = false by unfold noBad; rw [hx]; rfl))
        clear hat hfa
        go_wp2_with fail
        go_ret
        exact EV.mk (vbool (by rw [hn.out]; rfl))
    · have hall := Lib.hid (show xs.all noBad = true by
        have := HZ.out
        rw [List.take_of_length_le (by omega)] at this
        exact this)
      go_wp2_with fail
      go_ret
      exact EV.mk (vbool (by rw [hall.out]; rfl))
theorem spec_l12Cell_tb (R C i j : Nat) (A : Option Addr) (n cap : Nat) (F : Nat → Nat → Int) (v : Int) (hv : F i j = v) (w : World) {B : Nat} (h : OR w B (.slice A n cap) (tb R C F)) (hR : R ≤ 48) (hC : C ≤ 48) (hi : i < R) (hj : j < C) :
    Calls Try.prog 108 #[.agg #[.int .i64 R, .int .i64 C, .slice A n cap], .int .i64 i, .int .i64 j] w (BV (.int .i64 v) w) := by
  have hn := h.lenEq
  rw [tb_len] at hn
  have h1 := idx_nat hi hj
  have h2 : i * C ≤ 48 * 48 := Nat.mul_le_mul (by omega) hC
  have e1 : (i : Int) * (C : Int) = ((i * C : Nat) : Int) := by rw [Int.natCast_mul]
  have := spec_l12Cell R C i j A n cap (tb R C F) w h.reads (Nat.le_refl _) ⟨by omega, by omega⟩ ⟨by omega, by omega⟩ (by omega)
  rw [cel_tb hi hj, hv] at this
  exact this
set_option maxRecDepth 100000 in
set_option maxHeartbeats 4000000 in
theorem spec_l12Least (R C t j : Nat) (A : Option Addr) (n cap : Nat) (f : Fn2) (w : World) {B : Nat} (h : OR w B (.slice A n cap) (tb R C f)) (ht : t ≤ R) (hj : j < C) (hf : OKF R C f) (hC : C ≤ 24) (hR : R ≤ 24) :
    Calls Try.prog 206 #[.agg #[.int .i64 R, .int .i64 C, .slice A n cap], .int .i64 t, .int .i64 j] w (BV (.int .i64 (lst R f j t)) w) := by
  have HF := Lib.hid hf
  clear hf
  go_enter Try.func206, Try.ntmps206
  go_wp2_with fail
  go_loopw [7, 8, 9] (fun u v _ wr => ∃ (i : Nat), v = .int .i64 i ∧ u = .int .i64 (lstK f j t (i - t)) ∧ t ≤ i ∧ i ≤ R ∧ BM wr w.heap.size R C A n cap ∧ OR wr B (.slice A n cap) (tb R C f) ∧ Below w.heap.size w wr) (fun _ v _ _ => R - (intOf v).toNat)
  case atStart => exact ⟨t, rfl, by rw [Nat.sub_self]; rfl, Nat.le_refl _, ht, Ka, Ko h, Kw⟩
  case round =>
    clear h
    obtain ⟨i, rfl, rfl, hti, hiR, hO, ho, hbw⟩ := hrel
    obtain ⟨oa, ob, oc, of, ol⟩ := hO.mx
    have hsz := hbw.size
    by_cases hlt : i < R
    · have hn := HF.out i j hlt hj
      have HS := Lib.hid (lst_succ (f := f) (j := j) hti)
      have hcs := lstK_cases f j t (i - t)
      by_cases hz : f i j = 0
      · have hx := HS.out
        rw [if_neg (by simp [hz])] at hx
        have HX := Lib.hid hx
        have hb : -1 ≤ lstK f j t (i - t) ∧ lstK f j t (i - t) ≤ 100 := by
          rcases hcs with ⟨e, _⟩ | ⟨p, e, _, h3, _⟩
          · omega
          · omega
        obtain ⟨b1, b2⟩ := hb
        have HZ := Lib.hid hz
        clear hx hz hcs HS
        generalize lstK f j t (i - t) = q at *
        go_wp2_with fail
        (refine (spec_l12Cell_tb R C i j A n cap f (0) HZ.out _ (B := B) (Ko ho) (by omega) (by omega) (by omega) (by omega)).mono ?_; rintro e w1 ⟨rfl, hb1⟩; (have hO_1 : BM w1 w.heap.size R C A n cap := (Kb hO)); (have ho_1 : OR w1 B (.slice A n cap) (tb R C f) := (Ko ho)); (have hbw_1 : Below w.heap.size w w1 := Kw); (have hsz_1 := hbw_1.size); clear hO ho hbw hb1; clear oa ob oc of ol; (have hO := hO_1); (have ho := ho_1); (have hbw := hbw_1); clear hO_1 ho_1 hbw_1; obtain ⟨oa, ob, oc, of, ol⟩ := hO.mx)
        go_wp2_with fail
        go_quiet (fail)
        go_wp2_with fail
        go_roundw
        case rel => exact ⟨i + 1, by go_num, by rw [HX.out], by omega, by omega, Kb hO, Ko ho, Kw⟩
        case measure => simp only [intOf]; omega
      · have hnz : (f i j != 0) = true := by simpa using hz
        rcases hcs with ⟨e, _⟩ | ⟨p, e, h2, h3, h4, _⟩
        · have hx := HS.out
          rw [if_pos ⟨hz, .inl (by omega)⟩] at hx
          have HX := Lib.hid hx
          rw [e]
          obtain ⟨y1, y2⟩ := hn
          clear hx hz HS e
          generalize hv : f i j = v at *
          have HV := Lib.hid hv
          clear hv
          go_wp2_with fail
          (refine (spec_l12Cell_tb R C i j A n cap f v HV.out _ (B := B) (Ko ho) (by omega) (by omega) (by omega) (by omega)).mono ?_; rintro e w1 ⟨rfl, hb1⟩; (have hO_1 : BM w1 w.heap.size R C A n cap := (Kb hO)); (have ho_1 : OR w1 B (.slice A n cap) (tb R C f) := (Ko ho)); (have hbw_1 : Below w.heap.size w w1 := Kw); (have hsz_1 := hbw_1.size); clear hO ho hbw hb1; clear oa ob oc of ol; (have hO := hO_1); (have ho := ho_1); (have hbw := hbw_1); clear hO_1 ho_1 hbw_1; obtain ⟨oa, ob, oc, of, ol⟩ := hO.mx)
          go_wp2_with fail
          ((refine wp_region_held_drew (S := (fun w' => w'.cell? ⟨w.heap.size, 0, none⟩ = some (.int .i64 R) ∧ w'.cell? ⟨w.heap.size, 1, none⟩ = some (.int .i64 C) ∧ w'.cell? ⟨w.heap.size, 2, none⟩ = some (.slice A n cap))) (by kernel_rfl) ?_ (fun hHeld => ?_)); ((focus ((try dsimp only); (go_keep)))); ((refine tk_ (i := 0) (v := ?_) (y := Or.inl ⟨by rfl, ?_⟩) (h := ?_); rotate_left; (focus (((intro w hSw; (try dsimp only at hSw); go_simp) <;> (try with_reducible rfl)); done)); (try simp only [Act.put, p1_, p2_, p3_]))); ((refine tk_ (i := 1) (v := ?_) (y := Or.inl ⟨by rfl, ?_⟩) (h := ?_); rotate_left; (focus (((intro w hSw; (try dsimp only at hSw); go_simp) <;> (try with_reducible rfl)); done)); (try simp only [Act.put, p1_, p2_, p3_]))); ((refine tk_ (i := 2) (v := ?_) (y := Or.inl ⟨by rfl, ?_⟩) (h := ?_); rotate_left; (focus (((intro w hSw; (try dsimp only at hSw); go_simp) <;> (try with_reducible rfl)); done)); (try simp only [Act.put, p1_, p2_, p3_]))); ((refine tk_ (i := 3) (v := ?_) (y := Or.inl ⟨by rfl, ?_⟩) (h := ?_); rotate_left; (focus (((intro w hSw; (try dsimp only at hSw); go_simp) <;> (try with_reducible rfl)); done)); (try simp only [Act.put, p1_, p2_, p3_]))); ((refine tk_ (i := 4) (v := ?_) (y := Or.inl ⟨by rfl, ?_⟩) (h := ?_); rotate_left; (focus (((intro w hSw; (try dsimp only at hSw); go_simp) <;> (try with_reducible rfl)); done)); (try simp only [Act.put, p1_, p2_, p3_]))); ((refine tk_ (i := 5) (v := ?_) (y := Or.inl ⟨by rfl, ?_⟩) (h := ?_); rotate_left; (focus (((intro w hSw; (try dsimp only at hSw); go_simp) <;> (try with_reducible rfl)); done)); (try simp only [Act.put, p1_, p2_, p3_]))); ((refine wpAnyH_take (i := 6) (by simp only [e1_, e2_, e3_]; try rfl) (by kernel_rfl) (by kernel_rfl) (by kernel_rfl) (by exact fun _ _ _ h => h) (Or.inr ⟨by rfl, rfl⟩) (by assumption) ?_; (try simp only [Act.put, p1_, p2_, p3_]))); ((refine wpAnyH_take (i := 8) (by simp only [e1_, e2_, e3_]; try rfl) (by kernel_rfl) (by kernel_rfl) (by kernel_rfl) (by exact fun _ _ _ h => h) (Or.inr ⟨by rfl, rfl⟩) (by assumption) ?_; (try simp only [Act.put, p1_, p2_, p3_]))); ((refine wpAnyH_take (i := 9) (by simp only [e1_, e2_, e3_]; try rfl) (by kernel_rfl) (by kernel_rfl) (by kernel_rfl) (by exact fun _ _ _ h => h) (Or.inr ⟨by rfl, rfl⟩) (by assumption) ?_; (try simp only [Act.put, p1_, p2_, p3_]))); ((refine wpAnyH_take (i := 10) (by simp only [e1_, e2_, e3_]; try rfl) (by kernel_rfl) (by kernel_rfl) (by kernel_rfl) (by exact fun _ _ _ h => h) (Or.inr ⟨by rfl, rfl⟩) (by assumption) ?_; (try simp only [Act.put, p1_, p2_, p3_]))); ((refine wpAnyH_ready (rs := [7]) (by kernel_rfl) (by simp) ?_; refine AllReadyH.cons (by simp only [e1_, e2_, e3_]; try rfl) (fun K hK => ?_) AllReadyH.nil; go_simp; with_reducible refine hK.out _ _ ?_ (fun hHeld => ?_); (focus ((try dsimp only); (go_keep))); clear hK K; (try simp only [Act.put, p1_, p2_, p3_]))); ((refine wpAnyH_ready (rs := [11]) (by kernel_rfl) (by simp) ?_; refine AllReadyH.cons (by simp only [e1_, e2_, e3_]; try rfl) (fun K hK => ?_) AllReadyH.nil; go_simp; with_reducible refine hK.out _ _ ?_ (fun hHeld => ?_); (focus ((try dsimp only); (go_keep))); clear hK K; (try simp only [Act.put, p1_, p2_, p3_]))); ((refine wpAnyH_ready (rs := [12]) (by kernel_rfl) (by simp) ?_; refine AllReadyH.cons (by simp only [e1_, e2_, e3_]; try rfl) (fun K hK => ?_) AllReadyH.nil; go_simp; with_reducible refine hK.out _ _ ?_ (fun hHeld => ?_); (focus ((try dsimp only); (go_keep))); clear hK K; (try simp only [Act.put, p1_, p2_, p3_]))); ((refine wpAnyH_take (i := 13) (by simp only [e1_, e2_, e3_]; try rfl) (by kernel_rfl) (by kernel_rfl) (by kernel_rfl) (by exact fun _ _ _ h => h) (Or.inr ⟨by rfl, rfl⟩) (by assumption) ?_; (try simp only [Act.put, p1_, p2_, p3_]))); ((refine tk_ (i := 14) (v := ?_) (y := Or.inl ⟨by rfl, ?_⟩) (h := ?_); rotate_left; (focus (((intro w hSw; (try dsimp only at hSw); go_simp) <;> (try with_reducible rfl)); done)); (try simp only [Act.put, p1_, p2_, p3_]))); ((refine tk_ (i := 15) (v := ?_) (y := Or.inl ⟨by rfl, ?_⟩) (h := ?_); rotate_left; (focus (((intro w hSw; (try dsimp only at hSw); go_simp) <;> (try with_reducible rfl)); done)); (try simp only [Act.put, p1_, p2_, p3_]))); (refine wpAnyH_done (by kernel_rfl) ?_ _))
          go_wp2_with fail
          go_roundw
          case rel => exact ⟨i + 1, by go_num, by rw [HX.out], by omega, by omega, Kb hO, Ko ho, Kw⟩
          case measure => simp only [intOf]; omega
        · have e2 : (lstK f j t (i - t)).toNat = p := by omega
          have hx := HS.out
          rw [e2] at hx
          have hnp := HF.out p j (by omega) hj
          obtain ⟨y1, y2⟩ := hn
          obtain ⟨y3, y4⟩ := hnp
          rw [e] at hx ⊢
          have hpR : p < R := by omega
          by_cases hc : (f i j).natAbs < (f p j).natAbs
          · rw [if_pos ⟨hz, .inr hc⟩] at hx
            have HX := Lib.hid hx
            clear hx hz HS e h4 e2
            generalize hv : f i j = v at *
            generalize hv2 : f p j = v2 at *
            have HV := Lib.hid hv
            have HV2 := Lib.hid hv2
            clear hv hv2
            go_wp2_with fail
            (refine (spec_l12Cell_tb R C i j A n cap f v HV.out _ (B := B) (Ko ho) (by omega) (by omega) (by omega) (by omega)).mono ?_; rintro e w1 ⟨rfl, hb1⟩; (have hO_1 : BM w1 w.heap.size R C A n cap := (Kb hO)); (have ho_1 : OR w1 B (.slice A n cap) (tb R C f) := (Ko ho)); (have hbw_1 : Below w.heap.size w w1 := Kw); (have hsz_1 := hbw_1.size); clear hO ho hbw hb1; clear oa ob oc of ol; (have hO := hO_1); (have ho := ho_1); (have hbw := hbw_1); clear hO_1 ho_1 hbw_1; obtain ⟨oa, ob, oc, of, ol⟩ := hO.mx)
            go_wp2_with fail
            ((refine wp_region_held_drew (S := (fun w' => w'.cell? ⟨w.heap.size, 0, none⟩ = some (.int .i64 R) ∧ w'.cell? ⟨w.heap.size, 1, none⟩ = some (.int .i64 C) ∧ w'.cell? ⟨w.heap.size, 2, none⟩ = some (.slice A n cap))) (by kernel_rfl) ?_ (fun hHeld => ?_)); ((focus ((try dsimp only); (go_keep)))); ((refine tk_ (i := 0) (v := ?_) (y := Or.inl ⟨by rfl, ?_⟩) (h := ?_); rotate_left; (focus (((intro w hSw; (try dsimp only at hSw); go_simp) <;> (try with_reducible rfl)); done)); (try simp only [Act.put, p1_, p2_, p3_]))); ((refine tk_ (i := 1) (v := ?_) (y := Or.inl ⟨by rfl, ?_⟩) (h := ?_); rotate_left; (focus (((intro w hSw; (try dsimp only at hSw); go_simp) <;> (try with_reducible rfl)); done)); (try simp only [Act.put, p1_, p2_, p3_]))); ((refine tk_ (i := 2) (v := ?_) (y := Or.inl ⟨by rfl, ?_⟩) (h := ?_); rotate_left; (focus (((intro w hSw; (try dsimp only at hSw); go_simp) <;> (try with_reducible rfl)); done)); (try simp only [Act.put, p1_, p2_, p3_]))); ((refine tk_ (i := 3) (v := ?_) (y := Or.inl ⟨by rfl, ?_⟩) (h := ?_); rotate_left; (focus (((intro w hSw; (try dsimp only at hSw); go_simp) <;> (try with_reducible rfl)); done)); (try simp only [Act.put, p1_, p2_, p3_]))); ((refine tk_ (i := 4) (v := ?_) (y := Or.inl ⟨by rfl, ?_⟩) (h := ?_); rotate_left; (focus (((intro w hSw; (try dsimp only at hSw); go_simp) <;> (try with_reducible rfl)); done)); (try simp only [Act.put, p1_, p2_, p3_]))); ((refine tk_ (i := 5) (v := ?_) (y := Or.inl ⟨by rfl, ?_⟩) (h := ?_); rotate_left; (focus (((intro w hSw; (try dsimp only at hSw); go_simp) <;> (try with_reducible rfl)); done)); (try simp only [Act.put, p1_, p2_, p3_]))); ((refine tk_ (i := 6) (v := ?_) (y := Or.inl ⟨by rfl, ?_⟩) (h := ?_); rotate_left; (focus (((intro w hSw; (try dsimp only at hSw); go_simp) <;> (try with_reducible rfl)); done)); (try simp only [Act.put, p1_, p2_, p3_]))); ((refine tk_ (i := 8) (v := ?_) (y := Or.inl ⟨by rfl, ?_⟩) (h := ?_); rotate_left; (focus (((intro w hSw; (try dsimp only at hSw); go_simp) <;> (try with_reducible rfl)); done)); (try simp only [Act.put, p1_, p2_, p3_]))); ((refine tk_ (i := 9) (v := ?_) (y := Or.inl ⟨by rfl, ?_⟩) (h := ?_); rotate_left; (focus (((intro w hSw; (try dsimp only at hSw); go_simp) <;> (try with_reducible rfl)); done)); (try simp only [Act.put, p1_, p2_, p3_]))); ((refine tk_ (i := 10) (v := ?_) (y := Or.inl ⟨by rfl, ?_⟩) (h := ?_); rotate_left; (focus (((intro w hSw; (try dsimp only at hSw); go_simp) <;> (try with_reducible rfl)); done)); (try simp only [Act.put, p1_, p2_, p3_]))); ((refine wpAnyH_ready (rs := [7]) (by kernel_rfl) (by simp) ?_; refine AllReadyH.cons (by simp only [e1_, e2_, e3_]; try rfl) (fun K hK => ?_) AllReadyH.nil; go_simp; (go_at_call 224; refine (spec_l1Abs _ _ (by omega) (by omega)).mono ?_; rintro e w' ⟨rfl, rfl⟩); (try go_wp2_with fail); refine hK.out _ _ ?_ (fun hHeld => ?_); (focus ((try dsimp only); (go_keep))); clear hK K; (try simp only [Act.put, p1_, p2_, p3_]))); ((refine wpAnyH_ready (rs := [11]) (by kernel_rfl) (by simp) ?_; refine AllReadyH.cons (by simp only [e1_, e2_, e3_]; try rfl) (fun K hK => ?_) AllReadyH.nil; go_simp; (go_at_call 108; (refine (spec_l12Cell_tb R C p j A n cap f v2 HV2.out _ (B := B) (Ko ho) (by omega) (by omega) (by omega) (by omega)).mono ?_; rintro e w1 ⟨rfl, hb1⟩; (have hO_1 : BM w1 w.heap.size R C A n cap := (Kb hO)); (have ho_1 : OR w1 B (.slice A n cap) (tb R C f) := (Ko ho)); (have hbw_1 : Below w.heap.size w w1 := Kw); (have hsz_1 := hbw_1.size); clear hO ho hbw hb1; clear oa ob oc of ol; (have hO := hO_1); (have ho := ho_1); (have hbw := hbw_1); clear hO_1 ho_1 hbw_1; obtain ⟨oa, ob, oc, of, ol⟩ := hO.mx)); (try go_wp2_with fail); refine hK.out _ _ ?_ (fun hHeld => ?_); (focus ((try dsimp only); (go_keep))); clear hK K; (try simp only [Act.put, p1_, p2_, p3_]))); ((refine wpAnyH_ready (rs := [12]) (by kernel_rfl) (by simp) ?_; refine AllReadyH.cons (by simp only [e1_, e2_, e3_]; try rfl) (fun K hK => ?_) AllReadyH.nil; go_simp; (go_at_call 224; refine (spec_l1Abs _ _ (by omega) (by omega)).mono ?_; rintro e w' ⟨rfl, rfl⟩); (try go_wp2_with fail); refine hK.out _ _ ?_ (fun hHeld => ?_); (focus ((try dsimp only); (go_keep))); clear hK K; (try simp only [Act.put, p1_, p2_, p3_]))); ((refine tk_ (i := 13) (v := ?_) (y := Or.inl ⟨by rfl, ?_⟩) (h := ?_); rotate_left; (focus (((intro w hSw; (try dsimp only at hSw); go_simp) <;> (try with_reducible rfl)); done)); (try simp only [Act.put, p1_, p2_, p3_]))); ((refine tk_ (i := 14) (v := ?_) (y := Or.inl ⟨by rfl, ?_⟩) (h := ?_); rotate_left; (focus (((intro w hSw; (try dsimp only at hSw); go_simp) <;> (try with_reducible rfl)); done)); (try simp only [Act.put, p1_, p2_, p3_]))); ((refine tk_ (i := 15) (v := ?_) (y := Or.inl ⟨by rfl, ?_⟩) (h := ?_); rotate_left; (focus (((intro w hSw; (try dsimp only at hSw); go_simp) <;> (try with_reducible rfl)); done)); (try simp only [Act.put, p1_, p2_, p3_]))); (refine wpAnyH_done (by kernel_rfl) ?_ _))
            go_wp2_with fail
            go_roundw
            case rel => exact ⟨i + 1, by go_num, by rw [HX.out], by omega, by omega, Kb hO, Ko ho, Kw⟩
            case measure => simp only [intOf]; omega
          · rw [if_neg (by rintro ⟨_, h5⟩; omega)] at hx
            have HX := Lib.hid hx
            clear hx hz HS e h4 e2
            generalize hv : f i j = v at *
            generalize hv2 : f p j = v2 at *
            have HV := Lib.hid hv
            have HV2 := Lib.hid hv2
            clear hv hv2
            go_wp2_with fail
            (refine (spec_l12Cell_tb R C i j A n cap f v HV.out _ (B := B) (Ko ho) (by omega) (by omega) (by omega) (by omega)).mono ?_; rintro e w1 ⟨rfl, hb1⟩; (have hO_1 : BM w1 w.heap.size R C A n cap := (Kb hO)); (have ho_1 : OR w1 B (.slice A n cap) (tb R C f) := (Ko ho)); (have hbw_1 : Below w.heap.size w w1 := Kw); (have hsz_1 := hbw_1.size); clear hO ho hbw hb1; clear oa ob oc of ol; (have hO := hO_1); (have ho := ho_1); (have hbw := hbw_1); clear hO_1 ho_1 hbw_1; obtain ⟨oa, ob, oc, of, ol⟩ := hO.mx)
            go_wp2_with fail
            ((refine wp_region_held_drew (S := (fun w' => w'.cell? ⟨w.heap.size, 0, none⟩ = some (.int .i64 R) ∧ w'.cell? ⟨w.heap.size, 1, none⟩ = some (.int .i64 C) ∧ w'.cell? ⟨w.heap.size, 2, none⟩ = some (.slice A n cap))) (by kernel_rfl) ?_ (fun hHeld => ?_)); ((focus ((try dsimp only); (go_keep)))); ((refine tk_ (i := 0) (v := ?_) (y := Or.inl ⟨by rfl, ?_⟩) (h := ?_); rotate_left; (focus (((intro w hSw; (try dsimp only at hSw); go_simp) <;> (try with_reducible rfl)); done)); (try simp only [Act.put, p1_, p2_, p3_]))); ((refine tk_ (i := 1) (v := ?_) (y := Or.inl ⟨by rfl, ?_⟩) (h := ?_); rotate_left; (focus (((intro w hSw; (try dsimp only at hSw); go_simp) <;> (try with_reducible rfl)); done)); (try simp only [Act.put, p1_, p2_, p3_]))); ((refine tk_ (i := 2) (v := ?_) (y := Or.inl ⟨by rfl, ?_⟩) (h := ?_); rotate_left; (focus (((intro w hSw; (try dsimp only at hSw); go_simp) <;> (try with_reducible rfl)); done)); (try simp only [Act.put, p1_, p2_, p3_]))); ((refine tk_ (i := 3) (v := ?_) (y := Or.inl ⟨by rfl, ?_⟩) (h := ?_); rotate_left; (focus (((intro w hSw; (try dsimp only at hSw); go_simp) <;> (try with_reducible rfl)); done)); (try simp only [Act.put, p1_, p2_, p3_]))); ((refine tk_ (i := 4) (v := ?_) (y := Or.inl ⟨by rfl, ?_⟩) (h := ?_); rotate_left; (focus (((intro w hSw; (try dsimp only at hSw); go_simp) <;> (try with_reducible rfl)); done)); (try simp only [Act.put, p1_, p2_, p3_]))); ((refine tk_ (i := 5) (v := ?_) (y := Or.inl ⟨by rfl, ?_⟩) (h := ?_); rotate_left; (focus (((intro w hSw; (try dsimp only at hSw); go_simp) <;> (try with_reducible rfl)); done)); (try simp only [Act.put, p1_, p2_, p3_]))); ((refine tk_ (i := 6) (v := ?_) (y := Or.inl ⟨by rfl, ?_⟩) (h := ?_); rotate_left; (focus (((intro w hSw; (try dsimp only at hSw); go_simp) <;> (try with_reducible rfl)); done)); (try simp only [Act.put, p1_, p2_, p3_]))); ((refine tk_ (i := 8) (v := ?_) (y := Or.inl ⟨by rfl, ?_⟩) (h := ?_); rotate_left; (focus (((intro w hSw; (try dsimp only at hSw); go_simp) <;> (try with_reducible rfl)); done)); (try simp only [Act.put, p1_, p2_, p3_]))); ((refine tk_ (i := 9) (v := ?_) (y := Or.inl ⟨by rfl, ?_⟩) (h := ?_); rotate_left; (focus (((intro w hSw; (try dsimp only at hSw); go_simp) <;> (try with_reducible rfl)); done)); (try simp only [Act.put, p1_, p2_, p3_]))); ((refine tk_ (i := 10) (v := ?_) (y := Or.inl ⟨by rfl, ?_⟩) (h := ?_); rotate_left; (focus (((intro w hSw; (try dsimp only at hSw); go_simp) <;> (try with_reducible rfl)); done)); (try simp only [Act.put, p1_, p2_, p3_]))); ((refine wpAnyH_ready (rs := [7]) (by kernel_rfl) (by simp) ?_; refine AllReadyH.cons (by simp only [e1_, e2_, e3_]; try rfl) (fun K hK => ?_) AllReadyH.nil; go_simp; (go_at_call 224; refine (spec_l1Abs _ _ (by omega) (by omega)).mono ?_; rintro e w' ⟨rfl, rfl⟩); (try go_wp2_with fail); refine hK.out _ _ ?_ (fun hHeld => ?_); (focus ((try dsimp only); (go_keep))); clear hK K; (try simp only [Act.put, p1_, p2_, p3_]))); ((refine wpAnyH_ready (rs := [11]) (by kernel_rfl) (by simp) ?_; refine AllReadyH.cons (by simp only [e1_, e2_, e3_]; try rfl) (fun K hK => ?_) AllReadyH.nil; go_simp; (go_at_call 108; (refine (spec_l12Cell_tb R C p j A n cap f v2 HV2.out _ (B := B) (Ko ho) (by omega) (by omega) (by omega) (by omega)).mono ?_; rintro e w1 ⟨rfl, hb1⟩; (have hO_1 : BM w1 w.heap.size R C A n cap := (Kb hO)); (have ho_1 : OR w1 B (.slice A n cap) (tb R C f) := (Ko ho)); (have hbw_1 : Below w.heap.size w w1 := Kw); (have hsz_1 := hbw_1.size); clear hO ho hbw hb1; clear oa ob oc of ol; (have hO := hO_1); (have ho := ho_1); (have hbw := hbw_1); clear hO_1 ho_1 hbw_1; obtain ⟨oa, ob, oc, of, ol⟩ := hO.mx)); (try go_wp2_with fail); refine hK.out _ _ ?_ (fun hHeld => ?_); (focus ((try dsimp only); (go_keep))); clear hK K; (try simp only [Act.put, p1_, p2_, p3_]))); ((refine wpAnyH_ready (rs := [12]) (by kernel_rfl) (by simp) ?_; refine AllReadyH.cons (by simp only [e1_, e2_, e3_]; try rfl) (fun K hK => ?_) AllReadyH.nil; go_simp; (go_at_call 224; refine (spec_l1Abs _ _ (by omega) (by omega)).mono ?_; rintro e w' ⟨rfl, rfl⟩); (try go_wp2_with fail); refine hK.out _ _ ?_ (fun hHeld => ?_); (focus ((try dsimp only); (go_keep))); clear hK K; (try simp only [Act.put, p1_, p2_, p3_]))); ((refine tk_ (i := 13) (v := ?_) (y := Or.inl ⟨by rfl, ?_⟩) (h := ?_); rotate_left; (focus (((intro w hSw; (try dsimp only at hSw); go_simp) <;> (try with_reducible rfl)); done)); (try simp only [Act.put, p1_, p2_, p3_]))); ((refine tk_ (i := 14) (v := ?_) (y := Or.inl ⟨by rfl, ?_⟩) (h := ?_); rotate_left; (focus (((intro w hSw; (try dsimp only at hSw); go_simp) <;> (try with_reducible rfl)); done)); (try simp only [Act.put, p1_, p2_, p3_]))); ((refine tk_ (i := 15) (v := ?_) (y := Or.inl ⟨by rfl, ?_⟩) (h := ?_); rotate_left; (focus (((intro w hSw; (try dsimp only at hSw); go_simp) <;> (try with_reducible rfl)); done)); (try simp only [Act.put, p1_, p2_, p3_]))); (refine wpAnyH_done (by kernel_rfl) ?_ _))
            go_wp2_with fail
            go_roundw
            case rel => exact ⟨i + 1, by go_num, by rw [HX.out], by omega, by omega, Kb hO, Ko ho, Kw⟩
            case measure => simp only [intOf]; omega
    · obtain rfl : i = R := by omega
      have hb : -1 ≤ lstK f j t (i - t) ∧ lstK f j t (i - t) ≤ 100 := by
        rcases lstK_cases f j t (i - t) with ⟨e, _⟩ | ⟨p, e, _, h3, _⟩
        · omega
        · omega
      obtain ⟨b1, b2⟩ := hb
      have HL : Hid (lst i f j t = lstK f j t (i - t)) := Lib.hid rfl
      generalize lstK f j t (i - t) = q at *
      go_wp2_with fail
      go_ret
      exact BV.mk (vint HL.out.symm) hbw
set_option maxRecDepth 100000 in
set_option maxHeartbeats 4000000 in
theorem spec_l12Alone (R C t j p : Nat) (A : Option Addr) (n cap : Nat) (f : Fn2) (w : World) {B : Nat} (h : OR w B (.slice A n cap) (tb R C f)) (ht : t ≤ R) (hj : j < C) (hp : p < R) (hC : C ≤ 24) (hR : R ≤ 24) :
    Calls Try.prog 207 #[.agg #[.int .i64 R, .int .i64 C, .slice A n cap], .int .i64 t, .int .i64 j, .int .i64 p] w (BV (.bool (!oth R f j t p)) w) := by
  have HNO := Lib.hid (oth_no (R := R) (f := f) (j := j) (t := t) (p := p))
  have HYES := Lib.hid (fun i h1 h2 h3 h4 => (oth_iff (R := R) (f := f) (j := j) (t := t) (p := p)).2 ⟨i, h1, h2, h3, h4⟩)
  generalize oth R f j t p = res at *
  go_enter Try.func207, Try.ntmps207
  go_wp2_with fail
  go_loopw [9] (fun v wr => ∃ (i : Nat), v = .int .i64 i ∧ t ≤ i ∧ i ≤ R ∧ (∀ k, t ≤ k → k < i → ¬ (k ≠ p ∧ f k j ≠ 0)) ∧ BM wr w.heap.size R C A n cap ∧ OR wr B (.slice A n cap) (tb R C f) ∧ Below w.heap.size w wr) (fun v _ => R - (intOf v).toNat)
  case atStart => exact ⟨t, rfl, Nat.le_refl _, ht, fun k h1 h2 => absurd h1 (by omega), Ka, Ko h, Kw⟩
  case round =>
    clear h
    obtain ⟨i, rfl, hti, hiR, hno, hO, ho, hbw⟩ := hrel
    obtain ⟨oa, ob, oc, of, ol⟩ := hO.mx
    have hsz := hbw.size
    have HN := Lib.hid hno
    clear hno
    by_cases hlt : i < R
    · by_cases hip : i = p
      · have hb : ((i : Int) != (p : Int)) = false := by simp [hip]
        have HS : Hid (∀ k, t ≤ k → k < i + 1 → ¬ (k ≠ p ∧ f k j ≠ 0)) := Lib.hid (fun k h1 h2 => by
          by_cases e : k = i
          · exact fun h3 => h3.1 (e.trans hip)
          · exact HN.out k h1 (by omega))
        clear hip
        go_wp2_with fail
        go_roundw
        case rel => exact ⟨i + 1, by go_num, by omega, by omega, HS.out, Kb hO, Ko ho, Kw⟩
        case measure => simp only [intOf]; omega
      · have hb : ((i : Int) != (p : Int)) = true := by simp; omega
        have HIP := Lib.hid hip
        clear hip
        by_cases hz : f i j = 0
        · have HS : Hid (∀ k, t ≤ k → k < i + 1 → ¬ (k ≠ p ∧ f k j ≠ 0)) := Lib.hid (fun k h1 h2 => by
            by_cases e : k = i
            · exact fun h3 => h3.2 (by rw [e]; exact hz)
            · exact HN.out k h1 (by omega))
          have HZ := Lib.hid hz
          clear hz
          go_wp2_with fail
          (refine (spec_l12Cell_tb R C i j A n cap f (0) HZ.out _ (B := B) (Ko ho) (by omega) (by omega) (by omega) (by omega)).mono ?_; rintro e w1 ⟨rfl, hb1⟩; (have hO_1 : BM w1 w.heap.size R C A n cap := (Kb hO)); (have ho_1 : OR w1 B (.slice A n cap) (tb R C f) := (Ko ho)); (have hbw_1 : Below w.heap.size w w1 := Kw); (have hsz_1 := hbw_1.size); clear hO ho hbw hb1; clear oa ob oc of ol; (have hO := hO_1); (have ho := ho_1); (have hbw := hbw_1); clear hO_1 ho_1 hbw_1; obtain ⟨oa, ob, oc, of, ol⟩ := hO.mx)
          go_wp2_with fail
          go_roundw
          case rel => exact ⟨i + 1, by go_num, by omega, by omega, HS.out, Kb hO, Ko ho, Kw⟩
          case measure => simp only [intOf]; omega
        · have HR := Lib.hid (HYES.out i hti hlt HIP.out hz)
          have hnz : (f i j != 0) = true := by simpa using hz
          clear hz
          generalize hv : f i j = v at *
          have HV := Lib.hid hv
          clear hv
          go_wp2_with fail
          (refine (spec_l12Cell_tb R C i j A n cap f v HV.out _ (B := B) (Ko ho) (by omega) (by omega) (by omega) (by omega)).mono ?_; rintro e w1 ⟨rfl, hb1⟩; (have hO_1 : BM w1 w.heap.size R C A n cap := (Kb hO)); (have ho_1 : OR w1 B (.slice A n cap) (tb R C f) := (Ko ho)); (have hbw_1 : Below w.heap.size w w1 := Kw); (have hsz_1 := hbw_1.size); clear hO ho hbw hb1; clear oa ob oc of ol; (have hO := hO_1); (have ho := ho_1); (have hbw := hbw_1); clear hO_1 ho_1 hbw_1; obtain ⟨oa, ob, oc, of, ol⟩ := hO.mx)
          go_wp2_with fail
          go_ret
          exact BV.mk (vbool (by rw [HR.out]; rfl)) hbw
    · obtain rfl : i = R := by omega
      have HR := Lib.hid (HNO.out HN.out)
      go_wp2_with fail
      go_ret
      exact BV.mk (vbool (by rw [HR.out]; rfl)) hbw
/-- Two own slices written. -/
def WW2 (sv sv2 : Value) (B : Nat) (xs ys : List Int) (w : World) (e : Ending) (w' : World) : Prop := e = .returned (.tuple #[]) ∧ OR w' B sv xs ∧ OR w' B sv2 ys ∧ Below B w w' ∧ ∀ k, k < w.heap.size → some k ≠ sv.ownBlock → some k ≠ sv2.ownBlock → w'.heap[k]? = w.heap[k]?
set_option maxHeartbeats 1000000 in
theorem spec_l12Ops_add (R C i j : Nat) (t : Int) (A : Option Addr) (n cap : Nat) (A2 : Option Addr) (n2 cap2 : Nat) (f g : Fn2) (w : World) {B : Nat} (h1 : OR w B (.slice A n cap) (tb R C f)) (h2 : OR w B (.slice A2 n2 cap2) (tb R R g)) (hap : Apart (.slice A n cap) (.slice A2 n2 cap2)) (hBs : B ≤ w.heap.size) (hi : i < R) (hj : j < R) (hij : i ≠ j) (ht : Num t) (hf : NBF f) (hg : NBF g) (hC0 : 0 < C) (hC : C ≤ 24) (hR : R ≤ 24) :
    Calls Try.prog 209 #[.agg #[.int .i64 R, .int .i64 C, .slice A n cap], .agg #[.int .i64 R, .int .i64 R, .slice A2 n2 cap2], .agg #[.int .i64 2, .int .i64 i, .int .i64 j, .int .i64 t]] w (WW2 (.slice A n cap) (.slice A2 n2 cap2) B (tb R C (opA f i j t)) (tb R R (opA g i j t)) w) := by
  have HIJ := Lib.hid hij
  have HT := Lib.hid ht
  have HF := Lib.hid hf
  have HG := Lib.hid hg
  clear hij ht hf hg
  obtain ⟨ha, hb⟩ : Own (.slice A n cap) B w.heap.size ∧ Own (.slice A2 n2 cap2) B w.heap.size := ⟨h1.own, h2.own⟩
  have HA := Lib.hid ha
  have HB := Lib.hid hb
  have HAP := Lib.hid hap
  have HBs := Lib.hid hBs
  clear ha hb
  go_enter Try.func209, Try.ntmps209
  go_wp2_with fail
  have hM1 : BM ((((w.alloc (.cells #[.int .i64 R, .int .i64 C, .slice A n cap] 26)).alloc (.cells #[.int .i64 R, .int .i64 R, .slice A2 n2 cap2] 26)).alloc (.cells #[.int .i64 2, .int .i64 i, .int .i64 j, .int .i64 t] 66))) (w.heap.size + 1) R R A2 n2 cap2 := Ka
  have hX1 : Blk ((((w.alloc (.cells #[.int .i64 R, .int .i64 C, .slice A n cap] 26)).alloc (.cells #[.int .i64 R, .int .i64 R, .slice A2 n2 cap2] 26)).alloc (.cells #[.int .i64 2, .int .i64 i, .int .i64 j, .int .i64 t] 66))) (w.heap.size + 1 + 1) 66 #[.int .i64 2, .int .i64 i, .int .i64 j, .int .i64 t] := Blk.new_at _ _ _ _ (by simp)
  have hbw1 : Below B w ((((w.alloc (.cells #[.int .i64 R, .int .i64 C, .slice A n cap] 26)).alloc (.cells #[.int .i64 R, .int .i64 R, .slice A2 n2 cap2] 26)).alloc (.cells #[.int .i64 2, .int .i64 i, .int .i64 j, .int .i64 t] 66))) := by
    refine Below.mono (B := w.heap.size) ?_ HBs.out
    (repeat (first | (with_reducible (first | exact Below.refl _ _ | assumption | refine below_drewN ?_ _ | refine Below.drew ?_ | refine Below.alloc ?_ ?_ _ | refine Below.setCell ?_ ?_ _ | refine below_i ?_)) | go_size))
  generalize hw0 : ((((w.alloc (.cells #[.int .i64 R, .int .i64 C, .slice A n cap] 26)).alloc (.cells #[.int .i64 R, .int .i64 R, .slice A2 n2 cap2] 26)).alloc (.cells #[.int .i64 2, .int .i64 i, .int .i64 j, .int .i64 t] 66))) = w0 at hM1 hX1 hbw1
  have hbw0 : Below w.heap.size w w0 := by rw [← hw0]; (repeat (first | (with_reducible (first | exact Below.refl _ _ | assumption | refine below_drewN ?_ _ | refine Below.drew ?_ | refine Below.alloc ?_ ?_ _ | refine Below.setCell ?_ ?_ _ | refine below_i ?_)) | go_size))
  have ho1 : OR w0 B (.slice A n cap) (tb R C f) := by rw [← hw0]; (with_reducible (repeat (first | exact h1 | refine OR.drew ?_ | refine OR.drewN ?_ _ | refine OR.alloc ?_ _ | refine OR.b_ ?_ | refine OR.l_ ?_)))
  have ho2 : OR w0 B (.slice A2 n2 cap2) (tb R R g) := by rw [← hw0]; (with_reducible (repeat (first | exact h2 | refine OR.drew ?_ | refine OR.drewN ?_ _ | refine OR.alloc ?_ _ | refine OR.b_ ?_ | refine OR.l_ ?_)))
  have hs0 : B ≤ w0.heap.size := by rw [← hw0]; simp; have := HBs.out; omega
  refine (spec_l5Do_add R C i j t A n cap f _ (B := B) ho1 hi hj HIJ.out HT.out HF.out hC0 hC hR).mono ?_
  rintro e w1 ⟨rfl, ho1', hg1, hs1⟩
  have hM2 : BM w1 (w.heap.size + 1) R R A2 n2 cap2 := hM1.grown hg1 (fun e => by have := (HA.out _ e.symm).2; omega)
  have hX2 := hX1.grown hg1 (fun e => by have := (HA.out _ e.symm).2; omega)
  have ho2' : OR w1 B (.slice A2 n2 cap2) (tb R R g) := ho2.kept hg1 HAP.out.symm.ne
  have hbw2 : Below B w w1 := hbw1.trans (ho1.below_grown hg1 hs0)
  obtain ⟨ua, ub, uc, uf, ul⟩ := hM2.mx
  have x0 := hX2.cell 0
  have x1 := hX2.cell 1
  have x2 := hX2.cell 2
  have x3 := hX2.cell 3
  simp at x0 x1 x2 x3
  go_wp2_with fail
  refine (spec_l5Do_add R R i j t A2 n2 cap2 g _ (B := B) ho2' hi hj HIJ.out HT.out HG.out (by omega) (by omega) hR).mono ?_
  rintro e w2 ⟨rfl, ho2'', hg2, hs2⟩
  have ho1'' : OR w2 B (.slice A n cap) _ := ho1'.kept hg2 HAP.out.ne
  have hbw3 : Below B w w2 := hbw2.trans (ho2'.below_grown hg2 (by omega))
  go_wp2_with fail
  go_end0
  exact ⟨rfl, ho1'', ho2'', hbw3, fun k hk e1 e2 => (hg2.block k (by have := hg1.size; have := hbw0.size; omega) e2).trans ((hg1.block k (by have := hbw0.size; omega) e1).trans (hbw0.block k hk))⟩
set_option maxHeartbeats 1000000 in
theorem spec_l12Ops_swap (R C i j : Nat) (A : Option Addr) (n cap : Nat) (A2 : Option Addr) (n2 cap2 : Nat) (f g : Fn2) (w : World) {B : Nat} (h1 : OR w B (.slice A n cap) (tb R C f)) (h2 : OR w B (.slice A2 n2 cap2) (tb R R g)) (hap : Apart (.slice A n cap) (.slice A2 n2 cap2)) (hBs : B ≤ w.heap.size) (hi : i < R) (hj : j < R) (hij : i ≠ j) (hC0 : 0 < C) (hC : C ≤ 24) (hR : R ≤ 24) :
    Calls Try.prog 209 #[.agg #[.int .i64 R, .int .i64 C, .slice A n cap], .agg #[.int .i64 R, .int .i64 R, .slice A2 n2 cap2], .agg #[.int .i64 0, .int .i64 i, .int .i64 j, .int .i64 0]] w (WW2 (.slice A n cap) (.slice A2 n2 cap2) B (tb R C (swF f i j)) (tb R R (swF g i j)) w) := by
  have HIJ := Lib.hid hij
  clear hij
  obtain ⟨ha, hb⟩ : Own (.slice A n cap) B w.heap.size ∧ Own (.slice A2 n2 cap2) B w.heap.size := ⟨h1.own, h2.own⟩
  have HA := Lib.hid ha
  have HB := Lib.hid hb
  have HAP := Lib.hid hap
  have HBs := Lib.hid hBs
  clear ha hb
  go_enter Try.func209, Try.ntmps209
  go_wp2_with fail
  have hM1 : BM ((((w.alloc (.cells #[.int .i64 R, .int .i64 C, .slice A n cap] 26)).alloc (.cells #[.int .i64 R, .int .i64 R, .slice A2 n2 cap2] 26)).alloc (.cells #[.int .i64 0, .int .i64 i, .int .i64 j, .int .i64 0] 66))) (w.heap.size + 1) R R A2 n2 cap2 := Ka
  have hX1 : Blk ((((w.alloc (.cells #[.int .i64 R, .int .i64 C, .slice A n cap] 26)).alloc (.cells #[.int .i64 R, .int .i64 R, .slice A2 n2 cap2] 26)).alloc (.cells #[.int .i64 0, .int .i64 i, .int .i64 j, .int .i64 0] 66))) (w.heap.size + 1 + 1) 66 #[.int .i64 0, .int .i64 i, .int .i64 j, .int .i64 0] := Blk.new_at _ _ _ _ (by simp)
  have hbw1 : Below B w ((((w.alloc (.cells #[.int .i64 R, .int .i64 C, .slice A n cap] 26)).alloc (.cells #[.int .i64 R, .int .i64 R, .slice A2 n2 cap2] 26)).alloc (.cells #[.int .i64 0, .int .i64 i, .int .i64 j, .int .i64 0] 66))) := by
    refine Below.mono (B := w.heap.size) ?_ HBs.out
    (repeat (first | (with_reducible (first | exact Below.refl _ _ | assumption | refine below_drewN ?_ _ | refine Below.drew ?_ | refine Below.alloc ?_ ?_ _ | refine Below.setCell ?_ ?_ _ | refine below_i ?_)) | go_size))
  generalize hw0 : ((((w.alloc (.cells #[.int .i64 R, .int .i64 C, .slice A n cap] 26)).alloc (.cells #[.int .i64 R, .int .i64 R, .slice A2 n2 cap2] 26)).alloc (.cells #[.int .i64 0, .int .i64 i, .int .i64 j, .int .i64 0] 66))) = w0 at hM1 hX1 hbw1
  have hbw0 : Below w.heap.size w w0 := by rw [← hw0]; (repeat (first | (with_reducible (first | exact Below.refl _ _ | assumption | refine below_drewN ?_ _ | refine Below.drew ?_ | refine Below.alloc ?_ ?_ _ | refine Below.setCell ?_ ?_ _ | refine below_i ?_)) | go_size))
  have ho1 : OR w0 B (.slice A n cap) (tb R C f) := by rw [← hw0]; (with_reducible (repeat (first | exact h1 | refine OR.drew ?_ | refine OR.drewN ?_ _ | refine OR.alloc ?_ _ | refine OR.b_ ?_ | refine OR.l_ ?_)))
  have ho2 : OR w0 B (.slice A2 n2 cap2) (tb R R g) := by rw [← hw0]; (with_reducible (repeat (first | exact h2 | refine OR.drew ?_ | refine OR.drewN ?_ _ | refine OR.alloc ?_ _ | refine OR.b_ ?_ | refine OR.l_ ?_)))
  have hs0 : B ≤ w0.heap.size := by rw [← hw0]; simp; have := HBs.out; omega
  refine (spec_l5Do_swap R C i j 0 A n cap f _ (B := B) ho1 hi hj HIJ.out hC0 (by omega) hR).mono ?_
  rintro e w1 ⟨rfl, ho1', hg1, hs1⟩
  have hM2 : BM w1 (w.heap.size + 1) R R A2 n2 cap2 := hM1.grown hg1 (fun e => by have := (HA.out _ e.symm).2; omega)
  have hX2 := hX1.grown hg1 (fun e => by have := (HA.out _ e.symm).2; omega)
  have ho2' : OR w1 B (.slice A2 n2 cap2) (tb R R g) := ho2.kept hg1 HAP.out.symm.ne
  have hbw2 : Below B w w1 := hbw1.trans (ho1.below_grown hg1 hs0)
  obtain ⟨ua, ub, uc, uf, ul⟩ := hM2.mx
  have x0 := hX2.cell 0
  have x1 := hX2.cell 1
  have x2 := hX2.cell 2
  have x3 := hX2.cell 3
  simp at x0 x1 x2 x3
  go_wp2_with fail
  refine (spec_l5Do_swap R R i j 0 A2 n2 cap2 g _ (B := B) ho2' hi hj HIJ.out (by omega) (by omega) hR).mono ?_
  rintro e w2 ⟨rfl, ho2'', hg2, hs2⟩
  have ho1'' : OR w2 B (.slice A n cap) _ := ho1'.kept hg2 HAP.out.ne
  have hbw3 : Below B w w2 := hbw2.trans (ho2'.below_grown hg2 (by omega))
  go_wp2_with fail
  go_end0
  exact ⟨rfl, ho1'', ho2'', hbw3, fun k hk e1 e2 => (hg2.block k (by have := hg1.size; have := hbw0.size; omega) e2).trans ((hg1.block k (by have := hbw0.size; omega) e1).trans (hbw0.block k hk))⟩
set_option maxHeartbeats 1000000 in
theorem spec_l12Ops_neg (R C i : Nat) (A : Option Addr) (n cap : Nat) (A2 : Option Addr) (n2 cap2 : Nat) (f g : Fn2) (w : World) {B : Nat} (h1 : OR w B (.slice A n cap) (tb R C f)) (h2 : OR w B (.slice A2 n2 cap2) (tb R R g)) (hap : Apart (.slice A n cap) (.slice A2 n2 cap2)) (hBs : B ≤ w.heap.size) (hi : i < R) (hf : OKF R C f) (hg : OKF R R g) (hC0 : 0 < C) (hC : C ≤ 24) (hR : R ≤ 24) :
    Calls Try.prog 209 #[.agg #[.int .i64 R, .int .i64 C, .slice A n cap], .agg #[.int .i64 R, .int .i64 R, .slice A2 n2 cap2], .agg #[.int .i64 1, .int .i64 i, .int .i64 i, .int .i64 0]] w (WW2 (.slice A n cap) (.slice A2 n2 cap2) B (tb R C (opM f i)) (tb R R (opM g i)) w) := by
  have HF := Lib.hid hf
  have HG := Lib.hid hg
  rw [← opM_eq hf i hi, ← opM_eq hg i hi]
  clear hf hg
  obtain ⟨ha, hb⟩ : Own (.slice A n cap) B w.heap.size ∧ Own (.slice A2 n2 cap2) B w.heap.size := ⟨h1.own, h2.own⟩
  have HA := Lib.hid ha
  have HB := Lib.hid hb
  have HAP := Lib.hid hap
  have HBs := Lib.hid hBs
  clear ha hb
  go_enter Try.func209, Try.ntmps209
  go_wp2_with fail
  have hM1 : BM ((((w.alloc (.cells #[.int .i64 R, .int .i64 C, .slice A n cap] 26)).alloc (.cells #[.int .i64 R, .int .i64 R, .slice A2 n2 cap2] 26)).alloc (.cells #[.int .i64 1, .int .i64 i, .int .i64 i, .int .i64 0] 66))) (w.heap.size + 1) R R A2 n2 cap2 := Ka
  have hX1 : Blk ((((w.alloc (.cells #[.int .i64 R, .int .i64 C, .slice A n cap] 26)).alloc (.cells #[.int .i64 R, .int .i64 R, .slice A2 n2 cap2] 26)).alloc (.cells #[.int .i64 1, .int .i64 i, .int .i64 i, .int .i64 0] 66))) (w.heap.size + 1 + 1) 66 #[.int .i64 1, .int .i64 i, .int .i64 i, .int .i64 0] := Blk.new_at _ _ _ _ (by simp)
  have hbw1 : Below B w ((((w.alloc (.cells #[.int .i64 R, .int .i64 C, .slice A n cap] 26)).alloc (.cells #[.int .i64 R, .int .i64 R, .slice A2 n2 cap2] 26)).alloc (.cells #[.int .i64 1, .int .i64 i, .int .i64 i, .int .i64 0] 66))) := by
    refine Below.mono (B := w.heap.size) ?_ HBs.out
    (repeat (first | (with_reducible (first | exact Below.refl _ _ | assumption | refine below_drewN ?_ _ | refine Below.drew ?_ | refine Below.alloc ?_ ?_ _ | refine Below.setCell ?_ ?_ _ | refine below_i ?_)) | go_size))
  generalize hw0 : ((((w.alloc (.cells #[.int .i64 R, .int .i64 C, .slice A n cap] 26)).alloc (.cells #[.int .i64 R, .int .i64 R, .slice A2 n2 cap2] 26)).alloc (.cells #[.int .i64 1, .int .i64 i, .int .i64 i, .int .i64 0] 66))) = w0 at hM1 hX1 hbw1
  have hbw0 : Below w.heap.size w w0 := by rw [← hw0]; (repeat (first | (with_reducible (first | exact Below.refl _ _ | assumption | refine below_drewN ?_ _ | refine Below.drew ?_ | refine Below.alloc ?_ ?_ _ | refine Below.setCell ?_ ?_ _ | refine below_i ?_)) | go_size))
  have ho1 : OR w0 B (.slice A n cap) (tb R C f) := by rw [← hw0]; (with_reducible (repeat (first | exact h1 | refine OR.drew ?_ | refine OR.drewN ?_ _ | refine OR.alloc ?_ _ | refine OR.b_ ?_ | refine OR.l_ ?_)))
  have ho2 : OR w0 B (.slice A2 n2 cap2) (tb R R g) := by rw [← hw0]; (with_reducible (repeat (first | exact h2 | refine OR.drew ?_ | refine OR.drewN ?_ _ | refine OR.alloc ?_ _ | refine OR.b_ ?_ | refine OR.l_ ?_)))
  have hs0 : B ≤ w0.heap.size := by rw [← hw0]; simp; have := HBs.out; omega
  refine (spec_l5Do_neg R C i 0 A n cap f _ (B := B) ho1 hi (fun k hk => HF.out i k hi hk) hC0 hC hR).mono ?_
  rintro e w1 ⟨rfl, ho1', hg1, hs1⟩
  have hM2 : BM w1 (w.heap.size + 1) R R A2 n2 cap2 := hM1.grown hg1 (fun e => by have := (HA.out _ e.symm).2; omega)
  have hX2 := hX1.grown hg1 (fun e => by have := (HA.out _ e.symm).2; omega)
  have ho2' : OR w1 B (.slice A2 n2 cap2) (tb R R g) := ho2.kept hg1 HAP.out.symm.ne
  have hbw2 : Below B w w1 := hbw1.trans (ho1.below_grown hg1 hs0)
  obtain ⟨ua, ub, uc, uf, ul⟩ := hM2.mx
  have x0 := hX2.cell 0
  have x1 := hX2.cell 1
  have x2 := hX2.cell 2
  have x3 := hX2.cell 3
  simp at x0 x1 x2 x3
  go_wp2_with fail
  refine (spec_l5Do_neg R R i 0 A2 n2 cap2 g _ (B := B) ho2' hi (fun k hk => HG.out i k hi hk) (by omega) (by omega) hR).mono ?_
  rintro e w2 ⟨rfl, ho2'', hg2, hs2⟩
  have ho1'' : OR w2 B (.slice A n cap) _ := ho1'.kept hg2 HAP.out.ne
  have hbw3 : Below B w w2 := hbw2.trans (ho2'.below_grown hg2 (by omega))
  go_wp2_with fail
  go_end0
  exact ⟨rfl, ho1'', ho2'', hbw3, fun k hk e1 e2 => (hg2.block k (by have := hg1.size; have := hbw0.size; omega) e2).trans ((hg1.block k (by have := hbw0.size; omega) e1).trans (hbw0.block k hk))⟩
end Go.Proofs.Ytacjonkehcamgaa

/-
  DERIVED. l13Least of the reference.
-/
namespace Go.Proofs.Ytacjonkehcamgaa
open Go.RowKit
set_option linter.unusedVariables false
set_option linter.unusedSimpArgs false
/-- Two numbers. -/
def P2 (o : Int × Int) (w : World) (e : Ending) (w' : World) : Prop := e = .returned (.tuple #[.int .i64 o.1, .int .i64 o.2]) ∧ Below w.heap.size w w'
set_option maxRecDepth 100000 in
set_option maxHeartbeats 4000000 in
theorem spec_l13Least (R C t : Nat) (A : Option Addr) (n cap : Nat) (f : Fn2) (w : World) {B : Nat} (h : OR w B (.slice A n cap) (tb R C f)) (ht : t ≤ R) (htC : t ≤ C) (hf : OKF R C f) (hC : C ≤ 24) (hR : R ≤ 24) :
    Calls Try.prog 216 #[.agg #[.int .i64 R, .int .i64 C, .slice A n cap], .int .i64 t] w (P2 (ls2 R C f t) w) := by
  have HF := Lib.hid hf
  clear hf
  go_enter Try.func216, Try.ntmps216
  go_wp2_with fail
  go_loopw [6, 7, 8] (fun u v x wr => ∃ (i : Nat) (o : Int × Int), x = .int .i64 i ∧ lsO f t (C - t) (i - t) = o ∧ u = .int .i64 o.1 ∧ v = .int .i64 o.2 ∧ t ≤ i ∧ i ≤ R ∧ BM wr w.heap.size R C A n cap ∧ OR wr B (.slice A n cap) (tb R C f) ∧ Below w.heap.size w wr) (fun _ _ x _ => R - (intOf x).toNat)
  case atStart => exact ⟨t, (-1, -1), rfl, by rw [Nat.sub_self]; rfl, rfl, rfl, Nat.le_refl _, ht, Ka, Ko h, Kw⟩
  case round =>
    clear h
    obtain ⟨i, o, rfl, hO', rfl, rfl, hti, hiR, hO, ho, hbw⟩ := hrel
    obtain ⟨oa, ob, oc, of, ol⟩ := hO.mx
    have hsz := hbw.size
    by_cases hlt : i < R
    · have HO0 : Hid (lsI f i t (lsO f t (C - t) (i - t)) (t - t) = o) := Lib.hid (by rw [Nat.sub_self]; exact hO')
      clear hO'
      go_wp2_with fail
      obtain ⟨wo2, rfl⟩ : ∃ wo : World, wo = wr := ⟨_, rfl⟩
      go_loopw [6, 7, 9] (fun u v x wr => ∃ (j : Nat) (o : Int × Int), x = .int .i64 j ∧ lsI f i t (lsO f t (C - t) (i - t)) (j - t) = o ∧ u = .int .i64 o.1 ∧ v = .int .i64 o.2 ∧ t ≤ j ∧ j ≤ C ∧ BM wr w.heap.size R C A n cap ∧ OR wr B (.slice A n cap) (tb R C f) ∧ Below w.heap.size w wr) (fun _ _ x _ => C - (intOf x).toNat)
      case atStart => exact ⟨t, o, rfl, HO0.out, rfl, rfl, Nat.le_refl _, htC, hO, ho, hbw⟩
      case round =>
        clear oa ob oc of ol
        clear hO ho hbw HO0 hsz
        obtain ⟨j, o2, rfl, hO', rfl, rfl, htj, hjC, hO, ho, hbw⟩ := hrel
        obtain ⟨oa, ob, oc, of, ol⟩ := hO.mx
        have hsz := hbw.size
        by_cases hjl : j < C
        · have hn := HF.out i j hlt hjl
          have hx := lsI_next (f := f) (i := i) (st := lsO f t (C - t) (i - t)) htj
          have hcs := lsI_form (f := f) (C := C) hti hlt htj (Nat.le_of_lt hjl)
          rw [hO'] at hx hcs
          by_cases hz : f i j = 0
          · rw [if_neg (by simp [hz])] at hx
            have HX := Lib.hid hx
            have hnz : ((((f i j).natAbs : Nat) : Int) != 0) = false := by simp [hz]
            obtain ⟨y1, y2⟩ := hn
            have hb : -1 ≤ o2.1 ∧ o2.1 ≤ 100 := by
              rcases hcs with rfl | ⟨p, q, rfl, h3, _⟩
              · decide
              · dsimp only; omega
            obtain ⟨b1, b2⟩ := hb
            clear hx hz hcs hO'
            generalize hv : f i j = v at *
            have HV := Lib.hid hv
            clear hv
            go_wp2_with fail
            (refine (spec_l12Cell_tb R C i j A n cap f v HV.out _ (B := B) (Ko ho) (by omega) (by omega) (by omega) (by omega)).mono ?_; rintro e w1 ⟨rfl, hb1⟩; (have hO_1 : BM w1 w.heap.size R C A n cap := (Kb hO)); (have ho_1 : OR w1 B (.slice A n cap) (tb R C f) := (Ko ho)); (have hbw_1 : Below w.heap.size w w1 := Kw); (have hsz_1 := hbw_1.size); clear hO ho hbw hb1; clear oa ob oc of ol; (have hO := hO_1); (have ho := ho_1); (have hbw := hbw_1); clear hO_1 ho_1 hbw_1; obtain ⟨oa, ob, oc, of, ol⟩ := hO.mx)
            go_wp2_with (go_at_call 224; refine (spec_l1Abs _ _ (by omega) (by omega)).mono ?_; rintro e w' ⟨rfl, rfl⟩)
            go_wp2_with fail
            go_roundw
            case rel => exact ⟨j + 1, _, by go_num, HX.out, rfl, rfl, by omega, by omega, Kb hO, Ko ho, Kw⟩
            case measure => simp only [intOf]; omega
          · rcases hcs with rfl | ⟨p, q, rfl, hpR, hqC, hpq⟩
            · rw [if_pos ⟨hz, .inl (by decide)⟩] at hx
              have HX := Lib.hid hx
              obtain ⟨y1, y2⟩ := hn
              have hnz : ((((f i j).natAbs : Nat) : Int) != 0) = true := by simp; omega
              clear hx hz hO'
              generalize hv : f i j = v at *
              have HV := Lib.hid hv
              clear hv
              go_wp2_with fail
              (refine (spec_l12Cell_tb R C i j A n cap f v HV.out _ (B := B) (Ko ho) (by omega) (by omega) (by omega) (by omega)).mono ?_; rintro e w1 ⟨rfl, hb1⟩; (have hO_1 : BM w1 w.heap.size R C A n cap := (Kb hO)); (have ho_1 : OR w1 B (.slice A n cap) (tb R C f) := (Ko ho)); (have hbw_1 : Below w.heap.size w w1 := Kw); (have hsz_1 := hbw_1.size); clear hO ho hbw hb1; clear oa ob oc of ol; (have hO := hO_1); (have ho := ho_1); (have hbw := hbw_1); clear hO_1 ho_1 hbw_1; obtain ⟨oa, ob, oc, of, ol⟩ := hO.mx)
              go_wp2_with (go_at_call 224; refine (spec_l1Abs _ _ (by omega) (by omega)).mono ?_; rintro e w' ⟨rfl, rfl⟩)
              go_wp2_with fail
              go_roundw
              case rel => exact ⟨j + 1, _, by go_num, HX.out, rfl, rfl, by omega, by omega, Kb hO, Ko ho, Kw⟩
              case measure => simp only [intOf]; omega
            · simp only [Int.toNat_natCast] at hx
              have hnp := HF.out p q hpR hqC
              obtain ⟨y1, y2⟩ := hn
              obtain ⟨y3, y4⟩ := hnp
              have hnz : ((((f i j).natAbs : Nat) : Int) != 0) = true := by simp; omega
              by_cases hc : (f i j).natAbs < (f p q).natAbs
              · rw [if_pos ⟨hz, .inr hc⟩] at hx
                have HX := Lib.hid hx
                clear hx hz hO' hpq
                generalize hv : f i j = v at *
                generalize hv2 : f p q = v2 at *
                have HV := Lib.hid hv
                have HV2 := Lib.hid hv2
                clear hv hv2
                go_wp2_with fail
                (refine (spec_l12Cell_tb R C i j A n cap f v HV.out _ (B := B) (Ko ho) (by omega) (by omega) (by omega) (by omega)).mono ?_; rintro e w1 ⟨rfl, hb1⟩; (have hO_1 : BM w1 w.heap.size R C A n cap := (Kb hO)); (have ho_1 : OR w1 B (.slice A n cap) (tb R C f) := (Ko ho)); (have hbw_1 : Below w.heap.size w w1 := Kw); (have hsz_1 := hbw_1.size); clear hO ho hbw hb1; clear oa ob oc of ol; (have hO := hO_1); (have ho := ho_1); (have hbw := hbw_1); clear hO_1 ho_1 hbw_1; obtain ⟨oa, ob, oc, of, ol⟩ := hO.mx)
                go_wp2_with (go_at_call 224; refine (spec_l1Abs _ _ (by omega) (by omega)).mono ?_; rintro e w' ⟨rfl, rfl⟩)
                (refine (spec_l12Cell_tb R C p q A n cap f v2 HV2.out _ (B := B) (Ko ho) (by omega) (by omega) (by omega) (by omega)).mono ?_; rintro e w1 ⟨rfl, hb1⟩; (have hO_1 : BM w1 w.heap.size R C A n cap := (Kb hO)); (have ho_1 : OR w1 B (.slice A n cap) (tb R C f) := (Ko ho)); (have hbw_1 : Below w.heap.size w w1 := Kw); (have hsz_1 := hbw_1.size); clear hO ho hbw hb1; clear oa ob oc of ol; (have hO := hO_1); (have ho := ho_1); (have hbw := hbw_1); clear hO_1 ho_1 hbw_1; obtain ⟨oa, ob, oc, of, ol⟩ := hO.mx)
                go_wp2_with (go_at_call 224; refine (spec_l1Abs _ _ (by omega) (by omega)).mono ?_; rintro e w' ⟨rfl, rfl⟩)
                go_wp2_with fail
                go_roundw
                case rel => exact ⟨j + 1, _, by go_num, HX.out, rfl, rfl, by omega, by omega, Kb hO, Ko ho, Kw⟩
                case measure => simp only [intOf]; omega
              · rw [if_neg (by rintro ⟨_, h5⟩; omega)] at hx
                have HX := Lib.hid hx
                clear hx hz hO' hpq
                generalize hv : f i j = v at *
                generalize hv2 : f p q = v2 at *
                have HV := Lib.hid hv
                have HV2 := Lib.hid hv2
                clear hv hv2
                go_wp2_with fail
                (refine (spec_l12Cell_tb R C i j A n cap f v HV.out _ (B := B) (Ko ho) (by omega) (by omega) (by omega) (by omega)).mono ?_; rintro e w1 ⟨rfl, hb1⟩; (have hO_1 : BM w1 w.heap.size R C A n cap := (Kb hO)); (have ho_1 : OR w1 B (.slice A n cap) (tb R C f) := (Ko ho)); (have hbw_1 : Below w.heap.size w w1 := Kw); (have hsz_1 := hbw_1.size); clear hO ho hbw hb1; clear oa ob oc of ol; (have hO := hO_1); (have ho := ho_1); (have hbw := hbw_1); clear hO_1 ho_1 hbw_1; obtain ⟨oa, ob, oc, of, ol⟩ := hO.mx)
                go_wp2_with (go_at_call 224; refine (spec_l1Abs _ _ (by omega) (by omega)).mono ?_; rintro e w' ⟨rfl, rfl⟩)
                (refine (spec_l12Cell_tb R C p q A n cap f v2 HV2.out _ (B := B) (Ko ho) (by omega) (by omega) (by omega) (by omega)).mono ?_; rintro e w1 ⟨rfl, hb1⟩; (have hO_1 : BM w1 w.heap.size R C A n cap := (Kb hO)); (have ho_1 : OR w1 B (.slice A n cap) (tb R C f) := (Ko ho)); (have hbw_1 : Below w.heap.size w w1 := Kw); (have hsz_1 := hbw_1.size); clear hO ho hbw hb1; clear oa ob oc of ol; (have hO := hO_1); (have ho := ho_1); (have hbw := hbw_1); clear hO_1 ho_1 hbw_1; obtain ⟨oa, ob, oc, of, ol⟩ := hO.mx)
                go_wp2_with (go_at_call 224; refine (spec_l1Abs _ _ (by omega) (by omega)).mono ?_; rintro e w' ⟨rfl, rfl⟩)
                go_wp2_with fail
                go_roundw
                case rel => exact ⟨j + 1, _, by go_num, HX.out, rfl, rfl, by omega, by omega, Kb hO, Ko ho, Kw⟩
                case measure => simp only [intOf]; omega
        · obtain rfl : j = C := by omega
          have HX : Hid (lsO f t (j - t) (i + 1 - t) = o2) := Lib.hid (by rw [lsO_next hti]; exact hO')
          clear hO'
          go_wp2_with fail
          go_roundw
          case rel => exact ⟨i + 1, o2, by go_num, HX.out, rfl, rfl, by omega, by omega, hO, ho, hbw⟩
          case measure => simp only [intOf]; omega
    · obtain rfl : i = R := by omega
      have HX : Hid (ls2 i C f t = o) := Lib.hid hO'
      have hb : -1 ≤ o.1 ∧ o.1 ≤ 100 := by
        rcases ls2_cases i C f t with ⟨e, _⟩ | ⟨p, q, e, h3, _⟩
        · rw [← HX.out, e]; decide
        · rw [← HX.out, e]; dsimp only; omega
      clear hO'
      go_wp2_with fail
      go_ret2
      rw [HX.out]
      exact ⟨rfl, Kw⟩
end Go.Proofs.Ytacjonkehcamgaa

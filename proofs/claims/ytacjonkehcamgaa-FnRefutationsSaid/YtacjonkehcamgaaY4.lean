/-
  DERIVED. Several small texts in one: Sm1, Rap, MkR, Sm2, Least, RatA, LeastS, Ls2S, SumW, RefI.
-/
import Derived.Test.YtacjonkehcamgaaY2
import Derived.Test.YtacjonkehcamgaaY3
import Derived.Test.YtacjonkehcamgaaY1
/-
  DERIVED. Operations on columns in a work.
-/
namespace Go.Proofs.Ytacjonkehcamgaa
open Go.RowKit
set_option linter.unusedVariables false
set_option linter.unusedSimpArgs false
theorem isMat_tbO {R C : Nat} {f : Fn2} (h : OKF R C f) (hR : R ≤ 24) (hC : C ≤ 24) : isMat (R : Int) (C : Int) (tb R C f) = true := by
  refine isMat_iff.2 ⟨by omega, by omega, by omega, by omega, by rw [tb_len, Int.natCast_mul], ?_⟩
  rw [List.all_eq_true]
  exact tb_mem (P := fun x => isNum x = true) fun i j hi hj => (h i j hi hj).isN
theorem impl_Transpose_tb (R C : Nat) (A : Option Addr) (n cap : Nat) (f : Fn2) (w : World) {B : Nat} (h : RI w B A n (tb R C f)) (hB : B ≤ w.heap.size) (hf : OKF R C f) (hR : R ≤ 24) (hC : C ≤ 24) :
    Calls Try.prog 63 #[.agg #[.int .i64 R, .int .i64 C, .slice A n cap]] w (MBR ⟨C, R, tb C R (tp f)⟩ true w) := by
  have hl := h.len
  rw [tb_len] at hl
  have h2 := impl_TransposeOf R C A n cap (tb R C f) w h hB (by have := Nat.mul_le_mul hR hC; omega)
  have hv : trM (R : Int) (C : Int) (tb R C f) = ⟨C, R, tb C R (tp f)⟩ := by
    unfold trM
    rw [isMat_tbO hf hR hC]
    simp only [if_true, Int.toNat_natCast]
    congr 1
    exact tb_ext fun a b ha hb => cel_tb hb ha
  rw [hv, isMat_tbO hf hR hC] at h2
  exact h2
section
variable {w w' w2 : World} {B b R C n cap n2 cap2 n3 cap3 m k : Nat} {f g h : Fn2} {bd : Bool} {A A2 A3 M : Option Addr}
theorem WB.putM {f' : Fn2} (k5 : WB w B b R C f g h bd A n cap A2 n2 cap2 A3 n3 cap3) (hb : Below w.heap.size w w') (ho : OR w' w.heap.size (.slice M m k) (tb R C f')) :
    WB (((w'.setCell ⟨b, 0, none⟩ (.int .i64 R)).setCell ⟨b, 1, none⟩ (.int .i64 C)).setCell ⟨b, 2, none⟩ (.slice M m k)) B b R C f' g h bd M m k A2 n2 cap2 A3 n3 cap3 := by
  have k6 := k5.below hb (Nat.le_refl _)
  have hlt := k5.lt
  have hBb := k5.hb
  have hme : (Value.slice M m k).ownBlock ≠ some b := fun e => by have := (ho.own _ e).1; omega
  have ho2 := ho.mono (B' := B) (by omega)
  refine ⟨(((k6.blk.set_ 0 _).set_ 1 _).set_ 2 _).as rfl, k5.hb, ((ho2.far hme _).far hme _).far hme _, ((k6.l.far k6.lb _).far k6.lb _).far k6.lb _, ((k6.r.far k6.rb _).far k6.rb _).far k6.rb _, fun g h1 h2 => ?_, fun g h1 h2 => ?_, k6.lr, hme, k6.lb, k6.rb⟩
  · have := (ho.own _ h1).1; have := (k5.l.own _ h2).2; omega
  · have := (ho.own _ h1).1; have := (k5.r.own _ h2).2; omega
theorem WB.putR {h' : Fn2} (k5 : WB w B b R C f g h bd A n cap A2 n2 cap2 A3 n3 cap3) (hb : Below w.heap.size w w') (ho : OR w' w.heap.size (.slice M m k) (tb C C h')) :
    WB (((w'.setCell ⟨b, 6, none⟩ (.int .i64 C)).setCell ⟨b, 7, none⟩ (.int .i64 C)).setCell ⟨b, 8, none⟩ (.slice M m k)) B b R C f g h' bd A n cap A2 n2 cap2 M m k := by
  have k6 := k5.below hb (Nat.le_refl _)
  have hlt := k5.lt
  have hBb := k5.hb
  have hme : (Value.slice M m k).ownBlock ≠ some b := fun e => by have := (ho.own _ e).1; omega
  have ho2 := ho.mono (B' := B) (by omega)
  refine ⟨(((k6.blk.set_ 6 _).set_ 7 _).set_ 8 _).as rfl, k5.hb, ((k6.m.far k6.mb _).far k6.mb _).far k6.mb _, ((k6.l.far k6.lb _).far k6.lb _).far k6.lb _, ((ho2.far hme _).far hme _).far hme _, k6.ml, fun g h1 h2 => ?_, fun g h1 h2 => ?_, k6.mb, k6.lb, hme⟩
  · have := (ho.own _ h2).1; have := (k5.m.own _ h1).2; omega
  · have := (ho.own _ h2).1; have := (k5.l.own _ h1).2; omega
theorem below_put3 {b0 b1 b2 : Nat} {u0 u1 u2 : Value} (h : Below B w2 w') (hb : B ≤ b) : Below B w2 (((w'.setCell ⟨b, b0, none⟩ u0).setCell ⟨b, b1, none⟩ u1).setCell ⟨b, b2, none⟩ u2) :=
  ((h.trans (below_set_at hb)).trans (below_set_at hb)).trans (below_set_at hb)
end
/-- A sum of columns as it goes in both. -/
def okC (R C : Nat) (f h : Fn2) (i j : Nat) (t : Int) : Prop := OKF C R (opA (tp f) i j t) ∧ OKF C C (opA (tp h) i j t)
def CWA (B b R C : Nat) (f g h : Fn2) (i j : Nat) (t : Int) (w : World) (e : Ending) (w' : World) : Prop :=
  e = .returned (.tuple #[]) ∧ Below B w w' ∧ ((okC R C f h i j t ∧ WK w' B b R C (tp (opA (tp f) i j t)) g (tp (opA (tp h) i j t)) false) ∨ (¬ okC R C f h i j t ∧ ∃ f' g' h', WK w' B b R C f' g' h' true))
set_option maxRecDepth 100000 in
set_option maxHeartbeats 8000000 in
theorem impl_cols_swap (B b R C i j : Nat) (f g h : Fn2) (w : World) (hK : WK w B b R C f g h false) (hi : i < C) (hj : j < C) (hij : i ≠ j) (hf : OKF R C f) (hh : OKF C C h) (hR0 : 0 < R) (hC : C ≤ 24) (hR : R ≤ 24) :
    Calls Try.prog 215 #[.pointer (some ⟨b, 0, none⟩), .agg #[.int .i64 0, .int .i64 i, .int .i64 j, .int .i64 0]] w (RWD B b R C (tp (swF (tp f) i j)) g (tp (swF (tp h) i j)) w) := by
  obtain ⟨A, n, cap, A2, n2, cap2, A3, n3, cap3, hWw⟩ := hK
  have hBb := hWw.hb
  have hbl := hWw.lt
  have HIJ := Lib.hid hij
  have HF := Lib.hid hf
  have HH := Lib.hid hh
  clear hij hf hh
  go_enter Try.func215, Try.ntmps215
  go_wp2_with fail
  obtain ⟨xs, HXS⟩ : ∃ v : Array Value, Hid (v = #[.int .i64 0, .int .i64 i, .int .i64 j, .int .i64 0]) := ⟨_, Lib.hid rfl⟩
  obtain ⟨xb, hxb0⟩ : ∃ q, q = w.heap.size := ⟨_, rfl⟩
  have hX : Blk (w.alloc (.cells #[.int .i64 0, .int .i64 i, .int .i64 j, .int .i64 0] 66)) xb 66 #[.int .i64 0, .int .i64 i, .int .i64 j, .int .i64 0] := by rw [hxb0]; exact Blk.new _ _ _
  have hW := hWw.alloc (.cells #[.int .i64 0, .int .i64 i, .int .i64 j, .int .i64 0] 66)
  have HBW : Hid (Below B w (w.alloc (.cells #[.int .i64 0, .int .i64 i, .int .i64 j, .int .i64 0] 66))) := Lib.hid (Below.mono (B := w.heap.size) Kw (by omega))
  have hbe : ¬ b = xb := by omega
  have hbe2 : ¬ xb = b := by omega
  have hxw : xb < (w.alloc (.cells #[.int .i64 0, .int .i64 i, .int .i64 j, .int .i64 0] 66)).heap.size := by simp; omega
  rw [← hxb0]
  generalize w.alloc (.cells #[.int .i64 0, .int .i64 i, .int .i64 j, .int .i64 0] 66) = w0 at *
  have hxb := hxw
  clear hxb0 hWw hxw
  have HW0 := Lib.hid hW
  have HX0 : Hid (Blk w0 xb 66 xs) := Lib.hid (by rw [HXS.out]; exact hX)
  have hBw : B ≤ w0.heap.size := by have := hW.lt; omega
  have hbd : Below w0.heap.size w0 w0 := Below.refl _ _
  obtain ⟨c0, c1, c2, c3, c4, c5, c6, c7, c8, c9, cf, cl⟩ := hW.cells; have x0 := hX.cell 0; have x1 := hX.cell 1; have x2 := hX.cell 2; have x3 := hX.cell 3; simp at x0 x1 x2 x3
  ((refine wp_region_held_drew (S := (fun w' => w'.cell? ⟨b, 1, none⟩ = some (.int .i64 C) ∧ w'.cell? ⟨b, 9, none⟩ = some (.bool false) ∧ w'.cell? ⟨xb, 0, none⟩ = some (.int .i64 0) ∧ w'.cell? ⟨xb, 1, none⟩ = some (.int .i64 i) ∧ w'.cell? ⟨xb, 2, none⟩ = some (.int .i64 j) ∧ w'.cell? ⟨xb, 3, none⟩ = some (.int .i64 (0)))) (by kernel_rfl) ?_ (fun hHeld => ?_)); ((focus ((try dsimp only); (go_keep)))); ((refine tk_ (i := 0) (v := ?_) (y := Or.inl ⟨by rfl, ?_⟩) (h := ?_); rotate_left; (focus (((intro w hSw; (try dsimp only at hSw); go_simp) <;> (try with_reducible rfl)); done)); (try simp only [Act.put, p1_, p2_, p3_]))); ((refine tk_ (i := 1) (v := ?_) (y := Or.inl ⟨by rfl, ?_⟩) (h := ?_); rotate_left; (focus (((intro w hSw; (try dsimp only at hSw); go_simp) <;> (try with_reducible rfl)); done)); (try simp only [Act.put, p1_, p2_, p3_]))); ((refine tk_ (i := 2) (v := ?_) (y := Or.inl ⟨by rfl, ?_⟩) (h := ?_); rotate_left; (focus (((intro w hSw; (try dsimp only at hSw); go_simp) <;> (try with_reducible rfl)); done)); (try simp only [Act.put, p1_, p2_, p3_]))); ((refine tk_ (i := 3) (v := ?_) (y := Or.inl ⟨by rfl, ?_⟩) (h := ?_); rotate_left; (focus (((intro w hSw; (try dsimp only at hSw); go_simp) <;> (try with_reducible rfl)); done)); (try simp only [Act.put, p1_, p2_, p3_]))); ((refine tk_ (i := 4) (v := ?_) (y := Or.inl ⟨by rfl, ?_⟩) (h := ?_); rotate_left; (focus (((intro w hSw; (try dsimp only at hSw); go_simp) <;> (try with_reducible rfl)); done)); (try simp only [Act.put, p1_, p2_, p3_]))); ((refine tk_ (i := 5) (v := ?_) (y := Or.inl ⟨by rfl, ?_⟩) (h := ?_); rotate_left; (focus (((intro w hSw; (try dsimp only at hSw); go_simp) <;> (try with_reducible rfl)); done)); (try simp only [Act.put, p1_, p2_, p3_]))); ((refine tk_ (i := 6) (v := ?_) (y := Or.inl ⟨by rfl, ?_⟩) (h := ?_); rotate_left; (focus (((intro w hSw; (try dsimp only at hSw); go_simp) <;> (try with_reducible rfl)); done)); (try simp only [Act.put, p1_, p2_, p3_]))); ((refine tk_ (i := 7) (v := ?_) (y := Or.inl ⟨by rfl, ?_⟩) (h := ?_); rotate_left; (focus (((intro w hSw; (try dsimp only at hSw); go_simp) <;> (try with_reducible rfl)); done)); (try simp only [Act.put, p1_, p2_, p3_]))); ((refine tk_ (i := 8) (v := ?_) (y := Or.inl ⟨by rfl, ?_⟩) (h := ?_); rotate_left; (focus (((intro w hSw; (try dsimp only at hSw); go_simp) <;> (try with_reducible rfl)); done)); (try simp only [Act.put, p1_, p2_, p3_]))); ((refine tk_ (i := 9) (v := ?_) (y := Or.inl ⟨by rfl, ?_⟩) (h := ?_); rotate_left; (focus (((intro w hSw; (try dsimp only at hSw); go_simp) <;> (try with_reducible rfl)); done)); (try simp only [Act.put, p1_, p2_, p3_]))); ((refine tk_ (i := 10) (v := ?_) (y := Or.inl ⟨by rfl, ?_⟩) (h := ?_); rotate_left; (focus (((intro w hSw; (try dsimp only at hSw); go_simp) <;> (try with_reducible rfl)); done)); (try simp only [Act.put, p1_, p2_, p3_]))); ((refine wpAnyH_ready (rs := [11]) (by kernel_rfl) (by simp) ?_; refine AllReadyH.cons (by simp only [e1_, e2_, e3_]; try rfl) (fun K hK => ?_) AllReadyH.nil; go_simp; (go_at_call 142; refine (impl_IsRowOp_swap C i j _ hi hj HIJ.out hC).mono ?_; rintro e w1 ⟨rfl, hb1⟩; (have hsz := hb1.size); (try simp at hsz); (have hsd := hbd.size); (have hbd_1 : Below w0.heap.size w0 w1 := Kw); (have hW_1 : WB w1 B b R C f g h false A n cap A2 n2 cap2 A3 n3 cap3 := HW0.out.below hbd_1 (Nat.le_refl _)); (have hX_1 : Blk w1 xb 66 xs := HX0.out.below hbd_1 hxb); clear c0 c1 c2 c3 c4 c5 c6 c7 c8 c9 cf cl x0 x1 x2 x3; clear hW hX hbd; (have hW := hW_1); (have hX := hX_1); (have hbd := hbd_1); clear hW_1 hX_1 hbd_1; rw [HXS.out] at hX; obtain ⟨c0, c1, c2, c3, c4, c5, c6, c7, c8, c9, cf, cl⟩ := hW.cells; have x0 := hX.cell 0; have x1 := hX.cell 1; have x2 := hX.cell 2; have x3 := hX.cell 3; simp at x0 x1 x2 x3); (try go_wp2_with fail); refine hK.out _ _ ?_ (fun hHeld => ?_); (focus ((try dsimp only); (go_keep))); clear hK K; (try simp only [Act.put, p1_, p2_, p3_]))); ((refine tk_ (i := 12) (v := ?_) (y := Or.inl ⟨by rfl, ?_⟩) (h := ?_); rotate_left; (focus (((intro w hSw; (try dsimp only at hSw); go_simp) <;> (try with_reducible rfl)); done)); (try simp only [Act.put, p1_, p2_, p3_]))); ((refine tk_ (i := 13) (v := ?_) (y := Or.inl ⟨by rfl, ?_⟩) (h := ?_); rotate_left; (focus (((intro w hSw; (try dsimp only at hSw); go_simp) <;> (try with_reducible rfl)); done)); (try simp only [Act.put, p1_, p2_, p3_]))); (refine wpAnyH_done (by kernel_rfl) ?_ _))
  go_wp2_with fail
  refine (impl_Transpose_tb R C A n cap f _ hW.m.reads (Nat.le_refl _) HF.out hR hC).mono ?_
  rintro e w2 ⟨Aa, na, ca, rfl, hoa, hb2⟩
  have hs1 := hbd.size
  have hs2 := hb2.size
  have hUa : Own (.slice Aa na ca) w1.heap.size w2.heap.size := hoa.own
  have hbd_1 : Below w0.heap.size w0 w2 := Kw
  (have hW_1 : WB w2 B b R C f g h false A n cap A2 n2 cap2 A3 n3 cap3 := HW0.out.below hbd_1 (Nat.le_refl _)); (have hX_1 : Blk w2 xb 66 xs := HX0.out.below hbd_1 hxb); clear c0 c1 c2 c3 c4 c5 c6 c7 c8 c9 cf cl x0 x1 x2 x3; clear hW hX hbd; (have hW := hW_1); (have hX := hX_1); (have hbd := hbd_1); clear hW_1 hX_1 hbd_1; rw [HXS.out] at hX; obtain ⟨c0, c1, c2, c3, c4, c5, c6, c7, c8, c9, cf, cl⟩ := hW.cells; have x0 := hX.cell 0; have x1 := hX.cell 1; have x2 := hX.cell 2; have x3 := hX.cell 3; simp at x0 x1 x2 x3
  go_wp2_with fail
  refine (impl_Transpose_tb C C A3 n3 cap3 h _ (hW.r.alloc _).reads (Nat.le_refl _) HH.out hC hC).mono ?_
  rintro e w3 ⟨Ab, nb, cb, rfl, hob, hb3⟩
  have hs3 := hb3.size
  simp at hs3
  have hUb : Own (.slice Ab nb cb) (w2.heap.size + 1) w3.heap.size := by have := hob.own; simpa using this
  have hAx : BM w3 w2.heap.size C R Aa na ca := Ka
  have hoa3 : OR w3 w1.heap.size (.slice Aa na ca) (tb C R (tp f)) := Ko hoa
  have hob3 : OR w3 (w2.heap.size + 1) (.slice Ab nb cb) (tb C C (tp h)) := by simpa using hob
  have hbd_1 : Below w0.heap.size w0 w3 := Kw
  (have hW_1 : WB w3 B b R C f g h false A n cap A2 n2 cap2 A3 n3 cap3 := HW0.out.below hbd_1 (Nat.le_refl _)); (have hX_1 : Blk w3 xb 66 xs := HX0.out.below hbd_1 hxb); clear c0 c1 c2 c3 c4 c5 c6 c7 c8 c9 cf cl x0 x1 x2 x3; clear hW hX hbd; (have hW := hW_1); (have hX := hX_1); (have hbd := hbd_1); clear hW_1 hX_1 hbd_1; rw [HXS.out] at hX; obtain ⟨c0, c1, c2, c3, c4, c5, c6, c7, c8, c9, cf, cl⟩ := hW.cells; have x0 := hX.cell 0; have x1 := hX.cell 1; have x2 := hX.cell 2; have x3 := hX.cell 3; simp at x0 x1 x2 x3
  obtain ⟨aa, ab, ac, af, al⟩ := hAx.mx
  clear hoa hob hb2 hb3
  have hx3 : xb < w3.heap.size := by have := hbd.size; omega
  go_wp2_with fail
  have hBx : BM (w3.alloc (.cells #[.int .i64 C, .int .i64 C, .slice Ab nb cb] 26)) w3.heap.size C C Ab nb cb := Ka
  refine (impl_rowOp_swap C R i j 0 Aa na ca (tp f) _ (B := w1.heap.size) (Ko hoa3) hi hj HIJ.out hR0 (by omega) hC).mono ?_
  rintro e w4 ⟨rfl, hoa4, hgr4, hs4⟩
  simp at hs4; have hAx4 : BM w4 w2.heap.size C R Aa na ca := BX.keptOwn (Kb hAx) hgr4 hUa (.inr (Nat.le_refl _)); have hBx4 : BM w4 w3.heap.size C C Ab nb cb := BX.keptOwn hBx hgr4 hUa (.inr (by omega)); have hob4 : OR w4 (w2.heap.size + 1) (.slice Ab nb cb) (tb C C (tp h)) := OR.keptOwn (Ko hob3) hgr4 hUb hUa (.inr (by omega)); have hbd_1 : Below w0.heap.size w0 w4 := Below.trans Kw (below_keptOwn hgr4 hUa hs1 Ks); clear hgr4 hAx hoa3 hob3 hBx aa ab ac af al; (have hW_1 : WB w4 B b R C f g h false A n cap A2 n2 cap2 A3 n3 cap3 := HW0.out.below hbd_1 (Nat.le_refl _)); (have hX_1 : Blk w4 xb 66 xs := HX0.out.below hbd_1 hxb); clear c0 c1 c2 c3 c4 c5 c6 c7 c8 c9 cf cl x0 x1 x2 x3; clear hW hX hbd; (have hW := hW_1); (have hX := hX_1); (have hbd := hbd_1); clear hW_1 hX_1 hbd_1; rw [HXS.out] at hX; obtain ⟨c0, c1, c2, c3, c4, c5, c6, c7, c8, c9, cf, cl⟩ := hW.cells; have x0 := hX.cell 0; have x1 := hX.cell 1; have x2 := hX.cell 2; have x3 := hX.cell 3; simp at x0 x1 x2 x3; obtain ⟨aa, ab, ac, af, al⟩ := hAx4.mx; obtain ⟨ba, bb, bc, bf, bl⟩ := hBx4.mx
  go_wp2_with fail
  refine (impl_rowOp_swap C C i j 0 Ab nb cb (tp h) _ (B := w2.heap.size + 1) (Ko hob4) hi hj HIJ.out (by omega) (by omega) hC).mono ?_
  rintro e w5 ⟨rfl, hob5, hgr5, hs5⟩
  have hAx5 : BM w5 w2.heap.size C R Aa na ca := BX.keptOwn hAx4 hgr5 hUb (.inl (by omega)); have hBx5 : BM w5 w3.heap.size C C Ab nb cb := BX.keptOwn hBx4 hgr5 hUb (.inr (Nat.le_refl _)); have hoa5 := OR.keptOwn hoa4 hgr5 hUa hUb (.inl (by omega)); have hbd_1 : Below w0.heap.size w0 w5 := Below.trans hbd (below_keptOwn hgr5 hUb (by omega) Ks); clear hgr5 hAx4 hoa4 hob4 hBx4 aa ab ac af al ba bb bc bf bl; (have hW_1 : WB w5 B b R C f g h false A n cap A2 n2 cap2 A3 n3 cap3 := HW0.out.below hbd_1 (Nat.le_refl _)); (have hX_1 : Blk w5 xb 66 xs := HX0.out.below hbd_1 hxb); clear c0 c1 c2 c3 c4 c5 c6 c7 c8 c9 cf cl x0 x1 x2 x3; clear hW hX hbd; (have hW := hW_1); (have hX := hX_1); (have hbd := hbd_1); clear hW_1 hX_1 hbd_1; rw [HXS.out] at hX; obtain ⟨c0, c1, c2, c3, c4, c5, c6, c7, c8, c9, cf, cl⟩ := hW.cells; have x0 := hX.cell 0; have x1 := hX.cell 1; have x2 := hX.cell 2; have x3 := hX.cell 3; simp at x0 x1 x2 x3; obtain ⟨aa, ab, ac, af, al⟩ := hAx5.mx; obtain ⟨ba, bb, bc, bf, bl⟩ := hBx5.mx
  go_wp2_with fail
  refine (impl_Transpose_tb C R Aa na ca (swF (tp f) i j) _ hoa5.reads (Nat.le_refl _) (swF_ok (tp_ok HF.out) hi hj) hC hR).mono ?_
  rintro e w6 ⟨Am, nm, cm, rfl, hom, hb6⟩
  have hs6 := hb6.size
  have hW5 := hW
  have hbw0 := HW0.out.lt
  have hsd5 := hbd.size
  have hbx : ¬ w3.heap.size = b := by omega
  have hbx2 : ¬ b = w3.heap.size := by omega
  have hBx7 : BM w6 w3.heap.size C C Ab nb cb := Kb hBx5
  have hob7 : OR w6 (w2.heap.size + 1) (.slice Ab nb cb) (tb C C (swF (tp h) i j)) := Ko hob5
  have hbd_1 : Below w0.heap.size w0 w6 := Kw
  have HB7 := Lib.hid (below_put3 (b := b) (b0 := 0) (b1 := 1) (b2 := 2) (u0 := .int .i64 R) (u1 := .int .i64 C) (u2 := .slice Am nm cm) (hbd_1.mono hBw) hBb)
  (have hW_1 : WB w6 B b R C f g h false A n cap A2 n2 cap2 A3 n3 cap3 := HW0.out.below hbd_1 (Nat.le_refl _)); (have hX_1 : Blk w6 xb 66 xs := HX0.out.below hbd_1 hxb); clear c0 c1 c2 c3 c4 c5 c6 c7 c8 c9 cf cl x0 x1 x2 x3; clear hW hX hbd; (have hW := hW_1); (have hX := hX_1); (have hbd := hbd_1); clear hW_1 hX_1 hbd_1; rw [HXS.out] at hX; obtain ⟨c0, c1, c2, c3, c4, c5, c6, c7, c8, c9, cf, cl⟩ := hW.cells; have x0 := hX.cell 0; have x1 := hX.cell 1; have x2 := hX.cell 2; have x3 := hX.cell 3; simp at x0 x1 x2 x3
  clear aa ab ac af al ba bb bc bf bl
  obtain ⟨ba, bb, bc, bf, bl⟩ := hBx7.mx
  go_wp2_with fail
  refine (impl_Transpose_tb C C Ab nb cb (swF (tp h) i j) _ (OR.reads (OR.low (OR.low (OR.low hob7 (by simp; omega) _) (by simp; omega) _) (by simp; omega) _)) (Nat.le_refl _) (swF_ok (tp_ok HH.out) hi hj) hC hC).mono ?_
  rintro e w8 ⟨Ar, nr, cr, rfl, hor, hb8⟩
  have hW7 := hW5.putM hb6 hom
  have hs8 := hb8.size
  have hW8 := hW7.below hb8 (Nat.le_refl _)
  have hW9 := hW7.putR hb8 hor
  have HB8 := Lib.hid (HB7.out.trans (Below.mono hb8 (by have := hW7.lt; have := hW7.hb; omega)))
  clear c0 c1 c2 c3 c4 c5 c6 c7 c8 c9 cf cl x0 x1 x2 x3
  clear hW hW5 hW7 hX hbd hb8 hor hb6 hom ba bb bc bf bl hBx7 hob7 hBx5 hob5 hAx5 hoa5
  have HB9 := Lib.hid (below_put3 (b := b) (b0 := 6) (b1 := 7) (b2 := 8) (u0 := .int .i64 C) (u1 := .int .i64 C) (u2 := .slice Ar nr cr) HB8.out hBb)
  obtain ⟨c0, c1, c2, c3, c4, c5, c6, c7, c8, c9, cf, cl⟩ := hW8.cells
  go_wp2_with fail
  go_end0
  exact ⟨rfl, HBW.out.trans HB9.out, hW9.wk⟩
set_option maxRecDepth 100000 in
set_option maxHeartbeats 8000000 in
theorem impl_cols_add (B b R C i j : Nat) (f g h : Fn2) (t : Int) (w : World) (hK : WK w B b R C f g h false) (hi : i < C) (hj : j < C) (hij : i ≠ j) (ht : Num t) (hf : OKF R C f) (hh : OKF C C h) (hR0 : 0 < R) (hC : C ≤ 24) (hR : R ≤ 24) :
    Calls Try.prog 215 #[.pointer (some ⟨b, 0, none⟩), .agg #[.int .i64 2, .int .i64 i, .int .i64 j, .int .i64 t]] w (CWA B b R C f g h i j t w) := by
  have HT := Lib.hid ht
  clear ht
  obtain ⟨A, n, cap, A2, n2, cap2, A3, n3, cap3, hWw⟩ := hK
  have hBb := hWw.hb
  have hbl := hWw.lt
  have HIJ := Lib.hid hij
  have HF := Lib.hid hf
  have HH := Lib.hid hh
  clear hij hf hh
  go_enter Try.func215, Try.ntmps215
  go_wp2_with fail
  obtain ⟨xs, HXS⟩ : ∃ v : Array Value, Hid (v = #[.int .i64 2, .int .i64 i, .int .i64 j, .int .i64 t]) := ⟨_, Lib.hid rfl⟩
  obtain ⟨xb, hxb0⟩ : ∃ q, q = w.heap.size := ⟨_, rfl⟩
  have hX : Blk (w.alloc (.cells #[.int .i64 2, .int .i64 i, .int .i64 j, .int .i64 t] 66)) xb 66 #[.int .i64 2, .int .i64 i, .int .i64 j, .int .i64 t] := by rw [hxb0]; exact Blk.new _ _ _
  have hW := hWw.alloc (.cells #[.int .i64 2, .int .i64 i, .int .i64 j, .int .i64 t] 66)
  have HBW : Hid (Below B w (w.alloc (.cells #[.int .i64 2, .int .i64 i, .int .i64 j, .int .i64 t] 66))) := Lib.hid (Below.mono (B := w.heap.size) Kw (by omega))
  have hbe : ¬ b = xb := by omega
  have hbe2 : ¬ xb = b := by omega
  have hxw : xb < (w.alloc (.cells #[.int .i64 2, .int .i64 i, .int .i64 j, .int .i64 t] 66)).heap.size := by simp; omega
  rw [← hxb0]
  generalize w.alloc (.cells #[.int .i64 2, .int .i64 i, .int .i64 j, .int .i64 t] 66) = w0 at *
  have hxb := hxw
  clear hxb0 hWw hxw
  have HW0 := Lib.hid hW
  have HX0 : Hid (Blk w0 xb 66 xs) := Lib.hid (by rw [HXS.out]; exact hX)
  have hBw : B ≤ w0.heap.size := by have := hW.lt; omega
  have hbd : Below w0.heap.size w0 w0 := Below.refl _ _
  obtain ⟨c0, c1, c2, c3, c4, c5, c6, c7, c8, c9, cf, cl⟩ := hW.cells; have x0 := hX.cell 0; have x1 := hX.cell 1; have x2 := hX.cell 2; have x3 := hX.cell 3; simp at x0 x1 x2 x3
  ((refine wp_region_held_drew (S := (fun w' => w'.cell? ⟨b, 1, none⟩ = some (.int .i64 C) ∧ w'.cell? ⟨b, 9, none⟩ = some (.bool false) ∧ w'.cell? ⟨xb, 0, none⟩ = some (.int .i64 2) ∧ w'.cell? ⟨xb, 1, none⟩ = some (.int .i64 i) ∧ w'.cell? ⟨xb, 2, none⟩ = some (.int .i64 j) ∧ w'.cell? ⟨xb, 3, none⟩ = some (.int .i64 t))) (by kernel_rfl) ?_ (fun hHeld => ?_)); ((focus ((try dsimp only); (go_keep)))); ((refine tk_ (i := 0) (v := ?_) (y := Or.inl ⟨by rfl, ?_⟩) (h := ?_); rotate_left; (focus (((intro w hSw; (try dsimp only at hSw); go_simp) <;> (try with_reducible rfl)); done)); (try simp only [Act.put, p1_, p2_, p3_]))); ((refine tk_ (i := 1) (v := ?_) (y := Or.inl ⟨by rfl, ?_⟩) (h := ?_); rotate_left; (focus (((intro w hSw; (try dsimp only at hSw); go_simp) <;> (try with_reducible rfl)); done)); (try simp only [Act.put, p1_, p2_, p3_]))); ((refine tk_ (i := 2) (v := ?_) (y := Or.inl ⟨by rfl, ?_⟩) (h := ?_); rotate_left; (focus (((intro w hSw; (try dsimp only at hSw); go_simp) <;> (try with_reducible rfl)); done)); (try simp only [Act.put, p1_, p2_, p3_]))); ((refine tk_ (i := 3) (v := ?_) (y := Or.inl ⟨by rfl, ?_⟩) (h := ?_); rotate_left; (focus (((intro w hSw; (try dsimp only at hSw); go_simp) <;> (try with_reducible rfl)); done)); (try simp only [Act.put, p1_, p2_, p3_]))); ((refine tk_ (i := 4) (v := ?_) (y := Or.inl ⟨by rfl, ?_⟩) (h := ?_); rotate_left; (focus (((intro w hSw; (try dsimp only at hSw); go_simp) <;> (try with_reducible rfl)); done)); (try simp only [Act.put, p1_, p2_, p3_]))); ((refine tk_ (i := 5) (v := ?_) (y := Or.inl ⟨by rfl, ?_⟩) (h := ?_); rotate_left; (focus (((intro w hSw; (try dsimp only at hSw); go_simp) <;> (try with_reducible rfl)); done)); (try simp only [Act.put, p1_, p2_, p3_]))); ((refine tk_ (i := 6) (v := ?_) (y := Or.inl ⟨by rfl, ?_⟩) (h := ?_); rotate_left; (focus (((intro w hSw; (try dsimp only at hSw); go_simp) <;> (try with_reducible rfl)); done)); (try simp only [Act.put, p1_, p2_, p3_]))); ((refine tk_ (i := 7) (v := ?_) (y := Or.inl ⟨by rfl, ?_⟩) (h := ?_); rotate_left; (focus (((intro w hSw; (try dsimp only at hSw); go_simp) <;> (try with_reducible rfl)); done)); (try simp only [Act.put, p1_, p2_, p3_]))); ((refine tk_ (i := 8) (v := ?_) (y := Or.inl ⟨by rfl, ?_⟩) (h := ?_); rotate_left; (focus (((intro w hSw; (try dsimp only at hSw); go_simp) <;> (try with_reducible rfl)); done)); (try simp only [Act.put, p1_, p2_, p3_]))); ((refine tk_ (i := 9) (v := ?_) (y := Or.inl ⟨by rfl, ?_⟩) (h := ?_); rotate_left; (focus (((intro w hSw; (try dsimp only at hSw); go_simp) <;> (try with_reducible rfl)); done)); (try simp only [Act.put, p1_, p2_, p3_]))); ((refine tk_ (i := 10) (v := ?_) (y := Or.inl ⟨by rfl, ?_⟩) (h := ?_); rotate_left; (focus (((intro w hSw; (try dsimp only at hSw); go_simp) <;> (try with_reducible rfl)); done)); (try simp only [Act.put, p1_, p2_, p3_]))); ((refine wpAnyH_ready (rs := [11]) (by kernel_rfl) (by simp) ?_; refine AllReadyH.cons (by simp only [e1_, e2_, e3_]; try rfl) (fun K hK => ?_) AllReadyH.nil; go_simp; (go_at_call 142; refine (impl_IsRowOp_add C i j t _ hi hj HIJ.out HT.out hC).mono ?_; rintro e w1 ⟨rfl, hb1⟩; (have hsz := hb1.size); (try simp at hsz); (have hsd := hbd.size); (have hbd_1 : Below w0.heap.size w0 w1 := Kw); (have hW_1 : WB w1 B b R C f g h false A n cap A2 n2 cap2 A3 n3 cap3 := HW0.out.below hbd_1 (Nat.le_refl _)); (have hX_1 : Blk w1 xb 66 xs := HX0.out.below hbd_1 hxb); clear c0 c1 c2 c3 c4 c5 c6 c7 c8 c9 cf cl x0 x1 x2 x3; clear hW hX hbd; (have hW := hW_1); (have hX := hX_1); (have hbd := hbd_1); clear hW_1 hX_1 hbd_1; rw [HXS.out] at hX; obtain ⟨c0, c1, c2, c3, c4, c5, c6, c7, c8, c9, cf, cl⟩ := hW.cells; have x0 := hX.cell 0; have x1 := hX.cell 1; have x2 := hX.cell 2; have x3 := hX.cell 3; simp at x0 x1 x2 x3); (try go_wp2_with fail); refine hK.out _ _ ?_ (fun hHeld => ?_); (focus ((try dsimp only); (go_keep))); clear hK K; (try simp only [Act.put, p1_, p2_, p3_]))); ((refine tk_ (i := 12) (v := ?_) (y := Or.inl ⟨by rfl, ?_⟩) (h := ?_); rotate_left; (focus (((intro w hSw; (try dsimp only at hSw); go_simp) <;> (try with_reducible rfl)); done)); (try simp only [Act.put, p1_, p2_, p3_]))); ((refine tk_ (i := 13) (v := ?_) (y := Or.inl ⟨by rfl, ?_⟩) (h := ?_); rotate_left; (focus (((intro w hSw; (try dsimp only at hSw); go_simp) <;> (try with_reducible rfl)); done)); (try simp only [Act.put, p1_, p2_, p3_]))); (refine wpAnyH_done (by kernel_rfl) ?_ _))
  go_wp2_with fail
  refine (impl_Transpose_tb R C A n cap f _ hW.m.reads (Nat.le_refl _) HF.out hR hC).mono ?_
  rintro e w2 ⟨Aa, na, ca, rfl, hoa, hb2⟩
  have hs1 := hbd.size
  have hs2 := hb2.size
  have hUa : Own (.slice Aa na ca) w1.heap.size w2.heap.size := hoa.own
  have hbd_1 : Below w0.heap.size w0 w2 := Kw
  (have hW_1 : WB w2 B b R C f g h false A n cap A2 n2 cap2 A3 n3 cap3 := HW0.out.below hbd_1 (Nat.le_refl _)); (have hX_1 : Blk w2 xb 66 xs := HX0.out.below hbd_1 hxb); clear c0 c1 c2 c3 c4 c5 c6 c7 c8 c9 cf cl x0 x1 x2 x3; clear hW hX hbd; (have hW := hW_1); (have hX := hX_1); (have hbd := hbd_1); clear hW_1 hX_1 hbd_1; rw [HXS.out] at hX; obtain ⟨c0, c1, c2, c3, c4, c5, c6, c7, c8, c9, cf, cl⟩ := hW.cells; have x0 := hX.cell 0; have x1 := hX.cell 1; have x2 := hX.cell 2; have x3 := hX.cell 3; simp at x0 x1 x2 x3
  go_wp2_with fail
  refine (impl_Transpose_tb C C A3 n3 cap3 h _ (hW.r.alloc _).reads (Nat.le_refl _) HH.out hC hC).mono ?_
  rintro e w3 ⟨Ab, nb, cb, rfl, hob, hb3⟩
  have hs3 := hb3.size
  simp at hs3
  have hUb : Own (.slice Ab nb cb) (w2.heap.size + 1) w3.heap.size := by have := hob.own; simpa using this
  have hAx : BM w3 w2.heap.size C R Aa na ca := Ka
  have hoa3 : OR w3 w1.heap.size (.slice Aa na ca) (tb C R (tp f)) := Ko hoa
  have hob3 : OR w3 (w2.heap.size + 1) (.slice Ab nb cb) (tb C C (tp h)) := by simpa using hob
  have hbd_1 : Below w0.heap.size w0 w3 := Kw
  (have hW_1 : WB w3 B b R C f g h false A n cap A2 n2 cap2 A3 n3 cap3 := HW0.out.below hbd_1 (Nat.le_refl _)); (have hX_1 : Blk w3 xb 66 xs := HX0.out.below hbd_1 hxb); clear c0 c1 c2 c3 c4 c5 c6 c7 c8 c9 cf cl x0 x1 x2 x3; clear hW hX hbd; (have hW := hW_1); (have hX := hX_1); (have hbd := hbd_1); clear hW_1 hX_1 hbd_1; rw [HXS.out] at hX; obtain ⟨c0, c1, c2, c3, c4, c5, c6, c7, c8, c9, cf, cl⟩ := hW.cells; have x0 := hX.cell 0; have x1 := hX.cell 1; have x2 := hX.cell 2; have x3 := hX.cell 3; simp at x0 x1 x2 x3
  obtain ⟨aa, ab, ac, af, al⟩ := hAx.mx
  clear hoa hob hb2 hb3
  have hx3 : xb < w3.heap.size := by have := hbd.size; omega
  go_wp2_with fail
  have hBx : BM (w3.alloc (.cells #[.int .i64 C, .int .i64 C, .slice Ab nb cb] 26)) w3.heap.size C C Ab nb cb := Ka
  by_cases hr1 : rowOk (tp f) i j t R
  · refine (impl_rowOp_add_yes C R i j t Aa na ca (tp f) _ (B := w1.heap.size) (Ko hoa3) hi hj HIJ.out HT.out (tp_ok HF.out) hR0 hR hC hr1).mono ?_
    rintro e w4 ⟨rfl, hoa4, hgr4, hs4⟩
    simp at hs4; have hAx4 : BM w4 w2.heap.size C R Aa na ca := BX.keptOwn (Kb hAx) hgr4 hUa (.inr (Nat.le_refl _)); have hBx4 : BM w4 w3.heap.size C C Ab nb cb := BX.keptOwn hBx hgr4 hUa (.inr (by omega)); have hob4 : OR w4 (w2.heap.size + 1) (.slice Ab nb cb) (tb C C (tp h)) := OR.keptOwn (Ko hob3) hgr4 hUb hUa (.inr (by omega)); have hbd_1 : Below w0.heap.size w0 w4 := Below.trans Kw (below_keptOwn hgr4 hUa hs1 Ks); clear hgr4 hAx hoa3 hob3 hBx aa ab ac af al; (have hW_1 : WB w4 B b R C f g h false A n cap A2 n2 cap2 A3 n3 cap3 := HW0.out.below hbd_1 (Nat.le_refl _)); (have hX_1 : Blk w4 xb 66 xs := HX0.out.below hbd_1 hxb); clear c0 c1 c2 c3 c4 c5 c6 c7 c8 c9 cf cl x0 x1 x2 x3; clear hW hX hbd; (have hW := hW_1); (have hX := hX_1); (have hbd := hbd_1); clear hW_1 hX_1 hbd_1; rw [HXS.out] at hX; obtain ⟨c0, c1, c2, c3, c4, c5, c6, c7, c8, c9, cf, cl⟩ := hW.cells; have x0 := hX.cell 0; have x1 := hX.cell 1; have x2 := hX.cell 2; have x3 := hX.cell 3; simp at x0 x1 x2 x3; obtain ⟨aa, ab, ac, af, al⟩ := hAx4.mx; obtain ⟨ba, bb, bc, bf, bl⟩ := hBx4.mx
    have HR1 := Lib.hid ((rowOk_iff (tp_ok HF.out) hi hj HT.out).1 hr1)
    clear hr1
    go_wp2_with fail
    by_cases hr2 : rowOk (tp h) i j t C
    · refine (impl_rowOp_add_yes C C i j t Ab nb cb (tp h) _ (B := w2.heap.size + 1) (Ko hob4) hi hj HIJ.out HT.out (tp_ok HH.out) (by omega) hC hC hr2).mono ?_
      rintro e w5 ⟨rfl, hob5, hgr5, hs5⟩
      have hAx5 : BM w5 w2.heap.size C R Aa na ca := BX.keptOwn hAx4 hgr5 hUb (.inl (by omega)); have hBx5 : BM w5 w3.heap.size C C Ab nb cb := BX.keptOwn hBx4 hgr5 hUb (.inr (Nat.le_refl _)); have hoa5 := OR.keptOwn hoa4 hgr5 hUa hUb (.inl (by omega)); have hbd_1 : Below w0.heap.size w0 w5 := Below.trans hbd (below_keptOwn hgr5 hUb (by omega) Ks); clear hgr5 hAx4 hoa4 hob4 hBx4 aa ab ac af al ba bb bc bf bl; (have hW_1 : WB w5 B b R C f g h false A n cap A2 n2 cap2 A3 n3 cap3 := HW0.out.below hbd_1 (Nat.le_refl _)); (have hX_1 : Blk w5 xb 66 xs := HX0.out.below hbd_1 hxb); clear c0 c1 c2 c3 c4 c5 c6 c7 c8 c9 cf cl x0 x1 x2 x3; clear hW hX hbd; (have hW := hW_1); (have hX := hX_1); (have hbd := hbd_1); clear hW_1 hX_1 hbd_1; rw [HXS.out] at hX; obtain ⟨c0, c1, c2, c3, c4, c5, c6, c7, c8, c9, cf, cl⟩ := hW.cells; have x0 := hX.cell 0; have x1 := hX.cell 1; have x2 := hX.cell 2; have x3 := hX.cell 3; simp at x0 x1 x2 x3; obtain ⟨aa, ab, ac, af, al⟩ := hAx5.mx; obtain ⟨ba, bb, bc, bf, bl⟩ := hBx5.mx
      have HR2 := Lib.hid ((rowOk_iff (tp_ok HH.out) hi hj HT.out).1 hr2)
      clear hr2
      go_wp2_with fail
      refine (impl_Transpose_tb C R Aa na ca (opA (tp f) i j t) _ hoa5.reads (Nat.le_refl _) HR1.out hC hR).mono ?_
      rintro e w6 ⟨Am, nm, cm, rfl, hom, hb6⟩
      have hs6 := hb6.size
      have hW5 := hW
      have hbw0 := HW0.out.lt
      have hsd5 := hbd.size
      have hbx : ¬ w3.heap.size = b := by omega
      have hbx2 : ¬ b = w3.heap.size := by omega
      have hBx7 : BM w6 w3.heap.size C C Ab nb cb := Kb hBx5
      have hob7 : OR w6 (w2.heap.size + 1) (.slice Ab nb cb) (tb C C (opA (tp h) i j t)) := Ko hob5
      have hbd_1 : Below w0.heap.size w0 w6 := Kw
      have HB7 := Lib.hid (below_put3 (b := b) (b0 := 0) (b1 := 1) (b2 := 2) (u0 := .int .i64 R) (u1 := .int .i64 C) (u2 := .slice Am nm cm) (hbd_1.mono hBw) hBb)
      (have hW_1 : WB w6 B b R C f g h false A n cap A2 n2 cap2 A3 n3 cap3 := HW0.out.below hbd_1 (Nat.le_refl _)); (have hX_1 : Blk w6 xb 66 xs := HX0.out.below hbd_1 hxb); clear c0 c1 c2 c3 c4 c5 c6 c7 c8 c9 cf cl x0 x1 x2 x3; clear hW hX hbd; (have hW := hW_1); (have hX := hX_1); (have hbd := hbd_1); clear hW_1 hX_1 hbd_1; rw [HXS.out] at hX; obtain ⟨c0, c1, c2, c3, c4, c5, c6, c7, c8, c9, cf, cl⟩ := hW.cells; have x0 := hX.cell 0; have x1 := hX.cell 1; have x2 := hX.cell 2; have x3 := hX.cell 3; simp at x0 x1 x2 x3
      clear aa ab ac af al ba bb bc bf bl
      obtain ⟨ba, bb, bc, bf, bl⟩ := hBx7.mx
      go_wp2_with fail
      refine (impl_Transpose_tb C C Ab nb cb (opA (tp h) i j t) _ (OR.reads (OR.low (OR.low (OR.low hob7 (by simp; omega) _) (by simp; omega) _) (by simp; omega) _)) (Nat.le_refl _) HR2.out hC hC).mono ?_
      rintro e w8 ⟨Ar, nr, cr, rfl, hor, hb8⟩
      have hW7 := hW5.putM hb6 hom
      have hs8 := hb8.size
      have hW8 := hW7.below hb8 (Nat.le_refl _)
      have hW9 := hW7.putR hb8 hor
      have HB8 := Lib.hid (HB7.out.trans (Below.mono hb8 (by have := hW7.lt; have := hW7.hb; omega)))
      clear c0 c1 c2 c3 c4 c5 c6 c7 c8 c9 cf cl x0 x1 x2 x3
      clear hW hW5 hW7 hX hbd hb8 hor hb6 hom ba bb bc bf bl hBx7 hob7 hBx5 hob5 hAx5 hoa5
      have HB9 := Lib.hid (below_put3 (b := b) (b0 := 6) (b1 := 7) (b2 := 8) (u0 := .int .i64 C) (u1 := .int .i64 C) (u2 := .slice Ar nr cr) HB8.out hBb)
      obtain ⟨c0, c1, c2, c3, c4, c5, c6, c7, c8, c9, cf, cl⟩ := hW8.cells
      go_wp2_with fail
      go_end0
      exact ⟨rfl, HBW.out.trans HB9.out, .inl ⟨⟨HR1.out, HR2.out⟩, hW9.wk⟩⟩
    · refine (impl_rowOp_add_no C C i j t Ab nb cb (tp h) _ (B := w2.heap.size + 1) (Ko hob4) hi hj HIJ.out HT.out (tp_ok HH.out) (by omega) hC hC hr2).mono ?_
      rintro e w5 ⟨h', rfl, hob5, hgr5, hs5⟩
      have hAx5 : BM w5 w2.heap.size C R Aa na ca := BX.keptOwn hAx4 hgr5 hUb (.inl (by omega)); have hBx5 : BM w5 w3.heap.size C C Ab nb cb := BX.keptOwn hBx4 hgr5 hUb (.inr (Nat.le_refl _)); have hoa5 := OR.keptOwn hoa4 hgr5 hUa hUb (.inl (by omega)); have hbd_1 : Below w0.heap.size w0 w5 := Below.trans hbd (below_keptOwn hgr5 hUb (by omega) Ks); clear hgr5 hAx4 hoa4 hob4 hBx4 aa ab ac af al ba bb bc bf bl; (have hW_1 : WB w5 B b R C f g h false A n cap A2 n2 cap2 A3 n3 cap3 := HW0.out.below hbd_1 (Nat.le_refl _)); (have hX_1 : Blk w5 xb 66 xs := HX0.out.below hbd_1 hxb); clear c0 c1 c2 c3 c4 c5 c6 c7 c8 c9 cf cl x0 x1 x2 x3; clear hW hX hbd; (have hW := hW_1); (have hX := hX_1); (have hbd := hbd_1); clear hW_1 hX_1 hbd_1; rw [HXS.out] at hX; obtain ⟨c0, c1, c2, c3, c4, c5, c6, c7, c8, c9, cf, cl⟩ := hW.cells; have x0 := hX.cell 0; have x1 := hX.cell 1; have x2 := hX.cell 2; have x3 := hX.cell 3; simp at x0 x1 x2 x3; obtain ⟨aa, ab, ac, af, al⟩ := hAx5.mx; obtain ⟨ba, bb, bc, bf, bl⟩ := hBx5.mx
      have HR2 : Hid (¬ okC R C f h i j t) := Lib.hid (fun k => hr2 ((rowOk_iff (tp_ok HH.out) hi hj HT.out).2 k.2))
      clear hr2
      go_wp2_with fail
      go_end0
      exact ⟨rfl, HBW.out.trans ((hbd.mono hBw).trans (below_set_at hBb)), .inr ⟨HR2.out, _, _, _, hW.setBad.wk⟩⟩
  · refine (impl_rowOp_add_no C R i j t Aa na ca (tp f) _ (B := w1.heap.size) (Ko hoa3) hi hj HIJ.out HT.out (tp_ok HF.out) hR0 hR hC hr1).mono ?_
    rintro e w4 ⟨f', rfl, hoa4, hgr4, hs4⟩
    simp at hs4; have hAx4 : BM w4 w2.heap.size C R Aa na ca := BX.keptOwn (Kb hAx) hgr4 hUa (.inr (Nat.le_refl _)); have hBx4 : BM w4 w3.heap.size C C Ab nb cb := BX.keptOwn hBx hgr4 hUa (.inr (by omega)); have hob4 : OR w4 (w2.heap.size + 1) (.slice Ab nb cb) (tb C C (tp h)) := OR.keptOwn (Ko hob3) hgr4 hUb hUa (.inr (by omega)); have hbd_1 : Below w0.heap.size w0 w4 := Below.trans Kw (below_keptOwn hgr4 hUa hs1 Ks); clear hgr4 hAx hoa3 hob3 hBx aa ab ac af al; (have hW_1 : WB w4 B b R C f g h false A n cap A2 n2 cap2 A3 n3 cap3 := HW0.out.below hbd_1 (Nat.le_refl _)); (have hX_1 : Blk w4 xb 66 xs := HX0.out.below hbd_1 hxb); clear c0 c1 c2 c3 c4 c5 c6 c7 c8 c9 cf cl x0 x1 x2 x3; clear hW hX hbd; (have hW := hW_1); (have hX := hX_1); (have hbd := hbd_1); clear hW_1 hX_1 hbd_1; rw [HXS.out] at hX; obtain ⟨c0, c1, c2, c3, c4, c5, c6, c7, c8, c9, cf, cl⟩ := hW.cells; have x0 := hX.cell 0; have x1 := hX.cell 1; have x2 := hX.cell 2; have x3 := hX.cell 3; simp at x0 x1 x2 x3; obtain ⟨aa, ab, ac, af, al⟩ := hAx4.mx; obtain ⟨ba, bb, bc, bf, bl⟩ := hBx4.mx
    have HR1 : Hid (¬ okC R C f h i j t) := Lib.hid (fun k => hr1 ((rowOk_iff (tp_ok HF.out) hi hj HT.out).2 k.1))
    clear hr1
    go_wp2_with fail
    go_end0
    exact ⟨rfl, HBW.out.trans ((hbd.mono hBw).trans (below_set_at hBb)), .inr ⟨HR1.out, _, _, _, hW.setBad.wk⟩⟩
end Go.Proofs.Ytacjonkehcamgaa

/-
  DERIVED. append of a ratio, in a region that keeps its order.
-/
namespace Go.Proofs.Ytacjonkehcamgaa
open Go.RowKit
set_option linter.unusedVariables false
set_option linter.unusedSimpArgs false
theorem wpList_append_ratio (w : World) {ops : Array Oper} {rest : List Oper} {o : Oper} {a : Act} {Q : Exit → Act → World → Prop} (hgd : o.guard = none) (s z : Operand)
    (ho : o.op = .call { callee := .builtin .append, args := #[s, z], argTypes := #[27, 27] })
    (B : Nat) (v : Value) (n : Nat) (xs : List Int) (hs : a.eval s = v) (hown : OF w B v n xs) (g : Nat) (x y : Int) (hz : a.eval z = .slice (some ⟨g, 0, none⟩) 1 1) (c0 : w.cell? ⟨g, 0, none⟩ = some (.int .i64 x)) (c1 : w.cell? ⟨g, 1, none⟩ = some (.int .i64 y)) (h63 : n ≤ 1000000000) (hbase : B ≤ w.heap.size)
    (h : ∀ v' w', OF w' B v' (n + 1) (xs ++ [x, y]) → w.grownBy w' v.ownBlock → (v'.ownBlock = v.ownBlock ∨ v'.ownBlock = some w.heap.size) → wpList Try.prog ops Q rest (a.put o.dst v') w') : wpList Try.prog ops Q (o :: rest) a w :=
  wpList_plain hgd fun _ hK => by
    obtain ⟨v', w', hrun, h2, h3, h4⟩ := run_append_ratio w B o.type v n xs hown g x y c0 c1 h63 hbase
    unfold Oper.wp execOp
    simp only [ho, resolve, invoke, builtin, Sem.run_bind, Sem.run_pure, Result.andThen_ok, List.map_toArray, List.map_cons, List.map_nil, hs, hz, hrun]
    exact hK _ _ (h v' w' h2 h3 h4)
end Go.Proofs.Ytacjonkehcamgaa

/-
  DERIVED. Making of ratios, both.
-/
namespace Go.Proofs.Ytacjonkehcamgaa
open Go.RowKit
set_option linter.unusedVariables false
set_option linter.unusedSimpArgs false
theorem spec_l2Make0 (n : Int) (w : World) : Calls Try.prog 192 #[.int .i64 n, .int .i64 0] w (BV (rV (0, 0)) w) := by
  go_enter Try.func192, Try.ntmps192
  go_wp2_with fail
  refine ret_Q (b := w.heap.size) (n := 0) (d := 0) Try.results192 rfl (by (with_reducible (repeat (first | assumption | refine Blk.new_at _ _ _ _ Ks | refine Blk.below ?_ (by assumption) Ks | apply Blk.drew | apply Blk.drewN | refine Blk.far ?_ (by simp only [ne_eq]; omega) _ | apply Blk.alloc)))) rfl ?_
  exact BV.mk rfl Kw
theorem rV_eq {q q' : Int × Int} (h : q = q') : Value.agg #[.int .i64 q'.1, .int .i64 q'.2] = rV q := by subst h; rfl
set_option maxHeartbeats 4000000 in
theorem impl_MakeRatio (n d : Int) (w : World) : Calls Try.prog 181 #[.int .i64 n, .int .i64 d] w (BV (rV (makR n d)) w) := by
  by_cases h1 : -400000000 ≤ n ∧ n ≤ 400000000
  · by_cases h2 : -400000000 ≤ d ∧ d ≤ 400000000
    · by_cases h3 : d = 0
      · have hv : makR n d = (0, 0) := by unfold makR; rw [h3]; simp
        have HV := Lib.hid hv
        subst h3
        clear hv
        obtain ⟨n1, n2⟩ := h1
        go_enter Try.func181, Try.ntmps181
        go_wp2_with (first | (go_at_call 166; (first | refine (impl_IsNumber_yes _ _ (by omega)).mono ?_ | refine (impl_IsNumber_no _ _ (by omega)).mono ?_ | refine (impl_IsNumber _ _).mono ?_); rintro e w' ⟨rfl, rfl⟩))
        skip
        refine ret_Q (b := w.heap.size) (n := 0) (d := 0) Try.results181 rfl (by first | exact BQ.put hR3 | (with_reducible (repeat (first | assumption | refine Blk.new_at _ _ _ _ Ks | refine Blk.below ?_ (by assumption) Ks | apply Blk.drew | apply Blk.drewN | refine Blk.far ?_ (by simp only [ne_eq]; omega) _ | apply Blk.alloc)))) rfl ?_
        exact BV.mk (rV_mk HV.out) Kw
      · have hv : makR n d = lowR n d := by unfold makR; rw [(isNum_iff n).2 h1, (isNum_iff d).2 h2]; simp [h3]
        have HV := Lib.hid hv
        have h3b : (d == 0) = false := by simpa using h3
        have HD := Lib.hid h3
        clear hv h3
        obtain ⟨n1, n2⟩ := h1
        obtain ⟨d1, d2⟩ := h2
        go_enter Try.func181, Try.ntmps181
        go_wp2_with (first | (go_at_call 166; (first | refine (impl_IsNumber_yes _ _ (by omega)).mono ?_ | refine (impl_IsNumber_no _ _ (by omega)).mono ?_ | refine (impl_IsNumber _ _).mono ?_); rintro e w' ⟨rfl, rfl⟩))
        refine (impl_lowest n d HD.out (by omega) (by omega) _).mono ?_
        rintro e w3 ⟨rfl, hb3⟩
        have hR3 : BQ w3 w.heap.size 0 0 := by (with_reducible (repeat (first | assumption | refine Blk.new_at _ _ _ _ Ks | refine Blk.below ?_ (by assumption) Ks | apply Blk.drew | apply Blk.drewN | refine Blk.far ?_ (by simp only [ne_eq]; omega) _ | apply Blk.alloc)))
        have hbw3 : Below w.heap.size w w3 := Kw
        obtain ⟨sa, sb, sf, sl⟩ := hR3.cells
        unfold rV
        go_wp2_with fail
        refine ret_Q (b := w.heap.size) (n := (lowR n d).1) (d := (lowR n d).2) Try.results181 rfl (BQ.put hR3) rfl ?_
        refine BV.mk ?_ Kw
        exact (congrArg rV HV.out).symm
    · have hv : makR n d = (0, 0) := by unfold makR; rw [(isNum_not d).2 (by omega)]; simp
      have HV := Lib.hid hv
      have h4 : d < -400000000 ∨ 400000000 < d := by omega
      clear hv h2
      obtain ⟨n1, n2⟩ := h1
      rcases h4 with h4 | h4
      all_goals
        go_enter Try.func181, Try.ntmps181
        go_wp2_with (first | (go_at_call 166; (first | refine (impl_IsNumber_yes _ _ (by omega)).mono ?_ | refine (impl_IsNumber_no _ _ (by omega)).mono ?_ | refine (impl_IsNumber _ _).mono ?_); rintro e w' ⟨rfl, rfl⟩))
        refine ret_Q (b := w.heap.size) (n := 0) (d := 0) Try.results181 rfl (by (with_reducible (repeat (first | assumption | refine Blk.new_at _ _ _ _ Ks | refine Blk.below ?_ (by assumption) Ks | apply Blk.drew | apply Blk.drewN | refine Blk.far ?_ (by simp only [ne_eq]; omega) _ | apply Blk.alloc)))) rfl ?_
        exact BV.mk (rV_mk HV.out) Kw
  · have hv : makR n d = (0, 0) := by unfold makR; rw [(isNum_not n).2 (by omega)]; simp
    have HV := Lib.hid hv
    have h4 : n < -400000000 ∨ 400000000 < n := by omega
    clear hv h1
    rcases h4 with h4 | h4
    all_goals
      go_enter Try.func181, Try.ntmps181
      go_wp2_with (first | (go_at_call 166; (first | refine (impl_IsNumber_yes _ _ (by omega)).mono ?_ | refine (impl_IsNumber_no _ _ (by omega)).mono ?_ | refine (impl_IsNumber _ _).mono ?_); rintro e w' ⟨rfl, rfl⟩))
      refine ret_Q (b := w.heap.size) (n := 0) (d := 0) Try.results181 rfl (by (with_reducible (repeat (first | assumption | refine Blk.new_at _ _ _ _ Ks | refine Blk.below ?_ (by assumption) Ks | apply Blk.drew | apply Blk.drewN | refine Blk.far ?_ (by simp only [ne_eq]; omega) _ | apply Blk.alloc)))) rfl ?_
      exact BV.mk (rV_mk HV.out) Kw
set_option maxHeartbeats 4000000 in
theorem spec_MakeRatio (n d : Int) (w : World) : Calls Try.prog 183 #[.int .i64 n, .int .i64 d] w (BV (rV (makR n d)) w) := by
  by_cases h1 : -400000000 ≤ n ∧ n ≤ 400000000
  · by_cases h2 : -400000000 ≤ d ∧ d ≤ 400000000
    · by_cases h3 : d = 0
      · have hv : makR n d = (0, 0) := by unfold makR; rw [h3]; simp
        have HV := Lib.hid hv
        subst h3
        clear hv
        obtain ⟨n1, n2⟩ := h1
        go_enter Try.func183, Try.ntmps183
        go_wp2_with (first | (go_at_call 194; (first | refine (spec_IsNumber_yes _ _ (by omega)).mono ?_ | refine (spec_IsNumber_no _ _ (by omega)).mono ?_ | refine (spec_IsNumber _ _).mono ?_); rintro e w' ⟨rfl, rfl⟩))
        (refine (spec_l2Make0 n _).mono ?_; rintro e w3 ⟨rfl, hb3⟩; have hR3 : BQ w3 w.heap.size 0 0 := (by (with_reducible (repeat (first | assumption | refine Blk.new_at _ _ _ _ Ks | refine Blk.below ?_ (by assumption) Ks | apply Blk.drew | apply Blk.drewN | refine Blk.far ?_ (by simp only [ne_eq]; omega) _ | apply Blk.alloc)))); have hbw3 : Below w.heap.size w w3 := Kw; obtain ⟨sa, sb, sf, sl⟩ := hR3.cells; unfold rV; go_wp2_with fail)
        refine ret_Q (b := w.heap.size) (n := 0) (d := 0) Try.results183 rfl (by first | exact BQ.put hR3 | (with_reducible (repeat (first | assumption | refine Blk.new_at _ _ _ _ Ks | refine Blk.below ?_ (by assumption) Ks | apply Blk.drew | apply Blk.drewN | refine Blk.far ?_ (by simp only [ne_eq]; omega) _ | apply Blk.alloc)))) rfl ?_
        exact BV.mk (rV_mk HV.out) Kw
      · have hv : makR n d = lowR n d := by unfold makR; rw [(isNum_iff n).2 h1, (isNum_iff d).2 h2]; simp [h3]
        have HV := Lib.hid hv
        have h3b : (d == 0) = false := by simpa using h3
        have HD := Lib.hid h3
        clear hv h3
        obtain ⟨n1, n2⟩ := h1
        obtain ⟨d1, d2⟩ := h2
        go_enter Try.func183, Try.ntmps183
        go_wp2_with (first | (go_at_call 194; (first | refine (spec_IsNumber_yes _ _ (by omega)).mono ?_ | refine (spec_IsNumber_no _ _ (by omega)).mono ?_ | refine (spec_IsNumber _ _).mono ?_); rintro e w' ⟨rfl, rfl⟩))
        refine (spec_l2Make n d HD.out (by omega) (by omega) _).mono ?_
        rintro e w3 ⟨rfl, hb3⟩
        have hR3 : BQ w3 w.heap.size 0 0 := by (with_reducible (repeat (first | assumption | refine Blk.new_at _ _ _ _ Ks | refine Blk.below ?_ (by assumption) Ks | apply Blk.drew | apply Blk.drewN | refine Blk.far ?_ (by simp only [ne_eq]; omega) _ | apply Blk.alloc)))
        have hbw3 : Below w.heap.size w w3 := Kw
        obtain ⟨sa, sb, sf, sl⟩ := hR3.cells
        unfold rV
        go_wp2_with fail
        refine ret_Q (b := w.heap.size) (n := (lowR n d).1) (d := (lowR n d).2) Try.results183 rfl (BQ.put hR3) rfl ?_
        refine BV.mk ?_ Kw
        exact (congrArg rV HV.out).symm
    · have hv : makR n d = (0, 0) := by unfold makR; rw [(isNum_not d).2 (by omega)]; simp
      have HV := Lib.hid hv
      have h4 : d < -400000000 ∨ 400000000 < d := by omega
      clear hv h2
      obtain ⟨n1, n2⟩ := h1
      rcases h4 with h4 | h4
      all_goals
        go_enter Try.func183, Try.ntmps183
        go_wp2_with (first | (go_at_call 194; (first | refine (spec_IsNumber_yes _ _ (by omega)).mono ?_ | refine (spec_IsNumber_no _ _ (by omega)).mono ?_ | refine (spec_IsNumber _ _).mono ?_); rintro e w' ⟨rfl, rfl⟩))
        refine ret_Q (b := w.heap.size) (n := 0) (d := 0) Try.results183 rfl (by (with_reducible (repeat (first | assumption | refine Blk.new_at _ _ _ _ Ks | refine Blk.below ?_ (by assumption) Ks | apply Blk.drew | apply Blk.drewN | refine Blk.far ?_ (by simp only [ne_eq]; omega) _ | apply Blk.alloc)))) rfl ?_
        exact BV.mk (rV_mk HV.out) Kw
  · have hv : makR n d = (0, 0) := by unfold makR; rw [(isNum_not n).2 (by omega)]; simp
    have HV := Lib.hid hv
    have h4 : n < -400000000 ∨ 400000000 < n := by omega
    clear hv h1
    rcases h4 with h4 | h4
    all_goals
      go_enter Try.func183, Try.ntmps183
      go_wp2_with (first | (go_at_call 194; (first | refine (spec_IsNumber_yes _ _ (by omega)).mono ?_ | refine (spec_IsNumber_no _ _ (by omega)).mono ?_ | refine (spec_IsNumber _ _).mono ?_); rintro e w' ⟨rfl, rfl⟩))
      refine ret_Q (b := w.heap.size) (n := 0) (d := 0) Try.results183 rfl (by (with_reducible (repeat (first | assumption | refine Blk.new_at _ _ _ _ Ks | refine Blk.below ?_ (by assumption) Ks | apply Blk.drew | apply Blk.drewN | refine Blk.far ?_ (by simp only [ne_eq]; omega) _ | apply Blk.alloc)))) rfl ?_
      exact BV.mk (rV_mk HV.out) Kw
end Go.Proofs.Ytacjonkehcamgaa

/-
  DERIVED. leastFrom of a work.
-/
namespace Go.Proofs.Ytacjonkehcamgaa
open Go.RowKit
set_option linter.unusedVariables false
set_option linter.unusedSimpArgs false
theorem lsI_next {f : Fn2} {i t j : Nat} {st : Int × Int} (h : t ≤ j) : lsI f i t st (j + 1 - t) = if f i j ≠ 0 ∧ ((lsI f i t st (j - t)).1 < 0 ∨ (f i j).natAbs < (f (lsI f i t st (j - t)).1.toNat (lsI f i t st (j - t)).2.toNat).natAbs) then (((i : Nat) : Int), ((j : Nat) : Int)) else lsI f i t st (j - t) := by
  rw [show j + 1 - t = (j - t) + 1 by omega, lsI_succ, show t + (j - t) = j by omega]
theorem lsO_next {f : Fn2} {i t D : Nat} (h : t ≤ i) : lsO f t D (i + 1 - t) = lsI f i t (lsO f t D (i - t)) D := by
  rw [show i + 1 - t = (i - t) + 1 by omega]
  show lsI f (t + (i - t)) t _ D = _
  rw [show t + (i - t) = i by omega]
theorem lsI_form {f : Fn2} {R C t i j : Nat} (hti : t ≤ i) (hiR : i < R) (htj : t ≤ j) (hj : j ≤ C) : lsI f i t (lsO f t (C - t) (i - t)) (j - t) = (-1, -1) ∨
    ∃ p q : Nat, lsI f i t (lsO f t (C - t) (i - t)) (j - t) = ((p : Int), (q : Int)) ∧ p < R ∧ q < C ∧ f p q ≠ 0 := by
  have h := lsI_P (f := f) (t := t) (D := C - t) (i := i) hti ((lsO_P f t (C - t) (i - t)).as fun a b => by omega) (j - t) (by omega)
  rcases h with ⟨h1, _⟩ | ⟨p, q, h1, h2, h3, _⟩
  · exact .inl h1
  · exact .inr ⟨p, q, h1, by omega, by omega, h3⟩
/-- Two numbers and a flag. -/
def P2V (o : Int × Int) (w : World) (e : Ending) (w' : World) : Prop := e = .returned (.tuple #[.int .i64 o.1, .int .i64 o.2, .bool (decide (0 ≤ o.1))]) ∧ Below w.heap.size w w'
set_option maxRecDepth 100000 in
set_option maxHeartbeats 4000000 in
theorem impl_leastFrom (B b R C t : Nat) (f g h : Fn2) (bd : Bool) (w : World) (hK : WK w B b R C f g h bd) (ht : t ≤ R) (htC : t ≤ C) (hf : OKF R C f) (hC : C ≤ 24) (hR : R ≤ 24) :
    Calls Try.prog 155 #[.pointer (some ⟨b, 0, none⟩), .int .i64 t] w (P2V (ls2 R C f t) w) := by
  obtain ⟨A, n, cap, A2, n2, cap2, A3, n3, cap3, hW0⟩ := hK
  have HF := Lib.hid hf
  clear hf
  go_enter Try.func155, Try.ntmps155
  go_wp2_with fail
  go_loopw [7, 8, 9] (fun u v x wr => ∃ (i : Nat) (o : Int × Int), x = .int .i64 i ∧ lsO f t (C - t) (i - t) = o ∧ u = .int .i64 o.1 ∧ v = .int .i64 o.2 ∧ t ≤ i ∧ i ≤ R ∧ WB wr B b R C f g h bd A n cap A2 n2 cap2 A3 n3 cap3 ∧ Below w.heap.size w wr) (fun _ _ x _ => R - (intOf x).toNat)
  case atStart => exact ⟨t, (-1, -1), rfl, by rw [Nat.sub_self]; rfl, rfl, rfl, Nat.le_refl _, ht, hW0, Kw⟩
  case round =>
    clear hW0
    obtain ⟨i, o, rfl, hO, rfl, rfl, hti, hiR, hW, hbw⟩ := hrel
    obtain ⟨c0, c1, c2, c3, c4, c5, c6, c7, c8, c9, cf, cl⟩ := hW.cells
    have hsz := hbw.size
    by_cases hlt : i < R
    · have HO := Lib.hid hO
      have HO0 : Hid (lsI f i t (lsO f t (C - t) (i - t)) (t - t) = o) := Lib.hid (by rw [Nat.sub_self]; exact hO)
      clear hO
      go_wp2_with fail
      obtain ⟨wo2, rfl⟩ : ∃ wo : World, wo = wr := ⟨_, rfl⟩
      go_loopw [7, 8, 10] (fun u v x wr => ∃ (j : Nat) (o : Int × Int), x = .int .i64 j ∧ lsI f i t (lsO f t (C - t) (i - t)) (j - t) = o ∧ u = .int .i64 o.1 ∧ v = .int .i64 o.2 ∧ t ≤ j ∧ j ≤ C ∧ WB wr B b R C f g h bd A n cap A2 n2 cap2 A3 n3 cap3 ∧ Below w.heap.size w wr) (fun _ _ x _ => C - (intOf x).toNat)
      case atStart => exact ⟨t, o, rfl, HO0.out, rfl, rfl, Nat.le_refl _, htC, hW, hbw⟩
      case round =>
        clear c0 c1 c2 c3 c4 c5 c6 c7 c8 c9 cf cl
        clear hW hbw HO0 HO hsz
        obtain ⟨j, o2, rfl, hO, rfl, rfl, htj, hjC, hW, hbw⟩ := hrel
        obtain ⟨c0, c1, c2, c3, c4, c5, c6, c7, c8, c9, cf, cl⟩ := hW.cells
        have hsz := hbw.size
        by_cases hjl : j < C
        · have hn := HF.out i j hlt hjl
          have hx := lsI_next (f := f) (i := i) (st := lsO f t (C - t) (i - t)) htj
          have hcs := lsI_form (f := f) (C := C) hti hlt htj (Nat.le_of_lt hjl)
          rw [hO] at hx hcs
          by_cases hz : f i j = 0
          · rw [if_neg (by simp [hz])] at hx
            have HX := Lib.hid hx
            have hnz : ((((f i j).natAbs : Nat) : Int) != 0) = false := by simp [hz]
            obtain ⟨y1, y2⟩ := hn
            clear hx hz hcs hO
            generalize hv : f i j = v at *
            have HV := Lib.hid hv
            clear hv
            go_wp2_with fail
            (refine (impl_at_tb R C i j A n cap f (v) HV.out _ (B := B) (by have hm := hW.m; (with_reducible (repeat (first | exact hm | refine OR.drew ?_ | refine OR.drewN ?_ _ | refine OR.alloc ?_ _ | refine OR.b_ ?_ | refine OR.l_ ?_)))) (by omega) (by omega) (by omega) (by omega)).mono ?_; rintro e w1 ⟨rfl, hb1⟩; (have hW_1 : WB w1 B b R C f g h bd A n cap A2 n2 cap2 A3 n3 cap3 := by (with_reducible (repeat (first | exact hW | refine WB.b_ ?_ | refine WB.drew ?_ | refine WB.drewN ?_ _ | refine WB.alloc ?_ _)))); (have hbw_1 : Below w.heap.size w w1 := Kw); (have hsz_1 := hbw_1.size); clear hW hbw hb1; clear c0 c1 c2 c3 c4 c5 c6 c7 c8 c9 cf cl; have hW := hW_1; have hbw := hbw_1; clear hW_1 hbw_1; obtain ⟨c0, c1, c2, c3, c4, c5, c6, c7, c8, c9, cf, cl⟩ := hW.cells)
            go_wp2_with (go_at_call 169; refine (impl_absInt _ _ (by omega) (by omega)).mono ?_; rintro e w' ⟨rfl, rfl⟩)
            go_roundw
            case rel => exact ⟨j + 1, _, by go_num, HX.out, rfl, rfl, by omega, by omega, hW, hbw⟩
            case measure => simp only [intOf]; omega
          · rcases hcs with rfl | ⟨p, q, rfl, hpR, hqC, hpq⟩
            · rw [if_pos ⟨hz, .inl (by decide)⟩] at hx
              have HX := Lib.hid hx
              obtain ⟨y1, y2⟩ := hn
              have hnz : ((((f i j).natAbs : Nat) : Int) != 0) = true := by simp; omega
              clear hx hz hO
              generalize hv : f i j = v at *
              have HV := Lib.hid hv
              clear hv
              go_wp2_with fail
              (refine (impl_at_tb R C i j A n cap f (v) HV.out _ (B := B) (by have hm := hW.m; (with_reducible (repeat (first | exact hm | refine OR.drew ?_ | refine OR.drewN ?_ _ | refine OR.alloc ?_ _ | refine OR.b_ ?_ | refine OR.l_ ?_)))) (by omega) (by omega) (by omega) (by omega)).mono ?_; rintro e w1 ⟨rfl, hb1⟩; (have hW_1 : WB w1 B b R C f g h bd A n cap A2 n2 cap2 A3 n3 cap3 := by (with_reducible (repeat (first | exact hW | refine WB.b_ ?_ | refine WB.drew ?_ | refine WB.drewN ?_ _ | refine WB.alloc ?_ _)))); (have hbw_1 : Below w.heap.size w w1 := Kw); (have hsz_1 := hbw_1.size); clear hW hbw hb1; clear c0 c1 c2 c3 c4 c5 c6 c7 c8 c9 cf cl; have hW := hW_1; have hbw := hbw_1; clear hW_1 hbw_1; obtain ⟨c0, c1, c2, c3, c4, c5, c6, c7, c8, c9, cf, cl⟩ := hW.cells)
              go_wp2_with (go_at_call 169; refine (impl_absInt _ _ (by omega) (by omega)).mono ?_; rintro e w' ⟨rfl, rfl⟩)
              go_roundw
              case rel => exact ⟨j + 1, _, by go_num, HX.out, rfl, rfl, by omega, by omega, hW, hbw⟩
              case measure => simp only [intOf]; omega
            · simp only [Int.toNat_natCast] at hx
              have hnp := HF.out p q hpR hqC
              obtain ⟨y1, y2⟩ := hn
              obtain ⟨y3, y4⟩ := hnp
              have hnz : ((((f i j).natAbs : Nat) : Int) != 0) = true := by simp; omega
              by_cases hc : (f i j).natAbs < (f p q).natAbs
              · rw [if_pos ⟨hz, .inr hc⟩] at hx
                have HX := Lib.hid hx
                clear hx hz hO hpq
                generalize hv : f i j = v at *
                generalize hv2 : f p q = v2 at *
                have HV := Lib.hid hv
                have HV2 := Lib.hid hv2
                clear hv hv2
                go_wp2_with fail
                (refine (impl_at_tb R C i j A n cap f (v) HV.out _ (B := B) (by have hm := hW.m; (with_reducible (repeat (first | exact hm | refine OR.drew ?_ | refine OR.drewN ?_ _ | refine OR.alloc ?_ _ | refine OR.b_ ?_ | refine OR.l_ ?_)))) (by omega) (by omega) (by omega) (by omega)).mono ?_; rintro e w1 ⟨rfl, hb1⟩; (have hW_1 : WB w1 B b R C f g h bd A n cap A2 n2 cap2 A3 n3 cap3 := by (with_reducible (repeat (first | exact hW | refine WB.b_ ?_ | refine WB.drew ?_ | refine WB.drewN ?_ _ | refine WB.alloc ?_ _)))); (have hbw_1 : Below w.heap.size w w1 := Kw); (have hsz_1 := hbw_1.size); clear hW hbw hb1; clear c0 c1 c2 c3 c4 c5 c6 c7 c8 c9 cf cl; have hW := hW_1; have hbw := hbw_1; clear hW_1 hbw_1; obtain ⟨c0, c1, c2, c3, c4, c5, c6, c7, c8, c9, cf, cl⟩ := hW.cells)
                go_wp2_with (go_at_call 169; refine (impl_absInt _ _ (by omega) (by omega)).mono ?_; rintro e w' ⟨rfl, rfl⟩)
                (refine (impl_at_tb R C p q A n cap f (v2) HV2.out _ (B := B) (by have hm := hW.m; (with_reducible (repeat (first | exact hm | refine OR.drew ?_ | refine OR.drewN ?_ _ | refine OR.alloc ?_ _ | refine OR.b_ ?_ | refine OR.l_ ?_)))) (by omega) (by omega) (by omega) (by omega)).mono ?_; rintro e w1 ⟨rfl, hb1⟩; (have hW_1 : WB w1 B b R C f g h bd A n cap A2 n2 cap2 A3 n3 cap3 := by (with_reducible (repeat (first | exact hW | refine WB.b_ ?_ | refine WB.drew ?_ | refine WB.drewN ?_ _ | refine WB.alloc ?_ _)))); (have hbw_1 : Below w.heap.size w w1 := Kw); (have hsz_1 := hbw_1.size); clear hW hbw hb1; clear c0 c1 c2 c3 c4 c5 c6 c7 c8 c9 cf cl; have hW := hW_1; have hbw := hbw_1; clear hW_1 hbw_1; obtain ⟨c0, c1, c2, c3, c4, c5, c6, c7, c8, c9, cf, cl⟩ := hW.cells)
                go_wp2_with (go_at_call 169; refine (impl_absInt _ _ (by omega) (by omega)).mono ?_; rintro e w' ⟨rfl, rfl⟩)
                go_roundw
                case rel => exact ⟨j + 1, _, by go_num, HX.out, rfl, rfl, by omega, by omega, hW, hbw⟩
                case measure => simp only [intOf]; omega
              · rw [if_neg (by rintro ⟨_, h5⟩; omega)] at hx
                have HX := Lib.hid hx
                clear hx hz hO hpq
                generalize hv : f i j = v at *
                generalize hv2 : f p q = v2 at *
                have HV := Lib.hid hv
                have HV2 := Lib.hid hv2
                clear hv hv2
                go_wp2_with fail
                (refine (impl_at_tb R C i j A n cap f (v) HV.out _ (B := B) (by have hm := hW.m; (with_reducible (repeat (first | exact hm | refine OR.drew ?_ | refine OR.drewN ?_ _ | refine OR.alloc ?_ _ | refine OR.b_ ?_ | refine OR.l_ ?_)))) (by omega) (by omega) (by omega) (by omega)).mono ?_; rintro e w1 ⟨rfl, hb1⟩; (have hW_1 : WB w1 B b R C f g h bd A n cap A2 n2 cap2 A3 n3 cap3 := by (with_reducible (repeat (first | exact hW | refine WB.b_ ?_ | refine WB.drew ?_ | refine WB.drewN ?_ _ | refine WB.alloc ?_ _)))); (have hbw_1 : Below w.heap.size w w1 := Kw); (have hsz_1 := hbw_1.size); clear hW hbw hb1; clear c0 c1 c2 c3 c4 c5 c6 c7 c8 c9 cf cl; have hW := hW_1; have hbw := hbw_1; clear hW_1 hbw_1; obtain ⟨c0, c1, c2, c3, c4, c5, c6, c7, c8, c9, cf, cl⟩ := hW.cells)
                go_wp2_with (go_at_call 169; refine (impl_absInt _ _ (by omega) (by omega)).mono ?_; rintro e w' ⟨rfl, rfl⟩)
                (refine (impl_at_tb R C p q A n cap f (v2) HV2.out _ (B := B) (by have hm := hW.m; (with_reducible (repeat (first | exact hm | refine OR.drew ?_ | refine OR.drewN ?_ _ | refine OR.alloc ?_ _ | refine OR.b_ ?_ | refine OR.l_ ?_)))) (by omega) (by omega) (by omega) (by omega)).mono ?_; rintro e w1 ⟨rfl, hb1⟩; (have hW_1 : WB w1 B b R C f g h bd A n cap A2 n2 cap2 A3 n3 cap3 := by (with_reducible (repeat (first | exact hW | refine WB.b_ ?_ | refine WB.drew ?_ | refine WB.drewN ?_ _ | refine WB.alloc ?_ _)))); (have hbw_1 : Below w.heap.size w w1 := Kw); (have hsz_1 := hbw_1.size); clear hW hbw hb1; clear c0 c1 c2 c3 c4 c5 c6 c7 c8 c9 cf cl; have hW := hW_1; have hbw := hbw_1; clear hW_1 hbw_1; obtain ⟨c0, c1, c2, c3, c4, c5, c6, c7, c8, c9, cf, cl⟩ := hW.cells)
                go_wp2_with (go_at_call 169; refine (impl_absInt _ _ (by omega) (by omega)).mono ?_; rintro e w' ⟨rfl, rfl⟩)
                go_roundw
                case rel => exact ⟨j + 1, _, by go_num, HX.out, rfl, rfl, by omega, by omega, hW, hbw⟩
                case measure => simp only [intOf]; omega
        · obtain rfl : j = C := by omega
          have HX : Hid (lsO f t (j - t) (i + 1 - t) = o2) := Lib.hid (by rw [lsO_next hti]; exact hO)
          clear hO
          go_wp2_with fail
          go_roundw
          case rel => exact ⟨i + 1, o2, by go_num, HX.out, rfl, rfl, by omega, by omega, hW, hbw⟩
          case measure => simp only [intOf]; omega
    · obtain rfl : i = R := by omega
      have HX : Hid (ls2 i C f t = o) := Lib.hid hO
      have hb : -1 ≤ o.1 ∧ o.1 ≤ 100 := by
        rcases ls2_cases i C f t with ⟨e, _⟩ | ⟨p, q, e, h3, _⟩
        · rw [← HX.out, e]; decide
        · rw [← HX.out, e]; dsimp only; omega
      clear hO
      go_wp2_with fail
      go_ret3
      rw [HX.out]
      exact ⟨rfl, Kw⟩
end Go.Proofs.Ytacjonkehcamgaa

/-
  DERIVED. leastIn and others of a work.
-/
namespace Go.Proofs.Ytacjonkehcamgaa
open Go.RowKit
set_option linter.unusedVariables false
set_option linter.unusedSimpArgs false
theorem lst_succ {f : Fn2} {j t i : Nat} (h : t ≤ i) : lstK f j t (i + 1 - t) = if f i j ≠ 0 ∧ (lstK f j t (i - t) < 0 ∨ (f i j).natAbs < (f (lstK f j t (i - t)).toNat j).natAbs) then (i : Int) else lstK f j t (i - t) := by
  rw [show i + 1 - t = (i - t) + 1 by omega, lstK_succ, show t + (i - t) = i by omega]
set_option maxRecDepth 100000 in
set_option maxHeartbeats 4000000 in
theorem impl_leastIn (B b R C t j : Nat) (f g h : Fn2) (bd : Bool) (w : World) (hK : WK w B b R C f g h bd) (ht : t ≤ R) (hj : j < C) (hf : OKF R C f) (hC : C ≤ 24) (hR : R ≤ 24) :
    Calls Try.prog 145 #[.pointer (some ⟨b, 0, none⟩), .int .i64 t, .int .i64 j] w (BV (.int .i64 (lst R f j t)) w) := by
  obtain ⟨A, n, cap, A2, n2, cap2, A3, n3, cap3, hW0⟩ := hK
  have HF := Lib.hid hf
  clear hf
  go_enter Try.func145, Try.ntmps145
  go_wp2_with fail
  go_loopw [7, 8, 9] (fun u v _ wr => ∃ (i : Nat), v = .int .i64 i ∧ u = .int .i64 (lstK f j t (i - t)) ∧ t ≤ i ∧ i ≤ R ∧ WB wr B b R C f g h bd A n cap A2 n2 cap2 A3 n3 cap3 ∧ Below w.heap.size w wr) (fun _ v _ _ => R - (intOf v).toNat)
  case atStart => exact ⟨t, rfl, by rw [Nat.sub_self]; rfl, Nat.le_refl _, ht, hW0, Kw⟩
  case round =>
    clear hW0
    obtain ⟨i, rfl, rfl, hti, hiR, hW, hbw⟩ := hrel
    obtain ⟨c0, c1, c2, c3, c4, c5, c6, c7, c8, c9, cf, cl⟩ := hW.cells
    have hsz := hbw.size
    by_cases hlt : i < R
    · have hn := HF.out i j hlt hj
      have HS := Lib.hid (lst_succ (f := f) (j := j) hti)
      have hcs := lstK_cases f j t (i - t)
      by_cases hz : f i j = 0
      · have hx := HS.out
        rw [if_neg (by simp [hz])] at hx
        have HX := Lib.hid hx
        have hnz : ((((f i j).natAbs : Nat) : Int) != 0) = false := by simp [hz]
        obtain ⟨y1, y2⟩ := hn
        have hb : -1 ≤ lstK f j t (i - t) ∧ lstK f j t (i - t) ≤ 100 := by
          rcases hcs with ⟨e, _⟩ | ⟨p, e, _, h3, _⟩
          · omega
          · omega
        obtain ⟨b1, b2⟩ := hb
        clear hx hz hcs HS
        generalize lstK f j t (i - t) = q at *
        generalize hv : f i j = v at *
        have HV := Lib.hid hv
        clear hv
        go_wp2_with fail
        (refine (impl_at_tb R C i j A n cap f (v) HV.out _ (B := B) (by have hm := hW.m; (with_reducible (repeat (first | exact hm | refine OR.drew ?_ | refine OR.drewN ?_ _ | refine OR.alloc ?_ _ | refine OR.b_ ?_ | refine OR.l_ ?_)))) (by omega) (by omega) (by omega) (by omega)).mono ?_; rintro e w1 ⟨rfl, hb1⟩; (have hW_1 : WB w1 B b R C f g h bd A n cap A2 n2 cap2 A3 n3 cap3 := by (with_reducible (repeat (first | exact hW | refine WB.b_ ?_ | refine WB.drew ?_ | refine WB.drewN ?_ _ | refine WB.alloc ?_ _)))); (have hbw_1 : Below w.heap.size w w1 := Kw); (have hsz_1 := hbw_1.size); clear hW hbw hb1; clear c0 c1 c2 c3 c4 c5 c6 c7 c8 c9 cf cl; have hW := hW_1; have hbw := hbw_1; clear hW_1 hbw_1; obtain ⟨c0, c1, c2, c3, c4, c5, c6, c7, c8, c9, cf, cl⟩ := hW.cells)
        go_wp2_with (go_at_call 169; refine (impl_absInt _ _ (by omega) (by omega)).mono ?_; rintro e w' ⟨rfl, rfl⟩)
        go_roundw
        case rel => exact ⟨i + 1, by go_num, by rw [HX.out], by omega, by omega, hW, hbw⟩
        case measure => simp only [intOf]; omega
      · rcases hcs with ⟨e, _⟩ | ⟨p, e, h2, h3, h4, _⟩
        · have hx := HS.out
          rw [if_pos ⟨hz, .inl (by omega)⟩] at hx
          have HX := Lib.hid hx
          rw [e]
          obtain ⟨y1, y2⟩ := hn
          have hnz : ((((f i j).natAbs : Nat) : Int) != 0) = true := by simp; omega
          clear hx hz HS e
          generalize hv : f i j = v at *
          have HV := Lib.hid hv
          clear hv
          go_wp2_with fail
          (refine (impl_at_tb R C i j A n cap f (v) HV.out _ (B := B) (by have hm := hW.m; (with_reducible (repeat (first | exact hm | refine OR.drew ?_ | refine OR.drewN ?_ _ | refine OR.alloc ?_ _ | refine OR.b_ ?_ | refine OR.l_ ?_)))) (by omega) (by omega) (by omega) (by omega)).mono ?_; rintro e w1 ⟨rfl, hb1⟩; (have hW_1 : WB w1 B b R C f g h bd A n cap A2 n2 cap2 A3 n3 cap3 := by (with_reducible (repeat (first | exact hW | refine WB.b_ ?_ | refine WB.drew ?_ | refine WB.drewN ?_ _ | refine WB.alloc ?_ _)))); (have hbw_1 : Below w.heap.size w w1 := Kw); (have hsz_1 := hbw_1.size); clear hW hbw hb1; clear c0 c1 c2 c3 c4 c5 c6 c7 c8 c9 cf cl; have hW := hW_1; have hbw := hbw_1; clear hW_1 hbw_1; obtain ⟨c0, c1, c2, c3, c4, c5, c6, c7, c8, c9, cf, cl⟩ := hW.cells)
          go_wp2_with (go_at_call 169; refine (impl_absInt _ _ (by omega) (by omega)).mono ?_; rintro e w' ⟨rfl, rfl⟩)
          go_roundw
          case rel => exact ⟨i + 1, by go_num, by rw [HX.out], by omega, by omega, hW, hbw⟩
          case measure => simp only [intOf]; omega
        · have e2 : (lstK f j t (i - t)).toNat = p := by omega
          have hx := HS.out
          rw [e2] at hx
          have hnp := HF.out p j (by omega) hj
          obtain ⟨y1, y2⟩ := hn
          obtain ⟨y3, y4⟩ := hnp
          have hnz : ((((f i j).natAbs : Nat) : Int) != 0) = true := by simp; omega
          rw [e] at hx ⊢
          have hpR : p < R := by omega
          by_cases hc : (f i j).natAbs < (f p j).natAbs
          · rw [if_pos ⟨hz, .inr hc⟩] at hx
            have HX := Lib.hid hx
            clear hx hz HS e h4 e2
            generalize hv : f i j = v at *
            generalize hv2 : f p j = v2 at *
            have HV := Lib.hid hv
            have HV2 := Lib.hid hv2
            clear hv hv2
            go_wp2_with fail
            (refine (impl_at_tb R C i j A n cap f (v) HV.out _ (B := B) (by have hm := hW.m; (with_reducible (repeat (first | exact hm | refine OR.drew ?_ | refine OR.drewN ?_ _ | refine OR.alloc ?_ _ | refine OR.b_ ?_ | refine OR.l_ ?_)))) (by omega) (by omega) (by omega) (by omega)).mono ?_; rintro e w1 ⟨rfl, hb1⟩; (have hW_1 : WB w1 B b R C f g h bd A n cap A2 n2 cap2 A3 n3 cap3 := by (with_reducible (repeat (first | exact hW | refine WB.b_ ?_ | refine WB.drew ?_ | refine WB.drewN ?_ _ | refine WB.alloc ?_ _)))); (have hbw_1 : Below w.heap.size w w1 := Kw); (have hsz_1 := hbw_1.size); clear hW hbw hb1; clear c0 c1 c2 c3 c4 c5 c6 c7 c8 c9 cf cl; have hW := hW_1; have hbw := hbw_1; clear hW_1 hbw_1; obtain ⟨c0, c1, c2, c3, c4, c5, c6, c7, c8, c9, cf, cl⟩ := hW.cells)
            go_wp2_with (go_at_call 169; refine (impl_absInt _ _ (by omega) (by omega)).mono ?_; rintro e w' ⟨rfl, rfl⟩)
            (refine (impl_at_tb R C p j A n cap f (v2) HV2.out _ (B := B) (by have hm := hW.m; (with_reducible (repeat (first | exact hm | refine OR.drew ?_ | refine OR.drewN ?_ _ | refine OR.alloc ?_ _ | refine OR.b_ ?_ | refine OR.l_ ?_)))) (by omega) (by omega) (by omega) (by omega)).mono ?_; rintro e w1 ⟨rfl, hb1⟩; (have hW_1 : WB w1 B b R C f g h bd A n cap A2 n2 cap2 A3 n3 cap3 := by (with_reducible (repeat (first | exact hW | refine WB.b_ ?_ | refine WB.drew ?_ | refine WB.drewN ?_ _ | refine WB.alloc ?_ _)))); (have hbw_1 : Below w.heap.size w w1 := Kw); (have hsz_1 := hbw_1.size); clear hW hbw hb1; clear c0 c1 c2 c3 c4 c5 c6 c7 c8 c9 cf cl; have hW := hW_1; have hbw := hbw_1; clear hW_1 hbw_1; obtain ⟨c0, c1, c2, c3, c4, c5, c6, c7, c8, c9, cf, cl⟩ := hW.cells)
            go_wp2_with (go_at_call 169; refine (impl_absInt _ _ (by omega) (by omega)).mono ?_; rintro e w' ⟨rfl, rfl⟩)
            go_roundw
            case rel => exact ⟨i + 1, by go_num, by rw [HX.out], by omega, by omega, hW, hbw⟩
            case measure => simp only [intOf]; omega
          · rw [if_neg (by rintro ⟨_, h5⟩; omega)] at hx
            have HX := Lib.hid hx
            clear hx hz HS e h4 e2
            generalize hv : f i j = v at *
            generalize hv2 : f p j = v2 at *
            have HV := Lib.hid hv
            have HV2 := Lib.hid hv2
            clear hv hv2
            go_wp2_with fail
            (refine (impl_at_tb R C i j A n cap f (v) HV.out _ (B := B) (by have hm := hW.m; (with_reducible (repeat (first | exact hm | refine OR.drew ?_ | refine OR.drewN ?_ _ | refine OR.alloc ?_ _ | refine OR.b_ ?_ | refine OR.l_ ?_)))) (by omega) (by omega) (by omega) (by omega)).mono ?_; rintro e w1 ⟨rfl, hb1⟩; (have hW_1 : WB w1 B b R C f g h bd A n cap A2 n2 cap2 A3 n3 cap3 := by (with_reducible (repeat (first | exact hW | refine WB.b_ ?_ | refine WB.drew ?_ | refine WB.drewN ?_ _ | refine WB.alloc ?_ _)))); (have hbw_1 : Below w.heap.size w w1 := Kw); (have hsz_1 := hbw_1.size); clear hW hbw hb1; clear c0 c1 c2 c3 c4 c5 c6 c7 c8 c9 cf cl; have hW := hW_1; have hbw := hbw_1; clear hW_1 hbw_1; obtain ⟨c0, c1, c2, c3, c4, c5, c6, c7, c8, c9, cf, cl⟩ := hW.cells)
            go_wp2_with (go_at_call 169; refine (impl_absInt _ _ (by omega) (by omega)).mono ?_; rintro e w' ⟨rfl, rfl⟩)
            (refine (impl_at_tb R C p j A n cap f (v2) HV2.out _ (B := B) (by have hm := hW.m; (with_reducible (repeat (first | exact hm | refine OR.drew ?_ | refine OR.drewN ?_ _ | refine OR.alloc ?_ _ | refine OR.b_ ?_ | refine OR.l_ ?_)))) (by omega) (by omega) (by omega) (by omega)).mono ?_; rintro e w1 ⟨rfl, hb1⟩; (have hW_1 : WB w1 B b R C f g h bd A n cap A2 n2 cap2 A3 n3 cap3 := by (with_reducible (repeat (first | exact hW | refine WB.b_ ?_ | refine WB.drew ?_ | refine WB.drewN ?_ _ | refine WB.alloc ?_ _)))); (have hbw_1 : Below w.heap.size w w1 := Kw); (have hsz_1 := hbw_1.size); clear hW hbw hb1; clear c0 c1 c2 c3 c4 c5 c6 c7 c8 c9 cf cl; have hW := hW_1; have hbw := hbw_1; clear hW_1 hbw_1; obtain ⟨c0, c1, c2, c3, c4, c5, c6, c7, c8, c9, cf, cl⟩ := hW.cells)
            go_wp2_with (go_at_call 169; refine (impl_absInt _ _ (by omega) (by omega)).mono ?_; rintro e w' ⟨rfl, rfl⟩)
            go_roundw
            case rel => exact ⟨i + 1, by go_num, by rw [HX.out], by omega, by omega, hW, hbw⟩
            case measure => simp only [intOf]; omega
    · obtain rfl : i = R := by omega
      have hb : -1 ≤ lstK f j t (i - t) ∧ lstK f j t (i - t) ≤ 100 := by
        rcases lstK_cases f j t (i - t) with ⟨e, _⟩ | ⟨p, e, _, h3, _⟩
        · omega
        · omega
      obtain ⟨b1, b2⟩ := hb
      have HL : Hid (lst i f j t = lstK f j t (i - t)) := Lib.hid rfl
      generalize lstK f j t (i - t) = q at *
      go_wp2_with fail
      go_ret
      exact BV.mk (vint HL.out.symm) hbw
set_option maxRecDepth 100000 in
set_option maxHeartbeats 4000000 in
theorem impl_others (B b R C t p j : Nat) (f g h : Fn2) (bd : Bool) (w : World) (hK : WK w B b R C f g h bd) (ht : t ≤ R) (hj : j < C) (hp : p < R) (hC : C ≤ 24) (hR : R ≤ 24) :
    Calls Try.prog 146 #[.pointer (some ⟨b, 0, none⟩), .int .i64 t, .int .i64 p, .int .i64 j] w (BV (.bool (oth R f j t p)) w) := by
  obtain ⟨A, n, cap, A2, n2, cap2, A3, n3, cap3, hW0⟩ := hK
  have HNO := Lib.hid (oth_no (R := R) (f := f) (j := j) (t := t) (p := p))
  have HYES := Lib.hid (fun i h1 h2 h3 h4 => (oth_iff (R := R) (f := f) (j := j) (t := t) (p := p)).2 ⟨i, h1, h2, h3, h4⟩)
  generalize oth R f j t p = res at *
  go_enter Try.func146, Try.ntmps146
  go_wp2_with fail
  go_loopw [9] (fun v wr => ∃ (i : Nat), v = .int .i64 i ∧ t ≤ i ∧ i ≤ R ∧ (∀ k, t ≤ k → k < i → ¬ (k ≠ p ∧ f k j ≠ 0)) ∧ WB wr B b R C f g h bd A n cap A2 n2 cap2 A3 n3 cap3 ∧ Below w.heap.size w wr) (fun v _ => R - (intOf v).toNat)
  case atStart => exact ⟨t, rfl, Nat.le_refl _, ht, fun k h1 h2 => absurd h1 (by omega), hW0, Kw⟩
  case round =>
    clear hW0
    obtain ⟨i, rfl, hti, hiR, hno, hW, hbw⟩ := hrel
    obtain ⟨c0, c1, c2, c3, c4, c5, c6, c7, c8, c9, cf, cl⟩ := hW.cells
    have hsz := hbw.size
    have HN := Lib.hid hno
    clear hno
    by_cases hlt : i < R
    · by_cases hip : i = p
      · have hb : ((i : Int) != (p : Int)) = false := by simp [hip]
        have HS : Hid (∀ k, t ≤ k → k < i + 1 → ¬ (k ≠ p ∧ f k j ≠ 0)) := Lib.hid (fun k h1 h2 => by
          by_cases e : k = i
          · exact fun h3 => h3.1 (e.trans hip)
          · exact HN.out k h1 (by omega))
        clear hip
        go_wp2_with fail
        go_roundw
        case rel => exact ⟨i + 1, by go_num, by omega, by omega, HS.out, hW, hbw⟩
        case measure => simp only [intOf]; omega
      · have hb : ((i : Int) != (p : Int)) = true := by simp; omega
        have HIP := Lib.hid hip
        clear hip
        by_cases hz : f i j = 0
        · have HS : Hid (∀ k, t ≤ k → k < i + 1 → ¬ (k ≠ p ∧ f k j ≠ 0)) := Lib.hid (fun k h1 h2 => by
            by_cases e : k = i
            · exact fun h3 => h3.2 (by rw [e]; exact hz)
            · exact HN.out k h1 (by omega))
          have hnz : (f i j != 0) = false := by simp [hz]
          clear hz
          generalize hv : f i j = v at *
          have HV := Lib.hid hv
          clear hv
          go_wp2_with fail
          (refine (impl_at_tb R C i j A n cap f (v) HV.out _ (B := B) (by have hm := hW.m; (with_reducible (repeat (first | exact hm | refine OR.drew ?_ | refine OR.drewN ?_ _ | refine OR.alloc ?_ _ | refine OR.b_ ?_ | refine OR.l_ ?_)))) (by omega) (by omega) (by omega) (by omega)).mono ?_; rintro e w1 ⟨rfl, hb1⟩; (have hW_1 : WB w1 B b R C f g h bd A n cap A2 n2 cap2 A3 n3 cap3 := by (with_reducible (repeat (first | exact hW | refine WB.b_ ?_ | refine WB.drew ?_ | refine WB.drewN ?_ _ | refine WB.alloc ?_ _)))); (have hbw_1 : Below w.heap.size w w1 := Kw); (have hsz_1 := hbw_1.size); clear hW hbw hb1; clear c0 c1 c2 c3 c4 c5 c6 c7 c8 c9 cf cl; have hW := hW_1; have hbw := hbw_1; clear hW_1 hbw_1; obtain ⟨c0, c1, c2, c3, c4, c5, c6, c7, c8, c9, cf, cl⟩ := hW.cells)
          go_wp2_with fail
          go_roundw
          case rel => exact ⟨i + 1, by go_num, by omega, by omega, HS.out, hW, hbw⟩
          case measure => simp only [intOf]; omega
        · have HR := Lib.hid (HYES.out i hti hlt HIP.out hz)
          have hnz : (f i j != 0) = true := by simpa using hz
          clear hz
          generalize hv : f i j = v at *
          have HV := Lib.hid hv
          clear hv
          go_wp2_with fail
          (refine (impl_at_tb R C i j A n cap f (v) HV.out _ (B := B) (by have hm := hW.m; (with_reducible (repeat (first | exact hm | refine OR.drew ?_ | refine OR.drewN ?_ _ | refine OR.alloc ?_ _ | refine OR.b_ ?_ | refine OR.l_ ?_)))) (by omega) (by omega) (by omega) (by omega)).mono ?_; rintro e w1 ⟨rfl, hb1⟩; (have hW_1 : WB w1 B b R C f g h bd A n cap A2 n2 cap2 A3 n3 cap3 := by (with_reducible (repeat (first | exact hW | refine WB.b_ ?_ | refine WB.drew ?_ | refine WB.drewN ?_ _ | refine WB.alloc ?_ _)))); (have hbw_1 : Below w.heap.size w w1 := Kw); (have hsz_1 := hbw_1.size); clear hW hbw hb1; clear c0 c1 c2 c3 c4 c5 c6 c7 c8 c9 cf cl; have hW := hW_1; have hbw := hbw_1; clear hW_1 hbw_1; obtain ⟨c0, c1, c2, c3, c4, c5, c6, c7, c8, c9, cf, cl⟩ := hW.cells)
          go_wp2_with fail
          go_ret
          exact BV.mk (vbool HR.out.symm) hbw
    · obtain rfl : i = R := by omega
      have HR := Lib.hid (HNO.out HN.out)
      go_wp2_with fail
      go_ret
      exact BV.mk (vbool HR.out.symm) hbw
end Go.Proofs.Ytacjonkehcamgaa

/-
  DERIVED. Sums, products, makings of ratios, both.
-/
namespace Go.Proofs.Ytacjonkehcamgaa
open Go.RowKit
set_option linter.unusedVariables false
set_option linter.unusedSimpArgs false
set_option maxHeartbeats 4000000 in
theorem impl_AddRatios (n d n' d' : Int) (w : World) : Calls Try.prog 185 #[.agg #[.int .i64 n, .int .i64 d], .agg #[.int .i64 n', .int .i64 d']] w (BV (rV (addR (n, d) (n', d'))) w) := by
  rcases ha : ratOk n d with _ | _
  · have hv : addR (n, d) (n', d') = (0, 0) := by unfold addR; simp only [ha, Bool.false_and]; rfl
    have HV := Lib.hid hv
    have HA := Lib.hid ha
    clear hv ha
    go_enter Try.func185, Try.ntmps185
    go_wp2_with fail
    refine (impl_IsRatio n d _).mono ?_
    rw [HA.out]
    rintro e w1 ⟨rfl, hb1⟩
    have hsz1 := hb1.size; simp at hsz1; have hA1 : BQ w1 w.heap.size n d := (by (with_reducible (repeat (first | assumption | refine Blk.new_at _ _ _ _ Ks | refine Blk.below ?_ (by assumption) Ks | apply Blk.drew | apply Blk.drewN | refine Blk.far ?_ (by simp only [ne_eq]; omega) _ | apply Blk.alloc)))); have hB1 : BQ w1 (w.heap.size + 1) n' d' := (by (with_reducible (repeat (first | assumption | refine Blk.new_at _ _ _ _ Ks | refine Blk.below ?_ (by assumption) Ks | apply Blk.drew | apply Blk.drewN | refine Blk.far ?_ (by simp only [ne_eq]; omega) _ | apply Blk.alloc)))); have hR1 : BQ w1 (w.heap.size + 1 + 1) 0 0 := (by (with_reducible (repeat (first | assumption | refine Blk.new_at _ _ _ _ Ks | refine Blk.below ?_ (by assumption) Ks | apply Blk.drew | apply Blk.drewN | refine Blk.far ?_ (by simp only [ne_eq]; omega) _ | apply Blk.alloc)))); have hbw1 : Below w.heap.size w w1 := Kw; obtain ⟨aa, ab, af, al⟩ := hA1.cells; obtain ⟨ba, bb, bf, bl⟩ := hB1.cells; obtain ⟨ra, rb, rf, rl⟩ := hR1.cells
    go_wp2_with fail
    refine ret_Q Try.results185 rfl (BQ.put hR1) rfl ?_
    exact BV.mk (rV_mk HV.out) Kw
  · rcases hb : ratOk n' d' with _ | _
    · have hv : addR (n, d) (n', d') = (0, 0) := by unfold addR; simp only [hb, Bool.and_false]; rfl
      have HV := Lib.hid hv
      have HA := Lib.hid ha
      have HB := Lib.hid hb
      clear hv ha hb
      go_enter Try.func185, Try.ntmps185
      go_wp2_with fail
      refine (impl_IsRatio n d _).mono ?_
      rw [HA.out]
      rintro e w1 ⟨rfl, hb1⟩
      have hsz1 := hb1.size; simp at hsz1; have hA1 : BQ w1 w.heap.size n d := (by (with_reducible (repeat (first | assumption | refine Blk.new_at _ _ _ _ Ks | refine Blk.below ?_ (by assumption) Ks | apply Blk.drew | apply Blk.drewN | refine Blk.far ?_ (by simp only [ne_eq]; omega) _ | apply Blk.alloc)))); have hB1 : BQ w1 (w.heap.size + 1) n' d' := (by (with_reducible (repeat (first | assumption | refine Blk.new_at _ _ _ _ Ks | refine Blk.below ?_ (by assumption) Ks | apply Blk.drew | apply Blk.drewN | refine Blk.far ?_ (by simp only [ne_eq]; omega) _ | apply Blk.alloc)))); have hR1 : BQ w1 (w.heap.size + 1 + 1) 0 0 := (by (with_reducible (repeat (first | assumption | refine Blk.new_at _ _ _ _ Ks | refine Blk.below ?_ (by assumption) Ks | apply Blk.drew | apply Blk.drewN | refine Blk.far ?_ (by simp only [ne_eq]; omega) _ | apply Blk.alloc)))); have hbw1 : Below w.heap.size w w1 := Kw; obtain ⟨aa, ab, af, al⟩ := hA1.cells; obtain ⟨ba, bb, bf, bl⟩ := hB1.cells; obtain ⟨ra, rb, rf, rl⟩ := hR1.cells
      go_wp2_with fail
      refine (impl_IsRatio n' d' _).mono ?_
      rw [HB.out]
      rintro e w2 ⟨rfl, hb2⟩
      have hsz2 := hb2.size; have hA2 : BQ w2 w.heap.size n d := (by (with_reducible (repeat (first | exact hA1 | refine Blk.new_at _ _ _ _ Ks | refine Blk.below ?_ (by assumption) Ks | apply Blk.drew | apply Blk.drewN | refine Blk.far ?_ (by simp only [ne_eq]; omega) _ | apply Blk.alloc)))); have hB2 : BQ w2 (w.heap.size + 1) n' d' := (by (with_reducible (repeat (first | exact hB1 | refine Blk.new_at _ _ _ _ Ks | refine Blk.below ?_ (by assumption) Ks | apply Blk.drew | apply Blk.drewN | refine Blk.far ?_ (by simp only [ne_eq]; omega) _ | apply Blk.alloc)))); have hR2 : BQ w2 (w.heap.size + 1 + 1) 0 0 := (by (with_reducible (repeat (first | exact hR1 | refine Blk.new_at _ _ _ _ Ks | refine Blk.below ?_ (by assumption) Ks | apply Blk.drew | apply Blk.drewN | refine Blk.far ?_ (by simp only [ne_eq]; omega) _ | apply Blk.alloc)))); have hbw2 : Below w.heap.size w w2 := Kw; clear aa ab af al ba bb bf bl ra rb rf rl hA1 hB1 hR1 hbw1; obtain ⟨aa, ab, af, al⟩ := hA2.cells; obtain ⟨ba, bb, bf, bl⟩ := hB2.cells; obtain ⟨ra, rb, rf, rl⟩ := hR2.cells
      go_wp2_with fail
      refine ret_Q Try.results185 rfl (BQ.put hR2) rfl ?_
      exact BV.mk (rV_mk HV.out) Kw
    · have hv : addR (n, d) (n', d') = lowR (n * d' + n' * d) (d * d') := by unfold addR; simp only [ha, hb, Bool.and_self, if_true]
      obtain ⟨⟨k1, k2⟩, ⟨k3, k4⟩, ⟨k5, k6⟩, ⟨k7, k8⟩⟩ := rat_bd (a := (n, d)) (b := (n', d')) ha hb
      simp only [] at k1 k2 k3 k4 k5 k6 k7 k8
      have HV := Lib.hid hv
      have HA := Lib.hid ha
      have HB := Lib.hid hb
      clear hv ha hb
      go_enter Try.func185, Try.ntmps185
      go_wp2_with fail
      refine (impl_IsRatio n d _).mono ?_
      rw [HA.out]
      rintro e w1 ⟨rfl, hb1⟩
      have hsz1 := hb1.size; simp at hsz1; have hA1 : BQ w1 w.heap.size n d := (by (with_reducible (repeat (first | assumption | refine Blk.new_at _ _ _ _ Ks | refine Blk.below ?_ (by assumption) Ks | apply Blk.drew | apply Blk.drewN | refine Blk.far ?_ (by simp only [ne_eq]; omega) _ | apply Blk.alloc)))); have hB1 : BQ w1 (w.heap.size + 1) n' d' := (by (with_reducible (repeat (first | assumption | refine Blk.new_at _ _ _ _ Ks | refine Blk.below ?_ (by assumption) Ks | apply Blk.drew | apply Blk.drewN | refine Blk.far ?_ (by simp only [ne_eq]; omega) _ | apply Blk.alloc)))); have hR1 : BQ w1 (w.heap.size + 1 + 1) 0 0 := (by (with_reducible (repeat (first | assumption | refine Blk.new_at _ _ _ _ Ks | refine Blk.below ?_ (by assumption) Ks | apply Blk.drew | apply Blk.drewN | refine Blk.far ?_ (by simp only [ne_eq]; omega) _ | apply Blk.alloc)))); have hbw1 : Below w.heap.size w w1 := Kw; obtain ⟨aa, ab, af, al⟩ := hA1.cells; obtain ⟨ba, bb, bf, bl⟩ := hB1.cells; obtain ⟨ra, rb, rf, rl⟩ := hR1.cells
      go_wp2_with fail
      refine (impl_IsRatio n' d' _).mono ?_
      rw [HB.out]
      rintro e w2 ⟨rfl, hb2⟩
      have hsz2 := hb2.size; have hA2 : BQ w2 w.heap.size n d := (by (with_reducible (repeat (first | exact hA1 | refine Blk.new_at _ _ _ _ Ks | refine Blk.below ?_ (by assumption) Ks | apply Blk.drew | apply Blk.drewN | refine Blk.far ?_ (by simp only [ne_eq]; omega) _ | apply Blk.alloc)))); have hB2 : BQ w2 (w.heap.size + 1) n' d' := (by (with_reducible (repeat (first | exact hB1 | refine Blk.new_at _ _ _ _ Ks | refine Blk.below ?_ (by assumption) Ks | apply Blk.drew | apply Blk.drewN | refine Blk.far ?_ (by simp only [ne_eq]; omega) _ | apply Blk.alloc)))); have hR2 : BQ w2 (w.heap.size + 1 + 1) 0 0 := (by (with_reducible (repeat (first | exact hR1 | refine Blk.new_at _ _ _ _ Ks | refine Blk.below ?_ (by assumption) Ks | apply Blk.drew | apply Blk.drewN | refine Blk.far ?_ (by simp only [ne_eq]; omega) _ | apply Blk.alloc)))); have hbw2 : Below w.heap.size w w2 := Kw; clear aa ab af al ba bb bf bl ra rb rf rl hA1 hB1 hR1 hbw1; obtain ⟨aa, ab, af, al⟩ := hA2.cells; obtain ⟨ba, bb, bf, bl⟩ := hB2.cells; obtain ⟨ra, rb, rf, rl⟩ := hR2.cells
      go_wp2_with fail
      refine (impl_lowest (n * d' + n' * d) (d * d') (by omega) (by omega) (by omega) _).mono ?_
      rintro e w3 ⟨rfl, hb3⟩
      have hR3 : BQ w3 (w.heap.size + 1 + 1) 0 0 := by (with_reducible (repeat (first | exact hR2 | refine Blk.new_at _ _ _ _ Ks | refine Blk.below ?_ (by assumption) Ks | apply Blk.drew | apply Blk.drewN | refine Blk.far ?_ (by simp only [ne_eq]; omega) _ | apply Blk.alloc)))
      have hbw3 : Below w.heap.size w w3 := Kw
      obtain ⟨sa, sb, sf, sl⟩ := hR3.cells
      unfold rV
      go_wp2_with fail
      refine ret_Q Try.results185 rfl (BQ.put hR3) rfl ?_
      exact BV.mk (rV_mk HV.out) Kw
set_option maxHeartbeats 4000000 in
theorem spec_AddRatios (n d n' d' : Int) (w : World) : Calls Try.prog 97 #[.agg #[.int .i64 n, .int .i64 d], .agg #[.int .i64 n', .int .i64 d']] w (BV (rV (addR (n, d) (n', d'))) w) := by
  rcases ha : ratOk n d with _ | _
  · have hv : addR (n, d) (n', d') = (0, 0) := by unfold addR; simp only [ha, Bool.false_and]; rfl
    have HV := Lib.hid hv
    have HA := Lib.hid ha
    clear hv ha
    go_enter Try.func97, Try.ntmps97
    go_wp2_with fail
    refine (spec_IsRatio n d _).mono ?_
    rw [HA.out]
    rintro e w1 ⟨rfl, hb1⟩
    have hsz1 := hb1.size; simp at hsz1; have hA1 : BQ w1 w.heap.size n d := (by (with_reducible (repeat (first | assumption | refine Blk.new_at _ _ _ _ Ks | refine Blk.below ?_ (by assumption) Ks | apply Blk.drew | apply Blk.drewN | refine Blk.far ?_ (by simp only [ne_eq]; omega) _ | apply Blk.alloc)))); have hB1 : BQ w1 (w.heap.size + 1) n' d' := (by (with_reducible (repeat (first | assumption | refine Blk.new_at _ _ _ _ Ks | refine Blk.below ?_ (by assumption) Ks | apply Blk.drew | apply Blk.drewN | refine Blk.far ?_ (by simp only [ne_eq]; omega) _ | apply Blk.alloc)))); have hR1 : BQ w1 (w.heap.size + 1 + 1) 0 0 := (by (with_reducible (repeat (first | assumption | refine Blk.new_at _ _ _ _ Ks | refine Blk.below ?_ (by assumption) Ks | apply Blk.drew | apply Blk.drewN | refine Blk.far ?_ (by simp only [ne_eq]; omega) _ | apply Blk.alloc)))); have hbw1 : Below w.heap.size w w1 := Kw; obtain ⟨aa, ab, af, al⟩ := hA1.cells; obtain ⟨ba, bb, bf, bl⟩ := hB1.cells; obtain ⟨ra, rb, rf, rl⟩ := hR1.cells
    go_wp2_with fail
    refine ret_Q Try.results97 rfl (BQ.put hR1) rfl ?_
    exact BV.mk (rV_mk HV.out) Kw
  · rcases hb : ratOk n' d' with _ | _
    · have hv : addR (n, d) (n', d') = (0, 0) := by unfold addR; simp only [hb, Bool.and_false]; rfl
      have HV := Lib.hid hv
      have HA := Lib.hid ha
      have HB := Lib.hid hb
      clear hv ha hb
      go_enter Try.func97, Try.ntmps97
      go_wp2_with fail
      refine (spec_IsRatio n d _).mono ?_
      rw [HA.out]
      rintro e w1 ⟨rfl, hb1⟩
      have hsz1 := hb1.size; simp at hsz1; have hA1 : BQ w1 w.heap.size n d := (by (with_reducible (repeat (first | assumption | refine Blk.new_at _ _ _ _ Ks | refine Blk.below ?_ (by assumption) Ks | apply Blk.drew | apply Blk.drewN | refine Blk.far ?_ (by simp only [ne_eq]; omega) _ | apply Blk.alloc)))); have hB1 : BQ w1 (w.heap.size + 1) n' d' := (by (with_reducible (repeat (first | assumption | refine Blk.new_at _ _ _ _ Ks | refine Blk.below ?_ (by assumption) Ks | apply Blk.drew | apply Blk.drewN | refine Blk.far ?_ (by simp only [ne_eq]; omega) _ | apply Blk.alloc)))); have hR1 : BQ w1 (w.heap.size + 1 + 1) 0 0 := (by (with_reducible (repeat (first | assumption | refine Blk.new_at _ _ _ _ Ks | refine Blk.below ?_ (by assumption) Ks | apply Blk.drew | apply Blk.drewN | refine Blk.far ?_ (by simp only [ne_eq]; omega) _ | apply Blk.alloc)))); have hbw1 : Below w.heap.size w w1 := Kw; obtain ⟨aa, ab, af, al⟩ := hA1.cells; obtain ⟨ba, bb, bf, bl⟩ := hB1.cells; obtain ⟨ra, rb, rf, rl⟩ := hR1.cells
      go_wp2_with fail
      refine (spec_IsRatio n' d' _).mono ?_
      rw [HB.out]
      rintro e w2 ⟨rfl, hb2⟩
      have hsz2 := hb2.size; have hA2 : BQ w2 w.heap.size n d := (by (with_reducible (repeat (first | exact hA1 | refine Blk.new_at _ _ _ _ Ks | refine Blk.below ?_ (by assumption) Ks | apply Blk.drew | apply Blk.drewN | refine Blk.far ?_ (by simp only [ne_eq]; omega) _ | apply Blk.alloc)))); have hB2 : BQ w2 (w.heap.size + 1) n' d' := (by (with_reducible (repeat (first | exact hB1 | refine Blk.new_at _ _ _ _ Ks | refine Blk.below ?_ (by assumption) Ks | apply Blk.drew | apply Blk.drewN | refine Blk.far ?_ (by simp only [ne_eq]; omega) _ | apply Blk.alloc)))); have hR2 : BQ w2 (w.heap.size + 1 + 1) 0 0 := (by (with_reducible (repeat (first | exact hR1 | refine Blk.new_at _ _ _ _ Ks | refine Blk.below ?_ (by assumption) Ks | apply Blk.drew | apply Blk.drewN | refine Blk.far ?_ (by simp only [ne_eq]; omega) _ | apply Blk.alloc)))); have hbw2 : Below w.heap.size w w2 := Kw; clear aa ab af al ba bb bf bl ra rb rf rl hA1 hB1 hR1 hbw1; obtain ⟨aa, ab, af, al⟩ := hA2.cells; obtain ⟨ba, bb, bf, bl⟩ := hB2.cells; obtain ⟨ra, rb, rf, rl⟩ := hR2.cells
      go_wp2_with fail
      refine ret_Q Try.results97 rfl (BQ.put hR2) rfl ?_
      exact BV.mk (rV_mk HV.out) Kw
    · have hv : addR (n, d) (n', d') = lowR (n * d' + n' * d) (d * d') := by unfold addR; simp only [ha, hb, Bool.and_self, if_true]
      obtain ⟨⟨k1, k2⟩, ⟨k3, k4⟩, ⟨k5, k6⟩, ⟨k7, k8⟩⟩ := rat_bd (a := (n, d)) (b := (n', d')) ha hb
      simp only [] at k1 k2 k3 k4 k5 k6 k7 k8
      have HV := Lib.hid hv
      have HA := Lib.hid ha
      have HB := Lib.hid hb
      clear hv ha hb
      go_enter Try.func97, Try.ntmps97
      go_wp2_with fail
      refine (spec_IsRatio n d _).mono ?_
      rw [HA.out]
      rintro e w1 ⟨rfl, hb1⟩
      have hsz1 := hb1.size; simp at hsz1; have hA1 : BQ w1 w.heap.size n d := (by (with_reducible (repeat (first | assumption | refine Blk.new_at _ _ _ _ Ks | refine Blk.below ?_ (by assumption) Ks | apply Blk.drew | apply Blk.drewN | refine Blk.far ?_ (by simp only [ne_eq]; omega) _ | apply Blk.alloc)))); have hB1 : BQ w1 (w.heap.size + 1) n' d' := (by (with_reducible (repeat (first | assumption | refine Blk.new_at _ _ _ _ Ks | refine Blk.below ?_ (by assumption) Ks | apply Blk.drew | apply Blk.drewN | refine Blk.far ?_ (by simp only [ne_eq]; omega) _ | apply Blk.alloc)))); have hR1 : BQ w1 (w.heap.size + 1 + 1) 0 0 := (by (with_reducible (repeat (first | assumption | refine Blk.new_at _ _ _ _ Ks | refine Blk.below ?_ (by assumption) Ks | apply Blk.drew | apply Blk.drewN | refine Blk.far ?_ (by simp only [ne_eq]; omega) _ | apply Blk.alloc)))); have hbw1 : Below w.heap.size w w1 := Kw; obtain ⟨aa, ab, af, al⟩ := hA1.cells; obtain ⟨ba, bb, bf, bl⟩ := hB1.cells; obtain ⟨ra, rb, rf, rl⟩ := hR1.cells
      go_wp2_with fail
      refine (spec_IsRatio n' d' _).mono ?_
      rw [HB.out]
      rintro e w2 ⟨rfl, hb2⟩
      have hsz2 := hb2.size; have hA2 : BQ w2 w.heap.size n d := (by (with_reducible (repeat (first | exact hA1 | refine Blk.new_at _ _ _ _ Ks | refine Blk.below ?_ (by assumption) Ks | apply Blk.drew | apply Blk.drewN | refine Blk.far ?_ (by simp only [ne_eq]; omega) _ | apply Blk.alloc)))); have hB2 : BQ w2 (w.heap.size + 1) n' d' := (by (with_reducible (repeat (first | exact hB1 | refine Blk.new_at _ _ _ _ Ks | refine Blk.below ?_ (by assumption) Ks | apply Blk.drew | apply Blk.drewN | refine Blk.far ?_ (by simp only [ne_eq]; omega) _ | apply Blk.alloc)))); have hR2 : BQ w2 (w.heap.size + 1 + 1) 0 0 := (by (with_reducible (repeat (first | exact hR1 | refine Blk.new_at _ _ _ _ Ks | refine Blk.below ?_ (by assumption) Ks | apply Blk.drew | apply Blk.drewN | refine Blk.far ?_ (by simp only [ne_eq]; omega) _ | apply Blk.alloc)))); have hbw2 : Below w.heap.size w w2 := Kw; clear aa ab af al ba bb bf bl ra rb rf rl hA1 hB1 hR1 hbw1; obtain ⟨aa, ab, af, al⟩ := hA2.cells; obtain ⟨ba, bb, bf, bl⟩ := hB2.cells; obtain ⟨ra, rb, rf, rl⟩ := hR2.cells
      go_wp2_with fail
      refine (spec_l2Make (n * d' + n' * d) (d * d') (by omega) (by omega) (by omega) _).mono ?_
      rintro e w3 ⟨rfl, hb3⟩
      have hR3 : BQ w3 (w.heap.size + 1 + 1) 0 0 := by (with_reducible (repeat (first | exact hR2 | refine Blk.new_at _ _ _ _ Ks | refine Blk.below ?_ (by assumption) Ks | apply Blk.drew | apply Blk.drewN | refine Blk.far ?_ (by simp only [ne_eq]; omega) _ | apply Blk.alloc)))
      have hbw3 : Below w.heap.size w w3 := Kw
      obtain ⟨sa, sb, sf, sl⟩ := hR3.cells
      unfold rV
      go_wp2_with fail
      refine ret_Q Try.results97 rfl (BQ.put hR3) rfl ?_
      exact BV.mk (rV_mk HV.out) Kw
set_option maxHeartbeats 4000000 in
theorem impl_MultiplyRatios (n d n' d' : Int) (w : World) : Calls Try.prog 186 #[.agg #[.int .i64 n, .int .i64 d], .agg #[.int .i64 n', .int .i64 d']] w (BV (rV (mulR (n, d) (n', d'))) w) := by
  rcases ha : ratOk n d with _ | _
  · have hv : mulR (n, d) (n', d') = (0, 0) := by unfold mulR; simp only [ha, Bool.false_and]; rfl
    have HV := Lib.hid hv
    have HA := Lib.hid ha
    clear hv ha
    go_enter Try.func186, Try.ntmps186
    go_wp2_with fail
    refine (impl_IsRatio n d _).mono ?_
    rw [HA.out]
    rintro e w1 ⟨rfl, hb1⟩
    have hsz1 := hb1.size; simp at hsz1; have hA1 : BQ w1 w.heap.size n d := (by (with_reducible (repeat (first | assumption | refine Blk.new_at _ _ _ _ Ks | refine Blk.below ?_ (by assumption) Ks | apply Blk.drew | apply Blk.drewN | refine Blk.far ?_ (by simp only [ne_eq]; omega) _ | apply Blk.alloc)))); have hB1 : BQ w1 (w.heap.size + 1) n' d' := (by (with_reducible (repeat (first | assumption | refine Blk.new_at _ _ _ _ Ks | refine Blk.below ?_ (by assumption) Ks | apply Blk.drew | apply Blk.drewN | refine Blk.far ?_ (by simp only [ne_eq]; omega) _ | apply Blk.alloc)))); have hR1 : BQ w1 (w.heap.size + 1 + 1) 0 0 := (by (with_reducible (repeat (first | assumption | refine Blk.new_at _ _ _ _ Ks | refine Blk.below ?_ (by assumption) Ks | apply Blk.drew | apply Blk.drewN | refine Blk.far ?_ (by simp only [ne_eq]; omega) _ | apply Blk.alloc)))); have hbw1 : Below w.heap.size w w1 := Kw; obtain ⟨aa, ab, af, al⟩ := hA1.cells; obtain ⟨ba, bb, bf, bl⟩ := hB1.cells; obtain ⟨ra, rb, rf, rl⟩ := hR1.cells
    go_wp2_with fail
    refine ret_Q Try.results186 rfl (BQ.put hR1) rfl ?_
    exact BV.mk (rV_mk HV.out) Kw
  · rcases hb : ratOk n' d' with _ | _
    · have hv : mulR (n, d) (n', d') = (0, 0) := by unfold mulR; simp only [hb, Bool.and_false]; rfl
      have HV := Lib.hid hv
      have HA := Lib.hid ha
      have HB := Lib.hid hb
      clear hv ha hb
      go_enter Try.func186, Try.ntmps186
      go_wp2_with fail
      refine (impl_IsRatio n d _).mono ?_
      rw [HA.out]
      rintro e w1 ⟨rfl, hb1⟩
      have hsz1 := hb1.size; simp at hsz1; have hA1 : BQ w1 w.heap.size n d := (by (with_reducible (repeat (first | assumption | refine Blk.new_at _ _ _ _ Ks | refine Blk.below ?_ (by assumption) Ks | apply Blk.drew | apply Blk.drewN | refine Blk.far ?_ (by simp only [ne_eq]; omega) _ | apply Blk.alloc)))); have hB1 : BQ w1 (w.heap.size + 1) n' d' := (by (with_reducible (repeat (first | assumption | refine Blk.new_at _ _ _ _ Ks | refine Blk.below ?_ (by assumption) Ks | apply Blk.drew | apply Blk.drewN | refine Blk.far ?_ (by simp only [ne_eq]; omega) _ | apply Blk.alloc)))); have hR1 : BQ w1 (w.heap.size + 1 + 1) 0 0 := (by (with_reducible (repeat (first | assumption | refine Blk.new_at _ _ _ _ Ks | refine Blk.below ?_ (by assumption) Ks | apply Blk.drew | apply Blk.drewN | refine Blk.far ?_ (by simp only [ne_eq]; omega) _ | apply Blk.alloc)))); have hbw1 : Below w.heap.size w w1 := Kw; obtain ⟨aa, ab, af, al⟩ := hA1.cells; obtain ⟨ba, bb, bf, bl⟩ := hB1.cells; obtain ⟨ra, rb, rf, rl⟩ := hR1.cells
      go_wp2_with fail
      refine (impl_IsRatio n' d' _).mono ?_
      rw [HB.out]
      rintro e w2 ⟨rfl, hb2⟩
      have hsz2 := hb2.size; have hA2 : BQ w2 w.heap.size n d := (by (with_reducible (repeat (first | exact hA1 | refine Blk.new_at _ _ _ _ Ks | refine Blk.below ?_ (by assumption) Ks | apply Blk.drew | apply Blk.drewN | refine Blk.far ?_ (by simp only [ne_eq]; omega) _ | apply Blk.alloc)))); have hB2 : BQ w2 (w.heap.size + 1) n' d' := (by (with_reducible (repeat (first | exact hB1 | refine Blk.new_at _ _ _ _ Ks | refine Blk.below ?_ (by assumption) Ks | apply Blk.drew | apply Blk.drewN | refine Blk.far ?_ (by simp only [ne_eq]; omega) _ | apply Blk.alloc)))); have hR2 : BQ w2 (w.heap.size + 1 + 1) 0 0 := (by (with_reducible (repeat (first | exact hR1 | refine Blk.new_at _ _ _ _ Ks | refine Blk.below ?_ (by assumption) Ks | apply Blk.drew | apply Blk.drewN | refine Blk.far ?_ (by simp only [ne_eq]; omega) _ | apply Blk.alloc)))); have hbw2 : Below w.heap.size w w2 := Kw; clear aa ab af al ba bb bf bl ra rb rf rl hA1 hB1 hR1 hbw1; obtain ⟨aa, ab, af, al⟩ := hA2.cells; obtain ⟨ba, bb, bf, bl⟩ := hB2.cells; obtain ⟨ra, rb, rf, rl⟩ := hR2.cells
      go_wp2_with fail
      refine ret_Q Try.results186 rfl (BQ.put hR2) rfl ?_
      exact BV.mk (rV_mk HV.out) Kw
    · have hv : mulR (n, d) (n', d') = lowR (n * n') (d * d') := by unfold mulR; simp only [ha, hb, Bool.and_self, if_true]
      obtain ⟨⟨k1, k2⟩, ⟨k3, k4⟩, ⟨k5, k6⟩, ⟨k7, k8⟩⟩ := rat_bd (a := (n, d)) (b := (n', d')) ha hb
      simp only [] at k1 k2 k3 k4 k5 k6 k7 k8
      have HV := Lib.hid hv
      have HA := Lib.hid ha
      have HB := Lib.hid hb
      clear hv ha hb
      go_enter Try.func186, Try.ntmps186
      go_wp2_with fail
      refine (impl_IsRatio n d _).mono ?_
      rw [HA.out]
      rintro e w1 ⟨rfl, hb1⟩
      have hsz1 := hb1.size; simp at hsz1; have hA1 : BQ w1 w.heap.size n d := (by (with_reducible (repeat (first | assumption | refine Blk.new_at _ _ _ _ Ks | refine Blk.below ?_ (by assumption) Ks | apply Blk.drew | apply Blk.drewN | refine Blk.far ?_ (by simp only [ne_eq]; omega) _ | apply Blk.alloc)))); have hB1 : BQ w1 (w.heap.size + 1) n' d' := (by (with_reducible (repeat (first | assumption | refine Blk.new_at _ _ _ _ Ks | refine Blk.below ?_ (by assumption) Ks | apply Blk.drew | apply Blk.drewN | refine Blk.far ?_ (by simp only [ne_eq]; omega) _ | apply Blk.alloc)))); have hR1 : BQ w1 (w.heap.size + 1 + 1) 0 0 := (by (with_reducible (repeat (first | assumption | refine Blk.new_at _ _ _ _ Ks | refine Blk.below ?_ (by assumption) Ks | apply Blk.drew | apply Blk.drewN | refine Blk.far ?_ (by simp only [ne_eq]; omega) _ | apply Blk.alloc)))); have hbw1 : Below w.heap.size w w1 := Kw; obtain ⟨aa, ab, af, al⟩ := hA1.cells; obtain ⟨ba, bb, bf, bl⟩ := hB1.cells; obtain ⟨ra, rb, rf, rl⟩ := hR1.cells
      go_wp2_with fail
      refine (impl_IsRatio n' d' _).mono ?_
      rw [HB.out]
      rintro e w2 ⟨rfl, hb2⟩
      have hsz2 := hb2.size; have hA2 : BQ w2 w.heap.size n d := (by (with_reducible (repeat (first | exact hA1 | refine Blk.new_at _ _ _ _ Ks | refine Blk.below ?_ (by assumption) Ks | apply Blk.drew | apply Blk.drewN | refine Blk.far ?_ (by simp only [ne_eq]; omega) _ | apply Blk.alloc)))); have hB2 : BQ w2 (w.heap.size + 1) n' d' := (by (with_reducible (repeat (first | exact hB1 | refine Blk.new_at _ _ _ _ Ks | refine Blk.below ?_ (by assumption) Ks | apply Blk.drew | apply Blk.drewN | refine Blk.far ?_ (by simp only [ne_eq]; omega) _ | apply Blk.alloc)))); have hR2 : BQ w2 (w.heap.size + 1 + 1) 0 0 := (by (with_reducible (repeat (first | exact hR1 | refine Blk.new_at _ _ _ _ Ks | refine Blk.below ?_ (by assumption) Ks | apply Blk.drew | apply Blk.drewN | refine Blk.far ?_ (by simp only [ne_eq]; omega) _ | apply Blk.alloc)))); have hbw2 : Below w.heap.size w w2 := Kw; clear aa ab af al ba bb bf bl ra rb rf rl hA1 hB1 hR1 hbw1; obtain ⟨aa, ab, af, al⟩ := hA2.cells; obtain ⟨ba, bb, bf, bl⟩ := hB2.cells; obtain ⟨ra, rb, rf, rl⟩ := hR2.cells
      go_wp2_with fail
      refine (impl_lowest (n * n') (d * d') (by omega) (by omega) (by omega) _).mono ?_
      rintro e w3 ⟨rfl, hb3⟩
      have hR3 : BQ w3 (w.heap.size + 1 + 1) 0 0 := by (with_reducible (repeat (first | exact hR2 | refine Blk.new_at _ _ _ _ Ks | refine Blk.below ?_ (by assumption) Ks | apply Blk.drew | apply Blk.drewN | refine Blk.far ?_ (by simp only [ne_eq]; omega) _ | apply Blk.alloc)))
      have hbw3 : Below w.heap.size w w3 := Kw
      obtain ⟨sa, sb, sf, sl⟩ := hR3.cells
      unfold rV
      go_wp2_with fail
      refine ret_Q Try.results186 rfl (BQ.put hR3) rfl ?_
      exact BV.mk (rV_mk HV.out) Kw
set_option maxHeartbeats 4000000 in
theorem spec_MultiplyRatios (n d n' d' : Int) (w : World) : Calls Try.prog 109 #[.agg #[.int .i64 n, .int .i64 d], .agg #[.int .i64 n', .int .i64 d']] w (BV (rV (mulR (n, d) (n', d'))) w) := by
  rcases ha : ratOk n d with _ | _
  · have hv : mulR (n, d) (n', d') = (0, 0) := by unfold mulR; simp only [ha, Bool.false_and]; rfl
    have HV := Lib.hid hv
    have HA := Lib.hid ha
    clear hv ha
    go_enter Try.func109, Try.ntmps109
    go_wp2_with fail
    refine (spec_IsRatio n d _).mono ?_
    rw [HA.out]
    rintro e w1 ⟨rfl, hb1⟩
    have hsz1 := hb1.size; simp at hsz1; have hA1 : BQ w1 w.heap.size n d := (by (with_reducible (repeat (first | assumption | refine Blk.new_at _ _ _ _ Ks | refine Blk.below ?_ (by assumption) Ks | apply Blk.drew | apply Blk.drewN | refine Blk.far ?_ (by simp only [ne_eq]; omega) _ | apply Blk.alloc)))); have hB1 : BQ w1 (w.heap.size + 1) n' d' := (by (with_reducible (repeat (first | assumption | refine Blk.new_at _ _ _ _ Ks | refine Blk.below ?_ (by assumption) Ks | apply Blk.drew | apply Blk.drewN | refine Blk.far ?_ (by simp only [ne_eq]; omega) _ | apply Blk.alloc)))); have hR1 : BQ w1 (w.heap.size + 1 + 1) 0 0 := (by (with_reducible (repeat (first | assumption | refine Blk.new_at _ _ _ _ Ks | refine Blk.below ?_ (by assumption) Ks | apply Blk.drew | apply Blk.drewN | refine Blk.far ?_ (by simp only [ne_eq]; omega) _ | apply Blk.alloc)))); have hbw1 : Below w.heap.size w w1 := Kw; obtain ⟨aa, ab, af, al⟩ := hA1.cells; obtain ⟨ba, bb, bf, bl⟩ := hB1.cells; obtain ⟨ra, rb, rf, rl⟩ := hR1.cells
    go_wp2_with fail
    refine ret_Q Try.results109 rfl (BQ.put hR1) rfl ?_
    exact BV.mk (rV_mk HV.out) Kw
  · rcases hb : ratOk n' d' with _ | _
    · have hv : mulR (n, d) (n', d') = (0, 0) := by unfold mulR; simp only [hb, Bool.and_false]; rfl
      have HV := Lib.hid hv
      have HA := Lib.hid ha
      have HB := Lib.hid hb
      clear hv ha hb
      go_enter Try.func109, Try.ntmps109
      go_wp2_with fail
      refine (spec_IsRatio n d _).mono ?_
      rw [HA.out]
      rintro e w1 ⟨rfl, hb1⟩
      have hsz1 := hb1.size; simp at hsz1; have hA1 : BQ w1 w.heap.size n d := (by (with_reducible (repeat (first | assumption | refine Blk.new_at _ _ _ _ Ks | refine Blk.below ?_ (by assumption) Ks | apply Blk.drew | apply Blk.drewN | refine Blk.far ?_ (by simp only [ne_eq]; omega) _ | apply Blk.alloc)))); have hB1 : BQ w1 (w.heap.size + 1) n' d' := (by (with_reducible (repeat (first | assumption | refine Blk.new_at _ _ _ _ Ks | refine Blk.below ?_ (by assumption) Ks | apply Blk.drew | apply Blk.drewN | refine Blk.far ?_ (by simp only [ne_eq]; omega) _ | apply Blk.alloc)))); have hR1 : BQ w1 (w.heap.size + 1 + 1) 0 0 := (by (with_reducible (repeat (first | assumption | refine Blk.new_at _ _ _ _ Ks | refine Blk.below ?_ (by assumption) Ks | apply Blk.drew | apply Blk.drewN | refine Blk.far ?_ (by simp only [ne_eq]; omega) _ | apply Blk.alloc)))); have hbw1 : Below w.heap.size w w1 := Kw; obtain ⟨aa, ab, af, al⟩ := hA1.cells; obtain ⟨ba, bb, bf, bl⟩ := hB1.cells; obtain ⟨ra, rb, rf, rl⟩ := hR1.cells
      go_wp2_with fail
      refine (spec_IsRatio n' d' _).mono ?_
      rw [HB.out]
      rintro e w2 ⟨rfl, hb2⟩
      have hsz2 := hb2.size; have hA2 : BQ w2 w.heap.size n d := (by (with_reducible (repeat (first | exact hA1 | refine Blk.new_at _ _ _ _ Ks | refine Blk.below ?_ (by assumption) Ks | apply Blk.drew | apply Blk.drewN | refine Blk.far ?_ (by simp only [ne_eq]; omega) _ | apply Blk.alloc)))); have hB2 : BQ w2 (w.heap.size + 1) n' d' := (by (with_reducible (repeat (first | exact hB1 | refine Blk.new_at _ _ _ _ Ks | refine Blk.below ?_ (by assumption) Ks | apply Blk.drew | apply Blk.drewN | refine Blk.far ?_ (by simp only [ne_eq]; omega) _ | apply Blk.alloc)))); have hR2 : BQ w2 (w.heap.size + 1 + 1) 0 0 := (by (with_reducible (repeat (first | exact hR1 | refine Blk.new_at _ _ _ _ Ks | refine Blk.below ?_ (by assumption) Ks | apply Blk.drew | apply Blk.drewN | refine Blk.far ?_ (by simp only [ne_eq]; omega) _ | apply Blk.alloc)))); have hbw2 : Below w.heap.size w w2 := Kw; clear aa ab af al ba bb bf bl ra rb rf rl hA1 hB1 hR1 hbw1; obtain ⟨aa, ab, af, al⟩ := hA2.cells; obtain ⟨ba, bb, bf, bl⟩ := hB2.cells; obtain ⟨ra, rb, rf, rl⟩ := hR2.cells
      go_wp2_with fail
      refine ret_Q Try.results109 rfl (BQ.put hR2) rfl ?_
      exact BV.mk (rV_mk HV.out) Kw
    · have hv : mulR (n, d) (n', d') = lowR (n * n') (d * d') := by unfold mulR; simp only [ha, hb, Bool.and_self, if_true]
      obtain ⟨⟨k1, k2⟩, ⟨k3, k4⟩, ⟨k5, k6⟩, ⟨k7, k8⟩⟩ := rat_bd (a := (n, d)) (b := (n', d')) ha hb
      simp only [] at k1 k2 k3 k4 k5 k6 k7 k8
      have HV := Lib.hid hv
      have HA := Lib.hid ha
      have HB := Lib.hid hb
      clear hv ha hb
      go_enter Try.func109, Try.ntmps109
      go_wp2_with fail
      refine (spec_IsRatio n d _).mono ?_
      rw [HA.out]
      rintro e w1 ⟨rfl, hb1⟩
      have hsz1 := hb1.size; simp at hsz1; have hA1 : BQ w1 w.heap.size n d := (by (with_reducible (repeat (first | assumption | refine Blk.new_at _ _ _ _ Ks | refine Blk.below ?_ (by assumption) Ks | apply Blk.drew | apply Blk.drewN | refine Blk.far ?_ (by simp only [ne_eq]; omega) _ | apply Blk.alloc)))); have hB1 : BQ w1 (w.heap.size + 1) n' d' := (by (with_reducible (repeat (first | assumption | refine Blk.new_at _ _ _ _ Ks | refine Blk.below ?_ (by assumption) Ks | apply Blk.drew | apply Blk.drewN | refine Blk.far ?_ (by simp only [ne_eq]; omega) _ | apply Blk.alloc)))); have hR1 : BQ w1 (w.heap.size + 1 + 1) 0 0 := (by (with_reducible (repeat (first | assumption | refine Blk.new_at _ _ _ _ Ks | refine Blk.below ?_ (by assumption) Ks | apply Blk.drew | apply Blk.drewN | refine Blk.far ?_ (by simp only [ne_eq]; omega) _ | apply Blk.alloc)))); have hbw1 : Below w.heap.size w w1 := Kw; obtain ⟨aa, ab, af, al⟩ := hA1.cells; obtain ⟨ba, bb, bf, bl⟩ := hB1.cells; obtain ⟨ra, rb, rf, rl⟩ := hR1.cells
      go_wp2_with fail
      refine (spec_IsRatio n' d' _).mono ?_
      rw [HB.out]
      rintro e w2 ⟨rfl, hb2⟩
      have hsz2 := hb2.size; have hA2 : BQ w2 w.heap.size n d := (by (with_reducible (repeat (first | exact hA1 | refine Blk.new_at _ _ _ _ Ks | refine Blk.below ?_ (by assumption) Ks | apply Blk.drew | apply Blk.drewN | refine Blk.far ?_ (by simp only [ne_eq]; omega) _ | apply Blk.alloc)))); have hB2 : BQ w2 (w.heap.size + 1) n' d' := (by (with_reducible (repeat (first | exact hB1 | refine Blk.new_at _ _ _ _ Ks | refine Blk.below ?_ (by assumption) Ks | apply Blk.drew | apply Blk.drewN | refine Blk.far ?_ (by simp only [ne_eq]; omega) _ | apply Blk.alloc)))); have hR2 : BQ w2 (w.heap.size + 1 + 1) 0 0 := (by (with_reducible (repeat (first | exact hR1 | refine Blk.new_at _ _ _ _ Ks | refine Blk.below ?_ (by assumption) Ks | apply Blk.drew | apply Blk.drewN | refine Blk.far ?_ (by simp only [ne_eq]; omega) _ | apply Blk.alloc)))); have hbw2 : Below w.heap.size w w2 := Kw; clear aa ab af al ba bb bf bl ra rb rf rl hA1 hB1 hR1 hbw1; obtain ⟨aa, ab, af, al⟩ := hA2.cells; obtain ⟨ba, bb, bf, bl⟩ := hB2.cells; obtain ⟨ra, rb, rf, rl⟩ := hR2.cells
      go_wp2_with fail
      refine (spec_l2Make (n * n') (d * d') (by omega) (by omega) (by omega) _).mono ?_
      rintro e w3 ⟨rfl, hb3⟩
      have hR3 : BQ w3 (w.heap.size + 1 + 1) 0 0 := by (with_reducible (repeat (first | exact hR2 | refine Blk.new_at _ _ _ _ Ks | refine Blk.below ?_ (by assumption) Ks | apply Blk.drew | apply Blk.drewN | refine Blk.far ?_ (by simp only [ne_eq]; omega) _ | apply Blk.alloc)))
      have hbw3 : Below w.heap.size w w3 := Kw
      obtain ⟨sa, sb, sf, sl⟩ := hR3.cells
      unfold rV
      go_wp2_with fail
      refine ret_Q Try.results109 rfl (BQ.put hR3) rfl ?_
      exact BV.mk (rV_mk HV.out) Kw
theorem impl_whole (n : Int) (w : World) : Calls Try.prog 184 #[.int .i64 n] w (BV (.agg #[.int .i64 n, .int .i64 1]) w) := by
  go_enter Try.func184, Try.ntmps184
  go_wp2_with fail
  refine ret_Q (b := w.heap.size) (n := n) (d := 1) Try.results184 rfl (by (with_reducible (repeat (first | assumption | refine Blk.new_at _ _ _ _ Ks | refine Blk.below ?_ (by assumption) Ks | apply Blk.drew | apply Blk.drewN | refine Blk.far ?_ (by simp only [ne_eq]; omega) _ | apply Blk.alloc)))) rfl ?_
  exact BV.mk rfl Kw
end Go.Proofs.Ytacjonkehcamgaa

/-
  DERIVED. l1Bads, l12Cell, l12Least, l12Alone, l12Ops of the reference.
-/
namespace Go.Proofs.Ytacjonkehcamgaa
open Go.RowKit
set_option linter.unusedVariables false
set_option linter.unusedSimpArgs false
theorem spec_l1Bads (A : Option Addr) (n cap : Nat) (xs : List Int) (w : World) {B : Nat} (h : RI w B A n xs) (hn : n ≤ 1048576) :
    Calls Try.prog 210 #[.slice A n cap] w (EV (.bool (!xs.all noBad)) w) := by
  have hlen := h.len
  have hlx : xs.length ≤ n ∧ n ≤ xs.length := by omega
  have H := Lib.hid h
  clear h hlen
  go_enter Try.func210, Try.ntmps210
  go_wp2_with fail
  go_loop [3] (fun v => ∃ k : Nat, v = .int .i64 k ∧ k ≤ n ∧ (xs.take k).all noBad = true) (fun v => n - (intOf v).toNat)
  case atStart => exact ⟨0, rfl, Nat.zero_le _, by simp⟩
  case round =>
    obtain ⟨k, rfl, hk, hz⟩ := hrel
    have HZ := Lib.hid hz
    clear hz
    by_cases hlt : k < n
    · obtain ⟨b, o, rfl, hbb, hcells⟩ := H.out.2 (by omega)
      have c1 := hcells k hlt
      clear hcells
      have hat := all_take (xs := xs) (p := noBad) (show k < xs.length by omega)
      have hfa := all_false (xs := xs) (p := noBad) (show k < xs.length by omega)
      rw [HZ.out, Bool.true_and] at hat
      generalize xs.getD k 0 = x at c1 hat hfa
      rcases hx : (x == -4611686018427387904) with _ | _
      · have hn := Lib.hid (hat.trans (show noBad x = true by unfold noBad; rw [hx]; rfl))
        clear hat hfa
        go_wp2_with fail
        go_round
        case rel => exact ⟨k + 1, by go_num, by omega, hn.out⟩
        case measure => simp only [intOf]; omega
      · have hn := Lib.hid (hfa (show noBad x = false by unfold noBad; rw [hx]; rfl))
        clear hat hfa
        go_wp2_with fail
        go_ret
        exact EV.mk (vbool (by rw [hn.out]; rfl))
    · have hall := Lib.hid (show xs.all noBad = true by
        have := HZ.out
        rw [List.take_of_length_le (by omega)] at this
        exact this)
      go_wp2_with fail
      go_ret
      exact EV.mk (vbool (by rw [hall.out]; rfl))
theorem spec_l12Cell_tb (R C i j : Nat) (A : Option Addr) (n cap : Nat) (F : Nat → Nat → Int) (v : Int) (hv : F i j = v) (w : World) {B : Nat} (h : OR w B (.slice A n cap) (tb R C F)) (hR : R ≤ 48) (hC : C ≤ 48) (hi : i < R) (hj : j < C) :
    Calls Try.prog 108 #[.agg #[.int .i64 R, .int .i64 C, .slice A n cap], .int .i64 i, .int .i64 j] w (BV (.int .i64 v) w) := by
  have hn := h.lenEq
  rw [tb_len] at hn
  have h1 := idx_nat hi hj
  have h2 : i * C ≤ 48 * 48 := Nat.mul_le_mul (by omega) hC
  have e1 : (i : Int) * (C : Int) = ((i * C : Nat) : Int) := by rw [Int.natCast_mul]
  have := spec_l12Cell R C i j A n cap (tb R C F) w h.reads (Nat.le_refl _) ⟨by omega, by omega⟩ ⟨by omega, by omega⟩ (by omega)
  rw [cel_tb hi hj, hv] at this
  exact this
set_option maxRecDepth 100000 in
set_option maxHeartbeats 4000000 in
theorem spec_l12Least (R C t j : Nat) (A : Option Addr) (n cap : Nat) (f : Fn2) (w : World) {B : Nat} (h : OR w B (.slice A n cap) (tb R C f)) (ht : t ≤ R) (hj : j < C) (hf : OKF R C f) (hC : C ≤ 24) (hR : R ≤ 24) :
    Calls Try.prog 206 #[.agg #[.int .i64 R, .int .i64 C, .slice A n cap], .int .i64 t, .int .i64 j] w (BV (.int .i64 (lst R f j t)) w) := by
  have HF := Lib.hid hf
  clear hf
  go_enter Try.func206, Try.ntmps206
  go_wp2_with fail
  go_loopw [7, 8, 9] (fun u v _ wr => ∃ (i : Nat), v = .int .i64 i ∧ u = .int .i64 (lstK f j t (i - t)) ∧ t ≤ i ∧ i ≤ R ∧ BM wr w.heap.size R C A n cap ∧ OR wr B (.slice A n cap) (tb R C f) ∧ Below w.heap.size w wr) (fun _ v _ _ => R - (intOf v).toNat)
  case atStart => exact ⟨t, rfl, by rw [Nat.sub_self]; rfl, Nat.le_refl _, ht, Ka, Ko h, Kw⟩
  case round =>
    clear h
    obtain ⟨i, rfl, rfl, hti, hiR, hO, ho, hbw⟩ := hrel
    obtain ⟨oa, ob, oc, of, ol⟩ := hO.mx
    have hsz := hbw.size
    by_cases hlt : i < R
    · have hn := HF.out i j hlt hj
      have HS := Lib.hid (lst_succ (f := f) (j := j) hti)
      have hcs := lstK_cases f j t (i - t)
      by_cases hz : f i j = 0
      · have hx := HS.out
        rw [if_neg (by simp [hz])] at hx
        have HX := Lib.hid hx
        have hb : -1 ≤ lstK f j t (i - t) ∧ lstK f j t (i - t) ≤ 100 := by
          rcases hcs with ⟨e, _⟩ | ⟨p, e, _, h3, _⟩
          · omega
          · omega
        obtain ⟨b1, b2⟩ := hb
        have HZ := Lib.hid hz
        clear hx hz hcs HS
        generalize lstK f j t (i - t) = q at *
        go_wp2_with fail
        (refine (spec_l12Cell_tb R C i j A n cap f (0) HZ.out _ (B := B) (Ko ho) (by omega) (by omega) (by omega) (by omega)).mono ?_; rintro e w1 ⟨rfl, hb1⟩; (have hO_1 : BM w1 w.heap.size R C A n cap := (Kb hO)); (have ho_1 : OR w1 B (.slice A n cap) (tb R C f) := (Ko ho)); (have hbw_1 : Below w.heap.size w w1 := Kw); (have hsz_1 := hbw_1.size); clear hO ho hbw hb1; clear oa ob oc of ol; (have hO := hO_1); (have ho := ho_1); (have hbw := hbw_1); clear hO_1 ho_1 hbw_1; obtain ⟨oa, ob, oc, of, ol⟩ := hO.mx)
        go_wp2_with fail
        go_quiet (fail)
        go_wp2_with fail
        go_roundw
        case rel => exact ⟨i + 1, by go_num, by rw [HX.out], by omega, by omega, Kb hO, Ko ho, Kw⟩
        case measure => simp only [intOf]; omega
      · have hnz : (f i j != 0) = true := by simpa using hz
        rcases hcs with ⟨e, _⟩ | ⟨p, e, h2, h3, h4, _⟩
        · have hx := HS.out
          rw [if_pos ⟨hz, .inl (by omega)⟩] at hx
          have HX := Lib.hid hx
          rw [e]
          obtain ⟨y1, y2⟩ := hn
          clear hx hz HS e
          generalize hv : f i j = v at *
          have HV := Lib.hid hv
          clear hv
          go_wp2_with fail
          (refine (spec_l12Cell_tb R C i j A n cap f v HV.out _ (B := B) (Ko ho) (by omega) (by omega) (by omega) (by omega)).mono ?_; rintro e w1 ⟨rfl, hb1⟩; (have hO_1 : BM w1 w.heap.size R C A n cap := (Kb hO)); (have ho_1 : OR w1 B (.slice A n cap) (tb R C f) := (Ko ho)); (have hbw_1 : Below w.heap.size w w1 := Kw); (have hsz_1 := hbw_1.size); clear hO ho hbw hb1; clear oa ob oc of ol; (have hO := hO_1); (have ho := ho_1); (have hbw := hbw_1); clear hO_1 ho_1 hbw_1; obtain ⟨oa, ob, oc, of, ol⟩ := hO.mx)
          go_wp2_with fail
          ((refine wp_region_held_drew (S := (fun w' => w'.cell? ⟨w.heap.size, 0, none⟩ = some (.int .i64 R) ∧ w'.cell? ⟨w.heap.size, 1, none⟩ = some (.int .i64 C) ∧ w'.cell? ⟨w.heap.size, 2, none⟩ = some (.slice A n cap))) (by kernel_rfl) ?_ (fun hHeld => ?_)); ((focus ((try dsimp only); (go_keep)))); ((refine tk_ (i := 0) (v := ?_) (y := Or.inl ⟨by rfl, ?_⟩) (h := ?_); rotate_left; (focus (((intro w hSw; (try dsimp only at hSw); go_simp) <;> (try with_reducible rfl)); done)); (try simp only [Act.put, p1_, p2_, p3_]))); ((refine tk_ (i := 1) (v := ?_) (y := Or.inl ⟨by rfl, ?_⟩) (h := ?_); rotate_left; (focus (((intro w hSw; (try dsimp only at hSw); go_simp) <;> (try with_reducible rfl)); done)); (try simp only [Act.put, p1_, p2_, p3_]))); ((refine tk_ (i := 2) (v := ?_) (y := Or.inl ⟨by rfl, ?_⟩) (h := ?_); rotate_left; (focus (((intro w hSw; (try dsimp only at hSw); go_simp) <;> (try with_reducible rfl)); done)); (try simp only [Act.put, p1_, p2_, p3_]))); ((refine tk_ (i := 3) (v := ?_) (y := Or.inl ⟨by rfl, ?_⟩) (h := ?_); rotate_left; (focus (((intro w hSw; (try dsimp only at hSw); go_simp) <;> (try with_reducible rfl)); done)); (try simp only [Act.put, p1_, p2_, p3_]))); ((refine tk_ (i := 4) (v := ?_) (y := Or.inl ⟨by rfl, ?_⟩) (h := ?_); rotate_left; (focus (((intro w hSw; (try dsimp only at hSw); go_simp) <;> (try with_reducible rfl)); done)); (try simp only [Act.put, p1_, p2_, p3_]))); ((refine tk_ (i := 5) (v := ?_) (y := Or.inl ⟨by rfl, ?_⟩) (h := ?_); rotate_left; (focus (((intro w hSw; (try dsimp only at hSw); go_simp) <;> (try with_reducible rfl)); done)); (try simp only [Act.put, p1_, p2_, p3_]))); ((refine wpAnyH_take (i := 6) (by simp only [e1_, e2_, e3_]; try rfl) (by kernel_rfl) (by kernel_rfl) (by kernel_rfl) (by exact fun _ _ _ h => h) (Or.inr ⟨by rfl, rfl⟩) (by assumption) ?_; (try simp only [Act.put, p1_, p2_, p3_]))); ((refine wpAnyH_take (i := 8) (by simp only [e1_, e2_, e3_]; try rfl) (by kernel_rfl) (by kernel_rfl) (by kernel_rfl) (by exact fun _ _ _ h => h) (Or.inr ⟨by rfl, rfl⟩) (by assumption) ?_; (try simp only [Act.put, p1_, p2_, p3_]))); ((refine wpAnyH_take (i := 9) (by simp only [e1_, e2_, e3_]; try rfl) (by kernel_rfl) (by kernel_rfl) (by kernel_rfl) (by exact fun _ _ _ h => h) (Or.inr ⟨by rfl, rfl⟩) (by assumption) ?_; (try simp only [Act.put, p1_, p2_, p3_]))); ((refine wpAnyH_take (i := 10) (by simp only [e1_, e2_, e3_]; try rfl) (by kernel_rfl) (by kernel_rfl) (by kernel_rfl) (by exact fun _ _ _ h => h) (Or.inr ⟨by rfl, rfl⟩) (by assumption) ?_; (try simp only [Act.put, p1_, p2_, p3_]))); ((refine wpAnyH_ready (rs := [7]) (by kernel_rfl) (by simp) ?_; refine AllReadyH.cons (by simp only [e1_, e2_, e3_]; try rfl) (fun K hK => ?_) AllReadyH.nil; go_simp; with_reducible refine hK.out _ _ ?_ (fun hHeld => ?_); (focus ((try dsimp only); (go_keep))); clear hK K; (try simp only [Act.put, p1_, p2_, p3_]))); ((refine wpAnyH_ready (rs := [11]) (by kernel_rfl) (by simp) ?_; refine AllReadyH.cons (by simp only [e1_, e2_, e3_]; try rfl) (fun K hK => ?_) AllReadyH.nil; go_simp; with_reducible refine hK.out _ _ ?_ (fun hHeld => ?_); (focus ((try dsimp only); (go_keep))); clear hK K; (try simp only [Act.put, p1_, p2_, p3_]))); ((refine wpAnyH_ready (rs := [12]) (by kernel_rfl) (by simp) ?_; refine AllReadyH.cons (by simp only [e1_, e2_, e3_]; try rfl) (fun K hK => ?_) AllReadyH.nil; go_simp; with_reducible refine hK.out _ _ ?_ (fun hHeld => ?_); (focus ((try dsimp only); (go_keep))); clear hK K; (try simp only [Act.put, p1_, p2_, p3_]))); ((refine wpAnyH_take (i := 13) (by simp only [e1_, e2_, e3_]; try rfl) (by kernel_rfl) (by kernel_rfl) (by kernel_rfl) (by exact fun _ _ _ h => h) (Or.inr ⟨by rfl, rfl⟩) (by assumption) ?_; (try simp only [Act.put, p1_, p2_, p3_]))); ((refine tk_ (i := 14) (v := ?_) (y := Or.inl ⟨by rfl, ?_⟩) (h := ?_); rotate_left; (focus (((intro w hSw; (try dsimp only at hSw); go_simp) <;> (try with_reducible rfl)); done)); (try simp only [Act.put, p1_, p2_, p3_]))); ((refine tk_ (i := 15) (v := ?_) (y := Or.inl ⟨by rfl, ?_⟩) (h := ?_); rotate_left; (focus (((intro w hSw; (try dsimp only at hSw); go_simp) <;> (try with_reducible rfl)); done)); (try simp only [Act.put, p1_, p2_, p3_]))); (refine wpAnyH_done (by kernel_rfl) ?_ _))
          go_wp2_with fail
          go_roundw
          case rel => exact ⟨i + 1, by go_num, by rw [HX.out], by omega, by omega, Kb hO, Ko ho, Kw⟩
          case measure => simp only [intOf]; omega
        · have e2 : (lstK f j t (i - t)).toNat = p := by omega
          have hx := HS.out
          rw [e2] at hx
          have hnp := HF.out p j (by omega) hj
          obtain ⟨y1, y2⟩ := hn
          obtain ⟨y3, y4⟩ := hnp
          rw [e] at hx ⊢
          have hpR : p < R := by omega
          by_cases hc : (f i j).natAbs < (f p j).natAbs
          · rw [if_pos ⟨hz, .inr hc⟩] at hx
            have HX := Lib.hid hx
            clear hx hz HS e h4 e2
            generalize hv : f i j = v at *
            generalize hv2 : f p j = v2 at *
            have HV := Lib.hid hv
            have HV2 := Lib.hid hv2
            clear hv hv2
            go_wp2_with fail
            (refine (spec_l12Cell_tb R C i j A n cap f v HV.out _ (B := B) (Ko ho) (by omega) (by omega) (by omega) (by omega)).mono ?_; rintro e w1 ⟨rfl, hb1⟩; (have hO_1 : BM w1 w.heap.size R C A n cap := (Kb hO)); (have ho_1 : OR w1 B (.slice A n cap) (tb R C f) := (Ko ho)); (have hbw_1 : Below w.heap.size w w1 := Kw); (have hsz_1 := hbw_1.size); clear hO ho hbw hb1; clear oa ob oc of ol; (have hO := hO_1); (have ho := ho_1); (have hbw := hbw_1); clear hO_1 ho_1 hbw_1; obtain ⟨oa, ob, oc, of, ol⟩ := hO.mx)
            go_wp2_with fail
            ((refine wp_region_held_drew (S := (fun w' => w'.cell? ⟨w.heap.size, 0, none⟩ = some (.int .i64 R) ∧ w'.cell? ⟨w.heap.size, 1, none⟩ = some (.int .i64 C) ∧ w'.cell? ⟨w.heap.size, 2, none⟩ = some (.slice A n cap))) (by kernel_rfl) ?_ (fun hHeld => ?_)); ((focus ((try dsimp only); (go_keep)))); ((refine tk_ (i := 0) (v := ?_) (y := Or.inl ⟨by rfl, ?_⟩) (h := ?_); rotate_left; (focus (((intro w hSw; (try dsimp only at hSw); go_simp) <;> (try with_reducible rfl)); done)); (try simp only [Act.put, p1_, p2_, p3_]))); ((refine tk_ (i := 1) (v := ?_) (y := Or.inl ⟨by rfl, ?_⟩) (h := ?_); rotate_left; (focus (((intro w hSw; (try dsimp only at hSw); go_simp) <;> (try with_reducible rfl)); done)); (try simp only [Act.put, p1_, p2_, p3_]))); ((refine tk_ (i := 2) (v := ?_) (y := Or.inl ⟨by rfl, ?_⟩) (h := ?_); rotate_left; (focus (((intro w hSw; (try dsimp only at hSw); go_simp) <;> (try with_reducible rfl)); done)); (try simp only [Act.put, p1_, p2_, p3_]))); ((refine tk_ (i := 3) (v := ?_) (y := Or.inl ⟨by rfl, ?_⟩) (h := ?_); rotate_left; (focus (((intro w hSw; (try dsimp only at hSw); go_simp) <;> (try with_reducible rfl)); done)); (try simp only [Act.put, p1_, p2_, p3_]))); ((refine tk_ (i := 4) (v := ?_) (y := Or.inl ⟨by rfl, ?_⟩) (h := ?_); rotate_left; (focus (((intro w hSw; (try dsimp only at hSw); go_simp) <;> (try with_reducible rfl)); done)); (try simp only [Act.put, p1_, p2_, p3_]))); ((refine tk_ (i := 5) (v := ?_) (y := Or.inl ⟨by rfl, ?_⟩) (h := ?_); rotate_left; (focus (((intro w hSw; (try dsimp only at hSw); go_simp) <;> (try with_reducible rfl)); done)); (try simp only [Act.put, p1_, p2_, p3_]))); ((refine tk_ (i := 6) (v := ?_) (y := Or.inl ⟨by rfl, ?_⟩) (h := ?_); rotate_left; (focus (((intro w hSw; (try dsimp only at hSw); go_simp) <;> (try with_reducible rfl)); done)); (try simp only [Act.put, p1_, p2_, p3_]))); ((refine tk_ (i := 8) (v := ?_) (y := Or.inl ⟨by rfl, ?_⟩) (h := ?_); rotate_left; (focus (((intro w hSw; (try dsimp only at hSw); go_simp) <;> (try with_reducible rfl)); done)); (try simp only [Act.put, p1_, p2_, p3_]))); ((refine tk_ (i := 9) (v := ?_) (y := Or.inl ⟨by rfl, ?_⟩) (h := ?_); rotate_left; (focus (((intro w hSw; (try dsimp only at hSw); go_simp) <;> (try with_reducible rfl)); done)); (try simp only [Act.put, p1_, p2_, p3_]))); ((refine tk_ (i := 10) (v := ?_) (y := Or.inl ⟨by rfl, ?_⟩) (h := ?_); rotate_left; (focus (((intro w hSw; (try dsimp only at hSw); go_simp) <;> (try with_reducible rfl)); done)); (try simp only [Act.put, p1_, p2_, p3_]))); ((refine wpAnyH_ready (rs := [7]) (by kernel_rfl) (by simp) ?_; refine AllReadyH.cons (by simp only [e1_, e2_, e3_]; try rfl) (fun K hK => ?_) AllReadyH.nil; go_simp; (go_at_call 224; refine (spec_l1Abs _ _ (by omega) (by omega)).mono ?_; rintro e w' ⟨rfl, rfl⟩); (try go_wp2_with fail); refine hK.out _ _ ?_ (fun hHeld => ?_); (focus ((try dsimp only); (go_keep))); clear hK K; (try simp only [Act.put, p1_, p2_, p3_]))); ((refine wpAnyH_ready (rs := [11]) (by kernel_rfl) (by simp) ?_; refine AllReadyH.cons (by simp only [e1_, e2_, e3_]; try rfl) (fun K hK => ?_) AllReadyH.nil; go_simp; (go_at_call 108; (refine (spec_l12Cell_tb R C p j A n cap f v2 HV2.out _ (B := B) (Ko ho) (by omega) (by omega) (by omega) (by omega)).mono ?_; rintro e w1 ⟨rfl, hb1⟩; (have hO_1 : BM w1 w.heap.size R C A n cap := (Kb hO)); (have ho_1 : OR w1 B (.slice A n cap) (tb R C f) := (Ko ho)); (have hbw_1 : Below w.heap.size w w1 := Kw); (have hsz_1 := hbw_1.size); clear hO ho hbw hb1; clear oa ob oc of ol; (have hO := hO_1); (have ho := ho_1); (have hbw := hbw_1); clear hO_1 ho_1 hbw_1; obtain ⟨oa, ob, oc, of, ol⟩ := hO.mx)); (try go_wp2_with fail); refine hK.out _ _ ?_ (fun hHeld => ?_); (focus ((try dsimp only); (go_keep))); clear hK K; (try simp only [Act.put, p1_, p2_, p3_]))); ((refine wpAnyH_ready (rs := [12]) (by kernel_rfl) (by simp) ?_; refine AllReadyH.cons (by simp only [e1_, e2_, e3_]; try rfl) (fun K hK => ?_) AllReadyH.nil; go_simp; (go_at_call 224; refine (spec_l1Abs _ _ (by omega) (by omega)).mono ?_; rintro e w' ⟨rfl, rfl⟩); (try go_wp2_with fail); refine hK.out _ _ ?_ (fun hHeld => ?_); (focus ((try dsimp only); (go_keep))); clear hK K; (try simp only [Act.put, p1_, p2_, p3_]))); ((refine tk_ (i := 13) (v := ?_) (y := Or.inl ⟨by rfl, ?_⟩) (h := ?_); rotate_left; (focus (((intro w hSw; (try dsimp only at hSw); go_simp) <;> (try with_reducible rfl)); done)); (try simp only [Act.put, p1_, p2_, p3_]))); ((refine tk_ (i := 14) (v := ?_) (y := Or.inl ⟨by rfl, ?_⟩) (h := ?_); rotate_left; (focus (((intro w hSw; (try dsimp only at hSw); go_simp) <;> (try with_reducible rfl)); done)); (try simp only [Act.put, p1_, p2_, p3_]))); ((refine tk_ (i := 15) (v := ?_) (y := Or.inl ⟨by rfl, ?_⟩) (h := ?_); rotate_left; (focus (((intro w hSw; (try dsimp only at hSw); go_simp) <;> (try with_reducible rfl)); done)); (try simp only [Act.put, p1_, p2_, p3_]))); (refine wpAnyH_done (by kernel_rfl) ?_ _))
            go_wp2_with fail
            go_roundw
            case rel => exact ⟨i + 1, by go_num, by rw [HX.out], by omega, by omega, Kb hO, Ko ho, Kw⟩
            case measure => simp only [intOf]; omega
          · rw [if_neg (by rintro ⟨_, h5⟩; omega)] at hx
            have HX := Lib.hid hx
            clear hx hz HS e h4 e2
            generalize hv : f i j = v at *
            generalize hv2 : f p j = v2 at *
            have HV := Lib.hid hv
            have HV2 := Lib.hid hv2
            clear hv hv2
            go_wp2_with fail
            (refine (spec_l12Cell_tb R C i j A n cap f v HV.out _ (B := B) (Ko ho) (by omega) (by omega) (by omega) (by omega)).mono ?_; rintro e w1 ⟨rfl, hb1⟩; (have hO_1 : BM w1 w.heap.size R C A n cap := (Kb hO)); (have ho_1 : OR w1 B (.slice A n cap) (tb R C f) := (Ko ho)); (have hbw_1 : Below w.heap.size w w1 := Kw); (have hsz_1 := hbw_1.size); clear hO ho hbw hb1; clear oa ob oc of ol; (have hO := hO_1); (have ho := ho_1); (have hbw := hbw_1); clear hO_1 ho_1 hbw_1; obtain ⟨oa, ob, oc, of, ol⟩ := hO.mx)
            go_wp2_with fail
            ((refine wp_region_held_drew (S := (fun w' => w'.cell? ⟨w.heap.size, 0, none⟩ = some (.int .i64 R) ∧ w'.cell? ⟨w.heap.size, 1, none⟩ = some (.int .i64 C) ∧ w'.cell? ⟨w.heap.size, 2, none⟩ = some (.slice A n cap))) (by kernel_rfl) ?_ (fun hHeld => ?_)); ((focus ((try dsimp only); (go_keep)))); ((refine tk_ (i := 0) (v := ?_) (y := Or.inl ⟨by rfl, ?_⟩) (h := ?_); rotate_left; (focus (((intro w hSw; (try dsimp only at hSw); go_simp) <;> (try with_reducible rfl)); done)); (try simp only [Act.put, p1_, p2_, p3_]))); ((refine tk_ (i := 1) (v := ?_) (y := Or.inl ⟨by rfl, ?_⟩) (h := ?_); rotate_left; (focus (((intro w hSw; (try dsimp only at hSw); go_simp) <;> (try with_reducible rfl)); done)); (try simp only [Act.put, p1_, p2_, p3_]))); ((refine tk_ (i := 2) (v := ?_) (y := Or.inl ⟨by rfl, ?_⟩) (h := ?_); rotate_left; (focus (((intro w hSw; (try dsimp only at hSw); go_simp) <;> (try with_reducible rfl)); done)); (try simp only [Act.put, p1_, p2_, p3_]))); ((refine tk_ (i := 3) (v := ?_) (y := Or.inl ⟨by rfl, ?_⟩) (h := ?_); rotate_left; (focus (((intro w hSw; (try dsimp only at hSw); go_simp) <;> (try with_reducible rfl)); done)); (try simp only [Act.put, p1_, p2_, p3_]))); ((refine tk_ (i := 4) (v := ?_) (y := Or.inl ⟨by rfl, ?_⟩) (h := ?_); rotate_left; (focus (((intro w hSw; (try dsimp only at hSw); go_simp) <;> (try with_reducible rfl)); done)); (try simp only [Act.put, p1_, p2_, p3_]))); ((refine tk_ (i := 5) (v := ?_) (y := Or.inl ⟨by rfl, ?_⟩) (h := ?_); rotate_left; (focus (((intro w hSw; (try dsimp only at hSw); go_simp) <;> (try with_reducible rfl)); done)); (try simp only [Act.put, p1_, p2_, p3_]))); ((refine tk_ (i := 6) (v := ?_) (y := Or.inl ⟨by rfl, ?_⟩) (h := ?_); rotate_left; (focus (((intro w hSw; (try dsimp only at hSw); go_simp) <;> (try with_reducible rfl)); done)); (try simp only [Act.put, p1_, p2_, p3_]))); ((refine tk_ (i := 8) (v := ?_) (y := Or.inl ⟨by rfl, ?_⟩) (h := ?_); rotate_left; (focus (((intro w hSw; (try dsimp only at hSw); go_simp) <;> (try with_reducible rfl)); done)); (try simp only [Act.put, p1_, p2_, p3_]))); ((refine tk_ (i := 9) (v := ?_) (y := Or.inl ⟨by rfl, ?_⟩) (h := ?_); rotate_left; (focus (((intro w hSw; (try dsimp only at hSw); go_simp) <;> (try with_reducible rfl)); done)); (try simp only [Act.put, p1_, p2_, p3_]))); ((refine tk_ (i := 10) (v := ?_) (y := Or.inl ⟨by rfl, ?_⟩) (h := ?_); rotate_left; (focus (((intro w hSw; (try dsimp only at hSw); go_simp) <;> (try with_reducible rfl)); done)); (try simp only [Act.put, p1_, p2_, p3_]))); ((refine wpAnyH_ready (rs := [7]) (by kernel_rfl) (by simp) ?_; refine AllReadyH.cons (by simp only [e1_, e2_, e3_]; try rfl) (fun K hK => ?_) AllReadyH.nil; go_simp; (go_at_call 224; refine (spec_l1Abs _ _ (by omega) (by omega)).mono ?_; rintro e w' ⟨rfl, rfl⟩); (try go_wp2_with fail); refine hK.out _ _ ?_ (fun hHeld => ?_); (focus ((try dsimp only); (go_keep))); clear hK K; (try simp only [Act.put, p1_, p2_, p3_]))); ((refine wpAnyH_ready (rs := [11]) (by kernel_rfl) (by simp) ?_; refine AllReadyH.cons (by simp only [e1_, e2_, e3_]; try rfl) (fun K hK => ?_) AllReadyH.nil; go_simp; (go_at_call 108; (refine (spec_l12Cell_tb R C p j A n cap f v2 HV2.out _ (B := B) (Ko ho) (by omega) (by omega) (by omega) (by omega)).mono ?_; rintro e w1 ⟨rfl, hb1⟩; (have hO_1 : BM w1 w.heap.size R C A n cap := (Kb hO)); (have ho_1 : OR w1 B (.slice A n cap) (tb R C f) := (Ko ho)); (have hbw_1 : Below w.heap.size w w1 := Kw); (have hsz_1 := hbw_1.size); clear hO ho hbw hb1; clear oa ob oc of ol; (have hO := hO_1); (have ho := ho_1); (have hbw := hbw_1); clear hO_1 ho_1 hbw_1; obtain ⟨oa, ob, oc, of, ol⟩ := hO.mx)); (try go_wp2_with fail); refine hK.out _ _ ?_ (fun hHeld => ?_); (focus ((try dsimp only); (go_keep))); clear hK K; (try simp only [Act.put, p1_, p2_, p3_]))); ((refine wpAnyH_ready (rs := [12]) (by kernel_rfl) (by simp) ?_; refine AllReadyH.cons (by simp only [e1_, e2_, e3_]; try rfl) (fun K hK => ?_) AllReadyH.nil; go_simp; (go_at_call 224; refine (spec_l1Abs _ _ (by omega) (by omega)).mono ?_; rintro e w' ⟨rfl, rfl⟩); (try go_wp2_with fail); refine hK.out _ _ ?_ (fun hHeld => ?_); (focus ((try dsimp only); (go_keep))); clear hK K; (try simp only [Act.put, p1_, p2_, p3_]))); ((refine tk_ (i := 13) (v := ?_) (y := Or.inl ⟨by rfl, ?_⟩) (h := ?_); rotate_left; (focus (((intro w hSw; (try dsimp only at hSw); go_simp) <;> (try with_reducible rfl)); done)); (try simp only [Act.put, p1_, p2_, p3_]))); ((refine tk_ (i := 14) (v := ?_) (y := Or.inl ⟨by rfl, ?_⟩) (h := ?_); rotate_left; (focus (((intro w hSw; (try dsimp only at hSw); go_simp) <;> (try with_reducible rfl)); done)); (try simp only [Act.put, p1_, p2_, p3_]))); ((refine tk_ (i := 15) (v := ?_) (y := Or.inl ⟨by rfl, ?_⟩) (h := ?_); rotate_left; (focus (((intro w hSw; (try dsimp only at hSw); go_simp) <;> (try with_reducible rfl)); done)); (try simp only [Act.put, p1_, p2_, p3_]))); (refine wpAnyH_done (by kernel_rfl) ?_ _))
            go_wp2_with fail
            go_roundw
            case rel => exact ⟨i + 1, by go_num, by rw [HX.out], by omega, by omega, Kb hO, Ko ho, Kw⟩
            case measure => simp only [intOf]; omega
    · obtain rfl : i = R := by omega
      have hb : -1 ≤ lstK f j t (i - t) ∧ lstK f j t (i - t) ≤ 100 := by
        rcases lstK_cases f j t (i - t) with ⟨e, _⟩ | ⟨p, e, _, h3, _⟩
        · omega
        · omega
      obtain ⟨b1, b2⟩ := hb
      have HL : Hid (lst i f j t = lstK f j t (i - t)) := Lib.hid rfl
      generalize lstK f j t (i - t) = q at *
      go_wp2_with fail
      go_ret
      exact BV.mk (vint HL.out.symm) hbw
set_option maxRecDepth 100000 in
set_option maxHeartbeats 4000000 in
theorem spec_l12Alone (R C t j p : Nat) (A : Option Addr) (n cap : Nat) (f : Fn2) (w : World) {B : Nat} (h : OR w B (.slice A n cap) (tb R C f)) (ht : t ≤ R) (hj : j < C) (hp : p < R) (hC : C ≤ 24) (hR : R ≤ 24) :
    Calls Try.prog 207 #[.agg #[.int .i64 R, .int .i64 C, .slice A n cap], .int .i64 t, .int .i64 j, .int .i64 p] w (BV (.bool (!oth R f j t p)) w) := by
  have HNO := Lib.hid (oth_no (R := R) (f := f) (j := j) (t := t) (p := p))
  have HYES := Lib.hid (fun i h1 h2 h3 h4 => (oth_iff (R := R) (f := f) (j := j) (t := t) (p := p)).2 ⟨i, h1, h2, h3, h4⟩)
  generalize oth R f j t p = res at *
  go_enter Try.func207, Try.ntmps207
  go_wp2_with fail
  go_loopw [9] (fun v wr => ∃ (i : Nat), v = .int .i64 i ∧ t ≤ i ∧ i ≤ R ∧ (∀ k, t ≤ k → k < i → ¬ (k ≠ p ∧ f k j ≠ 0)) ∧ BM wr w.heap.size R C A n cap ∧ OR wr B (.slice A n cap) (tb R C f) ∧ Below w.heap.size w wr) (fun v _ => R - (intOf v).toNat)
  case atStart => exact ⟨t, rfl, Nat.le_refl _, ht, fun k h1 h2 => absurd h1 (by omega), Ka, Ko h, Kw⟩
  case round =>
    clear h
    obtain ⟨i, rfl, hti, hiR, hno, hO, ho, hbw⟩ := hrel
    obtain ⟨oa, ob, oc, of, ol⟩ := hO.mx
    have hsz := hbw.size
    have HN := Lib.hid hno
    clear hno
    by_cases hlt : i < R
    · by_cases hip : i = p
      · have hb : ((i : Int) != (p : Int)) = false := by simp [hip]
        have HS : Hid (∀ k, t ≤ k → k < i + 1 → ¬ (k ≠ p ∧ f k j ≠ 0)) := Lib.hid (fun k h1 h2 => by
          by_cases e : k = i
          · exact fun h3 => h3.1 (e.trans hip)
          · exact HN.out k h1 (by omega))
        clear hip
        go_wp2_with fail
        go_roundw
        case rel => exact ⟨i + 1, by go_num, by omega, by omega, HS.out, Kb hO, Ko ho, Kw⟩
        case measure => simp only [intOf]; omega
      · have hb : ((i : Int) != (p : Int)) = true := by simp; omega
        have HIP := Lib.hid hip
        clear hip
        by_cases hz : f i j = 0
        · have HS : Hid (∀ k, t ≤ k → k < i + 1 → ¬ (k ≠ p ∧ f k j ≠ 0)) := Lib.hid (fun k h1 h2 => by
            by_cases e : k = i
            · exact fun h3 => h3.2 (by rw [e]; exact hz)
            · exact HN.out k h1 (by omega))
          have HZ := Lib.hid hz
          clear hz
          go_wp2_with fail
          (refine (spec_l12Cell_tb R C i j A n cap f (0) HZ.out _ (B := B) (Ko ho) (by omega) (by omega) (by omega) (by omega)).mono ?_; rintro e w1 ⟨rfl, hb1⟩; (have hO_1 : BM w1 w.heap.size R C A n cap := (Kb hO)); (have ho_1 : OR w1 B (.slice A n cap) (tb R C f) := (Ko ho)); (have hbw_1 : Below w.heap.size w w1 := Kw); (have hsz_1 := hbw_1.size); clear hO ho hbw hb1; clear oa ob oc of ol; (have hO := hO_1); (have ho := ho_1); (have hbw := hbw_1); clear hO_1 ho_1 hbw_1; obtain ⟨oa, ob, oc, of, ol⟩ := hO.mx)
          go_wp2_with fail
          go_roundw
          case rel => exact ⟨i + 1, by go_num, by omega, by omega, HS.out, Kb hO, Ko ho, Kw⟩
          case measure => simp only [intOf]; omega
        · have HR := Lib.hid (HYES.out i hti hlt HIP.out hz)
          have hnz : (f i j != 0) = true := by simpa using hz
          clear hz
          generalize hv : f i j = v at *
          have HV := Lib.hid hv
          clear hv
          go_wp2_with fail
          (refine (spec_l12Cell_tb R C i j A n cap f v HV.out _ (B := B) (Ko ho) (by omega) (by omega) (by omega) (by omega)).mono ?_; rintro e w1 ⟨rfl, hb1⟩; (have hO_1 : BM w1 w.heap.size R C A n cap := (Kb hO)); (have ho_1 : OR w1 B (.slice A n cap) (tb R C f) := (Ko ho)); (have hbw_1 : Below w.heap.size w w1 := Kw); (have hsz_1 := hbw_1.size); clear hO ho hbw hb1; clear oa ob oc of ol; (have hO := hO_1); (have ho := ho_1); (have hbw := hbw_1); clear hO_1 ho_1 hbw_1; obtain ⟨oa, ob, oc, of, ol⟩ := hO.mx)
          go_wp2_with fail
          go_ret
          exact BV.mk (vbool (by rw [HR.out]; rfl)) hbw
    · obtain rfl : i = R := by omega
      have HR := Lib.hid (HNO.out HN.out)
      go_wp2_with fail
      go_ret
      exact BV.mk (vbool (by rw [HR.out]; rfl)) hbw
/-- Two own slices written. -/
def WW2 (sv sv2 : Value) (B : Nat) (xs ys : List Int) (w : World) (e : Ending) (w' : World) : Prop := e = .returned (.tuple #[]) ∧ OR w' B sv xs ∧ OR w' B sv2 ys ∧ Below B w w' ∧ ∀ k, k < w.heap.size → some k ≠ sv.ownBlock → some k ≠ sv2.ownBlock → w'.heap[k]? = w.heap[k]?
set_option maxHeartbeats 1000000 in
theorem spec_l12Ops_add (R C i j : Nat) (t : Int) (A : Option Addr) (n cap : Nat) (A2 : Option Addr) (n2 cap2 : Nat) (f g : Fn2) (w : World) {B : Nat} (h1 : OR w B (.slice A n cap) (tb R C f)) (h2 : OR w B (.slice A2 n2 cap2) (tb R R g)) (hap : Apart (.slice A n cap) (.slice A2 n2 cap2)) (hBs : B ≤ w.heap.size) (hi : i < R) (hj : j < R) (hij : i ≠ j) (ht : Num t) (hf : NBF f) (hg : NBF g) (hC0 : 0 < C) (hC : C ≤ 24) (hR : R ≤ 24) :
    Calls Try.prog 209 #[.agg #[.int .i64 R, .int .i64 C, .slice A n cap], .agg #[.int .i64 R, .int .i64 R, .slice A2 n2 cap2], .agg #[.int .i64 2, .int .i64 i, .int .i64 j, .int .i64 t]] w (WW2 (.slice A n cap) (.slice A2 n2 cap2) B (tb R C (opA f i j t)) (tb R R (opA g i j t)) w) := by
  have HIJ := Lib.hid hij
  have HT := Lib.hid ht
  have HF := Lib.hid hf
  have HG := Lib.hid hg
  clear hij ht hf hg
  obtain ⟨ha, hb⟩ : Own (.slice A n cap) B w.heap.size ∧ Own (.slice A2 n2 cap2) B w.heap.size := ⟨h1.own, h2.own⟩
  have HA := Lib.hid ha
  have HB := Lib.hid hb
  have HAP := Lib.hid hap
  have HBs := Lib.hid hBs
  clear ha hb
  go_enter Try.func209, Try.ntmps209
  go_wp2_with fail
  have hM1 : BM ((((w.alloc (.cells #[.int .i64 R, .int .i64 C, .slice A n cap] 26)).alloc (.cells #[.int .i64 R, .int .i64 R, .slice A2 n2 cap2] 26)).alloc (.cells #[.int .i64 2, .int .i64 i, .int .i64 j, .int .i64 t] 66))) (w.heap.size + 1) R R A2 n2 cap2 := Ka
  have hX1 : Blk ((((w.alloc (.cells #[.int .i64 R, .int .i64 C, .slice A n cap] 26)).alloc (.cells #[.int .i64 R, .int .i64 R, .slice A2 n2 cap2] 26)).alloc (.cells #[.int .i64 2, .int .i64 i, .int .i64 j, .int .i64 t] 66))) (w.heap.size + 1 + 1) 66 #[.int .i64 2, .int .i64 i, .int .i64 j, .int .i64 t] := Blk.new_at _ _ _ _ (by simp)
  have hbw1 : Below B w ((((w.alloc (.cells #[.int .i64 R, .int .i64 C, .slice A n cap] 26)).alloc (.cells #[.int .i64 R, .int .i64 R, .slice A2 n2 cap2] 26)).alloc (.cells #[.int .i64 2, .int .i64 i, .int .i64 j, .int .i64 t] 66))) := by
    refine Below.mono (B := w.heap.size) ?_ HBs.out
    (repeat (first | (with_reducible (first | exact Below.refl _ _ | assumption | refine below_drewN ?_ _ | refine Below.drew ?_ | refine Below.alloc ?_ ?_ _ | refine Below.setCell ?_ ?_ _ | refine below_i ?_)) | go_size))
  generalize hw0 : ((((w.alloc (.cells #[.int .i64 R, .int .i64 C, .slice A n cap] 26)).alloc (.cells #[.int .i64 R, .int .i64 R, .slice A2 n2 cap2] 26)).alloc (.cells #[.int .i64 2, .int .i64 i, .int .i64 j, .int .i64 t] 66))) = w0 at hM1 hX1 hbw1
  have hbw0 : Below w.heap.size w w0 := by rw [← hw0]; (repeat (first | (with_reducible (first | exact Below.refl _ _ | assumption | refine below_drewN ?_ _ | refine Below.drew ?_ | refine Below.alloc ?_ ?_ _ | refine Below.setCell ?_ ?_ _ | refine below_i ?_)) | go_size))
  have ho1 : OR w0 B (.slice A n cap) (tb R C f) := by rw [← hw0]; (with_reducible (repeat (first | exact h1 | refine OR.drew ?_ | refine OR.drewN ?_ _ | refine OR.alloc ?_ _ | refine OR.b_ ?_ | refine OR.l_ ?_)))
  have ho2 : OR w0 B (.slice A2 n2 cap2) (tb R R g) := by rw [← hw0]; (with_reducible (repeat (first | exact h2 | refine OR.drew ?_ | refine OR.drewN ?_ _ | refine OR.alloc ?_ _ | refine OR.b_ ?_ | refine OR.l_ ?_)))
  have hs0 : B ≤ w0.heap.size := by rw [← hw0]; simp; have := HBs.out; omega
  refine (spec_l5Do_add R C i j t A n cap f _ (B := B) ho1 hi hj HIJ.out HT.out HF.out hC0 hC hR).mono ?_
  rintro e w1 ⟨rfl, ho1', hg1, hs1⟩
  have hM2 : BM w1 (w.heap.size + 1) R R A2 n2 cap2 := hM1.grown hg1 (fun e => by have := (HA.out _ e.symm).2; omega)
  have hX2 := hX1.grown hg1 (fun e => by have := (HA.out _ e.symm).2; omega)
  have ho2' : OR w1 B (.slice A2 n2 cap2) (tb R R g) := ho2.kept hg1 HAP.out.symm.ne
  have hbw2 : Below B w w1 := hbw1.trans (ho1.below_grown hg1 hs0)
  obtain ⟨ua, ub, uc, uf, ul⟩ := hM2.mx
  have x0 := hX2.cell 0
  have x1 := hX2.cell 1
  have x2 := hX2.cell 2
  have x3 := hX2.cell 3
  simp at x0 x1 x2 x3
  go_wp2_with fail
  refine (spec_l5Do_add R R i j t A2 n2 cap2 g _ (B := B) ho2' hi hj HIJ.out HT.out HG.out (by omega) (by omega) hR).mono ?_
  rintro e w2 ⟨rfl, ho2'', hg2, hs2⟩
  have ho1'' : OR w2 B (.slice A n cap) _ := ho1'.kept hg2 HAP.out.ne
  have hbw3 : Below B w w2 := hbw2.trans (ho2'.below_grown hg2 (by omega))
  go_wp2_with fail
  go_end0
  exact ⟨rfl, ho1'', ho2'', hbw3, fun k hk e1 e2 => (hg2.block k (by have := hg1.size; have := hbw0.size; omega) e2).trans ((hg1.block k (by have := hbw0.size; omega) e1).trans (hbw0.block k hk))⟩
set_option maxHeartbeats 1000000 in
theorem spec_l12Ops_swap (R C i j : Nat) (A : Option Addr) (n cap : Nat) (A2 : Option Addr) (n2 cap2 : Nat) (f g : Fn2) (w : World) {B : Nat} (h1 : OR w B (.slice A n cap) (tb R C f)) (h2 : OR w B (.slice A2 n2 cap2) (tb R R g)) (hap : Apart (.slice A n cap) (.slice A2 n2 cap2)) (hBs : B ≤ w.heap.size) (hi : i < R) (hj : j < R) (hij : i ≠ j) (hC0 : 0 < C) (hC : C ≤ 24) (hR : R ≤ 24) :
    Calls Try.prog 209 #[.agg #[.int .i64 R, .int .i64 C, .slice A n cap], .agg #[.int .i64 R, .int .i64 R, .slice A2 n2 cap2], .agg #[.int .i64 0, .int .i64 i, .int .i64 j, .int .i64 0]] w (WW2 (.slice A n cap) (.slice A2 n2 cap2) B (tb R C (swF f i j)) (tb R R (swF g i j)) w) := by
  have HIJ := Lib.hid hij
  clear hij
  obtain ⟨ha, hb⟩ : Own (.slice A n cap) B w.heap.size ∧ Own (.slice A2 n2 cap2) B w.heap.size := ⟨h1.own, h2.own⟩
  have HA := Lib.hid ha
  have HB := Lib.hid hb
  have HAP := Lib.hid hap
  have HBs := Lib.hid hBs
  clear ha hb
  go_enter Try.func209, Try.ntmps209
  go_wp2_with fail
  have hM1 : BM ((((w.alloc (.cells #[.int .i64 R, .int .i64 C, .slice A n cap] 26)).alloc (.cells #[.int .i64 R, .int .i64 R, .slice A2 n2 cap2] 26)).alloc (.cells #[.int .i64 0, .int .i64 i, .int .i64 j, .int .i64 0] 66))) (w.heap.size + 1) R R A2 n2 cap2 := Ka
  have hX1 : Blk ((((w.alloc (.cells #[.int .i64 R, .int .i64 C, .slice A n cap] 26)).alloc (.cells #[.int .i64 R, .int .i64 R, .slice A2 n2 cap2] 26)).alloc (.cells #[.int .i64 0, .int .i64 i, .int .i64 j, .int .i64 0] 66))) (w.heap.size + 1 + 1) 66 #[.int .i64 0, .int .i64 i, .int .i64 j, .int .i64 0] := Blk.new_at _ _ _ _ (by simp)
  have hbw1 : Below B w ((((w.alloc (.cells #[.int .i64 R, .int .i64 C, .slice A n cap] 26)).alloc (.cells #[.int .i64 R, .int .i64 R, .slice A2 n2 cap2] 26)).alloc (.cells #[.int .i64 0, .int .i64 i, .int .i64 j, .int .i64 0] 66))) := by
    refine Below.mono (B := w.heap.size) ?_ HBs.out
    (repeat (first | (with_reducible (first | exact Below.refl _ _ | assumption | refine below_drewN ?_ _ | refine Below.drew ?_ | refine Below.alloc ?_ ?_ _ | refine Below.setCell ?_ ?_ _ | refine below_i ?_)) | go_size))
  generalize hw0 : ((((w.alloc (.cells #[.int .i64 R, .int .i64 C, .slice A n cap] 26)).alloc (.cells #[.int .i64 R, .int .i64 R, .slice A2 n2 cap2] 26)).alloc (.cells #[.int .i64 0, .int .i64 i, .int .i64 j, .int .i64 0] 66))) = w0 at hM1 hX1 hbw1
  have hbw0 : Below w.heap.size w w0 := by rw [← hw0]; (repeat (first | (with_reducible (first | exact Below.refl _ _ | assumption | refine below_drewN ?_ _ | refine Below.drew ?_ | refine Below.alloc ?_ ?_ _ | refine Below.setCell ?_ ?_ _ | refine below_i ?_)) | go_size))
  have ho1 : OR w0 B (.slice A n cap) (tb R C f) := by rw [← hw0]; (with_reducible (repeat (first | exact h1 | refine OR.drew ?_ | refine OR.drewN ?_ _ | refine OR.alloc ?_ _ | refine OR.b_ ?_ | refine OR.l_ ?_)))
  have ho2 : OR w0 B (.slice A2 n2 cap2) (tb R R g) := by rw [← hw0]; (with_reducible (repeat (first | exact h2 | refine OR.drew ?_ | refine OR.drewN ?_ _ | refine OR.alloc ?_ _ | refine OR.b_ ?_ | refine OR.l_ ?_)))
  have hs0 : B ≤ w0.heap.size := by rw [← hw0]; simp; have := HBs.out; omega
  refine (spec_l5Do_swap R C i j 0 A n cap f _ (B := B) ho1 hi hj HIJ.out hC0 (by omega) hR).mono ?_
  rintro e w1 ⟨rfl, ho1', hg1, hs1⟩
  have hM2 : BM w1 (w.heap.size + 1) R R A2 n2 cap2 := hM1.grown hg1 (fun e => by have := (HA.out _ e.symm).2; omega)
  have hX2 := hX1.grown hg1 (fun e => by have := (HA.out _ e.symm).2; omega)
  have ho2' : OR w1 B (.slice A2 n2 cap2) (tb R R g) := ho2.kept hg1 HAP.out.symm.ne
  have hbw2 : Below B w w1 := hbw1.trans (ho1.below_grown hg1 hs0)
  obtain ⟨ua, ub, uc, uf, ul⟩ := hM2.mx
  have x0 := hX2.cell 0
  have x1 := hX2.cell 1
  have x2 := hX2.cell 2
  have x3 := hX2.cell 3
  simp at x0 x1 x2 x3
  go_wp2_with fail
  refine (spec_l5Do_swap R R i j 0 A2 n2 cap2 g _ (B := B) ho2' hi hj HIJ.out (by omega) (by omega) hR).mono ?_
  rintro e w2 ⟨rfl, ho2'', hg2, hs2⟩
  have ho1'' : OR w2 B (.slice A n cap) _ := ho1'.kept hg2 HAP.out.ne
  have hbw3 : Below B w w2 := hbw2.trans (ho2'.below_grown hg2 (by omega))
  go_wp2_with fail
  go_end0
  exact ⟨rfl, ho1'', ho2'', hbw3, fun k hk e1 e2 => (hg2.block k (by have := hg1.size; have := hbw0.size; omega) e2).trans ((hg1.block k (by have := hbw0.size; omega) e1).trans (hbw0.block k hk))⟩
set_option maxHeartbeats 1000000 in
theorem spec_l12Ops_neg (R C i : Nat) (A : Option Addr) (n cap : Nat) (A2 : Option Addr) (n2 cap2 : Nat) (f g : Fn2) (w : World) {B : Nat} (h1 : OR w B (.slice A n cap) (tb R C f)) (h2 : OR w B (.slice A2 n2 cap2) (tb R R g)) (hap : Apart (.slice A n cap) (.slice A2 n2 cap2)) (hBs : B ≤ w.heap.size) (hi : i < R) (hf : OKF R C f) (hg : OKF R R g) (hC0 : 0 < C) (hC : C ≤ 24) (hR : R ≤ 24) :
    Calls Try.prog 209 #[.agg #[.int .i64 R, .int .i64 C, .slice A n cap], .agg #[.int .i64 R, .int .i64 R, .slice A2 n2 cap2], .agg #[.int .i64 1, .int .i64 i, .int .i64 i, .int .i64 0]] w (WW2 (.slice A n cap) (.slice A2 n2 cap2) B (tb R C (opM f i)) (tb R R (opM g i)) w) := by
  have HF := Lib.hid hf
  have HG := Lib.hid hg
  rw [← opM_eq hf i hi, ← opM_eq hg i hi]
  clear hf hg
  obtain ⟨ha, hb⟩ : Own (.slice A n cap) B w.heap.size ∧ Own (.slice A2 n2 cap2) B w.heap.size := ⟨h1.own, h2.own⟩
  have HA := Lib.hid ha
  have HB := Lib.hid hb
  have HAP := Lib.hid hap
  have HBs := Lib.hid hBs
  clear ha hb
  go_enter Try.func209, Try.ntmps209
  go_wp2_with fail
  have hM1 : BM ((((w.alloc (.cells #[.int .i64 R, .int .i64 C, .slice A n cap] 26)).alloc (.cells #[.int .i64 R, .int .i64 R, .slice A2 n2 cap2] 26)).alloc (.cells #[.int .i64 1, .int .i64 i, .int .i64 i, .int .i64 0] 66))) (w.heap.size + 1) R R A2 n2 cap2 := Ka
  have hX1 : Blk ((((w.alloc (.cells #[.int .i64 R, .int .i64 C, .slice A n cap] 26)).alloc (.cells #[.int .i64 R, .int .i64 R, .slice A2 n2 cap2] 26)).alloc (.cells #[.int .i64 1, .int .i64 i, .int .i64 i, .int .i64 0] 66))) (w.heap.size + 1 + 1) 66 #[.int .i64 1, .int .i64 i, .int .i64 i, .int .i64 0] := Blk.new_at _ _ _ _ (by simp)
  have hbw1 : Below B w ((((w.alloc (.cells #[.int .i64 R, .int .i64 C, .slice A n cap] 26)).alloc (.cells #[.int .i64 R, .int .i64 R, .slice A2 n2 cap2] 26)).alloc (.cells #[.int .i64 1, .int .i64 i, .int .i64 i, .int .i64 0] 66))) := by
    refine Below.mono (B := w.heap.size) ?_ HBs.out
    (repeat (first | (with_reducible (first | exact Below.refl _ _ | assumption | refine below_drewN ?_ _ | refine Below.drew ?_ | refine Below.alloc ?_ ?_ _ | refine Below.setCell ?_ ?_ _ | refine below_i ?_)) | go_size))
  generalize hw0 : ((((w.alloc (.cells #[.int .i64 R, .int .i64 C, .slice A n cap] 26)).alloc (.cells #[.int .i64 R, .int .i64 R, .slice A2 n2 cap2] 26)).alloc (.cells #[.int .i64 1, .int .i64 i, .int .i64 i, .int .i64 0] 66))) = w0 at hM1 hX1 hbw1
  have hbw0 : Below w.heap.size w w0 := by rw [← hw0]; (repeat (first | (with_reducible (first | exact Below.refl _ _ | assumption | refine below_drewN ?_ _ | refine Below.drew ?_ | refine Below.alloc ?_ ?_ _ | refine Below.setCell ?_ ?_ _ | refine below_i ?_)) | go_size))
  have ho1 : OR w0 B (.slice A n cap) (tb R C f) := by rw [← hw0]; (with_reducible (repeat (first | exact h1 | refine OR.drew ?_ | refine OR.drewN ?_ _ | refine OR.alloc ?_ _ | refine OR.b_ ?_ | refine OR.l_ ?_)))
  have ho2 : OR w0 B (.slice A2 n2 cap2) (tb R R g) := by rw [← hw0]; (with_reducible (repeat (first | exact h2 | refine OR.drew ?_ | refine OR.drewN ?_ _ | refine OR.alloc ?_ _ | refine OR.b_ ?_ | refine OR.l_ ?_)))
  have hs0 : B ≤ w0.heap.size := by rw [← hw0]; simp; have := HBs.out; omega
  refine (spec_l5Do_neg R C i 0 A n cap f _ (B := B) ho1 hi (fun k hk => HF.out i k hi hk) hC0 hC hR).mono ?_
  rintro e w1 ⟨rfl, ho1', hg1, hs1⟩
  have hM2 : BM w1 (w.heap.size + 1) R R A2 n2 cap2 := hM1.grown hg1 (fun e => by have := (HA.out _ e.symm).2; omega)
  have hX2 := hX1.grown hg1 (fun e => by have := (HA.out _ e.symm).2; omega)
  have ho2' : OR w1 B (.slice A2 n2 cap2) (tb R R g) := ho2.kept hg1 HAP.out.symm.ne
  have hbw2 : Below B w w1 := hbw1.trans (ho1.below_grown hg1 hs0)
  obtain ⟨ua, ub, uc, uf, ul⟩ := hM2.mx
  have x0 := hX2.cell 0
  have x1 := hX2.cell 1
  have x2 := hX2.cell 2
  have x3 := hX2.cell 3
  simp at x0 x1 x2 x3
  go_wp2_with fail
  refine (spec_l5Do_neg R R i 0 A2 n2 cap2 g _ (B := B) ho2' hi (fun k hk => HG.out i k hi hk) (by omega) (by omega) hR).mono ?_
  rintro e w2 ⟨rfl, ho2'', hg2, hs2⟩
  have ho1'' : OR w2 B (.slice A n cap) _ := ho1'.kept hg2 HAP.out.ne
  have hbw3 : Below B w w2 := hbw2.trans (ho2'.below_grown hg2 (by omega))
  go_wp2_with fail
  go_end0
  exact ⟨rfl, ho1'', ho2'', hbw3, fun k hk e1 e2 => (hg2.block k (by have := hg1.size; have := hbw0.size; omega) e2).trans ((hg1.block k (by have := hbw0.size; omega) e1).trans (hbw0.block k hk))⟩
end Go.Proofs.Ytacjonkehcamgaa

/-
  DERIVED. l13Least of the reference.
-/
namespace Go.Proofs.Ytacjonkehcamgaa
open Go.RowKit
set_option linter.unusedVariables false
set_option linter.unusedSimpArgs false
/-- Two numbers. -/
def P2 (o : Int × Int) (w : World) (e : Ending) (w' : World) : Prop := e = .returned (.tuple #[.int .i64 o.1, .int .i64 o.2]) ∧ Below w.heap.size w w'
set_option maxRecDepth 100000 in
set_option maxHeartbeats 4000000 in
theorem spec_l13Least (R C t : Nat) (A : Option Addr) (n cap : Nat) (f : Fn2) (w : World) {B : Nat} (h : OR w B (.slice A n cap) (tb R C f)) (ht : t ≤ R) (htC : t ≤ C) (hf : OKF R C f) (hC : C ≤ 24) (hR : R ≤ 24) :
    Calls Try.prog 216 #[.agg #[.int .i64 R, .int .i64 C, .slice A n cap], .int .i64 t] w (P2 (ls2 R C f t) w) := by
  have HF := Lib.hid hf
  clear hf
  go_enter Try.func216, Try.ntmps216
  go_wp2_with fail
  go_loopw [6, 7, 8] (fun u v x wr => ∃ (i : Nat) (o : Int × Int), x = .int .i64 i ∧ lsO f t (C - t) (i - t) = o ∧ u = .int .i64 o.1 ∧ v = .int .i64 o.2 ∧ t ≤ i ∧ i ≤ R ∧ BM wr w.heap.size R C A n cap ∧ OR wr B (.slice A n cap) (tb R C f) ∧ Below w.heap.size w wr) (fun _ _ x _ => R - (intOf x).toNat)
  case atStart => exact ⟨t, (-1, -1), rfl, by rw [Nat.sub_self]; rfl, rfl, rfl, Nat.le_refl _, ht, Ka, Ko h, Kw⟩
  case round =>
    clear h
    obtain ⟨i, o, rfl, hO', rfl, rfl, hti, hiR, hO, ho, hbw⟩ := hrel
    obtain ⟨oa, ob, oc, of, ol⟩ := hO.mx
    have hsz := hbw.size
    by_cases hlt : i < R
    · have HO0 : Hid (lsI f i t (lsO f t (C - t) (i - t)) (t - t) = o) := Lib.hid (by rw [Nat.sub_self]; exact hO')
      clear hO'
      go_wp2_with fail
      obtain ⟨wo2, rfl⟩ : ∃ wo : World, wo = wr := ⟨_, rfl⟩
      go_loopw [6, 7, 9] (fun u v x wr => ∃ (j : Nat) (o : Int × Int), x = .int .i64 j ∧ lsI f i t (lsO f t (C - t) (i - t)) (j - t) = o ∧ u = .int .i64 o.1 ∧ v = .int .i64 o.2 ∧ t ≤ j ∧ j ≤ C ∧ BM wr w.heap.size R C A n cap ∧ OR wr B (.slice A n cap) (tb R C f) ∧ Below w.heap.size w wr) (fun _ _ x _ => C - (intOf x).toNat)
      case atStart => exact ⟨t, o, rfl, HO0.out, rfl, rfl, Nat.le_refl _, htC, hO, ho, hbw⟩
      case round =>
        clear oa ob oc of ol
        clear hO ho hbw HO0 hsz
        obtain ⟨j, o2, rfl, hO', rfl, rfl, htj, hjC, hO, ho, hbw⟩ := hrel
        obtain ⟨oa, ob, oc, of, ol⟩ := hO.mx
        have hsz := hbw.size
        by_cases hjl : j < C
        · have hn := HF.out i j hlt hjl
          have hx := lsI_next (f := f) (i := i) (st := lsO f t (C - t) (i - t)) htj
          have hcs := lsI_form (f := f) (C := C) hti hlt htj (Nat.le_of_lt hjl)
          rw [hO'] at hx hcs
          by_cases hz : f i j = 0
          · rw [if_neg (by simp [hz])] at hx
            have HX := Lib.hid hx
            have hnz : ((((f i j).natAbs : Nat) : Int) != 0) = false := by simp [hz]
            obtain ⟨y1, y2⟩ := hn
            have hb : -1 ≤ o2.1 ∧ o2.1 ≤ 100 := by
              rcases hcs with rfl | ⟨p, q, rfl, h3, _⟩
              · decide
              · dsimp only; omega
            obtain ⟨b1, b2⟩ := hb
            clear hx hz hcs hO'
            generalize hv : f i j = v at *
            have HV := Lib.hid hv
            clear hv
            go_wp2_with fail
            (refine (spec_l12Cell_tb R C i j A n cap f v HV.out _ (B := B) (Ko ho) (by omega) (by omega) (by omega) (by omega)).mono ?_; rintro e w1 ⟨rfl, hb1⟩; (have hO_1 : BM w1 w.heap.size R C A n cap := (Kb hO)); (have ho_1 : OR w1 B (.slice A n cap) (tb R C f) := (Ko ho)); (have hbw_1 : Below w.heap.size w w1 := Kw); (have hsz_1 := hbw_1.size); clear hO ho hbw hb1; clear oa ob oc of ol; (have hO := hO_1); (have ho := ho_1); (have hbw := hbw_1); clear hO_1 ho_1 hbw_1; obtain ⟨oa, ob, oc, of, ol⟩ := hO.mx)
            go_wp2_with (go_at_call 224; refine (spec_l1Abs _ _ (by omega) (by omega)).mono ?_; rintro e w' ⟨rfl, rfl⟩)
            go_wp2_with fail
            go_roundw
            case rel => exact ⟨j + 1, _, by go_num, HX.out, rfl, rfl, by omega, by omega, Kb hO, Ko ho, Kw⟩
            case measure => simp only [intOf]; omega
          · rcases hcs with rfl | ⟨p, q, rfl, hpR, hqC, hpq⟩
            · rw [if_pos ⟨hz, .inl (by decide)⟩] at hx
              have HX := Lib.hid hx
              obtain ⟨y1, y2⟩ := hn
              have hnz : ((((f i j).natAbs : Nat) : Int) != 0) = true := by simp; omega
              clear hx hz hO'
              generalize hv : f i j = v at *
              have HV := Lib.hid hv
              clear hv
              go_wp2_with fail
              (refine (spec_l12Cell_tb R C i j A n cap f v HV.out _ (B := B) (Ko ho) (by omega) (by omega) (by omega) (by omega)).mono ?_; rintro e w1 ⟨rfl, hb1⟩; (have hO_1 : BM w1 w.heap.size R C A n cap := (Kb hO)); (have ho_1 : OR w1 B (.slice A n cap) (tb R C f) := (Ko ho)); (have hbw_1 : Below w.heap.size w w1 := Kw); (have hsz_1 := hbw_1.size); clear hO ho hbw hb1; clear oa ob oc of ol; (have hO := hO_1); (have ho := ho_1); (have hbw := hbw_1); clear hO_1 ho_1 hbw_1; obtain ⟨oa, ob, oc, of, ol⟩ := hO.mx)
              go_wp2_with (go_at_call 224; refine (spec_l1Abs _ _ (by omega) (by omega)).mono ?_; rintro e w' ⟨rfl, rfl⟩)
              go_wp2_with fail
              go_roundw
              case rel => exact ⟨j + 1, _, by go_num, HX.out, rfl, rfl, by omega, by omega, Kb hO, Ko ho, Kw⟩
              case measure => simp only [intOf]; omega
            · simp only [Int.toNat_natCast] at hx
              have hnp := HF.out p q hpR hqC
              obtain ⟨y1, y2⟩ := hn
              obtain ⟨y3, y4⟩ := hnp
              have hnz : ((((f i j).natAbs : Nat) : Int) != 0) = true := by simp; omega
              by_cases hc : (f i j).natAbs < (f p q).natAbs
              · rw [if_pos ⟨hz, .inr hc⟩] at hx
                have HX := Lib.hid hx
                clear hx hz hO' hpq
                generalize hv : f i j = v at *
                generalize hv2 : f p q = v2 at *
                have HV := Lib.hid hv
                have HV2 := Lib.hid hv2
                clear hv hv2
                go_wp2_with fail
                (refine (spec_l12Cell_tb R C i j A n cap f v HV.out _ (B := B) (Ko ho) (by omega) (by omega) (by omega) (by omega)).mono ?_; rintro e w1 ⟨rfl, hb1⟩; (have hO_1 : BM w1 w.heap.size R C A n cap := (Kb hO)); (have ho_1 : OR w1 B (.slice A n cap) (tb R C f) := (Ko ho)); (have hbw_1 : Below w.heap.size w w1 := Kw); (have hsz_1 := hbw_1.size); clear hO ho hbw hb1; clear oa ob oc of ol; (have hO := hO_1); (have ho := ho_1); (have hbw := hbw_1); clear hO_1 ho_1 hbw_1; obtain ⟨oa, ob, oc, of, ol⟩ := hO.mx)
                go_wp2_with (go_at_call 224; refine (spec_l1Abs _ _ (by omega) (by omega)).mono ?_; rintro e w' ⟨rfl, rfl⟩)
                (refine (spec_l12Cell_tb R C p q A n cap f v2 HV2.out _ (B := B) (Ko ho) (by omega) (by omega) (by omega) (by omega)).mono ?_; rintro e w1 ⟨rfl, hb1⟩; (have hO_1 : BM w1 w.heap.size R C A n cap := (Kb hO)); (have ho_1 : OR w1 B (.slice A n cap) (tb R C f) := (Ko ho)); (have hbw_1 : Below w.heap.size w w1 := Kw); (have hsz_1 := hbw_1.size); clear hO ho hbw hb1; clear oa ob oc of ol; (have hO := hO_1); (have ho := ho_1); (have hbw := hbw_1); clear hO_1 ho_1 hbw_1; obtain ⟨oa, ob, oc, of, ol⟩ := hO.mx)
                go_wp2_with (go_at_call 224; refine (spec_l1Abs _ _ (by omega) (by omega)).mono ?_; rintro e w' ⟨rfl, rfl⟩)
                go_wp2_with fail
                go_roundw
                case rel => exact ⟨j + 1, _, by go_num, HX.out, rfl, rfl, by omega, by omega, Kb hO, Ko ho, Kw⟩
                case measure => simp only [intOf]; omega
              · rw [if_neg (by rintro ⟨_, h5⟩; omega)] at hx
                have HX := Lib.hid hx
                clear hx hz hO' hpq
                generalize hv : f i j = v at *
                generalize hv2 : f p q = v2 at *
                have HV := Lib.hid hv
                have HV2 := Lib.hid hv2
                clear hv hv2
                go_wp2_with fail
                (refine (spec_l12Cell_tb R C i j A n cap f v HV.out _ (B := B) (Ko ho) (by omega) (by omega) (by omega) (by omega)).mono ?_; rintro e w1 ⟨rfl, hb1⟩; (have hO_1 : BM w1 w.heap.size R C A n cap := (Kb hO)); (have ho_1 : OR w1 B (.slice A n cap) (tb R C f) := (Ko ho)); (have hbw_1 : Below w.heap.size w w1 := Kw); (have hsz_1 := hbw_1.size); clear hO ho hbw hb1; clear oa ob oc of ol; (have hO := hO_1); (have ho := ho_1); (have hbw := hbw_1); clear hO_1 ho_1 hbw_1; obtain ⟨oa, ob, oc, of, ol⟩ := hO.mx)
                go_wp2_with (go_at_call 224; refine (spec_l1Abs _ _ (by omega) (by omega)).mono ?_; rintro e w' ⟨rfl, rfl⟩)
                (refine (spec_l12Cell_tb R C p q A n cap f v2 HV2.out _ (B := B) (Ko ho) (by omega) (by omega) (by omega) (by omega)).mono ?_; rintro e w1 ⟨rfl, hb1⟩; (have hO_1 : BM w1 w.heap.size R C A n cap := (Kb hO)); (have ho_1 : OR w1 B (.slice A n cap) (tb R C f) := (Ko ho)); (have hbw_1 : Below w.heap.size w w1 := Kw); (have hsz_1 := hbw_1.size); clear hO ho hbw hb1; clear oa ob oc of ol; (have hO := hO_1); (have ho := ho_1); (have hbw := hbw_1); clear hO_1 ho_1 hbw_1; obtain ⟨oa, ob, oc, of, ol⟩ := hO.mx)
                go_wp2_with (go_at_call 224; refine (spec_l1Abs _ _ (by omega) (by omega)).mono ?_; rintro e w' ⟨rfl, rfl⟩)
                go_wp2_with fail
                go_roundw
                case rel => exact ⟨j + 1, _, by go_num, HX.out, rfl, rfl, by omega, by omega, Kb hO, Ko ho, Kw⟩
                case measure => simp only [intOf]; omega
        · obtain rfl : j = C := by omega
          have HX : Hid (lsO f t (j - t) (i + 1 - t) = o2) := Lib.hid (by rw [lsO_next hti]; exact hO')
          clear hO'
          go_wp2_with fail
          go_roundw
          case rel => exact ⟨i + 1, o2, by go_num, HX.out, rfl, rfl, by omega, by omega, hO, ho, hbw⟩
          case measure => simp only [intOf]; omega
    · obtain rfl : i = R := by omega
      have HX : Hid (ls2 i C f t = o) := Lib.hid hO'
      have hb : -1 ≤ o.1 ∧ o.1 ≤ 100 := by
        rcases ls2_cases i C f t with ⟨e, _⟩ | ⟨p, q, e, h3, _⟩
        · rw [← HX.out, e]; decide
        · rw [← HX.out, e]; dsimp only; omega
      clear hO'
      go_wp2_with fail
      go_ret2
      rw [HX.out]
      exact ⟨rfl, Kw⟩
end Go.Proofs.Ytacjonkehcamgaa

/-
  DERIVED. sumWith.
-/
namespace Go.Proofs.Ytacjonkehcamgaa
open Go.RowKit
set_option linter.unusedVariables false
set_option linter.unusedSimpArgs false
set_option maxRecDepth 100000 in
set_option maxHeartbeats 8000000 in
theorem impl_sumWith (Ax Al : Option Addr) (nx capx nl capl : Nat) (qs ls : List Int) (w : World) {B B' : Nat} (hx : RI w B Ax (nx * 2) qs) (hl : RI w B' Al nl ls) (hB : B ≤ w.heap.size) (hB' : B' ≤ w.heap.size) (hnx : nx ≤ 1048576) (hnl : nx ≤ nl) :
    Calls Try.prog 104 #[.slice Ax nx capx, .slice Al nl capl] w (BV (rV (rsum (fun k => (ls.getD k 0, 1)) (fl qs) nx)) w) := by
  have H4 := Lib.hid (hx.more hB)
  have H3 := Lib.hid (hl.more hB')
  clear hx hl
  go_enter Try.func104, Try.ntmps104
  go_wp2_with fail
  refine (impl_whole 0 _).mono ?_
  rintro e w1 ⟨rfl, hb1⟩
  have hsz1 := hb1.size
  simp at hsz1
  have hR1 : BQ w1 w.heap.size 0 0 := by (with_reducible (repeat (first | assumption | refine Blk.new_at _ _ _ _ Ks | refine Blk.below ?_ (by assumption) Ks | apply Blk.drew | apply Blk.drewN | refine Blk.far ?_ (by simp only [ne_eq]; omega) _ | apply Blk.alloc)))
  have hbw1 : Below w.heap.size w w1 := Kw
  have hbS1 := (hR1.cells).2.2.2
  go_wp2_with fail
  generalize hbS : w1.heap.size = bS at *
  have hR : BQ (w1.alloc (.cells #[.int .i64 0, .int .i64 1] 92)) w.heap.size 0 0 := by (with_reducible (repeat (first | exact hR1 | refine Blk.new_at _ _ _ _ Ks | refine Blk.below ?_ (by assumption) Ks | apply Blk.drew | apply Blk.drewN | refine Blk.far ?_ (by simp only [ne_eq]; omega) _ | apply Blk.alloc)))
  have hS : BQ (w1.alloc (.cells #[.int .i64 0, .int .i64 1] 92)) bS (rsum (fun k => (ls.getD k 0, 1)) (fl qs) 0).1 (rsum (fun k => (ls.getD k 0, 1)) (fl qs) 0).2 := by
    show BQ _ bS 0 1
    (with_reducible (repeat (first | assumption | refine Blk.new_at _ _ _ _ Ks | refine Blk.below ?_ (by assumption) Ks | apply Blk.drew | apply Blk.drewN | refine Blk.far ?_ (by simp only [ne_eq]; omega) _ | apply Blk.alloc)))
  have hbw : Below w.heap.size w (w1.alloc (.cells #[.int .i64 0, .int .i64 1] 92)) := Kw
  generalize hwo : w1.alloc (.cells #[.int .i64 0, .int .i64 1] 92) = wo at *
  clear hwo hR1 hbw1 hb1
  go_loopw [10] (fun v wr => ∃ k : Nat, v = .int .i64 k ∧ k ≤ nx ∧ BQ wr w.heap.size 0 0 ∧ BQ wr bS (rsum (fun k => (ls.getD k 0, 1)) (fl qs) k).1 (rsum (fun k => (ls.getD k 0, 1)) (fl qs) k).2 ∧ Below w.heap.size w wr) (fun v _ => nx - (intOf v).toNat)
  case atStart => exact ⟨0, rfl, Nat.zero_le _, hR, hS, hbw⟩
  case round =>
    clear hR hS hbw
    obtain ⟨k, rfl, hk, hR, hS, hbw⟩ := hrel
    by_cases hkC : k < nx
    · obtain ⟨bx, ox, rfl, hbx, _⟩ := H4.out.2 (by omega)
      obtain ⟨bl, ol, rfl, hbl, _⟩ := H3.out.2 (by omega)
      have hxi : RI wr w.heap.size (some ⟨bx, ox, none⟩) (nx * 2) qs := Kr H4.out
      have hli : RI wr w.heap.size (some ⟨bl, ol, none⟩) nl ls := Kr H3.out
      have cx1 := hxi.at_ (k := k * 2) (by omega)
      have cx2 : wr.cell? ⟨bx, ox + k * 2 + 1, none⟩ = _ := hxi.at_ (k := k * 2 + 1) (by omega)
      have cl := hli.at_ (k := k) (by omega)
      have hstep : rsum (fun k => (ls.getD k 0, 1)) (fl qs) (k + 1) = addR (rsum (fun k => (ls.getD k 0, 1)) (fl qs) k) (mulR (qs.getD (k * 2) 0, qs.getD (k * 2 + 1) 0) (ls.getD k 0, 1)) := by
        rw [mulR_comm]; rfl
      have HSTEP := Lib.hid hstep
      obtain ⟨x, hx⟩ : ∃ x, qs.getD (k * 2) 0 = x := ⟨_, rfl⟩
      obtain ⟨y, hy⟩ : ∃ y, qs.getD (k * 2 + 1) 0 = y := ⟨_, rfl⟩
      obtain ⟨l, hl⟩ : ∃ l, ls.getD k 0 = l := ⟨_, rfl⟩
      have HX1 := Lib.hid hx
      have HX2 := Lib.hid hy
      have HX3 := Lib.hid hl
      rw [hx] at cx1
      rw [hy] at cx2
      rw [hl] at cl
      clear hstep hx hy hl
      obtain ⟨s, hs⟩ : ∃ s, rsum (fun k => (ls.getD k 0, 1)) (fl qs) k = s := ⟨_, rfl⟩
      have HS0 := Lib.hid hs
      rw [hs] at hS
      clear hs
      have hkn : k < nl := by omega
      have hne2 : bS ≠ bx := by omega
      have hne3 : bS ≠ bl := by omega
      obtain ⟨sa, sb, sf, sl⟩ := hS.cells
      go_wp2_with fail
      ((refine wp_region_held_drew (S := (fun w' => w'.cell? ⟨bx, ox + k * 2, none⟩ = some (.int .i64 x) ∧ w'.cell? ⟨bx, ox + k * 2 + 1, none⟩ = some (.int .i64 y) ∧ w'.cell? ⟨bl, ol + k, none⟩ = some (.int .i64 l))) (by kernel_rfl) ?_ (fun hHeld => ?_)); ((focus ((try dsimp only); (go_keep)))); ((refine tk_ (i := 1) (v := ?_) (y := Or.inl ⟨by rfl, ?_⟩) (h := ?_); rotate_left; (focus (((intro w hSw; (try dsimp only at hSw); go_simp) <;> (try with_reducible rfl)); done)); (try simp only [Act.put, p1_, p2_, p3_]))); ((refine tk_ (i := 2) (v := ?_) (y := Or.inl ⟨by rfl, ?_⟩) (h := ?_); rotate_left; (focus (((intro w hSw; (try dsimp only at hSw); go_simp) <;> (try with_reducible rfl)); done)); (try simp only [Act.put, p1_, p2_, p3_]))); ((refine tk_ (i := 3) (v := ?_) (y := Or.inl ⟨by rfl, ?_⟩) (h := ?_); rotate_left; (focus (((intro w hSw; (try dsimp only at hSw); go_simp) <;> (try with_reducible rfl)); done)); (try simp only [Act.put, p1_, p2_, p3_]))); ((refine tk_ (i := 4) (v := ?_) (y := Or.inl ⟨by rfl, ?_⟩) (h := ?_); rotate_left; (focus (((intro w hSw; (try dsimp only at hSw); go_simp) <;> (try with_reducible rfl)); done)); (try simp only [Act.put, p1_, p2_, p3_]))); ((refine tk_ (i := 5) (v := ?_) (y := Or.inl ⟨by rfl, ?_⟩) (h := ?_); rotate_left; (focus (((intro w hSw; (try dsimp only at hSw); go_simp) <;> (try with_reducible rfl)); done)); (try simp only [Act.put, p1_, p2_, p3_]))); ((refine tk_ (i := 6) (v := ?_) (y := Or.inl ⟨by rfl, ?_⟩) (h := ?_); rotate_left; (focus (((intro w hSw; (try dsimp only at hSw); go_simp) <;> (try with_reducible rfl)); done)); (try simp only [Act.put, p1_, p2_, p3_]))); ((refine tk_ (i := 7) (v := ?_) (y := Or.inl ⟨by rfl, ?_⟩) (h := ?_); rotate_left; (focus (((intro w hSw; (try dsimp only at hSw); go_simp) <;> (try with_reducible rfl)); done)); (try simp only [Act.put, p1_, p2_, p3_]))); ((refine tk_ (i := 8) (v := ?_) (y := Or.inl ⟨by rfl, ?_⟩) (h := ?_); rotate_left; (focus (((intro w hSw; (try dsimp only at hSw); go_simp) <;> (try with_reducible rfl)); done)); (try simp only [Act.put, p1_, p2_, p3_]))); (refine wpAnyH_ready (rs := [0, 9]) (by kernel_rfl) (by simp) ?_); (refine AllReadyH.cons (by simp only [e1_, e2_, e3_]; try rfl) ?_ ?_); ((focus ((intro K hK); (go_simp); ((try go_wp2_with fail)); (refine hK.out _ _ ?_ (fun hHeld => ?_)); ((focus ((try dsimp only); (go_keep)))); (clear hK K); ((try simp only [Act.put, p1_, p2_, p3_])); (refine wpAnyH_ready (rs := [9]) (by kernel_rfl) (by simp) ?_); (refine AllReadyH.cons (by simp only [e1_, e2_, e3_]; try rfl) ?_ ?_); ((focus ((intro K hK); (go_simp); ((refine (impl_whole _ _).mono ?_; rintro e w4 ⟨rfl, hb4⟩; have hsz_0 := hb4.size; (try simp at hsz_0); have hR_1 : BQ w4 w.heap.size 0 0 := (by (with_reducible (repeat (first | exact hR | refine Blk.new_at _ _ _ _ Ks | refine Blk.below ?_ (by assumption) Ks | apply Blk.drew | apply Blk.drewN | refine Blk.far ?_ (by simp only [ne_eq]; omega) _ | apply Blk.alloc)))); have hS_1 : BQ w4 bS s.1 s.2 := (by (with_reducible (repeat (first | exact hS | refine Blk.new_at _ _ _ _ Ks | refine Blk.below ?_ (by assumption) Ks | apply Blk.drew | apply Blk.drewN | refine Blk.far ?_ (by simp only [ne_eq]; omega) _ | apply Blk.alloc)))); have hxi_1 : RI w4 w.heap.size (some ⟨bx, ox, none⟩) (nx * 2) qs := (Kr hxi); have hli_1 : RI w4 w.heap.size (some ⟨bl, ol, none⟩) nl ls := (Kr hli); have hbw_1 : Below w.heap.size w w4 := Kw; clear sa sb sf sl; clear hR hS hxi hli hbw cx1 cx2 cl; have hR := hR_1; have hS := hS_1; have hxi := hxi_1; have hli := hli_1; have hbw := hbw_1; clear hR_1 hS_1 hxi_1 hli_1 hbw_1; obtain ⟨sa, sb, sf, sl⟩ := hS.cells; have cx1 := hxi.at_ (k := k * 2) (by omega); have cx2 : World.cell? w4 ⟨bx, ox + k * 2 + 1, none⟩ = _ := hxi.at_ (k := k * 2 + 1) (by omega); have cl := hli.at_ (k := k) (by omega); rw [HX1.out] at cx1; rw [HX2.out] at cx2; rw [HX3.out] at cl)); ((try go_wp2_with fail)); (refine hK.out _ _ ?_ (fun hHeld => ?_)); ((focus ((try dsimp only); (go_keep)))); (clear hK K); ((try simp only [Act.put, p1_, p2_, p3_])); (refine wpAnyH_ready (rs := [10]) (by kernel_rfl) (by simp) ?_); (refine AllReadyH.cons (by simp only [e1_, e2_, e3_]; try rfl) ?_ ?_); ((focus ((intro K hK); (go_simp); ((refine (impl_MultiplyRatios x y _ 1 _).mono ?_; rintro e w5 ⟨rfl, hb5⟩; unfold rV; have hsz_0 := hb5.size; (try simp at hsz_0); have hR_1 : BQ w5 w.heap.size 0 0 := (by (with_reducible (repeat (first | exact hR | refine Blk.new_at _ _ _ _ Ks | refine Blk.below ?_ (by assumption) Ks | apply Blk.drew | apply Blk.drewN | refine Blk.far ?_ (by simp only [ne_eq]; omega) _ | apply Blk.alloc)))); have hS_1 : BQ w5 bS s.1 s.2 := (by (with_reducible (repeat (first | exact hS | refine Blk.new_at _ _ _ _ Ks | refine Blk.below ?_ (by assumption) Ks | apply Blk.drew | apply Blk.drewN | refine Blk.far ?_ (by simp only [ne_eq]; omega) _ | apply Blk.alloc)))); have hxi_1 : RI w5 w.heap.size (some ⟨bx, ox, none⟩) (nx * 2) qs := (Kr hxi); have hli_1 : RI w5 w.heap.size (some ⟨bl, ol, none⟩) nl ls := (Kr hli); have hbw_1 : Below w.heap.size w w5 := Kw; clear sa sb sf sl; clear hR hS hxi hli hbw cx1 cx2 cl; have hR := hR_1; have hS := hS_1; have hxi := hxi_1; have hli := hli_1; have hbw := hbw_1; clear hR_1 hS_1 hxi_1 hli_1 hbw_1; obtain ⟨sa, sb, sf, sl⟩ := hS.cells; have cx1 := hxi.at_ (k := k * 2) (by omega); have cx2 : World.cell? w5 ⟨bx, ox + k * 2 + 1, none⟩ = _ := hxi.at_ (k := k * 2 + 1) (by omega); have cl := hli.at_ (k := k) (by omega); rw [HX1.out] at cx1; rw [HX2.out] at cx2; rw [HX3.out] at cl)); ((try go_wp2_with fail)); (refine hK.out _ _ ?_ (fun hHeld => ?_)); ((focus ((try dsimp only); (go_keep)))); (clear hK K); ((try simp only [Act.put, p1_, p2_, p3_])); (refine wpAnyH_ready (rs := [11]) (by kernel_rfl) (by simp) ?_); (refine AllReadyH.cons (by simp only [e1_, e2_, e3_]; try rfl) ?_ ?_); ((focus ((intro K hK); (go_simp); ((refine (impl_AddRatios s.1 s.2 _ _ _).mono ?_; rintro e w6 ⟨rfl, hb6⟩; unfold rV; have hsz_0 := hb6.size; (try simp at hsz_0); have hR_1 : BQ w6 w.heap.size 0 0 := (by (with_reducible (repeat (first | exact hR | refine Blk.new_at _ _ _ _ Ks | refine Blk.below ?_ (by assumption) Ks | apply Blk.drew | apply Blk.drewN | refine Blk.far ?_ (by simp only [ne_eq]; omega) _ | apply Blk.alloc)))); have hS_1 : BQ w6 bS s.1 s.2 := (by (with_reducible (repeat (first | exact hS | refine Blk.new_at _ _ _ _ Ks | refine Blk.below ?_ (by assumption) Ks | apply Blk.drew | apply Blk.drewN | refine Blk.far ?_ (by simp only [ne_eq]; omega) _ | apply Blk.alloc)))); have hxi_1 : RI w6 w.heap.size (some ⟨bx, ox, none⟩) (nx * 2) qs := (Kr hxi); have hli_1 : RI w6 w.heap.size (some ⟨bl, ol, none⟩) nl ls := (Kr hli); have hbw_1 : Below w.heap.size w w6 := Kw; clear sa sb sf sl; clear hR hS hxi hli hbw cx1 cx2 cl; have hR := hR_1; have hS := hS_1; have hxi := hxi_1; have hli := hli_1; have hbw := hbw_1; clear hR_1 hS_1 hxi_1 hli_1 hbw_1; obtain ⟨sa, sb, sf, sl⟩ := hS.cells; have cx1 := hxi.at_ (k := k * 2) (by omega); have cx2 : World.cell? w6 ⟨bx, ox + k * 2 + 1, none⟩ = _ := hxi.at_ (k := k * 2 + 1) (by omega); have cl := hli.at_ (k := k) (by omega); rw [HX1.out] at cx1; rw [HX2.out] at cx2; rw [HX3.out] at cl)); ((try go_wp2_with fail)); (refine hK.out _ _ ?_ (fun hHeld => ?_)); ((focus ((try dsimp only); (go_keep)))); (clear hK K); ((try simp only [Act.put, p1_, p2_, p3_])); (refine wpAnyH_ready (rs := [12]) (by kernel_rfl) (by simp) ?_); (refine AllReadyH.cons (by simp only [e1_, e2_, e3_]; try rfl) ?_ ?_); ((focus ((intro K hK); (go_simp); ((try go_wp2_with fail)); (refine hK.out _ _ ?_ (fun hHeld => ?_)); ((focus ((try dsimp only); (go_keep)))); (clear hK K); ((try simp only [Act.put, p1_, p2_, p3_])); (refine wpAnyH_done (by kernel_rfl) ?_ _)))); (rotate_left 1); (exact AllReadyH.nil)))); (rotate_left 1); (exact AllReadyH.nil)))); (rotate_left 1); (exact AllReadyH.nil)))); (rotate_left 1); (exact AllReadyH.nil)))); (rotate_left 1); (refine AllReadyH.cons (by simp only [e1_, e2_, e3_]; try rfl) ?_ ?_); ((focus ((intro K hK); (go_simp); ((refine (impl_whole _ _).mono ?_; rintro e w4 ⟨rfl, hb4⟩; have hsz_0 := hb4.size; (try simp at hsz_0); have hR_1 : BQ w4 w.heap.size 0 0 := (by (with_reducible (repeat (first | exact hR | refine Blk.new_at _ _ _ _ Ks | refine Blk.below ?_ (by assumption) Ks | apply Blk.drew | apply Blk.drewN | refine Blk.far ?_ (by simp only [ne_eq]; omega) _ | apply Blk.alloc)))); have hS_1 : BQ w4 bS s.1 s.2 := (by (with_reducible (repeat (first | exact hS | refine Blk.new_at _ _ _ _ Ks | refine Blk.below ?_ (by assumption) Ks | apply Blk.drew | apply Blk.drewN | refine Blk.far ?_ (by simp only [ne_eq]; omega) _ | apply Blk.alloc)))); have hxi_1 : RI w4 w.heap.size (some ⟨bx, ox, none⟩) (nx * 2) qs := (Kr hxi); have hli_1 : RI w4 w.heap.size (some ⟨bl, ol, none⟩) nl ls := (Kr hli); have hbw_1 : Below w.heap.size w w4 := Kw; clear sa sb sf sl; clear hR hS hxi hli hbw cx1 cx2 cl; have hR := hR_1; have hS := hS_1; have hxi := hxi_1; have hli := hli_1; have hbw := hbw_1; clear hR_1 hS_1 hxi_1 hli_1 hbw_1; obtain ⟨sa, sb, sf, sl⟩ := hS.cells; have cx1 := hxi.at_ (k := k * 2) (by omega); have cx2 : World.cell? w4 ⟨bx, ox + k * 2 + 1, none⟩ = _ := hxi.at_ (k := k * 2 + 1) (by omega); have cl := hli.at_ (k := k) (by omega); rw [HX1.out] at cx1; rw [HX2.out] at cx2; rw [HX3.out] at cl)); ((try go_wp2_with fail)); (refine hK.out _ _ ?_ (fun hHeld => ?_)); ((focus ((try dsimp only); (go_keep)))); (clear hK K); ((try simp only [Act.put, p1_, p2_, p3_])); (refine wpAnyH_ready (rs := [0, 10]) (by kernel_rfl) (by simp) ?_); (refine AllReadyH.cons (by simp only [e1_, e2_, e3_]; try rfl) ?_ ?_); ((focus ((intro K hK); (go_simp); ((try go_wp2_with fail)); (refine hK.out _ _ ?_ (fun hHeld => ?_)); ((focus ((try dsimp only); (go_keep)))); (clear hK K); ((try simp only [Act.put, p1_, p2_, p3_])); (refine wpAnyH_ready (rs := [10]) (by kernel_rfl) (by simp) ?_); (refine AllReadyH.cons (by simp only [e1_, e2_, e3_]; try rfl) ?_ ?_); ((focus ((intro K hK); (go_simp); ((refine (impl_MultiplyRatios x y _ 1 _).mono ?_; rintro e w5 ⟨rfl, hb5⟩; unfold rV; have hsz_0 := hb5.size; (try simp at hsz_0); have hR_1 : BQ w5 w.heap.size 0 0 := (by (with_reducible (repeat (first | exact hR | refine Blk.new_at _ _ _ _ Ks | refine Blk.below ?_ (by assumption) Ks | apply Blk.drew | apply Blk.drewN | refine Blk.far ?_ (by simp only [ne_eq]; omega) _ | apply Blk.alloc)))); have hS_1 : BQ w5 bS s.1 s.2 := (by (with_reducible (repeat (first | exact hS | refine Blk.new_at _ _ _ _ Ks | refine Blk.below ?_ (by assumption) Ks | apply Blk.drew | apply Blk.drewN | refine Blk.far ?_ (by simp only [ne_eq]; omega) _ | apply Blk.alloc)))); have hxi_1 : RI w5 w.heap.size (some ⟨bx, ox, none⟩) (nx * 2) qs := (Kr hxi); have hli_1 : RI w5 w.heap.size (some ⟨bl, ol, none⟩) nl ls := (Kr hli); have hbw_1 : Below w.heap.size w w5 := Kw; clear sa sb sf sl; clear hR hS hxi hli hbw cx1 cx2 cl; have hR := hR_1; have hS := hS_1; have hxi := hxi_1; have hli := hli_1; have hbw := hbw_1; clear hR_1 hS_1 hxi_1 hli_1 hbw_1; obtain ⟨sa, sb, sf, sl⟩ := hS.cells; have cx1 := hxi.at_ (k := k * 2) (by omega); have cx2 : World.cell? w5 ⟨bx, ox + k * 2 + 1, none⟩ = _ := hxi.at_ (k := k * 2 + 1) (by omega); have cl := hli.at_ (k := k) (by omega); rw [HX1.out] at cx1; rw [HX2.out] at cx2; rw [HX3.out] at cl)); ((try go_wp2_with fail)); (refine hK.out _ _ ?_ (fun hHeld => ?_)); ((focus ((try dsimp only); (go_keep)))); (clear hK K); ((try simp only [Act.put, p1_, p2_, p3_])); (refine wpAnyH_ready (rs := [11]) (by kernel_rfl) (by simp) ?_); (refine AllReadyH.cons (by simp only [e1_, e2_, e3_]; try rfl) ?_ ?_); ((focus ((intro K hK); (go_simp); ((refine (impl_AddRatios s.1 s.2 _ _ _).mono ?_; rintro e w6 ⟨rfl, hb6⟩; unfold rV; have hsz_0 := hb6.size; (try simp at hsz_0); have hR_1 : BQ w6 w.heap.size 0 0 := (by (with_reducible (repeat (first | exact hR | refine Blk.new_at _ _ _ _ Ks | refine Blk.below ?_ (by assumption) Ks | apply Blk.drew | apply Blk.drewN | refine Blk.far ?_ (by simp only [ne_eq]; omega) _ | apply Blk.alloc)))); have hS_1 : BQ w6 bS s.1 s.2 := (by (with_reducible (repeat (first | exact hS | refine Blk.new_at _ _ _ _ Ks | refine Blk.below ?_ (by assumption) Ks | apply Blk.drew | apply Blk.drewN | refine Blk.far ?_ (by simp only [ne_eq]; omega) _ | apply Blk.alloc)))); have hxi_1 : RI w6 w.heap.size (some ⟨bx, ox, none⟩) (nx * 2) qs := (Kr hxi); have hli_1 : RI w6 w.heap.size (some ⟨bl, ol, none⟩) nl ls := (Kr hli); have hbw_1 : Below w.heap.size w w6 := Kw; clear sa sb sf sl; clear hR hS hxi hli hbw cx1 cx2 cl; have hR := hR_1; have hS := hS_1; have hxi := hxi_1; have hli := hli_1; have hbw := hbw_1; clear hR_1 hS_1 hxi_1 hli_1 hbw_1; obtain ⟨sa, sb, sf, sl⟩ := hS.cells; have cx1 := hxi.at_ (k := k * 2) (by omega); have cx2 : World.cell? w6 ⟨bx, ox + k * 2 + 1, none⟩ = _ := hxi.at_ (k := k * 2 + 1) (by omega); have cl := hli.at_ (k := k) (by omega); rw [HX1.out] at cx1; rw [HX2.out] at cx2; rw [HX3.out] at cl)); ((try go_wp2_with fail)); (refine hK.out _ _ ?_ (fun hHeld => ?_)); ((focus ((try dsimp only); (go_keep)))); (clear hK K); ((try simp only [Act.put, p1_, p2_, p3_])); (refine wpAnyH_ready (rs := [12]) (by kernel_rfl) (by simp) ?_); (refine AllReadyH.cons (by simp only [e1_, e2_, e3_]; try rfl) ?_ ?_); ((focus ((intro K hK); (go_simp); ((try go_wp2_with fail)); (refine hK.out _ _ ?_ (fun hHeld => ?_)); ((focus ((try dsimp only); (go_keep)))); (clear hK K); ((try simp only [Act.put, p1_, p2_, p3_])); (refine wpAnyH_done (by kernel_rfl) ?_ _)))); (rotate_left 1); (exact AllReadyH.nil)))); (rotate_left 1); (exact AllReadyH.nil)))); (rotate_left 1); (exact AllReadyH.nil)))); (rotate_left 1); (refine AllReadyH.cons (by simp only [e1_, e2_, e3_]; try rfl) ?_ ?_); ((focus ((intro K hK); (go_simp); ((refine (impl_MultiplyRatios x y _ 1 _).mono ?_; rintro e w5 ⟨rfl, hb5⟩; unfold rV; have hsz_0 := hb5.size; (try simp at hsz_0); have hR_1 : BQ w5 w.heap.size 0 0 := (by (with_reducible (repeat (first | exact hR | refine Blk.new_at _ _ _ _ Ks | refine Blk.below ?_ (by assumption) Ks | apply Blk.drew | apply Blk.drewN | refine Blk.far ?_ (by simp only [ne_eq]; omega) _ | apply Blk.alloc)))); have hS_1 : BQ w5 bS s.1 s.2 := (by (with_reducible (repeat (first | exact hS | refine Blk.new_at _ _ _ _ Ks | refine Blk.below ?_ (by assumption) Ks | apply Blk.drew | apply Blk.drewN | refine Blk.far ?_ (by simp only [ne_eq]; omega) _ | apply Blk.alloc)))); have hxi_1 : RI w5 w.heap.size (some ⟨bx, ox, none⟩) (nx * 2) qs := (Kr hxi); have hli_1 : RI w5 w.heap.size (some ⟨bl, ol, none⟩) nl ls := (Kr hli); have hbw_1 : Below w.heap.size w w5 := Kw; clear sa sb sf sl; clear hR hS hxi hli hbw cx1 cx2 cl; have hR := hR_1; have hS := hS_1; have hxi := hxi_1; have hli := hli_1; have hbw := hbw_1; clear hR_1 hS_1 hxi_1 hli_1 hbw_1; obtain ⟨sa, sb, sf, sl⟩ := hS.cells; have cx1 := hxi.at_ (k := k * 2) (by omega); have cx2 : World.cell? w5 ⟨bx, ox + k * 2 + 1, none⟩ = _ := hxi.at_ (k := k * 2 + 1) (by omega); have cl := hli.at_ (k := k) (by omega); rw [HX1.out] at cx1; rw [HX2.out] at cx2; rw [HX3.out] at cl)); ((try go_wp2_with fail)); (refine hK.out _ _ ?_ (fun hHeld => ?_)); ((focus ((try dsimp only); (go_keep)))); (clear hK K); ((try simp only [Act.put, p1_, p2_, p3_])); (refine wpAnyH_ready (rs := [0]) (by kernel_rfl) (by simp) ?_); (refine AllReadyH.cons (by simp only [e1_, e2_, e3_]; try rfl) ?_ ?_); ((focus ((intro K hK); (go_simp); ((try go_wp2_with fail)); (refine hK.out _ _ ?_ (fun hHeld => ?_)); ((focus ((try dsimp only); (go_keep)))); (clear hK K); ((try simp only [Act.put, p1_, p2_, p3_])); (refine wpAnyH_ready (rs := [11]) (by kernel_rfl) (by simp) ?_); (refine AllReadyH.cons (by simp only [e1_, e2_, e3_]; try rfl) ?_ ?_); ((focus ((intro K hK); (go_simp); ((refine (impl_AddRatios s.1 s.2 _ _ _).mono ?_; rintro e w6 ⟨rfl, hb6⟩; unfold rV; have hsz_0 := hb6.size; (try simp at hsz_0); have hR_1 : BQ w6 w.heap.size 0 0 := (by (with_reducible (repeat (first | exact hR | refine Blk.new_at _ _ _ _ Ks | refine Blk.below ?_ (by assumption) Ks | apply Blk.drew | apply Blk.drewN | refine Blk.far ?_ (by simp only [ne_eq]; omega) _ | apply Blk.alloc)))); have hS_1 : BQ w6 bS s.1 s.2 := (by (with_reducible (repeat (first | exact hS | refine Blk.new_at _ _ _ _ Ks | refine Blk.below ?_ (by assumption) Ks | apply Blk.drew | apply Blk.drewN | refine Blk.far ?_ (by simp only [ne_eq]; omega) _ | apply Blk.alloc)))); have hxi_1 : RI w6 w.heap.size (some ⟨bx, ox, none⟩) (nx * 2) qs := (Kr hxi); have hli_1 : RI w6 w.heap.size (some ⟨bl, ol, none⟩) nl ls := (Kr hli); have hbw_1 : Below w.heap.size w w6 := Kw; clear sa sb sf sl; clear hR hS hxi hli hbw cx1 cx2 cl; have hR := hR_1; have hS := hS_1; have hxi := hxi_1; have hli := hli_1; have hbw := hbw_1; clear hR_1 hS_1 hxi_1 hli_1 hbw_1; obtain ⟨sa, sb, sf, sl⟩ := hS.cells; have cx1 := hxi.at_ (k := k * 2) (by omega); have cx2 : World.cell? w6 ⟨bx, ox + k * 2 + 1, none⟩ = _ := hxi.at_ (k := k * 2 + 1) (by omega); have cl := hli.at_ (k := k) (by omega); rw [HX1.out] at cx1; rw [HX2.out] at cx2; rw [HX3.out] at cl)); ((try go_wp2_with fail)); (refine hK.out _ _ ?_ (fun hHeld => ?_)); ((focus ((try dsimp only); (go_keep)))); (clear hK K); ((try simp only [Act.put, p1_, p2_, p3_])); (refine wpAnyH_ready (rs := [12]) (by kernel_rfl) (by simp) ?_); (refine AllReadyH.cons (by simp only [e1_, e2_, e3_]; try rfl) ?_ ?_); ((focus ((intro K hK); (go_simp); ((try go_wp2_with fail)); (refine hK.out _ _ ?_ (fun hHeld => ?_)); ((focus ((try dsimp only); (go_keep)))); (clear hK K); ((try simp only [Act.put, p1_, p2_, p3_])); (refine wpAnyH_done (by kernel_rfl) ?_ _)))); (rotate_left 1); (exact AllReadyH.nil)))); (rotate_left 1); (exact AllReadyH.nil)))); (rotate_left 1); (exact AllReadyH.nil)))); (rotate_left 1); (exact AllReadyH.nil)))); (rotate_left 2); (exact AllReadyH.nil))
      all_goals go_wp2_with fail
      all_goals go_roundw
      all_goals first
        | exact ⟨k + 1, by go_num, by omega, by (with_reducible (repeat (first | exact hR | refine Blk.new_at _ _ _ _ Ks | refine Blk.below ?_ (by assumption) Ks | apply Blk.drew | apply Blk.drewN | refine Blk.far ?_ (by simp only [ne_eq]; omega) _ | apply Blk.alloc))), by rw [HSTEP.out, HS0.out, HX1.out, HX2.out, HX3.out]; exact BQ.put hS, Kw⟩
        | (simp only [intOf]; omega)
    · obtain rfl : k = nx := by omega
      obtain ⟨s, hs⟩ : ∃ s, rsum (fun k => (ls.getD k 0, 1)) (fl qs) k = s := ⟨_, rfl⟩
      have HS0 := Lib.hid hs
      rw [hs] at hS
      clear hs
      obtain ⟨ra, rb, rf, rl⟩ := hR.cells
      obtain ⟨sa, sb, sf, sl⟩ := hS.cells
      go_wp2_with fail
      refine ret_Q (b := w.heap.size) (n := s.1) (d := s.2) Try.results104 rfl (BQ.put hR) rfl ?_
      exact BV.mk ((congrArg rV HS0.out).symm) Kw
end Go.Proofs.Ytacjonkehcamgaa

/-
  DERIVED. IsRefutation of the program.
-/
namespace Go.Proofs.Ytacjonkehcamgaa
open Go.RowKit
set_option linter.unusedVariables false
set_option linter.unusedSimpArgs false
/-- The sum with column j. -/
def refCol (xs : List Int) (R C : Nat) (qs : List Int) (j : Nat) : Int × Int := rsum (fun k => (cel xs C k j, 1)) (fl qs) R
def refEnd (R : Nat) (bs qs : List Int) : Int × Int := rsum (fun k => (bs.getD k 0, 1)) (fl qs) R
def refP (xs : List Int) (R C : Nat) (bs qs : List Int) : Bool := (List.range C).all (fun j => decide ((refCol xs R C qs j).2 = 1)) && decide ((refEnd R bs qs).2 ≠ 0) && decide ((refEnd R bs qs).2 ≠ 1)
def refB (r c : Int) (xs bs qs : List Int) : Bool := isMat r c xs && decide ((bs.length : Int) = r) && decide ((qs.length : Int) = r * 2) && refP xs r.toNat c.toNat bs qs
theorem ref_cases (r c : Int) (xs bs qs : List Int) : (isMat r c xs = false ∧ refB r c xs bs qs = false) ∨ (isMat r c xs = true ∧ ((bs.length : Int) != r) = true ∧ refB r c xs bs qs = false) ∨
    (isMat r c xs = true ∧ ((bs.length : Int) != r) = false ∧ ¬ (qs.length : Int) = r * 2 ∧ refB r c xs bs qs = false) ∨ (isMat r c xs = true ∧ ((bs.length : Int) != r) = false ∧ (qs.length : Int) = r * 2 ∧ refB r c xs bs qs = refP xs r.toNat c.toNat bs qs) := by
  unfold refB
  rcases isMat r c xs with _ | _
  · left; simp
  · right
    by_cases h : (bs.length : Int) = r
    · right
      by_cases h2 : (qs.length : Int) = r * 2
      · right; exact ⟨rfl, by simp [h], h2, by simp [h, h2]⟩
      · left; exact ⟨rfl, by simp [h], h2, by simp [h2]⟩
    · left; simp [h]
theorem refP_no {xs : List Int} {R C : Nat} {bs qs : List Int} {j : Nat} (hj : j < C) (h : ¬ (refCol xs R C qs j).2 = 1) : refP xs R C bs qs = false := by
  have : (List.range C).all (fun j => decide ((refCol xs R C qs j).2 = 1)) = false := by
    rw [List.all_eq_false]
    exact ⟨j, List.mem_range.2 hj, by rw [decide_eq_false h]; simp⟩
  unfold refP
  rw [this]; rfl
theorem refP_yes {xs : List Int} {R C : Nat} {bs qs : List Int} (h : ∀ j, j < C → (refCol xs R C qs j).2 = 1) : refP xs R C bs qs = (decide ((refEnd R bs qs).2 ≠ 0) && decide ((refEnd R bs qs).2 ≠ 1)) := by
  have : (List.range C).all (fun j => decide ((refCol xs R C qs j).2 = 1)) = true := by
    rw [List.all_eq_true]
    intro i hi
    exact decide_eq_true (h i (List.mem_range.1 hi))
  unfold refP
  rw [this, Bool.true_and]
/-- A sum is a ratio just if its denominator is not 0. -/
theorem rsum_den (f g : Nat → Int × Int) (k : Nat) : ratOk (rsum f g k).1 (rsum f g k).2 = decide ((rsum f g k).2 ≠ 0) := by
  rcases rsum_ok f g k with h | h
  · rw [h]
    have := ((ratOk_iff _ _).1 h).1.1
    exact (decide_eq_true (by omega)).symm
  · rw [h]; rfl
theorem rsum_congr {f f' g : Nat → Int × Int} : ∀ {k : Nat}, (∀ i, i < k → f i = f' i) → rsum f g k = rsum f' g k
  | 0, _ => rfl
  | k + 1, h => by
    unfold rsum
    rw [rsum_congr (k := k) (fun i hi => h i (by omega)), h k (by omega)]
theorem ref_row {xs : List Int} {R C : Nat} {qs : List Int} {j : Nat} (hj : j < C) : rsum (fun k => ((rowL (tb C R (fun a b : Nat => cel xs C b a)) R j).getD k 0, 1)) (fl qs) R = refCol xs R C qs j := by
  unfold refCol
  apply rsum_congr
  intro k hk
  rw [rowL_getD hk, cel_tb hj hk]
set_option maxRecDepth 100000 in
set_option maxHeartbeats 8000000 in
theorem impl_IsRefutation (r c : Int) (A Ab Ax : Option Addr) (n cap nb capb nx capx : Nat) (xs bs qs : List Int) (w : World) {B B' B'' : Nat} (h : RI w B A n xs) (hb : RI w B' Ab nb bs) (hx : RI w B'' Ax (nx * 2) qs) (hB : B ≤ w.heap.size) (hB' : B' ≤ w.heap.size) (hB'' : B'' ≤ w.heap.size) (hn : n ≤ 1048576) (hnb : nb ≤ 1048576) (hnx : nx ≤ 1048576) :
    Calls Try.prog 19 #[.agg #[.int .i64 r, .int .i64 c, .slice A n cap], .slice Ab nb capb, .slice Ax nx capx] w (BV (.bool (refB r c xs bs qs)) w) := by
  have hlb := hb.len
  have hlx := hx.len
  have H2 := Lib.hid (h.more hB)
  have H3 := Lib.hid (hb.more hB')
  have H4 := Lib.hid (hx.more hB'')
  have hln := h.len
  clear h hb hx
  rcases ref_cases r c xs bs qs with ⟨hm, hv⟩ | ⟨hm, hl, hv⟩ | ⟨hm, hl, hq, hv⟩ | ⟨hm, hl, hq, hv⟩
  · rw [hv]
    have HM := Lib.hid hm
    clear hm hv hlb hlx hln
    go_enter Try.func19, Try.ntmps19
    go_wp2_with fail
    refine (impl_IsMatrix r c A n cap xs _ (C := w.heap.size) (Kr H2.out) Ks hn).mono ?_; rw [HM.out]; rintro e w1 ⟨rfl, hb1⟩; have hsz1 := hb1.size; simp at hsz1; have hM : BM w1 w.heap.size r c A n cap := Ka; have hbw : Below w.heap.size w w1 := Kw; obtain ⟨ma, mb, mc, mf, ml⟩ := hM.mx
    go_wp2_with fail
    go_ret
    exact BV.mk rfl Kw
  · rw [hv]
    have HM := Lib.hid hm
    rw [hlb] at hl
    clear hm hv hlb hlx hln
    go_enter Try.func19, Try.ntmps19
    go_wp2_with fail
    refine (impl_IsMatrix r c A n cap xs _ (C := w.heap.size) (Kr H2.out) Ks hn).mono ?_; rw [HM.out]; rintro e w1 ⟨rfl, hb1⟩; have hsz1 := hb1.size; simp at hsz1; have hM : BM w1 w.heap.size r c A n cap := Ka; have hbw : Below w.heap.size w w1 := Kw; obtain ⟨ma, mb, mc, mf, ml⟩ := hM.mx
    go_wp2_with fail
    go_ret
    exact BV.mk rfl Kw
  · rw [hv]
    have HM := Lib.hid hm
    rw [hlb] at hl
    have hq2 : ((nx : Int) != r) = true := by simp; omega
    clear hm hv hlb hlx hq hln
    go_enter Try.func19, Try.ntmps19
    go_wp2_with fail
    refine (impl_IsMatrix r c A n cap xs _ (C := w.heap.size) (Kr H2.out) Ks hn).mono ?_; rw [HM.out]; rintro e w1 ⟨rfl, hb1⟩; have hsz1 := hb1.size; simp at hsz1; have hM : BM w1 w.heap.size r c A n cap := Ka; have hbw : Below w.heap.size w w1 := Kw; obtain ⟨ma, mb, mc, mf, ml⟩ := hM.mx
    go_wp2_with fail
    go_ret
    exact BV.mk rfl Kw
  · have HV := Lib.hid hv
    have HM := Lib.hid hm
    have M := isMat_iff.1 hm
    have hr1 := M.r1
    have hc1 := M.c1
    have hMl := M.len
    have htr : trM r c xs = ⟨c, r, tb c.toNat r.toNat (fun a b => cel xs c b a)⟩ := by unfold trM; rw [hm]; rfl
    have HTR := Lib.hid htr
    obtain ⟨R, rfl⟩ := nat_of M.r0
    obtain ⟨C, rfl⟩ := nat_of M.c0
    rw [hlb] at hl
    have hq2 : ((nx : Int) != (R : Int)) = false := by simp; omega
    have hnR : nb ≤ R ∧ R ≤ nb := by have := (bne_eq_false_iff_eq).1 hl; omega
    have hnC : nx ≤ R ∧ R ≤ nx := by omega
    have hNX : Hid (nx = R) := Lib.hid (by omega)
    have hRC : C * R ≤ 24 * 24 := Nat.mul_le_mul (by omega) (by omega)
    simp only [Int.toNat_natCast] at HV HTR
    clear hm hv hlb hlx hq hln M hMl htr
    generalize refB (R : Int) (C : Int) xs bs qs = vb at *
    go_enter Try.func19, Try.ntmps19
    go_wp2_with fail
    refine (impl_IsMatrix R C A n cap xs _ (C := w.heap.size) (Kr H2.out) Ks hn).mono ?_; rw [HM.out]; rintro e w1 ⟨rfl, hb1⟩; have hsz1 := hb1.size; simp at hsz1; have hM : BM w1 w.heap.size R C A n cap := Ka; have hbw : Below w.heap.size w w1 := Kw; obtain ⟨ma, mb, mc, mf, ml⟩ := hM.mx
    clear hb1
    go_wp2_with fail
    refine (impl_TransposeOf R C A n cap xs _ (B := w.heap.size) (Kr H2.out) Ks hn).mono ?_
    rw [HM.out, HTR.out]
    rintro e w2 ⟨At, nt, ct, rfl, hot, hb2⟩
    have hsz2 := hb2.size
    have hot1 : OR w2 (w.heap.size + 1) (.slice At nt ct) (tb C R (fun a b : Nat => cel xs C b a)) := OR.mono hot (by omega)
    have hbw2 : Below w.heap.size w w2 := Kw
    have hnt := hot1.lenEq
    rw [tb_len] at hnt
    have hct := hot1.caps
    have HNT : Hid (nt ≤ C * R ∧ C * R ≤ nt) := Lib.hid (by omega)
    clear hot hbw hb2 hnt ma mb mc mf ml hM
    go_wp2_with fail
    have hT : BM (w2.alloc (.cells #[.int .i64 C, .int .i64 R, .slice At nt ct] 26)) w2.heap.size C R At nt ct := Ka
    have hot2 : OR (w2.alloc (.cells #[.int .i64 C, .int .i64 R, .slice At nt ct] 26)) (w.heap.size + 1) (.slice At nt ct) (tb C R (fun a b : Nat => cel xs C b a)) := Ko hot1
    have hbw : Below w.heap.size w (w2.alloc (.cells #[.int .i64 C, .int .i64 R, .slice At nt ct] 26)) := Kw
    generalize hbT : w2.heap.size = bT at *
    generalize hwo : w2.alloc (.cells #[.int .i64 C, .int .i64 R, .slice At nt ct] 26) = wo at *
    clear hwo hbw2 hot1
    go_loopw [9] (fun v wr => ∃ j : Nat, v = .int .i64 j ∧ j ≤ C ∧ (∀ q, q < j → (refCol xs R C qs q).2 = 1) ∧ BM wr bT C R At nt ct ∧ OR wr (w.heap.size + 1) (.slice At nt ct) (tb C R (fun a b : Nat => cel xs C b a)) ∧ Below w.heap.size w wr) (fun v _ => C - (intOf v).toNat)
    case atStart => exact ⟨0, rfl, Nat.zero_le _, fun j hj => absurd hj (by omega), hT, hot2, hbw⟩
    case round =>
      clear hT hot2 hbw
      obtain ⟨j, rfl, hj, hcols0, hT, hot, hbw⟩ := hrel
      have HCO := Lib.hid hcols0
      clear hcols0
      have hszr := hbw.size
      obtain ⟨ta, tb', tc, tf, tl⟩ := hT.mx
      by_cases hjC : j < C
      · have hfit : j * R + R ≤ C * R := by
          have h3 := Nat.mul_le_mul_right R (show j + 1 ≤ C by omega); rw [Nat.add_mul, Nat.one_mul] at h3; exact h3
        have hrr := ref_row (xs := xs) (R := R) (qs := qs) hjC
        have hden := rsum_den (fun k => ((rowL (tb C R (fun a b : Nat => cel xs C b a)) R j).getD k 0, 1)) (fl qs) R
        rw [hrr] at hden
        obtain ⟨s, hs⟩ : ∃ s, refCol xs R C qs j = s := ⟨_, rfl⟩
        rw [hs] at hden hrr
        have HS0 := Lib.hid hs
        have HRR : Hid (rsum (fun k => ((rowL (tb C R (fun a b : Nat => cel xs C b a)) R j).getD k 0, 1)) (fl qs) nx = s) := Lib.hid (by rw [hNX.out]; exact hrr)
        clear hs hrr
        go_wp2_with fail
        refine (impl_row C R j At nt ct (tb C R (fun a b : Nat => cel xs C b a)) _ (OR.reads (B := w.heap.size + 1) (cap := ct) (Ko hot)) (Nat.le_refl _) (by omega) (by omega) (by omega) (by omega) (by have := HNT.out; omega)).mono ?_
        rintro e w3 ⟨As, cs, rfl, hri, hb3, hcs1, hcs2⟩
        have hsz3 := hb3.size
        have hT3 : BM w3 bT C R At nt ct := Kb hT
        have hot3 : OR w3 (w.heap.size + 1) (.slice At nt ct) (tb C R (fun a b : Nat => cel xs C b a)) := Ko hot
        have hbw3 : Below w.heap.size w w3 := Kw
        have hlt3 := hT3.lt
        clear hT hot hbw hb3 ta tb' tc tf tl
        go_wp2_with fail
        refine (impl_sumWith Ax As nx capx R cs qs (rowL (tb C R (fun a b : Nat => cel xs C b a)) R j) _ (B := w.heap.size) (Kr H4.out) (Kr hri) Ks Ks hnx (by omega)).mono ?_
        rw [HRR.out]
        rintro e w4 ⟨rfl, hb4⟩
        have hsz4 := hb4.size
        have hT4 : BM w4 bT C R At nt ct := Kb hT3
        have hot4 : OR w4 (w.heap.size + 1) (.slice At nt ct) (tb C R (fun a b : Nat => cel xs C b a)) := Ko hot3
        have hbw4 : Below w.heap.size w w4 := Kw
        clear hT3 hot3 hbw3 hb4 hri
        unfold rV
        go_wp2_with fail
        obtain ⟨s1, s2⟩ := s
        simp only [] at hden ⊢
        by_cases h0 : s2 = 0
        · have hvv : vb = false := by rw [HV.out]; exact refP_no hjC (by rw [HS0.out]; show ¬ s2 = 1; omega)
          have HVV := Lib.hid hvv
          have HDEN : Hid (ratOk s1 s2 = false) := Lib.hid (by rw [hden]; exact decide_eq_false (fun h => h h0))
          clear hvv h0 hden
          refine (impl_IsRatio s1 s2 _).mono ?_
          rw [HDEN.out]
          rintro e w5 ⟨rfl, hb5⟩
          have hsz5 := hb5.size
          simp at hsz5
          have hS5 : BQ w5 w4.heap.size s1 s2 := by (with_reducible (repeat (first | assumption | refine Blk.new_at _ _ _ _ Ks | refine Blk.below ?_ (by assumption) Ks | apply Blk.drew | apply Blk.drewN | refine Blk.far ?_ (by simp only [ne_eq]; omega) _ | apply Blk.alloc)))
          have hbw5 : Below w.heap.size w w5 := Kw
          obtain ⟨sa, sb, sf, sl⟩ := hS5.cells
          go_wp2_with fail
          go_ret
          exact BV.mk (vbool HVV.out.symm) Kw
        · have HDEN : Hid (ratOk s1 s2 = true) := Lib.hid (by rw [hden]; exact decide_eq_true h0)
          clear hden h0
          refine (impl_IsRatio s1 s2 _).mono ?_
          rw [HDEN.out]
          rintro e w5 ⟨rfl, hb5⟩
          have hsz5 := hb5.size
          simp at hsz5
          have hS5 : BQ w5 w4.heap.size s1 s2 := by (with_reducible (repeat (first | assumption | refine Blk.new_at _ _ _ _ Ks | refine Blk.below ?_ (by assumption) Ks | apply Blk.drew | apply Blk.drewN | refine Blk.far ?_ (by simp only [ne_eq]; omega) _ | apply Blk.alloc)))
          have hT5 : BM w5 bT C R At nt ct := Kb hT4
          have hot5 : OR w5 (w.heap.size + 1) (.slice At nt ct) (tb C R (fun a b : Nat => cel xs C b a)) := Ko hot4
          have hbw5 : Below w.heap.size w w5 := Kw
          obtain ⟨sa, sb, sf, sl⟩ := hS5.cells
          by_cases h1 : s2 = 1
          · have hb1 : (s2 != 1) = false := by simpa using h1
            have HCJ : Hid ((refCol xs R C qs j).2 = 1) := Lib.hid (by rw [HS0.out]; exact h1)
            clear h1
            go_wp2_with fail
            go_roundw
            case rel => exact ⟨j + 1, by go_num, by omega, (fun q hq => by
              rcases Nat.lt_or_ge q j with h2 | h2
              · exact HCO.out q h2
              · obtain rfl : q = j := by omega
                exact HCJ.out), Kb hT5, Ko hot5, Kw⟩
            case measure => simp only [intOf]; omega
          · have hvv : vb = false := by rw [HV.out]; exact refP_no hjC (by rw [HS0.out]; exact h1)
            have HVV := Lib.hid hvv
            have hb1 : (s2 != 1) = true := by simpa using h1
            clear hvv h1
            go_wp2_with fail
            go_ret
            exact BV.mk (vbool HVV.out.symm) Kw
      · obtain rfl : j = C := by omega
        have hvv : vb = (decide ((refEnd R bs qs).2 ≠ 0) && decide ((refEnd R bs qs).2 ≠ 1)) := by rw [HV.out]; exact refP_yes HCO.out
        have HVV := Lib.hid hvv
        have hden := rsum_den (fun k => (bs.getD k 0, 1)) (fl qs) R
        have hrr : rsum (fun k => (bs.getD k 0, 1)) (fl qs) R = refEnd R bs qs := rfl
        obtain ⟨s, hs⟩ : ∃ s, refEnd R bs qs = s := ⟨_, rfl⟩
        rw [hrr, hs] at hden
        rw [hs] at hrr
        have HRR : Hid (rsum (fun k => (bs.getD k 0, 1)) (fl qs) nx = s) := Lib.hid (by rw [hNX.out]; exact hrr)
        have HS0 := Lib.hid hs
        clear hvv hs hrr
        go_wp2_with fail
        refine (impl_sumWith Ax Ab nx capx nb capb qs bs _ (B := w.heap.size) (B' := w.heap.size) (Kr H4.out) (Kr H3.out) Ks Ks hnx (by omega)).mono ?_
        rw [HRR.out]
        rintro e w4 ⟨rfl, hb4⟩
        have hsz4 := hb4.size
        have hbw4 : Below w.heap.size w w4 := Kw
        clear hb4
        unfold rV
        go_wp2_with fail
        obtain ⟨s1, s2⟩ := s
        simp only [] at hden ⊢
        rcases hr : ratOk s1 s2 with _ | _
        all_goals
          rw [hr] at hden
          have HDEN := Lib.hid hr
          have HD2 := Lib.hid hden
          clear hr hden
          refine (impl_IsRatio s1 s2 _).mono ?_
          rw [HDEN.out]
          rintro e w5 ⟨rfl, hb5⟩
          have hsz5 := hb5.size
          simp at hsz5
          have hS5 : BQ w5 w4.heap.size s1 s2 := by (with_reducible (repeat (first | assumption | refine Blk.new_at _ _ _ _ Ks | refine Blk.below ?_ (by assumption) Ks | apply Blk.drew | apply Blk.drewN | refine Blk.far ?_ (by simp only [ne_eq]; omega) _ | apply Blk.alloc)))
          have hbw5 : Below w.heap.size w w5 := Kw
          obtain ⟨sa, sb, sf, sl⟩ := hS5.cells
          go_wp2_with fail
          go_ret
        · refine BV.mk (vbool ?_) Kw
          rw [HVV.out, HS0.out, ← HD2.out, Bool.false_and]
        · refine BV.mk (vbool ?_) Kw
          rw [HVV.out, HS0.out, ← HD2.out, Bool.true_and]
          by_cases h : s2 = 1 <;> simp [h]
end Go.Proofs.Ytacjonkehcamgaa

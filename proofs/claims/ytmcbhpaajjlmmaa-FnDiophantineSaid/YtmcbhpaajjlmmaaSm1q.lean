/-
  DERIVED. Operations on columns in a work.
-/
import Derived.Test.YtmcbhpaajjlmmaaSm0q
import Derived.Test.YtmcbhpaajjlmmaaWork2q
import Derived.Test.YtmcbhpaajjlmmaaTrnq
namespace Go.Proofs.Ytmcbhpaajjlmmaa
open Go.RowKit
set_option linter.unusedVariables false
set_option linter.unusedSimpArgs false
theorem isMat_tbO {R C : Nat} {f : Fn2} (h : OKF R C f) (hR : R ≤ 24) (hC : C ≤ 24) : isMat (R : Int) (C : Int) (tb R C f) = true := by
  refine isMat_iff.2 ⟨by omega, by omega, by omega, by omega, by rw [tb_len, Int.natCast_mul], ?_⟩
  rw [List.all_eq_true]
  exact tb_mem (P := fun x => isNum x = true) fun i j hi hj => (h i j hi hj).isN
theorem impl_Transpose_tb (R C : Nat) (A : Option Addr) (n cap : Nat) (f : Fn2) (w : World) {B : Nat} (h : RI w B A n (tb R C f)) (hB : B ≤ w.heap.size) (hf : OKF R C f) (hR : R ≤ 24) (hC : C ≤ 24) :
    Calls Try.prog 71 #[.agg #[.int .i64 R, .int .i64 C, .slice A n cap]] w (MBR ⟨C, R, tb C R (tp f)⟩ true w) := by
  have hl := h.len
  rw [tb_len] at hl
  have h2 := impl_TransposeOf R C A n cap (tb R C f) w h hB (by have := Nat.mul_le_mul hR hC; omega)
  have hv : trM (R : Int) (C : Int) (tb R C f) = ⟨C, R, tb C R (tp f)⟩ := by
    unfold trM
    rw [isMat_tbO hf hR hC]
    simp only [if_true, Int.toNat_natCast]
    congr 1
    exact tb_ext fun a b ha hb => cel_tb hb ha
  rw [hv, isMat_tbO hf hR hC] at h2
  exact h2
section
variable {w w' w2 : World} {B b R C n cap n2 cap2 n3 cap3 m k : Nat} {f g h : Fn2} {bd : Bool} {A A2 A3 M : Option Addr}
theorem WB.putM {f' : Fn2} (k5 : WB w B b R C f g h bd A n cap A2 n2 cap2 A3 n3 cap3) (hb : Below w.heap.size w w') (ho : OR w' w.heap.size (.slice M m k) (tb R C f')) :
    WB (((w'.setCell ⟨b, 0, none⟩ (.int .i64 R)).setCell ⟨b, 1, none⟩ (.int .i64 C)).setCell ⟨b, 2, none⟩ (.slice M m k)) B b R C f' g h bd M m k A2 n2 cap2 A3 n3 cap3 := by
  have k6 := k5.below hb (Nat.le_refl _)
  have hlt := k5.lt
  have hBb := k5.hb
  have hme : (Value.slice M m k).ownBlock ≠ some b := fun e => by have := (ho.own _ e).1; omega
  have ho2 := ho.mono (B' := B) (by omega)
  refine ⟨(((k6.blk.set_ 0 _).set_ 1 _).set_ 2 _).as rfl, k5.hb, ((ho2.far hme _).far hme _).far hme _, ((k6.l.far k6.lb _).far k6.lb _).far k6.lb _, ((k6.r.far k6.rb _).far k6.rb _).far k6.rb _, fun g h1 h2 => ?_, fun g h1 h2 => ?_, k6.lr, hme, k6.lb, k6.rb⟩
  · have := (ho.own _ h1).1; have := (k5.l.own _ h2).2; omega
  · have := (ho.own _ h1).1; have := (k5.r.own _ h2).2; omega
theorem WB.putR {h' : Fn2} (k5 : WB w B b R C f g h bd A n cap A2 n2 cap2 A3 n3 cap3) (hb : Below w.heap.size w w') (ho : OR w' w.heap.size (.slice M m k) (tb C C h')) :
    WB (((w'.setCell ⟨b, 6, none⟩ (.int .i64 C)).setCell ⟨b, 7, none⟩ (.int .i64 C)).setCell ⟨b, 8, none⟩ (.slice M m k)) B b R C f g h' bd A n cap A2 n2 cap2 M m k := by
  have k6 := k5.below hb (Nat.le_refl _)
  have hlt := k5.lt
  have hBb := k5.hb
  have hme : (Value.slice M m k).ownBlock ≠ some b := fun e => by have := (ho.own _ e).1; omega
  have ho2 := ho.mono (B' := B) (by omega)
  refine ⟨(((k6.blk.set_ 6 _).set_ 7 _).set_ 8 _).as rfl, k5.hb, ((k6.m.far k6.mb _).far k6.mb _).far k6.mb _, ((k6.l.far k6.lb _).far k6.lb _).far k6.lb _, ((ho2.far hme _).far hme _).far hme _, k6.ml, fun g h1 h2 => ?_, fun g h1 h2 => ?_, k6.mb, k6.lb, hme⟩
  · have := (ho.own _ h2).1; have := (k5.m.own _ h1).2; omega
  · have := (ho.own _ h2).1; have := (k5.l.own _ h1).2; omega
theorem below_put3 {b0 b1 b2 : Nat} {u0 u1 u2 : Value} (h : Below B w2 w') (hb : B ≤ b) : Below B w2 (((w'.setCell ⟨b, b0, none⟩ u0).setCell ⟨b, b1, none⟩ u1).setCell ⟨b, b2, none⟩ u2) :=
  ((h.trans (below_set_at hb)).trans (below_set_at hb)).trans (below_set_at hb)
end
/-- A sum of columns as it goes in both. -/
def okC (R C : Nat) (f h : Fn2) (i j : Nat) (t : Int) : Prop := OKF C R (opA (tp f) i j t) ∧ OKF C C (opA (tp h) i j t)
def CWA (B b R C : Nat) (f g h : Fn2) (i j : Nat) (t : Int) (w : World) (e : Ending) (w' : World) : Prop :=
  e = .returned (.tuple #[]) ∧ Below B w w' ∧ ((okC R C f h i j t ∧ WK w' B b R C (tp (opA (tp f) i j t)) g (tp (opA (tp h) i j t)) false) ∨ (¬ okC R C f h i j t ∧ ∃ f' g' h', WK w' B b R C f' g' h' true))
set_option maxRecDepth 100000 in
set_option maxHeartbeats 8000000 in
theorem impl_cols_swap (B b R C i j : Nat) (f g h : Fn2) (w : World) (hK : WK w B b R C f g h false) (hi : i < C) (hj : j < C) (hij : i ≠ j) (hf : OKF R C f) (hh : OKF C C h) (hR0 : 0 < R) (hC : C ≤ 24) (hR : R ≤ 24) :
    Calls Try.prog 209 #[.pointer (some ⟨b, 0, none⟩), .agg #[.int .i64 0, .int .i64 i, .int .i64 j, .int .i64 0]] w (RWD B b R C (tp (swF (tp f) i j)) g (tp (swF (tp h) i j)) w) := by
  obtain ⟨A, n, cap, A2, n2, cap2, A3, n3, cap3, hWw⟩ := hK
  have hBb := hWw.hb
  have hbl := hWw.lt
  have HIJ := Lib.hid hij
  have HF := Lib.hid hf
  have HH := Lib.hid hh
  clear hij hf hh
  go_enter Try.func209, Try.ntmps209
  go_wp2_with fail
  obtain ⟨xs, HXS⟩ : ∃ v : Array Value, Hid (v = #[.int .i64 0, .int .i64 i, .int .i64 j, .int .i64 0]) := ⟨_, Lib.hid rfl⟩
  obtain ⟨xb, hxb0⟩ : ∃ q, q = w.heap.size := ⟨_, rfl⟩
  have hX : Blk (w.alloc (.cells #[.int .i64 0, .int .i64 i, .int .i64 j, .int .i64 0] 75)) xb 75 #[.int .i64 0, .int .i64 i, .int .i64 j, .int .i64 0] := by rw [hxb0]; exact Blk.new _ _ _
  have hW := hWw.alloc (.cells #[.int .i64 0, .int .i64 i, .int .i64 j, .int .i64 0] 75)
  have HBW : Hid (Below B w (w.alloc (.cells #[.int .i64 0, .int .i64 i, .int .i64 j, .int .i64 0] 75))) := Lib.hid (Below.mono (B := w.heap.size) (by (repeat (first | (with_reducible (first | exact Below.refl _ _ | assumption | refine below_drewN ?_ _ | refine Below.drew ?_ | refine Below.alloc ?_ ?_ _ | refine Below.setCell ?_ ?_ _ | refine below_i ?_)) | go_size))) (by omega))
  have hbe : ¬ b = xb := by omega
  have hbe2 : ¬ xb = b := by omega
  have hxw : xb < (w.alloc (.cells #[.int .i64 0, .int .i64 i, .int .i64 j, .int .i64 0] 75)).heap.size := by simp; omega
  rw [← hxb0]
  generalize w.alloc (.cells #[.int .i64 0, .int .i64 i, .int .i64 j, .int .i64 0] 75) = w0 at *
  have hxb := hxw
  clear hxb0 hWw hxw
  have HW0 := Lib.hid hW
  have HX0 : Hid (Blk w0 xb 75 xs) := Lib.hid (by rw [HXS.out]; exact hX)
  have hBw : B ≤ w0.heap.size := by have := hW.lt; omega
  have hbd : Below w0.heap.size w0 w0 := Below.refl _ _
  obtain ⟨c0, c1, c2, c3, c4, c5, c6, c7, c8, c9, cf, cl⟩ := hW.cells; have x0 := hX.cell 0; have x1 := hX.cell 1; have x2 := hX.cell 2; have x3 := hX.cell 3; simp at x0 x1 x2 x3
  ((refine wp_region_held_drew (S := (fun w' => w'.cell? ⟨b, 1, none⟩ = some (.int .i64 C) ∧ w'.cell? ⟨b, 9, none⟩ = some (.bool false) ∧ w'.cell? ⟨xb, 0, none⟩ = some (.int .i64 0) ∧ w'.cell? ⟨xb, 1, none⟩ = some (.int .i64 i) ∧ w'.cell? ⟨xb, 2, none⟩ = some (.int .i64 j) ∧ w'.cell? ⟨xb, 3, none⟩ = some (.int .i64 (0)))) (by kernel_rfl) ?_ (fun hHeld => ?_)); ((focus ((try dsimp only); (go_keep)))); ((refine tk_ (i := 0) (v := ?_) (y := Or.inl ⟨by rfl, ?_⟩) (h := ?_); rotate_left; (focus (((intro w hSw; (try dsimp only at hSw); go_simp) <;> (try with_reducible rfl)); done)); (try simp only [Act.put, p1_, p2_, p3_]))); ((refine tk_ (i := 1) (v := ?_) (y := Or.inl ⟨by rfl, ?_⟩) (h := ?_); rotate_left; (focus (((intro w hSw; (try dsimp only at hSw); go_simp) <;> (try with_reducible rfl)); done)); (try simp only [Act.put, p1_, p2_, p3_]))); ((refine tk_ (i := 2) (v := ?_) (y := Or.inl ⟨by rfl, ?_⟩) (h := ?_); rotate_left; (focus (((intro w hSw; (try dsimp only at hSw); go_simp) <;> (try with_reducible rfl)); done)); (try simp only [Act.put, p1_, p2_, p3_]))); ((refine tk_ (i := 3) (v := ?_) (y := Or.inl ⟨by rfl, ?_⟩) (h := ?_); rotate_left; (focus (((intro w hSw; (try dsimp only at hSw); go_simp) <;> (try with_reducible rfl)); done)); (try simp only [Act.put, p1_, p2_, p3_]))); ((refine tk_ (i := 4) (v := ?_) (y := Or.inl ⟨by rfl, ?_⟩) (h := ?_); rotate_left; (focus (((intro w hSw; (try dsimp only at hSw); go_simp) <;> (try with_reducible rfl)); done)); (try simp only [Act.put, p1_, p2_, p3_]))); ((refine tk_ (i := 5) (v := ?_) (y := Or.inl ⟨by rfl, ?_⟩) (h := ?_); rotate_left; (focus (((intro w hSw; (try dsimp only at hSw); go_simp) <;> (try with_reducible rfl)); done)); (try simp only [Act.put, p1_, p2_, p3_]))); ((refine tk_ (i := 6) (v := ?_) (y := Or.inl ⟨by rfl, ?_⟩) (h := ?_); rotate_left; (focus (((intro w hSw; (try dsimp only at hSw); go_simp) <;> (try with_reducible rfl)); done)); (try simp only [Act.put, p1_, p2_, p3_]))); ((refine tk_ (i := 7) (v := ?_) (y := Or.inl ⟨by rfl, ?_⟩) (h := ?_); rotate_left; (focus (((intro w hSw; (try dsimp only at hSw); go_simp) <;> (try with_reducible rfl)); done)); (try simp only [Act.put, p1_, p2_, p3_]))); ((refine tk_ (i := 8) (v := ?_) (y := Or.inl ⟨by rfl, ?_⟩) (h := ?_); rotate_left; (focus (((intro w hSw; (try dsimp only at hSw); go_simp) <;> (try with_reducible rfl)); done)); (try simp only [Act.put, p1_, p2_, p3_]))); ((refine tk_ (i := 9) (v := ?_) (y := Or.inl ⟨by rfl, ?_⟩) (h := ?_); rotate_left; (focus (((intro w hSw; (try dsimp only at hSw); go_simp) <;> (try with_reducible rfl)); done)); (try simp only [Act.put, p1_, p2_, p3_]))); ((refine tk_ (i := 10) (v := ?_) (y := Or.inl ⟨by rfl, ?_⟩) (h := ?_); rotate_left; (focus (((intro w hSw; (try dsimp only at hSw); go_simp) <;> (try with_reducible rfl)); done)); (try simp only [Act.put, p1_, p2_, p3_]))); ((refine wpAnyH_ready (rs := [11]) (by kernel_rfl) (by simp) ?_; refine AllReadyH.cons (by simp only [e1_, e2_, e3_]; try rfl) (fun K hK => ?_) AllReadyH.nil; go_simp; (go_at_call 148; refine (impl_IsRowOp_swap C i j _ hi hj HIJ.out hC).mono ?_; rintro e w1 ⟨rfl, hb1⟩; (have hsz := hb1.size); (try simp at hsz); (have hsd := hbd.size); (have hbd_1 : Below w0.heap.size w0 w1 := by (repeat (first | (with_reducible (first | exact Below.refl _ _ | assumption | refine below_drewN ?_ _ | refine Below.drew ?_ | refine Below.alloc ?_ ?_ _ | refine Below.setCell ?_ ?_ _ | refine below_i ?_)) | go_size))); (have hW_1 : WB w1 B b R C f g h false A n cap A2 n2 cap2 A3 n3 cap3 := HW0.out.below hbd_1 (Nat.le_refl _)); (have hX_1 : Blk w1 xb 75 xs := HX0.out.below hbd_1 hxb); clear c0 c1 c2 c3 c4 c5 c6 c7 c8 c9 cf cl x0 x1 x2 x3; clear hW hX hbd; (have hW := hW_1); (have hX := hX_1); (have hbd := hbd_1); clear hW_1 hX_1 hbd_1; rw [HXS.out] at hX; obtain ⟨c0, c1, c2, c3, c4, c5, c6, c7, c8, c9, cf, cl⟩ := hW.cells; have x0 := hX.cell 0; have x1 := hX.cell 1; have x2 := hX.cell 2; have x3 := hX.cell 3; simp at x0 x1 x2 x3); (try go_wp2_with fail); refine hK.out _ _ ?_ (fun hHeld => ?_); (focus ((try dsimp only); (go_keep))); clear hK K; (try simp only [Act.put, p1_, p2_, p3_]))); ((refine tk_ (i := 12) (v := ?_) (y := Or.inl ⟨by rfl, ?_⟩) (h := ?_); rotate_left; (focus (((intro w hSw; (try dsimp only at hSw); go_simp) <;> (try with_reducible rfl)); done)); (try simp only [Act.put, p1_, p2_, p3_]))); ((refine tk_ (i := 13) (v := ?_) (y := Or.inl ⟨by rfl, ?_⟩) (h := ?_); rotate_left; (focus (((intro w hSw; (try dsimp only at hSw); go_simp) <;> (try with_reducible rfl)); done)); (try simp only [Act.put, p1_, p2_, p3_]))); (refine wpAnyH_done (by kernel_rfl) ?_ _))
  go_wp2_with fail
  refine (impl_Transpose_tb R C A n cap f _ hW.m.reads (Nat.le_refl _) HF.out hR hC).mono ?_
  rintro e w2 ⟨Aa, na, ca, rfl, hoa, hb2⟩
  have hs1 := hbd.size
  have hs2 := hb2.size
  have hUa : Own (.slice Aa na ca) w1.heap.size w2.heap.size := hoa.own
  have hbd_1 : Below w0.heap.size w0 w2 := by (repeat (first | (with_reducible (first | exact Below.refl _ _ | assumption | refine below_drewN ?_ _ | refine Below.drew ?_ | refine Below.alloc ?_ ?_ _ | refine Below.setCell ?_ ?_ _ | refine below_i ?_)) | go_size))
  (have hW_1 : WB w2 B b R C f g h false A n cap A2 n2 cap2 A3 n3 cap3 := HW0.out.below hbd_1 (Nat.le_refl _)); (have hX_1 : Blk w2 xb 75 xs := HX0.out.below hbd_1 hxb); clear c0 c1 c2 c3 c4 c5 c6 c7 c8 c9 cf cl x0 x1 x2 x3; clear hW hX hbd; (have hW := hW_1); (have hX := hX_1); (have hbd := hbd_1); clear hW_1 hX_1 hbd_1; rw [HXS.out] at hX; obtain ⟨c0, c1, c2, c3, c4, c5, c6, c7, c8, c9, cf, cl⟩ := hW.cells; have x0 := hX.cell 0; have x1 := hX.cell 1; have x2 := hX.cell 2; have x3 := hX.cell 3; simp at x0 x1 x2 x3
  go_wp2_with fail
  refine (impl_Transpose_tb C C A3 n3 cap3 h _ (hW.r.alloc _).reads (Nat.le_refl _) HH.out hC hC).mono ?_
  rintro e w3 ⟨Ab, nb, cb, rfl, hob, hb3⟩
  have hs3 := hb3.size
  simp at hs3
  have hUb : Own (.slice Ab nb cb) (w2.heap.size + 1) w3.heap.size := by have := hob.own; simpa using this
  have hAx : BM w3 w2.heap.size C R Aa na ca := by (with_reducible (repeat (first | assumption | refine BX.n_ | refine BX.b_ ?_ | apply BX.drew | apply BX.drewN | refine BX.put ?_ | refine BX.put2 ?_ | refine BX.f_ ?_ | apply BX.alloc | refine B3.n_ | refine B3.of (by assumption) | refine B3.b_ ?_ | apply B3.drew | apply B3.drewN | refine B3.f_ ?_ | apply B3.alloc)))
  have hoa3 : OR w3 w1.heap.size (.slice Aa na ca) (tb C R (tp f)) := by (with_reducible (repeat (first | exact hoa | refine OR.drew ?_ | refine OR.drewN ?_ _ | refine OR.alloc ?_ _ | refine OR.b_ ?_ | refine OR.l_ ?_)))
  have hob3 : OR w3 (w2.heap.size + 1) (.slice Ab nb cb) (tb C C (tp h)) := by simpa using hob
  have hbd_1 : Below w0.heap.size w0 w3 := by (repeat (first | (with_reducible (first | exact Below.refl _ _ | assumption | refine below_drewN ?_ _ | refine Below.drew ?_ | refine Below.alloc ?_ ?_ _ | refine Below.setCell ?_ ?_ _ | refine below_i ?_)) | go_size))
  (have hW_1 : WB w3 B b R C f g h false A n cap A2 n2 cap2 A3 n3 cap3 := HW0.out.below hbd_1 (Nat.le_refl _)); (have hX_1 : Blk w3 xb 75 xs := HX0.out.below hbd_1 hxb); clear c0 c1 c2 c3 c4 c5 c6 c7 c8 c9 cf cl x0 x1 x2 x3; clear hW hX hbd; (have hW := hW_1); (have hX := hX_1); (have hbd := hbd_1); clear hW_1 hX_1 hbd_1; rw [HXS.out] at hX; obtain ⟨c0, c1, c2, c3, c4, c5, c6, c7, c8, c9, cf, cl⟩ := hW.cells; have x0 := hX.cell 0; have x1 := hX.cell 1; have x2 := hX.cell 2; have x3 := hX.cell 3; simp at x0 x1 x2 x3
  obtain ⟨aa, ab, ac, af, al⟩ := hAx.mx
  clear hoa hob hb2 hb3
  have hx3 : xb < w3.heap.size := by have := hbd.size; omega
  go_wp2_with fail
  have hBx : BM (w3.alloc (.cells #[.int .i64 C, .int .i64 C, .slice Ab nb cb] 28)) w3.heap.size C C Ab nb cb := by (with_reducible (repeat (first | assumption | refine BX.n_ | refine BX.b_ ?_ | apply BX.drew | apply BX.drewN | refine BX.put ?_ | refine BX.put2 ?_ | refine BX.f_ ?_ | apply BX.alloc | refine B3.n_ | refine B3.of (by assumption) | refine B3.b_ ?_ | apply B3.drew | apply B3.drewN | refine B3.f_ ?_ | apply B3.alloc)))
  refine (impl_rowOp_swap C R i j 0 Aa na ca (tp f) _ (B := w1.heap.size) (by (with_reducible (repeat (first | exact hoa3 | refine OR.drew ?_ | refine OR.drewN ?_ _ | refine OR.alloc ?_ _ | refine OR.b_ ?_ | refine OR.l_ ?_)))) hi hj HIJ.out hR0 (by omega) hC).mono ?_
  rintro e w4 ⟨rfl, hoa4, hgr4, hs4⟩
  simp at hs4; have hAx4 : BM w4 w2.heap.size C R Aa na ca := BX.keptOwn (by (with_reducible (repeat (first | exact hAx | refine BX.n_ | refine BX.b_ ?_ | apply BX.drew | apply BX.drewN | refine BX.put ?_ | refine BX.put2 ?_ | refine BX.f_ ?_ | apply BX.alloc | refine B3.n_ | exact B3.of hAx | refine B3.b_ ?_ | apply B3.drew | apply B3.drewN | refine B3.f_ ?_ | apply B3.alloc)))) hgr4 hUa (.inr (Nat.le_refl _)); have hBx4 : BM w4 w3.heap.size C C Ab nb cb := BX.keptOwn hBx hgr4 hUa (.inr (by omega)); have hob4 : OR w4 (w2.heap.size + 1) (.slice Ab nb cb) (tb C C (tp h)) := OR.keptOwn (by (with_reducible (repeat (first | exact hob3 | refine OR.drew ?_ | refine OR.drewN ?_ _ | refine OR.alloc ?_ _ | refine OR.b_ ?_ | refine OR.l_ ?_)))) hgr4 hUb hUa (.inr (by omega)); have hbd_1 : Below w0.heap.size w0 w4 := Below.trans (by (repeat (first | (with_reducible (first | exact Below.refl _ _ | assumption | refine below_drewN ?_ _ | refine Below.drew ?_ | refine Below.alloc ?_ ?_ _ | refine Below.setCell ?_ ?_ _ | refine below_i ?_)) | go_size))) (below_keptOwn hgr4 hUa hs1 (by first | omega | (simp; done) | (simp; omega))); clear hgr4 hAx hoa3 hob3 hBx aa ab ac af al; (have hW_1 : WB w4 B b R C f g h false A n cap A2 n2 cap2 A3 n3 cap3 := HW0.out.below hbd_1 (Nat.le_refl _)); (have hX_1 : Blk w4 xb 75 xs := HX0.out.below hbd_1 hxb); clear c0 c1 c2 c3 c4 c5 c6 c7 c8 c9 cf cl x0 x1 x2 x3; clear hW hX hbd; (have hW := hW_1); (have hX := hX_1); (have hbd := hbd_1); clear hW_1 hX_1 hbd_1; rw [HXS.out] at hX; obtain ⟨c0, c1, c2, c3, c4, c5, c6, c7, c8, c9, cf, cl⟩ := hW.cells; have x0 := hX.cell 0; have x1 := hX.cell 1; have x2 := hX.cell 2; have x3 := hX.cell 3; simp at x0 x1 x2 x3; obtain ⟨aa, ab, ac, af, al⟩ := hAx4.mx; obtain ⟨ba, bb, bc, bf, bl⟩ := hBx4.mx
  go_wp2_with fail
  refine (impl_rowOp_swap C C i j 0 Ab nb cb (tp h) _ (B := w2.heap.size + 1) (by (with_reducible (repeat (first | exact hob4 | refine OR.drew ?_ | refine OR.drewN ?_ _ | refine OR.alloc ?_ _ | refine OR.b_ ?_ | refine OR.l_ ?_)))) hi hj HIJ.out (by omega) (by omega) hC).mono ?_
  rintro e w5 ⟨rfl, hob5, hgr5, hs5⟩
  have hAx5 : BM w5 w2.heap.size C R Aa na ca := BX.keptOwn hAx4 hgr5 hUb (.inl (by omega)); have hBx5 : BM w5 w3.heap.size C C Ab nb cb := BX.keptOwn hBx4 hgr5 hUb (.inr (Nat.le_refl _)); have hoa5 := OR.keptOwn hoa4 hgr5 hUa hUb (.inl (by omega)); have hbd_1 : Below w0.heap.size w0 w5 := Below.trans hbd (below_keptOwn hgr5 hUb (by omega) (by first | omega | (simp; done) | (simp; omega))); clear hgr5 hAx4 hoa4 hob4 hBx4 aa ab ac af al ba bb bc bf bl; (have hW_1 : WB w5 B b R C f g h false A n cap A2 n2 cap2 A3 n3 cap3 := HW0.out.below hbd_1 (Nat.le_refl _)); (have hX_1 : Blk w5 xb 75 xs := HX0.out.below hbd_1 hxb); clear c0 c1 c2 c3 c4 c5 c6 c7 c8 c9 cf cl x0 x1 x2 x3; clear hW hX hbd; (have hW := hW_1); (have hX := hX_1); (have hbd := hbd_1); clear hW_1 hX_1 hbd_1; rw [HXS.out] at hX; obtain ⟨c0, c1, c2, c3, c4, c5, c6, c7, c8, c9, cf, cl⟩ := hW.cells; have x0 := hX.cell 0; have x1 := hX.cell 1; have x2 := hX.cell 2; have x3 := hX.cell 3; simp at x0 x1 x2 x3; obtain ⟨aa, ab, ac, af, al⟩ := hAx5.mx; obtain ⟨ba, bb, bc, bf, bl⟩ := hBx5.mx
  go_wp2_with fail
  refine (impl_Transpose_tb C R Aa na ca (swF (tp f) i j) _ hoa5.reads (Nat.le_refl _) (swF_ok (tp_ok HF.out) hi hj) hC hR).mono ?_
  rintro e w6 ⟨Am, nm, cm, rfl, hom, hb6⟩
  have hs6 := hb6.size
  have hW5 := hW
  have hbw0 := HW0.out.lt
  have hsd5 := hbd.size
  have hbx : ¬ w3.heap.size = b := by omega
  have hbx2 : ¬ b = w3.heap.size := by omega
  have hBx7 : BM w6 w3.heap.size C C Ab nb cb := by (with_reducible (repeat (first | exact hBx5 | refine BX.n_ | refine BX.b_ ?_ | apply BX.drew | apply BX.drewN | refine BX.put ?_ | refine BX.put2 ?_ | refine BX.f_ ?_ | apply BX.alloc | refine B3.n_ | exact B3.of hBx5 | refine B3.b_ ?_ | apply B3.drew | apply B3.drewN | refine B3.f_ ?_ | apply B3.alloc)))
  have hob7 : OR w6 (w2.heap.size + 1) (.slice Ab nb cb) (tb C C (swF (tp h) i j)) := by (with_reducible (repeat (first | exact hob5 | refine OR.drew ?_ | refine OR.drewN ?_ _ | refine OR.alloc ?_ _ | refine OR.b_ ?_ | refine OR.l_ ?_)))
  have hbd_1 : Below w0.heap.size w0 w6 := by (repeat (first | (with_reducible (first | exact Below.refl _ _ | assumption | refine below_drewN ?_ _ | refine Below.drew ?_ | refine Below.alloc ?_ ?_ _ | refine Below.setCell ?_ ?_ _ | refine below_i ?_)) | go_size))
  have HB7 := Lib.hid (below_put3 (b := b) (b0 := 0) (b1 := 1) (b2 := 2) (u0 := .int .i64 R) (u1 := .int .i64 C) (u2 := .slice Am nm cm) (hbd_1.mono hBw) hBb)
  (have hW_1 : WB w6 B b R C f g h false A n cap A2 n2 cap2 A3 n3 cap3 := HW0.out.below hbd_1 (Nat.le_refl _)); (have hX_1 : Blk w6 xb 75 xs := HX0.out.below hbd_1 hxb); clear c0 c1 c2 c3 c4 c5 c6 c7 c8 c9 cf cl x0 x1 x2 x3; clear hW hX hbd; (have hW := hW_1); (have hX := hX_1); (have hbd := hbd_1); clear hW_1 hX_1 hbd_1; rw [HXS.out] at hX; obtain ⟨c0, c1, c2, c3, c4, c5, c6, c7, c8, c9, cf, cl⟩ := hW.cells; have x0 := hX.cell 0; have x1 := hX.cell 1; have x2 := hX.cell 2; have x3 := hX.cell 3; simp at x0 x1 x2 x3
  clear aa ab ac af al ba bb bc bf bl
  obtain ⟨ba, bb, bc, bf, bl⟩ := hBx7.mx
  go_wp2_with fail
  refine (impl_Transpose_tb C C Ab nb cb (swF (tp h) i j) _ (OR.reads (OR.low (OR.low (OR.low hob7 (by simp; omega) _) (by simp; omega) _) (by simp; omega) _)) (Nat.le_refl _) (swF_ok (tp_ok HH.out) hi hj) hC hC).mono ?_
  rintro e w8 ⟨Ar, nr, cr, rfl, hor, hb8⟩
  have hW7 := hW5.putM hb6 hom
  have hs8 := hb8.size
  have hW8 := hW7.below hb8 (Nat.le_refl _)
  have hW9 := hW7.putR hb8 hor
  have HB8 := Lib.hid (HB7.out.trans (Below.mono hb8 (by have := hW7.lt; have := hW7.hb; omega)))
  clear c0 c1 c2 c3 c4 c5 c6 c7 c8 c9 cf cl x0 x1 x2 x3
  clear hW hW5 hW7 hX hbd hb8 hor hb6 hom ba bb bc bf bl hBx7 hob7 hBx5 hob5 hAx5 hoa5
  have HB9 := Lib.hid (below_put3 (b := b) (b0 := 6) (b1 := 7) (b2 := 8) (u0 := .int .i64 C) (u1 := .int .i64 C) (u2 := .slice Ar nr cr) HB8.out hBb)
  obtain ⟨c0, c1, c2, c3, c4, c5, c6, c7, c8, c9, cf, cl⟩ := hW8.cells
  go_wp2_with fail
  go_end0
  exact ⟨rfl, HBW.out.trans HB9.out, hW9.wk⟩
set_option maxRecDepth 100000 in
set_option maxHeartbeats 8000000 in
theorem impl_cols_add (B b R C i j : Nat) (f g h : Fn2) (t : Int) (w : World) (hK : WK w B b R C f g h false) (hi : i < C) (hj : j < C) (hij : i ≠ j) (ht : Num t) (hf : OKF R C f) (hh : OKF C C h) (hR0 : 0 < R) (hC : C ≤ 24) (hR : R ≤ 24) :
    Calls Try.prog 209 #[.pointer (some ⟨b, 0, none⟩), .agg #[.int .i64 2, .int .i64 i, .int .i64 j, .int .i64 t]] w (CWA B b R C f g h i j t w) := by
  have HT := Lib.hid ht
  clear ht
  obtain ⟨A, n, cap, A2, n2, cap2, A3, n3, cap3, hWw⟩ := hK
  have hBb := hWw.hb
  have hbl := hWw.lt
  have HIJ := Lib.hid hij
  have HF := Lib.hid hf
  have HH := Lib.hid hh
  clear hij hf hh
  go_enter Try.func209, Try.ntmps209
  go_wp2_with fail
  obtain ⟨xs, HXS⟩ : ∃ v : Array Value, Hid (v = #[.int .i64 2, .int .i64 i, .int .i64 j, .int .i64 t]) := ⟨_, Lib.hid rfl⟩
  obtain ⟨xb, hxb0⟩ : ∃ q, q = w.heap.size := ⟨_, rfl⟩
  have hX : Blk (w.alloc (.cells #[.int .i64 2, .int .i64 i, .int .i64 j, .int .i64 t] 75)) xb 75 #[.int .i64 2, .int .i64 i, .int .i64 j, .int .i64 t] := by rw [hxb0]; exact Blk.new _ _ _
  have hW := hWw.alloc (.cells #[.int .i64 2, .int .i64 i, .int .i64 j, .int .i64 t] 75)
  have HBW : Hid (Below B w (w.alloc (.cells #[.int .i64 2, .int .i64 i, .int .i64 j, .int .i64 t] 75))) := Lib.hid (Below.mono (B := w.heap.size) (by (repeat (first | (with_reducible (first | exact Below.refl _ _ | assumption | refine below_drewN ?_ _ | refine Below.drew ?_ | refine Below.alloc ?_ ?_ _ | refine Below.setCell ?_ ?_ _ | refine below_i ?_)) | go_size))) (by omega))
  have hbe : ¬ b = xb := by omega
  have hbe2 : ¬ xb = b := by omega
  have hxw : xb < (w.alloc (.cells #[.int .i64 2, .int .i64 i, .int .i64 j, .int .i64 t] 75)).heap.size := by simp; omega
  rw [← hxb0]
  generalize w.alloc (.cells #[.int .i64 2, .int .i64 i, .int .i64 j, .int .i64 t] 75) = w0 at *
  have hxb := hxw
  clear hxb0 hWw hxw
  have HW0 := Lib.hid hW
  have HX0 : Hid (Blk w0 xb 75 xs) := Lib.hid (by rw [HXS.out]; exact hX)
  have hBw : B ≤ w0.heap.size := by have := hW.lt; omega
  have hbd : Below w0.heap.size w0 w0 := Below.refl _ _
  obtain ⟨c0, c1, c2, c3, c4, c5, c6, c7, c8, c9, cf, cl⟩ := hW.cells; have x0 := hX.cell 0; have x1 := hX.cell 1; have x2 := hX.cell 2; have x3 := hX.cell 3; simp at x0 x1 x2 x3
  ((refine wp_region_held_drew (S := (fun w' => w'.cell? ⟨b, 1, none⟩ = some (.int .i64 C) ∧ w'.cell? ⟨b, 9, none⟩ = some (.bool false) ∧ w'.cell? ⟨xb, 0, none⟩ = some (.int .i64 2) ∧ w'.cell? ⟨xb, 1, none⟩ = some (.int .i64 i) ∧ w'.cell? ⟨xb, 2, none⟩ = some (.int .i64 j) ∧ w'.cell? ⟨xb, 3, none⟩ = some (.int .i64 t))) (by kernel_rfl) ?_ (fun hHeld => ?_)); ((focus ((try dsimp only); (go_keep)))); ((refine tk_ (i := 0) (v := ?_) (y := Or.inl ⟨by rfl, ?_⟩) (h := ?_); rotate_left; (focus (((intro w hSw; (try dsimp only at hSw); go_simp) <;> (try with_reducible rfl)); done)); (try simp only [Act.put, p1_, p2_, p3_]))); ((refine tk_ (i := 1) (v := ?_) (y := Or.inl ⟨by rfl, ?_⟩) (h := ?_); rotate_left; (focus (((intro w hSw; (try dsimp only at hSw); go_simp) <;> (try with_reducible rfl)); done)); (try simp only [Act.put, p1_, p2_, p3_]))); ((refine tk_ (i := 2) (v := ?_) (y := Or.inl ⟨by rfl, ?_⟩) (h := ?_); rotate_left; (focus (((intro w hSw; (try dsimp only at hSw); go_simp) <;> (try with_reducible rfl)); done)); (try simp only [Act.put, p1_, p2_, p3_]))); ((refine tk_ (i := 3) (v := ?_) (y := Or.inl ⟨by rfl, ?_⟩) (h := ?_); rotate_left; (focus (((intro w hSw; (try dsimp only at hSw); go_simp) <;> (try with_reducible rfl)); done)); (try simp only [Act.put, p1_, p2_, p3_]))); ((refine tk_ (i := 4) (v := ?_) (y := Or.inl ⟨by rfl, ?_⟩) (h := ?_); rotate_left; (focus (((intro w hSw; (try dsimp only at hSw); go_simp) <;> (try with_reducible rfl)); done)); (try simp only [Act.put, p1_, p2_, p3_]))); ((refine tk_ (i := 5) (v := ?_) (y := Or.inl ⟨by rfl, ?_⟩) (h := ?_); rotate_left; (focus (((intro w hSw; (try dsimp only at hSw); go_simp) <;> (try with_reducible rfl)); done)); (try simp only [Act.put, p1_, p2_, p3_]))); ((refine tk_ (i := 6) (v := ?_) (y := Or.inl ⟨by rfl, ?_⟩) (h := ?_); rotate_left; (focus (((intro w hSw; (try dsimp only at hSw); go_simp) <;> (try with_reducible rfl)); done)); (try simp only [Act.put, p1_, p2_, p3_]))); ((refine tk_ (i := 7) (v := ?_) (y := Or.inl ⟨by rfl, ?_⟩) (h := ?_); rotate_left; (focus (((intro w hSw; (try dsimp only at hSw); go_simp) <;> (try with_reducible rfl)); done)); (try simp only [Act.put, p1_, p2_, p3_]))); ((refine tk_ (i := 8) (v := ?_) (y := Or.inl ⟨by rfl, ?_⟩) (h := ?_); rotate_left; (focus (((intro w hSw; (try dsimp only at hSw); go_simp) <;> (try with_reducible rfl)); done)); (try simp only [Act.put, p1_, p2_, p3_]))); ((refine tk_ (i := 9) (v := ?_) (y := Or.inl ⟨by rfl, ?_⟩) (h := ?_); rotate_left; (focus (((intro w hSw; (try dsimp only at hSw); go_simp) <;> (try with_reducible rfl)); done)); (try simp only [Act.put, p1_, p2_, p3_]))); ((refine tk_ (i := 10) (v := ?_) (y := Or.inl ⟨by rfl, ?_⟩) (h := ?_); rotate_left; (focus (((intro w hSw; (try dsimp only at hSw); go_simp) <;> (try with_reducible rfl)); done)); (try simp only [Act.put, p1_, p2_, p3_]))); ((refine wpAnyH_ready (rs := [11]) (by kernel_rfl) (by simp) ?_; refine AllReadyH.cons (by simp only [e1_, e2_, e3_]; try rfl) (fun K hK => ?_) AllReadyH.nil; go_simp; (go_at_call 148; refine (impl_IsRowOp_add C i j t _ hi hj HIJ.out HT.out hC).mono ?_; rintro e w1 ⟨rfl, hb1⟩; (have hsz := hb1.size); (try simp at hsz); (have hsd := hbd.size); (have hbd_1 : Below w0.heap.size w0 w1 := by (repeat (first | (with_reducible (first | exact Below.refl _ _ | assumption | refine below_drewN ?_ _ | refine Below.drew ?_ | refine Below.alloc ?_ ?_ _ | refine Below.setCell ?_ ?_ _ | refine below_i ?_)) | go_size))); (have hW_1 : WB w1 B b R C f g h false A n cap A2 n2 cap2 A3 n3 cap3 := HW0.out.below hbd_1 (Nat.le_refl _)); (have hX_1 : Blk w1 xb 75 xs := HX0.out.below hbd_1 hxb); clear c0 c1 c2 c3 c4 c5 c6 c7 c8 c9 cf cl x0 x1 x2 x3; clear hW hX hbd; (have hW := hW_1); (have hX := hX_1); (have hbd := hbd_1); clear hW_1 hX_1 hbd_1; rw [HXS.out] at hX; obtain ⟨c0, c1, c2, c3, c4, c5, c6, c7, c8, c9, cf, cl⟩ := hW.cells; have x0 := hX.cell 0; have x1 := hX.cell 1; have x2 := hX.cell 2; have x3 := hX.cell 3; simp at x0 x1 x2 x3); (try go_wp2_with fail); refine hK.out _ _ ?_ (fun hHeld => ?_); (focus ((try dsimp only); (go_keep))); clear hK K; (try simp only [Act.put, p1_, p2_, p3_]))); ((refine tk_ (i := 12) (v := ?_) (y := Or.inl ⟨by rfl, ?_⟩) (h := ?_); rotate_left; (focus (((intro w hSw; (try dsimp only at hSw); go_simp) <;> (try with_reducible rfl)); done)); (try simp only [Act.put, p1_, p2_, p3_]))); ((refine tk_ (i := 13) (v := ?_) (y := Or.inl ⟨by rfl, ?_⟩) (h := ?_); rotate_left; (focus (((intro w hSw; (try dsimp only at hSw); go_simp) <;> (try with_reducible rfl)); done)); (try simp only [Act.put, p1_, p2_, p3_]))); (refine wpAnyH_done (by kernel_rfl) ?_ _))
  go_wp2_with fail
  refine (impl_Transpose_tb R C A n cap f _ hW.m.reads (Nat.le_refl _) HF.out hR hC).mono ?_
  rintro e w2 ⟨Aa, na, ca, rfl, hoa, hb2⟩
  have hs1 := hbd.size
  have hs2 := hb2.size
  have hUa : Own (.slice Aa na ca) w1.heap.size w2.heap.size := hoa.own
  have hbd_1 : Below w0.heap.size w0 w2 := by (repeat (first | (with_reducible (first | exact Below.refl _ _ | assumption | refine below_drewN ?_ _ | refine Below.drew ?_ | refine Below.alloc ?_ ?_ _ | refine Below.setCell ?_ ?_ _ | refine below_i ?_)) | go_size))
  (have hW_1 : WB w2 B b R C f g h false A n cap A2 n2 cap2 A3 n3 cap3 := HW0.out.below hbd_1 (Nat.le_refl _)); (have hX_1 : Blk w2 xb 75 xs := HX0.out.below hbd_1 hxb); clear c0 c1 c2 c3 c4 c5 c6 c7 c8 c9 cf cl x0 x1 x2 x3; clear hW hX hbd; (have hW := hW_1); (have hX := hX_1); (have hbd := hbd_1); clear hW_1 hX_1 hbd_1; rw [HXS.out] at hX; obtain ⟨c0, c1, c2, c3, c4, c5, c6, c7, c8, c9, cf, cl⟩ := hW.cells; have x0 := hX.cell 0; have x1 := hX.cell 1; have x2 := hX.cell 2; have x3 := hX.cell 3; simp at x0 x1 x2 x3
  go_wp2_with fail
  refine (impl_Transpose_tb C C A3 n3 cap3 h _ (hW.r.alloc _).reads (Nat.le_refl _) HH.out hC hC).mono ?_
  rintro e w3 ⟨Ab, nb, cb, rfl, hob, hb3⟩
  have hs3 := hb3.size
  simp at hs3
  have hUb : Own (.slice Ab nb cb) (w2.heap.size + 1) w3.heap.size := by have := hob.own; simpa using this
  have hAx : BM w3 w2.heap.size C R Aa na ca := by (with_reducible (repeat (first | assumption | refine BX.n_ | refine BX.b_ ?_ | apply BX.drew | apply BX.drewN | refine BX.put ?_ | refine BX.put2 ?_ | refine BX.f_ ?_ | apply BX.alloc | refine B3.n_ | refine B3.of (by assumption) | refine B3.b_ ?_ | apply B3.drew | apply B3.drewN | refine B3.f_ ?_ | apply B3.alloc)))
  have hoa3 : OR w3 w1.heap.size (.slice Aa na ca) (tb C R (tp f)) := by (with_reducible (repeat (first | exact hoa | refine OR.drew ?_ | refine OR.drewN ?_ _ | refine OR.alloc ?_ _ | refine OR.b_ ?_ | refine OR.l_ ?_)))
  have hob3 : OR w3 (w2.heap.size + 1) (.slice Ab nb cb) (tb C C (tp h)) := by simpa using hob
  have hbd_1 : Below w0.heap.size w0 w3 := by (repeat (first | (with_reducible (first | exact Below.refl _ _ | assumption | refine below_drewN ?_ _ | refine Below.drew ?_ | refine Below.alloc ?_ ?_ _ | refine Below.setCell ?_ ?_ _ | refine below_i ?_)) | go_size))
  (have hW_1 : WB w3 B b R C f g h false A n cap A2 n2 cap2 A3 n3 cap3 := HW0.out.below hbd_1 (Nat.le_refl _)); (have hX_1 : Blk w3 xb 75 xs := HX0.out.below hbd_1 hxb); clear c0 c1 c2 c3 c4 c5 c6 c7 c8 c9 cf cl x0 x1 x2 x3; clear hW hX hbd; (have hW := hW_1); (have hX := hX_1); (have hbd := hbd_1); clear hW_1 hX_1 hbd_1; rw [HXS.out] at hX; obtain ⟨c0, c1, c2, c3, c4, c5, c6, c7, c8, c9, cf, cl⟩ := hW.cells; have x0 := hX.cell 0; have x1 := hX.cell 1; have x2 := hX.cell 2; have x3 := hX.cell 3; simp at x0 x1 x2 x3
  obtain ⟨aa, ab, ac, af, al⟩ := hAx.mx
  clear hoa hob hb2 hb3
  have hx3 : xb < w3.heap.size := by have := hbd.size; omega
  go_wp2_with fail
  have hBx : BM (w3.alloc (.cells #[.int .i64 C, .int .i64 C, .slice Ab nb cb] 28)) w3.heap.size C C Ab nb cb := by (with_reducible (repeat (first | assumption | refine BX.n_ | refine BX.b_ ?_ | apply BX.drew | apply BX.drewN | refine BX.put ?_ | refine BX.put2 ?_ | refine BX.f_ ?_ | apply BX.alloc | refine B3.n_ | refine B3.of (by assumption) | refine B3.b_ ?_ | apply B3.drew | apply B3.drewN | refine B3.f_ ?_ | apply B3.alloc)))
  by_cases hr1 : rowOk (tp f) i j t R
  · refine (impl_rowOp_add_yes C R i j t Aa na ca (tp f) _ (B := w1.heap.size) (by (with_reducible (repeat (first | exact hoa3 | refine OR.drew ?_ | refine OR.drewN ?_ _ | refine OR.alloc ?_ _ | refine OR.b_ ?_ | refine OR.l_ ?_)))) hi hj HIJ.out HT.out (tp_ok HF.out) hR0 hR hC hr1).mono ?_
    rintro e w4 ⟨rfl, hoa4, hgr4, hs4⟩
    simp at hs4; have hAx4 : BM w4 w2.heap.size C R Aa na ca := BX.keptOwn (by (with_reducible (repeat (first | exact hAx | refine BX.n_ | refine BX.b_ ?_ | apply BX.drew | apply BX.drewN | refine BX.put ?_ | refine BX.put2 ?_ | refine BX.f_ ?_ | apply BX.alloc | refine B3.n_ | exact B3.of hAx | refine B3.b_ ?_ | apply B3.drew | apply B3.drewN | refine B3.f_ ?_ | apply B3.alloc)))) hgr4 hUa (.inr (Nat.le_refl _)); have hBx4 : BM w4 w3.heap.size C C Ab nb cb := BX.keptOwn hBx hgr4 hUa (.inr (by omega)); have hob4 : OR w4 (w2.heap.size + 1) (.slice Ab nb cb) (tb C C (tp h)) := OR.keptOwn (by (with_reducible (repeat (first | exact hob3 | refine OR.drew ?_ | refine OR.drewN ?_ _ | refine OR.alloc ?_ _ | refine OR.b_ ?_ | refine OR.l_ ?_)))) hgr4 hUb hUa (.inr (by omega)); have hbd_1 : Below w0.heap.size w0 w4 := Below.trans (by (repeat (first | (with_reducible (first | exact Below.refl _ _ | assumption | refine below_drewN ?_ _ | refine Below.drew ?_ | refine Below.alloc ?_ ?_ _ | refine Below.setCell ?_ ?_ _ | refine below_i ?_)) | go_size))) (below_keptOwn hgr4 hUa hs1 (by first | omega | (simp; done) | (simp; omega))); clear hgr4 hAx hoa3 hob3 hBx aa ab ac af al; (have hW_1 : WB w4 B b R C f g h false A n cap A2 n2 cap2 A3 n3 cap3 := HW0.out.below hbd_1 (Nat.le_refl _)); (have hX_1 : Blk w4 xb 75 xs := HX0.out.below hbd_1 hxb); clear c0 c1 c2 c3 c4 c5 c6 c7 c8 c9 cf cl x0 x1 x2 x3; clear hW hX hbd; (have hW := hW_1); (have hX := hX_1); (have hbd := hbd_1); clear hW_1 hX_1 hbd_1; rw [HXS.out] at hX; obtain ⟨c0, c1, c2, c3, c4, c5, c6, c7, c8, c9, cf, cl⟩ := hW.cells; have x0 := hX.cell 0; have x1 := hX.cell 1; have x2 := hX.cell 2; have x3 := hX.cell 3; simp at x0 x1 x2 x3; obtain ⟨aa, ab, ac, af, al⟩ := hAx4.mx; obtain ⟨ba, bb, bc, bf, bl⟩ := hBx4.mx
    have HR1 := Lib.hid ((rowOk_iff (tp_ok HF.out) hi hj HT.out).1 hr1)
    clear hr1
    go_wp2_with fail
    by_cases hr2 : rowOk (tp h) i j t C
    · refine (impl_rowOp_add_yes C C i j t Ab nb cb (tp h) _ (B := w2.heap.size + 1) (by (with_reducible (repeat (first | exact hob4 | refine OR.drew ?_ | refine OR.drewN ?_ _ | refine OR.alloc ?_ _ | refine OR.b_ ?_ | refine OR.l_ ?_)))) hi hj HIJ.out HT.out (tp_ok HH.out) (by omega) hC hC hr2).mono ?_
      rintro e w5 ⟨rfl, hob5, hgr5, hs5⟩
      have hAx5 : BM w5 w2.heap.size C R Aa na ca := BX.keptOwn hAx4 hgr5 hUb (.inl (by omega)); have hBx5 : BM w5 w3.heap.size C C Ab nb cb := BX.keptOwn hBx4 hgr5 hUb (.inr (Nat.le_refl _)); have hoa5 := OR.keptOwn hoa4 hgr5 hUa hUb (.inl (by omega)); have hbd_1 : Below w0.heap.size w0 w5 := Below.trans hbd (below_keptOwn hgr5 hUb (by omega) (by first | omega | (simp; done) | (simp; omega))); clear hgr5 hAx4 hoa4 hob4 hBx4 aa ab ac af al ba bb bc bf bl; (have hW_1 : WB w5 B b R C f g h false A n cap A2 n2 cap2 A3 n3 cap3 := HW0.out.below hbd_1 (Nat.le_refl _)); (have hX_1 : Blk w5 xb 75 xs := HX0.out.below hbd_1 hxb); clear c0 c1 c2 c3 c4 c5 c6 c7 c8 c9 cf cl x0 x1 x2 x3; clear hW hX hbd; (have hW := hW_1); (have hX := hX_1); (have hbd := hbd_1); clear hW_1 hX_1 hbd_1; rw [HXS.out] at hX; obtain ⟨c0, c1, c2, c3, c4, c5, c6, c7, c8, c9, cf, cl⟩ := hW.cells; have x0 := hX.cell 0; have x1 := hX.cell 1; have x2 := hX.cell 2; have x3 := hX.cell 3; simp at x0 x1 x2 x3; obtain ⟨aa, ab, ac, af, al⟩ := hAx5.mx; obtain ⟨ba, bb, bc, bf, bl⟩ := hBx5.mx
      have HR2 := Lib.hid ((rowOk_iff (tp_ok HH.out) hi hj HT.out).1 hr2)
      clear hr2
      go_wp2_with fail
      refine (impl_Transpose_tb C R Aa na ca (opA (tp f) i j t) _ hoa5.reads (Nat.le_refl _) HR1.out hC hR).mono ?_
      rintro e w6 ⟨Am, nm, cm, rfl, hom, hb6⟩
      have hs6 := hb6.size
      have hW5 := hW
      have hbw0 := HW0.out.lt
      have hsd5 := hbd.size
      have hbx : ¬ w3.heap.size = b := by omega
      have hbx2 : ¬ b = w3.heap.size := by omega
      have hBx7 : BM w6 w3.heap.size C C Ab nb cb := by (with_reducible (repeat (first | exact hBx5 | refine BX.n_ | refine BX.b_ ?_ | apply BX.drew | apply BX.drewN | refine BX.put ?_ | refine BX.put2 ?_ | refine BX.f_ ?_ | apply BX.alloc | refine B3.n_ | exact B3.of hBx5 | refine B3.b_ ?_ | apply B3.drew | apply B3.drewN | refine B3.f_ ?_ | apply B3.alloc)))
      have hob7 : OR w6 (w2.heap.size + 1) (.slice Ab nb cb) (tb C C (opA (tp h) i j t)) := by (with_reducible (repeat (first | exact hob5 | refine OR.drew ?_ | refine OR.drewN ?_ _ | refine OR.alloc ?_ _ | refine OR.b_ ?_ | refine OR.l_ ?_)))
      have hbd_1 : Below w0.heap.size w0 w6 := by (repeat (first | (with_reducible (first | exact Below.refl _ _ | assumption | refine below_drewN ?_ _ | refine Below.drew ?_ | refine Below.alloc ?_ ?_ _ | refine Below.setCell ?_ ?_ _ | refine below_i ?_)) | go_size))
      have HB7 := Lib.hid (below_put3 (b := b) (b0 := 0) (b1 := 1) (b2 := 2) (u0 := .int .i64 R) (u1 := .int .i64 C) (u2 := .slice Am nm cm) (hbd_1.mono hBw) hBb)
      (have hW_1 : WB w6 B b R C f g h false A n cap A2 n2 cap2 A3 n3 cap3 := HW0.out.below hbd_1 (Nat.le_refl _)); (have hX_1 : Blk w6 xb 75 xs := HX0.out.below hbd_1 hxb); clear c0 c1 c2 c3 c4 c5 c6 c7 c8 c9 cf cl x0 x1 x2 x3; clear hW hX hbd; (have hW := hW_1); (have hX := hX_1); (have hbd := hbd_1); clear hW_1 hX_1 hbd_1; rw [HXS.out] at hX; obtain ⟨c0, c1, c2, c3, c4, c5, c6, c7, c8, c9, cf, cl⟩ := hW.cells; have x0 := hX.cell 0; have x1 := hX.cell 1; have x2 := hX.cell 2; have x3 := hX.cell 3; simp at x0 x1 x2 x3
      clear aa ab ac af al ba bb bc bf bl
      obtain ⟨ba, bb, bc, bf, bl⟩ := hBx7.mx
      go_wp2_with fail
      refine (impl_Transpose_tb C C Ab nb cb (opA (tp h) i j t) _ (OR.reads (OR.low (OR.low (OR.low hob7 (by simp; omega) _) (by simp; omega) _) (by simp; omega) _)) (Nat.le_refl _) HR2.out hC hC).mono ?_
      rintro e w8 ⟨Ar, nr, cr, rfl, hor, hb8⟩
      have hW7 := hW5.putM hb6 hom
      have hs8 := hb8.size
      have hW8 := hW7.below hb8 (Nat.le_refl _)
      have hW9 := hW7.putR hb8 hor
      have HB8 := Lib.hid (HB7.out.trans (Below.mono hb8 (by have := hW7.lt; have := hW7.hb; omega)))
      clear c0 c1 c2 c3 c4 c5 c6 c7 c8 c9 cf cl x0 x1 x2 x3
      clear hW hW5 hW7 hX hbd hb8 hor hb6 hom ba bb bc bf bl hBx7 hob7 hBx5 hob5 hAx5 hoa5
      have HB9 := Lib.hid (below_put3 (b := b) (b0 := 6) (b1 := 7) (b2 := 8) (u0 := .int .i64 C) (u1 := .int .i64 C) (u2 := .slice Ar nr cr) HB8.out hBb)
      obtain ⟨c0, c1, c2, c3, c4, c5, c6, c7, c8, c9, cf, cl⟩ := hW8.cells
      go_wp2_with fail
      go_end0
      exact ⟨rfl, HBW.out.trans HB9.out, .inl ⟨⟨HR1.out, HR2.out⟩, hW9.wk⟩⟩
    · refine (impl_rowOp_add_no C C i j t Ab nb cb (tp h) _ (B := w2.heap.size + 1) (by (with_reducible (repeat (first | exact hob4 | refine OR.drew ?_ | refine OR.drewN ?_ _ | refine OR.alloc ?_ _ | refine OR.b_ ?_ | refine OR.l_ ?_)))) hi hj HIJ.out HT.out (tp_ok HH.out) (by omega) hC hC hr2).mono ?_
      rintro e w5 ⟨h', rfl, hob5, hgr5, hs5⟩
      have hAx5 : BM w5 w2.heap.size C R Aa na ca := BX.keptOwn hAx4 hgr5 hUb (.inl (by omega)); have hBx5 : BM w5 w3.heap.size C C Ab nb cb := BX.keptOwn hBx4 hgr5 hUb (.inr (Nat.le_refl _)); have hoa5 := OR.keptOwn hoa4 hgr5 hUa hUb (.inl (by omega)); have hbd_1 : Below w0.heap.size w0 w5 := Below.trans hbd (below_keptOwn hgr5 hUb (by omega) (by first | omega | (simp; done) | (simp; omega))); clear hgr5 hAx4 hoa4 hob4 hBx4 aa ab ac af al ba bb bc bf bl; (have hW_1 : WB w5 B b R C f g h false A n cap A2 n2 cap2 A3 n3 cap3 := HW0.out.below hbd_1 (Nat.le_refl _)); (have hX_1 : Blk w5 xb 75 xs := HX0.out.below hbd_1 hxb); clear c0 c1 c2 c3 c4 c5 c6 c7 c8 c9 cf cl x0 x1 x2 x3; clear hW hX hbd; (have hW := hW_1); (have hX := hX_1); (have hbd := hbd_1); clear hW_1 hX_1 hbd_1; rw [HXS.out] at hX; obtain ⟨c0, c1, c2, c3, c4, c5, c6, c7, c8, c9, cf, cl⟩ := hW.cells; have x0 := hX.cell 0; have x1 := hX.cell 1; have x2 := hX.cell 2; have x3 := hX.cell 3; simp at x0 x1 x2 x3; obtain ⟨aa, ab, ac, af, al⟩ := hAx5.mx; obtain ⟨ba, bb, bc, bf, bl⟩ := hBx5.mx
      have HR2 : Hid (¬ okC R C f h i j t) := Lib.hid (fun k => hr2 ((rowOk_iff (tp_ok HH.out) hi hj HT.out).2 k.2))
      clear hr2
      go_wp2_with fail
      go_end0
      exact ⟨rfl, HBW.out.trans ((hbd.mono hBw).trans (below_set_at hBb)), .inr ⟨HR2.out, _, _, _, hW.setBad.wk⟩⟩
  · refine (impl_rowOp_add_no C R i j t Aa na ca (tp f) _ (B := w1.heap.size) (by (with_reducible (repeat (first | exact hoa3 | refine OR.drew ?_ | refine OR.drewN ?_ _ | refine OR.alloc ?_ _ | refine OR.b_ ?_ | refine OR.l_ ?_)))) hi hj HIJ.out HT.out (tp_ok HF.out) hR0 hR hC hr1).mono ?_
    rintro e w4 ⟨f', rfl, hoa4, hgr4, hs4⟩
    simp at hs4; have hAx4 : BM w4 w2.heap.size C R Aa na ca := BX.keptOwn (by (with_reducible (repeat (first | exact hAx | refine BX.n_ | refine BX.b_ ?_ | apply BX.drew | apply BX.drewN | refine BX.put ?_ | refine BX.put2 ?_ | refine BX.f_ ?_ | apply BX.alloc | refine B3.n_ | exact B3.of hAx | refine B3.b_ ?_ | apply B3.drew | apply B3.drewN | refine B3.f_ ?_ | apply B3.alloc)))) hgr4 hUa (.inr (Nat.le_refl _)); have hBx4 : BM w4 w3.heap.size C C Ab nb cb := BX.keptOwn hBx hgr4 hUa (.inr (by omega)); have hob4 : OR w4 (w2.heap.size + 1) (.slice Ab nb cb) (tb C C (tp h)) := OR.keptOwn (by (with_reducible (repeat (first | exact hob3 | refine OR.drew ?_ | refine OR.drewN ?_ _ | refine OR.alloc ?_ _ | refine OR.b_ ?_ | refine OR.l_ ?_)))) hgr4 hUb hUa (.inr (by omega)); have hbd_1 : Below w0.heap.size w0 w4 := Below.trans (by (repeat (first | (with_reducible (first | exact Below.refl _ _ | assumption | refine below_drewN ?_ _ | refine Below.drew ?_ | refine Below.alloc ?_ ?_ _ | refine Below.setCell ?_ ?_ _ | refine below_i ?_)) | go_size))) (below_keptOwn hgr4 hUa hs1 (by first | omega | (simp; done) | (simp; omega))); clear hgr4 hAx hoa3 hob3 hBx aa ab ac af al; (have hW_1 : WB w4 B b R C f g h false A n cap A2 n2 cap2 A3 n3 cap3 := HW0.out.below hbd_1 (Nat.le_refl _)); (have hX_1 : Blk w4 xb 75 xs := HX0.out.below hbd_1 hxb); clear c0 c1 c2 c3 c4 c5 c6 c7 c8 c9 cf cl x0 x1 x2 x3; clear hW hX hbd; (have hW := hW_1); (have hX := hX_1); (have hbd := hbd_1); clear hW_1 hX_1 hbd_1; rw [HXS.out] at hX; obtain ⟨c0, c1, c2, c3, c4, c5, c6, c7, c8, c9, cf, cl⟩ := hW.cells; have x0 := hX.cell 0; have x1 := hX.cell 1; have x2 := hX.cell 2; have x3 := hX.cell 3; simp at x0 x1 x2 x3; obtain ⟨aa, ab, ac, af, al⟩ := hAx4.mx; obtain ⟨ba, bb, bc, bf, bl⟩ := hBx4.mx
    have HR1 : Hid (¬ okC R C f h i j t) := Lib.hid (fun k => hr1 ((rowOk_iff (tp_ok HF.out) hi hj HT.out).2 k.1))
    clear hr1
    go_wp2_with fail
    go_end0
    exact ⟨rfl, HBW.out.trans ((hbd.mono hBw).trans (below_set_at hBb)), .inr ⟨HR1.out, _, _, _, hW.setBad.wk⟩⟩
end Go.Proofs.Ytmcbhpaajjlmmaa

/-
  DERIVED. Several small texts in one: Work, PlainU, SmC, HmT, PlSp, Iden, NewW, DoR, SmT, Trn, ColS, PlSf, Work2.
-/
import Derived.Test.YtacjonkehcamgaaU2
import Derived.Test.YtacjonkehcamgaaU1
/-
  DERIVED. The struct 'work' of the program: a matrix, what is done to its rows and columns, a flag; operations on rows.
-/
namespace Go.Proofs.Ytacjonkehcamgaa
open Go.RowKit
set_option linter.unusedVariables false
set_option linter.unusedSimpArgs false
/-- Block b is a work: its matrices own their cells, no two of them the same ones. -/
structure WB (w : World) (B b R C : Nat) (f g h : Fn2) (bd : Bool) (A : Option Addr) (n cap : Nat) (A2 : Option Addr) (n2 cap2 : Nat) (A3 : Option Addr) (n3 cap3 : Nat) : Prop where
  blk : Blk w b 129 #[.int .i64 R, .int .i64 C, .slice A n cap, .int .i64 R, .int .i64 R, .slice A2 n2 cap2, .int .i64 C, .int .i64 C, .slice A3 n3 cap3, .bool bd]
  hb : B ≤ b
  m : OR w B (.slice A n cap) (tb R C f)
  l : OR w B (.slice A2 n2 cap2) (tb R R g)
  r : OR w B (.slice A3 n3 cap3) (tb C C h)
  ml : Apart (.slice A n cap) (.slice A2 n2 cap2)
  mr : Apart (.slice A n cap) (.slice A3 n3 cap3)
  lr : Apart (.slice A2 n2 cap2) (.slice A3 n3 cap3)
  mb : (Value.slice A n cap).ownBlock ≠ some b
  lb : (Value.slice A2 n2 cap2).ownBlock ≠ some b
  rb : (Value.slice A3 n3 cap3).ownBlock ≠ some b
def WK (w : World) (B b R C : Nat) (f g h : Fn2) (bd : Bool) : Prop := ∃ A n cap A2 n2 cap2 A3 n3 cap3, WB w B b R C f g h bd A n cap A2 n2 cap2 A3 n3 cap3
section
variable {w w' : World} {B b R C n cap n2 cap2 n3 cap3 : Nat} {f g h : Fn2} {bd : Bool} {A A2 A3 : Option Addr}
theorem WB.lt (k : WB w B b R C f g h bd A n cap A2 n2 cap2 A3 n3 cap3) : b < w.heap.size := k.blk.lt
theorem WB.drew (k : WB w B b R C f g h bd A n cap A2 n2 cap2 A3 n3 cap3) : WB w.drew B b R C f g h bd A n cap A2 n2 cap2 A3 n3 cap3 :=
  ⟨k.blk.drew, k.hb, k.m.drew, k.l.drew, k.r.drew, k.ml, k.mr, k.lr, k.mb, k.lb, k.rb⟩
theorem WB.drewN (k : WB w B b R C f g h bd A n cap A2 n2 cap2 A3 n3 cap3) (q : Nat) : WB (w.drewN q) B b R C f g h bd A n cap A2 n2 cap2 A3 n3 cap3 :=
  ⟨k.blk.drewN q, k.hb, k.m.drewN q, k.l.drewN q, k.r.drewN q, k.ml, k.mr, k.lr, k.mb, k.lb, k.rb⟩
theorem WB.alloc (k : WB w B b R C f g h bd A n cap A2 n2 cap2 A3 n3 cap3) (o : Obj) : WB (w.alloc o) B b R C f g h bd A n cap A2 n2 cap2 A3 n3 cap3 :=
  ⟨k.blk.alloc o, k.hb, k.m.alloc o, k.l.alloc o, k.r.alloc o, k.ml, k.mr, k.lr, k.mb, k.lb, k.rb⟩
theorem WB.below {D : Nat} (k : WB w B b R C f g h bd A n cap A2 n2 cap2 A3 n3 cap3) (hD : Below D w w') (hs : w.heap.size ≤ D) : WB w' B b R C f g h bd A n cap A2 n2 cap2 A3 n3 cap3 :=
  ⟨k.blk.below hD (by have := k.lt; omega), k.hb, k.m.below hD hs, k.l.below hD hs, k.r.below hD hs, k.ml, k.mr, k.lr, k.mb, k.lb, k.rb⟩
theorem WB.wroteM {f' : Fn2} (k : WB w B b R C f g h bd A n cap A2 n2 cap2 A3 n3 cap3) (ho : OR w' B (.slice A n cap) (tb R C f')) (hg : w.grownBy w' (Value.slice A n cap).ownBlock) : WB w' B b R C f' g h bd A n cap A2 n2 cap2 A3 n3 cap3 :=
  ⟨k.blk.grown hg (fun e => k.mb e.symm), k.hb, ho, k.l.kept hg k.ml.symm.ne, k.r.kept hg k.mr.symm.ne, k.ml, k.mr, k.lr, k.mb, k.lb, k.rb⟩
theorem WB.b_ {D : Nat} {w w' : World} {B b R C : Nat} {f g h : Fn2} {bd : Bool} {A A2 A3 : Option Addr} {n cap n2 cap2 n3 cap3 : Nat} (k : WB w B b R C f g h bd A n cap A2 n2 cap2 A3 n3 cap3) (hD : Below D w w' := by assumption) (hs : w.heap.size ≤ D := by first | omega | (simp; done) | (simp; omega)) : WB w' B b R C f g h bd A n cap A2 n2 cap2 A3 n3 cap3 := WB.below k hD hs
theorem WB.wroteL {g' : Fn2} (k : WB w B b R C f g h bd A n cap A2 n2 cap2 A3 n3 cap3) (ho : OR w' B (.slice A2 n2 cap2) (tb R R g')) (hg : w.grownBy w' (Value.slice A2 n2 cap2).ownBlock) : WB w' B b R C f g' h bd A n cap A2 n2 cap2 A3 n3 cap3 :=
  ⟨k.blk.grown hg (fun e => k.lb e.symm), k.hb, k.m.kept hg k.ml.ne, ho, k.r.kept hg k.lr.symm.ne, k.ml, k.mr, k.lr, k.mb, k.lb, k.rb⟩
theorem WB.setBad (k : WB w B b R C f g h bd A n cap A2 n2 cap2 A3 n3 cap3) : WB (w.setCell ⟨b, 9, none⟩ (.bool true)) B b R C f g h true A n cap A2 n2 cap2 A3 n3 cap3 :=
  ⟨(k.blk.set_ 9 _).as rfl, k.hb, k.m.far k.mb _, k.l.far k.lb _, k.r.far k.rb _, k.ml, k.mr, k.lr, k.mb, k.lb, k.rb⟩
theorem WB.cells (k : WB w B b R C f g h bd A n cap A2 n2 cap2 A3 n3 cap3) :
    w.cell? ⟨b, 0, none⟩ = some (.int .i64 R) ∧ w.cell? ⟨b, 1, none⟩ = some (.int .i64 C) ∧ w.cell? ⟨b, 2, none⟩ = some (.slice A n cap) ∧ w.cell? ⟨b, 3, none⟩ = some (.int .i64 R) ∧ w.cell? ⟨b, 4, none⟩ = some (.int .i64 R) ∧ w.cell? ⟨b, 5, none⟩ = some (.slice A2 n2 cap2) ∧
    w.cell? ⟨b, 6, none⟩ = some (.int .i64 C) ∧ w.cell? ⟨b, 7, none⟩ = some (.int .i64 C) ∧ w.cell? ⟨b, 8, none⟩ = some (.slice A3 n3 cap3) ∧ w.cell? ⟨b, 9, none⟩ = some (.bool bd) ∧ (∀ o, w.frozen? ⟨b, o, none⟩ = false) ∧ b < w.heap.size :=
  ⟨k.blk.cell 0, k.blk.cell 1, k.blk.cell 2, k.blk.cell 3, k.blk.cell 4, k.blk.cell 5, k.blk.cell 6, k.blk.cell 7, k.blk.cell 8, k.blk.cell 9, k.blk.frozen, k.lt⟩
theorem WB.wk (k : WB w B b R C f g h bd A n cap A2 n2 cap2 A3 n3 cap3) : WK w B b R C f g h bd := ⟨_, _, _, _, _, _, _, _, _, k⟩
theorem WB.belowM (k : WB w B b R C f g h bd A n cap A2 n2 cap2 A3 n3 cap3) (hg : w.grownBy w' (Value.slice A n cap).ownBlock) : Below B w w' := k.m.below_grown hg (by have := k.lt; have := k.hb; omega)
theorem WB.belowL (k : WB w B b R C f g h bd A n cap A2 n2 cap2 A3 n3 cap3) (hg : w.grownBy w' (Value.slice A2 n2 cap2).ownBlock) : Below B w w' := k.l.below_grown hg (by have := k.lt; have := k.hb; omega)
end
theorem WK.drew {w : World} {B b R C : Nat} {f g h : Fn2} {bd : Bool} (k : WK w B b R C f g h bd) : WK w.drew B b R C f g h bd := let ⟨_, _, _, _, _, _, _, _, _, k⟩ := k; k.drew.wk
theorem WK.alloc {w : World} {B b R C : Nat} {f g h : Fn2} {bd : Bool} (k : WK w B b R C f g h bd) (o : Obj) : WK (w.alloc o) B b R C f g h bd := let ⟨_, _, _, _, _, _, _, _, _, k⟩ := k; (k.alloc o).wk
theorem WK.below {w w' : World} {B b R C D : Nat} {f g h : Fn2} {bd : Bool} (k : WK w B b R C f g h bd) (hD : Below D w w') (hs : w.heap.size ≤ D) : WK w' B b R C f g h bd := let ⟨_, _, _, _, _, _, _, _, _, k⟩ := k; (k.below hD hs).wk
theorem below_set_at {w : World} {B b k : Nat} {u : Value} (h : B ≤ b) : Below B w (w.setCell ⟨b, k, none⟩ u) :=
  ⟨rfl, rfl, rfl, by simp [World.setCell], fun q hq => Below.heap_setCell w _ u q (by rintro rfl; exact absurd hq (by simp; omega))⟩
/-- A sum of rows as it goes in both. -/
def okA (R C : Nat) (f g : Fn2) (i j : Nat) (t : Int) : Prop := OKF R C (opA f i j t) ∧ OKF R R (opA g i j t)
def RWA (B b R C : Nat) (f g h : Fn2) (i j : Nat) (t : Int) (w : World) (e : Ending) (w' : World) : Prop :=
  e = .returned (.tuple #[]) ∧ Below B w w' ∧ ((okA R C f g i j t ∧ WK w' B b R C (opA f i j t) (opA g i j t) h false) ∨ (¬ okA R C f g i j t ∧ ∃ f' g', WK w' B b R C f' g' h true))
theorem impl_rowOp_add_yes (R C p t : Nat) (m : Int) (A : Option Addr) (n cap : Nat) (f : Fn2) (w : World) {B : Nat} (h : OR w B (.slice A n cap) (tb R C f)) (hp : p < R) (ht : t < R) (hpt : p ≠ t) (hm : Num m) (hf : OKF R C f) (hC0 : 0 < C) (hC : C ≤ 24) (hR : R ≤ 24) (hr : rowOk f p t m C) :
    Calls Try.prog 165 #[.agg #[.int .i64 R, .int .i64 C, .slice A n cap], .agg #[.int .i64 2, .int .i64 p, .int .i64 t, .int .i64 m]] w (WW (.bool true) (.slice A n cap) B (tb R C (opA f p t m)) w) :=
  (impl_rowOp_add R C p t m A n cap f w h hp ht hpt hm hf hC0 hC hR).mono fun _ _ k => k.elim (fun k => k.2) (fun k => absurd hr k.1)
theorem impl_rowOp_add_no (R C p t : Nat) (m : Int) (A : Option Addr) (n cap : Nat) (f : Fn2) (w : World) {B : Nat} (h : OR w B (.slice A n cap) (tb R C f)) (hp : p < R) (ht : t < R) (hpt : p ≠ t) (hm : Num m) (hf : OKF R C f) (hC0 : 0 < C) (hC : C ≤ 24) (hR : R ≤ 24) (hr : ¬ rowOk f p t m C) :
    Calls Try.prog 165 #[.agg #[.int .i64 R, .int .i64 C, .slice A n cap], .agg #[.int .i64 2, .int .i64 p, .int .i64 t, .int .i64 m]] w (fun e w' => ∃ f', WW (.bool false) (.slice A n cap) B (tb R C f') w e w') :=
  (impl_rowOp_add R C p t m A n cap f w h hp ht hpt hm hf hC0 hC hR).mono fun _ _ k => k.elim (fun k => absurd k.1 hr) (fun k => k.2)
set_option maxRecDepth 100000 in
set_option maxHeartbeats 4000000 in
theorem impl_rows_add (B b R C i j : Nat) (f g h : Fn2) (t : Int) (w : World) (hK : WK w B b R C f g h false) (hi : i < R) (hj : j < R) (hij : i ≠ j) (ht : Num t) (hf : OKF R C f) (hg : OKF R R g) (hC0 : 0 < C) (hC : C ≤ 24) (hR : R ≤ 24) :
    Calls Try.prog 149 #[.pointer (some ⟨b, 0, none⟩), .agg #[.int .i64 2, .int .i64 i, .int .i64 j, .int .i64 t]] w (RWA B b R C f g h i j t w) := by
  obtain ⟨A, n, cap, A2, n2, cap2, A3, n3, cap3, hW⟩ := hK
  have hBb := hW.hb
  have hbl := hW.lt
  have hbw : Below B w (w.alloc (.cells #[.int .i64 2, .int .i64 i, .int .i64 j, .int .i64 t] 66)) := by
    refine Below.mono (B := w.heap.size) ?_ (by omega)
    (repeat (first | (with_reducible (first | exact Below.refl _ _ | assumption | refine below_drewN ?_ _ | refine Below.drew ?_ | refine Below.alloc ?_ ?_ _ | refine Below.setCell ?_ ?_ _ | refine below_i ?_)) | go_size))
  have HMO : Hid ((Value.slice A n cap).ownBlock ≠ some w.heap.size) := Lib.hid (fun e => by have := (hW.m.own _ e).2; omega)
  have HLO : Hid ((Value.slice A2 n2 cap2).ownBlock ≠ some w.heap.size) := Lib.hid (fun e => by have := (hW.l.own _ e).2; omega)
  have HF := Lib.hid hf
  have HG := Lib.hid hg
  have HIJ := Lib.hid hij
  have HT := Lib.hid ht
  clear hf hg hij
  obtain ⟨c0, c1, c2, c3, c4, c5, c6, c7, c8, c9, cf, cl⟩ := hW.cells
  have hbe : (b == w.heap.size) = false := by simp; omega
  go_enter Try.func149, Try.ntmps149
  go_wp2_with fail
  have hX : Blk (w.alloc (.cells #[.int .i64 2, .int .i64 i, .int .i64 j, .int .i64 t] 66)) w.heap.size 66 #[.int .i64 2, .int .i64 i, .int .i64 j, .int .i64 t] := Blk.new _ _ _
  have x0 := hX.cell 0; have x1 := hX.cell 1; have x2 := hX.cell 2; have x3 := hX.cell 3; simp at x0 x1 x2 x3
  by_cases hr1 : rowOk f i j t C
  · by_cases hr2 : rowOk g i j t R
    · have hr1 := Lib.hid hr1
      have hr2 := Lib.hid hr2
      ((refine wp_region_held_drew (S := (fun w' => w'.cell? ⟨b, 0, none⟩ = some (.int .i64 R) ∧ w'.cell? ⟨b, 1, none⟩ = some (.int .i64 C) ∧ w'.cell? ⟨b, 2, none⟩ = some (.slice A n cap) ∧ w'.cell? ⟨b, 3, none⟩ = some (.int .i64 R) ∧ w'.cell? ⟨b, 4, none⟩ = some (.int .i64 R) ∧ w'.cell? ⟨b, 5, none⟩ = some (.slice A2 n2 cap2) ∧ w'.cell? ⟨b, 9, none⟩ = some (.bool false) ∧ w'.cell? ⟨w.heap.size, 0, none⟩ = some (.int .i64 2) ∧ w'.cell? ⟨w.heap.size, 1, none⟩ = some (.int .i64 i) ∧ w'.cell? ⟨w.heap.size, 2, none⟩ = some (.int .i64 j) ∧ w'.cell? ⟨w.heap.size, 3, none⟩ = some (.int .i64 t))) (by kernel_rfl) ?_ (fun hHeld => ?_)); ((focus ((try dsimp only); (go_keep)))); ((refine tk_ (i := 0) (v := ?_) (y := Or.inl ⟨by rfl, ?_⟩) (h := ?_); rotate_left; (focus (((intro w hSw; (try dsimp only at hSw); go_simp) <;> (try with_reducible rfl)); done)); (try simp only [Act.put, p1_, p2_, p3_]))); ((refine tk_ (i := 1) (v := ?_) (y := Or.inl ⟨by rfl, ?_⟩) (h := ?_); rotate_left; (focus (((intro w hSw; (try dsimp only at hSw); go_simp) <;> (try with_reducible rfl)); done)); (try simp only [Act.put, p1_, p2_, p3_]))); ((refine tk_ (i := 2) (v := ?_) (y := Or.inl ⟨by rfl, ?_⟩) (h := ?_); rotate_left; (focus (((intro w hSw; (try dsimp only at hSw); go_simp) <;> (try with_reducible rfl)); done)); (try simp only [Act.put, p1_, p2_, p3_]))); ((refine tk_ (i := 3) (v := ?_) (y := Or.inl ⟨by rfl, ?_⟩) (h := ?_); rotate_left; (focus (((intro w hSw; (try dsimp only at hSw); go_simp) <;> (try with_reducible rfl)); done)); (try simp only [Act.put, p1_, p2_, p3_]))); ((refine tk_ (i := 4) (v := ?_) (y := Or.inl ⟨by rfl, ?_⟩) (h := ?_); rotate_left; (focus (((intro w hSw; (try dsimp only at hSw); go_simp) <;> (try with_reducible rfl)); done)); (try simp only [Act.put, p1_, p2_, p3_]))); ((refine tk_ (i := 5) (v := ?_) (y := Or.inl ⟨by rfl, ?_⟩) (h := ?_); rotate_left; (focus (((intro w hSw; (try dsimp only at hSw); go_simp) <;> (try with_reducible rfl)); done)); (try simp only [Act.put, p1_, p2_, p3_]))); ((refine tk_ (i := 6) (v := ?_) (y := Or.inl ⟨by rfl, ?_⟩) (h := ?_); rotate_left; (focus (((intro w hSw; (try dsimp only at hSw); go_simp) <;> (try with_reducible rfl)); done)); (try simp only [Act.put, p1_, p2_, p3_]))); ((refine tk_ (i := 7) (v := ?_) (y := Or.inl ⟨by rfl, ?_⟩) (h := ?_); rotate_left; (focus (((intro w hSw; (try dsimp only at hSw); go_simp) <;> (try with_reducible rfl)); done)); (try simp only [Act.put, p1_, p2_, p3_]))); ((refine tk_ (i := 8) (v := ?_) (y := Or.inl ⟨by rfl, ?_⟩) (h := ?_); rotate_left; (focus (((intro w hSw; (try dsimp only at hSw); go_simp) <;> (try with_reducible rfl)); done)); (try simp only [Act.put, p1_, p2_, p3_]))); ((refine tk_ (i := 9) (v := ?_) (y := Or.inl ⟨by rfl, ?_⟩) (h := ?_); rotate_left; (focus (((intro w hSw; (try dsimp only at hSw); go_simp) <;> (try with_reducible rfl)); done)); (try simp only [Act.put, p1_, p2_, p3_]))); ((refine tk_ (i := 10) (v := ?_) (y := Or.inl ⟨by rfl, ?_⟩) (h := ?_); rotate_left; (focus (((intro w hSw; (try dsimp only at hSw); go_simp) <;> (try with_reducible rfl)); done)); (try simp only [Act.put, p1_, p2_, p3_]))); ((refine wpAnyH_ready (rs := [11]) (by kernel_rfl) (by simp) ?_; refine AllReadyH.cons (by simp only [e1_, e2_, e3_]; try rfl) (fun K hK => ?_) AllReadyH.nil; go_simp; (go_at_call 142; refine (impl_IsRowOp_add R i j t _ hi hj HIJ.out HT.out hR).mono ?_; rintro e w1 ⟨rfl, hb1⟩; (have hW_1 : WB w1 B b R C f g h false A n cap A2 n2 cap2 A3 n3 cap3 := by (with_reducible (repeat (first | exact hW | refine WB.b_ ?_ | refine WB.drew ?_ | refine WB.drewN ?_ _ | refine WB.alloc ?_ _)))); (have hX_1 : Blk w1 w.heap.size 66 #[.int .i64 2, .int .i64 i, .int .i64 j, .int .i64 t] := by (with_reducible (repeat (first | exact hX | refine Blk.below ?_ (by assumption) Ks | apply Blk.drew | apply Blk.drewN | apply Blk.alloc | apply Blk.set_ | apply Blk.far; rotate_left; (simp only [ne_eq]; omega); rotate_right)))); (have hbw_1 : Below B w w1 := by refine Below.trans ?_ (Below.mono hb1 (B' := B) ?_); (first | exact hbw | exact Below.drew hbw); (try simp); omega); (have hsz := hb1.size); (try simp at hsz); clear hb1; clear hW hX hbw; clear c0 c1 c2 c3 c4 c5 c6 c7 c8 c9 cf cl; clear x0 x1 x2 x3; have hW := hW_1; have hX := hX_1; have hbw := hbw_1; clear hW_1 hX_1 hbw_1; obtain ⟨c0, c1, c2, c3, c4, c5, c6, c7, c8, c9, cf, cl⟩ := hW.cells; have x0 := hX.cell 0; have x1 := hX.cell 1; have x2 := hX.cell 2; have x3 := hX.cell 3; simp at x0 x1 x2 x3); (try go_wp2_with fail); refine hK.out _ _ ?_ (fun hHeld => ?_); (focus ((try dsimp only); (go_keep))); clear hK K; (try simp only [Act.put, p1_, p2_, p3_]))); ((refine tk_ (i := 12) (v := ?_) (y := Or.inl ⟨by rfl, ?_⟩) (h := ?_); rotate_left; (focus (((intro w hSw; (try dsimp only at hSw); go_simp) <;> (try with_reducible rfl)); done)); (try simp only [Act.put, p1_, p2_, p3_]))); ((refine tk_ (i := 13) (v := ?_) (y := Or.inl ⟨by rfl, ?_⟩) (h := ?_); rotate_left; (focus (((intro w hSw; (try dsimp only at hSw); go_simp) <;> (try with_reducible rfl)); done)); (try simp only [Act.put, p1_, p2_, p3_]))); ((refine tk_ (i := 14) (v := ?_) (y := Or.inl ⟨by rfl, ?_⟩) (h := ?_); rotate_left; (focus (((intro w hSw; (try dsimp only at hSw); go_simp) <;> (try with_reducible rfl)); done)); (try simp only [Act.put, p1_, p2_, p3_]))); ((refine tk_ (i := 15) (v := ?_) (y := Or.inl ⟨by rfl, ?_⟩) (h := ?_); rotate_left; (focus (((intro w hSw; (try dsimp only at hSw); go_simp) <;> (try with_reducible rfl)); done)); (try simp only [Act.put, p1_, p2_, p3_]))); ((refine tk_ (i := 16) (v := ?_) (y := Or.inl ⟨by rfl, ?_⟩) (h := ?_); rotate_left; (focus (((intro w hSw; (try dsimp only at hSw); go_simp) <;> (try with_reducible rfl)); done)); (try simp only [Act.put, p1_, p2_, p3_]))); ((refine tk_ (i := 17) (v := ?_) (y := Or.inl ⟨by rfl, ?_⟩) (h := ?_); rotate_left; (focus (((intro w hSw; (try dsimp only at hSw); go_simp) <;> (try with_reducible rfl)); done)); (try simp only [Act.put, p1_, p2_, p3_]))); ((refine tk_ (i := 18) (v := ?_) (y := Or.inl ⟨by rfl, ?_⟩) (h := ?_); rotate_left; (focus (((intro w hSw; (try dsimp only at hSw); go_simp) <;> (try with_reducible rfl)); done)); (try simp only [Act.put, p1_, p2_, p3_]))); ((refine tk_ (i := 19) (v := ?_) (y := Or.inl ⟨by rfl, ?_⟩) (h := ?_); rotate_left; (focus (((intro w hSw; (try dsimp only at hSw); go_simp) <;> (try with_reducible rfl)); done)); (try simp only [Act.put, p1_, p2_, p3_]))); ((refine wpAnyH_ready (rs := [20]) (by kernel_rfl) (by simp) ?_; refine AllReadyH.cons (by simp only [e1_, e2_, e3_]; try rfl) (fun K hK => ?_) AllReadyH.nil; go_simp; (go_at_call 165; refine (impl_rowOp_add_yes R C i j t A n cap f _ (B := B) (by have hm := hW.m; (with_reducible (repeat (first | exact hm | refine OR.drew ?_ | refine OR.drewN ?_ _ | refine OR.alloc ?_ _ | refine OR.b_ ?_ | refine OR.l_ ?_)))) hi hj HIJ.out HT.out HF.out hC0 hC hR hr1.out).mono ?_; rintro e w2 ⟨rfl, hown2, hgr2, hs2⟩; (have hW_1 := hW.wroteM hown2 hgr2; have hX_1 := hX.grown hgr2 (fun e => HMO.out e.symm); have hbw_1 := hbw.trans (hW.belowM hgr2); clear hown2 hgr2; clear hW hX hbw; clear c0 c1 c2 c3 c4 c5 c6 c7 c8 c9 cf cl; clear x0 x1 x2 x3; have hW := hW_1; have hX := hX_1; have hbw := hbw_1; clear hW_1 hX_1 hbw_1; obtain ⟨c0, c1, c2, c3, c4, c5, c6, c7, c8, c9, cf, cl⟩ := hW.cells; have x0 := hX.cell 0; have x1 := hX.cell 1; have x2 := hX.cell 2; have x3 := hX.cell 3; simp at x0 x1 x2 x3)); (try go_wp2_with fail); refine hK.out _ _ ?_ (fun hHeld => ?_); (focus ((try dsimp only); (go_keep))); clear hK K; (try simp only [Act.put, p1_, p2_, p3_]))); ((refine tk_ (i := 21) (v := ?_) (y := Or.inl ⟨by rfl, ?_⟩) (h := ?_); rotate_left; (focus (((intro w hSw; (try dsimp only at hSw); go_simp) <;> (try with_reducible rfl)); done)); (try simp only [Act.put, p1_, p2_, p3_]))); ((refine tk_ (i := 22) (v := ?_) (y := Or.inl ⟨by rfl, ?_⟩) (h := ?_); rotate_left; (focus (((intro w hSw; (try dsimp only at hSw); go_simp) <;> (try with_reducible rfl)); done)); (try simp only [Act.put, p1_, p2_, p3_]))); ((refine tk_ (i := 23) (v := ?_) (y := Or.inl ⟨by rfl, ?_⟩) (h := ?_); rotate_left; (focus (((intro w hSw; (try dsimp only at hSw); go_simp) <;> (try with_reducible rfl)); done)); (try simp only [Act.put, p1_, p2_, p3_]))); ((refine tk_ (i := 24) (v := ?_) (y := Or.inl ⟨by rfl, ?_⟩) (h := ?_); rotate_left; (focus (((intro w hSw; (try dsimp only at hSw); go_simp) <;> (try with_reducible rfl)); done)); (try simp only [Act.put, p1_, p2_, p3_]))); ((refine tk_ (i := 25) (v := ?_) (y := Or.inl ⟨by rfl, ?_⟩) (h := ?_); rotate_left; (focus (((intro w hSw; (try dsimp only at hSw); go_simp) <;> (try with_reducible rfl)); done)); (try simp only [Act.put, p1_, p2_, p3_]))); ((refine tk_ (i := 26) (v := ?_) (y := Or.inl ⟨by rfl, ?_⟩) (h := ?_); rotate_left; (focus (((intro w hSw; (try dsimp only at hSw); go_simp) <;> (try with_reducible rfl)); done)); (try simp only [Act.put, p1_, p2_, p3_]))); ((refine tk_ (i := 27) (v := ?_) (y := Or.inl ⟨by rfl, ?_⟩) (h := ?_); rotate_left; (focus (((intro w hSw; (try dsimp only at hSw); go_simp) <;> (try with_reducible rfl)); done)); (try simp only [Act.put, p1_, p2_, p3_]))); ((refine tk_ (i := 28) (v := ?_) (y := Or.inl ⟨by rfl, ?_⟩) (h := ?_); rotate_left; (focus (((intro w hSw; (try dsimp only at hSw); go_simp) <;> (try with_reducible rfl)); done)); (try simp only [Act.put, p1_, p2_, p3_]))); ((refine wpAnyH_ready (rs := [29]) (by kernel_rfl) (by simp) ?_; refine AllReadyH.cons (by simp only [e1_, e2_, e3_]; try rfl) (fun K hK => ?_) AllReadyH.nil; go_simp; (go_at_call 165; refine (impl_rowOp_add_yes R R i j t A2 n2 cap2 g _ (B := B) (by have hm := hW.l; (with_reducible (repeat (first | exact hm | refine OR.drew ?_ | refine OR.drewN ?_ _ | refine OR.alloc ?_ _ | refine OR.b_ ?_ | refine OR.l_ ?_)))) hi hj HIJ.out HT.out HG.out (by omega) (by omega) hR hr2.out).mono ?_; rintro e w2 ⟨rfl, hown2, hgr2, hs2⟩; (have hW_1 := hW.wroteL hown2 hgr2; have hX_1 := hX.grown hgr2 (fun e => HLO.out e.symm); have hbw_1 := hbw.trans (hW.belowL hgr2); clear hown2 hgr2; clear hW hX hbw; clear c0 c1 c2 c3 c4 c5 c6 c7 c8 c9 cf cl; clear x0 x1 x2 x3; have hW := hW_1; have hX := hX_1; have hbw := hbw_1; clear hW_1 hX_1 hbw_1; obtain ⟨c0, c1, c2, c3, c4, c5, c6, c7, c8, c9, cf, cl⟩ := hW.cells; have x0 := hX.cell 0; have x1 := hX.cell 1; have x2 := hX.cell 2; have x3 := hX.cell 3; simp at x0 x1 x2 x3)); (try go_wp2_with fail); refine hK.out _ _ ?_ (fun hHeld => ?_); (focus ((try dsimp only); (go_keep))); clear hK K; (try simp only [Act.put, p1_, p2_, p3_]))); ((refine tk_ (i := 30) (v := ?_) (y := Or.inl ⟨by rfl, ?_⟩) (h := ?_); rotate_left; (focus (((intro w hSw; (try dsimp only at hSw); go_simp) <;> (try with_reducible rfl)); done)); (try simp only [Act.put, p1_, p2_, p3_]))); ((refine tk_ (i := 31) (v := ?_) (y := Or.inl ⟨by rfl, ?_⟩) (h := ?_); rotate_left; (focus (((intro w hSw; (try dsimp only at hSw); go_simp) <;> (try with_reducible rfl)); done)); (try simp only [Act.put, p1_, p2_, p3_]))); (refine wpAnyH_done (by kernel_rfl) ?_ _))
      go_wp2_with fail
      go_end0
      exact ⟨rfl, hbw, .inl ⟨⟨(rowOk_iff HF.out hi hj HT.out).1 hr1.out, (rowOk_iff HG.out hi hj HT.out).1 hr2.out⟩, hW.wk⟩⟩
    · have hr1 := Lib.hid hr1
      have hr2 := Lib.hid hr2
      ((refine wp_region_held_drew (S := (fun w' => w'.cell? ⟨b, 0, none⟩ = some (.int .i64 R) ∧ w'.cell? ⟨b, 1, none⟩ = some (.int .i64 C) ∧ w'.cell? ⟨b, 2, none⟩ = some (.slice A n cap) ∧ w'.cell? ⟨b, 3, none⟩ = some (.int .i64 R) ∧ w'.cell? ⟨b, 4, none⟩ = some (.int .i64 R) ∧ w'.cell? ⟨b, 5, none⟩ = some (.slice A2 n2 cap2) ∧ w'.cell? ⟨b, 9, none⟩ = some (.bool false) ∧ w'.cell? ⟨w.heap.size, 0, none⟩ = some (.int .i64 2) ∧ w'.cell? ⟨w.heap.size, 1, none⟩ = some (.int .i64 i) ∧ w'.cell? ⟨w.heap.size, 2, none⟩ = some (.int .i64 j) ∧ w'.cell? ⟨w.heap.size, 3, none⟩ = some (.int .i64 t))) (by kernel_rfl) ?_ (fun hHeld => ?_)); ((focus ((try dsimp only); (go_keep)))); ((refine tk_ (i := 0) (v := ?_) (y := Or.inl ⟨by rfl, ?_⟩) (h := ?_); rotate_left; (focus (((intro w hSw; (try dsimp only at hSw); go_simp) <;> (try with_reducible rfl)); done)); (try simp only [Act.put, p1_, p2_, p3_]))); ((refine tk_ (i := 1) (v := ?_) (y := Or.inl ⟨by rfl, ?_⟩) (h := ?_); rotate_left; (focus (((intro w hSw; (try dsimp only at hSw); go_simp) <;> (try with_reducible rfl)); done)); (try simp only [Act.put, p1_, p2_, p3_]))); ((refine tk_ (i := 2) (v := ?_) (y := Or.inl ⟨by rfl, ?_⟩) (h := ?_); rotate_left; (focus (((intro w hSw; (try dsimp only at hSw); go_simp) <;> (try with_reducible rfl)); done)); (try simp only [Act.put, p1_, p2_, p3_]))); ((refine tk_ (i := 3) (v := ?_) (y := Or.inl ⟨by rfl, ?_⟩) (h := ?_); rotate_left; (focus (((intro w hSw; (try dsimp only at hSw); go_simp) <;> (try with_reducible rfl)); done)); (try simp only [Act.put, p1_, p2_, p3_]))); ((refine tk_ (i := 4) (v := ?_) (y := Or.inl ⟨by rfl, ?_⟩) (h := ?_); rotate_left; (focus (((intro w hSw; (try dsimp only at hSw); go_simp) <;> (try with_reducible rfl)); done)); (try simp only [Act.put, p1_, p2_, p3_]))); ((refine tk_ (i := 5) (v := ?_) (y := Or.inl ⟨by rfl, ?_⟩) (h := ?_); rotate_left; (focus (((intro w hSw; (try dsimp only at hSw); go_simp) <;> (try with_reducible rfl)); done)); (try simp only [Act.put, p1_, p2_, p3_]))); ((refine tk_ (i := 6) (v := ?_) (y := Or.inl ⟨by rfl, ?_⟩) (h := ?_); rotate_left; (focus (((intro w hSw; (try dsimp only at hSw); go_simp) <;> (try with_reducible rfl)); done)); (try simp only [Act.put, p1_, p2_, p3_]))); ((refine tk_ (i := 7) (v := ?_) (y := Or.inl ⟨by rfl, ?_⟩) (h := ?_); rotate_left; (focus (((intro w hSw; (try dsimp only at hSw); go_simp) <;> (try with_reducible rfl)); done)); (try simp only [Act.put, p1_, p2_, p3_]))); ((refine tk_ (i := 8) (v := ?_) (y := Or.inl ⟨by rfl, ?_⟩) (h := ?_); rotate_left; (focus (((intro w hSw; (try dsimp only at hSw); go_simp) <;> (try with_reducible rfl)); done)); (try simp only [Act.put, p1_, p2_, p3_]))); ((refine tk_ (i := 9) (v := ?_) (y := Or.inl ⟨by rfl, ?_⟩) (h := ?_); rotate_left; (focus (((intro w hSw; (try dsimp only at hSw); go_simp) <;> (try with_reducible rfl)); done)); (try simp only [Act.put, p1_, p2_, p3_]))); ((refine tk_ (i := 10) (v := ?_) (y := Or.inl ⟨by rfl, ?_⟩) (h := ?_); rotate_left; (focus (((intro w hSw; (try dsimp only at hSw); go_simp) <;> (try with_reducible rfl)); done)); (try simp only [Act.put, p1_, p2_, p3_]))); ((refine wpAnyH_ready (rs := [11]) (by kernel_rfl) (by simp) ?_; refine AllReadyH.cons (by simp only [e1_, e2_, e3_]; try rfl) (fun K hK => ?_) AllReadyH.nil; go_simp; (go_at_call 142; refine (impl_IsRowOp_add R i j t _ hi hj HIJ.out HT.out hR).mono ?_; rintro e w1 ⟨rfl, hb1⟩; (have hW_1 : WB w1 B b R C f g h false A n cap A2 n2 cap2 A3 n3 cap3 := by (with_reducible (repeat (first | exact hW | refine WB.b_ ?_ | refine WB.drew ?_ | refine WB.drewN ?_ _ | refine WB.alloc ?_ _)))); (have hX_1 : Blk w1 w.heap.size 66 #[.int .i64 2, .int .i64 i, .int .i64 j, .int .i64 t] := by (with_reducible (repeat (first | exact hX | refine Blk.below ?_ (by assumption) Ks | apply Blk.drew | apply Blk.drewN | apply Blk.alloc | apply Blk.set_ | apply Blk.far; rotate_left; (simp only [ne_eq]; omega); rotate_right)))); (have hbw_1 : Below B w w1 := by refine Below.trans ?_ (Below.mono hb1 (B' := B) ?_); (first | exact hbw | exact Below.drew hbw); (try simp); omega); (have hsz := hb1.size); (try simp at hsz); clear hb1; clear hW hX hbw; clear c0 c1 c2 c3 c4 c5 c6 c7 c8 c9 cf cl; clear x0 x1 x2 x3; have hW := hW_1; have hX := hX_1; have hbw := hbw_1; clear hW_1 hX_1 hbw_1; obtain ⟨c0, c1, c2, c3, c4, c5, c6, c7, c8, c9, cf, cl⟩ := hW.cells; have x0 := hX.cell 0; have x1 := hX.cell 1; have x2 := hX.cell 2; have x3 := hX.cell 3; simp at x0 x1 x2 x3); (try go_wp2_with fail); refine hK.out _ _ ?_ (fun hHeld => ?_); (focus ((try dsimp only); (go_keep))); clear hK K; (try simp only [Act.put, p1_, p2_, p3_]))); ((refine tk_ (i := 12) (v := ?_) (y := Or.inl ⟨by rfl, ?_⟩) (h := ?_); rotate_left; (focus (((intro w hSw; (try dsimp only at hSw); go_simp) <;> (try with_reducible rfl)); done)); (try simp only [Act.put, p1_, p2_, p3_]))); ((refine tk_ (i := 13) (v := ?_) (y := Or.inl ⟨by rfl, ?_⟩) (h := ?_); rotate_left; (focus (((intro w hSw; (try dsimp only at hSw); go_simp) <;> (try with_reducible rfl)); done)); (try simp only [Act.put, p1_, p2_, p3_]))); ((refine tk_ (i := 14) (v := ?_) (y := Or.inl ⟨by rfl, ?_⟩) (h := ?_); rotate_left; (focus (((intro w hSw; (try dsimp only at hSw); go_simp) <;> (try with_reducible rfl)); done)); (try simp only [Act.put, p1_, p2_, p3_]))); ((refine tk_ (i := 15) (v := ?_) (y := Or.inl ⟨by rfl, ?_⟩) (h := ?_); rotate_left; (focus (((intro w hSw; (try dsimp only at hSw); go_simp) <;> (try with_reducible rfl)); done)); (try simp only [Act.put, p1_, p2_, p3_]))); ((refine tk_ (i := 16) (v := ?_) (y := Or.inl ⟨by rfl, ?_⟩) (h := ?_); rotate_left; (focus (((intro w hSw; (try dsimp only at hSw); go_simp) <;> (try with_reducible rfl)); done)); (try simp only [Act.put, p1_, p2_, p3_]))); ((refine tk_ (i := 17) (v := ?_) (y := Or.inl ⟨by rfl, ?_⟩) (h := ?_); rotate_left; (focus (((intro w hSw; (try dsimp only at hSw); go_simp) <;> (try with_reducible rfl)); done)); (try simp only [Act.put, p1_, p2_, p3_]))); ((refine tk_ (i := 18) (v := ?_) (y := Or.inl ⟨by rfl, ?_⟩) (h := ?_); rotate_left; (focus (((intro w hSw; (try dsimp only at hSw); go_simp) <;> (try with_reducible rfl)); done)); (try simp only [Act.put, p1_, p2_, p3_]))); ((refine tk_ (i := 19) (v := ?_) (y := Or.inl ⟨by rfl, ?_⟩) (h := ?_); rotate_left; (focus (((intro w hSw; (try dsimp only at hSw); go_simp) <;> (try with_reducible rfl)); done)); (try simp only [Act.put, p1_, p2_, p3_]))); ((refine wpAnyH_ready (rs := [20]) (by kernel_rfl) (by simp) ?_; refine AllReadyH.cons (by simp only [e1_, e2_, e3_]; try rfl) (fun K hK => ?_) AllReadyH.nil; go_simp; (go_at_call 165; refine (impl_rowOp_add_yes R C i j t A n cap f _ (B := B) (by have hm := hW.m; (with_reducible (repeat (first | exact hm | refine OR.drew ?_ | refine OR.drewN ?_ _ | refine OR.alloc ?_ _ | refine OR.b_ ?_ | refine OR.l_ ?_)))) hi hj HIJ.out HT.out HF.out hC0 hC hR hr1.out).mono ?_; rintro e w2 ⟨rfl, hown2, hgr2, hs2⟩; (have hW_1 := hW.wroteM hown2 hgr2; have hX_1 := hX.grown hgr2 (fun e => HMO.out e.symm); have hbw_1 := hbw.trans (hW.belowM hgr2); clear hown2 hgr2; clear hW hX hbw; clear c0 c1 c2 c3 c4 c5 c6 c7 c8 c9 cf cl; clear x0 x1 x2 x3; have hW := hW_1; have hX := hX_1; have hbw := hbw_1; clear hW_1 hX_1 hbw_1; obtain ⟨c0, c1, c2, c3, c4, c5, c6, c7, c8, c9, cf, cl⟩ := hW.cells; have x0 := hX.cell 0; have x1 := hX.cell 1; have x2 := hX.cell 2; have x3 := hX.cell 3; simp at x0 x1 x2 x3)); (try go_wp2_with fail); refine hK.out _ _ ?_ (fun hHeld => ?_); (focus ((try dsimp only); (go_keep))); clear hK K; (try simp only [Act.put, p1_, p2_, p3_]))); ((refine tk_ (i := 21) (v := ?_) (y := Or.inl ⟨by rfl, ?_⟩) (h := ?_); rotate_left; (focus (((intro w hSw; (try dsimp only at hSw); go_simp) <;> (try with_reducible rfl)); done)); (try simp only [Act.put, p1_, p2_, p3_]))); ((refine tk_ (i := 22) (v := ?_) (y := Or.inl ⟨by rfl, ?_⟩) (h := ?_); rotate_left; (focus (((intro w hSw; (try dsimp only at hSw); go_simp) <;> (try with_reducible rfl)); done)); (try simp only [Act.put, p1_, p2_, p3_]))); ((refine tk_ (i := 23) (v := ?_) (y := Or.inl ⟨by rfl, ?_⟩) (h := ?_); rotate_left; (focus (((intro w hSw; (try dsimp only at hSw); go_simp) <;> (try with_reducible rfl)); done)); (try simp only [Act.put, p1_, p2_, p3_]))); ((refine tk_ (i := 24) (v := ?_) (y := Or.inl ⟨by rfl, ?_⟩) (h := ?_); rotate_left; (focus (((intro w hSw; (try dsimp only at hSw); go_simp) <;> (try with_reducible rfl)); done)); (try simp only [Act.put, p1_, p2_, p3_]))); ((refine tk_ (i := 25) (v := ?_) (y := Or.inl ⟨by rfl, ?_⟩) (h := ?_); rotate_left; (focus (((intro w hSw; (try dsimp only at hSw); go_simp) <;> (try with_reducible rfl)); done)); (try simp only [Act.put, p1_, p2_, p3_]))); ((refine tk_ (i := 26) (v := ?_) (y := Or.inl ⟨by rfl, ?_⟩) (h := ?_); rotate_left; (focus (((intro w hSw; (try dsimp only at hSw); go_simp) <;> (try with_reducible rfl)); done)); (try simp only [Act.put, p1_, p2_, p3_]))); ((refine tk_ (i := 27) (v := ?_) (y := Or.inl ⟨by rfl, ?_⟩) (h := ?_); rotate_left; (focus (((intro w hSw; (try dsimp only at hSw); go_simp) <;> (try with_reducible rfl)); done)); (try simp only [Act.put, p1_, p2_, p3_]))); ((refine tk_ (i := 28) (v := ?_) (y := Or.inl ⟨by rfl, ?_⟩) (h := ?_); rotate_left; (focus (((intro w hSw; (try dsimp only at hSw); go_simp) <;> (try with_reducible rfl)); done)); (try simp only [Act.put, p1_, p2_, p3_]))); ((refine wpAnyH_ready (rs := [29]) (by kernel_rfl) (by simp) ?_; refine AllReadyH.cons (by simp only [e1_, e2_, e3_]; try rfl) (fun K hK => ?_) AllReadyH.nil; go_simp; (go_at_call 165; refine (impl_rowOp_add_no R R i j t A2 n2 cap2 g _ (B := B) (by have hm := hW.l; (with_reducible (repeat (first | exact hm | refine OR.drew ?_ | refine OR.drewN ?_ _ | refine OR.alloc ?_ _ | refine OR.b_ ?_ | refine OR.l_ ?_)))) hi hj HIJ.out HT.out HG.out (by omega) (by omega) hR hr2.out).mono ?_; rintro e w2 ⟨g', rfl, hown2, hgr2, hs2⟩; (have hW_1 := hW.wroteL hown2 hgr2; have hX_1 := hX.grown hgr2 (fun e => HLO.out e.symm); have hbw_1 := hbw.trans (hW.belowL hgr2); clear hown2 hgr2; clear hW hX hbw; clear c0 c1 c2 c3 c4 c5 c6 c7 c8 c9 cf cl; clear x0 x1 x2 x3; have hW := hW_1; have hX := hX_1; have hbw := hbw_1; clear hW_1 hX_1 hbw_1; obtain ⟨c0, c1, c2, c3, c4, c5, c6, c7, c8, c9, cf, cl⟩ := hW.cells; have x0 := hX.cell 0; have x1 := hX.cell 1; have x2 := hX.cell 2; have x3 := hX.cell 3; simp at x0 x1 x2 x3)); (try go_wp2_with fail); refine hK.out _ _ ?_ (fun hHeld => ?_); (focus ((try dsimp only); (go_keep))); clear hK K; (try simp only [Act.put, p1_, p2_, p3_]))); ((refine tk_ (i := 30) (v := ?_) (y := Or.inl ⟨by rfl, ?_⟩) (h := ?_); rotate_left; (focus (((intro w hSw; (try dsimp only at hSw); go_simp) <;> (try with_reducible rfl)); done)); (try simp only [Act.put, p1_, p2_, p3_]))); ((refine tk_ (i := 31) (v := ?_) (y := Or.inl ⟨by rfl, ?_⟩) (h := ?_); rotate_left; (focus (((intro w hSw; (try dsimp only at hSw); go_simp) <;> (try with_reducible rfl)); done)); (try simp only [Act.put, p1_, p2_, p3_]))); (refine wpAnyH_done (by kernel_rfl) ?_ _))
      go_wp2_with fail
      go_end0
      exact ⟨rfl, hbw.trans (below_set_at hW.hb), .inr ⟨fun k => hr2.out ((rowOk_iff HG.out hi hj HT.out).2 k.2), _, _, hW.setBad.wk⟩⟩
  · have hr1 := Lib.hid hr1
    ((refine wp_region_held_drew (S := (fun w' => w'.cell? ⟨b, 0, none⟩ = some (.int .i64 R) ∧ w'.cell? ⟨b, 1, none⟩ = some (.int .i64 C) ∧ w'.cell? ⟨b, 2, none⟩ = some (.slice A n cap) ∧ w'.cell? ⟨b, 3, none⟩ = some (.int .i64 R) ∧ w'.cell? ⟨b, 4, none⟩ = some (.int .i64 R) ∧ w'.cell? ⟨b, 5, none⟩ = some (.slice A2 n2 cap2) ∧ w'.cell? ⟨b, 9, none⟩ = some (.bool false) ∧ w'.cell? ⟨w.heap.size, 0, none⟩ = some (.int .i64 2) ∧ w'.cell? ⟨w.heap.size, 1, none⟩ = some (.int .i64 i) ∧ w'.cell? ⟨w.heap.size, 2, none⟩ = some (.int .i64 j) ∧ w'.cell? ⟨w.heap.size, 3, none⟩ = some (.int .i64 t))) (by kernel_rfl) ?_ (fun hHeld => ?_)); ((focus ((try dsimp only); (go_keep)))); ((refine tk_ (i := 0) (v := ?_) (y := Or.inl ⟨by rfl, ?_⟩) (h := ?_); rotate_left; (focus (((intro w hSw; (try dsimp only at hSw); go_simp) <;> (try with_reducible rfl)); done)); (try simp only [Act.put, p1_, p2_, p3_]))); ((refine tk_ (i := 1) (v := ?_) (y := Or.inl ⟨by rfl, ?_⟩) (h := ?_); rotate_left; (focus (((intro w hSw; (try dsimp only at hSw); go_simp) <;> (try with_reducible rfl)); done)); (try simp only [Act.put, p1_, p2_, p3_]))); ((refine tk_ (i := 2) (v := ?_) (y := Or.inl ⟨by rfl, ?_⟩) (h := ?_); rotate_left; (focus (((intro w hSw; (try dsimp only at hSw); go_simp) <;> (try with_reducible rfl)); done)); (try simp only [Act.put, p1_, p2_, p3_]))); ((refine tk_ (i := 3) (v := ?_) (y := Or.inl ⟨by rfl, ?_⟩) (h := ?_); rotate_left; (focus (((intro w hSw; (try dsimp only at hSw); go_simp) <;> (try with_reducible rfl)); done)); (try simp only [Act.put, p1_, p2_, p3_]))); ((refine tk_ (i := 4) (v := ?_) (y := Or.inl ⟨by rfl, ?_⟩) (h := ?_); rotate_left; (focus (((intro w hSw; (try dsimp only at hSw); go_simp) <;> (try with_reducible rfl)); done)); (try simp only [Act.put, p1_, p2_, p3_]))); ((refine tk_ (i := 5) (v := ?_) (y := Or.inl ⟨by rfl, ?_⟩) (h := ?_); rotate_left; (focus (((intro w hSw; (try dsimp only at hSw); go_simp) <;> (try with_reducible rfl)); done)); (try simp only [Act.put, p1_, p2_, p3_]))); ((refine tk_ (i := 6) (v := ?_) (y := Or.inl ⟨by rfl, ?_⟩) (h := ?_); rotate_left; (focus (((intro w hSw; (try dsimp only at hSw); go_simp) <;> (try with_reducible rfl)); done)); (try simp only [Act.put, p1_, p2_, p3_]))); ((refine tk_ (i := 7) (v := ?_) (y := Or.inl ⟨by rfl, ?_⟩) (h := ?_); rotate_left; (focus (((intro w hSw; (try dsimp only at hSw); go_simp) <;> (try with_reducible rfl)); done)); (try simp only [Act.put, p1_, p2_, p3_]))); ((refine tk_ (i := 8) (v := ?_) (y := Or.inl ⟨by rfl, ?_⟩) (h := ?_); rotate_left; (focus (((intro w hSw; (try dsimp only at hSw); go_simp) <;> (try with_reducible rfl)); done)); (try simp only [Act.put, p1_, p2_, p3_]))); ((refine tk_ (i := 9) (v := ?_) (y := Or.inl ⟨by rfl, ?_⟩) (h := ?_); rotate_left; (focus (((intro w hSw; (try dsimp only at hSw); go_simp) <;> (try with_reducible rfl)); done)); (try simp only [Act.put, p1_, p2_, p3_]))); ((refine tk_ (i := 10) (v := ?_) (y := Or.inl ⟨by rfl, ?_⟩) (h := ?_); rotate_left; (focus (((intro w hSw; (try dsimp only at hSw); go_simp) <;> (try with_reducible rfl)); done)); (try simp only [Act.put, p1_, p2_, p3_]))); ((refine wpAnyH_ready (rs := [11]) (by kernel_rfl) (by simp) ?_; refine AllReadyH.cons (by simp only [e1_, e2_, e3_]; try rfl) (fun K hK => ?_) AllReadyH.nil; go_simp; (go_at_call 142; refine (impl_IsRowOp_add R i j t _ hi hj HIJ.out HT.out hR).mono ?_; rintro e w1 ⟨rfl, hb1⟩; (have hW_1 : WB w1 B b R C f g h false A n cap A2 n2 cap2 A3 n3 cap3 := by (with_reducible (repeat (first | exact hW | refine WB.b_ ?_ | refine WB.drew ?_ | refine WB.drewN ?_ _ | refine WB.alloc ?_ _)))); (have hX_1 : Blk w1 w.heap.size 66 #[.int .i64 2, .int .i64 i, .int .i64 j, .int .i64 t] := by (with_reducible (repeat (first | exact hX | refine Blk.below ?_ (by assumption) Ks | apply Blk.drew | apply Blk.drewN | apply Blk.alloc | apply Blk.set_ | apply Blk.far; rotate_left; (simp only [ne_eq]; omega); rotate_right)))); (have hbw_1 : Below B w w1 := by refine Below.trans ?_ (Below.mono hb1 (B' := B) ?_); (first | exact hbw | exact Below.drew hbw); (try simp); omega); (have hsz := hb1.size); (try simp at hsz); clear hb1; clear hW hX hbw; clear c0 c1 c2 c3 c4 c5 c6 c7 c8 c9 cf cl; clear x0 x1 x2 x3; have hW := hW_1; have hX := hX_1; have hbw := hbw_1; clear hW_1 hX_1 hbw_1; obtain ⟨c0, c1, c2, c3, c4, c5, c6, c7, c8, c9, cf, cl⟩ := hW.cells; have x0 := hX.cell 0; have x1 := hX.cell 1; have x2 := hX.cell 2; have x3 := hX.cell 3; simp at x0 x1 x2 x3); (try go_wp2_with fail); refine hK.out _ _ ?_ (fun hHeld => ?_); (focus ((try dsimp only); (go_keep))); clear hK K; (try simp only [Act.put, p1_, p2_, p3_]))); ((refine tk_ (i := 12) (v := ?_) (y := Or.inl ⟨by rfl, ?_⟩) (h := ?_); rotate_left; (focus (((intro w hSw; (try dsimp only at hSw); go_simp) <;> (try with_reducible rfl)); done)); (try simp only [Act.put, p1_, p2_, p3_]))); ((refine tk_ (i := 13) (v := ?_) (y := Or.inl ⟨by rfl, ?_⟩) (h := ?_); rotate_left; (focus (((intro w hSw; (try dsimp only at hSw); go_simp) <;> (try with_reducible rfl)); done)); (try simp only [Act.put, p1_, p2_, p3_]))); ((refine tk_ (i := 14) (v := ?_) (y := Or.inl ⟨by rfl, ?_⟩) (h := ?_); rotate_left; (focus (((intro w hSw; (try dsimp only at hSw); go_simp) <;> (try with_reducible rfl)); done)); (try simp only [Act.put, p1_, p2_, p3_]))); ((refine tk_ (i := 15) (v := ?_) (y := Or.inl ⟨by rfl, ?_⟩) (h := ?_); rotate_left; (focus (((intro w hSw; (try dsimp only at hSw); go_simp) <;> (try with_reducible rfl)); done)); (try simp only [Act.put, p1_, p2_, p3_]))); ((refine tk_ (i := 16) (v := ?_) (y := Or.inl ⟨by rfl, ?_⟩) (h := ?_); rotate_left; (focus (((intro w hSw; (try dsimp only at hSw); go_simp) <;> (try with_reducible rfl)); done)); (try simp only [Act.put, p1_, p2_, p3_]))); ((refine tk_ (i := 17) (v := ?_) (y := Or.inl ⟨by rfl, ?_⟩) (h := ?_); rotate_left; (focus (((intro w hSw; (try dsimp only at hSw); go_simp) <;> (try with_reducible rfl)); done)); (try simp only [Act.put, p1_, p2_, p3_]))); ((refine tk_ (i := 18) (v := ?_) (y := Or.inl ⟨by rfl, ?_⟩) (h := ?_); rotate_left; (focus (((intro w hSw; (try dsimp only at hSw); go_simp) <;> (try with_reducible rfl)); done)); (try simp only [Act.put, p1_, p2_, p3_]))); ((refine tk_ (i := 19) (v := ?_) (y := Or.inl ⟨by rfl, ?_⟩) (h := ?_); rotate_left; (focus (((intro w hSw; (try dsimp only at hSw); go_simp) <;> (try with_reducible rfl)); done)); (try simp only [Act.put, p1_, p2_, p3_]))); ((refine wpAnyH_ready (rs := [20]) (by kernel_rfl) (by simp) ?_; refine AllReadyH.cons (by simp only [e1_, e2_, e3_]; try rfl) (fun K hK => ?_) AllReadyH.nil; go_simp; (go_at_call 165; refine (impl_rowOp_add_no R C i j t A n cap f _ (B := B) (by have hm := hW.m; (with_reducible (repeat (first | exact hm | refine OR.drew ?_ | refine OR.drewN ?_ _ | refine OR.alloc ?_ _ | refine OR.b_ ?_ | refine OR.l_ ?_)))) hi hj HIJ.out HT.out HF.out hC0 hC hR hr1.out).mono ?_; rintro e w2 ⟨f', rfl, hown2, hgr2, hs2⟩; (have hW_1 := hW.wroteM hown2 hgr2; have hX_1 := hX.grown hgr2 (fun e => HMO.out e.symm); have hbw_1 := hbw.trans (hW.belowM hgr2); clear hown2 hgr2; clear hW hX hbw; clear c0 c1 c2 c3 c4 c5 c6 c7 c8 c9 cf cl; clear x0 x1 x2 x3; have hW := hW_1; have hX := hX_1; have hbw := hbw_1; clear hW_1 hX_1 hbw_1; obtain ⟨c0, c1, c2, c3, c4, c5, c6, c7, c8, c9, cf, cl⟩ := hW.cells; have x0 := hX.cell 0; have x1 := hX.cell 1; have x2 := hX.cell 2; have x3 := hX.cell 3; simp at x0 x1 x2 x3)); (try go_wp2_with fail); refine hK.out _ _ ?_ (fun hHeld => ?_); (focus ((try dsimp only); (go_keep))); clear hK K; (try simp only [Act.put, p1_, p2_, p3_]))); ((refine tk_ (i := 21) (v := ?_) (y := Or.inl ⟨by rfl, ?_⟩) (h := ?_); rotate_left; (focus (((intro w hSw; (try dsimp only at hSw); go_simp) <;> (try with_reducible rfl)); done)); (try simp only [Act.put, p1_, p2_, p3_]))); ((refine tk_ (i := 22) (v := ?_) (y := Or.inl ⟨by rfl, ?_⟩) (h := ?_); rotate_left; (focus (((intro w hSw; (try dsimp only at hSw); go_simp) <;> (try with_reducible rfl)); done)); (try simp only [Act.put, p1_, p2_, p3_]))); ((refine tk_ (i := 23) (v := ?_) (y := Or.inl ⟨by rfl, ?_⟩) (h := ?_); rotate_left; (focus (((intro w hSw; (try dsimp only at hSw); go_simp) <;> (try with_reducible rfl)); done)); (try simp only [Act.put, p1_, p2_, p3_]))); ((refine wpAnyH_take (i := 24) (by simp only [e1_, e2_, e3_]; try rfl) (by kernel_rfl) (by kernel_rfl) (by kernel_rfl) (by exact fun _ _ _ h => h) (Or.inr ⟨by rfl, rfl⟩) (by assumption) ?_; (try simp only [Act.put, p1_, p2_, p3_]))); ((refine wpAnyH_take (i := 25) (by simp only [e1_, e2_, e3_]; try rfl) (by kernel_rfl) (by kernel_rfl) (by kernel_rfl) (by exact fun _ _ _ h => h) (Or.inr ⟨by rfl, rfl⟩) (by assumption) ?_; (try simp only [Act.put, p1_, p2_, p3_]))); ((refine wpAnyH_take (i := 26) (by simp only [e1_, e2_, e3_]; try rfl) (by kernel_rfl) (by kernel_rfl) (by kernel_rfl) (by exact fun _ _ _ h => h) (Or.inr ⟨by rfl, rfl⟩) (by assumption) ?_; (try simp only [Act.put, p1_, p2_, p3_]))); ((refine wpAnyH_take (i := 27) (by simp only [e1_, e2_, e3_]; try rfl) (by kernel_rfl) (by kernel_rfl) (by kernel_rfl) (by exact fun _ _ _ h => h) (Or.inr ⟨by rfl, rfl⟩) (by assumption) ?_; (try simp only [Act.put, p1_, p2_, p3_]))); ((refine wpAnyH_take (i := 28) (by simp only [e1_, e2_, e3_]; try rfl) (by kernel_rfl) (by kernel_rfl) (by kernel_rfl) (by exact fun _ _ _ h => h) (Or.inr ⟨by rfl, rfl⟩) (by assumption) ?_; (try simp only [Act.put, p1_, p2_, p3_]))); ((refine wpAnyH_ready (rs := [29]) (by kernel_rfl) (by simp) ?_; refine AllReadyH.cons (by simp only [e1_, e2_, e3_]; try rfl) (fun K hK => ?_) AllReadyH.nil; go_simp; with_reducible refine hK.out _ _ ?_ (fun hHeld => ?_); (focus ((try dsimp only); (go_keep))); clear hK K; (try simp only [Act.put, p1_, p2_, p3_]))); ((refine wpAnyH_take (i := 30) (by simp only [e1_, e2_, e3_]; try rfl) (by kernel_rfl) (by kernel_rfl) (by kernel_rfl) (by exact fun _ _ _ h => h) (Or.inr ⟨by rfl, rfl⟩) (by assumption) ?_; (try simp only [Act.put, p1_, p2_, p3_]))); ((refine tk_ (i := 31) (v := ?_) (y := Or.inl ⟨by rfl, ?_⟩) (h := ?_); rotate_left; (focus (((intro w hSw; (try dsimp only at hSw); go_simp) <;> (try with_reducible rfl)); done)); (try simp only [Act.put, p1_, p2_, p3_]))); (refine wpAnyH_done (by kernel_rfl) ?_ _))
    go_wp2_with fail
    go_end0
    exact ⟨rfl, hbw.trans (below_set_at hW.hb), .inr ⟨fun k => hr1.out ((rowOk_iff HF.out hi hj HT.out).2 k.1), _, _, hW.setBad.wk⟩⟩
end Go.Proofs.Ytacjonkehcamgaa

/-
  DERIVED. A part of a row anew; a matrix of zeros. No program in sight.
-/
namespace Go.Proofs.Ytacjonkehcamgaa
set_option linter.unusedVariables false
theorem splL_get {xs ys : List Int} {off q : Nat} (h : off + ys.length ≤ xs.length) : (splL xs off ys).getD q 0 = if off ≤ q ∧ q < off + ys.length then ys.getD (q - off) 0 else xs.getD q 0 := by
  by_cases h1 : off ≤ q ∧ q < off + ys.length
  · rw [if_pos h1]
    have := splL_getD (xs := xs) (ys := ys) (off := off) (k := q - off) h (by omega)
    rw [show off + (q - off) = q by omega] at this
    exact this
  · rw [if_neg h1]
    have htl : (xs.take off).length = off := by rw [List.length_take]; omega
    unfold splL
    simp only [List.getD]
    congr 1
    by_cases h2 : q < off
    · rw [List.append_assoc, List.getElem?_append_left (by omega), List.getElem?_take_of_lt h2]
    · rw [List.getElem?_append_right (by rw [List.length_append, htl]; omega), List.getElem?_drop, List.length_append, htl]
      congr 1
      omega
/-- Row i anew from place o on. -/
def setW (f : Nat → Nat → Int) (i o : Nat) (ys : List Int) : Nat → Nat → Int := fun a c => if a = i ∧ o ≤ c ∧ c < o + ys.length then ys.getD (c - o) 0 else f a c
theorem spl_tbo {R C i o : Nat} {f : Nat → Nat → Int} {ys : List Int} (hi : i < R) (hy : o + ys.length ≤ C) : splL (tb R C f) (i * C + o) ys = tb R C (setW f i o ys) := by
  have hl : i * C + C ≤ R * C := by
    have h3 := Nat.mul_le_mul_right C (show i + 1 ≤ R by omega); rw [Nat.add_mul, Nat.one_mul] at h3; exact h3
  have hf : i * C + o + ys.length ≤ (tb R C f).length := by rw [tb_len]; omega
  have hlen : (splL (tb R C f) (i * C + o) ys).length = R * C := by rw [splL_len hf, tb_len]
  rw [tb_of hlen]
  apply tb_ext
  intro a c ha hc
  rw [cel_nat, splL_get hf]
  unfold setW
  rcases Nat.lt_trichotomy a i with h | h | h
  · have h3 := Nat.mul_le_mul_right C (show a + 1 ≤ i by omega)
    rw [Nat.add_mul, Nat.one_mul] at h3
    rw [if_neg (by omega), if_neg (by omega), tb_at ha hc]
  · subst h
    by_cases h4 : o ≤ c ∧ c < o + ys.length
    · rw [if_pos (by omega), if_pos ⟨rfl, h4⟩]
      congr 1
      omega
    · rw [if_neg (by omega), if_neg (by omega), tb_at ha hc]
  · have h3 := Nat.mul_le_mul_right C (show i + 1 ≤ a by omega)
    rw [Nat.add_mul, Nat.one_mul] at h3
    rw [if_neg (by omega), if_neg (by omega), tb_at ha hc]
theorem tb_zeros (R C : Nat) : tb R C (fun _ _ => 0) = List.replicate (R * C) 0 := by
  unfold tb tab
  apply List.ext_getElem?
  intro i
  by_cases h : i < R * C <;> simp [h]
end Go.Proofs.Ytacjonkehcamgaa

/-
  DERIVED. What is left behind the two sweeps of a round, and whether another one follows: no program in sight.
-/
namespace Go.Proofs.Ytacjonkehcamgaa
set_option linter.unusedVariables false
/-- What is left behind the two sweeps. -/
theorem clnS_of {R C t : Nat} {f : Fn2} (h1 : ∀ x, t < x → x < R → f x t = 0) (h2 : ∀ y, t < y → y < C → f t y = 0) : clnS R C t f = true := by
  unfold clnS
  have a1 : oth R f t t t = false := by
    refine Bool.eq_false_iff.2 fun h => ?_
    obtain ⟨i, a, b, c, d⟩ := oth_iff.1 h
    exact d (h1 i (by omega) b)
  have a2 : oth C (tp f) t t t = false := by
    refine Bool.eq_false_iff.2 fun h => ?_
    obtain ⟨i, a, b, c, d⟩ := oth_iff.1 h
    exact d (h2 i (by omega) b)
  rw [a1, a2]; rfl
theorem clnS_not {R C t : Nat} {f : Fn2} (h : (∃ x, t < x ∧ x < R ∧ f x t ≠ 0) ∨ ∃ y, t < y ∧ y < C ∧ f t y ≠ 0) : clnS R C t f = false := by
  refine Bool.eq_false_iff.2 fun hc => ?_
  obtain ⟨z1, z2⟩ := clnS_yes hc
  rcases h with ⟨x, a, b, c⟩ | ⟨y, a, b, c⟩
  · exact c (z1 x a b)
  · exact c (z2 y a b)
theorem fdS_all {f : Fn2} {t C : Nat} : ∀ m i, (∀ k, i ≤ k → k < i + m → fdR f t C k = false) → fdS f t C i m = none
  | 0, i, _ => rfl
  | m + 1, i, h => by rw [fdS_no (h i (Nat.le_refl _) (by omega))]; exact fdS_all m (i + 1) fun k h1 h2 => h k (by omega) (by omega)
theorem fdS_first {f : Fn2} {t C k : Nat} : ∀ m i, i ≤ k → k < i + m → (∀ x, i ≤ x → x < k → fdR f t C x = false) → fdR f t C k = true → fdS f t C i m = some k
  | 0, i, h1, h2, _, _ => by omega
  | m + 1, i, h1, h2, h3, h4 => by
    by_cases e : i = k
    · subst e; exact fdS_yes h4
    · rw [fdS_no (h3 i (Nat.le_refl _) (by omega))]
      exact fdS_first m (i + 1) (by omega) (by omega) (fun x a b => h3 x (by omega) b) h4
theorem fd_none {f : Fn2} {R C t : Nat} (h : ∀ k, t < k → k < R → fdR f t C k = false) : fd R C t f = none := fdS_all _ _ fun k h1 h2 => h k (by omega) (by omega)
theorem fd_first {f : Fn2} {R C t k : Nat} (h1 : t < k) (h2 : k < R) (h3 : ∀ x, t < x → x < k → fdR f t C x = false) (h4 : fdR f t C k = true) : fd R C t f = some k :=
  fdS_first _ _ (by omega) (by omega) (fun x a b => h3 x (by omega) b) h4
theorem sfD_left {R C t : Nat} {s : SS} (h : clnS R C t s.f = false) : sfD R C t s = (s, false) := by unfold sfD; rw [h]; rfl
theorem sfD_done {R C t : Nat} {s : SS} (h : clnS R C t s.f = true) (h2 : fd R C t s.f = none) : sfD R C t s = (s, true) := by unfold sfD; rw [h, if_pos rfl, h2]
theorem sfD_next {R C t i : Nat} {s : SS} (h : clnS R C t s.f = true) (h2 : fd R C t s.f = some i) : sfD R C t s = (s.wr (s.row.add t i 1), false) := by unfold sfD; rw [h, if_pos rfl, h2]
theorem rnd_of {R C t p q : Nat} {s : SS} (e : ls2 R C s.f t = ((p : Int), (q : Int))) : rnd R C t s = sfD R C t (sfC C t (sfB R t (sfA2 t q (sfA1 t p s)))) := by
  unfold rnd sfA
  rw [e]
  rfl
end Go.Proofs.Ytacjonkehcamgaa

/-
  DERIVED. The Hermite form: what HermiteForm of both answers, and its result's form: two matrices and a flag.
-/
namespace Go.Proofs.Ytacjonkehcamgaa
open Go.RowKit
set_option linter.unusedVariables false
def hmX (r c : Int) (xs : List Int) : Option (HS × Nat) := if isMat r c xs then hmRun r.toNat c.toNat (fun i j => cel xs c i j) else none
def hmMO (r c : Int) : Option (HS × Nat) → Mx
  | some x => ⟨r, c, tb r.toNat c.toNat x.1.f⟩
  | none => .none
def hmUO (r : Int) : Option (HS × Nat) → Mx
  | some x => ⟨r, r, tb r.toNat r.toNat x.1.g⟩
  | none => .none
def hmM (r c : Int) (xs : List Int) : Mx := hmMO r c (hmX r c xs)
def hmU (r c : Int) (xs : List Int) : Mx := hmUO r (hmX r c xs)
theorem hmX_no {r c : Int} {xs : List Int} (h : isMat r c xs = false) : hmX r c xs = none := by unfold hmX; rw [h]; rfl
theorem hmX_yes {R C : Nat} {xs : List Int} (h : isMat R C xs = true) : hmX R C xs = hmOut R C C 0 0 ⟨fun i j => cel xs C i j, idF⟩ := by unfold hmX; rw [h]; rfl
/-- The call returned two matrices, their cells their own, and the flag. -/
def M2R (m m' : Mx) (b : Bool) (w : World) (e : Ending) (w' : World) : Prop :=
  ∃ A n cap A2 n2 cap2, e = .returned (.tuple #[.agg #[.int .i64 m.r, .int .i64 m.c, .slice A n cap], .agg #[.int .i64 m'.r, .int .i64 m'.c, .slice A2 n2 cap2], .bool b]) ∧ OR w' w.heap.size (.slice A n cap) m.xs ∧ OR w' w.heap.size (.slice A2 n2 cap2) m'.xs ∧ Apart (.slice A n cap) (.slice A2 n2 cap2) ∧ Below w.heap.size w w'
theorem M2R.none_ {r c : Int} {X : Option (HS × Nat)} {w w' : World} (hX : X = none) (hb : Below w.heap.size w w') :
    M2R (hmMO r c X) (hmUO r X) X.isSome w (.returned (.tuple #[.agg #[.int .i64 0, .int .i64 0, .slice none 0 0], .agg #[.int .i64 0, .int .i64 0, .slice none 0 0], .bool false])) w' := by
  subst hX
  refine ⟨none, 0, 0, none, 0, 0, rfl, OR.nil_ _ _, OR.nil_ _ _, ?_, hb⟩
  intro g h1
  simp [Value.ownBlock] at h1
theorem M2R.some_ {R C t : Nat} {s : HS} {X : Option (HS × Nat)} {w w' : World} {A A2 : Option Addr} {n cap n2 cap2 : Nat} (hX : X = some (s, t)) (h1 : OR w' w.heap.size (.slice A n cap) (tb R C s.f)) (h2 : OR w' w.heap.size (.slice A2 n2 cap2) (tb R R s.g)) (ha : Apart (.slice A n cap) (.slice A2 n2 cap2)) (hb : Below w.heap.size w w') :
    M2R (hmMO R C X) (hmUO R X) X.isSome w (.returned (.tuple #[.agg #[.int .i64 R, .int .i64 C, .slice A n cap], .agg #[.int .i64 R, .int .i64 R, .slice A2 n2 cap2], .bool true])) w' := by
  subst hX
  exact ⟨A, n, cap, A2, n2, cap2, rfl, h1, h2, ha, hb⟩
theorem ret_M2 {fn : Func} {R : Ending → World → Prop} {a : Act} {w : World} {t t' s : Tmp} {b n cap b' n' cap' : Nat} {r c r' c' : Int} {A A' : Option Addr} (hr : fn.results = #[.cell t 26, .cell t' 26, .tmp s])
    (ht : a.tmps.getD t undef = .pointer (some ⟨b, 0, none⟩)) (ht' : a.tmps.getD t' undef = .pointer (some ⟨b', 0, none⟩)) (h : BM w b r c A n cap) (h' : BM w b' r' c' A' n' cap') (hd : a.defers = [])
    (hR : R (.returned (.tuple #[.agg #[.int .i64 r, .int .i64 c, .slice A n cap], .agg #[.int .i64 r', .int .i64 c', .slice A' n' cap'], a.tmps.getD s undef])) w) : bodyPost Try.prog fn R .ret a w :=
  bodyPost_ret (v := .tuple #[.agg #[.int .i64 r, .int .i64 c, .slice A n cap], .agg #[.int .i64 r', .int .i64 c', .slice A' n' cap'], a.tmps.getD s undef]) (by
    obtain ⟨r0, r1, r2, rf, rl⟩ := h.mx
    obtain ⟨s0, s1, s2, sf, sl⟩ := h'.mx
    simp only [Array.getD_eq_getD_getElem?] at ht ht'
    simp [results, hr, ht, ht', go_sem, r0, r1, r2, s0, s1, s2]) hd hR
end Go.Proofs.Ytacjonkehcamgaa

/-
  DERIVED. Sums of rows; two matrices whose rows span the same. No program in sight.
-/
namespace Go.Proofs.Ytacjonkehcamgaa
set_option linter.unusedVariables false
/-- v is a sum of rows. -/
def Sp (R C : Nat) (f : Fn2) (v : Nat → Int) : Prop := ∃ c : Nat → Int, ∀ y, y < C → v y = sumTo (fun k => c k * f k y) R
theorem Sp.row {R C : Nat} {f : Fn2} {i : Nat} (hi : i < R) : Sp R C f (f i) := ⟨idF i, fun y hy => by
  rw [sumTo_one (i := i) R hi (fun k hk hne => by unfold idF; rw [if_neg (fun e => hne e.symm), Int.zero_mul])]
  unfold idF; rw [if_pos rfl, Int.one_mul]⟩
theorem Sp.add {R C : Nat} {f : Fn2} {u v z : Nat → Int} {t : Int} (h : Sp R C f u) (h2 : Sp R C f v) (e : ∀ y, y < C → z y = u y + v y * t) : Sp R C f z := by
  obtain ⟨c, hc⟩ := h
  obtain ⟨d, hd⟩ := h2
  refine ⟨fun k => c k + d k * t, fun y hy => ?_⟩
  rw [e y hy, hc y hy, hd y hy, ← sumTo_mul, ← sumTo_add]
  exact sumTo_congr R fun k _ => by grind
theorem Sp.neg {R C : Nat} {f : Fn2} {u z : Nat → Int} (h : Sp R C f u) (e : ∀ y, y < C → z y = -u y) : Sp R C f z := by
  obtain ⟨c, hc⟩ := h
  refine ⟨fun k => -c k, fun y hy => ?_⟩
  rw [e y hy, hc y hy, ← sumTo_neg]
  exact sumTo_congr R fun k _ => by grind
theorem Sp.as {R C : Nat} {f : Fn2} {u z : Nat → Int} (h : Sp R C f u) (e : ∀ y, y < C → z y = u y) : Sp R C f z := by
  obtain ⟨c, hc⟩ := h
  exact ⟨c, fun y hy => by rw [e y hy, hc y hy]⟩
theorem Sp.trans {R R' C : Nat} {f g : Fn2} {v : Nat → Int} (h : Sp R C f v) (k : ∀ i, i < R → Sp R' C g (f i)) : Sp R' C g v := by
  obtain ⟨c, hc⟩ := h
  have hd : ∀ i, ∃ d : Nat → Int, i < R → ∀ y, y < C → f i y = sumTo (fun l => d l * g l y) R' := fun i => by
    by_cases hi : i < R
    · obtain ⟨d, hd⟩ := k i hi
      exact ⟨d, fun _ => hd⟩
    · exact ⟨fun _ => 0, fun h => absurd h hi⟩
  let d : Fn2 := fun i => Classical.choose (hd i)
  have hdd : ∀ i, i < R → ∀ y, y < C → f i y = sumTo (fun l => d i l * g l y) R' := fun i => Classical.choose_spec (hd i)
  refine ⟨fun l => sumTo (fun i => c i * d i l) R, fun y hy => ?_⟩
  rw [hc y hy]
  have e1 : sumTo (fun k => c k * f k y) R = sumTo (fun k => sumTo (fun l => c k * (d k l * g l y)) R') R := sumTo_congr R fun k hk => by
    rw [hdd k hk y hy, sumTo_mul']
  rw [e1, sumTo_swap]
  refine sumTo_congr R' fun l hl => ?_
  rw [← sumTo_mul]
  exact sumTo_congr R fun k hk => by grind
theorem Sp.mm {R n C : Nat} {a f : Fn2} {i : Nat} (hi : i < n) : Sp R C f (mm R a f i) := ⟨a i, fun y _ => rfl⟩
/-- Rows of both span the same. -/
def SPN (R C : Nat) (m f : Fn2) : Prop := (∀ i, i < R → Sp R C m (f i)) ∧ ∀ i, i < R → Sp R C f (m i)
theorem SPN.add {R C i j : Nat} {t : Int} {m f f' : Fn2} (h : SPN R C m f) (hi : i < R) (hj : j < R) (hij : i ≠ j) (h1 : ∀ y, y < C → f' i y = f i y + f j y * t) (h2 : ∀ x y, x < R → y < C → x ≠ i → f' x y = f x y) : SPN R C m f' := by
  have hr : ∀ x, x < R → Sp R C f' (f x) := fun x hx => by
    by_cases e : x = i
    · subst e
      exact Sp.add (t := -t) (Sp.row hi) (Sp.row (i := j) hj) fun y hy => by rw [h1 y hy, h2 j y hj hy (fun e => hij e.symm)]; grind
    · exact (Sp.row hx).as fun y hy => (h2 x y hx hy e).symm
  refine ⟨fun x hx => ?_, fun x hx => (h.2 x hx).trans hr⟩
  by_cases e : x = i
  · subst e
    exact Sp.add (h.1 x hx) (h.1 j hj) h1
  · exact (h.1 x hx).as fun y hy => h2 x y hx hy e
theorem SPN.neg {R C i : Nat} {m f f' : Fn2} (h : SPN R C m f) (hi : i < R) (h1 : ∀ y, y < C → f' i y = -f i y) (h2 : ∀ x y, x < R → y < C → x ≠ i → f' x y = f x y) : SPN R C m f' := by
  have hr : ∀ x, x < R → Sp R C f' (f x) := fun x hx => by
    by_cases e : x = i
    · subst e
      exact Sp.neg (Sp.row hx) fun y hy => by rw [h1 y hy]; omega
    · exact (Sp.row hx).as fun y hy => (h2 x y hx hy e).symm
  refine ⟨fun x hx => ?_, fun x hx => (h.2 x hx).trans hr⟩
  by_cases e : x = i
  · subst e
    exact Sp.neg (h.1 x hx) h1
  · exact (h.1 x hx).as fun y hy => h2 x y hx hy e
theorem SPN.swap {R C i j : Nat} {m f : Fn2} (h : SPN R C m f) (hi : i < R) (hj : j < R) : SPN R C m (swF f i j) := by
  have e1 : ∀ x, ∃ z, (x < R → z < R) ∧ swF f i j x = f z := fun x => ⟨if x = i then j else if x = j then i else x, fun hx => (by (split; exact hj; split; exact hi; exact hx)), rfl⟩
  have e2 : ∀ x, ∃ z, (x < R → z < R) ∧ f x = swF f i j z := fun x => by
    refine ⟨if x = i then j else if x = j then i else x, fun hx => (by (split; exact hj; split; exact hi; exact hx)), ?_⟩
    funext y
    unfold swF
    congr 1
    by_cases a : x = i
    · subst a
      rw [if_pos rfl]
      by_cases b : j = x
      · rw [if_pos b, b]
      · rw [if_neg b, if_pos rfl]
    · rw [if_neg a]
      by_cases b : x = j
      · subst b
        rw [if_pos rfl, if_pos rfl]
      · rw [if_neg b, if_neg a, if_neg b]
  refine ⟨fun x hx => ?_, fun x hx => (h.2 x hx).trans fun k hk => ?_⟩
  · obtain ⟨z, hz, e⟩ := e1 x
    rw [e]; exact h.1 z (hz hx)
  · obtain ⟨z, hz, e⟩ := e2 k
    rw [e]; exact Sp.row (hz hk)
theorem SPN.refl (R C : Nat) (m : Fn2) : SPN R C m m := ⟨fun i hi => Sp.row hi, fun i hi => Sp.row hi⟩
theorem SPN.symm {R C : Nat} {m f : Fn2} (h : SPN R C m f) : SPN R C f m := ⟨h.2, h.1⟩
theorem SPN.trans {R C : Nat} {m f g : Fn2} (h : SPN R C m f) (k : SPN R C f g) : SPN R C m g := ⟨fun i hi => (k.1 i hi).trans h.1, fun i hi => (h.2 i hi).trans k.2⟩
/-- A unimodular matrix times another one: the same rows are spanned. -/
theorem SPN.left {n C : Nat} {u m : Fn2} (h : SPN n n idF u) : SPN n C m (mm n u m) := by
  refine ⟨fun i hi => Sp.mm hi, fun i hi => ?_⟩
  obtain ⟨c, hc⟩ := h.2 i hi
  refine ⟨c, fun y hy => ?_⟩
  have e1 : m i y = sumTo (fun l => idF i l * m l y) n := by
    rw [sumTo_one (i := i) n hi (fun k hk hne => by unfold idF; rw [if_neg (fun e => hne e.symm), Int.zero_mul])]
    unfold idF; rw [if_pos rfl, Int.one_mul]
  rw [e1]
  have e2 : sumTo (fun l => idF i l * m l y) n = sumTo (fun l => sumTo (fun k => c k * (u k l * m l y)) n) n := sumTo_congr n fun l hl => by
    rw [hc l hl, ← sumTo_mul]
    exact sumTo_congr n fun k _ => by grind
  rw [e2, sumTo_swap]
  exact sumTo_congr n fun k hk => by rw [sumTo_mul']; rfl
end Go.Proofs.Ytacjonkehcamgaa

/-
  DERIVED. IdentityMatrix of both.
-/
namespace Go.Proofs.Ytacjonkehcamgaa
open Go.RowKit
set_option linter.unusedVariables false
set_option linter.unusedSimpArgs false
def idK (k : Nat) : Fn2 := fun i j => if i = j ∧ i < k then 1 else 0
theorem idK_zero : idK 0 = fun _ _ => 0 := by funext i j; simp [idK]
theorem idK_step (k : Nat) : upd (idK k) k k 1 = idK (k + 1) := by
  funext i j
  unfold upd idK
  by_cases h : i = k ∧ j = k
  · rw [if_pos h, if_pos ⟨by omega, by omega⟩]
  · rw [if_neg h]
    by_cases h2 : i = j ∧ i < k
    · rw [if_pos h2, if_pos ⟨h2.1, by omega⟩]
    · rw [if_neg h2, if_neg]
      rintro ⟨h3, h4⟩
      exact h2 ⟨h3, by have : i ≠ k := fun e => h ⟨e, by omega⟩; omega⟩
theorem idK_end (n : Nat) : tb n n (idK n) = tb n n idF := tb_ext fun i j hi hj => by
  unfold idK idF
  by_cases h : i = j
  · rw [if_pos ⟨h, hi⟩, if_pos h]
  · rw [if_neg (fun k => h k.1), if_neg h]
set_option maxHeartbeats 4000000 in
theorem impl_IdentityMatrix (n : Nat) (w : World) (hn : n ≤ 24) :
    Calls Try.prog 141 #[.int .i64 n] w (MBR ⟨n, n, tb n n idF⟩ true w) := by
  have hnn : n * n ≤ 24 * 24 := Nat.mul_le_mul hn hn
  go_enter Try.func141, Try.ntmps141
  go_wp2_with fail
  refine (impl_newMatrix n n _ (by omega) (by omega) (by omega)).mono ?_
  rintro e w1 ⟨A, m, cap, rfl, how0, hb1⟩
  have hsz1 := hb1.size
  simp at hsz1
  have hR1 : BM w1 w.heap.size 0 0 none 0 0 := Ka
  have hbw1 : Below w.heap.size w w1 := Kw
  generalize hbO : w1.heap.size = bO at *
  have hR : BM (w1.alloc (.cells #[.int .i64 n, .int .i64 n, .slice A m cap] 26)) w.heap.size 0 0 none 0 0 := Kb hR1
  have hO : BM (w1.alloc (.cells #[.int .i64 n, .int .i64 n, .slice A m cap] 26)) bO n n A m cap := Ka
  have hown : OR (w1.alloc (.cells #[.int .i64 n, .int .i64 n, .slice A m cap] 26)) (w.heap.size + 1) (.slice A m cap) (tb n n (idK 0)) := by
    rw [idK_zero, tb_zeros]; exact OR.alloc (OR.mono (xs := List.replicate (n * n) 0) how0 (by simp)) _
  have hbw : Below w.heap.size w (w1.alloc (.cells #[.int .i64 n, .int .i64 n, .slice A m cap] 26)) := Kw
  have HU : Hid (Own (.slice A m cap) (w.heap.size + 1) bO) := Lib.hid (by rw [← hbO]; exact (OR.own (xs := List.replicate (n * n) 0) how0).wide (by simp) (Nat.le_refl _))
  have hbO2 : w.heap.size + 1 ≤ bO := by omega
  clear hR1 hbw1 how0 hb1
  obtain ⟨oa, ob, oc, of, ol⟩ := hO.mx; obtain ⟨ra, rb, rc, rf, rl⟩ := hR.mx
  go_wp2_with fail
  generalize w1.alloc (.cells #[.int .i64 n, .int .i64 n, .slice A m cap] 26) = wo at *
  go_loopw [5] (fun v wr => ∃ k : Nat, v = .int .i64 k ∧ k ≤ n ∧ BM wr w.heap.size 0 0 none 0 0 ∧ BM wr bO n n A m cap ∧ OR wr (w.heap.size + 1) (.slice A m cap) (tb n n (idK k)) ∧ Below w.heap.size w wr) (fun v _ => n - (intOf v).toNat)
  case atStart => exact ⟨0, rfl, Nat.zero_le _, hR, hO, hown, hbw⟩
  case round =>
    clear hR hO hown hbw oa ob oc of ol ra rb rc rf rl
    obtain ⟨k, rfl, hk, hR, hO, hown, hbw⟩ := hrel
    obtain ⟨oa, ob, oc, of, ol⟩ := hO.mx; obtain ⟨ra, rb, rc, rf, rl⟩ := hR.mx
    have hszw := hbw.size
    by_cases hkn : k < n
    · have HST := Lib.hid (idK_step k)
      go_wp2_with fail
      refine (impl_set_tb n n k k 1 A m cap (idK k) (idK (k + 1)) HST.out _ (B := w.heap.size + 1) (Ko hown) (by omega) (by omega) hkn hkn).mono ?_
      rintro e w2 ⟨rfl, hown2, hgr, hsz2⟩
      have hR2 : BM w2 w.heap.size 0 0 none 0 0 := BX.keptOwn (Kb hR) hgr HU.out (by omega)
      have hO2 : BM w2 bO n n A m cap := BX.keptOwn (Kb hO) hgr HU.out (by omega)
      have hbw2 : Below w.heap.size w w2 := Below.trans Kw (below_keptOwn hgr HU.out (by omega) Ks)
      go_wp2_with fail
      go_roundw
      case rel => exact ⟨k + 1, by go_num, by omega, Kb hR2, Kb hO2, Ko hown2, Kw⟩
      case measure => simp only [intOf]; omega
    · obtain rfl : k = n := by omega
      have hown2 := hown.as (idK_end k)
      clear hown
      go_wp2_with fail
      refine ret_MB (r := k) (c := k) (A := A) (n := m) (cap := cap) Try.results141 rfl (Kb hR) rfl ?_
      exact MBR.mk rfl (OR.mono (B := w.heap.size + 1) (Ko hown2) (by omega)) Kw
set_option maxHeartbeats 4000000 in
theorem spec_IdentityMatrix (n : Nat) (w : World) (hn : n ≤ 24) :
    Calls Try.prog 136 #[.int .i64 n] w (MBR ⟨n, n, tb n n idF⟩ true w) := by
  have hnn : n * n ≤ 24 * 24 := Nat.mul_le_mul hn hn
  go_enter Try.func136, Try.ntmps136
  go_wp2_with (first | (go_at_call 154; (first | refine (spec_l1In_yes _ _ _ _ (by omega)).mono ?_ | refine (spec_l1In_no _ _ _ _ (by omega)).mono ?_ | refine (spec_l1In _ _ _ _).mono ?_); rintro e w' ⟨rfl, rfl⟩))
  refine (spec_l3New n n _ (by omega) (by omega) (by omega)).mono ?_
  rintro e w1 ⟨A, m, cap, rfl, how0, hb1⟩
  have hsz1 := hb1.size
  simp at hsz1
  have hR1 : BM w1 w.heap.size 0 0 none 0 0 := Ka
  have hbw1 : Below w.heap.size w w1 := Kw
  generalize hbO : w1.heap.size = bO at *
  have hR : BM (w1.alloc (.cells #[.int .i64 n, .int .i64 n, .slice A m cap] 26)) w.heap.size 0 0 none 0 0 := Kb hR1
  have hO : BM (w1.alloc (.cells #[.int .i64 n, .int .i64 n, .slice A m cap] 26)) bO n n A m cap := Ka
  have hown : OR (w1.alloc (.cells #[.int .i64 n, .int .i64 n, .slice A m cap] 26)) (w.heap.size + 1) (.slice A m cap) (tb n n (idK 0)) := by
    rw [idK_zero, tb_zeros]; exact OR.alloc (OR.mono (xs := List.replicate (n * n) 0) how0 (by simp)) _
  have hbw : Below w.heap.size w (w1.alloc (.cells #[.int .i64 n, .int .i64 n, .slice A m cap] 26)) := Kw
  have HU : Hid (Own (.slice A m cap) (w.heap.size + 1) bO) := Lib.hid (by rw [← hbO]; exact (OR.own (xs := List.replicate (n * n) 0) how0).wide (by simp) (Nat.le_refl _))
  have hbO2 : w.heap.size + 1 ≤ bO := by omega
  clear hR1 hbw1 how0 hb1
  obtain ⟨oa, ob, oc, of, ol⟩ := hO.mx; obtain ⟨ra, rb, rc, rf, rl⟩ := hR.mx
  go_wp2_with fail
  generalize w1.alloc (.cells #[.int .i64 n, .int .i64 n, .slice A m cap] 26) = wo at *
  go_loopw [5] (fun v wr => ∃ k : Nat, v = .int .i64 k ∧ k ≤ n ∧ BM wr w.heap.size 0 0 none 0 0 ∧ BM wr bO n n A m cap ∧ OR wr (w.heap.size + 1) (.slice A m cap) (tb n n (idK k)) ∧ Below w.heap.size w wr) (fun v _ => n - (intOf v).toNat)
  case atStart => exact ⟨0, rfl, Nat.zero_le _, hR, hO, hown, hbw⟩
  case round =>
    clear hR hO hown hbw oa ob oc of ol ra rb rc rf rl
    obtain ⟨k, rfl, hk, hR, hO, hown, hbw⟩ := hrel
    obtain ⟨oa, ob, oc, of, ol⟩ := hO.mx; obtain ⟨ra, rb, rc, rf, rl⟩ := hR.mx
    have hszw := hbw.size
    by_cases hkn : k < n
    · have hln := hown.lenEq
      rw [tb_len] at hln
      obtain ⟨g, rfl, hg1, hg2⟩ := hown.begins (by rw [tb_len]; exact Nat.mul_pos (by omega) (by omega))
      have hix := idx_nat hkn hkn
      have c1 := hown.cell (k * n + k) (by rw [tb_len]; exact hix)
      have f1 := hown.frozen (k * n + k)
      have hst := hown.set_ (k * n + k) 1
      rw [tb_set hkn hkn, idK_step] at hst
      have i1 : (k : Int) * (n : Int) = ((k * n : Nat) : Int) := by rw [Int.natCast_mul]
      have i2 : 0 ≤ (k : Int) * (n : Int) ∧ (k : Int) * (n : Int) + (k : Int) < (m : Int) ∧ (k : Int) * (n : Int) ≤ 10000 := by omega
      obtain ⟨i2, i3, i4⟩ := i2
      have hgU := HU.out g rfl
      have hgO : ¬ g = bO := by omega
      have hg0 : ¬ g = w.heap.size := by omega
      generalize hcv : (tb n n (idK k)).getD (k * n + k) 0 = cv at c1
      clear i1 hix hln hcv
      go_wp2_with fail
      go_roundw
      case rel => exact ⟨k + 1, by go_num, by omega, Kb hR, Kb hO, hst, Kw⟩
      case measure => simp only [intOf]; omega
    · obtain rfl : k = n := by omega
      have hown2 := hown.as (idK_end k)
      clear hown
      go_wp2_with fail
      refine ret_MB (r := k) (c := k) (A := A) (n := m) (cap := cap) Try.results136 rfl (Kb hR) rfl ?_
      exact MBR.mk rfl (OR.mono (B := w.heap.size + 1) (Ko hown2) (by omega)) Kw
end Go.Proofs.Ytacjonkehcamgaa

/-
  DERIVED. newWork of the program.
-/
namespace Go.Proofs.Ytacjonkehcamgaa
open Go.RowKit
set_option linter.unusedVariables false
set_option linter.unusedSimpArgs false
def NW (R C : Nat) (f : Fn2) (w : World) (e : Ending) (w' : World) : Prop := ∃ b, e = .returned (.pointer (some ⟨b, 0, none⟩)) ∧ WK w' w.heap.size b R C f idF idF false ∧ Below w.heap.size w w'
set_option maxHeartbeats 4000000 in
theorem impl_newWork (R C : Nat) (A : Option Addr) (n cap : Nat) (f : Fn2) (w : World) {B : Nat} (h : RI w B A n (tb R C f)) (hB : B ≤ w.heap.size) (hR : R ≤ 24) (hC : C ≤ 24) :
    Calls Try.prog 144 #[.agg #[.int .i64 R, .int .i64 C, .slice A n cap]] w (NW R C f w) := by
  have hln := h.len
  rw [tb_len] at hln
  have H2 := Lib.hid (h.more hB)
  clear h
  have hRC : R * C ≤ 24 * 24 := Nat.mul_le_mul hR hC
  have hnn : n ≤ 1048576 := by omega
  clear hln hRC
  go_enter Try.func144, Try.ntmps144
  go_wp2_with fail
  refine (impl_IdentityMatrix R _ hR).mono ?_
  rintro e w1 ⟨A2, n2, cap2, rfl, how2, hb1⟩
  have hsz1 := hb1.size
  simp at hsz1
  have hM1 : BM w1 w.heap.size R C A n cap := Ka
  have hbw1 : Below w.heap.size w w1 := Kw
  generalize hbU : w1.heap.size = bU at *
  have hM2 : BM (w1.alloc (.cells #[.int .i64 R, .int .i64 R, .slice A2 n2 cap2] 26)) w.heap.size R C A n cap := Kb hM1
  have hMU : BM (w1.alloc (.cells #[.int .i64 R, .int .i64 R, .slice A2 n2 cap2] 26)) bU R R A2 n2 cap2 := Ka
  have hsU : (w1.alloc (.cells #[.int .i64 R, .int .i64 R, .slice A2 n2 cap2] 26)).heap.size = bU + 1 := by simp [hbU]
  obtain ⟨aa, ab, ac, af, al⟩ := hM2.mx
  obtain ⟨ua, ub, uc, uf, ul⟩ := hMU.mx
  go_wp2_with fail
  refine (impl_IdentityMatrix C _ hC).mono ?_
  rintro e w2 ⟨A3, n3, cap3, rfl, how3, hb2⟩
  have hsz2 := hb2.size
  simp at hsz2
  have hM3 : BM w2 w.heap.size R C A n cap := Kb hM2
  have hMU3 : BM w2 bU R R A2 n2 cap2 := Kb hMU
  have ho2 : OR w1 (w.heap.size + 1) (.slice A2 n2 cap2) (tb R R idF) := OR.mono (xs := tb R R idF) how2 (by simp)
  have ho24 : OR w2 (w.heap.size + 1) (.slice A2 n2 cap2) (tb R R idF) := (ho2.alloc _).below hb2 (Nat.le_refl _)
  have hbw2 : Below w.heap.size w w2 := Kw
  have hlb : w.heap.size + 1 ≤ bU := hsz1
  have HU2 : Hid (Own (.slice A2 n2 cap2) (w.heap.size + 1) bU) := Lib.hid (by rw [← hbU]; exact (OR.own (xs := tb R R idF) how2).wide (by simp) (Nat.le_refl _))
  generalize hbV : w2.heap.size = bV at *
  have HU3 : Hid (Own (.slice A3 n3 cap3) (bU + 1) bV) := Lib.hid (by rw [← hbV]; exact (OR.own (xs := tb C C idF) how3).wide (by rw [hsU]; exact Nat.le_refl _) (Nat.le_refl _))
  have ho22 : Hid (OR (w2.alloc (.cells #[.int .i64 C, .int .i64 C, .slice A3 n3 cap3] 26)) (w.heap.size + 1) (.slice A2 n2 cap2) (tb R R idF)) := Lib.hid (OR.alloc ho24 _)
  have ho33 : Hid (OR (w2.alloc (.cells #[.int .i64 C, .int .i64 C, .slice A3 n3 cap3] 26)) (w.heap.size + 1) (.slice A3 n3 cap3) (tb C C idF)) := Lib.hid (OR.alloc (OR.mono (xs := tb C C idF) how3 (by rw [hsU]; omega)) _)
  have hM : BM (w2.alloc (.cells #[.int .i64 C, .int .i64 C, .slice A3 n3 cap3] 26)) w.heap.size R C A n cap := Kb hM3
  have hMU4 : BM (w2.alloc (.cells #[.int .i64 C, .int .i64 C, .slice A3 n3 cap3] 26)) bU R R A2 n2 cap2 := Kb hMU3
  have hMV : BM (w2.alloc (.cells #[.int .i64 C, .int .i64 C, .slice A3 n3 cap3] 26)) bV C C A3 n3 cap3 := Ka
  have hbw3 : Below w.heap.size w (w2.alloc (.cells #[.int .i64 C, .int .i64 C, .slice A3 n3 cap3] 26)) := Kw
  have hsV : (w2.alloc (.cells #[.int .i64 C, .int .i64 C, .slice A3 n3 cap3] 26)).heap.size = bV + 1 := by simp [hbV]
  have hlb2 : bU + 1 ≤ bV := by omega
  clear aa ab ac af al ua ub uc uf ul hM1 hM2 hM3 hMU hMU3 how2 how3 ho2 ho24 hbw1 hbw2 hb1 hb2
  obtain ⟨aa, ab, ac, af, al⟩ := hM.mx
  obtain ⟨ua, ub, uc, uf, ul⟩ := hMU4.mx
  obtain ⟨va, vb, vc, vf, vl⟩ := hMV.mx
  go_wp2_with fail
  generalize hwo : w2.alloc (.cells #[.int .i64 C, .int .i64 C, .slice A3 n3 cap3] 26) = wo at *
  clear hwo
  ((refine wp_region_held_drew (S := (fun w' => w'.cell? ⟨w.heap.size, 0, none⟩ = some (.int .i64 R) ∧ w'.cell? ⟨w.heap.size, 1, none⟩ = some (.int .i64 C) ∧ w'.cell? ⟨w.heap.size, 2, none⟩ = some (.slice A n cap) ∧ w'.cell? ⟨bU, 0, none⟩ = some (.int .i64 R) ∧ w'.cell? ⟨bU, 1, none⟩ = some (.int .i64 R) ∧ w'.cell? ⟨bU, 2, none⟩ = some (.slice A2 n2 cap2) ∧ w'.cell? ⟨bV, 0, none⟩ = some (.int .i64 C) ∧ w'.cell? ⟨bV, 1, none⟩ = some (.int .i64 C) ∧ w'.cell? ⟨bV, 2, none⟩ = some (.slice A3 n3 cap3))) (by kernel_rfl) ?_ (fun hHeld => ?_)); ((focus ((try dsimp only); (go_keep)))); ((refine tk_ (i := 0) (v := ?_) (y := Or.inl ⟨by rfl, ?_⟩) (h := ?_); rotate_left; (focus (((intro w hSw; (try dsimp only at hSw); go_simp) <;> (try with_reducible rfl)); done)); (try simp only [Act.put, p1_, p2_, p3_]))); ((refine tk_ (i := 2) (v := ?_) (y := Or.inl ⟨by rfl, ?_⟩) (h := ?_); rotate_left; (focus (((intro w hSw; (try dsimp only at hSw); go_simp) <;> (try with_reducible rfl)); done)); (try simp only [Act.put, p1_, p2_, p3_]))); ((refine tk_ (i := 3) (v := ?_) (y := Or.inl ⟨by rfl, ?_⟩) (h := ?_); rotate_left; (focus (((intro w hSw; (try dsimp only at hSw); go_simp) <;> (try with_reducible rfl)); done)); (try simp only [Act.put, p1_, p2_, p3_]))); ((refine wpAnyH_ready (rs := [1]) (by kernel_rfl) (by simp) ?_; refine AllReadyH.cons (by simp only [e1_, e2_, e3_]; try rfl) (fun K hK => ?_) AllReadyH.nil; go_simp; (go_at_call 133; refine (impl_copyMatrix R C A n cap (tb R C f) _ (B := w.heap.size) (Kr H2.out) Ks hnn).mono ?_; rintro e w4 ⟨A1, n1, cap1, rfl, -, how1, hb4⟩; (have hM4 : BM w4 w.heap.size R C A n cap := Kb hM); (have hU4 : BM w4 bU R R A2 n2 cap2 := Kb hMU4); (have hV4 : BM w4 bV C C A3 n3 cap3 := Kb hMV); obtain ⟨a4, b4, c4, f4, l4⟩ := hM4.mx; obtain ⟨ua4, ub4, uc4, uf4, ul4⟩ := hU4.mx; obtain ⟨va4, vb4, vc4, vf4, vl4⟩ := hV4.mx); (try go_wp2_with fail); refine hK.out _ _ ?_ (fun hHeld => ?_); (focus ((try dsimp only); (go_keep))); clear hK K; (try simp only [Act.put, p1_, p2_, p3_]))); ((refine tk_ (i := 4) (v := ?_) (y := Or.inl ⟨by rfl, ?_⟩) (h := ?_); rotate_left; (focus (((intro w hSw; (try dsimp only at hSw); go_simp) <;> (try with_reducible rfl)); done)); (try simp only [Act.put, p1_, p2_, p3_]))); ((refine wpAnyH_ready (rs := [5]) (by kernel_rfl) (by simp) ?_; refine AllReadyH.cons (by simp only [e1_, e2_, e3_]; try rfl) (fun K hK => ?_) AllReadyH.nil; go_simp; (try go_wp2_with fail); refine hK.out _ _ ?_ (fun hHeld => ?_); (focus ((try dsimp only); (go_keep))); clear hK K; (try simp only [Act.put, p1_, p2_, p3_]))); ((refine tk_ (i := 6) (v := ?_) (y := Or.inl ⟨by rfl, ?_⟩) (h := ?_); rotate_left; (focus (((intro w hSw; (try dsimp only at hSw); go_simp) <;> (try with_reducible rfl)); done)); (try simp only [Act.put, p1_, p2_, p3_]))); (refine wpAnyH_done (by kernel_rfl) ?_ _))
  go_wp2_with fail
  have hs4 := hb4.size
  have how1 : OR w4 wo.heap.size (.slice A1 n1 cap1) (tb R C f) := how1
  have hlw : w.heap.size + 1 ≤ wo.heap.size := by rw [hsV]; omega
  have h2 : OR w4 (w.heap.size + 1) (.slice A2 n2 cap2) (tb R R idF) := ho22.out.drew.below hb4 (Nat.le_refl _)
  have h3 : OR w4 (w.heap.size + 1) (.slice A3 n3 cap3) (tb C C idF) := ho33.out.drew.below hb4 (Nat.le_refl _)
  have o1 : Own (.slice A1 n1 cap1) (bV + 1) w4.heap.size := how1.own.wide (by rw [hsV]; exact Nat.le_refl _) (Nat.le_refl _)
  have hlv : bV + 1 ≤ w4.heap.size := by rw [← hsV]; exact hs4
  go_ret
  refine ⟨w4.heap.size, rfl, WB.wk (A := A1) (n := n1) (cap := cap1) (A2 := A2) (n2 := n2) (cap2 := cap2) (A3 := A3) (n3 := n3) (cap3 := cap3) ⟨Blk.new _ _ _, by omega, (how1.mono (by omega)).alloc _, (h2.mono (by omega)).alloc _, (h3.mono (by omega)).alloc _, Apart.of_own o1 HU2.out (.inr (by omega)), Apart.of_own o1 HU3.out (.inr (by omega)), Apart.of_own HU2.out HU3.out (.inl (by omega)), fun e => ?_, fun e => ?_, fun e => ?_⟩, Kw⟩
  · have := (o1 _ e).2; omega
  · have := (HU2.out _ e).2; omega
  · have := (HU3.out _ e).2; omega
end Go.Proofs.Ytacjonkehcamgaa

/-
  DERIVED. One operation on rows, of the reference: IsRowOp, DoRowOp, where a multiple of a row is added.
-/
namespace Go.Proofs.Ytacjonkehcamgaa
open Go.RowKit
set_option linter.unusedVariables false
set_option linter.unusedSimpArgs false
set_option maxRecDepth 100000 in
set_option maxHeartbeats 4000000 in
theorem spec_IsRowOp_add (R i j : Nat) (t : Int) (w : World) (hi : i < R) (hj : j < R) (hij : i ≠ j) (ht : Num t) (hR : R ≤ 24) :
    Calls Try.prog 211 #[.agg #[.int .i64 2, .int .i64 i, .int .i64 j, .int .i64 t], .int .i64 R] w (BV (.bool true) w) := by
  obtain ⟨t1, t2⟩ := ht
  have hne : ((j : Int) != (i : Int)) = true := by simp; omega
  go_enter Try.func211, Try.ntmps211
  go_wp2_with (first | (go_at_call 154; (first | refine (spec_l1In_yes _ _ _ _ (by omega)).mono ?_ | refine (spec_l1In_no _ _ _ _ (by omega)).mono ?_ | refine (spec_l1In _ _ _ _).mono ?_); rintro e w' ⟨rfl, rfl⟩) | (go_at_call 194; (first | refine (spec_IsNumber_yes _ _ (by omega)).mono ?_ | refine (spec_IsNumber_no _ _ (by omega)).mono ?_ | refine (spec_IsNumber _ _).mono ?_); rintro e w' ⟨rfl, rfl⟩))
  go_ret
  exact BV.mk rfl Kw
set_option maxRecDepth 100000 in
set_option maxHeartbeats 8000000 in
theorem spec_DoRowOp_add (R C i j : Nat) (t : Int) (A : Option Addr) (n cap : Nat) (f : Fn2) (w : World) {B : Nat} (h : RI w B A n (tb R C f)) (hB : B ≤ w.heap.size) (hm : isMat R C (tb R C f) = true) (hnb : NBF f) (hi : i < R) (hj : j < R) (hij : i ≠ j) (ht : Num t) (hm2 : isMat R C (tb R C (opA f i j t)) = true) (hC0 : 0 < C) (hR : R ≤ 24) (hC : C ≤ 24) :
    Calls Try.prog 152 #[.agg #[.int .i64 R, .int .i64 C, .slice A n cap], .agg #[.int .i64 2, .int .i64 i, .int .i64 j, .int .i64 t]] w (MBR ⟨R, C, tb R C (opA f i j t)⟩ true w) := by
  have hln := h.len
  rw [tb_len] at hln
  have hRC : R * C ≤ 24 * 24 := Nat.mul_le_mul hR hC
  have hn : n ≤ 1048576 := by omega
  have H2 := Lib.hid (h.more hB)
  have HM := Lib.hid hm
  have HM2 := Lib.hid hm2
  have HNB := Lib.hid hnb
  clear h hm hm2 hnb hln
  go_enter Try.func152, Try.ntmps152
  go_wp2_with fail
  refine (spec_IsMatrix R C A n cap (tb R C f) _ (C := w.heap.size) (Kr H2.out) Ks hn).mono ?_
  rw [HM.out]
  rintro e w1 ⟨rfl, hb1⟩
  have hs1 := hb1.size
  simp at hs1
  have hM : BM w1 w.heap.size R C A n cap := Ka
  have hX : Blk w1 (w.heap.size + 1) 66 #[.int .i64 2, .int .i64 i, .int .i64 j, .int .i64 t] := by (with_reducible (repeat (first | assumption | refine Blk.new_at _ _ _ _ Ks | refine Blk.below ?_ (by assumption) Ks | apply Blk.drew | apply Blk.drewN | refine Blk.far ?_ (by simp only [ne_eq]; omega) _ | apply Blk.alloc)))
  have hRS : BM w1 (w.heap.size + 1 + 1) 0 0 none 0 0 := Ka
  have hbw : Below w.heap.size w w1 := Kw
  clear hb1
  obtain ⟨ma, mb, mc, mf, ml⟩ := hM.mx
  have xa := hX.cell 0
  have xb := hX.cell 1
  have xc := hX.cell 2
  have xd := hX.cell 3
  have xf := hX.frozen
  have xl := hX.lt
  simp at xa xb xc xd
  go_wp2_with fail
  refine (spec_IsRowOp_add R i j t _ hi hj hij ht hR).mono ?_
  rintro e w2 ⟨rfl, hb2⟩
  have hszw2 := hb2.size; (try simp at hszw2); have hM_1 : BM w2 w.heap.size R C A n cap := (Kb hM); have hX_1 : Blk w2 (w.heap.size + 1) 66 #[.int .i64 2, .int .i64 i, .int .i64 j, .int .i64 t] := (by (with_reducible (repeat (first | exact hX | refine Blk.below ?_ (by assumption) Ks | apply Blk.drew | apply Blk.drewN | apply Blk.alloc | apply Blk.set_ | apply Blk.far; rotate_left; (simp only [ne_eq]; omega); rotate_right)))); have hR_1 : BM w2 (w.heap.size + 1 + 1) 0 0 none 0 0 := (Kb hRS); have hbw_1 : Below w.heap.size w w2 := Kw; clear hM hX hRS hbw ma mb mc mf ml xa xb xc xd xf xl; have hM := hM_1; have hX := hX_1; have hRS := hR_1; have hbw := hbw_1; clear hM_1 hX_1 hR_1 hbw_1; obtain ⟨ma, mb, mc, mf, ml⟩ := hM.mx; have xa := hX.cell 0; have xb := hX.cell 1; have xc := hX.cell 2; have xd := hX.cell 3; have xf := hX.frozen; have xl := hX.lt; simp at xa xb xc xd
  go_wp2_with fail
  refine (spec_l3Copy R C A n cap (tb R C f) _ (B := w.heap.size) (Kr H2.out) Ks hn).mono ?_
  rintro e w3 ⟨A3, n3, c3, rfl, -, ho3, hb3⟩
  have hoc : OR w3 (w.heap.size + 1 + 1 + 1) (.slice A3 n3 c3) (tb R C f) := OR.mono (xs := tb R C f) ho3 Ks
  clear ho3
  have hszw3 := hb3.size; (try simp at hszw3); have hM_1 : BM w3 w.heap.size R C A n cap := (Kb hM); have hX_1 : Blk w3 (w.heap.size + 1) 66 #[.int .i64 2, .int .i64 i, .int .i64 j, .int .i64 t] := (by (with_reducible (repeat (first | exact hX | refine Blk.below ?_ (by assumption) Ks | apply Blk.drew | apply Blk.drewN | apply Blk.alloc | apply Blk.set_ | apply Blk.far; rotate_left; (simp only [ne_eq]; omega); rotate_right)))); have hR_1 : BM w3 (w.heap.size + 1 + 1) 0 0 none 0 0 := (Kb hRS); have hbw_1 : Below w.heap.size w w3 := Kw; clear hM hX hRS hbw ma mb mc mf ml xa xb xc xd xf xl; have hM := hM_1; have hX := hX_1; have hRS := hR_1; have hbw := hbw_1; clear hM_1 hX_1 hR_1 hbw_1; obtain ⟨ma, mb, mc, mf, ml⟩ := hM.mx; have xa := hX.cell 0; have xb := hX.cell 1; have xc := hX.cell 2; have xd := hX.cell 3; have xf := hX.frozen; have xl := hX.lt; simp at xa xb xc xd
  have hO : BM (w3.alloc (.cells #[.int .i64 R, .int .i64 C, .slice A3 n3 c3] 26)) w3.heap.size R C A3 n3 c3 := Ka
  have hoc2 : OR (w3.alloc (.cells #[.int .i64 R, .int .i64 C, .slice A3 n3 c3] 26)) (w.heap.size + 1 + 1 + 1) (.slice A3 n3 c3) (tb R C f) := hoc.alloc _
  have HOW := Lib.hid hoc.own
  have hn3 := hoc.lenEq
  rw [tb_len] at hn3
  have hn3' : n3 ≤ 1048576 := by omega
  obtain ⟨oa, ob, oc, of, ol⟩ := hO.mx
  clear hoc hn3
  go_wp2_with fail
  refine (spec_l5Do_add R C i j t A3 n3 c3 f _ (B := w.heap.size + 1 + 1 + 1) (Ko hoc2) hi hj hij ht HNB.out hC0 hC hR).mono ?_
  rintro e w4 ⟨rfl, ho4, hg4, hsz4⟩
  simp at hsz4
  have kM : BM w4 w.heap.size R C A n cap := BX.grown (Kb hM) hg4 (fun e => by have := (HOW.out _ e.symm).1; omega)
  have kX : Blk w4 (w.heap.size + 1) 66 #[.int .i64 2, .int .i64 i, .int .i64 j, .int .i64 t] := Blk.grown (by (with_reducible (repeat (first | exact hX | refine Blk.below ?_ (by assumption) Ks | apply Blk.drew | apply Blk.drewN | apply Blk.alloc | apply Blk.set_ | apply Blk.far; rotate_left; (simp only [ne_eq]; omega); rotate_right)))) hg4 (fun e => by have := (HOW.out _ e.symm).1; omega)
  have kR : BM w4 (w.heap.size + 1 + 1) 0 0 none 0 0 := BX.grown (Kb hRS) hg4 (fun e => by have := (HOW.out _ e.symm).1; omega)
  have kO : BM w4 w3.heap.size R C A3 n3 c3 := BX.grown (Kb hO) hg4 (fun e => by have := (HOW.out _ e.symm).2; omega)
  have kb : Below w.heap.size w w4 := Below.trans (show Below w.heap.size w (w3.alloc (.cells #[.int .i64 R, .int .i64 C, .slice A3 n3 c3] 26)) from Kw) (only_below hg4 (by simp; omega) fun g e => by have := (HOW.out g e).1; omega)
  clear hM hX hRS hbw hO hoc2 hg4 ma mb mc mf ml xa xb xc xd xf xl oa ob oc of ol
  have hM := kM
  have hX := kX
  have hRS := kR
  have hbw := kb
  clear kM kX kR kb
  obtain ⟨ma, mb, mc, mf, ml⟩ := hM.mx
  have xa := hX.cell 0
  have xb := hX.cell 1
  have xc := hX.cell 2
  have xd := hX.cell 3
  have xf := hX.frozen
  have xl := hX.lt
  simp at xa xb xc xd
  obtain ⟨oa, ob, oc, of, ol⟩ := kO.mx
  go_wp2_with fail
  refine (spec_l3Done R C A3 n3 c3 (tb R C (opA f i j t)) _ (B := w4.heap.size) ho4.reads (Nat.le_refl _) hn3').mono ?_
  rw [HM2.out, chkV_t]
  rintro e w5 ⟨rfl, hb5⟩
  have ho5 : OR w5 (w.heap.size + 1 + 1 + 1) (.slice A3 n3 c3) (tb R C (opA f i j t)) := Ko ho4
  clear oa ob oc of ol
  have hszw5 := hb5.size; (try simp at hszw5); have hM_1 : BM w5 w.heap.size R C A n cap := (Kb hM); have hX_1 : Blk w5 (w.heap.size + 1) 66 #[.int .i64 2, .int .i64 i, .int .i64 j, .int .i64 t] := (by (with_reducible (repeat (first | exact hX | refine Blk.below ?_ (by assumption) Ks | apply Blk.drew | apply Blk.drewN | apply Blk.alloc | apply Blk.set_ | apply Blk.far; rotate_left; (simp only [ne_eq]; omega); rotate_right)))); have hR_1 : BM w5 (w.heap.size + 1 + 1) 0 0 none 0 0 := (Kb hRS); have hbw_1 : Below w.heap.size w w5 := Kw; clear hM hX hRS hbw ma mb mc mf ml xa xb xc xd xf xl; have hM := hM_1; have hX := hX_1; have hRS := hR_1; have hbw := hbw_1; clear hM_1 hX_1 hR_1 hbw_1; obtain ⟨ma, mb, mc, mf, ml⟩ := hM.mx; have xa := hX.cell 0; have xb := hX.cell 1; have xc := hX.cell 2; have xd := hX.cell 3; have xf := hX.frozen; have xl := hX.lt; simp at xa xb xc xd
  have hvr := B3.of hRS
  obtain ⟨ra, rb, rc, rf, rl⟩ := hRS.mx
  go_wp2_with fail
  refine ret_MB (b := w.heap.size + 1 + 1) (r := R) (c := C) (A := A3) (n := n3) (cap := c3) Try.results152 rfl (Kb hvr) rfl ?_
  exact MBR.mk rfl (OR.mono (B := w.heap.size + 1 + 1 + 1) (Ko ho5) (by omega)) Kw
end Go.Proofs.Ytacjonkehcamgaa

/-
  DERIVED. What SmithForm of both answers: three matrices and a flag.
-/
namespace Go.Proofs.Ytacjonkehcamgaa
open Go.RowKit
set_option linter.unusedVariables false
def sfDO (r c : Int) : Option SS → Mx
  | some s => ⟨r, c, tb r.toNat c.toNat s.f⟩
  | none => .none
def sfUO (r : Int) : Option SS → Mx
  | some s => ⟨r, r, tb r.toNat r.toNat s.g⟩
  | none => .none
def sfVO (c : Int) : Option SS → Mx
  | some s => ⟨c, c, tb c.toNat c.toNat s.h⟩
  | none => .none
/-- The call returned three matrices, their cells their own, and the flag. -/
def M3R (m m' m'' : Mx) (b : Bool) (w : World) (e : Ending) (w' : World) : Prop :=
  ∃ A n cap A2 n2 cap2 A3 n3 cap3, e = .returned (.tuple #[.agg #[.int .i64 m.r, .int .i64 m.c, .slice A n cap], .agg #[.int .i64 m'.r, .int .i64 m'.c, .slice A2 n2 cap2], .agg #[.int .i64 m''.r, .int .i64 m''.c, .slice A3 n3 cap3], .bool b]) ∧
    OR w' w.heap.size (.slice A n cap) m.xs ∧ OR w' w.heap.size (.slice A2 n2 cap2) m'.xs ∧ OR w' w.heap.size (.slice A3 n3 cap3) m''.xs ∧ Apart (.slice A n cap) (.slice A2 n2 cap2) ∧ Apart (.slice A n cap) (.slice A3 n3 cap3) ∧ Apart (.slice A2 n2 cap2) (.slice A3 n3 cap3) ∧ Below w.heap.size w w'
theorem apart_nil {v : Value} : Apart (.slice none 0 0) v := by
  intro g h1
  simp [Value.ownBlock] at h1
theorem M3R.none_ {r c : Int} {X : Option SS} {w w' : World} (hX : X = none) (hb : Below w.heap.size w w') :
    M3R (sfDO r c X) (sfUO r X) (sfVO c X) X.isSome w (.returned (.tuple #[.agg #[.int .i64 0, .int .i64 0, .slice none 0 0], .agg #[.int .i64 0, .int .i64 0, .slice none 0 0], .agg #[.int .i64 0, .int .i64 0, .slice none 0 0], .bool false])) w' := by
  subst hX
  exact ⟨none, 0, 0, none, 0, 0, none, 0, 0, rfl, OR.nil_ _ _, OR.nil_ _ _, OR.nil_ _ _, apart_nil, apart_nil, apart_nil, hb⟩
theorem M3R.some_ {R C : Nat} {s : SS} {X : Option SS} {w w' : World} {A A2 A3 : Option Addr} {n cap n2 cap2 n3 cap3 : Nat} (hX : X = some s) (h1 : OR w' w.heap.size (.slice A n cap) (tb R C s.f)) (h2 : OR w' w.heap.size (.slice A2 n2 cap2) (tb R R s.g)) (h3 : OR w' w.heap.size (.slice A3 n3 cap3) (tb C C s.h))
    (ha : Apart (.slice A n cap) (.slice A2 n2 cap2)) (ha2 : Apart (.slice A n cap) (.slice A3 n3 cap3)) (ha3 : Apart (.slice A2 n2 cap2) (.slice A3 n3 cap3)) (hb : Below w.heap.size w w') :
    M3R (sfDO R C X) (sfUO R X) (sfVO C X) X.isSome w (.returned (.tuple #[.agg #[.int .i64 R, .int .i64 C, .slice A n cap], .agg #[.int .i64 R, .int .i64 R, .slice A2 n2 cap2], .agg #[.int .i64 C, .int .i64 C, .slice A3 n3 cap3], .bool true])) w' := by
  subst hX
  exact ⟨A, n, cap, A2, n2, cap2, A3, n3, cap3, rfl, h1, h2, h3, ha, ha2, ha3, hb⟩
theorem ret_M3 {fn : Func} {R : Ending → World → Prop} {a : Act} {w : World} {t t' t'' s : Tmp} {b n cap b' n' cap' b'' n'' cap'' : Nat} {r c r' c' r'' c'' : Int} {A A' A'' : Option Addr} (hr : fn.results = #[.cell t 26, .cell t' 26, .cell t'' 26, .tmp s])
    (ht : a.tmps.getD t undef = .pointer (some ⟨b, 0, none⟩)) (ht' : a.tmps.getD t' undef = .pointer (some ⟨b', 0, none⟩)) (ht'' : a.tmps.getD t'' undef = .pointer (some ⟨b'', 0, none⟩)) (h : BM w b r c A n cap) (h' : BM w b' r' c' A' n' cap') (h'' : BM w b'' r'' c'' A'' n'' cap'') (hd : a.defers = [])
    (hR : R (.returned (.tuple #[.agg #[.int .i64 r, .int .i64 c, .slice A n cap], .agg #[.int .i64 r', .int .i64 c', .slice A' n' cap'], .agg #[.int .i64 r'', .int .i64 c'', .slice A'' n'' cap''], a.tmps.getD s undef])) w) : bodyPost Try.prog fn R .ret a w :=
  bodyPost_ret (v := .tuple #[.agg #[.int .i64 r, .int .i64 c, .slice A n cap], .agg #[.int .i64 r', .int .i64 c', .slice A' n' cap'], .agg #[.int .i64 r'', .int .i64 c'', .slice A'' n'' cap''], a.tmps.getD s undef]) (by
    obtain ⟨r0, r1, r2, rf, rl⟩ := h.mx
    obtain ⟨s0, s1, s2, sf, sl⟩ := h'.mx
    obtain ⟨t0, t1, t2, tf, tl⟩ := h''.mx
    simp only [Array.getD_eq_getD_getElem?] at ht ht' ht''
    simp [results, hr, ht, ht', ht'', go_sem, r0, r1, r2, s0, s1, s2, t0, t1, t2]) hd hR
/-- The call's own variables: its argument and its three results. -/
structure HV3 (w wr : World) (r c : Int) (A : Option Addr) (n cap : Nat) : Prop where
  m : BM wr w.heap.size r c A n cap
  r1 : BM wr (w.heap.size + 1) 0 0 none 0 0
  r2 : BM wr (w.heap.size + 1 + 1) 0 0 none 0 0
  r3 : BM wr (w.heap.size + 1 + 1 + 1) 0 0 none 0 0
  b : Below w.heap.size w wr
section
variable {w wr w' : World} {r c : Int} {A : Option Addr} {n cap : Nat}
theorem HV3.lt (h : HV3 w wr r c A n cap) : w.heap.size + 1 + 1 + 1 < wr.heap.size := h.r3.lt
theorem HV3.below {D : Nat} (h : HV3 w wr r c A n cap) (hD : Below D wr w') (hs : w.heap.size + 1 + 1 + 1 + 1 ≤ D) : HV3 w w' r c A n cap :=
  ⟨h.m.below hD (by omega), h.r1.below hD (by omega), h.r2.below hD (by omega), h.r3.below hD (by omega), h.b.trans (hD.mono (by omega))⟩
theorem HV3.drew (h : HV3 w wr r c A n cap) : HV3 w wr.drew r c A n cap := ⟨h.m.drew, h.r1.drew, h.r2.drew, h.r3.drew, h.b.drew⟩
theorem HV3.b_ {w wr w' : World} {r c : Int} {A : Option Addr} {n cap D : Nat} (h : HV3 w wr r c A n cap) (hD : Below D wr w' := by assumption) (hs : w.heap.size + 1 + 1 + 1 + 1 ≤ D := by first | omega | (simp; done) | (simp; omega)) : HV3 w w' r c A n cap := HV3.below h hD hs
theorem HV3.drewN (h : HV3 w wr r c A n cap) (q : Nat) : HV3 w (wr.drewN q) r c A n cap := ⟨h.m.drewN q, h.r1.drewN q, h.r2.drewN q, h.r3.drewN q, below_drewN h.b q⟩
theorem HV3.alloc (h : HV3 w wr r c A n cap) (o : Obj) : HV3 w (wr.alloc o) r c A n cap :=
  have hl := h.lt
  ⟨h.m.alloc o, h.r1.alloc o, h.r2.alloc o, h.r3.alloc o, Below.alloc h.b (by omega) o⟩
end
/-- A Smith form that came to be has numbers only. -/
theorem rnd_gd {R C t p q : Nat} {s : SS} (h : SGD R C s) (e : ls2 R C s.f t = ((p : Int), (q : Int))) (hp : p < R) (hq : q < C) (ht : t < R) (htC : t < C) (hk : (rnd R C t s).1.OK R C) : SGD R C (rnd R C t s).1 := by
  refine ⟨hk, ?_⟩
  have hA : SGD R C (sfA R C t s) := by
    unfold sfA
    rw [e]
    exact (h.a1 hp ht).a2 hq htC
  exact sfD_nb (sfC_nb (sfB_nb hA.nb))
theorem sfIn_gd {R C t : Nat} (ht : t < R) (htC : t < C) : ∀ (k : Nat) (s : SS), sfMs R C t s ≤ k → SGD R C s → ¬ (ls2 R C s.f t).1 < 0 → ∀ s', sfIn R C t s = some s' → SGD R C s' := by
  intro k
  induction k with
  | zero =>
    intro s hk hg hn s' he
    rcases ls2_cases R C s.f t with ⟨e, _⟩ | ⟨p, q, e, ⟨a1, a2, a3, a4⟩, h3, h4, h5⟩
    · rw [e] at hn; exact absurd (by decide) hn
    · have hV : lsV R C t s = (s.f p q).natAbs := by unfold lsV; rw [e]; rfl
      unfold sfMs at hk
      omega
  | succ k ih =>
    intro s hk hg hn s' he
    rcases ls2_cases R C s.f t with ⟨e, _⟩ | ⟨p, q, e, ⟨a1, a2, a3, a4⟩, h3, h4, h5⟩
    · rw [e] at hn; exact absurd (by decide) hn
    · rw [sfIn] at he
      have hA : SGD R C (sfA R C t s) := by
        unfold sfA
        rw [e]
        exact (hg.a1 a2 ht).a2 a4 htC
      have hnb : (rnd R C t s).1.NBS := sfD_nb (sfC_nb (sfB_nb hA.nb))
      split at he
      · rename_i hok
        have hk' := (SS.ok_iff hnb).1 hok
        split at he
        · cases he
          exact rnd_gd hg e a2 a4 ht htC hk'
        · rename_i hd
          split at he
          · rename_i hlt
            obtain ⟨_, hne⟩ := rnd_lt hg ht htC e a2 a4 h3 (h5 ht htC) hk' (by simpa using hd)
            refine ih _ (by omega) (rnd_gd hg e a2 a4 ht htC hk') ?_ s' he
            obtain ⟨p2, q2, e2, _⟩ := ls2_some (R := R) (C := C) (Nat.le_refl t) ht (Nat.le_refl t) htC hne
            rw [e2]
            dsimp only
            omega
          · cases he
      · cases he
theorem sfOut_gd {R C : Nat} : ∀ (m t : Nat) (s s' : SS), t + m ≤ R → t + m ≤ C → SGD R C s → sfOut R C m t s = some s' → SGD R C s'
  | 0, t, s, s', _, _, hg, he => by cases he; exact hg
  | m + 1, t, s, s', h1, h2, hg, he => by
    by_cases hn : (ls2 R C s.f t).1 < 0
    · rw [sfOut_stop hn] at he; cases he; exact hg
    · rw [sfOut_go hn] at he
      unfold sfGo at he
      rcases hi : sfIn R C t s with _ | s2
      · rw [hi] at he; cases he
      · rw [hi] at he
        exact sfOut_gd m (t + 1) (sfN t s2) s' (by omega) (by omega) ((sfIn_gd (by omega) (by omega) _ s (Nat.le_refl _) hg hn s2 hi).n (by omega)) he
theorem idF_ok (R C : Nat) : OKF R C idF := by
  intro i j _ _
  unfold idF Num
  split <;> omega
theorem idF_nb : NBF idF := by
  intro i j
  refine .inr ?_
  unfold idF
  split <;> omega
theorem sfX_gd {R C : Nat} {xs : List Int} {s : SS} (h : sfX R C xs = some s) : isMat R C xs = true ∧ R ≤ 24 ∧ C ≤ 24 ∧ SGD R C s := by
  rcases hm : isMat (R : Int) (C : Int) xs with _ | _
  · rw [sfX_no hm] at h; cases h
  · rw [sfX_yes hm] at h
    have M := isMat_iff.1 hm
    have hs := start_gd (R := R) (C := C) M.num
    refine ⟨rfl, by have := M.r1; omega, by have := M.c1; omega, sfOut_gd _ _ _ _ (by omega) (by omega) ⟨⟨hs.ok.f, hs.ok.g, idF_ok C C⟩, ⟨hs.nb.f, hs.nb.g, idF_nb⟩⟩ h⟩
end Go.Proofs.Ytacjonkehcamgaa

/-
  DERIVED. TransposeOf of the program.
-/
namespace Go.Proofs.Ytacjonkehcamgaa
open Go.RowKit
set_option linter.unusedVariables false
set_option linter.unusedSimpArgs false
/-- The turned matrix, its columns up to m done, column m up to k. -/
def trK (f : Nat → Nat → Int) (m k : Nat) : Nat → Nat → Int := fun a b => if b < m ∨ b = m ∧ a < k then f b a else 0
theorem trK_zero (f : Nat → Nat → Int) : trK f 0 0 = fun _ _ => 0 := by funext a b; simp [trK]
theorem trK_step {f : Nat → Nat → Int} {m k : Nat} : upd (trK f m k) k m (f m k) = trK f m (k + 1) := by funext a b; unfold upd trK; grind
theorem trK_row {R C : Nat} {f : Nat → Nat → Int} {m : Nat} : tb C R (trK f m C) = tb C R (trK f (m + 1) 0) := tb_ext fun a b ha hb => by unfold trK; grind
theorem trK_end {R C : Nat} (f : Nat → Nat → Int) : tb C R (trK f R 0) = tb C R (fun a b => f b a) := tb_ext fun a b ha hb => by unfold trK; grind
def trM (r c : Int) (xs : List Int) : Mx := if isMat r c xs then ⟨c, r, tb c.toNat r.toNat (fun a b => cel xs c b a)⟩ else .none
set_option maxRecDepth 100000 in
set_option maxHeartbeats 8000000 in
theorem impl_TransposeOf (r c : Int) (A : Option Addr) (n cap : Nat) (xs : List Int) (w : World) {B : Nat} (h : RI w B A n xs) (hB : B ≤ w.heap.size) (hn : n ≤ 1048576) :
    Calls Try.prog 63 #[.agg #[.int .i64 r, .int .i64 c, .slice A n cap]] w (MBR (trM r c xs) (isMat r c xs) w) := by
  have hln := h.len
  have H2 := Lib.hid (h.more hB)
  clear h
  rcases hm : isMat r c xs with _ | _
  · have hv : trM r c xs = .none := by unfold trM; rw [hm]; rfl
    rw [hv]
    have HM := Lib.hid hm
    clear hm hv hln
    go_enter Try.func63, Try.ntmps63
    go_wp2_with fail
    refine (impl_IsMatrix r c A n cap xs _ (C := w.heap.size) (Kr H2.out) Ks hn).mono ?_
    rw [HM.out]
    rintro e w1 ⟨rfl, hb⟩
    have hsz := hb.size
    simp at hsz
    have hR : BM w1 (w.heap.size + 1) 0 0 none 0 0 := Ka
    have hbw : Below w.heap.size w w1 := Kw
    obtain ⟨ra, rb, rc, rf, rl⟩ := hR.mx
    go_wp2_with fail
    refine ret_MB (r := 0) (c := 0) (A := none) (n := 0) (cap := 0) Try.results63 rfl (Kb hR) rfl ?_
    exact MBR.mk rfl (OR.nil_ _ _) Kw
  · have hv : trM r c xs = ⟨c, r, tb c.toNat r.toNat (fun a b => cel xs c b a)⟩ := by unfold trM; rw [hm]; rfl
    have HV := Lib.hid hv
    have HM := Lib.hid hm
    have M := isMat_iff.1 hm
    have hr1 := M.r1
    have hc1 := M.c1
    have hMl := M.len
    obtain ⟨R, rfl⟩ := nat_of M.r0
    obtain ⟨C, rfl⟩ := nat_of M.c0
    have hln2 : R * C ≤ n ∧ n ≤ R * C := by rw [← Int.natCast_mul] at hMl; omega
    have hRC : R * C ≤ 24 * 24 := Nat.mul_le_mul (by omega) (by omega)
    have hCR : C * R ≤ 24 * 24 := Nat.mul_le_mul (by omega) (by omega)
    simp only [Int.toNat_natCast] at HV
    have HFC : Hid (∀ i j : Nat, cel xs C i j = (fun a b : Nat => cel xs C a b) i j) := Lib.hid (fun i j => rfl)
    have HVT : Hid (tb C R (fun a b : Nat => cel xs C b a) = tb C R (fun a b => (fun a b : Nat => cel xs C a b) b a)) := Lib.hid rfl
    generalize (fun a b : Nat => cel xs C a b) = f at *
    generalize trM (R : Int) (C : Int) xs = vm at *
    clear hm hv M hMl hln
    go_enter Try.func63, Try.ntmps63
    go_wp2_with fail
    refine (impl_IsMatrix R C A n cap xs _ (C := w.heap.size) (Kr H2.out) Ks hn).mono ?_
    rw [HM.out]
    rintro e w1 ⟨rfl, hb1⟩
    have hsz1 := hb1.size
    simp at hsz1
    have hA1 : BM w1 w.heap.size R C A n cap := Ka
    have hR1 : BM w1 (w.heap.size + 1) 0 0 none 0 0 := Ka
    have hbw1 : Below w.heap.size w w1 := Kw
    obtain ⟨aa, ab, ac, af, al⟩ := hA1.mx
    go_wp2_with fail
    refine (impl_newMatrix C R _ (by omega) (by omega) (by omega)).mono ?_
    rintro e w2 ⟨Ao, no, co, rfl, how0, hb2⟩
    have hsz2 := hb2.size
    generalize hbO : w2.heap.size = bO at *
    have hA : BM (w2.alloc (.cells #[.int .i64 C, .int .i64 R, .slice Ao no co] 26)) w.heap.size R C A n cap := Kb hA1
    have hR : BM (w2.alloc (.cells #[.int .i64 C, .int .i64 R, .slice Ao no co] 26)) (w.heap.size + 1) 0 0 none 0 0 := Kb hR1
    have hO : BM (w2.alloc (.cells #[.int .i64 C, .int .i64 R, .slice Ao no co] 26)) bO C R Ao no co := Ka
    have hown : OR (w2.alloc (.cells #[.int .i64 C, .int .i64 R, .slice Ao no co] 26)) (w.heap.size + 1 + 1) (.slice Ao no co) (tb C R (trK f 0 0)) := by
      rw [trK_zero, tb_zeros]; exact (OR.mono (xs := List.replicate (C * R) 0) how0 (by omega)).alloc _
    have hbw : Below w.heap.size w (w2.alloc (.cells #[.int .i64 C, .int .i64 R, .slice Ao no co] 26)) := Kw
    have HU : Hid (Own (.slice Ao no co) (w.heap.size + 1 + 1) bO) := Lib.hid (by rw [← hbO]; exact (OR.own (xs := List.replicate (C * R) 0) how0).wide (by omega) (Nat.le_refl _))
    have hno := hown.lenEq
    rw [tb_len] at hno
    have HNO : Hid (no ≤ C * R ∧ C * R ≤ no) := Lib.hid (by omega)
    have hbO2 : w.heap.size + 1 + 1 ≤ bO := by omega
    clear hno hA1 hR1 hbw1 aa ab ac af al how0 hb1 hb2
    obtain ⟨aa, ab, ac, af, al⟩ := hA.mx; obtain ⟨oa, ob, oc, of, ol⟩ := hO.mx
    go_wp2_with fail
    generalize hwo : w2.alloc (.cells #[.int .i64 C, .int .i64 R, .slice Ao no co] 26) = wo at *
    clear hwo
    go_loopw [5] (fun v wr => ∃ i : Nat, v = .int .i64 i ∧ i ≤ R ∧ BM wr w.heap.size R C A n cap ∧ BM wr (w.heap.size + 1) 0 0 none 0 0 ∧ BM wr bO C R Ao no co ∧ OR wr (w.heap.size + 1 + 1) (.slice Ao no co) (tb C R (trK f i 0)) ∧ Below w.heap.size w wr) (fun v _ => R - (intOf v).toNat)
    case atStart => exact ⟨0, rfl, Nat.zero_le _, hA, hR, hO, hown, hbw⟩
    case round =>
      clear aa ab ac af al oa ob oc of ol
      clear hA hR hO hown hbw
      obtain ⟨i, rfl, hi, hA, hR, hO, hown, hbw⟩ := hrel
      obtain ⟨aa, ab, ac, af, al⟩ := hA.mx; obtain ⟨oa, ob, oc, of, ol⟩ := hO.mx
      by_cases hiR : i < R
      · go_wp2_with fail
        obtain ⟨wo2, rfl⟩ : ∃ wo : World, wo = wr := ⟨_, rfl⟩
        go_loopw [6] (fun v wr => ∃ j : Nat, v = .int .i64 j ∧ j ≤ C ∧ BM wr w.heap.size R C A n cap ∧ BM wr (w.heap.size + 1) 0 0 none 0 0 ∧ BM wr bO C R Ao no co ∧ OR wr (w.heap.size + 1 + 1) (.slice Ao no co) (tb C R (trK f i j)) ∧ Below w.heap.size w wr) (fun v _ => C - (intOf v).toNat)
        case atStart => exact ⟨0, rfl, Nat.zero_le _, hA, hR, hO, hown, hbw⟩
        case round =>
          clear aa ab ac af al oa ob oc of ol
          clear hA hR hO hown hbw
          obtain ⟨j, rfl, hj, hA, hR, hO, hown, hbw⟩ := hrel
          obtain ⟨aa, ab, ac, af, al⟩ := hA.mx; obtain ⟨oa, ob, oc, of, ol⟩ := hO.mx
          by_cases hjC : j < C
          · have hix := idx_nat hiR hjC
            have hiy := idx_nat hjC hiR
            have hno2 := HNO.out
            have i1 : (i : Int) * (C : Int) = ((i * C : Nat) : Int) := by rw [Int.natCast_mul]
            have j1 : (j : Int) * (R : Int) = ((j * R : Nat) : Int) := by rw [Int.natCast_mul]
            have i2 : 0 ≤ (i : Int) * (C : Int) ∧ (i : Int) * (C : Int) ≤ 10000 := by omega
            have j2 : 0 ≤ (j : Int) * (R : Int) ∧ (j : Int) * (R : Int) ≤ 10000 := by omega
            have i3 : (i : Int) * (C : Int) + (j : Int) < (n : Int) := by omega
            have j3 : (j : Int) * (R : Int) + (i : Int) < (no : Int) := by omega
            have e4 : ((j : Int) * (R : Int) + (i : Int)).toNat = j * R + i := by omega
            have E4 := Lib.hid e4
            have HC := Lib.hid (HFC.out i j)
            have HST := Lib.hid (tb_set (R := C) (C := R) (i := j) (j := i) (f := trK f i j) (v := f i j) hjC hiR)
            clear i1 j1 e4 hix hiy hno2
            go_wp2_with fail
            ((refine wp_region_held_drew (S := (fun w' => w'.cell? ⟨w.heap.size, 0, none⟩ = some (.int .i64 R) ∧ w'.cell? ⟨w.heap.size, 1, none⟩ = some (.int .i64 C) ∧ w'.cell? ⟨w.heap.size, 2, none⟩ = some (.slice A n cap) ∧ w'.cell? ⟨bO, 0, none⟩ = some (.int .i64 C) ∧ w'.cell? ⟨bO, 1, none⟩ = some (.int .i64 R) ∧ w'.cell? ⟨bO, 2, none⟩ = some (.slice Ao no co))) (by kernel_rfl) ?_ (fun hHeld => ?_)); ((focus ((try dsimp only); (go_keep)))); ((refine tk_ (i := 0) (v := ?_) (y := Or.inl ⟨by rfl, ?_⟩) (h := ?_); rotate_left; (focus (((intro w hSw; (try dsimp only at hSw); go_simp) <;> (try with_reducible rfl)); done)); (try simp only [Act.put, p1_, p2_, p3_]))); ((refine tk_ (i := 1) (v := ?_) (y := Or.inl ⟨by rfl, ?_⟩) (h := ?_); rotate_left; (focus (((intro w hSw; (try dsimp only at hSw); go_simp) <;> (try with_reducible rfl)); done)); (try simp only [Act.put, p1_, p2_, p3_]))); ((refine tk_ (i := 2) (v := ?_) (y := Or.inl ⟨by rfl, ?_⟩) (h := ?_); rotate_left; (focus (((intro w hSw; (try dsimp only at hSw); go_simp) <;> (try with_reducible rfl)); done)); (try simp only [Act.put, p1_, p2_, p3_]))); ((refine tk_ (i := 3) (v := ?_) (y := Or.inl ⟨by rfl, ?_⟩) (h := ?_); rotate_left; (focus (((intro w hSw; (try dsimp only at hSw); go_simp) <;> (try with_reducible rfl)); done)); (try simp only [Act.put, p1_, p2_, p3_]))); ((refine tk_ (i := 4) (v := ?_) (y := Or.inl ⟨by rfl, ?_⟩) (h := ?_); rotate_left; (focus (((intro w hSw; (try dsimp only at hSw); go_simp) <;> (try with_reducible rfl)); done)); (try simp only [Act.put, p1_, p2_, p3_]))); ((refine tk_ (i := 5) (v := ?_) (y := Or.inl ⟨by rfl, ?_⟩) (h := ?_); rotate_left; (focus (((intro w hSw; (try dsimp only at hSw); go_simp) <;> (try with_reducible rfl)); done)); (try simp only [Act.put, p1_, p2_, p3_]))); ((refine wpAnyH_ready (rs := [6]) (by kernel_rfl) (by simp) ?_; refine AllReadyH.cons (by simp only [e1_, e2_, e3_]; try rfl) (fun K hK => ?_) AllReadyH.nil; go_simp; (refine (impl_at R C i j A n cap xs _ (C := w.heap.size) (Kr H2.out) Ks i2 ⟨by omega, by omega⟩ i3).mono ?_; rw [HC.out]; rintro e w3 ⟨rfl, hb3⟩; have hsz_0 := hb3.size; (try simp at hsz_0); have hA_1 : BM w3 w.heap.size R C A n cap := (Kb hA); have hR_1 : BM w3 (w.heap.size + 1) 0 0 none 0 0 := (Kb hR); have hO_1 : BM w3 bO C R Ao no co := (Kb hO); have hown_1 : OR w3 (w.heap.size + 1 + 1) (.slice Ao no co) (tb C R (trK f i j)) := (Ko hown); have hbw_1 : Below w.heap.size w w3 := Kw; clear aa ab ac af al oa ob oc of ol; clear hA hR hO hown hbw; have hA := hA_1; have hR := hR_1; have hO := hO_1; have hown := hown_1; have hbw := hbw_1; clear hA_1 hR_1 hO_1 hown_1 hbw_1; obtain ⟨aa, ab, ac, af, al⟩ := hA.mx; obtain ⟨oa, ob, oc, of, ol⟩ := hO.mx); (try go_wp2_with fail); refine hK.out _ _ ?_ (fun hHeld => ?_); (focus ((try dsimp only); (go_keep))); clear hK K; (try simp only [Act.put, p1_, p2_, p3_]))); ((refine wpAnyH_ready (rs := [7]) (by kernel_rfl) (by simp) ?_; refine AllReadyH.cons (by simp only [e1_, e2_, e3_]; try rfl) (fun K hK => ?_) AllReadyH.nil; go_simp; (refine (impl_set C R j i _ Ao no co _ _ (B := w.heap.size + 1 + 1) (Ko hown) j2 ⟨by omega, by omega⟩ j3).mono ?_; rintro e w4 ⟨rfl, hst_0, hgr_0, hsz_0⟩; rw [E4.out, HST.out, trK_step] at hst_0; have hA_1 := BX.keptOwn (b := w.heap.size) (Kb hA) hgr_0 HU.out (by omega); have hR_1 := BX.keptOwn (b := w.heap.size + 1) (Kb hR) hgr_0 HU.out (by omega); have hO_1 := BX.keptOwn (b := bO) (Kb hO) hgr_0 HU.out (by omega); have hbw_1 : Below w.heap.size w w4 := Below.trans Kw (below_keptOwn hgr_0 HU.out (by omega) Ks); have hown_1 := hst_0; clear hgr_0 hst_0; clear aa ab ac af al oa ob oc of ol; clear hA hR hO hown hbw; have hA := hA_1; have hR := hR_1; have hO := hO_1; have hown := hown_1; have hbw := hbw_1; clear hA_1 hR_1 hO_1 hown_1 hbw_1; obtain ⟨aa, ab, ac, af, al⟩ := hA.mx; obtain ⟨oa, ob, oc, of, ol⟩ := hO.mx); (try go_wp2_with fail); refine hK.out _ _ ?_ (fun hHeld => ?_); (focus ((try dsimp only); (go_keep))); clear hK K; (try simp only [Act.put, p1_, p2_, p3_]))); (refine wpAnyH_done (by kernel_rfl) ?_ _))
            go_wp2_with fail
            go_roundw
            case rel => exact ⟨j + 1, by go_num, by omega, Kb hA, Kb hR, Kb hO, Ko hown, Kw⟩
            case measure => simp only [intOf]; omega
          · obtain rfl : j = C := by omega
            have hown2 := hown.as trK_row
            clear hown
            go_wp2_with fail
            go_roundw
            case rel => exact ⟨i + 1, by go_num, by omega, Kb hA, Kb hR, Kb hO, Ko hown2, Kw⟩
            case measure => simp only [intOf]; omega
      · obtain rfl : i = R := by omega
        have hown2 := hown.as (trK_end f)
        obtain ⟨ra, rb, rc, rf, rl⟩ := hR.mx
        clear hown
        go_wp2_with fail
        refine ret_MB (r := C) (c := i) (A := Ao) (n := no) (cap := co) Try.results63 rfl (Kb hR) rfl ?_
        rw [HV.out]
        exact MBR.mk (by rw [HVT.out]) (OR.mono (B := w.heap.size + 1 + 1) (Ko hown2) (by omega)) Kw
end Go.Proofs.Ytacjonkehcamgaa

/-
  DERIVED. l13Col of the reference: an operation on columns in place.
-/
namespace Go.Proofs.Ytacjonkehcamgaa
open Go.RowKit
set_option linter.unusedVariables false
set_option linter.unusedSimpArgs false
/-- The first k rows as in F. -/
def loK (f F : Fn2) (k : Nat) : Fn2 := fun x y => if x < k then F x y else f x y
theorem loK_zero (f F : Fn2) : loK f F 0 = f := by funext x y; simp [loK]
theorem loK_at (f F : Fn2) (k y : Nat) : loK f F k k y = f k y := by simp [loK]
theorem loK_end {f F : Fn2} {R C : Nat} : tb R C (loK f F R) = tb R C F := tb_ext fun x y hx hy => by unfold loK; rw [if_pos hx]
theorem loK_step {f F : Fn2} {i : Nat} (k : Nat) (h : ∀ x y, y ≠ i → F x y = f x y) : upd (loK f F k) k i (F k i) = loK f F (k + 1) := by
  funext x y
  unfold upd loK
  by_cases h1 : x = k ∧ y = i
  · rw [if_pos h1, if_pos (by omega), h1.1, h1.2]
  · rw [if_neg h1]
    by_cases h2 : x < k
    · rw [if_pos h2, if_pos (by omega)]
    · rw [if_neg h2]
      by_cases h3 : x < k + 1
      · rw [if_pos h3, h x y (fun e => h1 ⟨by omega, e⟩)]
      · rw [if_neg h3]
theorem loK_step2 {f F : Fn2} {i j : Nat} (k : Nat) (hij : i ≠ j) (h : ∀ x y, y ≠ i → y ≠ j → F x y = f x y) : upd (upd (loK f F k) k i (F k i)) k j (F k j) = loK f F (k + 1) := by
  funext x y
  unfold upd loK
  by_cases h1 : x = k ∧ y = j
  · rw [if_pos h1, if_pos (by omega), h1.1, h1.2]
  · rw [if_neg h1]
    by_cases h4 : x = k ∧ y = i
    · rw [if_pos h4, if_pos (by omega), h4.1, h4.2]
    · rw [if_neg h4]
      by_cases h2 : x < k
      · rw [if_pos h2, if_pos (by omega)]
      · rw [if_neg h2]
        by_cases h3 : x < k + 1
        · rw [if_pos h3, h x y (fun e => h4 ⟨by omega, e⟩) (fun e => h1 ⟨by omega, e⟩)]
        · rw [if_neg h3]
theorem tpA_other {f : Fn2} {i j : Nat} {t : Int} (x y : Nat) (h : y ≠ i) : tp (opA (tp f) i j t) x y = f x y := by
  show opA (tp f) i j t y x = _
  rw [opA_other h]
  rfl
theorem tpA_at (f : Fn2) (i j : Nat) (t : Int) (k : Nat) : tp (opA (tp f) i j t) k i = addB (f k i) (mulF (f k j) t) := by
  show opA (tp f) i j t i k = _
  unfold opA
  rw [if_pos rfl]
  rfl
theorem tpS_other {f : Fn2} {i j : Nat} (x y : Nat) (h : y ≠ i) (h2 : y ≠ j) : tp (swF (tp f) i j) x y = f x y := by
  show swF (tp f) i j y x = _
  unfold swF
  rw [if_neg h, if_neg h2]
  rfl
theorem tpS_i (f : Fn2) (i j k : Nat) : tp (swF (tp f) i j) k i = f k j := by
  show swF (tp f) i j i k = _
  unfold swF
  rw [if_pos rfl]
  rfl
theorem tpS_j {f : Fn2} {i j : Nat} (k : Nat) : tp (swF (tp f) i j) k j = f k i := by
  show swF (tp f) i j j k = _
  rw [swF_t]
  rfl
set_option maxRecDepth 100000 in
set_option maxHeartbeats 4000000 in
theorem spec_l13Col_swap (R C i j : Nat) (ti : Int) (A : Option Addr) (n cap : Nat) (f : Fn2) (w : World) {B : Nat} (h : OR w B (.slice A n cap) (tb R C f)) (hi : i < C) (hj : j < C) (hij : i ≠ j) (hR0 : 0 < R) (hC : C ≤ 24) (hR : R ≤ 24) :
    Calls Try.prog 217 #[.agg #[.int .i64 R, .int .i64 C, .slice A n cap], .agg #[.int .i64 0, .int .i64 i, .int .i64 j, .int .i64 ti]] w (WW (.tuple #[]) (.slice A n cap) B (tb R C (tp (swF (tp f) i j))) w) := by
  have hn := h.lenEq
  rw [tb_len] at hn
  have hcaps := h.caps
  have hR1 := idx_nat (show R - 1 < R by omega) hi
  have hlim : ∀ k, k < R → k * C + C ≤ n := fun k hk => by
    have := idx_nat hk (show C - 1 < C by omega)
    omega
  obtain ⟨g, rfl, hg1, hg2⟩ := h.begins (by rw [tb_len]; omega)
  have HN := Lib.hid hn
  have HLIM := Lib.hid hlim
  have HIJ := Lib.hid hij
  have hm0 : R * C ≤ 24 * 24 := Nat.mul_le_mul hR hC
  have hn9 : n ≤ 576 := by omega
  clear hn hij hlim hR1
  go_enter Try.func217, Try.ntmps217
  go_wp2_with fail
  go_loopw [4] (fun u wr => ∃ k : Nat, u = .int .i64 k ∧ k ≤ R ∧ OR wr B (.slice (some ⟨g, 0, none⟩) n cap) (tb R C (loK f (tp (swF (tp f) i j)) k)) ∧ BM wr w.heap.size R C (some ⟨g, 0, none⟩) n cap ∧ Blk wr (w.heap.size + 1) 66 #[.int .i64 0, .int .i64 i, .int .i64 j, .int .i64 ti] ∧ w.grownBy wr (some g) ∧ w.heap.size ≤ wr.heap.size) (fun v _ => R - (intOf v).toNat)
  case atStart => exact ⟨0, rfl, Nat.zero_le _, by rw [loK_zero]; (with_reducible (repeat (first | exact h | refine OR.drew ?_ | refine OR.drewN ?_ _ | refine OR.alloc ?_ _ | refine OR.b_ ?_ | refine OR.l_ ?_))), Ka, by (with_reducible (repeat (first | assumption | refine Blk.new_at _ _ _ _ Ks | refine Blk.below ?_ (by assumption) Ks | apply Blk.drew | apply Blk.drewN | refine Blk.far ?_ (by simp only [ne_eq]; omega) _ | apply Blk.alloc))), by (with_reducible (repeat (first | assumption | exact World.grownBy.refl _ _ | refine only_alloc ?_ _ | refine only_drewN ?_ _ | refine only_drew ?_ | refine only_set ?_ _ _ | refine grown_far ?_ Ks _ | refine only_trans ?_ (only_of_below (by assumption) _) | refine only_trans ?_ (by assumption)))), by simp; omega⟩
  case round =>
    clear h
    obtain ⟨k, rfl, hk, hown, hM, hO, hgr, hsz⟩ := hrel
    obtain ⟨oa, ob, oc, of, ol⟩ := hM.mx
    have x0 := hO.cell 0
    have x1 := hO.cell 1
    have x2 := hO.cell 2
    have x3 := hO.cell 3
    have hl := hO.lt
    simp at x0 x1 x2 x3
    by_cases hkR : k < R
    · have c1 := hown.cell (k * C + i) (by rw [tb_len]; exact idx_nat hkR hi)
      have c2 := hown.cell (k * C + j) (by rw [tb_len]; exact idx_nat hkR hj)
      rw [tb_at hkR hi, loK_at] at c1
      rw [tb_at hkR hj, loK_at] at c2
      have f1 := hown.frozen (k * C + i)
      have f2 := hown.frozen (k * C + j)
      have hkC := HLIM.out k hkR
      have hne2 : ¬ g = w.heap.size + 1 := by omega
      have hne3 : ¬ g = w.heap.size := by omega
      have hne4 : ¬ w.heap.size = g := by omega
      have hne5 : ¬ w.heap.size + 1 = g := by omega
      have k1 : (k : Int) * (C : Int) = ((k * C : Nat) : Int) := by rw [Int.natCast_mul]
      have K1 := Lib.hid k1
      have g0 : 0 ≤ (k : Int) * (C : Int) ∧ (k : Int) * (C : Int) + C ≤ n ∧ (k : Int) * (C : Int) ≤ 10000 := by omega
      obtain ⟨g0a, g0b, g0c⟩ := g0
      clear k1
      have hne1 : k * C + i ≠ k * C + j := fun e => HIJ.out (by omega)
      have hs1 := (hown.set_ (k * C + i) (f k j)).set_ (k * C + j) (f k i)
      rw [tb_set hkR hi, tb_set hkR hj, ← tpS_i f i j k, ← tpS_j (f := f) (i := i) (j := j) k, loK_step2 k HIJ.out (fun x y h1 h2 => tpS_other x y h1 h2), tpS_i, tpS_j] at hs1
      generalize f k j = y at *
      generalize f k i = x at *
      go_wp2
      go_roundw
      case rel => exact ⟨k + 1, by go_num, by omega, hs1, Kb hM, by (with_reducible (repeat (first | exact hO | refine Blk.new_at _ _ _ _ Ks | refine Blk.below ?_ (by assumption) Ks | apply Blk.drew | apply Blk.drewN | refine Blk.far ?_ (by simp only [ne_eq]; omega) _ | apply Blk.alloc))), by (with_reducible (repeat (first | assumption | exact World.grownBy.refl _ _ | refine only_alloc ?_ _ | refine only_drewN ?_ _ | refine only_drew ?_ | refine only_set ?_ _ _ | refine grown_far ?_ Ks _ | refine only_trans ?_ (only_of_below (by assumption) _) | refine only_trans ?_ (by assumption)))), by simpa [World.setCell] using hsz⟩
      case measure => simp only [intOf]; omega
    · have hfin := hown.as (show _ = tb R C (tp (swF (tp f) i j)) by rw [show k = R by omega]; exact loK_end)
      clear hown
      go_wp2
      go_end0
      exact WW.mk rfl hfin hgr hsz
set_option maxRecDepth 100000 in
set_option maxHeartbeats 4000000 in
theorem spec_l13Col_add (R C i j : Nat) (ti : Int) (A : Option Addr) (n cap : Nat) (f : Fn2) (w : World) {B : Nat} (h : OR w B (.slice A n cap) (tb R C f)) (hi : i < C) (hj : j < C) (hij : i ≠ j) (hm : Num ti) (hf : NBF f) (hR0 : 0 < R) (hC : C ≤ 24) (hR : R ≤ 24) :
    Calls Try.prog 217 #[.agg #[.int .i64 R, .int .i64 C, .slice A n cap], .agg #[.int .i64 2, .int .i64 i, .int .i64 j, .int .i64 ti]] w (WW (.tuple #[]) (.slice A n cap) B (tb R C (tp (opA (tp f) i j ti))) w) := by
  have HM := Lib.hid hm
  have HF := Lib.hid hf
  clear hm hf
  have hn := h.lenEq
  rw [tb_len] at hn
  have hcaps := h.caps
  have hR1 := idx_nat (show R - 1 < R by omega) hi
  have hlim : ∀ k, k < R → k * C + C ≤ n := fun k hk => by
    have := idx_nat hk (show C - 1 < C by omega)
    omega
  obtain ⟨g, rfl, hg1, hg2⟩ := h.begins (by rw [tb_len]; omega)
  have HN := Lib.hid hn
  have HLIM := Lib.hid hlim
  have HIJ := Lib.hid hij
  have hm0 : R * C ≤ 24 * 24 := Nat.mul_le_mul hR hC
  have hn9 : n ≤ 576 := by omega
  clear hn hij hlim hR1
  go_enter Try.func217, Try.ntmps217
  go_wp2_with fail
  go_loopw [4] (fun u wr => ∃ k : Nat, u = .int .i64 k ∧ k ≤ R ∧ OR wr B (.slice (some ⟨g, 0, none⟩) n cap) (tb R C (loK f (tp (opA (tp f) i j ti)) k)) ∧ BM wr w.heap.size R C (some ⟨g, 0, none⟩) n cap ∧ Blk wr (w.heap.size + 1) 66 #[.int .i64 2, .int .i64 i, .int .i64 j, .int .i64 ti] ∧ w.grownBy wr (some g) ∧ w.heap.size ≤ wr.heap.size) (fun v _ => R - (intOf v).toNat)
  case atStart => exact ⟨0, rfl, Nat.zero_le _, by rw [loK_zero]; (with_reducible (repeat (first | exact h | refine OR.drew ?_ | refine OR.drewN ?_ _ | refine OR.alloc ?_ _ | refine OR.b_ ?_ | refine OR.l_ ?_))), Ka, by (with_reducible (repeat (first | assumption | refine Blk.new_at _ _ _ _ Ks | refine Blk.below ?_ (by assumption) Ks | apply Blk.drew | apply Blk.drewN | refine Blk.far ?_ (by simp only [ne_eq]; omega) _ | apply Blk.alloc))), by (with_reducible (repeat (first | assumption | exact World.grownBy.refl _ _ | refine only_alloc ?_ _ | refine only_drewN ?_ _ | refine only_drew ?_ | refine only_set ?_ _ _ | refine grown_far ?_ Ks _ | refine only_trans ?_ (only_of_below (by assumption) _) | refine only_trans ?_ (by assumption)))), by simp; omega⟩
  case round =>
    clear h
    obtain ⟨k, rfl, hk, hown, hM, hO, hgr, hsz⟩ := hrel
    obtain ⟨oa, ob, oc, of, ol⟩ := hM.mx
    have x0 := hO.cell 0
    have x1 := hO.cell 1
    have x2 := hO.cell 2
    have x3 := hO.cell 3
    have hl := hO.lt
    simp at x0 x1 x2 x3
    by_cases hkR : k < R
    · have c1 := hown.cell (k * C + i) (by rw [tb_len]; exact idx_nat hkR hi)
      have c2 := hown.cell (k * C + j) (by rw [tb_len]; exact idx_nat hkR hj)
      rw [tb_at hkR hi, loK_at] at c1
      rw [tb_at hkR hj, loK_at] at c2
      have f1 := hown.frozen (k * C + i)
      have f2 := hown.frozen (k * C + j)
      have hkC := HLIM.out k hkR
      have hne2 : ¬ g = w.heap.size + 1 := by omega
      have hne3 : ¬ g = w.heap.size := by omega
      have hne4 : ¬ w.heap.size = g := by omega
      have hne5 : ¬ w.heap.size + 1 = g := by omega
      have k1 : (k : Int) * (C : Int) = ((k * C : Nat) : Int) := by rw [Int.natCast_mul]
      have K1 := Lib.hid k1
      have g0 : 0 ≤ (k : Int) * (C : Int) ∧ (k : Int) * (C : Int) + C ≤ n ∧ (k : Int) * (C : Int) ≤ 10000 := by omega
      obtain ⟨g0a, g0b, g0c⟩ := g0
      clear k1
      have hs1 := hown.set_ (k * C + i) (tp (opA (tp f) i j ti) k i)
      rw [tb_set hkR hi, loK_step k (fun x y h1 => tpA_other x y h1)] at hs1
      have HX := Lib.hid (HF.out k i)
      have HY := Lib.hid (HF.out k j)
      have HE := Lib.hid (tpA_at f i j ti k)
      generalize tp (opA (tp f) i j ti) k i = v at *
      generalize f k j = y at *
      generalize f k i = x at *
      go_wp2
      have i1 := K1.out
      have g1 : IntKind.i64.wrap ((k : Int) * (C : Int)) = (k : Int) * (C : Int) := IntWalk.i64_in _ (by omega)
      have g2 : IntKind.i64.wrap ((k : Int) * (C : Int) + (i : Int)) = (k : Int) * (C : Int) + (i : Int) := IntWalk.i64_in _ (by omega)
      have g6 : 0 ≤ (k : Int) * (C : Int) + (i : Int) ∧ (k : Int) * (C : Int) + (i : Int) < (n : Int) := by omega
      have e5 : ((k : Int) * (C : Int) + (i : Int)).toNat = k * C + i := by omega
      rw [← e5] at c1 f1 hs1
      clear i1 e5
      ((refine wp_region_held_drew (S := (fun w' => w'.cell? ⟨w.heap.size, 1, none⟩ = some (.int .i64 C) ∧ w'.cell? ⟨w.heap.size, 2, none⟩ = some (.slice (some ⟨g, 0, none⟩) n cap) ∧ w'.cell? ⟨w.heap.size + 1, 1, none⟩ = some (.int .i64 i) ∧ w'.cell? ⟨w.heap.size + 1, 3, none⟩ = some (.int .i64 ti))) (by kernel_rfl) ?_ (fun hHeld => ?_)); ((focus ((try dsimp only); (go_keep)))); ((refine tk_ (i := 0) (v := ?_) (y := Or.inl ⟨by rfl, ?_⟩) (h := ?_); rotate_left; (focus (((intro w hSw; (try dsimp only at hSw); go_simp) <;> (try with_reducible rfl)); done)); (try simp only [Act.put, p1_, p2_, p3_]))); ((refine tk_ (i := 1) (v := ?_) (y := Or.inl ⟨by rfl, ?_⟩) (h := ?_); rotate_left; (focus (((intro w hSw; (try dsimp only at hSw); go_simp) <;> (try with_reducible rfl)); done)); (try simp only [Act.put, p1_, p2_, p3_]))); ((refine tk_ (i := 2) (v := ?_) (y := Or.inl ⟨by rfl, ?_⟩) (h := ?_); rotate_left; (focus (((intro w hSw; (try dsimp only at hSw); go_simp) <;> (try with_reducible rfl)); done)); (try simp only [Act.put, p1_, p2_, p3_]))); ((refine tk_ (i := 3) (v := ?_) (y := Or.inl ⟨by rfl, ?_⟩) (h := ?_); rotate_left; (focus (((intro w hSw; (try dsimp only at hSw); go_simp) <;> (try with_reducible rfl)); done)); (try simp only [Act.put, p1_, p2_, p3_]))); ((refine tk_ (i := 4) (v := ?_) (y := Or.inl ⟨by rfl, ?_⟩) (h := ?_); rotate_left; (focus (((intro w hSw; (try dsimp only at hSw); go_simp) <;> (try with_reducible rfl)); done)); (try simp only [Act.put, p1_, p2_, p3_]))); ((refine tk_ (i := 5) (v := ?_) (y := Or.inl ⟨by rfl, ?_⟩) (h := ?_); rotate_left; (focus (((intro w hSw; (try dsimp only at hSw); go_simp) <;> (try with_reducible rfl)); done)); (try simp only [Act.put, p1_, p2_, p3_]))); ((refine tk_ (i := 6) (v := ?_) (y := Or.inl ⟨by rfl, ?_⟩) (h := ?_); rotate_left; (focus (((intro w hSw; (try dsimp only at hSw); go_simp) <;> (try with_reducible rfl)); done)); (try simp only [Act.put, p1_, p2_, p3_]))); ((refine tk_ (i := 7) (v := ?_) (y := Or.inl ⟨by rfl, ?_⟩) (h := ?_); rotate_left; (focus (((intro w hSw; (try dsimp only at hSw); go_simp) <;> (try with_reducible rfl)); done)); (try simp only [Act.put, p1_, p2_, p3_]))); ((refine tk_ (i := 8) (v := ?_) (y := Or.inl ⟨by rfl, ?_⟩) (h := ?_); rotate_left; (focus (((intro w hSw; (try dsimp only at hSw); go_simp) <;> (try with_reducible rfl)); done)); (try simp only [Act.put, p1_, p2_, p3_]))); ((refine tk_ (i := 9) (v := ?_) (y := Or.inl ⟨by rfl, ?_⟩) (h := ?_); rotate_left; (focus (((intro w hSw; (try dsimp only at hSw); go_simp) <;> (try with_reducible rfl)); done)); (try simp only [Act.put, p1_, p2_, p3_]))); ((refine tk_ (i := 10) (v := ?_) (y := Or.inl ⟨by rfl, ?_⟩) (h := ?_); rotate_left; (focus (((intro w hSw; (try dsimp only at hSw); go_simp) <;> (try with_reducible rfl)); done)); (try simp only [Act.put, p1_, p2_, p3_]))); ((refine tk_ (i := 11) (v := ?_) (y := Or.inl ⟨by rfl, ?_⟩) (h := ?_); rotate_left; (focus (((intro w hSw; (try dsimp only at hSw); go_simp) <;> (try with_reducible rfl)); done)); (try simp only [Act.put, p1_, p2_, p3_]))); ((refine tk_ (i := 12) (v := ?_) (y := Or.inl ⟨by rfl, ?_⟩) (h := ?_); rotate_left; (focus (((intro w hSw; (try dsimp only at hSw); go_simp) <;> (try with_reducible rfl)); done)); (try simp only [Act.put, p1_, p2_, p3_]))); ((refine wpAnyH_ready (rs := [13]) (by kernel_rfl) (by simp) ?_; refine AllReadyH.cons (by simp only [e1_, e2_, e3_]; try rfl) (fun K hK => ?_) AllReadyH.nil; go_simp; (go_at_call 190; refine (spec_l1Mul y ti _ HY.out HM.out.nb).mono ?_; rintro e w' ⟨rfl, rfl⟩); (try go_wp2_with fail); refine hK.out _ _ ?_ (fun hHeld => ?_); (focus ((try dsimp only); (go_keep))); clear hK K; (try simp only [Act.put, p1_, p2_, p3_]))); ((refine wpAnyH_ready (rs := [14]) (by kernel_rfl) (by simp) ?_; refine AllReadyH.cons (by simp only [e1_, e2_, e3_]; try rfl) (fun K hK => ?_) AllReadyH.nil; go_simp; (go_at_call 232; refine (spec_l1Add x _ _ HX.out (NB.mulF y ti)).mono ?_; rw [← HE.out]; rintro e w' ⟨rfl, rfl⟩); (try go_wp2_with fail); refine hK.out _ _ ?_ (fun hHeld => ?_); (focus ((try dsimp only); (go_keep))); clear hK K; (try simp only [Act.put, p1_, p2_, p3_]))); ((refine tk_ (i := 15) (v := ?_) (y := Or.inl ⟨by rfl, ?_⟩) (h := ?_); rotate_left; (focus (((intro w hSw; (try dsimp only at hSw); go_simp) <;> (try with_reducible rfl)); done)); (try simp only [Act.put, p1_, p2_, p3_]))); ((refine wpAnyH_ready (rs := [16]) (by kernel_rfl) (by simp) ?_; refine AllReadyH.cons (by simp only [e1_, e2_, e3_]; try rfl) (fun K hK => ?_) AllReadyH.nil; go_simp; (try go_wp2_with fail); refine hK.out _ _ ?_ (fun hHeld => ?_); (focus ((try dsimp only); (go_keep))); clear hK K; (try simp only [Act.put, p1_, p2_, p3_]))); (refine wpAnyH_done (by kernel_rfl) ?_ _))
      go_wp2
      go_roundw
      case rel => exact ⟨k + 1, by go_num, by omega, hs1, Kb hM, by (with_reducible (repeat (first | exact hO | refine Blk.new_at _ _ _ _ Ks | refine Blk.below ?_ (by assumption) Ks | apply Blk.drew | apply Blk.drewN | refine Blk.far ?_ (by simp only [ne_eq]; omega) _ | apply Blk.alloc))), by (with_reducible (repeat (first | assumption | exact World.grownBy.refl _ _ | refine only_alloc ?_ _ | refine only_drewN ?_ _ | refine only_drew ?_ | refine only_set ?_ _ _ | refine grown_far ?_ Ks _ | refine only_trans ?_ (only_of_below (by assumption) _) | refine only_trans ?_ (by assumption)))), by simpa [World.setCell] using hsz⟩
      case measure => simp only [intOf]; omega
    · have hfin := hown.as (show _ = tb R C (tp (opA (tp f) i j ti)) by rw [show k = R by omega]; exact loK_end)
      clear hown
      go_wp2
      go_end0
      exact WW.mk rfl hfin hgr hsz
end Go.Proofs.Ytacjonkehcamgaa

/-
  DERIVED. What stays under all operations of the Smith form; u m v = d, and u takes only zeros to zeros: no program in sight.
-/
namespace Go.Proofs.Ytacjonkehcamgaa
set_option linter.unusedVariables false
/-- A property that stays under the operations. -/
structure Stays (R C t0 : Nat) (P : SS → Prop) : Prop where
  radd : ∀ (s : SS) (i j : Nat) (t : Int), i < R → j < R → t0 ≤ i → t0 ≤ j → i ≠ j → SGD R C s → (s.wr (s.row.add i j t)).OK R C → P s → P (s.wr (s.row.add i j t))
  rswap : ∀ (s : SS) (i j : Nat), i < R → j < R → t0 ≤ i → t0 ≤ j → i ≠ j → SGD R C s → P s → P (s.wr (s.row.swap i j))
  rneg : ∀ (s : SS) (i : Nat), i < R → t0 ≤ i → SGD R C s → P s → P (s.wr (s.row.neg i))
  cadd : ∀ (s : SS) (i j : Nat) (t : Int), i < C → j < C → t0 ≤ i → t0 ≤ j → i ≠ j → SGD R C s → (s.wc (s.col.add i j t)).OK R C → P s → P (s.wc (s.col.add i j t))
  cswap : ∀ (s : SS) (i j : Nat), i < C → j < C → t0 ≤ i → t0 ≤ j → i ≠ j → SGD R C s → P s → P (s.wc (s.col.swap i j))
section
variable {R C t : Nat} {P : SS → Prop} {s : SS}
theorem Stays.b (H : Stays R C t P) (h : SGD R C s) (hP : P s) (ht : t < R) : ∀ n, t + n ≤ R → (s.wr (swS t t t s.row n)).OK R C → P (s.wr (swS t t t s.row n))
  | 0, _, _ => hP
  | n + 1, hn, hk => by
    have hk' : (s.wr (swS t t t s.row n)).OK R C := by
      have h1 := swS_back (R := R) (C := C) h.row.nb hk.ofRow
      exact ⟨h1.f, h1.g, hk.h⟩
    have ih := H.b h hP ht n (by omega) hk'
    rw [swS_succ] at hk ⊢
    split
    · rename_i hc
      rw [if_pos hc] at hk
      have hg : SGD R C (s.wr (swS t t t s.row n)) := ⟨hk', h.nb.wr (swS_nb h.row.nb n)⟩
      exact H.radd (s.wr (swS t t t s.row n)) (t + n) t _ (by omega) ht (by omega) (Nat.le_refl _) hc.1 hg hk ih
    · exact ih
theorem Stays.c (H : Stays R C t P) (h : SGD R C s) (hP : P s) (ht : t < C) : ∀ n, t + n ≤ C → (s.wc (swS t t t s.col n)).OK R C → P (s.wc (swS t t t s.col n))
  | 0, _, _ => hP
  | n + 1, hn, hk => by
    have hk' : (s.wc (swS t t t s.col n)).OK R C := by
      have h1 := swS_back (R := C) (C := R) h.col.nb hk.ofCol
      exact ⟨tp_ok h1.f, hk.g, tp_ok h1.g⟩
    have ih := H.c h hP ht n (by omega) hk'
    rw [swS_succ] at hk ⊢
    split
    · rename_i hc
      rw [if_pos hc] at hk
      have hg : SGD R C (s.wc (swS t t t s.col n)) := ⟨hk', h.nb.wc (swS_nb h.col.nb n)⟩
      exact H.cadd (s.wc (swS t t t s.col n)) (t + n) t _ (by omega) ht (by omega) (Nat.le_refl _) hc.1 hg hk ih
    · exact ih
theorem Stays.a1 (H : Stays R C t P) {r : Nat} (h : SGD R C s) (hP : P s) (hr : r < R) (hr0 : t ≤ r) (ht : t < R) : P (sfA1 t r s) := by
  unfold sfA1
  split
  · exact hP
  · rename_i hne
    exact H.rswap s r t hr ht hr0 (Nat.le_refl _) hne h hP
theorem Stays.a2 (H : Stays R C t P) {c : Nat} (h : SGD R C s) (hP : P s) (hc : c < C) (hc0 : t ≤ c) (ht : t < C) : P (sfA2 t c s) := by
  unfold sfA2
  split
  · exact hP
  · rename_i hne
    exact H.cswap s c t hc ht hc0 (Nat.le_refl _) hne h hP
theorem Stays.rnd (H : Stays R C t P) {p q : Nat} (h : SGD R C s) (hP : P s) (e : ls2 R C s.f t = ((p : Int), (q : Int))) (hp0 : t ≤ p) (hp : p < R) (hq0 : t ≤ q) (hq : q < C) (ht : t < R) (htC : t < C) (hk : (rnd R C t s).1.OK R C) : P (rnd R C t s).1 := by
  have eA : sfA R C t s = sfA2 t q (sfA1 t p s) := by unfold sfA; rw [e]; rfl
  have hA : SGD R C (sfA R C t s) := by rw [eA]; exact (h.a1 hp ht).a2 hq htC
  have pA : P (sfA R C t s) := by rw [eA]; exact H.a2 (h.a1 hp ht) (H.a1 h hP hp hp0 ht) hq hq0 htC
  obtain ⟨hB, hC⟩ := rnd_back hA.nb hk
  have gB : SGD R C (sfB R t (sfA R C t s)) := ⟨hB, sfB_nb hA.nb⟩
  have pB : P (sfB R t (sfA R C t s)) := H.b hA pA ht (R - t) (by omega) hB
  have gC : SGD R C (sfC C t (sfB R t (sfA R C t s))) := ⟨hC, sfC_nb gB.nb⟩
  have pC : P (sfC C t (sfB R t (sfA R C t s))) := H.c gB pB htC (C - t) (by omega) hC
  unfold Go.Proofs.Ytacjonkehcamgaa.rnd at hk ⊢
  generalize sfC C t (sfB R t (sfA R C t s)) = s2 at *
  unfold sfD at hk ⊢
  split
  · rename_i hcl
    rw [if_pos hcl] at hk
    rcases hf : fd R C t s2.f with _ | i
    · exact pC
    · rw [hf] at hk
      obtain ⟨i1, i2, i3⟩ := fd_some hf
      exact H.radd s2 t i 1 ht i2 (Nat.le_refl _) (by omega) (by omega) gC hk pC
  · exact pC
theorem Stays.in_ (H : Stays R C t P) (ht : t < R) (htC : t < C) : ∀ (k : Nat) (s : SS), sfMs R C t s ≤ k → SGD R C s → P s → ¬ (ls2 R C s.f t).1 < 0 → ∀ s', sfIn R C t s = some s' → P s' := by
  intro k
  induction k with
  | zero =>
    intro s hk hg hP hn s' he
    rcases ls2_cases R C s.f t with ⟨e, _⟩ | ⟨p, q, e, ⟨a1, a2, a3, a4⟩, h3, h4, h5⟩
    · rw [e] at hn; exact absurd (by decide) hn
    · have hV : lsV R C t s = (s.f p q).natAbs := by unfold lsV; rw [e]; rfl
      unfold sfMs at hk
      omega
  | succ k ih =>
    intro s hk hg hP hn s' he
    rcases ls2_cases R C s.f t with ⟨e, _⟩ | ⟨p, q, e, ⟨a1, a2, a3, a4⟩, h3, h4, h5⟩
    · rw [e] at hn; exact absurd (by decide) hn
    · rw [sfIn] at he
      have hA : SGD R C (sfA R C t s) := by
        unfold sfA
        rw [e]
        exact (hg.a1 a2 ht).a2 a4 htC
      have hnb : (Go.Proofs.Ytacjonkehcamgaa.rnd R C t s).1.NBS := sfD_nb (sfC_nb (sfB_nb hA.nb))
      split at he
      · rename_i hok
        have hk' := (SS.ok_iff hnb).1 hok
        have hP' := H.rnd hg hP e a1 a2 a3 a4 ht htC hk'
        split at he
        · cases he
          exact hP'
        · rename_i hd
          split at he
          · rename_i hlt
            obtain ⟨_, hne⟩ := rnd_lt hg ht htC e a2 a4 h3 (h5 ht htC) hk' (by simpa using hd)
            refine ih _ (by omega) (rnd_gd hg e a2 a4 ht htC hk') hP' ?_ s' he
            obtain ⟨p2, q2, e2, _⟩ := ls2_some (R := R) (C := C) (Nat.le_refl t) ht (Nat.le_refl t) htC hne
            rw [e2]
            dsimp only
            omega
          · cases he
      · cases he
end
theorem Stays.out {R C : Nat} {P : SS → Prop} (H : ∀ t, Stays R C t P) : ∀ (m t : Nat) (s s' : SS), t + m ≤ R → t + m ≤ C → SGD R C s → P s → sfOut R C m t s = some s' → P s'
  | 0, t, s, s', _, _, hg, hP, he => by cases he; exact hP
  | m + 1, t, s, s', h1, h2, hg, hP, he => by
    by_cases hn : (ls2 R C s.f t).1 < 0
    · rw [sfOut_stop hn] at he; cases he; exact hP
    · rw [sfOut_go hn] at he
      unfold sfGo at he
      rcases hi : sfIn R C t s with _ | s2
      · rw [hi] at he; cases he
      · rw [hi] at he
        have g2 := sfIn_gd (by omega) (by omega) _ s (Nat.le_refl _) hg hn s2 hi
        have p2 := (H t).in_ (by omega) (by omega) _ s (Nat.le_refl _) hg hP hn s2 hi
        have pN : P (sfN t s2) := by
          unfold sfN
          split
          · exact (H t).rneg s2 t (by omega) (Nat.le_refl _) g2 p2
          · exact p2
        exact Stays.out H m (t + 1) (sfN t s2) s' (by omega) (by omega) (g2.n (by omega)) pN he
theorem Stays.all {R C : Nat} {P : SS → Prop} (H : ∀ t, Stays R C t P) {xs : List Int} {s : SS} (h : sfX R C xs = some s) (h0 : P ⟨fun i j => cel xs C i j, idF, idF⟩) : P s := by
  rcases hm : isMat (R : Int) (C : Int) xs with _ | _
  · rw [sfX_no hm] at h; cases h
  · rw [sfX_yes hm] at h
    have M := isMat_iff.1 hm
    have hs := start_gd (R := R) (C := C) M.num
    exact Stays.out H _ _ _ _ (by omega) (by omega) ⟨⟨hs.ok.f, hs.ok.g, idF_ok C C⟩, ⟨hs.nb.f, hs.nb.g, idF_nb⟩⟩ h0 h
/-- d = u m v, and u takes only zeros to zeros. -/
def UMV (R C : Nat) (m : Fn2) (s : SS) : Prop := EqM R C (mm C (mm R s.g m) s.h) s.f ∧ INJ R s.g
theorem opA_val {f : Fn2} {R C i j y : Nat} {t : Int} (h : OKF R C (opA f i j t)) (hi : i < R) (hy : y < C) : opA f i j t i y = f i y + f j y * t := (opA_num (h i y hi hy)).2.2.1
theorem mm_left {n : Nat} {g g' m : Fn2} {x y : Nat} (h : ∀ k, k < n → g' x k = g x k) : mm n g' m x y = mm n g m x y := sumTo_congr n fun k hk => by rw [h k hk]
theorem UMV.stays (R C : Nat) (m : Fn2) (t0 : Nat) : Stays R C t0 (UMV R C m) where
  radd := fun s i j t hi hj _ _ hij hg hk hP => by
    have e1 : ∀ y, y < R → opA s.g i j t i y = s.g i y + s.g j y * t := fun y hy => opA_val hk.g hi hy
    refine ⟨fun x y hx hy => ?_, hP.2.add hi hj hij e1 (fun x y _ _ hne => opA_other hne)⟩
    show mm C (mm R (opA s.g i j t) m) s.h x y = opA s.f i j t x y
    have kf : OKF R C (opA s.f i j t) := hk.f
    by_cases hxi : x = i
    · subst hxi
      rw [opA_val kf hx hy, ← hP.1 x y hx hy, ← hP.1 j y hj hy]
      unfold mm
      rw [← sumTo_mul, ← sumTo_add]
      refine sumTo_congr C fun k hk2 => ?_
      have e2 : sumTo (fun l => opA s.g x j t x l * m l k) R = sumTo (fun l => s.g x l * m l k) R + sumTo (fun l => s.g j l * m l k) R * t := by
        rw [← sumTo_mul, ← sumTo_add]
        exact sumTo_congr R fun l hl => by rw [e1 l hl]; grind
      rw [e2]
      grind
    · rw [opA_other hxi, ← hP.1 x y hx hy]
      exact mm_left fun k hk2 => mm_left fun l hl => opA_other hxi
  rswap := fun s i j hi hj _ _ hij hg hP => by
    refine ⟨fun x y hx hy => ?_, hP.2.swap hi hj⟩
    show mm C (mm R (swF s.g i j) m) s.h x y = swF s.f i j x y
    have key : ∀ z, z < R → (∀ k, swF s.g i j x k = s.g z k) → (swF s.f i j x y = s.f z y) → mm C (mm R (swF s.g i j) m) s.h x y = swF s.f i j x y := fun z hz h1 h2 => by
      rw [h2, ← hP.1 z y hz hy]
      unfold mm
      refine sumTo_congr C fun k _ => ?_
      rw [sumTo_congr R (fun l _ => by rw [h1 l])]
    by_cases h1 : x = i
    · exact key j hj (fun k => by unfold swF; rw [if_pos h1]) (by unfold swF; rw [if_pos h1])
    · by_cases h2 : x = j
      · exact key i hi (fun k => by unfold swF; rw [if_neg h1, if_pos h2]) (by unfold swF; rw [if_neg h1, if_pos h2])
      · exact key x hx (fun k => by unfold swF; rw [if_neg h1, if_neg h2]) (by unfold swF; rw [if_neg h1, if_neg h2])
  rneg := fun s i hi _ hg hP => by
    have e1 : ∀ y, y < R → opM s.g i i y = -s.g i y := fun y hy => opM_at (hg.ok.g i y hi hy)
    have o1 : ∀ (f : Fn2) x y, x ≠ i → opM f i x y = f x y := fun f x y hne => by unfold opM; rw [if_neg hne]
    refine ⟨fun x y hx hy => ?_, hP.2.neg e1 (fun x y _ _ hne => o1 _ _ _ hne)⟩
    show mm C (mm R (opM s.g i) m) s.h x y = opM s.f i x y
    by_cases hxi : x = i
    · subst hxi
      rw [opM_at (hg.ok.f x y hx hy), ← hP.1 x y hx hy]
      unfold mm
      rw [← sumTo_neg]
      refine sumTo_congr C fun k hk2 => ?_
      have e2 : sumTo (fun l => opM s.g x x l * m l k) R = -sumTo (fun l => s.g x l * m l k) R := by
        rw [← sumTo_neg]
        exact sumTo_congr R fun l hl => by rw [e1 l hl, Int.neg_mul]
      rw [e2, Int.neg_mul]
    · rw [o1 _ _ _ hxi, ← hP.1 x y hx hy]
      exact mm_left fun k hk2 => mm_left fun l hl => o1 _ _ _ hxi
  cadd := fun s i j t hi hj _ _ hij hg hk hP => by
    refine ⟨fun x y hx hy => ?_, hP.2⟩
    show mm C (mm R s.g m) (tp (opA (tp s.h) i j t)) x y = tp (opA (tp s.f) i j t) x y
    have kf : OKF C R (opA (tp s.f) i j t) := tp_ok hk.f
    have kh : OKF C C (opA (tp s.h) i j t) := tp_ok hk.h
    by_cases hyi : y = i
    · subst hyi
      show _ = opA (tp s.f) y j t y x
      rw [opA_val kf hy hx]
      show _ = s.f x y + s.f x j * t
      rw [← hP.1 x y hx hy, ← hP.1 x j hx hj]
      unfold mm
      rw [← sumTo_mul, ← sumTo_add]
      refine sumTo_congr C fun k hk2 => ?_
      have e2 : tp (opA (tp s.h) y j t) k y = s.h k y + s.h k j * t := opA_val kh hy hk2
      rw [e2]
      grind
    · show _ = opA (tp s.f) i j t y x
      rw [opA_other hyi]
      show _ = s.f x y
      rw [← hP.1 x y hx hy]
      exact sumTo_congr C fun k hk2 => by
        have e2 : tp (opA (tp s.h) i j t) k y = s.h k y := opA_other hyi
        rw [e2]
  cswap := fun s i j hi hj _ _ hij hg hP => by
    refine ⟨fun x y hx hy => ?_, hP.2⟩
    show mm C (mm R s.g m) (tp (swF (tp s.h) i j)) x y = swF (tp s.f) i j y x
    have key : ∀ z, z < C → (∀ k, swF (tp s.h) i j y k = s.h k z) → (swF (tp s.f) i j y x = s.f x z) → mm C (mm R s.g m) (tp (swF (tp s.h) i j)) x y = swF (tp s.f) i j y x := fun z hz h1 h2 => by
      rw [h2, ← hP.1 x z hx hz]
      exact sumTo_congr C fun k _ => by
        have e2 : tp (swF (tp s.h) i j) k y = s.h k z := h1 k
        rw [e2]
    by_cases h1 : y = i
    · exact key j hj (fun k => by unfold swF; rw [if_pos h1]; rfl) (by unfold swF; rw [if_pos h1]; rfl)
    · by_cases h2 : y = j
      · exact key i hi (fun k => by unfold swF; rw [if_neg h1, if_pos h2]; rfl) (by unfold swF; rw [if_neg h1, if_pos h2]; rfl)
      · exact key y hy (fun k => by unfold swF; rw [if_neg h1, if_neg h2]; rfl) (by unfold swF; rw [if_neg h1, if_neg h2]; rfl)
theorem UMV.start (R C : Nat) (m : Fn2) : UMV R C m ⟨m, idF, idF⟩ := by
  refine ⟨fun i j hi hj => ?_, INJ.id R⟩
  show mm C (mm R idF m) idF i j = m i j
  have e1 : ∀ k, mm R idF m i k = m i k := fun k => mv_id (fun l => m l k) hi
  unfold mm
  rw [sumTo_one C hj]
  · show mm R idF m i j * idF j j = m i j
    rw [e1]; unfold idF; rw [if_pos rfl, Int.mul_one]
  · intro k hk hne
    unfold idF
    rw [if_neg hne, Int.mul_zero]
/-- The Smith form of a matrix is the product. -/
theorem sfX_umv {R C : Nat} {xs : List Int} {s : SS} (h : sfX R C xs = some s) : UMV R C (fun i j => cel xs C i j) s := Stays.all (UMV.stays R C _) h (UMV.start R C _)
/-- A solution of the Smith form gives one of the matrix. -/
theorem sf_solves {R C : Nat} {m : Fn2} {s : SS} (h : UMV R C m s) {b y : Nat → Int} (hy : ∀ i, i < R → mv C s.f y i = mv R s.g b i) : ∀ i, i < R → mv C m (mv C s.h y) i = b i := by
  refine h.2.eq fun i hi => ?_
  rw [← hy i hi, ← mv_mm C R s.g m (mv C s.h y) i, ← mv_mm C C (mm R s.g m) s.h y i]
  exact mv_congr (fun k hk => h.1 i k hi hk) (fun _ _ => rfl)
/-- Outside of the diagonal there are zeros in the first t rows and columns. -/
def Clr (R C t : Nat) (s : SS) : Prop := ∀ x y, x < R → y < C → x ≠ y → (x < t ∨ y < t) → s.f x y = 0
theorem Clr.stays (R C t : Nat) : Stays R C t (Clr R C t) where
  radd := fun s i j q hi hj ti tj hij hg hk hP x y hx hy hxy h => by
    show opA s.f i j q x y = 0
    have kf : OKF R C (opA s.f i j q) := hk.f
    by_cases hxi : x = i
    · subst hxi
      rw [opA_val kf hx hy, hP x y hx hy hxy h, hP j y hj hy (by omega) (.inr (by omega)), Int.zero_mul, Int.zero_add]
    · rw [opA_other hxi]; exact hP x y hx hy hxy h
  rswap := fun s i j hi hj ti tj hij hg hP x y hx hy hxy h => by
    show swF s.f i j x y = 0
    unfold swF
    split
    · rename_i e; exact hP j y hj hy (by omega) (.inr (by omega))
    · split
      · rename_i e; exact hP i y hi hy (by omega) (.inr (by omega))
      · exact hP x y hx hy hxy h
  rneg := fun s i hi ti hg hP x y hx hy hxy h => by
    show opM s.f i x y = 0
    by_cases hxi : x = i
    · subst hxi
      rw [opM_at (hg.ok.f x y hx hy), hP x y hx hy hxy h]; rfl
    · unfold opM; rw [if_neg hxi]; exact hP x y hx hy hxy h
  cadd := fun s i j q hi hj ti tj hij hg hk hP x y hx hy hxy h => by
    show opA (tp s.f) i j q y x = 0
    have kf : OKF C R (opA (tp s.f) i j q) := tp_ok hk.f
    by_cases hyi : y = i
    · subst hyi
      rw [opA_val kf hy hx]
      show s.f x y + s.f x j * q = 0
      rw [hP x y hx hy hxy h, hP x j hx hj (by omega) (.inl (by omega)), Int.zero_mul, Int.zero_add]
    · rw [opA_other hyi]; exact hP x y hx hy hxy h
  cswap := fun s i j hi hj ti tj hij hg hP x y hx hy hxy h => by
    show swF (tp s.f) i j y x = 0
    unfold swF
    split
    · rename_i e; exact hP x j hx hj (by omega) (.inl (by omega))
    · split
      · rename_i e; exact hP x i hx hi (by omega) (.inl (by omega))
      · exact hP x y hx hy hxy h
theorem rnd_done {R C t : Nat} {s : SS} (h : (rnd R C t s).2 = true) : clnS R C t (rnd R C t s).1.f = true ∧ fd R C t (rnd R C t s).1.f = none := by
  unfold rnd at h ⊢
  generalize sfC C t (sfB R t (sfA R C t s)) = s2 at *
  unfold sfD at h ⊢
  by_cases hc : clnS R C t s2.f = true
  · rw [if_pos hc] at h ⊢
    rcases hf : fd R C t s2.f with _ | i
    · exact ⟨hc, hf⟩
    · rw [hf] at h; cases h
  · rw [if_neg hc] at h; cases h
/-- What holds at (t, t) when nothing is left. -/
def Dn (R C t : Nat) (s : SS) : Prop := clnS R C t s.f = true ∧ fd R C t s.f = none ∧ s.f t t ≠ 0
theorem rnd_piv {R C t p q : Nat} {s : SS} (h : SGD R C s) (e : ls2 R C s.f t = ((p : Int), (q : Int))) (hp : p < R) (hq : q < C) (hpq : s.f p q ≠ 0) (ht : t < R) (htC : t < C) (hk : (rnd R C t s).1.OK R C) (hd : (rnd R C t s).2 = true) : (rnd R C t s).1.f t t ≠ 0 := by
  have eA : sfA R C t s = sfA2 t q (sfA1 t p s) := by unfold sfA; rw [e]; rfl
  have hA : SGD R C (sfA R C t s) := by rw [eA]; exact (h.a1 hp ht).a2 hq htC
  have hpiv : (sfA R C t s).f t t = s.f p q := by rw [eA]; exact sfA_piv p q s
  obtain ⟨hB, hC⟩ := rnd_back hA.nb hk
  obtain ⟨f1, -, -⟩ := rnd_facts hA.nb ht htC (by rw [hpiv]; exact hpq) hB hC
  unfold rnd at hd ⊢
  generalize sfC C t (sfB R t (sfA R C t s)) = s2 at *
  unfold sfD at hd ⊢
  by_cases hc : clnS R C t s2.f = true
  · rw [if_pos hc] at hd ⊢
    rcases hf : fd R C t s2.f with _ | i
    · show s2.f t t ≠ 0
      rw [f1, hpiv]; exact hpq
    · rw [hf] at hd; cases hd
  · rw [if_neg hc] at hd; cases hd
theorem sfIn_dn {R C t : Nat} (ht : t < R) (htC : t < C) : ∀ (k : Nat) (s : SS), sfMs R C t s ≤ k → SGD R C s → ¬ (ls2 R C s.f t).1 < 0 → ∀ s', sfIn R C t s = some s' → Dn R C t s' := by
  intro k
  induction k with
  | zero =>
    intro s hk hg hn s' he
    rcases ls2_cases R C s.f t with ⟨e, _⟩ | ⟨p, q, e, ⟨a1, a2, a3, a4⟩, h3, h4, h5⟩
    · rw [e] at hn; exact absurd (by decide) hn
    · have hV : lsV R C t s = (s.f p q).natAbs := by unfold lsV; rw [e]; rfl
      unfold sfMs at hk
      omega
  | succ k ih =>
    intro s hk hg hn s' he
    rcases ls2_cases R C s.f t with ⟨e, _⟩ | ⟨p, q, e, ⟨a1, a2, a3, a4⟩, h3, h4, h5⟩
    · rw [e] at hn; exact absurd (by decide) hn
    · rw [sfIn] at he
      have hA : SGD R C (sfA R C t s) := by
        unfold sfA
        rw [e]
        exact (hg.a1 a2 ht).a2 a4 htC
      have hnb : (rnd R C t s).1.NBS := sfD_nb (sfC_nb (sfB_nb hA.nb))
      split at he
      · rename_i hok
        have hk' := (SS.ok_iff hnb).1 hok
        split at he
        · rename_i hd
          cases he
          obtain ⟨d1, d2⟩ := rnd_done hd
          exact ⟨d1, d2, rnd_piv hg e a2 a4 h3 ht htC hk' hd⟩
        · rename_i hd
          split at he
          · rename_i hlt
            obtain ⟨_, hne⟩ := rnd_lt hg ht htC e a2 a4 h3 (h5 ht htC) hk' (by simpa using hd)
            refine ih _ (by omega) (rnd_gd hg e a2 a4 ht htC hk') ?_ s' he
            obtain ⟨p2, q2, e2, _⟩ := ls2_some (R := R) (C := C) (Nat.le_refl t) ht (Nat.le_refl t) htC hne
            rw [e2]
            dsimp only
            omega
          · cases he
      · cases he
theorem Dn.clr {R C t : Nat} {s : SS} (h : Dn R C t s) (hc : Clr R C t s) : Clr R C (t + 1) s := fun x y hx hy hxy hl => by
  obtain ⟨z1, z2⟩ := clnS_yes h.1
  by_cases h1 : x < t ∨ y < t
  · exact hc x y hx hy hxy h1
  · rcases hl with hl | hl
    · obtain rfl : x = t := by omega
      exact z2 y (by omega) hy
    · obtain rfl : y = t := by omega
      exact z1 x (by omega) hx
theorem sfOut_diag {R C : Nat} : ∀ (m t : Nat) (s s' : SS), t + m = min R C → SGD R C s → Clr R C t s → sfOut R C m t s = some s' → ∀ x y, x < R → y < C → x ≠ y → s'.f x y = 0
  | 0, t, s, s', hm, hg, hc, he => by
    cases he
    exact fun x y hx hy hxy => hc x y hx hy hxy (by omega)
  | m + 1, t, s, s', hm, hg, hc, he => by
    by_cases hn : (ls2 R C s.f t).1 < 0
    · rw [sfOut_stop hn] at he
      cases he
      intro x y hx hy hxy
      by_cases h1 : x < t ∨ y < t
      · exact hc x y hx hy hxy h1
      · rcases ls2_cases R C s.f t with ⟨_, h⟩ | ⟨p, q, e, _⟩
        · exact h x y (by omega) hx (by omega) hy
        · rw [e] at hn; dsimp only at hn; omega
    · rw [sfOut_go hn] at he
      unfold sfGo at he
      rcases hi : sfIn R C t s with _ | s2
      · rw [hi] at he; cases he
      · rw [hi] at he
        have ht : t < R ∧ t < C := by omega
        have g2 := sfIn_gd ht.1 ht.2 _ s (Nat.le_refl _) hg hn s2 hi
        have p2 := (Clr.stays R C t).in_ ht.1 ht.2 _ s (Nat.le_refl _) hg hc hn s2 hi
        have d2 := sfIn_dn ht.1 ht.2 _ s (Nat.le_refl _) hg hn s2 hi
        have p3 := d2.clr p2
        have pN : Clr R C (t + 1) (sfN t s2) := by
          unfold sfN
          split
          · intro x y hx hy hxy h
            show opM s2.f t x y = 0
            by_cases hxt : x = t
            · subst hxt
              rw [opM_at (g2.ok.f x y hx hy), p3 x y hx hy hxy h]; rfl
            · unfold opM; rw [if_neg hxt]; exact p3 x y hx hy hxy h
          · exact p3
        exact sfOut_diag m (t + 1) (sfN t s2) s' (by omega) (g2.n ht.1) pN he
/-- Outside of the diagonal the Smith form has zeros. -/
theorem sfX_diag {R C : Nat} {xs : List Int} {s : SS} (h : sfX R C xs = some s) : ∀ x y, x < R → y < C → x ≠ y → s.f x y = 0 := by
  rcases hm : isMat (R : Int) (C : Int) xs with _ | _
  · rw [sfX_no hm] at h; cases h
  · rw [sfX_yes hm] at h
    have M := isMat_iff.1 hm
    have hs := start_gd (R := R) (C := C) M.num
    exact sfOut_diag _ _ _ _ (by omega) ⟨⟨hs.ok.f, hs.ok.g, idF_ok C C⟩, ⟨hs.nb.f, hs.nb.g, idF_nb⟩⟩ (fun x y _ _ _ h => by omega) h
end Go.Proofs.Ytacjonkehcamgaa

/-
  DERIVED. Exchanges and signs in a work; add; the search for the least number of a column.
-/
namespace Go.Proofs.Ytacjonkehcamgaa
open Go.RowKit
set_option linter.unusedVariables false
set_option linter.unusedSimpArgs false
def RWD (B b R C : Nat) (f g h : Fn2) (w : World) (e : Ending) (w' : World) : Prop := e = .returned (.tuple #[]) ∧ Below B w w' ∧ WK w' B b R C f g h false
set_option maxRecDepth 100000 in
set_option maxHeartbeats 4000000 in
theorem impl_rows_swap (B b R C i j : Nat) (f g h : Fn2) (w : World) (hK : WK w B b R C f g h false) (hi : i < R) (hj : j < R) (hij : i ≠ j) (hC0 : 0 < C) (hC : C ≤ 24) (hR : R ≤ 24) :
    Calls Try.prog 149 #[.pointer (some ⟨b, 0, none⟩), .agg #[.int .i64 0, .int .i64 i, .int .i64 j, .int .i64 0]] w (RWD B b R C (swF f i j) (swF g i j) h w) := by
  obtain ⟨A, n, cap, A2, n2, cap2, A3, n3, cap3, hW⟩ := hK
  have hBb := hW.hb
  have hbl := hW.lt
  have hbw : Below B w (w.alloc (.cells #[.int .i64 0, .int .i64 i, .int .i64 j, .int .i64 0] 66)) := by
    refine Below.mono (B := w.heap.size) ?_ (by omega)
    (repeat (first | (with_reducible (first | exact Below.refl _ _ | assumption | refine below_drewN ?_ _ | refine Below.drew ?_ | refine Below.alloc ?_ ?_ _ | refine Below.setCell ?_ ?_ _ | refine below_i ?_)) | go_size))
  have HMO : Hid ((Value.slice A n cap).ownBlock ≠ some w.heap.size) := Lib.hid (fun e => by have := (hW.m.own _ e).2; omega)
  have HLO : Hid ((Value.slice A2 n2 cap2).ownBlock ≠ some w.heap.size) := Lib.hid (fun e => by have := (hW.l.own _ e).2; omega)
  have HIJ := Lib.hid hij
  clear hij
  obtain ⟨c0, c1, c2, c3, c4, c5, c6, c7, c8, c9, cf, cl⟩ := hW.cells
  have hbe : (b == w.heap.size) = false := by simp; omega
  go_enter Try.func149, Try.ntmps149
  go_wp2_with fail
  have hX : Blk (w.alloc (.cells #[.int .i64 0, .int .i64 i, .int .i64 j, .int .i64 0] 66)) w.heap.size 66 #[.int .i64 0, .int .i64 i, .int .i64 j, .int .i64 0] := Blk.new _ _ _
  have x0 := hX.cell 0; have x1 := hX.cell 1; have x2 := hX.cell 2; have x3 := hX.cell 3; simp at x0 x1 x2 x3
  ((refine wp_region_held_drew (S := (fun w' => w'.cell? ⟨b, 0, none⟩ = some (.int .i64 R) ∧ w'.cell? ⟨b, 1, none⟩ = some (.int .i64 C) ∧ w'.cell? ⟨b, 2, none⟩ = some (.slice A n cap) ∧ w'.cell? ⟨b, 3, none⟩ = some (.int .i64 R) ∧ w'.cell? ⟨b, 4, none⟩ = some (.int .i64 R) ∧ w'.cell? ⟨b, 5, none⟩ = some (.slice A2 n2 cap2) ∧ w'.cell? ⟨b, 9, none⟩ = some (.bool false) ∧ w'.cell? ⟨w.heap.size, 0, none⟩ = some (.int .i64 0) ∧ w'.cell? ⟨w.heap.size, 1, none⟩ = some (.int .i64 i) ∧ w'.cell? ⟨w.heap.size, 2, none⟩ = some (.int .i64 j) ∧ w'.cell? ⟨w.heap.size, 3, none⟩ = some (.int .i64 (0)))) (by kernel_rfl) ?_ (fun hHeld => ?_)); ((focus ((try dsimp only); (go_keep)))); ((refine tk_ (i := 0) (v := ?_) (y := Or.inl ⟨by rfl, ?_⟩) (h := ?_); rotate_left; (focus (((intro w hSw; (try dsimp only at hSw); go_simp) <;> (try with_reducible rfl)); done)); (try simp only [Act.put, p1_, p2_, p3_]))); ((refine tk_ (i := 1) (v := ?_) (y := Or.inl ⟨by rfl, ?_⟩) (h := ?_); rotate_left; (focus (((intro w hSw; (try dsimp only at hSw); go_simp) <;> (try with_reducible rfl)); done)); (try simp only [Act.put, p1_, p2_, p3_]))); ((refine tk_ (i := 2) (v := ?_) (y := Or.inl ⟨by rfl, ?_⟩) (h := ?_); rotate_left; (focus (((intro w hSw; (try dsimp only at hSw); go_simp) <;> (try with_reducible rfl)); done)); (try simp only [Act.put, p1_, p2_, p3_]))); ((refine tk_ (i := 3) (v := ?_) (y := Or.inl ⟨by rfl, ?_⟩) (h := ?_); rotate_left; (focus (((intro w hSw; (try dsimp only at hSw); go_simp) <;> (try with_reducible rfl)); done)); (try simp only [Act.put, p1_, p2_, p3_]))); ((refine tk_ (i := 4) (v := ?_) (y := Or.inl ⟨by rfl, ?_⟩) (h := ?_); rotate_left; (focus (((intro w hSw; (try dsimp only at hSw); go_simp) <;> (try with_reducible rfl)); done)); (try simp only [Act.put, p1_, p2_, p3_]))); ((refine tk_ (i := 5) (v := ?_) (y := Or.inl ⟨by rfl, ?_⟩) (h := ?_); rotate_left; (focus (((intro w hSw; (try dsimp only at hSw); go_simp) <;> (try with_reducible rfl)); done)); (try simp only [Act.put, p1_, p2_, p3_]))); ((refine tk_ (i := 6) (v := ?_) (y := Or.inl ⟨by rfl, ?_⟩) (h := ?_); rotate_left; (focus (((intro w hSw; (try dsimp only at hSw); go_simp) <;> (try with_reducible rfl)); done)); (try simp only [Act.put, p1_, p2_, p3_]))); ((refine tk_ (i := 7) (v := ?_) (y := Or.inl ⟨by rfl, ?_⟩) (h := ?_); rotate_left; (focus (((intro w hSw; (try dsimp only at hSw); go_simp) <;> (try with_reducible rfl)); done)); (try simp only [Act.put, p1_, p2_, p3_]))); ((refine tk_ (i := 8) (v := ?_) (y := Or.inl ⟨by rfl, ?_⟩) (h := ?_); rotate_left; (focus (((intro w hSw; (try dsimp only at hSw); go_simp) <;> (try with_reducible rfl)); done)); (try simp only [Act.put, p1_, p2_, p3_]))); ((refine tk_ (i := 9) (v := ?_) (y := Or.inl ⟨by rfl, ?_⟩) (h := ?_); rotate_left; (focus (((intro w hSw; (try dsimp only at hSw); go_simp) <;> (try with_reducible rfl)); done)); (try simp only [Act.put, p1_, p2_, p3_]))); ((refine tk_ (i := 10) (v := ?_) (y := Or.inl ⟨by rfl, ?_⟩) (h := ?_); rotate_left; (focus (((intro w hSw; (try dsimp only at hSw); go_simp) <;> (try with_reducible rfl)); done)); (try simp only [Act.put, p1_, p2_, p3_]))); ((refine wpAnyH_ready (rs := [11]) (by kernel_rfl) (by simp) ?_; refine AllReadyH.cons (by simp only [e1_, e2_, e3_]; try rfl) (fun K hK => ?_) AllReadyH.nil; go_simp; (go_at_call 142; refine (impl_IsRowOp_swap R i j _ hi hj HIJ.out hR).mono ?_; rintro e w1 ⟨rfl, hb1⟩; (have hW_1 : WB w1 B b R C f g h false A n cap A2 n2 cap2 A3 n3 cap3 := by (with_reducible (repeat (first | exact hW | refine WB.b_ ?_ | refine WB.drew ?_ | refine WB.drewN ?_ _ | refine WB.alloc ?_ _)))); (have hX_1 : Blk w1 w.heap.size 66 #[.int .i64 0, .int .i64 i, .int .i64 j, .int .i64 0] := by (with_reducible (repeat (first | exact hX | refine Blk.below ?_ (by assumption) Ks | apply Blk.drew | apply Blk.drewN | apply Blk.alloc | apply Blk.set_ | apply Blk.far; rotate_left; (simp only [ne_eq]; omega); rotate_right)))); (have hbw_1 : Below B w w1 := by refine Below.trans ?_ (Below.mono hb1 (B' := B) ?_); (first | exact hbw | exact Below.drew hbw); (try simp); omega); (have hsz := hb1.size); (try simp at hsz); clear hb1; clear hW hX hbw; clear c0 c1 c2 c3 c4 c5 c6 c7 c8 c9 cf cl; clear x0 x1 x2 x3; have hW := hW_1; have hX := hX_1; have hbw := hbw_1; clear hW_1 hX_1 hbw_1; obtain ⟨c0, c1, c2, c3, c4, c5, c6, c7, c8, c9, cf, cl⟩ := hW.cells; have x0 := hX.cell 0; have x1 := hX.cell 1; have x2 := hX.cell 2; have x3 := hX.cell 3; simp at x0 x1 x2 x3); (try go_wp2_with fail); refine hK.out _ _ ?_ (fun hHeld => ?_); (focus ((try dsimp only); (go_keep))); clear hK K; (try simp only [Act.put, p1_, p2_, p3_]))); ((refine tk_ (i := 12) (v := ?_) (y := Or.inl ⟨by rfl, ?_⟩) (h := ?_); rotate_left; (focus (((intro w hSw; (try dsimp only at hSw); go_simp) <;> (try with_reducible rfl)); done)); (try simp only [Act.put, p1_, p2_, p3_]))); ((refine tk_ (i := 13) (v := ?_) (y := Or.inl ⟨by rfl, ?_⟩) (h := ?_); rotate_left; (focus (((intro w hSw; (try dsimp only at hSw); go_simp) <;> (try with_reducible rfl)); done)); (try simp only [Act.put, p1_, p2_, p3_]))); ((refine tk_ (i := 14) (v := ?_) (y := Or.inl ⟨by rfl, ?_⟩) (h := ?_); rotate_left; (focus (((intro w hSw; (try dsimp only at hSw); go_simp) <;> (try with_reducible rfl)); done)); (try simp only [Act.put, p1_, p2_, p3_]))); ((refine tk_ (i := 15) (v := ?_) (y := Or.inl ⟨by rfl, ?_⟩) (h := ?_); rotate_left; (focus (((intro w hSw; (try dsimp only at hSw); go_simp) <;> (try with_reducible rfl)); done)); (try simp only [Act.put, p1_, p2_, p3_]))); ((refine tk_ (i := 16) (v := ?_) (y := Or.inl ⟨by rfl, ?_⟩) (h := ?_); rotate_left; (focus (((intro w hSw; (try dsimp only at hSw); go_simp) <;> (try with_reducible rfl)); done)); (try simp only [Act.put, p1_, p2_, p3_]))); ((refine tk_ (i := 17) (v := ?_) (y := Or.inl ⟨by rfl, ?_⟩) (h := ?_); rotate_left; (focus (((intro w hSw; (try dsimp only at hSw); go_simp) <;> (try with_reducible rfl)); done)); (try simp only [Act.put, p1_, p2_, p3_]))); ((refine tk_ (i := 18) (v := ?_) (y := Or.inl ⟨by rfl, ?_⟩) (h := ?_); rotate_left; (focus (((intro w hSw; (try dsimp only at hSw); go_simp) <;> (try with_reducible rfl)); done)); (try simp only [Act.put, p1_, p2_, p3_]))); ((refine tk_ (i := 19) (v := ?_) (y := Or.inl ⟨by rfl, ?_⟩) (h := ?_); rotate_left; (focus (((intro w hSw; (try dsimp only at hSw); go_simp) <;> (try with_reducible rfl)); done)); (try simp only [Act.put, p1_, p2_, p3_]))); ((refine wpAnyH_ready (rs := [20]) (by kernel_rfl) (by simp) ?_; refine AllReadyH.cons (by simp only [e1_, e2_, e3_]; try rfl) (fun K hK => ?_) AllReadyH.nil; go_simp; (go_at_call 165; refine (impl_rowOp_swap R C i j 0 A n cap f _ (B := B) (by have hm := hW.m; (with_reducible (repeat (first | exact hm | refine OR.drew ?_ | refine OR.drewN ?_ _ | refine OR.alloc ?_ _ | refine OR.b_ ?_ | refine OR.l_ ?_)))) hi hj HIJ.out hC0 (by omega) hR).mono ?_; rintro e w2 ⟨rfl, hown2, hgr2, hs2⟩; (have hW_1 := hW.wroteM hown2 hgr2; have hX_1 := hX.grown hgr2 (fun e => HMO.out e.symm); have hbw_1 := hbw.trans (hW.belowM hgr2); clear hown2 hgr2; clear hW hX hbw; clear c0 c1 c2 c3 c4 c5 c6 c7 c8 c9 cf cl; clear x0 x1 x2 x3; have hW := hW_1; have hX := hX_1; have hbw := hbw_1; clear hW_1 hX_1 hbw_1; obtain ⟨c0, c1, c2, c3, c4, c5, c6, c7, c8, c9, cf, cl⟩ := hW.cells; have x0 := hX.cell 0; have x1 := hX.cell 1; have x2 := hX.cell 2; have x3 := hX.cell 3; simp at x0 x1 x2 x3)); (try go_wp2_with fail); refine hK.out _ _ ?_ (fun hHeld => ?_); (focus ((try dsimp only); (go_keep))); clear hK K; (try simp only [Act.put, p1_, p2_, p3_]))); ((refine tk_ (i := 21) (v := ?_) (y := Or.inl ⟨by rfl, ?_⟩) (h := ?_); rotate_left; (focus (((intro w hSw; (try dsimp only at hSw); go_simp) <;> (try with_reducible rfl)); done)); (try simp only [Act.put, p1_, p2_, p3_]))); ((refine tk_ (i := 22) (v := ?_) (y := Or.inl ⟨by rfl, ?_⟩) (h := ?_); rotate_left; (focus (((intro w hSw; (try dsimp only at hSw); go_simp) <;> (try with_reducible rfl)); done)); (try simp only [Act.put, p1_, p2_, p3_]))); ((refine tk_ (i := 23) (v := ?_) (y := Or.inl ⟨by rfl, ?_⟩) (h := ?_); rotate_left; (focus (((intro w hSw; (try dsimp only at hSw); go_simp) <;> (try with_reducible rfl)); done)); (try simp only [Act.put, p1_, p2_, p3_]))); ((refine tk_ (i := 24) (v := ?_) (y := Or.inl ⟨by rfl, ?_⟩) (h := ?_); rotate_left; (focus (((intro w hSw; (try dsimp only at hSw); go_simp) <;> (try with_reducible rfl)); done)); (try simp only [Act.put, p1_, p2_, p3_]))); ((refine tk_ (i := 25) (v := ?_) (y := Or.inl ⟨by rfl, ?_⟩) (h := ?_); rotate_left; (focus (((intro w hSw; (try dsimp only at hSw); go_simp) <;> (try with_reducible rfl)); done)); (try simp only [Act.put, p1_, p2_, p3_]))); ((refine tk_ (i := 26) (v := ?_) (y := Or.inl ⟨by rfl, ?_⟩) (h := ?_); rotate_left; (focus (((intro w hSw; (try dsimp only at hSw); go_simp) <;> (try with_reducible rfl)); done)); (try simp only [Act.put, p1_, p2_, p3_]))); ((refine tk_ (i := 27) (v := ?_) (y := Or.inl ⟨by rfl, ?_⟩) (h := ?_); rotate_left; (focus (((intro w hSw; (try dsimp only at hSw); go_simp) <;> (try with_reducible rfl)); done)); (try simp only [Act.put, p1_, p2_, p3_]))); ((refine tk_ (i := 28) (v := ?_) (y := Or.inl ⟨by rfl, ?_⟩) (h := ?_); rotate_left; (focus (((intro w hSw; (try dsimp only at hSw); go_simp) <;> (try with_reducible rfl)); done)); (try simp only [Act.put, p1_, p2_, p3_]))); ((refine wpAnyH_ready (rs := [29]) (by kernel_rfl) (by simp) ?_; refine AllReadyH.cons (by simp only [e1_, e2_, e3_]; try rfl) (fun K hK => ?_) AllReadyH.nil; go_simp; (go_at_call 165; refine (impl_rowOp_swap R R i j 0 A2 n2 cap2 g _ (B := B) (by have hm := hW.l; (with_reducible (repeat (first | exact hm | refine OR.drew ?_ | refine OR.drewN ?_ _ | refine OR.alloc ?_ _ | refine OR.b_ ?_ | refine OR.l_ ?_)))) hi hj HIJ.out (by omega) (by omega) hR).mono ?_; rintro e w2 ⟨rfl, hown2, hgr2, hs2⟩; (have hW_1 := hW.wroteL hown2 hgr2; have hX_1 := hX.grown hgr2 (fun e => HLO.out e.symm); have hbw_1 := hbw.trans (hW.belowL hgr2); clear hown2 hgr2; clear hW hX hbw; clear c0 c1 c2 c3 c4 c5 c6 c7 c8 c9 cf cl; clear x0 x1 x2 x3; have hW := hW_1; have hX := hX_1; have hbw := hbw_1; clear hW_1 hX_1 hbw_1; obtain ⟨c0, c1, c2, c3, c4, c5, c6, c7, c8, c9, cf, cl⟩ := hW.cells; have x0 := hX.cell 0; have x1 := hX.cell 1; have x2 := hX.cell 2; have x3 := hX.cell 3; simp at x0 x1 x2 x3)); (try go_wp2_with fail); refine hK.out _ _ ?_ (fun hHeld => ?_); (focus ((try dsimp only); (go_keep))); clear hK K; (try simp only [Act.put, p1_, p2_, p3_]))); ((refine tk_ (i := 30) (v := ?_) (y := Or.inl ⟨by rfl, ?_⟩) (h := ?_); rotate_left; (focus (((intro w hSw; (try dsimp only at hSw); go_simp) <;> (try with_reducible rfl)); done)); (try simp only [Act.put, p1_, p2_, p3_]))); ((refine tk_ (i := 31) (v := ?_) (y := Or.inl ⟨by rfl, ?_⟩) (h := ?_); rotate_left; (focus (((intro w hSw; (try dsimp only at hSw); go_simp) <;> (try with_reducible rfl)); done)); (try simp only [Act.put, p1_, p2_, p3_]))); (refine wpAnyH_done (by kernel_rfl) ?_ _))
  go_wp2_with fail
  go_end0
  exact ⟨rfl, hbw, hW.wk⟩
set_option maxRecDepth 100000 in
set_option maxHeartbeats 4000000 in
theorem impl_rows_neg (B b R C i : Nat) (f g h : Fn2) (w : World) (hK : WK w B b R C f g h false) (hi : i < R) (hf : OKF R C f) (hg : OKF R R g) (hC0 : 0 < C) (hC : C ≤ 24) (hR : R ≤ 24) :
    Calls Try.prog 149 #[.pointer (some ⟨b, 0, none⟩), .agg #[.int .i64 1, .int .i64 i, .int .i64 i, .int .i64 0]] w (RWD B b R C (opN f i) (opN g i) h w) := by
  obtain ⟨A, n, cap, A2, n2, cap2, A3, n3, cap3, hW⟩ := hK
  have hBb := hW.hb
  have hbl := hW.lt
  have hbw : Below B w (w.alloc (.cells #[.int .i64 1, .int .i64 i, .int .i64 i, .int .i64 0] 66)) := by
    refine Below.mono (B := w.heap.size) ?_ (by omega)
    (repeat (first | (with_reducible (first | exact Below.refl _ _ | assumption | refine below_drewN ?_ _ | refine Below.drew ?_ | refine Below.alloc ?_ ?_ _ | refine Below.setCell ?_ ?_ _ | refine below_i ?_)) | go_size))
  have HMO : Hid ((Value.slice A n cap).ownBlock ≠ some w.heap.size) := Lib.hid (fun e => by have := (hW.m.own _ e).2; omega)
  have HLO : Hid ((Value.slice A2 n2 cap2).ownBlock ≠ some w.heap.size) := Lib.hid (fun e => by have := (hW.l.own _ e).2; omega)
  have HF := Lib.hid hf
  have HG := Lib.hid hg
  clear hf hg
  obtain ⟨c0, c1, c2, c3, c4, c5, c6, c7, c8, c9, cf, cl⟩ := hW.cells
  have hbe : (b == w.heap.size) = false := by simp; omega
  go_enter Try.func149, Try.ntmps149
  go_wp2_with fail
  have hX : Blk (w.alloc (.cells #[.int .i64 1, .int .i64 i, .int .i64 i, .int .i64 0] 66)) w.heap.size 66 #[.int .i64 1, .int .i64 i, .int .i64 i, .int .i64 0] := Blk.new _ _ _
  have x0 := hX.cell 0; have x1 := hX.cell 1; have x2 := hX.cell 2; have x3 := hX.cell 3; simp at x0 x1 x2 x3
  ((refine wp_region_held_drew (S := (fun w' => w'.cell? ⟨b, 0, none⟩ = some (.int .i64 R) ∧ w'.cell? ⟨b, 1, none⟩ = some (.int .i64 C) ∧ w'.cell? ⟨b, 2, none⟩ = some (.slice A n cap) ∧ w'.cell? ⟨b, 3, none⟩ = some (.int .i64 R) ∧ w'.cell? ⟨b, 4, none⟩ = some (.int .i64 R) ∧ w'.cell? ⟨b, 5, none⟩ = some (.slice A2 n2 cap2) ∧ w'.cell? ⟨b, 9, none⟩ = some (.bool false) ∧ w'.cell? ⟨w.heap.size, 0, none⟩ = some (.int .i64 1) ∧ w'.cell? ⟨w.heap.size, 1, none⟩ = some (.int .i64 i) ∧ w'.cell? ⟨w.heap.size, 2, none⟩ = some (.int .i64 i) ∧ w'.cell? ⟨w.heap.size, 3, none⟩ = some (.int .i64 (0)))) (by kernel_rfl) ?_ (fun hHeld => ?_)); ((focus ((try dsimp only); (go_keep)))); ((refine tk_ (i := 0) (v := ?_) (y := Or.inl ⟨by rfl, ?_⟩) (h := ?_); rotate_left; (focus (((intro w hSw; (try dsimp only at hSw); go_simp) <;> (try with_reducible rfl)); done)); (try simp only [Act.put, p1_, p2_, p3_]))); ((refine tk_ (i := 1) (v := ?_) (y := Or.inl ⟨by rfl, ?_⟩) (h := ?_); rotate_left; (focus (((intro w hSw; (try dsimp only at hSw); go_simp) <;> (try with_reducible rfl)); done)); (try simp only [Act.put, p1_, p2_, p3_]))); ((refine tk_ (i := 2) (v := ?_) (y := Or.inl ⟨by rfl, ?_⟩) (h := ?_); rotate_left; (focus (((intro w hSw; (try dsimp only at hSw); go_simp) <;> (try with_reducible rfl)); done)); (try simp only [Act.put, p1_, p2_, p3_]))); ((refine tk_ (i := 3) (v := ?_) (y := Or.inl ⟨by rfl, ?_⟩) (h := ?_); rotate_left; (focus (((intro w hSw; (try dsimp only at hSw); go_simp) <;> (try with_reducible rfl)); done)); (try simp only [Act.put, p1_, p2_, p3_]))); ((refine tk_ (i := 4) (v := ?_) (y := Or.inl ⟨by rfl, ?_⟩) (h := ?_); rotate_left; (focus (((intro w hSw; (try dsimp only at hSw); go_simp) <;> (try with_reducible rfl)); done)); (try simp only [Act.put, p1_, p2_, p3_]))); ((refine tk_ (i := 5) (v := ?_) (y := Or.inl ⟨by rfl, ?_⟩) (h := ?_); rotate_left; (focus (((intro w hSw; (try dsimp only at hSw); go_simp) <;> (try with_reducible rfl)); done)); (try simp only [Act.put, p1_, p2_, p3_]))); ((refine tk_ (i := 6) (v := ?_) (y := Or.inl ⟨by rfl, ?_⟩) (h := ?_); rotate_left; (focus (((intro w hSw; (try dsimp only at hSw); go_simp) <;> (try with_reducible rfl)); done)); (try simp only [Act.put, p1_, p2_, p3_]))); ((refine tk_ (i := 7) (v := ?_) (y := Or.inl ⟨by rfl, ?_⟩) (h := ?_); rotate_left; (focus (((intro w hSw; (try dsimp only at hSw); go_simp) <;> (try with_reducible rfl)); done)); (try simp only [Act.put, p1_, p2_, p3_]))); ((refine tk_ (i := 8) (v := ?_) (y := Or.inl ⟨by rfl, ?_⟩) (h := ?_); rotate_left; (focus (((intro w hSw; (try dsimp only at hSw); go_simp) <;> (try with_reducible rfl)); done)); (try simp only [Act.put, p1_, p2_, p3_]))); ((refine tk_ (i := 9) (v := ?_) (y := Or.inl ⟨by rfl, ?_⟩) (h := ?_); rotate_left; (focus (((intro w hSw; (try dsimp only at hSw); go_simp) <;> (try with_reducible rfl)); done)); (try simp only [Act.put, p1_, p2_, p3_]))); ((refine tk_ (i := 10) (v := ?_) (y := Or.inl ⟨by rfl, ?_⟩) (h := ?_); rotate_left; (focus (((intro w hSw; (try dsimp only at hSw); go_simp) <;> (try with_reducible rfl)); done)); (try simp only [Act.put, p1_, p2_, p3_]))); ((refine wpAnyH_ready (rs := [11]) (by kernel_rfl) (by simp) ?_; refine AllReadyH.cons (by simp only [e1_, e2_, e3_]; try rfl) (fun K hK => ?_) AllReadyH.nil; go_simp; (go_at_call 142; refine (impl_IsRowOp_neg R i _ hi hR).mono ?_; rintro e w1 ⟨rfl, hb1⟩; (have hW_1 : WB w1 B b R C f g h false A n cap A2 n2 cap2 A3 n3 cap3 := by (with_reducible (repeat (first | exact hW | refine WB.b_ ?_ | refine WB.drew ?_ | refine WB.drewN ?_ _ | refine WB.alloc ?_ _)))); (have hX_1 : Blk w1 w.heap.size 66 #[.int .i64 1, .int .i64 i, .int .i64 i, .int .i64 0] := by (with_reducible (repeat (first | exact hX | refine Blk.below ?_ (by assumption) Ks | apply Blk.drew | apply Blk.drewN | apply Blk.alloc | apply Blk.set_ | apply Blk.far; rotate_left; (simp only [ne_eq]; omega); rotate_right)))); (have hbw_1 : Below B w w1 := by refine Below.trans ?_ (Below.mono hb1 (B' := B) ?_); (first | exact hbw | exact Below.drew hbw); (try simp); omega); (have hsz := hb1.size); (try simp at hsz); clear hb1; clear hW hX hbw; clear c0 c1 c2 c3 c4 c5 c6 c7 c8 c9 cf cl; clear x0 x1 x2 x3; have hW := hW_1; have hX := hX_1; have hbw := hbw_1; clear hW_1 hX_1 hbw_1; obtain ⟨c0, c1, c2, c3, c4, c5, c6, c7, c8, c9, cf, cl⟩ := hW.cells; have x0 := hX.cell 0; have x1 := hX.cell 1; have x2 := hX.cell 2; have x3 := hX.cell 3; simp at x0 x1 x2 x3); (try go_wp2_with fail); refine hK.out _ _ ?_ (fun hHeld => ?_); (focus ((try dsimp only); (go_keep))); clear hK K; (try simp only [Act.put, p1_, p2_, p3_]))); ((refine tk_ (i := 12) (v := ?_) (y := Or.inl ⟨by rfl, ?_⟩) (h := ?_); rotate_left; (focus (((intro w hSw; (try dsimp only at hSw); go_simp) <;> (try with_reducible rfl)); done)); (try simp only [Act.put, p1_, p2_, p3_]))); ((refine tk_ (i := 13) (v := ?_) (y := Or.inl ⟨by rfl, ?_⟩) (h := ?_); rotate_left; (focus (((intro w hSw; (try dsimp only at hSw); go_simp) <;> (try with_reducible rfl)); done)); (try simp only [Act.put, p1_, p2_, p3_]))); ((refine tk_ (i := 14) (v := ?_) (y := Or.inl ⟨by rfl, ?_⟩) (h := ?_); rotate_left; (focus (((intro w hSw; (try dsimp only at hSw); go_simp) <;> (try with_reducible rfl)); done)); (try simp only [Act.put, p1_, p2_, p3_]))); ((refine tk_ (i := 15) (v := ?_) (y := Or.inl ⟨by rfl, ?_⟩) (h := ?_); rotate_left; (focus (((intro w hSw; (try dsimp only at hSw); go_simp) <;> (try with_reducible rfl)); done)); (try simp only [Act.put, p1_, p2_, p3_]))); ((refine tk_ (i := 16) (v := ?_) (y := Or.inl ⟨by rfl, ?_⟩) (h := ?_); rotate_left; (focus (((intro w hSw; (try dsimp only at hSw); go_simp) <;> (try with_reducible rfl)); done)); (try simp only [Act.put, p1_, p2_, p3_]))); ((refine tk_ (i := 17) (v := ?_) (y := Or.inl ⟨by rfl, ?_⟩) (h := ?_); rotate_left; (focus (((intro w hSw; (try dsimp only at hSw); go_simp) <;> (try with_reducible rfl)); done)); (try simp only [Act.put, p1_, p2_, p3_]))); ((refine tk_ (i := 18) (v := ?_) (y := Or.inl ⟨by rfl, ?_⟩) (h := ?_); rotate_left; (focus (((intro w hSw; (try dsimp only at hSw); go_simp) <;> (try with_reducible rfl)); done)); (try simp only [Act.put, p1_, p2_, p3_]))); ((refine tk_ (i := 19) (v := ?_) (y := Or.inl ⟨by rfl, ?_⟩) (h := ?_); rotate_left; (focus (((intro w hSw; (try dsimp only at hSw); go_simp) <;> (try with_reducible rfl)); done)); (try simp only [Act.put, p1_, p2_, p3_]))); ((refine wpAnyH_ready (rs := [20]) (by kernel_rfl) (by simp) ?_; refine AllReadyH.cons (by simp only [e1_, e2_, e3_]; try rfl) (fun K hK => ?_) AllReadyH.nil; go_simp; (go_at_call 165; refine (impl_rowOp_neg R C i 0 A n cap f _ (B := B) (by have hm := hW.m; (with_reducible (repeat (first | exact hm | refine OR.drew ?_ | refine OR.drewN ?_ _ | refine OR.alloc ?_ _ | refine OR.b_ ?_ | refine OR.l_ ?_)))) hi (fun k hk => HF.out i k hi hk) hC0 hC hR).mono ?_; rintro e w2 ⟨rfl, hown2, hgr2, hs2⟩; (have hW_1 := hW.wroteM hown2 hgr2; have hX_1 := hX.grown hgr2 (fun e => HMO.out e.symm); have hbw_1 := hbw.trans (hW.belowM hgr2); clear hown2 hgr2; clear hW hX hbw; clear c0 c1 c2 c3 c4 c5 c6 c7 c8 c9 cf cl; clear x0 x1 x2 x3; have hW := hW_1; have hX := hX_1; have hbw := hbw_1; clear hW_1 hX_1 hbw_1; obtain ⟨c0, c1, c2, c3, c4, c5, c6, c7, c8, c9, cf, cl⟩ := hW.cells; have x0 := hX.cell 0; have x1 := hX.cell 1; have x2 := hX.cell 2; have x3 := hX.cell 3; simp at x0 x1 x2 x3)); (try go_wp2_with fail); refine hK.out _ _ ?_ (fun hHeld => ?_); (focus ((try dsimp only); (go_keep))); clear hK K; (try simp only [Act.put, p1_, p2_, p3_]))); ((refine tk_ (i := 21) (v := ?_) (y := Or.inl ⟨by rfl, ?_⟩) (h := ?_); rotate_left; (focus (((intro w hSw; (try dsimp only at hSw); go_simp) <;> (try with_reducible rfl)); done)); (try simp only [Act.put, p1_, p2_, p3_]))); ((refine tk_ (i := 22) (v := ?_) (y := Or.inl ⟨by rfl, ?_⟩) (h := ?_); rotate_left; (focus (((intro w hSw; (try dsimp only at hSw); go_simp) <;> (try with_reducible rfl)); done)); (try simp only [Act.put, p1_, p2_, p3_]))); ((refine tk_ (i := 23) (v := ?_) (y := Or.inl ⟨by rfl, ?_⟩) (h := ?_); rotate_left; (focus (((intro w hSw; (try dsimp only at hSw); go_simp) <;> (try with_reducible rfl)); done)); (try simp only [Act.put, p1_, p2_, p3_]))); ((refine tk_ (i := 24) (v := ?_) (y := Or.inl ⟨by rfl, ?_⟩) (h := ?_); rotate_left; (focus (((intro w hSw; (try dsimp only at hSw); go_simp) <;> (try with_reducible rfl)); done)); (try simp only [Act.put, p1_, p2_, p3_]))); ((refine tk_ (i := 25) (v := ?_) (y := Or.inl ⟨by rfl, ?_⟩) (h := ?_); rotate_left; (focus (((intro w hSw; (try dsimp only at hSw); go_simp) <;> (try with_reducible rfl)); done)); (try simp only [Act.put, p1_, p2_, p3_]))); ((refine tk_ (i := 26) (v := ?_) (y := Or.inl ⟨by rfl, ?_⟩) (h := ?_); rotate_left; (focus (((intro w hSw; (try dsimp only at hSw); go_simp) <;> (try with_reducible rfl)); done)); (try simp only [Act.put, p1_, p2_, p3_]))); ((refine tk_ (i := 27) (v := ?_) (y := Or.inl ⟨by rfl, ?_⟩) (h := ?_); rotate_left; (focus (((intro w hSw; (try dsimp only at hSw); go_simp) <;> (try with_reducible rfl)); done)); (try simp only [Act.put, p1_, p2_, p3_]))); ((refine tk_ (i := 28) (v := ?_) (y := Or.inl ⟨by rfl, ?_⟩) (h := ?_); rotate_left; (focus (((intro w hSw; (try dsimp only at hSw); go_simp) <;> (try with_reducible rfl)); done)); (try simp only [Act.put, p1_, p2_, p3_]))); ((refine wpAnyH_ready (rs := [29]) (by kernel_rfl) (by simp) ?_; refine AllReadyH.cons (by simp only [e1_, e2_, e3_]; try rfl) (fun K hK => ?_) AllReadyH.nil; go_simp; (go_at_call 165; refine (impl_rowOp_neg R R i 0 A2 n2 cap2 g _ (B := B) (by have hm := hW.l; (with_reducible (repeat (first | exact hm | refine OR.drew ?_ | refine OR.drewN ?_ _ | refine OR.alloc ?_ _ | refine OR.b_ ?_ | refine OR.l_ ?_)))) hi (fun k hk => HG.out i k hi hk) (by omega) (by omega) hR).mono ?_; rintro e w2 ⟨rfl, hown2, hgr2, hs2⟩; (have hW_1 := hW.wroteL hown2 hgr2; have hX_1 := hX.grown hgr2 (fun e => HLO.out e.symm); have hbw_1 := hbw.trans (hW.belowL hgr2); clear hown2 hgr2; clear hW hX hbw; clear c0 c1 c2 c3 c4 c5 c6 c7 c8 c9 cf cl; clear x0 x1 x2 x3; have hW := hW_1; have hX := hX_1; have hbw := hbw_1; clear hW_1 hX_1 hbw_1; obtain ⟨c0, c1, c2, c3, c4, c5, c6, c7, c8, c9, cf, cl⟩ := hW.cells; have x0 := hX.cell 0; have x1 := hX.cell 1; have x2 := hX.cell 2; have x3 := hX.cell 3; simp at x0 x1 x2 x3)); (try go_wp2_with fail); refine hK.out _ _ ?_ (fun hHeld => ?_); (focus ((try dsimp only); (go_keep))); clear hK K; (try simp only [Act.put, p1_, p2_, p3_]))); ((refine tk_ (i := 30) (v := ?_) (y := Or.inl ⟨by rfl, ?_⟩) (h := ?_); rotate_left; (focus (((intro w hSw; (try dsimp only at hSw); go_simp) <;> (try with_reducible rfl)); done)); (try simp only [Act.put, p1_, p2_, p3_]))); ((refine tk_ (i := 31) (v := ?_) (y := Or.inl ⟨by rfl, ?_⟩) (h := ?_); rotate_left; (focus (((intro w hSw; (try dsimp only at hSw); go_simp) <;> (try with_reducible rfl)); done)); (try simp only [Act.put, p1_, p2_, p3_]))); (refine wpAnyH_done (by kernel_rfl) ?_ _))
  go_wp2_with fail
  go_end0
  exact ⟨rfl, hbw, hW.wk⟩
set_option maxRecDepth 100000 in
theorem impl_add (B b R C i j : Nat) (f g h : Fn2) (t : Int) (w : World) (hK : WK w B b R C f g h false) (hi : i < R) (hj : j < R) (hij : i ≠ j) (ht : Num t) (hf : OKF R C f) (hg : OKF R R g) (hC0 : 0 < C) (hC : C ≤ 24) (hR : R ≤ 24) :
    Calls Try.prog 148 #[.pointer (some ⟨b, 0, none⟩), .int .i64 i, .int .i64 j, .int .i64 t] w (RWA B b R C f g h i j t w) := by
  go_enter Try.func148, Try.ntmps148
  go_wp2_with fail
  refine (impl_rows_add B b R C i j f g h t _ hK hi hj hij ht hf hg hC0 hC hR).mono ?_
  rintro e w1 ⟨rfl, h1, h2⟩
  go_wp2_with fail
  go_end0
  exact ⟨rfl, h1, h2⟩
end Go.Proofs.Ytacjonkehcamgaa

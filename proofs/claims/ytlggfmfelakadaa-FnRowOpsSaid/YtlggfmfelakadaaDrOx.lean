/-
  DERIVED. Operations on rows that are drawn: l5Op, l5Ops, DrawDoRowOps.
-/
import Derived.Test.YtlggfmfelakadaaDrMx
import Derived.Test.YtlggfmfelakadaaX5
import Derived.Test.YtlggfmfelakadaaIrsx
namespace Go.Proofs.Ytlggfmfelakadaa
open Go.RowKit
set_option linter.unusedVariables false
set_option linter.unusedSimpArgs false
/-- An operation's variable, seen through. -/
def BV4 (w : World) (b : Nat) (k i j t : Int) : Prop := Blk w b 38 #[.int .i64 k, .int .i64 i, .int .i64 j, .int .i64 t]
theorem BV4.cells {w : World} {b : Nat} {k i j t : Int} (h : BV4 w b k i j t) : w.cell? ⟨b, 0, none⟩ = some (.int .i64 k) ∧ w.cell? ⟨b, 1, none⟩ = some (.int .i64 i) ∧ w.cell? ⟨b, 2, none⟩ = some (.int .i64 j) ∧ w.cell? ⟨b, 3, none⟩ = some (.int .i64 t) ∧ (∀ o, w.frozen? ⟨b, o, none⟩ = false) ∧ b < w.heap.size :=
  ⟨Blk.cell h 0, Blk.cell h 1, Blk.cell h 2, Blk.cell h 3, Blk.frozen h, Blk.lt h⟩
theorem BV4.new (w : World) (k i j t : Int) (b : Nat) (hb : b = w.heap.size) : BV4 (w.alloc (.cells #[.int .i64 k, .int .i64 i, .int .i64 j, .int .i64 t] 38)) b k i j t := by
  subst hb; exact Blk.new _ _ _
theorem BV4.drew {w : World} {b : Nat} {k i j t : Int} (h : BV4 w b k i j t) : BV4 w.drew b k i j t := h
theorem BV4.drewN {w : World} {b : Nat} {k i j t : Int} (h : BV4 w b k i j t) (n : Nat) : BV4 (w.drewN n) b k i j t := h
theorem BV4.alloc {w : World} {b : Nat} {k i j t : Int} (h : BV4 w b k i j t) (o : Obj) : BV4 (w.alloc o) b k i j t := Blk.alloc h o
theorem BV4.far {w : World} {b : Nat} {k i j t : Int} (h : BV4 w b k i j t) {p : Addr} (hp : b ≠ p.block) (u : Value) : BV4 (w.setCell p u) b k i j t := Blk.far h hp u
theorem BV4.grown {w w' : World} {b : Nat} {k i j t : Int} {row : Option Nat} (h : BV4 w b k i j t) (hb : w.grownBy w' row) (hg : some b ≠ row) : BV4 w' b k i j t := Blk.grown h hb hg
theorem BV4.set0 {w : World} {b : Nat} {k i j t : Int} (h : BV4 w b k i j t) (u : Int) : BV4 (w.setCell ⟨b, 0, none⟩ (.int .i64 u)) b u i j t := (Blk.set_ h 0 _).as rfl
theorem BV4.set2 {w : World} {b : Nat} {k i j t : Int} (h : BV4 w b k i j t) (u : Int) : BV4 (w.setCell ⟨b, 2, none⟩ (.int .i64 u)) b k i u t := (Blk.set_ h 2 _).as rfl
theorem BV4.set3 {w : World} {b : Nat} {k i j t : Int} (h : BV4 w b k i j t) (u : Int) : BV4 (w.setCell ⟨b, 3, none⟩ (.int .i64 u)) b k i j u := (Blk.set_ h 3 _).as rfl
def IsOp (v : Value) : Prop := ∃ x : Rop, v = oV x
set_option maxRecDepth 100000 in
set_option maxHeartbeats 8000000 in
theorem spec_l5Op (b n cap : Nat) (A : Option Addr) (xs : List Int) (rows : Int) (w : World) {B : Nat} (hct : CT w w B b n cap A xs) :
    Calls Try.prog 99 #[.pointer (some ⟨b, 0, none⟩), .int .i64 rows] w (DRV (fun _ => IsOp) B b n cap A xs w) := by
  have hb := hct.hb
  have hsz := hct.size
  go_enter Try.func99, Try.ntmps99
  go_wp2_with fail
  have hR : BV4 (w.alloc (.cells #[.int .i64 0, .int .i64 0, .int .i64 0, .int .i64 0] 38)) w.heap.size 0 0 0 0 := by (with_reducible (repeat (first | exact hR | refine BV4.new _ _ _ _ _ _ Ks | refine BV4.drew ?_ | refine BV4.drewN ?_ _ | refine BV4.alloc ?_ _ | refine BV4.set0 ?_ _ | refine BV4.set2 ?_ _ | refine BV4.set3 ?_ _ | refine BV4.far ?_ (by simp only [ne_eq]; omega) _)))
  refine (spec_l1Below b n cap A xs 3 _ (CT.self (w0 := w) (B := B) (by (with_reducible (repeat (first | exact hct | refine CT.drew ?_ | refine CT.drewN ?_ _ | refine CT.alloc ?_ _ | refine CT.far ?_ Ks _ | refine CT.below ?_ (by assumption) Ks)))))).mono ?_
  rintro e w2 ⟨v, rfl, ⟨k, rfl, hk0, hk1⟩, hc1⟩
  have hct_1 : CT w w2 B b n cap A xs := CT.trans (by (with_reducible (repeat (first | exact hct | refine CT.drew ?_ | refine CT.drewN ?_ _ | refine CT.alloc ?_ _ | refine CT.far ?_ Ks _ | refine CT.below ?_ (by assumption) Ks)))) hc1; have hR_1 : BV4 w2 w.heap.size 0 0 0 0 := BV4.grown (by (with_reducible (repeat (first | exact hR | refine BV4.new _ _ _ _ _ _ Ks | refine BV4.drew ?_ | refine BV4.drewN ?_ _ | refine BV4.alloc ?_ _ | refine BV4.set0 ?_ _ | refine BV4.set2 ?_ _ | refine BV4.set3 ?_ _ | refine BV4.far ?_ (by simp only [ne_eq]; omega) _)))) hc1.gr (by simp; omega); clear hct hc1 hR; have hct := hct_1; have hR := hR_1; clear hct_1 hR_1; have hs_w2 := hct.size
  go_wp2_with fail
  refine (spec_l1Below b n cap A xs rows _ (CT.self (w0 := w) (B := B) (by (with_reducible (repeat (first | exact hct | refine CT.drew ?_ | refine CT.drewN ?_ _ | refine CT.alloc ?_ _ | refine CT.far ?_ Ks _ | refine CT.below ?_ (by assumption) Ks)))))).mono ?_
  rintro e w3 ⟨v, rfl, ⟨i, rfl, -, -⟩, hc1⟩
  have hct_1 : CT w w3 B b n cap A xs := CT.trans (by (with_reducible (repeat (first | exact hct | refine CT.drew ?_ | refine CT.drewN ?_ _ | refine CT.alloc ?_ _ | refine CT.far ?_ Ks _ | refine CT.below ?_ (by assumption) Ks)))) hc1; have hR_1 : BV4 w3 w.heap.size 0 0 0 0 := BV4.grown (by (with_reducible (repeat (first | exact hR | refine BV4.new _ _ _ _ _ _ Ks | refine BV4.drew ?_ | refine BV4.drewN ?_ _ | refine BV4.alloc ?_ _ | refine BV4.set0 ?_ _ | refine BV4.set2 ?_ _ | refine BV4.set3 ?_ _ | refine BV4.far ?_ (by simp only [ne_eq]; omega) _)))) hc1.gr (by simp; omega); clear hct hc1 hR; have hct := hct_1; have hR := hR_1; clear hct_1 hR_1; have hs_w3 := hct.size
  go_wp2_with fail
  refine (spec_l1Below b n cap A xs rows _ (CT.self (w0 := w) (B := B) (by (with_reducible (repeat (first | exact hct | refine CT.drew ?_ | refine CT.drewN ?_ _ | refine CT.alloc ?_ _ | refine CT.far ?_ Ks _ | refine CT.below ?_ (by assumption) Ks)))))).mono ?_
  rintro e w4 ⟨v, rfl, ⟨j, rfl, -, -⟩, hc1⟩
  have hct_1 : CT w w4 B b n cap A xs := CT.trans (by (with_reducible (repeat (first | exact hct | refine CT.drew ?_ | refine CT.drewN ?_ _ | refine CT.alloc ?_ _ | refine CT.far ?_ Ks _ | refine CT.below ?_ (by assumption) Ks)))) hc1; have hR_1 : BV4 w4 w.heap.size 0 0 0 0 := BV4.grown (by (with_reducible (repeat (first | exact hR | refine BV4.new _ _ _ _ _ _ Ks | refine BV4.drew ?_ | refine BV4.drewN ?_ _ | refine BV4.alloc ?_ _ | refine BV4.set0 ?_ _ | refine BV4.set2 ?_ _ | refine BV4.set3 ?_ _ | refine BV4.far ?_ (by simp only [ne_eq]; omega) _)))) hc1.gr (by simp; omega); clear hct hc1 hR; have hct := hct_1; have hR := hR_1; clear hct_1 hR_1; have hs_w4 := hct.size
  have hX : BV4 (w4.alloc (.cells #[.int .i64 k, .int .i64 i, .int .i64 j, .int .i64 0] 38)) w4.heap.size k i j 0 := by (with_reducible (repeat (first | exact hR | refine BV4.new _ _ _ _ _ _ Ks | refine BV4.drew ?_ | refine BV4.drewN ?_ _ | refine BV4.alloc ?_ _ | refine BV4.set0 ?_ _ | refine BV4.set2 ?_ _ | refine BV4.set3 ?_ _ | refine BV4.far ?_ (by simp only [ne_eq]; omega) _)))
  have hR4 : BV4 (w4.alloc (.cells #[.int .i64 k, .int .i64 i, .int .i64 j, .int .i64 0] 38)) w.heap.size 0 0 0 0 := by (with_reducible (repeat (first | exact hR | refine BV4.new _ _ _ _ _ _ Ks | refine BV4.drew ?_ | refine BV4.drewN ?_ _ | refine BV4.alloc ?_ _ | refine BV4.set0 ?_ _ | refine BV4.set2 ?_ _ | refine BV4.set3 ?_ _ | refine BV4.far ?_ (by simp only [ne_eq]; omega) _)))
  have hc4 : CT w (w4.alloc (.cells #[.int .i64 k, .int .i64 i, .int .i64 j, .int .i64 0] 38)) B b n cap A xs := by (with_reducible (repeat (first | exact hct | refine CT.drew ?_ | refine CT.drewN ?_ _ | refine CT.alloc ?_ _ | refine CT.far ?_ Ks _ | refine CT.below ?_ (by assumption) Ks)))
  have hlR := hR.cells.2.2.2.2.2
  clear hR hct
  have hR := hR4
  have hct := hc4
  clear hR4 hc4
  have hbX1 : w.heap.size < w4.heap.size := by omega
  have hbX2 : b < w4.heap.size := by omega
  have hk : k = 0 ∨ k = 1 ∨ k = 2 := by omega
  clear hk0 hk1
  rcases hk with rfl | rfl | rfl
  · go_upto_region 7 with fail
    generalize (w4.alloc (.cells #[.int .i64 0, .int .i64 i, .int .i64 j, .int .i64 0] 38)) = w5 at *
    generalize w4.heap.size = bX at *
    obtain ⟨x0, x1, x2, x3, xf, xl⟩ := hX.cells
    go_wp2_with fail
    refine (spec_l1Once b n cap A xs 24 _ (CT.self (w0 := w) (B := B) (by (with_reducible (repeat (first | exact hct | refine CT.drew ?_ | refine CT.drewN ?_ _ | refine CT.alloc ?_ _ | refine CT.far ?_ Ks _ | refine CT.below ?_ (by assumption) Ks)))))).mono ?_
    rintro e w6 ⟨v, rfl, ⟨q, rfl⟩, hc1⟩
    have hct_1 : CT w w6 B b n cap A xs := CT.trans (by (with_reducible (repeat (first | exact hct | refine CT.drew ?_ | refine CT.drewN ?_ _ | refine CT.alloc ?_ _ | refine CT.far ?_ Ks _ | refine CT.below ?_ (by assumption) Ks)))) hc1; have hR_1 : BV4 w6 w.heap.size 0 0 0 0 := BV4.grown (by (with_reducible (repeat (first | exact hR | refine BV4.new _ _ _ _ _ _ Ks | refine BV4.drew ?_ | refine BV4.drewN ?_ _ | refine BV4.alloc ?_ _ | refine BV4.set0 ?_ _ | refine BV4.set2 ?_ _ | refine BV4.set3 ?_ _ | refine BV4.far ?_ (by simp only [ne_eq]; omega) _)))) hc1.gr (by simp; omega); have hX_1 : BV4 w6 bX (0) i (j) (0) := BV4.grown (by (with_reducible (repeat (first | exact hX | refine BV4.new _ _ _ _ _ _ Ks | refine BV4.drew ?_ | refine BV4.drewN ?_ _ | refine BV4.alloc ?_ _ | refine BV4.set0 ?_ _ | refine BV4.set2 ?_ _ | refine BV4.set3 ?_ _ | refine BV4.far ?_ (by simp only [ne_eq]; omega) _)))) hc1.gr (by simp; omega); clear hct hc1 hR hX; (try clear x0 x1 x2 x3 xf xl); have hct := hct_1; have hR := hR_1; have hX := hX_1; clear hct_1 hR_1 hX_1; have hs_w6 := hct.size; obtain ⟨x0, x1, x2, x3, xf, xl⟩ := hX.cells
    rcases q with _ | _
    · skip
      have hvr : BO ((((w6.setCell ⟨w.heap.size, 0, none⟩ (.int .i64 (0))).setCell ⟨w.heap.size, 1, none⟩ (.int .i64 i)).setCell ⟨w.heap.size, 2, none⟩ (.int .i64 (j))).setCell ⟨w.heap.size, 3, none⟩ (.int .i64 (0))) w.heap.size ⟨(0), i, (j), (0)⟩ := BO.put (x := ⟨(0), i, (j), (0)⟩) (y := ⟨0, 0, 0, 0⟩) (show BV4 w6 w.heap.size 0 0 0 0 by (with_reducible (repeat (first | exact hR | refine BV4.new _ _ _ _ _ _ Ks | refine BV4.drew ?_ | refine BV4.drewN ?_ _ | refine BV4.alloc ?_ _ | refine BV4.set0 ?_ _ | refine BV4.set2 ?_ _ | refine BV4.set3 ?_ _ | refine BV4.far ?_ (by simp only [ne_eq]; omega) _))))
      obtain ⟨r0, r1, r2, r3, rf, rl⟩ := hR.cells
      go_wp2_with fail
      refine ret_O (b := w.heap.size) (x := ⟨(0), i, (j), (0)⟩) Try.results99 rfl hvr rfl ?_
      exact ⟨_, rfl, ⟨⟨(0), i, (j), (0)⟩, rfl⟩, by (with_reducible (repeat (first | exact hct | refine CT.drew ?_ | refine CT.drewN ?_ _ | refine CT.alloc ?_ _ | refine CT.far ?_ Ks _ | refine CT.below ?_ (by assumption) Ks)))⟩
    · go_wp2_with fail
      refine (spec_l1PickInt b n cap A xs (some ⟨w6.heap.size, 0, none⟩) _ _ [-1, 3, 1] _ (B2 := w6.heap.size + 1) (CT.self (w0 := w) (B := B) (by (with_reducible (repeat (first | exact hct | refine CT.drew ?_ | refine CT.drewN ?_ _ | refine CT.alloc ?_ _ | refine CT.far ?_ Ks _ | refine CT.below ?_ (by assumption) Ks))))) (RI.lit (Blk.new _ _ _)) Ks (not_at Ks) (by decide) (by decide)).mono ?_
      rintro e w7 ⟨v, rfl, ⟨y, rfl, -⟩, hc1⟩
      have hct_1 : CT w w7 B b n cap A xs := CT.trans (by (with_reducible (repeat (first | exact hct | refine CT.drew ?_ | refine CT.drewN ?_ _ | refine CT.alloc ?_ _ | refine CT.far ?_ Ks _ | refine CT.below ?_ (by assumption) Ks)))) hc1; have hR_1 : BV4 w7 w.heap.size 0 0 0 0 := BV4.grown (by (with_reducible (repeat (first | exact hR | refine BV4.new _ _ _ _ _ _ Ks | refine BV4.drew ?_ | refine BV4.drewN ?_ _ | refine BV4.alloc ?_ _ | refine BV4.set0 ?_ _ | refine BV4.set2 ?_ _ | refine BV4.set3 ?_ _ | refine BV4.far ?_ (by simp only [ne_eq]; omega) _)))) hc1.gr (by simp; omega); have hX_1 : BV4 w7 bX (0) i (j) (0) := BV4.grown (by (with_reducible (repeat (first | exact hX | refine BV4.new _ _ _ _ _ _ Ks | refine BV4.drew ?_ | refine BV4.drewN ?_ _ | refine BV4.alloc ?_ _ | refine BV4.set0 ?_ _ | refine BV4.set2 ?_ _ | refine BV4.set3 ?_ _ | refine BV4.far ?_ (by simp only [ne_eq]; omega) _)))) hc1.gr (by simp; omega); clear hct hc1 hR hX; (try clear x0 x1 x2 x3 xf xl); have hct := hct_1; have hR := hR_1; have hX := hX_1; clear hct_1 hR_1 hX_1; have hs_w7 := hct.size; obtain ⟨x0, x1, x2, x3, xf, xl⟩ := hX.cells
      have hX2 : BV4 (w7.setCell ⟨bX, 0, none⟩ (.int .i64 y)) bX y i (j) (0) := BV4.set0 hX y
      have hR2 : BV4 (w7.setCell ⟨bX, 0, none⟩ (.int .i64 y)) w.heap.size 0 0 0 0 := by (with_reducible (repeat (first | exact hR | refine BV4.new _ _ _ _ _ _ Ks | refine BV4.drew ?_ | refine BV4.drewN ?_ _ | refine BV4.alloc ?_ _ | refine BV4.set0 ?_ _ | refine BV4.set2 ?_ _ | refine BV4.set3 ?_ _ | refine BV4.far ?_ (by simp only [ne_eq]; omega) _)))
      have hc2 : CT w (w7.setCell ⟨bX, 0, none⟩ (.int .i64 y)) B b n cap A xs := by (with_reducible (repeat (first | exact hct | refine CT.drew ?_ | refine CT.drewN ?_ _ | refine CT.alloc ?_ _ | refine CT.far ?_ Ks _ | refine CT.below ?_ (by assumption) Ks)))
      clear hX hR hct
      have hR := hR2
      have hct := hc2
      clear hR2 hc2
      have hvr : BO (((((w7.setCell ⟨bX, 0, none⟩ (.int .i64 y)).setCell ⟨w.heap.size, 0, none⟩ (.int .i64 y)).setCell ⟨w.heap.size, 1, none⟩ (.int .i64 i)).setCell ⟨w.heap.size, 2, none⟩ (.int .i64 (j))).setCell ⟨w.heap.size, 3, none⟩ (.int .i64 (0))) w.heap.size ⟨y, i, (j), (0)⟩ := BO.put (x := ⟨y, i, (j), (0)⟩) (y := ⟨0, 0, 0, 0⟩) (show BV4 (w7.setCell ⟨bX, 0, none⟩ (.int .i64 y)) w.heap.size 0 0 0 0 by (with_reducible (repeat (first | exact hR | refine BV4.new _ _ _ _ _ _ Ks | refine BV4.drew ?_ | refine BV4.drewN ?_ _ | refine BV4.alloc ?_ _ | refine BV4.set0 ?_ _ | refine BV4.set2 ?_ _ | refine BV4.set3 ?_ _ | refine BV4.far ?_ (by simp only [ne_eq]; omega) _))))
      obtain ⟨r0, r1, r2, r3, rf, rl⟩ := hR.cells
      go_wp2_with fail
      refine ret_O (b := w.heap.size) (x := ⟨y, i, (j), (0)⟩) Try.results99 rfl hvr rfl ?_
      exact ⟨_, rfl, ⟨⟨y, i, (j), (0)⟩, rfl⟩, by (with_reducible (repeat (first | exact hct | refine CT.drew ?_ | refine CT.drewN ?_ _ | refine CT.alloc ?_ _ | refine CT.far ?_ Ks _ | refine CT.below ?_ (by assumption) Ks)))⟩
  · go_upto_region 6 with fail
    generalize (w4.alloc (.cells #[.int .i64 1, .int .i64 i, .int .i64 j, .int .i64 0] 38)) = w5 at *
    generalize w4.heap.size = bX at *
    obtain ⟨x0, x1, x2, x3, xf, xl⟩ := hX.cells
    have hX2 : BV4 (w5.setCell ⟨bX, 2, none⟩ (.int .i64 i)) bX 1 i i 0 := BV4.set2 hX i
    have hR2 : BV4 (w5.setCell ⟨bX, 2, none⟩ (.int .i64 i)) w.heap.size 0 0 0 0 := by (with_reducible (repeat (first | exact hR | refine BV4.new _ _ _ _ _ _ Ks | refine BV4.drew ?_ | refine BV4.drewN ?_ _ | refine BV4.alloc ?_ _ | refine BV4.set0 ?_ _ | refine BV4.set2 ?_ _ | refine BV4.set3 ?_ _ | refine BV4.far ?_ (by simp only [ne_eq]; omega) _)))
    have hc2 : CT w (w5.setCell ⟨bX, 2, none⟩ (.int .i64 i)) B b n cap A xs := by (with_reducible (repeat (first | exact hct | refine CT.drew ?_ | refine CT.drewN ?_ _ | refine CT.alloc ?_ _ | refine CT.far ?_ Ks _ | refine CT.below ?_ (by assumption) Ks)))
    clear hX hR hct
    have hX := hX2
    have hR := hR2
    have hct := hc2
    clear hX2 hR2 hc2
    go_wp2_with fail
    refine (spec_l1Once b n cap A xs 24 _ (CT.self (w0 := w) (B := B) (by (with_reducible (repeat (first | exact hct | refine CT.drew ?_ | refine CT.drewN ?_ _ | refine CT.alloc ?_ _ | refine CT.far ?_ Ks _ | refine CT.below ?_ (by assumption) Ks)))))).mono ?_
    rintro e w6 ⟨v, rfl, ⟨q, rfl⟩, hc1⟩
    have hct_1 : CT w w6 B b n cap A xs := CT.trans (by (with_reducible (repeat (first | exact hct | refine CT.drew ?_ | refine CT.drewN ?_ _ | refine CT.alloc ?_ _ | refine CT.far ?_ Ks _ | refine CT.below ?_ (by assumption) Ks)))) hc1; have hR_1 : BV4 w6 w.heap.size 0 0 0 0 := BV4.grown (by (with_reducible (repeat (first | exact hR | refine BV4.new _ _ _ _ _ _ Ks | refine BV4.drew ?_ | refine BV4.drewN ?_ _ | refine BV4.alloc ?_ _ | refine BV4.set0 ?_ _ | refine BV4.set2 ?_ _ | refine BV4.set3 ?_ _ | refine BV4.far ?_ (by simp only [ne_eq]; omega) _)))) hc1.gr (by simp; omega); have hX_1 : BV4 w6 bX (1) i (i) (0) := BV4.grown (by (with_reducible (repeat (first | exact hX | refine BV4.new _ _ _ _ _ _ Ks | refine BV4.drew ?_ | refine BV4.drewN ?_ _ | refine BV4.alloc ?_ _ | refine BV4.set0 ?_ _ | refine BV4.set2 ?_ _ | refine BV4.set3 ?_ _ | refine BV4.far ?_ (by simp only [ne_eq]; omega) _)))) hc1.gr (by simp; omega); clear hct hc1 hR hX; (try clear x0 x1 x2 x3 xf xl); have hct := hct_1; have hR := hR_1; have hX := hX_1; clear hct_1 hR_1 hX_1; have hs_w6 := hct.size; obtain ⟨x0, x1, x2, x3, xf, xl⟩ := hX.cells
    rcases q with _ | _
    · skip
      have hvr : BO ((((w6.setCell ⟨w.heap.size, 0, none⟩ (.int .i64 (1))).setCell ⟨w.heap.size, 1, none⟩ (.int .i64 i)).setCell ⟨w.heap.size, 2, none⟩ (.int .i64 (i))).setCell ⟨w.heap.size, 3, none⟩ (.int .i64 (0))) w.heap.size ⟨(1), i, (i), (0)⟩ := BO.put (x := ⟨(1), i, (i), (0)⟩) (y := ⟨0, 0, 0, 0⟩) (show BV4 w6 w.heap.size 0 0 0 0 by (with_reducible (repeat (first | exact hR | refine BV4.new _ _ _ _ _ _ Ks | refine BV4.drew ?_ | refine BV4.drewN ?_ _ | refine BV4.alloc ?_ _ | refine BV4.set0 ?_ _ | refine BV4.set2 ?_ _ | refine BV4.set3 ?_ _ | refine BV4.far ?_ (by simp only [ne_eq]; omega) _))))
      obtain ⟨r0, r1, r2, r3, rf, rl⟩ := hR.cells
      go_wp2_with fail
      refine ret_O (b := w.heap.size) (x := ⟨(1), i, (i), (0)⟩) Try.results99 rfl hvr rfl ?_
      exact ⟨_, rfl, ⟨⟨(1), i, (i), (0)⟩, rfl⟩, by (with_reducible (repeat (first | exact hct | refine CT.drew ?_ | refine CT.drewN ?_ _ | refine CT.alloc ?_ _ | refine CT.far ?_ Ks _ | refine CT.below ?_ (by assumption) Ks)))⟩
    · go_wp2_with fail
      refine (spec_l1PickInt b n cap A xs (some ⟨w6.heap.size, 0, none⟩) _ _ [-1, 3, 1] _ (B2 := w6.heap.size + 1) (CT.self (w0 := w) (B := B) (by (with_reducible (repeat (first | exact hct | refine CT.drew ?_ | refine CT.drewN ?_ _ | refine CT.alloc ?_ _ | refine CT.far ?_ Ks _ | refine CT.below ?_ (by assumption) Ks))))) (RI.lit (Blk.new _ _ _)) Ks (not_at Ks) (by decide) (by decide)).mono ?_
      rintro e w7 ⟨v, rfl, ⟨y, rfl, -⟩, hc1⟩
      have hct_1 : CT w w7 B b n cap A xs := CT.trans (by (with_reducible (repeat (first | exact hct | refine CT.drew ?_ | refine CT.drewN ?_ _ | refine CT.alloc ?_ _ | refine CT.far ?_ Ks _ | refine CT.below ?_ (by assumption) Ks)))) hc1; have hR_1 : BV4 w7 w.heap.size 0 0 0 0 := BV4.grown (by (with_reducible (repeat (first | exact hR | refine BV4.new _ _ _ _ _ _ Ks | refine BV4.drew ?_ | refine BV4.drewN ?_ _ | refine BV4.alloc ?_ _ | refine BV4.set0 ?_ _ | refine BV4.set2 ?_ _ | refine BV4.set3 ?_ _ | refine BV4.far ?_ (by simp only [ne_eq]; omega) _)))) hc1.gr (by simp; omega); have hX_1 : BV4 w7 bX (1) i (i) (0) := BV4.grown (by (with_reducible (repeat (first | exact hX | refine BV4.new _ _ _ _ _ _ Ks | refine BV4.drew ?_ | refine BV4.drewN ?_ _ | refine BV4.alloc ?_ _ | refine BV4.set0 ?_ _ | refine BV4.set2 ?_ _ | refine BV4.set3 ?_ _ | refine BV4.far ?_ (by simp only [ne_eq]; omega) _)))) hc1.gr (by simp; omega); clear hct hc1 hR hX; (try clear x0 x1 x2 x3 xf xl); have hct := hct_1; have hR := hR_1; have hX := hX_1; clear hct_1 hR_1 hX_1; have hs_w7 := hct.size; obtain ⟨x0, x1, x2, x3, xf, xl⟩ := hX.cells
      have hX2 : BV4 (w7.setCell ⟨bX, 0, none⟩ (.int .i64 y)) bX y i (i) (0) := BV4.set0 hX y
      have hR2 : BV4 (w7.setCell ⟨bX, 0, none⟩ (.int .i64 y)) w.heap.size 0 0 0 0 := by (with_reducible (repeat (first | exact hR | refine BV4.new _ _ _ _ _ _ Ks | refine BV4.drew ?_ | refine BV4.drewN ?_ _ | refine BV4.alloc ?_ _ | refine BV4.set0 ?_ _ | refine BV4.set2 ?_ _ | refine BV4.set3 ?_ _ | refine BV4.far ?_ (by simp only [ne_eq]; omega) _)))
      have hc2 : CT w (w7.setCell ⟨bX, 0, none⟩ (.int .i64 y)) B b n cap A xs := by (with_reducible (repeat (first | exact hct | refine CT.drew ?_ | refine CT.drewN ?_ _ | refine CT.alloc ?_ _ | refine CT.far ?_ Ks _ | refine CT.below ?_ (by assumption) Ks)))
      clear hX hR hct
      have hR := hR2
      have hct := hc2
      clear hR2 hc2
      have hvr : BO (((((w7.setCell ⟨bX, 0, none⟩ (.int .i64 y)).setCell ⟨w.heap.size, 0, none⟩ (.int .i64 y)).setCell ⟨w.heap.size, 1, none⟩ (.int .i64 i)).setCell ⟨w.heap.size, 2, none⟩ (.int .i64 (i))).setCell ⟨w.heap.size, 3, none⟩ (.int .i64 (0))) w.heap.size ⟨y, i, (i), (0)⟩ := BO.put (x := ⟨y, i, (i), (0)⟩) (y := ⟨0, 0, 0, 0⟩) (show BV4 (w7.setCell ⟨bX, 0, none⟩ (.int .i64 y)) w.heap.size 0 0 0 0 by (with_reducible (repeat (first | exact hR | refine BV4.new _ _ _ _ _ _ Ks | refine BV4.drew ?_ | refine BV4.drewN ?_ _ | refine BV4.alloc ?_ _ | refine BV4.set0 ?_ _ | refine BV4.set2 ?_ _ | refine BV4.set3 ?_ _ | refine BV4.far ?_ (by simp only [ne_eq]; omega) _))))
      obtain ⟨r0, r1, r2, r3, rf, rl⟩ := hR.cells
      go_wp2_with fail
      refine ret_O (b := w.heap.size) (x := ⟨y, i, (i), (0)⟩) Try.results99 rfl hvr rfl ?_
      exact ⟨_, rfl, ⟨⟨y, i, (i), (0)⟩, rfl⟩, by (with_reducible (repeat (first | exact hct | refine CT.drew ?_ | refine CT.drewN ?_ _ | refine CT.alloc ?_ _ | refine CT.far ?_ Ks _ | refine CT.below ?_ (by assumption) Ks)))⟩
  · go_upto_region 4 with fail
    generalize (w4.alloc (.cells #[.int .i64 2, .int .i64 i, .int .i64 j, .int .i64 0] 38)) = w5 at *
    generalize w4.heap.size = bX at *
    obtain ⟨x0, x1, x2, x3, xf, xl⟩ := hX.cells
    go_wp2_with fail
    refine (spec_l1Num b n cap A xs 4 _ (CT.self (w0 := w) (B := B) (by (with_reducible (repeat (first | exact hct | refine CT.drew ?_ | refine CT.drewN ?_ _ | refine CT.alloc ?_ _ | refine CT.far ?_ Ks _ | refine CT.below ?_ (by assumption) Ks))))) (by omega)).mono ?_
    rintro e w8 ⟨v, rfl, ⟨t, rfl, -, -⟩, hc1⟩
    have hct_1 : CT w w8 B b n cap A xs := CT.trans (by (with_reducible (repeat (first | exact hct | refine CT.drew ?_ | refine CT.drewN ?_ _ | refine CT.alloc ?_ _ | refine CT.far ?_ Ks _ | refine CT.below ?_ (by assumption) Ks)))) hc1; have hR_1 : BV4 w8 w.heap.size 0 0 0 0 := BV4.grown (by (with_reducible (repeat (first | exact hR | refine BV4.new _ _ _ _ _ _ Ks | refine BV4.drew ?_ | refine BV4.drewN ?_ _ | refine BV4.alloc ?_ _ | refine BV4.set0 ?_ _ | refine BV4.set2 ?_ _ | refine BV4.set3 ?_ _ | refine BV4.far ?_ (by simp only [ne_eq]; omega) _)))) hc1.gr (by simp; omega); have hX_1 : BV4 w8 bX 2 i j 0 := BV4.grown (by (with_reducible (repeat (first | exact hX | refine BV4.new _ _ _ _ _ _ Ks | refine BV4.drew ?_ | refine BV4.drewN ?_ _ | refine BV4.alloc ?_ _ | refine BV4.set0 ?_ _ | refine BV4.set2 ?_ _ | refine BV4.set3 ?_ _ | refine BV4.far ?_ (by simp only [ne_eq]; omega) _)))) hc1.gr (by simp; omega); clear hct hc1 hR hX; (try clear x0 x1 x2 x3 xf xl); have hct := hct_1; have hR := hR_1; have hX := hX_1; clear hct_1 hR_1 hX_1; have hs_w8 := hct.size; obtain ⟨x0, x1, x2, x3, xf, xl⟩ := hX.cells
    have hX2 : BV4 (w8.setCell ⟨bX, 3, none⟩ (.int .i64 t)) bX 2 i j t := BV4.set3 hX t
    have hR2 : BV4 (w8.setCell ⟨bX, 3, none⟩ (.int .i64 t)) w.heap.size 0 0 0 0 := by (with_reducible (repeat (first | exact hR | refine BV4.new _ _ _ _ _ _ Ks | refine BV4.drew ?_ | refine BV4.drewN ?_ _ | refine BV4.alloc ?_ _ | refine BV4.set0 ?_ _ | refine BV4.set2 ?_ _ | refine BV4.set3 ?_ _ | refine BV4.far ?_ (by simp only [ne_eq]; omega) _)))
    have hc2 : CT w (w8.setCell ⟨bX, 3, none⟩ (.int .i64 t)) B b n cap A xs := by (with_reducible (repeat (first | exact hct | refine CT.drew ?_ | refine CT.drewN ?_ _ | refine CT.alloc ?_ _ | refine CT.far ?_ Ks _ | refine CT.below ?_ (by assumption) Ks)))
    clear hX hR hct
    have hX := hX2
    have hR := hR2
    have hct := hc2
    clear hX2 hR2 hc2
    go_wp2_with fail
    refine (spec_l1Once b n cap A xs 24 _ (CT.self (w0 := w) (B := B) (by (with_reducible (repeat (first | exact hct | refine CT.drew ?_ | refine CT.drewN ?_ _ | refine CT.alloc ?_ _ | refine CT.far ?_ Ks _ | refine CT.below ?_ (by assumption) Ks)))))).mono ?_
    rintro e w6 ⟨v, rfl, ⟨q, rfl⟩, hc1⟩
    have hct_1 : CT w w6 B b n cap A xs := CT.trans (by (with_reducible (repeat (first | exact hct | refine CT.drew ?_ | refine CT.drewN ?_ _ | refine CT.alloc ?_ _ | refine CT.far ?_ Ks _ | refine CT.below ?_ (by assumption) Ks)))) hc1; have hR_1 : BV4 w6 w.heap.size 0 0 0 0 := BV4.grown (by (with_reducible (repeat (first | exact hR | refine BV4.new _ _ _ _ _ _ Ks | refine BV4.drew ?_ | refine BV4.drewN ?_ _ | refine BV4.alloc ?_ _ | refine BV4.set0 ?_ _ | refine BV4.set2 ?_ _ | refine BV4.set3 ?_ _ | refine BV4.far ?_ (by simp only [ne_eq]; omega) _)))) hc1.gr (by simp; omega); have hX_1 : BV4 w6 bX (2) i (j) (t) := BV4.grown (by (with_reducible (repeat (first | exact hX | refine BV4.new _ _ _ _ _ _ Ks | refine BV4.drew ?_ | refine BV4.drewN ?_ _ | refine BV4.alloc ?_ _ | refine BV4.set0 ?_ _ | refine BV4.set2 ?_ _ | refine BV4.set3 ?_ _ | refine BV4.far ?_ (by simp only [ne_eq]; omega) _)))) hc1.gr (by simp; omega); clear hct hc1 hR hX; (try clear x0 x1 x2 x3 xf xl); have hct := hct_1; have hR := hR_1; have hX := hX_1; clear hct_1 hR_1 hX_1; have hs_w6 := hct.size; obtain ⟨x0, x1, x2, x3, xf, xl⟩ := hX.cells
    rcases q with _ | _
    · skip
      have hvr : BO ((((w6.setCell ⟨w.heap.size, 0, none⟩ (.int .i64 (2))).setCell ⟨w.heap.size, 1, none⟩ (.int .i64 i)).setCell ⟨w.heap.size, 2, none⟩ (.int .i64 (j))).setCell ⟨w.heap.size, 3, none⟩ (.int .i64 (t))) w.heap.size ⟨(2), i, (j), (t)⟩ := BO.put (x := ⟨(2), i, (j), (t)⟩) (y := ⟨0, 0, 0, 0⟩) (show BV4 w6 w.heap.size 0 0 0 0 by (with_reducible (repeat (first | exact hR | refine BV4.new _ _ _ _ _ _ Ks | refine BV4.drew ?_ | refine BV4.drewN ?_ _ | refine BV4.alloc ?_ _ | refine BV4.set0 ?_ _ | refine BV4.set2 ?_ _ | refine BV4.set3 ?_ _ | refine BV4.far ?_ (by simp only [ne_eq]; omega) _))))
      obtain ⟨r0, r1, r2, r3, rf, rl⟩ := hR.cells
      go_wp2_with fail
      refine ret_O (b := w.heap.size) (x := ⟨(2), i, (j), (t)⟩) Try.results99 rfl hvr rfl ?_
      exact ⟨_, rfl, ⟨⟨(2), i, (j), (t)⟩, rfl⟩, by (with_reducible (repeat (first | exact hct | refine CT.drew ?_ | refine CT.drewN ?_ _ | refine CT.alloc ?_ _ | refine CT.far ?_ Ks _ | refine CT.below ?_ (by assumption) Ks)))⟩
    · go_wp2_with fail
      refine (spec_l1PickInt b n cap A xs (some ⟨w6.heap.size, 0, none⟩) _ _ [-1, 3, 1] _ (B2 := w6.heap.size + 1) (CT.self (w0 := w) (B := B) (by (with_reducible (repeat (first | exact hct | refine CT.drew ?_ | refine CT.drewN ?_ _ | refine CT.alloc ?_ _ | refine CT.far ?_ Ks _ | refine CT.below ?_ (by assumption) Ks))))) (RI.lit (Blk.new _ _ _)) Ks (not_at Ks) (by decide) (by decide)).mono ?_
      rintro e w7 ⟨v, rfl, ⟨y, rfl, -⟩, hc1⟩
      have hct_1 : CT w w7 B b n cap A xs := CT.trans (by (with_reducible (repeat (first | exact hct | refine CT.drew ?_ | refine CT.drewN ?_ _ | refine CT.alloc ?_ _ | refine CT.far ?_ Ks _ | refine CT.below ?_ (by assumption) Ks)))) hc1; have hR_1 : BV4 w7 w.heap.size 0 0 0 0 := BV4.grown (by (with_reducible (repeat (first | exact hR | refine BV4.new _ _ _ _ _ _ Ks | refine BV4.drew ?_ | refine BV4.drewN ?_ _ | refine BV4.alloc ?_ _ | refine BV4.set0 ?_ _ | refine BV4.set2 ?_ _ | refine BV4.set3 ?_ _ | refine BV4.far ?_ (by simp only [ne_eq]; omega) _)))) hc1.gr (by simp; omega); have hX_1 : BV4 w7 bX (2) i (j) (t) := BV4.grown (by (with_reducible (repeat (first | exact hX | refine BV4.new _ _ _ _ _ _ Ks | refine BV4.drew ?_ | refine BV4.drewN ?_ _ | refine BV4.alloc ?_ _ | refine BV4.set0 ?_ _ | refine BV4.set2 ?_ _ | refine BV4.set3 ?_ _ | refine BV4.far ?_ (by simp only [ne_eq]; omega) _)))) hc1.gr (by simp; omega); clear hct hc1 hR hX; (try clear x0 x1 x2 x3 xf xl); have hct := hct_1; have hR := hR_1; have hX := hX_1; clear hct_1 hR_1 hX_1; have hs_w7 := hct.size; obtain ⟨x0, x1, x2, x3, xf, xl⟩ := hX.cells
      have hX2 : BV4 (w7.setCell ⟨bX, 0, none⟩ (.int .i64 y)) bX y i (j) (t) := BV4.set0 hX y
      have hR2 : BV4 (w7.setCell ⟨bX, 0, none⟩ (.int .i64 y)) w.heap.size 0 0 0 0 := by (with_reducible (repeat (first | exact hR | refine BV4.new _ _ _ _ _ _ Ks | refine BV4.drew ?_ | refine BV4.drewN ?_ _ | refine BV4.alloc ?_ _ | refine BV4.set0 ?_ _ | refine BV4.set2 ?_ _ | refine BV4.set3 ?_ _ | refine BV4.far ?_ (by simp only [ne_eq]; omega) _)))
      have hc2 : CT w (w7.setCell ⟨bX, 0, none⟩ (.int .i64 y)) B b n cap A xs := by (with_reducible (repeat (first | exact hct | refine CT.drew ?_ | refine CT.drewN ?_ _ | refine CT.alloc ?_ _ | refine CT.far ?_ Ks _ | refine CT.below ?_ (by assumption) Ks)))
      clear hX hR hct
      have hR := hR2
      have hct := hc2
      clear hR2 hc2
      have hvr : BO (((((w7.setCell ⟨bX, 0, none⟩ (.int .i64 y)).setCell ⟨w.heap.size, 0, none⟩ (.int .i64 y)).setCell ⟨w.heap.size, 1, none⟩ (.int .i64 i)).setCell ⟨w.heap.size, 2, none⟩ (.int .i64 (j))).setCell ⟨w.heap.size, 3, none⟩ (.int .i64 (t))) w.heap.size ⟨y, i, (j), (t)⟩ := BO.put (x := ⟨y, i, (j), (t)⟩) (y := ⟨0, 0, 0, 0⟩) (show BV4 (w7.setCell ⟨bX, 0, none⟩ (.int .i64 y)) w.heap.size 0 0 0 0 by (with_reducible (repeat (first | exact hR | refine BV4.new _ _ _ _ _ _ Ks | refine BV4.drew ?_ | refine BV4.drewN ?_ _ | refine BV4.alloc ?_ _ | refine BV4.set0 ?_ _ | refine BV4.set2 ?_ _ | refine BV4.set3 ?_ _ | refine BV4.far ?_ (by simp only [ne_eq]; omega) _))))
      obtain ⟨r0, r1, r2, r3, rf, rl⟩ := hR.cells
      go_wp2_with fail
      refine ret_O (b := w.heap.size) (x := ⟨y, i, (j), (t)⟩) Try.results99 rfl hvr rfl ?_
      exact ⟨_, rfl, ⟨⟨y, i, (j), (t)⟩, rfl⟩, by (with_reducible (repeat (first | exact hct | refine CT.drew ?_ | refine CT.drewN ?_ _ | refine CT.alloc ?_ _ | refine CT.far ?_ Ks _ | refine CT.below ?_ (by assumption) Ks)))⟩
/-- What the call lays from block B0 on is a slice of at most lim operations. -/
def OOs (B0 lim : Nat) (w' : World) (v : Value) : Prop := ∃ (A : Option Addr) (c : Nat) (l : List Rop), v = .slice A l.length c ∧ OG w' B0 (.slice A l.length c) l.length (flat4 l) ∧ l.length ≤ lim
theorem OG.turned {w w' : World} {B B1 b n cap m : Nat} {A : Option Addr} {xs ys : List Int} {v : Value} (h : OG w B1 v m ys) (hc : CT w w' B b n cap A xs) (hb : b < B1) : OG w' B1 v m ys :=
  h.kept hc.gr (.inr fun e => by have := (h.own b e).1; omega)
set_option maxRecDepth 100000 in
set_option maxHeartbeats 8000000 in
theorem spec_l5Ops (b n cap : Nat) (A : Option Addr) (xs : List Int) (rows : Int) (w : World) {B : Nat} (hct : CT w w B b n cap A xs) :
    Calls Try.prog 45 #[.pointer (some ⟨b, 0, none⟩), .int .i64 rows] w (DRV (OOs w.heap.size 5) B b n cap A xs w) := by
  have hb := hct.hb
  have hsz := hct.size
  go_enter Try.func45, Try.ntmps45
  go_wp2_with fail
  have ho : OG (w.alloc (.cells #[] 38)) w.heap.size (.slice (some ⟨w.heap.size, 0, none⟩) 0 0) 0 [] := OG.empty _ _ rfl (Nat.le_refl _)
  refine (spec_l1Below b n cap A xs 5 _ (CT.self (w0 := w) (B := B) (by (with_reducible (repeat (first | exact hct | refine CT.drew ?_ | refine CT.drewN ?_ _ | refine CT.alloc ?_ _ | refine CT.far ?_ Ks _ | refine CT.below ?_ (by assumption) Ks)))))).mono ?_
  rintro e w1 ⟨v, rfl, ⟨m, rfl, hm0, hm1⟩, hc1⟩
  have hct_1 : CT w w1 B b n cap A xs := CT.trans (by (with_reducible (repeat (first | exact hct | refine CT.drew ?_ | refine CT.drewN ?_ _ | refine CT.alloc ?_ _ | refine CT.far ?_ Ks _ | refine CT.below ?_ (by assumption) Ks)))) hc1
  have ho_1 := OG.turned ho hc1 hb
  clear hct ho hc1
  go_wp2_with fail
  go_loopw [5, 6] (fun u v wr => ∃ (k : Int) (P : Option Addr) (pc : Nat) (l : List Rop), v = .int .i64 k ∧ u = .slice P l.length pc ∧ 0 ≤ k ∧ l.length + k ≤ 5 ∧ OG wr w.heap.size (.slice P l.length pc) l.length (flat4 l) ∧ CT w wr B b n cap A xs) (fun _ v _ => (intOf v).toNat)
  case atStart => exact ⟨m, _, _, [], rfl, rfl, hm0, by simp; omega, ho_1, hct_1⟩
  case round =>
    clear hct_1 ho_1
    obtain ⟨k, P, pc, l, rfl, rfl, hk0, hk5, ho, hct⟩ := hrel
    have hszr := hct.size
    obtain ⟨q, hq⟩ : ∃ q, l.length = q := ⟨_, rfl⟩
    rw [hq] at ho hk5 ⊢
    have HQ := Lib.hid hq
    clear hq
    by_cases hk : 0 < k
    · go_wp2_with fail
      refine (spec_l5Op b n cap A xs rows _ (CT.self (w0 := w) (B := B) (by (with_reducible (repeat (first | exact hct | refine CT.drew ?_ | refine CT.drewN ?_ _ | refine CT.alloc ?_ _ | refine CT.far ?_ Ks _ | refine CT.below ?_ (by assumption) Ks)))))).mono ?_
      rintro e w2 ⟨v, rfl, ⟨x, rfl⟩, hc1⟩
      unfold oV
      have hct2 : CT w w2 B b n cap A xs := CT.trans (by (with_reducible (repeat (first | exact hct | refine CT.drew ?_ | refine CT.drewN ?_ _ | refine CT.alloc ?_ _ | refine CT.far ?_ Ks _ | refine CT.below ?_ (by assumption) Ks)))) hc1
      have ho2 : OG w2 w.heap.size (.slice P q pc) q (flat4 l) := OG.turned ho hc1 hb
      have hsz2 := hct2.size
      clear hct ho hc1
      go_wp2_with (at_builtin; refine wpList_append_rop _ rfl (.tmp 14) (.tmp 18) rfl w.heap.size _ q _ rfl (ho2.alloc _) _ x.k x.i x.j x.t rfl ?f1 ?f2 ?f3 ?f4 ?f5 ?f6 ?_)
      case f1 => simp [go_sem]
      case f2 => simp [go_sem]
      case f3 => simp [go_sem]
      case f4 => simp [go_sem]
      case f5 => omega
      case f6 => simp; omega
      intro v1 w6 hown1 hgr hat
      have hct6 : CT w w6 B b n cap A xs := by
        have h1 : CT w (w2.alloc (.cells #[.int .i64 x.k, .int .i64 x.i, .int .i64 x.j, .int .i64 x.t] 38)) B b n cap A xs := hct2.alloc _
        exact h1.below (only_below hgr (Nat.le_trans h1.size (Nat.le_refl _)) fun g e => by have := ((ho2.alloc (.cells #[.int .i64 x.k, .int .i64 x.i, .int .i64 x.j, .int .i64 x.t] 38)).own g e).1; omega) (Nat.le_refl _)
      have hlx : (l ++ [x]).length = q + 1 := by rw [List.length_append, HQ.out]; rfl
      have hown2 : OG w6 w.heap.size v1 (l ++ [x]).length (flat4 (l ++ [x])) := by
        rw [hlx, flat4_app]; exact hown1
      obtain ⟨P', pc', rfl⟩ := hown2.shape
      have HLX := Lib.hid hlx
      clear hct2 ho2 hgr hat hown1 hlx
      go_wp2_with fail
      go_roundw
      case rel => exact ⟨k - 1, P', pc', l ++ [x], by go_num, rfl, by omega, by rw [HLX.out]; omega, hown2, hct6⟩
      case measure => simp only [intOf]; omega
    · have ho2 : OG wr w.heap.size (.slice P l.length pc) l.length (flat4 l) := by rw [HQ.out]; exact ho
      clear ho
      go_wp2_with fail
      go_ret
      exact ⟨_, rfl, ⟨P, pc, l, by rw [HQ.out]; rfl, ho2, by rw [HQ.out]; omega⟩, hct⟩
end Go.Proofs.Ytlggfmfelakadaa

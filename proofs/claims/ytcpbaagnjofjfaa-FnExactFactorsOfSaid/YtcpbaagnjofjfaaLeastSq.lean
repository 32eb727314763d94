/-
  DERIVED. l1Bads, l12Cell, l12Least, l12Alone, l12Ops of the reference.
-/
import Derived.Test.YtcpbaagnjofjfaaZ3
import Derived.Test.YtcpbaagnjofjfaaZ1
import Derived.Test.YtcpbaagnjofjfaaZ2
import Derived.Test.YtcpbaagnjofjfaaOpsSq
import Derived.Test.YtcpbaagnjofjfaaLeastq
namespace Go.Proofs.Ytcpbaagnjofjfaa
open Go.RowKit
set_option linter.unusedVariables false
set_option linter.unusedSimpArgs false
theorem spec_l1Bads (A : Option Addr) (n cap : Nat) (xs : List Int) (w : World) {B : Nat} (h : RI w B A n xs) (hn : n ≤ 1048576) :
    Calls Try.prog 138 #[.slice A n cap] w (EV (.bool (!xs.all noBad)) w) := by
  have hlen := h.len
  have hlx : xs.length ≤ n ∧ n ≤ xs.length := by omega
  have H := Lib.hid h
  clear h hlen
  go_enter Try.func138, Try.ntmps138
  go_wp2_with fail
  go_loop [3] (fun v => ∃ k : Nat, v = .int .i64 k ∧ k ≤ n ∧ (xs.take k).all noBad = true) (fun v => n - (intOf v).toNat)
  case atStart => exact ⟨0, rfl, Nat.zero_le _, by simp⟩
  case round =>
    obtain ⟨k, rfl, hk, hz⟩ := hrel
    have HZ := Lib.hid hz
    clear hz
    by_cases hlt : k < n
    · obtain ⟨b, o, rfl, hbb, hcells⟩ := H.out.2 (by omega)
      have c1 := hcells k hlt
      clear hcells
      have hat := all_take (xs := xs) (p := noBad) (show k < xs.length by omega)
      have hfa := all_false (xs := xs) (p := noBad) (show k < xs.length by omega)
      rw [HZ.out, Bool.true_and] at hat
      generalize xs.getD k 0 = x at c1 hat hfa
      rcases hx : (x == -4611686018427387904) with _ | _
      · have hn := Lib.hid (hat.trans (show noBad x = true by unfold noBad; rw [hx]; rfl))
        clear hat hfa
        go_wp2_with fail
        go_round
        case rel => exact ⟨k + 1, by go_num, by omega, hn.out⟩
        case measure => simp only [intOf]; omega
      · have hn := Lib.hid (hfa (show noBad x = false by unfold noBad; rw [hx]; rfl))
        clear hat hfa
        go_wp2_with fail
        go_ret
        exact EV.mk (vbool (by rw [hn.out]; rfl))
    · have hall := Lib.hid (show xs.all noBad = true by
        have := HZ.out
        rw [List.take_of_length_le (by omega)] at this
        exact this)
      go_wp2_with fail
      go_ret
      exact EV.mk (vbool (by rw [hall.out]; rfl))
theorem spec_l12Cell_tb (R C i j : Nat) (A : Option Addr) (n cap : Nat) (F : Nat → Nat → Int) (v : Int) (hv : F i j = v) (w : World) {B : Nat} (h : OR w B (.slice A n cap) (tb R C F)) (hR : R ≤ 48) (hC : C ≤ 48) (hi : i < R) (hj : j < C) :
    Calls Try.prog 88 #[.agg #[.int .i64 R, .int .i64 C, .slice A n cap], .int .i64 i, .int .i64 j] w (BV (.int .i64 v) w) := by
  have hn := h.lenEq
  rw [tb_len] at hn
  have h1 := idx_nat hi hj
  have h2 : i * C ≤ 48 * 48 := Nat.mul_le_mul (by omega) hC
  have e1 : (i : Int) * (C : Int) = ((i * C : Nat) : Int) := by rw [Int.natCast_mul]
  have := spec_l12Cell R C i j A n cap (tb R C F) w h.reads (Nat.le_refl _) ⟨by omega, by omega⟩ ⟨by omega, by omega⟩ (by omega)
  rw [cel_tb hi hj, hv] at this
  exact this
/-- Two own slices written. -/
def WW2 (sv sv2 : Value) (B : Nat) (xs ys : List Int) (w : World) (e : Ending) (w' : World) : Prop := e = .returned (.tuple #[]) ∧ OR w' B sv xs ∧ OR w' B sv2 ys ∧ Below B w w' ∧ ∀ k, k < w.heap.size → some k ≠ sv.ownBlock → some k ≠ sv2.ownBlock → w'.heap[k]? = w.heap[k]?
set_option maxHeartbeats 1000000 in
theorem spec_l12Ops_add (R C i j : Nat) (t : Int) (A : Option Addr) (n cap : Nat) (A2 : Option Addr) (n2 cap2 : Nat) (f g : Fn2) (w : World) {B : Nat} (h1 : OR w B (.slice A n cap) (tb R C f)) (h2 : OR w B (.slice A2 n2 cap2) (tb R R g)) (hap : Apart (.slice A n cap) (.slice A2 n2 cap2)) (hBs : B ≤ w.heap.size) (hi : i < R) (hj : j < R) (hij : i ≠ j) (ht : Num t) (hf : NBF f) (hg : NBF g) (hC0 : 0 < C) (hC : C ≤ 24) (hR : R ≤ 24) :
    Calls Try.prog 135 #[.agg #[.int .i64 R, .int .i64 C, .slice A n cap], .agg #[.int .i64 R, .int .i64 R, .slice A2 n2 cap2], .agg #[.int .i64 2, .int .i64 i, .int .i64 j, .int .i64 t]] w (WW2 (.slice A n cap) (.slice A2 n2 cap2) B (tb R C (opA f i j t)) (tb R R (opA g i j t)) w) := by
  have HIJ := Lib.hid hij
  have HT := Lib.hid ht
  have HF := Lib.hid hf
  have HG := Lib.hid hg
  clear hij ht hf hg
  obtain ⟨ha, hb⟩ : Own (.slice A n cap) B w.heap.size ∧ Own (.slice A2 n2 cap2) B w.heap.size := ⟨h1.own, h2.own⟩
  have HA := Lib.hid ha
  have HB := Lib.hid hb
  have HAP := Lib.hid hap
  have HBs := Lib.hid hBs
  clear ha hb
  go_enter Try.func135, Try.ntmps135
  go_wp2_with fail
  have hM1 : BM ((((w.alloc (.cells #[.int .i64 R, .int .i64 C, .slice A n cap] 45)).alloc (.cells #[.int .i64 R, .int .i64 R, .slice A2 n2 cap2] 45)).alloc (.cells #[.int .i64 2, .int .i64 i, .int .i64 j, .int .i64 t] 101))) (w.heap.size + 1) R R A2 n2 cap2 := by (repeat (first | (with_reducible assumption) | (with_reducible refine BX.new _ _ _ _ _ _ _ _ (by first | omega | (simp; done) | (simp; omega))) | (with_reducible refine BX.below ?_ (by assumption) (by first | omega | (simp; done) | (simp; omega))) | (with_reducible apply BX.drew) | (with_reducible apply BX.drewN) | (with_reducible refine BX.put ?_) | (with_reducible refine BX.put2 ?_) | (with_reducible refine BX.far ?_ (by simp only [ne_eq]; omega) _) | (with_reducible apply BX.alloc) | (with_reducible refine B3.new _ _ _ _ _ _ (by first | omega | (simp; done) | (simp; omega))) | (with_reducible refine B3.of (by assumption)) | (with_reducible refine B3.below ?_ (by assumption) (by first | omega | (simp; done) | (simp; omega))) | (with_reducible apply B3.drew) | (with_reducible apply B3.drewN) | (with_reducible refine B3.far ?_ (by simp only [ne_eq]; omega) _) | (with_reducible apply B3.alloc)))
  have hX1 : Blk ((((w.alloc (.cells #[.int .i64 R, .int .i64 C, .slice A n cap] 45)).alloc (.cells #[.int .i64 R, .int .i64 R, .slice A2 n2 cap2] 45)).alloc (.cells #[.int .i64 2, .int .i64 i, .int .i64 j, .int .i64 t] 101))) (w.heap.size + 1 + 1) 101 #[.int .i64 2, .int .i64 i, .int .i64 j, .int .i64 t] := Blk.new_at _ _ _ _ (by simp)
  have hbw1 : Below B w ((((w.alloc (.cells #[.int .i64 R, .int .i64 C, .slice A n cap] 45)).alloc (.cells #[.int .i64 R, .int .i64 R, .slice A2 n2 cap2] 45)).alloc (.cells #[.int .i64 2, .int .i64 i, .int .i64 j, .int .i64 t] 101))) := by
    refine Below.mono (B := w.heap.size) ?_ HBs.out
    (repeat (first | (with_reducible exact Below.refl _ _) | (with_reducible assumption) | (with_reducible refine below_drewN ?_ _) | (with_reducible refine Below.drew ?_) | (with_reducible refine Below.alloc ?_ ?_ _) | (with_reducible refine Below.setCell ?_ ?_ _) | (with_reducible refine below_into ?_ (by assumption) (by first | omega | (simp; done) | (simp; omega))) | go_size))
  generalize hw0 : ((((w.alloc (.cells #[.int .i64 R, .int .i64 C, .slice A n cap] 45)).alloc (.cells #[.int .i64 R, .int .i64 R, .slice A2 n2 cap2] 45)).alloc (.cells #[.int .i64 2, .int .i64 i, .int .i64 j, .int .i64 t] 101))) = w0 at hM1 hX1 hbw1
  have hbw0 : Below w.heap.size w w0 := by rw [← hw0]; (repeat (first | (with_reducible exact Below.refl _ _) | (with_reducible assumption) | (with_reducible refine below_drewN ?_ _) | (with_reducible refine Below.drew ?_) | (with_reducible refine Below.alloc ?_ ?_ _) | (with_reducible refine Below.setCell ?_ ?_ _) | (with_reducible refine below_into ?_ (by assumption) (by first | omega | (simp; done) | (simp; omega))) | go_size))
  have ho1 : OR w0 B (.slice A n cap) (tb R C f) := by rw [← hw0]; (repeat (first | (with_reducible exact h1) | (with_reducible refine OR.drew ?_) | (with_reducible refine OR.drewN ?_ _) | (with_reducible refine OR.alloc ?_ _) | (with_reducible refine OR.below ?_ (by assumption) (by first | omega | (simp; done) | (simp; omega))) | (with_reducible refine OR.low ?_ (by first | omega | (simp only []; omega) | (simp; omega)) _)))
  have ho2 : OR w0 B (.slice A2 n2 cap2) (tb R R g) := by rw [← hw0]; (repeat (first | (with_reducible exact h2) | (with_reducible refine OR.drew ?_) | (with_reducible refine OR.drewN ?_ _) | (with_reducible refine OR.alloc ?_ _) | (with_reducible refine OR.below ?_ (by assumption) (by first | omega | (simp; done) | (simp; omega))) | (with_reducible refine OR.low ?_ (by first | omega | (simp only []; omega) | (simp; omega)) _)))
  have hs0 : B ≤ w0.heap.size := by rw [← hw0]; simp; have := HBs.out; omega
  refine (spec_l5Do_add R C i j t A n cap f _ (B := B) ho1 hi hj HIJ.out HT.out HF.out hC0 hC hR).mono ?_
  rintro e w1 ⟨rfl, ho1', hg1, hs1⟩
  have hM2 : BM w1 (w.heap.size + 1) R R A2 n2 cap2 := hM1.grown hg1 (fun e => by have := (HA.out _ e.symm).2; omega)
  have hX2 := hX1.grown hg1 (fun e => by have := (HA.out _ e.symm).2; omega)
  have ho2' : OR w1 B (.slice A2 n2 cap2) (tb R R g) := ho2.kept hg1 HAP.out.symm.ne
  have hbw2 : Below B w w1 := hbw1.trans (ho1.below_grown hg1 hs0)
  obtain ⟨ua, ub, uc, uf, ul⟩ := hM2.mx
  have x0 := hX2.cell 0
  have x1 := hX2.cell 1
  have x2 := hX2.cell 2
  have x3 := hX2.cell 3
  simp at x0 x1 x2 x3
  go_wp2_with fail
  refine (spec_l5Do_add R R i j t A2 n2 cap2 g _ (B := B) ho2' hi hj HIJ.out HT.out HG.out (by omega) (by omega) hR).mono ?_
  rintro e w2 ⟨rfl, ho2'', hg2, hs2⟩
  have ho1'' : OR w2 B (.slice A n cap) _ := ho1'.kept hg2 HAP.out.ne
  have hbw3 : Below B w w2 := hbw2.trans (ho2'.below_grown hg2 (by omega))
  go_wp2_with fail
  go_end0
  exact ⟨rfl, ho1'', ho2'', hbw3, fun k hk e1 e2 => (hg2.block k (by have := hg1.size; have := hbw0.size; omega) e2).trans ((hg1.block k (by have := hbw0.size; omega) e1).trans (hbw0.block k hk))⟩
set_option maxHeartbeats 1000000 in
theorem spec_l12Ops_swap (R C i j : Nat) (A : Option Addr) (n cap : Nat) (A2 : Option Addr) (n2 cap2 : Nat) (f g : Fn2) (w : World) {B : Nat} (h1 : OR w B (.slice A n cap) (tb R C f)) (h2 : OR w B (.slice A2 n2 cap2) (tb R R g)) (hap : Apart (.slice A n cap) (.slice A2 n2 cap2)) (hBs : B ≤ w.heap.size) (hi : i < R) (hj : j < R) (hij : i ≠ j) (hC0 : 0 < C) (hC : C ≤ 24) (hR : R ≤ 24) :
    Calls Try.prog 135 #[.agg #[.int .i64 R, .int .i64 C, .slice A n cap], .agg #[.int .i64 R, .int .i64 R, .slice A2 n2 cap2], .agg #[.int .i64 0, .int .i64 i, .int .i64 j, .int .i64 0]] w (WW2 (.slice A n cap) (.slice A2 n2 cap2) B (tb R C (swF f i j)) (tb R R (swF g i j)) w) := by
  have HIJ := Lib.hid hij
  clear hij
  obtain ⟨ha, hb⟩ : Own (.slice A n cap) B w.heap.size ∧ Own (.slice A2 n2 cap2) B w.heap.size := ⟨h1.own, h2.own⟩
  have HA := Lib.hid ha
  have HB := Lib.hid hb
  have HAP := Lib.hid hap
  have HBs := Lib.hid hBs
  clear ha hb
  go_enter Try.func135, Try.ntmps135
  go_wp2_with fail
  have hM1 : BM ((((w.alloc (.cells #[.int .i64 R, .int .i64 C, .slice A n cap] 45)).alloc (.cells #[.int .i64 R, .int .i64 R, .slice A2 n2 cap2] 45)).alloc (.cells #[.int .i64 0, .int .i64 i, .int .i64 j, .int .i64 0] 101))) (w.heap.size + 1) R R A2 n2 cap2 := by (repeat (first | (with_reducible assumption) | (with_reducible refine BX.new _ _ _ _ _ _ _ _ (by first | omega | (simp; done) | (simp; omega))) | (with_reducible refine BX.below ?_ (by assumption) (by first | omega | (simp; done) | (simp; omega))) | (with_reducible apply BX.drew) | (with_reducible apply BX.drewN) | (with_reducible refine BX.put ?_) | (with_reducible refine BX.put2 ?_) | (with_reducible refine BX.far ?_ (by simp only [ne_eq]; omega) _) | (with_reducible apply BX.alloc) | (with_reducible refine B3.new _ _ _ _ _ _ (by first | omega | (simp; done) | (simp; omega))) | (with_reducible refine B3.of (by assumption)) | (with_reducible refine B3.below ?_ (by assumption) (by first | omega | (simp; done) | (simp; omega))) | (with_reducible apply B3.drew) | (with_reducible apply B3.drewN) | (with_reducible refine B3.far ?_ (by simp only [ne_eq]; omega) _) | (with_reducible apply B3.alloc)))
  have hX1 : Blk ((((w.alloc (.cells #[.int .i64 R, .int .i64 C, .slice A n cap] 45)).alloc (.cells #[.int .i64 R, .int .i64 R, .slice A2 n2 cap2] 45)).alloc (.cells #[.int .i64 0, .int .i64 i, .int .i64 j, .int .i64 0] 101))) (w.heap.size + 1 + 1) 101 #[.int .i64 0, .int .i64 i, .int .i64 j, .int .i64 0] := Blk.new_at _ _ _ _ (by simp)
  have hbw1 : Below B w ((((w.alloc (.cells #[.int .i64 R, .int .i64 C, .slice A n cap] 45)).alloc (.cells #[.int .i64 R, .int .i64 R, .slice A2 n2 cap2] 45)).alloc (.cells #[.int .i64 0, .int .i64 i, .int .i64 j, .int .i64 0] 101))) := by
    refine Below.mono (B := w.heap.size) ?_ HBs.out
    (repeat (first | (with_reducible exact Below.refl _ _) | (with_reducible assumption) | (with_reducible refine below_drewN ?_ _) | (with_reducible refine Below.drew ?_) | (with_reducible refine Below.alloc ?_ ?_ _) | (with_reducible refine Below.setCell ?_ ?_ _) | (with_reducible refine below_into ?_ (by assumption) (by first | omega | (simp; done) | (simp; omega))) | go_size))
  generalize hw0 : ((((w.alloc (.cells #[.int .i64 R, .int .i64 C, .slice A n cap] 45)).alloc (.cells #[.int .i64 R, .int .i64 R, .slice A2 n2 cap2] 45)).alloc (.cells #[.int .i64 0, .int .i64 i, .int .i64 j, .int .i64 0] 101))) = w0 at hM1 hX1 hbw1
  have hbw0 : Below w.heap.size w w0 := by rw [← hw0]; (repeat (first | (with_reducible exact Below.refl _ _) | (with_reducible assumption) | (with_reducible refine below_drewN ?_ _) | (with_reducible refine Below.drew ?_) | (with_reducible refine Below.alloc ?_ ?_ _) | (with_reducible refine Below.setCell ?_ ?_ _) | (with_reducible refine below_into ?_ (by assumption) (by first | omega | (simp; done) | (simp; omega))) | go_size))
  have ho1 : OR w0 B (.slice A n cap) (tb R C f) := by rw [← hw0]; (repeat (first | (with_reducible exact h1) | (with_reducible refine OR.drew ?_) | (with_reducible refine OR.drewN ?_ _) | (with_reducible refine OR.alloc ?_ _) | (with_reducible refine OR.below ?_ (by assumption) (by first | omega | (simp; done) | (simp; omega))) | (with_reducible refine OR.low ?_ (by first | omega | (simp only []; omega) | (simp; omega)) _)))
  have ho2 : OR w0 B (.slice A2 n2 cap2) (tb R R g) := by rw [← hw0]; (repeat (first | (with_reducible exact h2) | (with_reducible refine OR.drew ?_) | (with_reducible refine OR.drewN ?_ _) | (with_reducible refine OR.alloc ?_ _) | (with_reducible refine OR.below ?_ (by assumption) (by first | omega | (simp; done) | (simp; omega))) | (with_reducible refine OR.low ?_ (by first | omega | (simp only []; omega) | (simp; omega)) _)))
  have hs0 : B ≤ w0.heap.size := by rw [← hw0]; simp; have := HBs.out; omega
  refine (spec_l5Do_swap R C i j 0 A n cap f _ (B := B) ho1 hi hj HIJ.out hC0 (by omega) hR).mono ?_
  rintro e w1 ⟨rfl, ho1', hg1, hs1⟩
  have hM2 : BM w1 (w.heap.size + 1) R R A2 n2 cap2 := hM1.grown hg1 (fun e => by have := (HA.out _ e.symm).2; omega)
  have hX2 := hX1.grown hg1 (fun e => by have := (HA.out _ e.symm).2; omega)
  have ho2' : OR w1 B (.slice A2 n2 cap2) (tb R R g) := ho2.kept hg1 HAP.out.symm.ne
  have hbw2 : Below B w w1 := hbw1.trans (ho1.below_grown hg1 hs0)
  obtain ⟨ua, ub, uc, uf, ul⟩ := hM2.mx
  have x0 := hX2.cell 0
  have x1 := hX2.cell 1
  have x2 := hX2.cell 2
  have x3 := hX2.cell 3
  simp at x0 x1 x2 x3
  go_wp2_with fail
  refine (spec_l5Do_swap R R i j 0 A2 n2 cap2 g _ (B := B) ho2' hi hj HIJ.out (by omega) (by omega) hR).mono ?_
  rintro e w2 ⟨rfl, ho2'', hg2, hs2⟩
  have ho1'' : OR w2 B (.slice A n cap) _ := ho1'.kept hg2 HAP.out.ne
  have hbw3 : Below B w w2 := hbw2.trans (ho2'.below_grown hg2 (by omega))
  go_wp2_with fail
  go_end0
  exact ⟨rfl, ho1'', ho2'', hbw3, fun k hk e1 e2 => (hg2.block k (by have := hg1.size; have := hbw0.size; omega) e2).trans ((hg1.block k (by have := hbw0.size; omega) e1).trans (hbw0.block k hk))⟩
set_option maxHeartbeats 1000000 in
theorem spec_l12Ops_neg (R C i : Nat) (A : Option Addr) (n cap : Nat) (A2 : Option Addr) (n2 cap2 : Nat) (f g : Fn2) (w : World) {B : Nat} (h1 : OR w B (.slice A n cap) (tb R C f)) (h2 : OR w B (.slice A2 n2 cap2) (tb R R g)) (hap : Apart (.slice A n cap) (.slice A2 n2 cap2)) (hBs : B ≤ w.heap.size) (hi : i < R) (hf : OKF R C f) (hg : OKF R R g) (hC0 : 0 < C) (hC : C ≤ 24) (hR : R ≤ 24) :
    Calls Try.prog 135 #[.agg #[.int .i64 R, .int .i64 C, .slice A n cap], .agg #[.int .i64 R, .int .i64 R, .slice A2 n2 cap2], .agg #[.int .i64 1, .int .i64 i, .int .i64 i, .int .i64 0]] w (WW2 (.slice A n cap) (.slice A2 n2 cap2) B (tb R C (opM f i)) (tb R R (opM g i)) w) := by
  have HF := Lib.hid hf
  have HG := Lib.hid hg
  rw [← opM_eq hf i hi, ← opM_eq hg i hi]
  clear hf hg
  obtain ⟨ha, hb⟩ : Own (.slice A n cap) B w.heap.size ∧ Own (.slice A2 n2 cap2) B w.heap.size := ⟨h1.own, h2.own⟩
  have HA := Lib.hid ha
  have HB := Lib.hid hb
  have HAP := Lib.hid hap
  have HBs := Lib.hid hBs
  clear ha hb
  go_enter Try.func135, Try.ntmps135
  go_wp2_with fail
  have hM1 : BM ((((w.alloc (.cells #[.int .i64 R, .int .i64 C, .slice A n cap] 45)).alloc (.cells #[.int .i64 R, .int .i64 R, .slice A2 n2 cap2] 45)).alloc (.cells #[.int .i64 1, .int .i64 i, .int .i64 i, .int .i64 0] 101))) (w.heap.size + 1) R R A2 n2 cap2 := by (repeat (first | (with_reducible assumption) | (with_reducible refine BX.new _ _ _ _ _ _ _ _ (by first | omega | (simp; done) | (simp; omega))) | (with_reducible refine BX.below ?_ (by assumption) (by first | omega | (simp; done) | (simp; omega))) | (with_reducible apply BX.drew) | (with_reducible apply BX.drewN) | (with_reducible refine BX.put ?_) | (with_reducible refine BX.put2 ?_) | (with_reducible refine BX.far ?_ (by simp only [ne_eq]; omega) _) | (with_reducible apply BX.alloc) | (with_reducible refine B3.new _ _ _ _ _ _ (by first | omega | (simp; done) | (simp; omega))) | (with_reducible refine B3.of (by assumption)) | (with_reducible refine B3.below ?_ (by assumption) (by first | omega | (simp; done) | (simp; omega))) | (with_reducible apply B3.drew) | (with_reducible apply B3.drewN) | (with_reducible refine B3.far ?_ (by simp only [ne_eq]; omega) _) | (with_reducible apply B3.alloc)))
  have hX1 : Blk ((((w.alloc (.cells #[.int .i64 R, .int .i64 C, .slice A n cap] 45)).alloc (.cells #[.int .i64 R, .int .i64 R, .slice A2 n2 cap2] 45)).alloc (.cells #[.int .i64 1, .int .i64 i, .int .i64 i, .int .i64 0] 101))) (w.heap.size + 1 + 1) 101 #[.int .i64 1, .int .i64 i, .int .i64 i, .int .i64 0] := Blk.new_at _ _ _ _ (by simp)
  have hbw1 : Below B w ((((w.alloc (.cells #[.int .i64 R, .int .i64 C, .slice A n cap] 45)).alloc (.cells #[.int .i64 R, .int .i64 R, .slice A2 n2 cap2] 45)).alloc (.cells #[.int .i64 1, .int .i64 i, .int .i64 i, .int .i64 0] 101))) := by
    refine Below.mono (B := w.heap.size) ?_ HBs.out
    (repeat (first | (with_reducible exact Below.refl _ _) | (with_reducible assumption) | (with_reducible refine below_drewN ?_ _) | (with_reducible refine Below.drew ?_) | (with_reducible refine Below.alloc ?_ ?_ _) | (with_reducible refine Below.setCell ?_ ?_ _) | (with_reducible refine below_into ?_ (by assumption) (by first | omega | (simp; done) | (simp; omega))) | go_size))
  generalize hw0 : ((((w.alloc (.cells #[.int .i64 R, .int .i64 C, .slice A n cap] 45)).alloc (.cells #[.int .i64 R, .int .i64 R, .slice A2 n2 cap2] 45)).alloc (.cells #[.int .i64 1, .int .i64 i, .int .i64 i, .int .i64 0] 101))) = w0 at hM1 hX1 hbw1
  have hbw0 : Below w.heap.size w w0 := by rw [← hw0]; (repeat (first | (with_reducible exact Below.refl _ _) | (with_reducible assumption) | (with_reducible refine below_drewN ?_ _) | (with_reducible refine Below.drew ?_) | (with_reducible refine Below.alloc ?_ ?_ _) | (with_reducible refine Below.setCell ?_ ?_ _) | (with_reducible refine below_into ?_ (by assumption) (by first | omega | (simp; done) | (simp; omega))) | go_size))
  have ho1 : OR w0 B (.slice A n cap) (tb R C f) := by rw [← hw0]; (repeat (first | (with_reducible exact h1) | (with_reducible refine OR.drew ?_) | (with_reducible refine OR.drewN ?_ _) | (with_reducible refine OR.alloc ?_ _) | (with_reducible refine OR.below ?_ (by assumption) (by first | omega | (simp; done) | (simp; omega))) | (with_reducible refine OR.low ?_ (by first | omega | (simp only []; omega) | (simp; omega)) _)))
  have ho2 : OR w0 B (.slice A2 n2 cap2) (tb R R g) := by rw [← hw0]; (repeat (first | (with_reducible exact h2) | (with_reducible refine OR.drew ?_) | (with_reducible refine OR.drewN ?_ _) | (with_reducible refine OR.alloc ?_ _) | (with_reducible refine OR.below ?_ (by assumption) (by first | omega | (simp; done) | (simp; omega))) | (with_reducible refine OR.low ?_ (by first | omega | (simp only []; omega) | (simp; omega)) _)))
  have hs0 : B ≤ w0.heap.size := by rw [← hw0]; simp; have := HBs.out; omega
  refine (spec_l5Do_neg R C i 0 A n cap f _ (B := B) ho1 hi (fun k hk => HF.out i k hi hk) hC0 hC hR).mono ?_
  rintro e w1 ⟨rfl, ho1', hg1, hs1⟩
  have hM2 : BM w1 (w.heap.size + 1) R R A2 n2 cap2 := hM1.grown hg1 (fun e => by have := (HA.out _ e.symm).2; omega)
  have hX2 := hX1.grown hg1 (fun e => by have := (HA.out _ e.symm).2; omega)
  have ho2' : OR w1 B (.slice A2 n2 cap2) (tb R R g) := ho2.kept hg1 HAP.out.symm.ne
  have hbw2 : Below B w w1 := hbw1.trans (ho1.below_grown hg1 hs0)
  obtain ⟨ua, ub, uc, uf, ul⟩ := hM2.mx
  have x0 := hX2.cell 0
  have x1 := hX2.cell 1
  have x2 := hX2.cell 2
  have x3 := hX2.cell 3
  simp at x0 x1 x2 x3
  go_wp2_with fail
  refine (spec_l5Do_neg R R i 0 A2 n2 cap2 g _ (B := B) ho2' hi (fun k hk => HG.out i k hi hk) (by omega) (by omega) hR).mono ?_
  rintro e w2 ⟨rfl, ho2'', hg2, hs2⟩
  have ho1'' : OR w2 B (.slice A n cap) _ := ho1'.kept hg2 HAP.out.ne
  have hbw3 : Below B w w2 := hbw2.trans (ho2'.below_grown hg2 (by omega))
  go_wp2_with fail
  go_end0
  exact ⟨rfl, ho1'', ho2'', hbw3, fun k hk e1 e2 => (hg2.block k (by have := hg1.size; have := hbw0.size; omega) e2).trans ((hg1.block k (by have := hbw0.size; omega) e1).trans (hbw0.block k hk))⟩
end Go.Proofs.Ytcpbaagnjofjfaa

/-
  DERIVED. Lists of operations on rows, done by the program: DoRowOps, OpMatrix.
-/
import Derived.Test.YtlggfmfelakadaaIrsx
namespace Go.Proofs.Ytlggfmfelakadaa
open Go.RowKit
set_option linter.unusedVariables false
set_option linter.unusedSimpArgs false
set_option maxRecDepth 100000 in
set_option maxHeartbeats 4000000 in
theorem impl_DoRowOps_no (r c : Int) (A Al : Option Addr) (n cap nl capl : Nat) (xs : List Int) (w : World) {B : Nat} (h : RI w B A n xs) (hB : B ≤ w.heap.size) (hn : n ≤ 1048576) (hm : isMat r c xs = false) :
    Calls Try.prog 9 #[.agg #[.int .i64 r, .int .i64 c, .slice A n cap], .slice Al nl capl] w (MBR .none false w) := by
  have H2 := Lib.hid (h.more hB)
  have HM := Lib.hid hm
  clear h hm
  go_enter Try.func9, Try.ntmps9
  go_wp2_with fail
  refine (impl_IsMatrix r c A n cap xs _ (C := w.heap.size) (Kr H2.out) Ks hn).mono ?_
  rw [HM.out]
  rintro e w1 ⟨rfl, hb1⟩
  have hsz1 := hb1.size
  (try simp at hsz1)
  have hR : BM w1 (w.heap.size + 1) 0 0 none 0 0 := Ka
  have hbw : Below w.heap.size w w1 := Kw
  have hvr := B3.of hR
  clear hb1
  obtain ⟨ra, rb, rc, rf, rl⟩ := hR.mx
  go_wp2_with fail
  refine ret_MB (b := w.heap.size + 1) (r := 0) (c := 0) (A := none) (n := 0) (cap := 0) Try.results9 rfl (Kb hvr) rfl ?_
  exact MBR.mk rfl (OR.nil_ _ _) Kw
set_option maxRecDepth 100000 in
set_option maxHeartbeats 8000000 in
theorem impl_DoRowOps (R C : Nat) (A Al : Option Addr) (n cap nl capl : Nat) (f : Fn2) (l : List Rop) (w : World) {B B' : Nat} (h : RI w B A n (tb R C f)) (hl : RL w B' Al nl l) (hB : B ≤ w.heap.size) (hB' : B' ≤ w.heap.size) (hf : OKF R C f) (hR24 : R ≤ 24) (hC24 : C ≤ 24) (hnl : nl ≤ 40) :
    Calls Try.prog 9 #[.agg #[.int .i64 R, .int .i64 C, .slice A n cap], .slice Al nl capl] w (MBR (doM R C (doXs R C f l)) (doXs R C f l).isSome w) := by
  have hm := isMat_tbR hR24 hC24 hf
  have hln := h.len
  rw [tb_len] at hln
  have hRC : R * C ≤ 24 * 24 := Nat.mul_le_mul hR24 hC24
  have hn : n ≤ 1048576 := by omega
  have hll := hl.2
  have H2 := Lib.hid (h.more hB)
  have H3 := Lib.hid (hl.more hB')
  have HM := Lib.hid hm
  have HLL := Lib.hid hll
  obtain ⟨X, hX⟩ : ∃ X, doXs R C f l = X := ⟨_, rfl⟩
  rw [hX]
  have HX0 : Hid (doXs R C f (l.drop 0) = X) := Lib.hid (by rw [List.drop_zero]; exact hX)
  clear h hl hm hln hll hX
  go_enter Try.func9, Try.ntmps9
  go_wp2_with fail
  refine (impl_IsMatrix R C A n cap (tb R C f) _ (C := w.heap.size) (Kr H2.out) Ks hn).mono ?_
  rw [HM.out]
  rintro e w1 ⟨rfl, hb1⟩
  have hsz1 := hb1.size
  (try simp at hsz1)
  have hM1 : BM w1 w.heap.size R C A n cap := Ka
  have hR1 : BM w1 (w.heap.size + 1) 0 0 none 0 0 := Ka
  have hbw1 : Below w.heap.size w w1 := Kw
  clear hb1
  obtain ⟨oa, ob, oc, of, ol⟩ := hM1.mx
  go_wp2_with fail
  refine (impl_copyMatrix R C A n cap (tb R C f) _ (B := w.heap.size) (Kr H2.out) Ks hn).mono ?_
  rintro e w2 ⟨A0, n0, c0, rfl, -, ho0, hb2⟩
  have hsz2 := hb2.size
  (try simp at hsz2)
  have hR2 : BM w2 (w.heap.size + 1) 0 0 none 0 0 := Kb hR1
  have hbw2 : Below w.heap.size w w2 := Kw
  have ho1 : OR w2 (w.heap.size + 1 + 1) (.slice A0 n0 c0) (tb R C f) := OR.mono (xs := tb R C f) ho0 Ks
  clear hM1 hR1 hbw1 ho0 hb2 oa ob oc of ol
  go_wp2_with fail
  have hOa : BM (w2.alloc (.cells #[.int .i64 R, .int .i64 C, .slice A0 n0 c0] 26)) w2.heap.size R C A0 n0 c0 := Ka
  have hRa : BM (w2.alloc (.cells #[.int .i64 R, .int .i64 C, .slice A0 n0 c0] 26)) (w.heap.size + 1) 0 0 none 0 0 := Kb hR2
  have hoa : OR (w2.alloc (.cells #[.int .i64 R, .int .i64 C, .slice A0 n0 c0] 26)) (w.heap.size + 1 + 1) (.slice A0 n0 c0) (tb R C f) := ho1.alloc _
  have hba : Below w.heap.size w (w2.alloc (.cells #[.int .i64 R, .int .i64 C, .slice A0 n0 c0] 26)) := Kw
  generalize hbO : w2.heap.size = bO at *
  have hbO1 : w.heap.size + 1 < bO := by omega
  clear hR2 hbw2 ho1 hbO
  go_loopw [24] (fun v wr => ∃ (k : Nat) (g : Fn2) (A0 : Option Addr) (n0 c0 : Nat), v = .int .i64 k ∧ k ≤ nl ∧ Hid (doXs R C g (l.drop k) = X) ∧ Hid (OKF R C g) ∧ BM wr bO R C A0 n0 c0 ∧ BM wr (w.heap.size + 1) 0 0 none 0 0 ∧ OR wr (w.heap.size + 1 + 1) (.slice A0 n0 c0) (tb R C g) ∧ Below w.heap.size w wr) (fun v _ => nl - (intOf v).toNat)
  case atStart => exact ⟨0, f, A0, n0, c0, rfl, Nat.zero_le _, HX0, Lib.hid hf, hOa, hRa, hoa, hba⟩
  case round =>
    clear hOa hRa hoa hba HX0
    obtain ⟨k, g, A0, n0, c0, rfl, hk, HXK, HOK, hO, hR, ho, hbw⟩ := hrel
    have hszr := hbw.size
    have hlO := hO.lt
    obtain ⟨oa, ob, oc, of, ol⟩ := hO.mx; obtain ⟨ra, rb, rc, rf, rl⟩ := hR.mx
    by_cases hkn : k < nl
    · obtain ⟨x, hx1, hx2, hx3⟩ := drop_at (l := l) (k := k) (by rw [HLL.out]; omega)
      have hri := (H3.out.below hbw (Nat.le_refl _)).1
      obtain ⟨bb, oo, rfl, hbb, hcells⟩ := hri.2 (by omega)
      obtain ⟨q0, q1, q2, q3⟩ := flat4_at l k x hx1
      have d0 : wr.cell? ⟨bb, oo + k * 4, none⟩ = some (.int .i64 x.k) := by have := hcells (k * 4) (by omega); rwa [q0] at this
      have d1 : wr.cell? ⟨bb, oo + k * 4 + 1, none⟩ = some (.int .i64 x.i) := by have := hcells (k * 4 + 1) (by omega); rwa [q1, ← Nat.add_assoc] at this
      have d2 : wr.cell? ⟨bb, oo + k * 4 + 2, none⟩ = some (.int .i64 x.j) := by have := hcells (k * 4 + 2) (by omega); rwa [q2, ← Nat.add_assoc] at this
      have d3 : wr.cell? ⟨bb, oo + k * 4 + 3, none⟩ = some (.int .i64 x.t) := by have := hcells (k * 4 + 3) (by omega); rwa [q3, ← Nat.add_assoc] at this
      have hnx : ((doX R C g x).bind fun g2 => doXs R C g2 (l.drop (k + 1))) = X := by have := HXK.out; rw [hx3] at this; exact this
      have HNX := Lib.hid hnx
      clear hx1 hx2 hx3 hcells q0 q1 q2 q3 hnx HXK
      have hOb : BM (wr.alloc (.cells #[.int .i64 x.k, .int .i64 x.i, .int .i64 x.j, .int .i64 x.t] 38)) bO R C A0 n0 c0 := Kb hO
      have hRb : BM (wr.alloc (.cells #[.int .i64 x.k, .int .i64 x.i, .int .i64 x.j, .int .i64 x.t] 38)) (w.heap.size + 1) 0 0 none 0 0 := Kb hR
      have hob : OR (wr.alloc (.cells #[.int .i64 x.k, .int .i64 x.i, .int .i64 x.j, .int .i64 x.t] 38)) (w.heap.size + 1 + 1) (.slice A0 n0 c0) (tb R C g) := ho.alloc _
      have hbb2 : Below w.heap.size w (wr.alloc (.cells #[.int .i64 x.k, .int .i64 x.i, .int .i64 x.j, .int .i64 x.t] 38)) := Kw
      have hszb : bO < (wr.alloc (.cells #[.int .i64 x.k, .int .i64 x.i, .int .i64 x.j, .int .i64 x.t] 38)).heap.size := by simp; omega
      go_wp2_with fail
      refine (impl_DoRowOp R C x A0 n0 c0 g _ (OR.reads hob) (Nat.le_refl _) HOK.out hR24 hC24).mono ?_
      rcases hd : doX R C g x with _ | g2
      · have hX : X = none := by have := HNX.out; rw [hd] at this; exact this.symm
        subst hX
        clear hd HNX
        rintro e w3 ⟨A3, n3, c3, rfl, -, hb3⟩
        have hsz3 := hb3.size
        have hR3 : BM w3 (w.heap.size + 1) 0 0 none 0 0 := Kb hRb
        have hbw3 : Below w.heap.size w w3 := Kw
        have hvr := B3.of hR3
        clear oa ob oc of ol ra rb rc rf rl
        clear hb3 hO hR ho hbw hOb hRb hob hbb2 d0 d1 d2 d3
        obtain ⟨ra, rb, rc, rf, rl⟩ := hR3.mx
        go_wp2_with fail
        refine ret_MB (b := w.heap.size + 1) (r := 0) (c := 0) (A := none) (n := 0) (cap := 0) Try.results9 rfl (Kb hvr) rfl ?_
        exact MBR.mk rfl (OR.nil_ _ _) Kw
      · have HN2 : Hid (doXs R C g2 (l.drop (k + 1)) = X) := Lib.hid (by have := HNX.out; rw [hd] at this; exact this)
        have HO2 : Hid (OKF R C g2) := Lib.hid (HOK.out.op hd)
        clear hd HNX
        rw [show doM R C (some g2) = ⟨R, C, tb R C g2⟩ from rfl]
        rintro e w3 ⟨A3, n3, c3, rfl, ho3, hb3⟩
        have hsz3 := hb3.size
        have hR3 : BM w3 (w.heap.size + 1) 0 0 none 0 0 := Kb hRb
        have hO3 : BM w3 bO R C A0 n0 c0 := Kb hOb
        have ho4 : OR w3 (bO + 1) (.slice A3 n3 c3) (tb R C g2) := OR.mono (xs := tb R C g2) ho3 (by omega)
        have hbw3 : Below w.heap.size w w3 := Kw
        have hvo := B3.of hO3
        clear oa ob oc of ol ra rb rc rf rl
        clear hb3 hO hR ho hbw hOb hRb hob hbb2 d0 d1 d2 d3 ho3
        obtain ⟨oa, ob, oc, of, ol⟩ := hO3.mx
        obtain ⟨ra, rb, rc, rf, rl⟩ := hR3.mx
        go_wp2_with fail
        go_roundw
        case rel => exact ⟨k + 1, g2, A3, n3, c3, by go_num, by omega, HN2, HO2, Kb hvo, Kb hR3, OR.mono (B := bO + 1) (Ko ho4) (by omega), Kw⟩
        case measure => simp only [intOf]; omega
    · obtain rfl : k = nl := by omega
      have hX : X = some g := by
        have := HXK.out
        rw [List.drop_of_length_le (by rw [HLL.out]; omega)] at this
        exact this.symm
      subst hX
      have hvr := B3.of hR
      have ho2 : OR wr (w.heap.size + 1 + 1) (.slice A0 n0 c0) (tb R C g) := ho
      go_wp2_with fail
      refine ret_MB (b := w.heap.size + 1) (r := R) (c := C) (A := A0) (n := n0) (cap := c0) Try.results9 rfl (Kb hvr) rfl ?_
      exact MBR.mk rfl (OR.mono (B := w.heap.size + 1 + 1) (Ko ho2) (by omega)) Kw
set_option maxRecDepth 100000 in
set_option maxHeartbeats 8000000 in
theorem impl_OpMatrix (R : Nat) (x : Rop) (w : World) (hb : ropB R x = true) (hR24 : R ≤ 24) : Calls Try.prog 14 #[oV x, .int .i64 R] w (MBR ⟨R, R, tb R R (opF idF x)⟩ true w) := by
  have HB : Hid (ropB R ⟨x.k, x.i, x.j, x.t⟩ = true) := Lib.hid hb
  have HD : Hid (doX R R idF x = some (opF idF x)) := Lib.hid (do_id hb)
  unfold oV
  clear hb
  go_enter Try.func14, Try.ntmps14
  go_wp2_with fail
  refine (impl_IdentityMatrix R _ hR24).mono ?_
  rintro e w1 ⟨A1, n1, c1, rfl, ho1, hb1⟩
  have hsz1 := hb1.size
  (try simp at hsz1)
  have hX1 : BO w1 w.heap.size x := by unfold BO; (with_reducible (repeat (first | assumption | refine Blk.new_at _ _ _ _ Ks | refine Blk.below ?_ (by assumption) Ks | apply Blk.drew | apply Blk.drewN | refine Blk.far ?_ (by simp only [ne_eq]; omega) _ | apply Blk.alloc)))
  have hR1 : BM w1 (w.heap.size + 1) 0 0 none 0 0 := Ka
  have hbw1 : Below w.heap.size w w1 := Kw
  have hx : BO (w1.alloc (.cells #[.int .i64 R, .int .i64 R, .slice A1 n1 c1] 26)) w.heap.size x := by (have hXu := hX1; unfold BO at hXu ⊢; (with_reducible (repeat (first | exact hXu | refine Blk.below ?_ (by assumption) Ks | apply Blk.drew | apply Blk.drewN | apply Blk.alloc | apply Blk.set_ | apply Blk.far; rotate_left; (simp only [ne_eq]; omega); rotate_right))))
  have hr : BM (w1.alloc (.cells #[.int .i64 R, .int .i64 R, .slice A1 n1 c1] 26)) (w.heap.size + 1) 0 0 none 0 0 := Kb hR1
  have hm : BM (w1.alloc (.cells #[.int .i64 R, .int .i64 R, .slice A1 n1 c1] 26)) w1.heap.size R R A1 n1 c1 := Ka
  have ho : OR (w1.alloc (.cells #[.int .i64 R, .int .i64 R, .slice A1 n1 c1] 26)) (w.heap.size + 1 + 1) (.slice A1 n1 c1) (tb R R idF) := OR.alloc (xs := tb R R idF) (OR.mono (xs := tb R R idF) ho1 (by simp)) _
  have hbw : Below w.heap.size w (w1.alloc (.cells #[.int .i64 R, .int .i64 R, .slice A1 n1 c1] 26)) := Kw
  have hri := OR.reads ho
  clear ho1 hb1 hX1 hR1 hbw1
  obtain ⟨x0, x1, x2, x3, xf, xl⟩ := hx.cells
  go_wp2_with fail
  generalize (w1.alloc (.cells #[.int .i64 R, .int .i64 R, .slice A1 n1 c1] 26)) = w2 at *
  have hlm := hm.lt
  generalize w1.heap.size = bM at *
  refine (impl_IsRowOp R x.k x.i x.j x.t _).mono ?_
  rw [HB.out]
  rintro e w3 ⟨rfl, hb3⟩
  have hsz3 := hb3.size
  have hx3 : BO w3 w.heap.size x := by (have hXu := hx; unfold BO at hXu ⊢; (with_reducible (repeat (first | exact hXu | refine Blk.below ?_ (by assumption) Ks | apply Blk.drew | apply Blk.drewN | apply Blk.alloc | apply Blk.set_ | apply Blk.far; rotate_left; (simp only [ne_eq]; omega); rotate_right))))
  have hr3 : BM w3 (w.heap.size + 1) 0 0 none 0 0 := Kb hr
  have hm3 : BM w3 bM R R A1 n1 c1 := Kb hm
  have hri3 : RI w3 w2.heap.size A1 n1 (tb R R idF) := Kr hri
  have hbw3 : Below w.heap.size w w3 := Kw
  clear hx hr hm ho hbw hri hb3 x0 x1 x2 x3 xf xl
  obtain ⟨x0, x1, x2, x3, xf, xl⟩ := hx3.cells
  obtain ⟨ma, mb, mc, mf, ml⟩ := hm3.mx
  go_wp2_with fail
  refine (impl_DoRowOp R R x A1 n1 c1 idF _ hri3 (by omega) (OKF.id R) hR24 hR24).mono ?_
  rw [HD.out, show doM R R (some (opF idF x)) = ⟨R, R, tb R R (opF idF x)⟩ from rfl]
  rintro e w4 ⟨A4, n4, c4, rfl, ho4, hb4⟩
  have hsz4 := hb4.size
  have hr4 : BM w4 (w.heap.size + 1) 0 0 none 0 0 := Kb hr3
  have hbw4 : Below w.heap.size w w4 := Kw
  have ho5 : OR w4 (w.heap.size + 1 + 1) (.slice A4 n4 c4) (tb R R (opF idF x)) := OR.mono (xs := tb R R (opF idF x)) ho4 (by omega)
  have hvr := B3.of hr4
  clear hx3 hm3 hr3 hri3 hbw3 hb4 x0 x1 x2 x3 xf xl ma mb mc mf ml ho4
  obtain ⟨ra, rb, rc, rf, rl⟩ := hr4.mx
  go_wp2_with fail
  refine ret_MB (b := w.heap.size + 1) (r := R) (c := R) (A := A4) (n := n4) (cap := c4) Try.results14 rfl (Kb hvr) rfl ?_
  exact MBR.mk rfl (OR.mono (B := w.heap.size + 1 + 1) (Ko ho5) (by omega)) Kw
end Go.Proofs.Ytlggfmfelakadaa

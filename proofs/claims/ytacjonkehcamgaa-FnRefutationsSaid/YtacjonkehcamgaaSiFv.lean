/-
  DERIVED. smithFor of the program.
-/
import Derived.Test.YtacjonkehcamgaaY5
import Derived.Test.YtacjonkehcamgaaSm4v
namespace Go.Proofs.Ytacjonkehcamgaa
open Go.RowKit
set_option linter.unusedVariables false
set_option linter.unusedSimpArgs false
/-- Behind the product: four matrices lie in their blocks. -/
structure SC4 (w wc : World) (R C : Nat) (A : Option Addr) (n cap bH b2 b3 bC : Nat) (A1 A2 A3 : Option Addr) (n1 c1 n2 c2 n3 c3 : Nat) (s : SS) (m : Mx) : Prop where
  v : HV3 w wc R C A n cap
  m1 : BM wc bH (R : Int) (C : Int) A1 n1 c1
  m2 : BM wc b2 (R : Int) (R : Int) A2 n2 c2
  m3 : BM wc b3 (C : Int) (C : Int) A3 n3 c3
  mc : ∃ A4 n4 c4, BM wc bC m.r m.c A4 n4 c4 ∧ OR wc (w.heap.size + 1 + 1 + 1 + 1) (.slice A4 n4 c4) m.xs
  o1 : OR wc (w.heap.size + 1 + 1 + 1 + 1) (.slice A1 n1 c1) (tb R C s.f)
  o2 : OR wc (w.heap.size + 1 + 1 + 1 + 1) (.slice A2 n2 c2) (tb R R s.g)
  o3 : OR wc (w.heap.size + 1 + 1 + 1 + 1) (.slice A3 n3 c3) (tb C C s.h)
  gt : w.heap.size + 1 + 1 + 1 < bC ∧ b3 < bC
set_option maxRecDepth 100000 in
set_option maxHeartbeats 8000000 in
theorem impl_smithFor (r c : Int) (A Ab : Option Addr) (n cap nb capb : Nat) (xs bs : List Int) (w : World) {B B' : Nat} (h : RI w B A n xs) (hb : RI w B' Ab nb bs) (hB : B ≤ w.heap.size) (hB' : B' ≤ w.heap.size) (hn : n ≤ 1048576) (hnb : nb ≤ 1048576) :
    Calls Try.prog 99 #[.agg #[.int .i64 r, .int .i64 c, .slice A n cap], .slice Ab nb capb] w (SFR r c xs bs w) := by
  have hlb := hb.len
  have hlb2 : bs.length ≤ nb ∧ nb ≤ bs.length := by omega
  have HLB := Lib.hid hlb
  have H2 := Lib.hid (h.more hB)
  have H3 := Lib.hid (hb.more hB')
  clear h hb hlb
  rcases hX : sfX r c xs with _ | s
  · have HN := Lib.hid (siS_none (bs := bs) hX)
    have HX := Lib.hid hX
    clear hX
    go_enter Try.func99, Try.ntmps99
    go_wp2_with fail
    refine (impl_SmithForm r c A n cap xs _ (B := w.heap.size) (Kr H2.out) Ks hn).mono ?_
    rw [HX.out]
    rintro e w1 ⟨A1, n1, c1, A2, n2, c2, A3, n3, c3, rfl, -, -, -, -, -, -, hb1⟩
    have hs1 := hb1.size
    simp at hs1
    have hV : HV3 w w1 r c A n cap := ⟨Ka, Ka, Ka, Ka, Kw⟩
    have hV2 : HV3 w (((w1.alloc (.cells #[.int .i64 (sfDO r c none |>.r), .int .i64 (sfDO r c none |>.c), .slice A1 n1 c1] 26)).alloc (.cells #[.int .i64 (sfUO r none |>.r), .int .i64 (sfUO r none |>.c), .slice A2 n2 c2] 26)).alloc (.cells #[.int .i64 (sfVO c none |>.r), .int .i64 (sfVO c none |>.c), .slice A3 n3 c3] 26)) r c A n cap := ((hV.alloc _).alloc _).alloc _
    have hM1 : BM (((w1.alloc (.cells #[.int .i64 (sfDO r c none |>.r), .int .i64 (sfDO r c none |>.c), .slice A1 n1 c1] 26)).alloc (.cells #[.int .i64 (sfUO r none |>.r), .int .i64 (sfUO r none |>.c), .slice A2 n2 c2] 26)).alloc (.cells #[.int .i64 (sfVO c none |>.r), .int .i64 (sfVO c none |>.c), .slice A3 n3 c3] 26)) w1.heap.size (sfDO r c none |>.r) (sfDO r c none |>.c) A1 n1 c1 := Ka
    have hM2 : BM (((w1.alloc (.cells #[.int .i64 (sfDO r c none |>.r), .int .i64 (sfDO r c none |>.c), .slice A1 n1 c1] 26)).alloc (.cells #[.int .i64 (sfUO r none |>.r), .int .i64 (sfUO r none |>.c), .slice A2 n2 c2] 26)).alloc (.cells #[.int .i64 (sfVO c none |>.r), .int .i64 (sfVO c none |>.c), .slice A3 n3 c3] 26)) (w1.heap.size + 1) (sfUO r none |>.r) (sfUO r none |>.c) A2 n2 c2 := Ka
    have hM3 : BM (((w1.alloc (.cells #[.int .i64 (sfDO r c none |>.r), .int .i64 (sfDO r c none |>.c), .slice A1 n1 c1] 26)).alloc (.cells #[.int .i64 (sfUO r none |>.r), .int .i64 (sfUO r none |>.c), .slice A2 n2 c2] 26)).alloc (.cells #[.int .i64 (sfVO c none |>.r), .int .i64 (sfVO c none |>.c), .slice A3 n3 c3] 26)) (w1.heap.size + 1 + 1) (sfVO c none |>.r) (sfVO c none |>.c) A3 n3 c3 := Ka
    have hsz2 : w1.heap.size + 1 + 1 + 1 ≤ ((((w1.alloc (.cells #[.int .i64 (sfDO r c none |>.r), .int .i64 (sfDO r c none |>.c), .slice A1 n1 c1] 26)).alloc (.cells #[.int .i64 (sfUO r none |>.r), .int .i64 (sfUO r none |>.c), .slice A2 n2 c2] 26)).alloc (.cells #[.int .i64 (sfVO c none |>.r), .int .i64 (sfVO c none |>.c), .slice A3 n3 c3] 26))).heap.size := by simp
    have hlv := hV.lt
    have hri2 : RI (((w1.alloc (.cells #[.int .i64 (sfDO r c none |>.r), .int .i64 (sfDO r c none |>.c), .slice A1 n1 c1] 26)).alloc (.cells #[.int .i64 (sfUO r none |>.r), .int .i64 (sfUO r none |>.c), .slice A2 n2 c2] 26)).alloc (.cells #[.int .i64 (sfVO c none |>.r), .int .i64 (sfVO c none |>.c), .slice A3 n3 c3] 26)) w.heap.size Ab nb bs := Kr H3.out
    skip
    clear hb1
    obtain ⟨ma, mb, mc, mf, ml⟩ := hV.m.mx
    have ml2 : w.heap.size < w1.heap.size + 1 := Nat.lt_succ_of_lt ml
    have ml3 : w.heap.size < w1.heap.size + 1 + 1 := Nat.lt_succ_of_lt ml2
    go_upto_region 2 with fail
    clear hV ma mb mc mf ml ml2 ml3
    generalize (((w1.alloc (.cells #[.int .i64 (sfDO r c none |>.r), .int .i64 (sfDO r c none |>.c), .slice A1 n1 c1] 26)).alloc (.cells #[.int .i64 (sfUO r none |>.r), .int .i64 (sfUO r none |>.c), .slice A2 n2 c2] 26)).alloc (.cells #[.int .i64 (sfVO c none |>.r), .int .i64 (sfVO c none |>.c), .slice A3 n3 c3] 26)) = w2 at *
    generalize w1.heap.size = bH at *
    generalize hb2e : bH + 1 = b2 at *
    generalize hb3e : b2 + 1 = b3 at *
    have ne0 : ¬ bH = w.heap.size := by omega
    have nf0 : ¬ w.heap.size = bH := by omega
    have ne1 : ¬ bH = w.heap.size + 1 := by omega
    have nf1 : ¬ w.heap.size + 1 = bH := by omega
    have ne2 : ¬ bH = w.heap.size + 1 + 1 := by omega
    have nf2 : ¬ w.heap.size + 1 + 1 = bH := by omega
    have ne3 : ¬ bH = w.heap.size + 1 + 1 + 1 := by omega
    have nf3 : ¬ w.heap.size + 1 + 1 + 1 = bH := by omega
    have ne4 : ¬ b2 = w.heap.size := by omega
    have nf4 : ¬ w.heap.size = b2 := by omega
    have ne5 : ¬ b2 = w.heap.size + 1 := by omega
    have nf5 : ¬ w.heap.size + 1 = b2 := by omega
    have ne6 : ¬ b2 = w.heap.size + 1 + 1 := by omega
    have nf6 : ¬ w.heap.size + 1 + 1 = b2 := by omega
    have ne7 : ¬ b2 = w.heap.size + 1 + 1 + 1 := by omega
    have nf7 : ¬ w.heap.size + 1 + 1 + 1 = b2 := by omega
    have ne8 : ¬ b3 = w.heap.size := by omega
    have nf8 : ¬ w.heap.size = b3 := by omega
    have ne9 : ¬ b3 = w.heap.size + 1 := by omega
    have nf9 : ¬ w.heap.size + 1 = b3 := by omega
    have ne10 : ¬ b3 = w.heap.size + 1 + 1 := by omega
    have nf10 : ¬ w.heap.size + 1 + 1 = b3 := by omega
    have ne11 : ¬ b3 = w.heap.size + 1 + 1 + 1 := by omega
    have nf11 : ¬ w.heap.size + 1 + 1 + 1 = b3 := by omega
    have ne12 : ¬ bH = b2 := by omega
    have nf12 : ¬ b2 = bH := by omega
    have ne13 : ¬ bH = b3 := by omega
    have nf13 : ¬ b3 = bH := by omega
    have ne14 : ¬ b2 = b3 := by omega
    have nf14 : ¬ b3 = b2 := by omega
    have hlo : w.heap.size + 1 + 1 + 1 < w2.heap.size := by omega
    clear hb2e hb3e
    obtain ⟨ma, mb, mc, mf, ml⟩ := hV2.m.mx
    obtain ⟨r0a, r0b, r0c, r0f, r0l⟩ := hV2.r1.mx
    obtain ⟨r1a, r1b, r1c, r1f, r1l⟩ := hV2.r2.mx
    obtain ⟨r2a, r2b, r2c, r2f, r2l⟩ := hV2.r3.mx
    obtain ⟨ua, ub, uc, uf, ul⟩ := hM1.mx
    obtain ⟨va, vb, vc, vf, vl⟩ := hM2.mx
    obtain ⟨za, zb, zc, zf, zl⟩ := hM3.mx
    have hvr1 := B3.of hV2.r1
    have hvr2 := B3.of hV2.r2
    have hvr3 := B3.of hV2.r3
    have hbw := hV2.b
    go_upto_region 3 with fail
    iterate 29 (try (first | go_values | go_skip | go_guarded | go_step))
    refine ret_M3C (r := 0) (c := 0) (A := none) (n := 0) (cap := 0) (r' := 0) (c' := 0) (A' := none) (n' := 0) (cap' := 0) (r'' := 0) (c'' := 0) (A'' := none) (n'' := 0) (cap'' := 0) Try.results99 rfl rfl rfl (Kb hvr1) (Kb hvr2) (Kb hvr3) rfl ?_
    exact SFR.of_no HN.out ⟨_, _, _, _, _, _, _, _, _, _, _, _, _, _, _, _, _, _, rfl, Kw⟩
  · have hm : isMat r c xs = true := by
      rcases hm : isMat r c xs with _ | _
      · rw [sfX_no hm] at hX; cases hX
      · rfl
    have M := isMat_iff.1 hm
    obtain ⟨R, rfl⟩ := nat_of M.r0
    obtain ⟨C, rfl⟩ := nat_of M.c0
    have hR : R ≤ 24 := by have := M.r1; omega
    have hC : C ≤ 24 := by have := M.c1; omega
    clear M hm
    by_cases hl : bs.length = R
    · have hnq : ((nb : Int) != (R : Int)) = false := by simp; omega
      have HX := Lib.hid hX
      have HRES : Hid ((mulB R R (tb R R s.g) nb 1 bs = false → siS R C xs bs = none) ∧ (mulB R R (tb R R s.g) nb 1 bs = true → siS R C xs bs = some (s, mulL (tb R R s.g) R R bs 1))) := Lib.hid (by
        rw [← HLB.out]
        exact ⟨fun k => siS_mul hX hl k, fun k => siS_yes hX hl k⟩)
      have hnR : nb ≤ R ∧ R ≤ nb := by omega
      clear hX hl
      go_enter Try.func99, Try.ntmps99
      go_wp2_with fail
      refine (impl_SmithForm R C A n cap xs _ (B := w.heap.size) (Kr H2.out) Ks hn).mono ?_
      rw [HX.out]
      intro e w1 hk1
      obtain ⟨A1, n1, c1, A2, n2, c2, A3, n3, c3, rfl, ho1, ho2, ho3, -, -, -, hb1⟩ := M3R.elim_some hk1
      clear hk1
      have hs1 := hb1.size
      simp at hs1
      have hV : HV3 w w1 R C A n cap := ⟨Ka, Ka, Ka, Ka, Kw⟩
      have hV2 : HV3 w (((w1.alloc (.cells #[.int .i64 (R : Int), .int .i64 (C : Int), .slice A1 n1 c1] 26)).alloc (.cells #[.int .i64 (R : Int), .int .i64 (R : Int), .slice A2 n2 c2] 26)).alloc (.cells #[.int .i64 (C : Int), .int .i64 (C : Int), .slice A3 n3 c3] 26)) R C A n cap := ((hV.alloc _).alloc _).alloc _
      have hM1 : BM (((w1.alloc (.cells #[.int .i64 (R : Int), .int .i64 (C : Int), .slice A1 n1 c1] 26)).alloc (.cells #[.int .i64 (R : Int), .int .i64 (R : Int), .slice A2 n2 c2] 26)).alloc (.cells #[.int .i64 (C : Int), .int .i64 (C : Int), .slice A3 n3 c3] 26)) w1.heap.size (R : Int) (C : Int) A1 n1 c1 := Ka
      have hM2 : BM (((w1.alloc (.cells #[.int .i64 (R : Int), .int .i64 (C : Int), .slice A1 n1 c1] 26)).alloc (.cells #[.int .i64 (R : Int), .int .i64 (R : Int), .slice A2 n2 c2] 26)).alloc (.cells #[.int .i64 (C : Int), .int .i64 (C : Int), .slice A3 n3 c3] 26)) (w1.heap.size + 1) (R : Int) (R : Int) A2 n2 c2 := Ka
      have hM3 : BM (((w1.alloc (.cells #[.int .i64 (R : Int), .int .i64 (C : Int), .slice A1 n1 c1] 26)).alloc (.cells #[.int .i64 (R : Int), .int .i64 (R : Int), .slice A2 n2 c2] 26)).alloc (.cells #[.int .i64 (C : Int), .int .i64 (C : Int), .slice A3 n3 c3] 26)) (w1.heap.size + 1 + 1) (C : Int) (C : Int) A3 n3 c3 := Ka
      have hsz2 : w1.heap.size + 1 + 1 + 1 ≤ ((((w1.alloc (.cells #[.int .i64 (R : Int), .int .i64 (C : Int), .slice A1 n1 c1] 26)).alloc (.cells #[.int .i64 (R : Int), .int .i64 (R : Int), .slice A2 n2 c2] 26)).alloc (.cells #[.int .i64 (C : Int), .int .i64 (C : Int), .slice A3 n3 c3] 26))).heap.size := by simp
      have hlv := hV.lt
      have hri2 : RI (((w1.alloc (.cells #[.int .i64 (R : Int), .int .i64 (C : Int), .slice A1 n1 c1] 26)).alloc (.cells #[.int .i64 (R : Int), .int .i64 (R : Int), .slice A2 n2 c2] 26)).alloc (.cells #[.int .i64 (C : Int), .int .i64 (C : Int), .slice A3 n3 c3] 26)) w.heap.size Ab nb bs := Kr H3.out
      (have q1 : OR (((w1.alloc (.cells #[.int .i64 (R : Int), .int .i64 (C : Int), .slice A1 n1 c1] 26)).alloc (.cells #[.int .i64 (R : Int), .int .i64 (R : Int), .slice A2 n2 c2] 26)).alloc (.cells #[.int .i64 (C : Int), .int .i64 (C : Int), .slice A3 n3 c3] 26)) (w.heap.size + 1 + 1 + 1 + 1) (.slice A1 n1 c1) (tb R C s.f) := (by have q := OR.mono (xs := tb R C s.f) (B' := (w.heap.size + 1 + 1 + 1 + 1)) ho1 (by simp); (with_reducible (repeat (first | exact q | refine OR.drew ?_ | refine OR.drewN ?_ _ | refine OR.alloc ?_ _ | refine OR.b_ ?_ | refine OR.l_ ?_))))); (have q2 : OR (((w1.alloc (.cells #[.int .i64 (R : Int), .int .i64 (C : Int), .slice A1 n1 c1] 26)).alloc (.cells #[.int .i64 (R : Int), .int .i64 (R : Int), .slice A2 n2 c2] 26)).alloc (.cells #[.int .i64 (C : Int), .int .i64 (C : Int), .slice A3 n3 c3] 26)) (w.heap.size + 1 + 1 + 1 + 1) (.slice A2 n2 c2) (tb R R s.g) := (by have q := OR.mono (xs := tb R R s.g) (B' := (w.heap.size + 1 + 1 + 1 + 1)) ho2 (by simp); (with_reducible (repeat (first | exact q | refine OR.drew ?_ | refine OR.drewN ?_ _ | refine OR.alloc ?_ _ | refine OR.b_ ?_ | refine OR.l_ ?_))))); (have q3 : OR (((w1.alloc (.cells #[.int .i64 (R : Int), .int .i64 (C : Int), .slice A1 n1 c1] 26)).alloc (.cells #[.int .i64 (R : Int), .int .i64 (R : Int), .slice A2 n2 c2] 26)).alloc (.cells #[.int .i64 (C : Int), .int .i64 (C : Int), .slice A3 n3 c3] 26)) (w.heap.size + 1 + 1 + 1 + 1) (.slice A3 n3 c3) (tb C C s.h) := (by have q := OR.mono (xs := tb C C s.h) (B' := (w.heap.size + 1 + 1 + 1 + 1)) ho3 (by simp); (with_reducible (repeat (first | exact q | refine OR.drew ?_ | refine OR.drewN ?_ _ | refine OR.alloc ?_ _ | refine OR.b_ ?_ | refine OR.l_ ?_))))); clear ho1 ho2 ho3
      clear hb1
      obtain ⟨ma, mb, mc, mf, ml⟩ := hV.m.mx
      have ml2 : w.heap.size < w1.heap.size + 1 := Nat.lt_succ_of_lt ml
      have ml3 : w.heap.size < w1.heap.size + 1 + 1 := Nat.lt_succ_of_lt ml2
      go_upto_region 2 with fail
      clear hV ma mb mc mf ml ml2 ml3
      generalize (((w1.alloc (.cells #[.int .i64 (R : Int), .int .i64 (C : Int), .slice A1 n1 c1] 26)).alloc (.cells #[.int .i64 (R : Int), .int .i64 (R : Int), .slice A2 n2 c2] 26)).alloc (.cells #[.int .i64 (C : Int), .int .i64 (C : Int), .slice A3 n3 c3] 26)) = w2 at *
      generalize w1.heap.size = bH at *
      generalize hb2e : bH + 1 = b2 at *
      generalize hb3e : b2 + 1 = b3 at *
      have ne0 : ¬ bH = w.heap.size := by omega
      have nf0 : ¬ w.heap.size = bH := by omega
      have ne1 : ¬ bH = w.heap.size + 1 := by omega
      have nf1 : ¬ w.heap.size + 1 = bH := by omega
      have ne2 : ¬ bH = w.heap.size + 1 + 1 := by omega
      have nf2 : ¬ w.heap.size + 1 + 1 = bH := by omega
      have ne3 : ¬ bH = w.heap.size + 1 + 1 + 1 := by omega
      have nf3 : ¬ w.heap.size + 1 + 1 + 1 = bH := by omega
      have ne4 : ¬ b2 = w.heap.size := by omega
      have nf4 : ¬ w.heap.size = b2 := by omega
      have ne5 : ¬ b2 = w.heap.size + 1 := by omega
      have nf5 : ¬ w.heap.size + 1 = b2 := by omega
      have ne6 : ¬ b2 = w.heap.size + 1 + 1 := by omega
      have nf6 : ¬ w.heap.size + 1 + 1 = b2 := by omega
      have ne7 : ¬ b2 = w.heap.size + 1 + 1 + 1 := by omega
      have nf7 : ¬ w.heap.size + 1 + 1 + 1 = b2 := by omega
      have ne8 : ¬ b3 = w.heap.size := by omega
      have nf8 : ¬ w.heap.size = b3 := by omega
      have ne9 : ¬ b3 = w.heap.size + 1 := by omega
      have nf9 : ¬ w.heap.size + 1 = b3 := by omega
      have ne10 : ¬ b3 = w.heap.size + 1 + 1 := by omega
      have nf10 : ¬ w.heap.size + 1 + 1 = b3 := by omega
      have ne11 : ¬ b3 = w.heap.size + 1 + 1 + 1 := by omega
      have nf11 : ¬ w.heap.size + 1 + 1 + 1 = b3 := by omega
      have ne12 : ¬ bH = b2 := by omega
      have nf12 : ¬ b2 = bH := by omega
      have ne13 : ¬ bH = b3 := by omega
      have nf13 : ¬ b3 = bH := by omega
      have ne14 : ¬ b2 = b3 := by omega
      have nf14 : ¬ b3 = b2 := by omega
      have hlo : w.heap.size + 1 + 1 + 1 < w2.heap.size := by omega
      clear hb2e hb3e
      obtain ⟨ma, mb, mc, mf, ml⟩ := hV2.m.mx
      obtain ⟨r0a, r0b, r0c, r0f, r0l⟩ := hV2.r1.mx
      obtain ⟨r1a, r1b, r1c, r1f, r1l⟩ := hV2.r2.mx
      obtain ⟨r2a, r2b, r2c, r2f, r2l⟩ := hV2.r3.mx
      obtain ⟨ua, ub, uc, uf, ul⟩ := hM1.mx
      obtain ⟨va, vb, vc, vf, vl⟩ := hM2.mx
      obtain ⟨za, zb, zc, zf, zl⟩ := hM3.mx
      have hn2 : n2 ≤ 1048576 := by have h8 := q2.lenEq; rw [tb_len] at h8; have := Nat.mul_le_mul hR hR; omega
      go_upto_region 4 with fail
      go_cut [13, 14] from 34 to 40 (fun vp vb wc => ∃ bC : Nat, vp = .pointer (some ⟨bC, 0, none⟩) ∧ vb = .bool (mulB R R (tb R R s.g) nb 1 bs) ∧ SC4 w wc R C A n cap bH b2 b3 bC A1 A2 A3 n1 c1 n2 c2 n3 c3 s (mulM R R (tb R R s.g) nb 1 bs))
      case first =>
        have l1 := hM1.lt
        have l2 := hM2.lt
        have l3 := hM3.lt
        ((refine wp_region_held_drew (S := (fun w' => w'.cell? ⟨b2, 0, none⟩ = some (.int .i64 (R : Int)) ∧ w'.cell? ⟨b2, 1, none⟩ = some (.int .i64 (R : Int)) ∧ w'.cell? ⟨b2, 2, none⟩ = some (.slice A2 n2 c2))) (by kernel_rfl) ?_ (fun hHeld => ?_)); ((focus ((try dsimp only); (go_keep)))); ((refine tk_ (i := 0) (v := ?_) (y := Or.inl ⟨by rfl, ?_⟩) (h := ?_); rotate_left; (focus (((intro w hSw; (try dsimp only at hSw); go_simp) <;> (try with_reducible rfl)); done)); (try simp only [Act.put, p1_, p2_, p3_]))); ((refine tk_ (i := 1) (v := ?_) (y := Or.inl ⟨by rfl, ?_⟩) (h := ?_); rotate_left; (focus (((intro w hSw; (try dsimp only at hSw); go_simp) <;> (try with_reducible rfl)); done)); (try simp only [Act.put, p1_, p2_, p3_]))); (refine wpAnyH_ready (rs := [2, 7]) (by kernel_rfl) (by simp) ?_); (refine AllReadyH.cons (by simp only [e1_, e2_, e3_]; try rfl) ?_ ?_); ((focus ((intro K hK); (go_simp); ((go_at_call 102; refine (impl_columnOf Ab nb capb bs _ (B := w.heap.size) (Kr hri2) Ks hnb).mono ?_; rintro e w4 ⟨Ac, nc, cc, rfl, hc_, hb4⟩; have hc : OR w4 w2.heap.size (.slice Ac nc cc) bs := OR.mono (xs := bs) hc_ Ks; clear hc_; have hs4 := hb4.size; (try simp at hs4); have tV : BM w4 w.heap.size R C A n cap := (Kb hV2.m); have tR1 : BM w4 (w.heap.size + 1) 0 0 none 0 0 := (Kb hV2.r1); have tR2 : BM w4 (w.heap.size + 1 + 1) 0 0 none 0 0 := (Kb hV2.r2); have tR3 : BM w4 (w.heap.size + 1 + 1 + 1) 0 0 none 0 0 := (Kb hV2.r3); have t1 : BM w4 bH (R : Int) (C : Int) A1 n1 c1 := (Kb hM1); have t2 : BM w4 b2 (R : Int) (R : Int) A2 n2 c2 := (Kb hM2); have t3 : BM w4 b3 (C : Int) (C : Int) A3 n3 c3 := (Kb hM3); have u1 : OR w4 (w.heap.size + 1 + 1 + 1 + 1) (.slice A1 n1 c1) (tb R C s.f) := (Ko q1); have u2 : OR w4 (w.heap.size + 1 + 1 + 1 + 1) (.slice A2 n2 c2) (tb R R s.g) := (Ko q2); have u3 : OR w4 (w.heap.size + 1 + 1 + 1 + 1) (.slice A3 n3 c3) (tb C C s.h) := (Ko q3); have HP2 := Lib.hid u2.reads; have HC := Lib.hid hc.reads; have hnc := hc.lenEq; have hnc2 : nc ≤ 1048576 := (by omega); have hb0 := hV2.b; have tb_ : Below w.heap.size w w4 := Kw; clear hb0 hnc hb4; obtain ⟨ya, yb, yc, yf, yl⟩ := t2.mx; have ne1 : ¬ b2 = w2.heap.size := (by omega); have ne2 : ¬ w2.heap.size = b2 := (by omega); have ne3 : ¬ b2 = w4.heap.size := (by omega); have ne4 : ¬ w4.heap.size = b2 := (by omega))); ((try go_wp2_with fail)); (refine hK.out _ _ ?_ (fun hHeld => ?_)); ((focus ((try dsimp only); (go_keep)))); (clear hK K); ((try simp only [Act.put, p1_, p2_, p3_])); (refine wpAnyH_ready (rs := [3, 7]) (by kernel_rfl) (by simp) ?_); (refine AllReadyH.cons (by simp only [e1_, e2_, e3_]; try rfl) ?_ ?_); ((focus ((intro K hK); (go_simp); ((go_at_call 40; refine (impl_MultiplyMatrices R R nb 1 A2 Ac n2 c2 nc cc (tb R R s.g) bs _ (B := w4.heap.size) (B' := w4.heap.size) (Kr HP2.out) (Kr HC.out) Ks Ks hn2 hnc2).mono ?_; rintro e w5 ⟨A4, n4, k4, rfl, ho4_, hb5⟩; have hs5 := hb5.size; (try simp at hs5); have ho5 : OR w5 w4.heap.size (.slice A4 n4 k4) (mulM R R (tb R R s.g) nb 1 bs).xs := OR.mono ho4_ Ks;  have rV : BM w5 w.heap.size R C A n cap := (Kb tV); have rR1 : BM w5 (w.heap.size + 1) 0 0 none 0 0 := (Kb tR1); have rR2 : BM w5 (w.heap.size + 1 + 1) 0 0 none 0 0 := (Kb tR2); have rR3 : BM w5 (w.heap.size + 1 + 1 + 1) 0 0 none 0 0 := (Kb tR3); have r1 : BM w5 bH (R : Int) (C : Int) A1 n1 c1 := (Kb t1); have r2 : BM w5 b2 (R : Int) (R : Int) A2 n2 c2 := (Kb t2); have r3 : BM w5 b3 (C : Int) (C : Int) A3 n3 c3 := (Kb t3); have s1 : OR w5 (w.heap.size + 1 + 1 + 1 + 1) (.slice A1 n1 c1) (tb R C s.f) := (Ko u1); have s2 : OR w5 (w.heap.size + 1 + 1 + 1 + 1) (.slice A2 n2 c2) (tb R R s.g) := (Ko u2); have s3 : OR w5 (w.heap.size + 1 + 1 + 1 + 1) (.slice A3 n3 c3) (tb C C s.h) := (Ko u3); have rb_ : Below w.heap.size w w5 := Kw; clear hb5; obtain ⟨ja, jb, jc, jf, jl⟩ := r2.mx; have hs42 : w2.heap.size ≤ w4.heap.size := (by omega); have k1 : ¬ Value.ownBlock (.slice A1 n1 c1) = some w5.heap.size := (fun e => by have := s1.own _ e; omega); have k2 : ¬ Value.ownBlock (.slice A2 n2 c2) = some w5.heap.size := (fun e => by have := s2.own _ e; omega); have k3 : ¬ Value.ownBlock (.slice A3 n3 c3) = some w5.heap.size := (fun e => by have := s3.own _ e; omega); have k5 : ¬ Value.ownBlock (.slice A4 n4 k4) = some w5.heap.size := (fun e => by have := ho5.own _ e; omega); have ne5 : ¬ b2 = w5.heap.size := (by omega); have ne6 : ¬ w5.heap.size = b2 := (by omega))); ((try go_wp2_with fail)); (refine hK.out _ _ ?_ (fun hHeld => ?_)); ((focus ((try dsimp only); (go_keep)))); (clear hK K); ((try simp only [Act.put, p1_, p2_, p3_])); ((refine tk_ (i := 4) (v := ?_) (y := Or.inl ⟨by rfl, ?_⟩) (h := ?_); rotate_left; (focus (((intro w hSw; (try dsimp only at hSw); go_simp) <;> (try with_reducible rfl)); done)); (try simp only [Act.put, p1_, p2_, p3_]))); ((refine tk_ (i := 5) (v := ?_) (y := Or.inl ⟨by rfl, ?_⟩) (h := ?_); rotate_left; (focus (((intro w hSw; (try dsimp only at hSw); go_simp) <;> (try with_reducible rfl)); done)); (try simp only [Act.put, p1_, p2_, p3_]))); ((refine tk_ (i := 6) (v := ?_) (y := Or.inl ⟨by rfl, ?_⟩) (h := ?_); rotate_left; (focus (((intro w hSw; (try dsimp only at hSw); go_simp) <;> (try with_reducible rfl)); done)); (try simp only [Act.put, p1_, p2_, p3_]))); (refine wpAnyH_ready (rs := [7]) (by kernel_rfl) (by simp) ?_); (refine AllReadyH.cons (by simp only [e1_, e2_, e3_]; try rfl) ?_ ?_); ((focus ((intro K hK); (go_simp); ((try go_wp2_with fail)); (refine hK.out _ _ ?_ (fun hHeld => ?_)); ((focus ((try dsimp only); (go_keep)))); (clear hK K); ((try simp only [Act.put, p1_, p2_, p3_])); (refine wpAnyH_ready (rs := [8]) (by kernel_rfl) (by simp) ?_); (refine AllReadyH.cons (by simp only [e1_, e2_, e3_]; try rfl) ?_ ?_); ((focus ((intro K hK); (go_simp); ((try go_wp2_with fail)); (refine hK.out _ _ ?_ (fun hHeld => ?_)); ((focus ((try dsimp only); (go_keep)))); (clear hK K); ((try simp only [Act.put, p1_, p2_, p3_])); ((refine tk_ (i := 9) (v := ?_) (y := Or.inl ⟨by rfl, ?_⟩) (h := ?_); rotate_left; (focus (((intro w hSw; (try dsimp only at hSw); go_simp) <;> (try with_reducible rfl)); done)); (try simp only [Act.put, p1_, p2_, p3_]))); (refine wpAnyH_done (by kernel_rfl) ?_ _)))); (rotate_left 1); (exact AllReadyH.nil)))); (rotate_left 1); (exact AllReadyH.nil)))); (rotate_left 1); (refine AllReadyH.cons (by simp only [e1_, e2_, e3_]; try rfl) ?_ ?_); ((focus ((intro K hK); (go_simp); ((try go_wp2_with fail)); (refine hK.out _ _ ?_ (fun hHeld => ?_)); ((focus ((try dsimp only); (go_keep)))); (clear hK K); ((try simp only [Act.put, p1_, p2_, p3_])); (refine wpAnyH_ready (rs := [3]) (by kernel_rfl) (by simp) ?_); (refine AllReadyH.cons (by simp only [e1_, e2_, e3_]; try rfl) ?_ ?_); ((focus ((intro K hK); (go_simp); ((go_at_call 40; refine (impl_MultiplyMatrices R R nb 1 A2 Ac n2 c2 nc cc (tb R R s.g) bs _ (B := w4.heap.size) (B' := w4.heap.size) (Kr HP2.out) (Kr HC.out) Ks Ks hn2 hnc2).mono ?_; rintro e w5 ⟨A4, n4, k4, rfl, ho4_, hb5⟩; have hs5 := hb5.size; (try simp at hs5); have ho5 : OR w5 (w4.heap.size + 1) (.slice A4 n4 k4) (mulM R R (tb R R s.g) nb 1 bs).xs := OR.mono ho4_ Ks; have k1 : ¬ Value.ownBlock (.slice A1 n1 c1) = some w4.heap.size := (fun e => by have := u1.own _ e; omega); have k2 : ¬ Value.ownBlock (.slice A2 n2 c2) = some w4.heap.size := (fun e => by have := u2.own _ e; omega); have k3 : ¬ Value.ownBlock (.slice A3 n3 c3) = some w4.heap.size := (fun e => by have := u3.own _ e; omega); have k5 : ¬ Value.ownBlock (.slice A4 n4 k4) = some w4.heap.size := (fun e => by have := ho5.own _ e; omega);  have rV : BM w5 w.heap.size R C A n cap := (Kb tV); have rR1 : BM w5 (w.heap.size + 1) 0 0 none 0 0 := (Kb tR1); have rR2 : BM w5 (w.heap.size + 1 + 1) 0 0 none 0 0 := (Kb tR2); have rR3 : BM w5 (w.heap.size + 1 + 1 + 1) 0 0 none 0 0 := (Kb tR3); have r1 : BM w5 bH (R : Int) (C : Int) A1 n1 c1 := (Kb t1); have r2 : BM w5 b2 (R : Int) (R : Int) A2 n2 c2 := (Kb t2); have r3 : BM w5 b3 (C : Int) (C : Int) A3 n3 c3 := (Kb t3); have s1 : OR w5 (w.heap.size + 1 + 1 + 1 + 1) (.slice A1 n1 c1) (tb R C s.f) := (Ko u1); have s2 : OR w5 (w.heap.size + 1 + 1 + 1 + 1) (.slice A2 n2 c2) (tb R R s.g) := (Ko u2); have s3 : OR w5 (w.heap.size + 1 + 1 + 1 + 1) (.slice A3 n3 c3) (tb C C s.h) := (Ko u3); have h9 : B3 26 w5 w4.heap.size := (by refine B3.below ?_ hb5 Ks; (with_reducible (repeat (first | refine B3.n_ | exact B3.new _ _ _ _ _ _ rfl | refine B3.drew ?_ | refine B3.drewN ?_ _ | refine B3.alloc ?_ _)))); have rb_ : Below w.heap.size w w5 := Kw; clear hb5; obtain ⟨x0, x1, x2, hx⟩ := id h9; have z0 := hx.cell 0; have z1 := hx.cell 1; have z2 := hx.cell 2; have zf := hx.frozen; have zl := hx.lt; simp at z0 z1 z2; obtain ⟨ja, jb, jc, jf, jl⟩ := r2.mx; have hs42 : w2.heap.size ≤ w4.heap.size := (by omega); have ne5 : ¬ b2 = w5.heap.size := (by omega); have ne6 : ¬ w5.heap.size = b2 := (by omega))); ((try go_wp2_with fail)); (refine hK.out _ _ ?_ (fun hHeld => ?_)); ((focus ((try dsimp only); (go_keep)))); (clear hK K); ((try simp only [Act.put, p1_, p2_, p3_])); ((refine tk_ (i := 4) (v := ?_) (y := Or.inl ⟨by rfl, ?_⟩) (h := ?_); rotate_left; (focus (((intro w hSw; (try dsimp only at hSw); go_simp) <;> (try with_reducible rfl)); done)); (try simp only [Act.put, p1_, p2_, p3_]))); ((refine tk_ (i := 5) (v := ?_) (y := Or.inl ⟨by rfl, ?_⟩) (h := ?_); rotate_left; (focus (((intro w hSw; (try dsimp only at hSw); go_simp) <;> (try with_reducible rfl)); done)); (try simp only [Act.put, p1_, p2_, p3_]))); ((refine tk_ (i := 6) (v := ?_) (y := Or.inl ⟨by rfl, ?_⟩) (h := ?_); rotate_left; (focus (((intro w hSw; (try dsimp only at hSw); go_simp) <;> (try with_reducible rfl)); done)); (try simp only [Act.put, p1_, p2_, p3_]))); (refine wpAnyH_ready (rs := [8]) (by kernel_rfl) (by simp) ?_); (refine AllReadyH.cons (by simp only [e1_, e2_, e3_]; try rfl) ?_ ?_); ((focus ((intro K hK); (go_simp); ((try go_wp2_with fail)); (refine hK.out _ _ ?_ (fun hHeld => ?_)); ((focus ((try dsimp only); (go_keep)))); (clear hK K); ((try simp only [Act.put, p1_, p2_, p3_])); ((refine tk_ (i := 9) (v := ?_) (y := Or.inl ⟨by rfl, ?_⟩) (h := ?_); rotate_left; (focus (((intro w hSw; (try dsimp only at hSw); go_simp) <;> (try with_reducible rfl)); done)); (try simp only [Act.put, p1_, p2_, p3_]))); (refine wpAnyH_done (by kernel_rfl) ?_ _)))); (rotate_left 1); (exact AllReadyH.nil)))); (rotate_left 1); (exact AllReadyH.nil)))); (rotate_left 1); (exact AllReadyH.nil)))); (rotate_left 2); (refine AllReadyH.cons (by simp only [e1_, e2_, e3_]; try rfl) ?_ ?_); ((focus ((intro K hK); (go_simp); ((try go_wp2_with fail)); (refine hK.out _ _ ?_ (fun hHeld => ?_)); ((focus ((try dsimp only); (go_keep)))); (clear hK K); ((try simp only [Act.put, p1_, p2_, p3_])); (refine wpAnyH_ready (rs := [2]) (by kernel_rfl) (by simp) ?_); (refine AllReadyH.cons (by simp only [e1_, e2_, e3_]; try rfl) ?_ ?_); ((focus ((intro K hK); (go_simp); ((go_at_call 102; refine (impl_columnOf Ab nb capb bs _ (B := w.heap.size) (Kr hri2) Ks hnb).mono ?_; rintro e w4 ⟨Ac, nc, cc, rfl, hc_, hb4⟩; have hc : OR w4 w2.heap.size (.slice Ac nc cc) bs := OR.mono (xs := bs) hc_ Ks; clear hc_; have hs4 := hb4.size; (try simp at hs4); have tV : BM w4 w.heap.size R C A n cap := (Kb hV2.m); have tR1 : BM w4 (w.heap.size + 1) 0 0 none 0 0 := (Kb hV2.r1); have tR2 : BM w4 (w.heap.size + 1 + 1) 0 0 none 0 0 := (Kb hV2.r2); have tR3 : BM w4 (w.heap.size + 1 + 1 + 1) 0 0 none 0 0 := (Kb hV2.r3); have t1 : BM w4 bH (R : Int) (C : Int) A1 n1 c1 := (Kb hM1); have t2 : BM w4 b2 (R : Int) (R : Int) A2 n2 c2 := (Kb hM2); have t3 : BM w4 b3 (C : Int) (C : Int) A3 n3 c3 := (Kb hM3); have u1 : OR w4 (w.heap.size + 1 + 1 + 1 + 1) (.slice A1 n1 c1) (tb R C s.f) := (Ko q1); have u2 : OR w4 (w.heap.size + 1 + 1 + 1 + 1) (.slice A2 n2 c2) (tb R R s.g) := (Ko q2); have u3 : OR w4 (w.heap.size + 1 + 1 + 1 + 1) (.slice A3 n3 c3) (tb C C s.h) := (Ko q3); have h8 : B3 26 w4 w2.heap.size := (by refine B3.below ?_ hb4 Ks; (with_reducible (repeat (first | refine B3.n_ | exact B3.new _ _ _ _ _ _ rfl | refine B3.drew ?_ | refine B3.drewN ?_ _ | refine B3.alloc ?_ _)))); have HP2 := Lib.hid u2.reads; have HC := Lib.hid hc.reads; have hnc := hc.lenEq; have hnc2 : nc ≤ 1048576 := (by omega); have hb0 := hV2.b; have tb_ : Below w.heap.size w w4 := Kw; clear hb0 hnc hb4; obtain ⟨ya, yb, yc, yf, yl⟩ := t2.mx; have ne1 : ¬ b2 = w2.heap.size := (by omega); have ne2 : ¬ w2.heap.size = b2 := (by omega); have ne3 : ¬ b2 = w4.heap.size := (by omega); have ne4 : ¬ w4.heap.size = b2 := (by omega))); ((try go_wp2_with fail)); (refine hK.out _ _ ?_ (fun hHeld => ?_)); ((focus ((try dsimp only); (go_keep)))); (clear hK K); ((try simp only [Act.put, p1_, p2_, p3_])); (refine wpAnyH_ready (rs := [3]) (by kernel_rfl) (by simp) ?_); (refine AllReadyH.cons (by simp only [e1_, e2_, e3_]; try rfl) ?_ ?_); ((focus ((intro K hK); (go_simp); ((go_at_call 40; refine (impl_MultiplyMatrices R R nb 1 A2 Ac n2 c2 nc cc (tb R R s.g) bs _ (B := w4.heap.size) (B' := w4.heap.size) (Kr HP2.out) (Kr HC.out) Ks Ks hn2 hnc2).mono ?_; rintro e w5 ⟨A4, n4, k4, rfl, ho4_, hb5⟩; have hs5 := hb5.size; (try simp at hs5); have ho5 : OR w5 w4.heap.size (.slice A4 n4 k4) (mulM R R (tb R R s.g) nb 1 bs).xs := OR.mono ho4_ Ks; have k1 : ¬ Value.ownBlock (.slice A1 n1 c1) = some w2.heap.size := (fun e => by have := q1.own _ e; omega); have k2 : ¬ Value.ownBlock (.slice A2 n2 c2) = some w2.heap.size := (fun e => by have := q2.own _ e; omega); have k3 : ¬ Value.ownBlock (.slice A3 n3 c3) = some w2.heap.size := (fun e => by have := q3.own _ e; omega); have k5 : ¬ Value.ownBlock (.slice A4 n4 k4) = some w2.heap.size := (fun e => by have := ho5.own _ e; omega);  have rV : BM w5 w.heap.size R C A n cap := (Kb tV); have rR1 : BM w5 (w.heap.size + 1) 0 0 none 0 0 := (Kb tR1); have rR2 : BM w5 (w.heap.size + 1 + 1) 0 0 none 0 0 := (Kb tR2); have rR3 : BM w5 (w.heap.size + 1 + 1 + 1) 0 0 none 0 0 := (Kb tR3); have r1 : BM w5 bH (R : Int) (C : Int) A1 n1 c1 := (Kb t1); have r2 : BM w5 b2 (R : Int) (R : Int) A2 n2 c2 := (Kb t2); have r3 : BM w5 b3 (C : Int) (C : Int) A3 n3 c3 := (Kb t3); have s1 : OR w5 (w.heap.size + 1 + 1 + 1 + 1) (.slice A1 n1 c1) (tb R C s.f) := (Ko u1); have s2 : OR w5 (w.heap.size + 1 + 1 + 1 + 1) (.slice A2 n2 c2) (tb R R s.g) := (Ko u2); have s3 : OR w5 (w.heap.size + 1 + 1 + 1 + 1) (.slice A3 n3 c3) (tb C C s.h) := (Ko u3); have h9 : B3 26 w5 w2.heap.size := h8.below hb5 Ks; have rb_ : Below w.heap.size w w5 := Kw; clear hb5; obtain ⟨x0, x1, x2, hx⟩ := id h9; have z0 := hx.cell 0; have z1 := hx.cell 1; have z2 := hx.cell 2; have zf := hx.frozen; have zl := hx.lt; simp at z0 z1 z2; obtain ⟨ja, jb, jc, jf, jl⟩ := r2.mx; have hs42 : w2.heap.size ≤ w4.heap.size := (by omega); have ne5 : ¬ b2 = w5.heap.size := (by omega); have ne6 : ¬ w5.heap.size = b2 := (by omega))); ((try go_wp2_with fail)); (refine hK.out _ _ ?_ (fun hHeld => ?_)); ((focus ((try dsimp only); (go_keep)))); (clear hK K); ((try simp only [Act.put, p1_, p2_, p3_])); ((refine tk_ (i := 4) (v := ?_) (y := Or.inl ⟨by rfl, ?_⟩) (h := ?_); rotate_left; (focus (((intro w hSw; (try dsimp only at hSw); go_simp) <;> (try with_reducible rfl)); done)); (try simp only [Act.put, p1_, p2_, p3_]))); ((refine tk_ (i := 5) (v := ?_) (y := Or.inl ⟨by rfl, ?_⟩) (h := ?_); rotate_left; (focus (((intro w hSw; (try dsimp only at hSw); go_simp) <;> (try with_reducible rfl)); done)); (try simp only [Act.put, p1_, p2_, p3_]))); ((refine tk_ (i := 6) (v := ?_) (y := Or.inl ⟨by rfl, ?_⟩) (h := ?_); rotate_left; (focus (((intro w hSw; (try dsimp only at hSw); go_simp) <;> (try with_reducible rfl)); done)); (try simp only [Act.put, p1_, p2_, p3_]))); (refine wpAnyH_ready (rs := [8]) (by kernel_rfl) (by simp) ?_); (refine AllReadyH.cons (by simp only [e1_, e2_, e3_]; try rfl) ?_ ?_); ((focus ((intro K hK); (go_simp); ((try go_wp2_with fail)); (refine hK.out _ _ ?_ (fun hHeld => ?_)); ((focus ((try dsimp only); (go_keep)))); (clear hK K); ((try simp only [Act.put, p1_, p2_, p3_])); ((refine tk_ (i := 9) (v := ?_) (y := Or.inl ⟨by rfl, ?_⟩) (h := ?_); rotate_left; (focus (((intro w hSw; (try dsimp only at hSw); go_simp) <;> (try with_reducible rfl)); done)); (try simp only [Act.put, p1_, p2_, p3_]))); (refine wpAnyH_done (by kernel_rfl) ?_ _)))); (rotate_left 1); (exact AllReadyH.nil)))); (rotate_left 1); (exact AllReadyH.nil)))); (rotate_left 1); (exact AllReadyH.nil)))); (rotate_left 1); (exact AllReadyH.nil))
        all_goals
          go_wp2_with fail
          go_meet
          case rel => exact ⟨_, rfl, rfl, ⟨Kb rV, Kb rR1, Kb rR2, Kb rR3, Kw⟩, Kb r1, Kb r2, Kb r3, ⟨_, _, _, by first | exact BX.put h9 | (with_reducible (repeat (first | assumption | refine BX.n_ | refine BX.b_ ?_ | apply BX.drew | apply BX.drewN | refine BX.put ?_ | refine BX.put2 ?_ | refine BX.f_ ?_ | apply BX.alloc | refine B3.n_ | refine B3.of (by assumption) | refine B3.b_ ?_ | apply B3.drew | apply B3.drewN | refine B3.f_ ?_ | apply B3.alloc))), OR.mono (B := w4.heap.size) (by first | ((repeat (first | (with_reducible exact ho5) | (with_reducible refine OR.drew ?_) | (with_reducible refine OR.drewN ?_ _) | (with_reducible refine OR.alloc ?_ _) | (refine OR.far ?_ k5 _))); done) | (refine OR.mono (B := w4.heap.size + 1) ?_ (by omega); (repeat (first | (with_reducible exact ho5) | (with_reducible refine OR.drew ?_) | (with_reducible refine OR.drewN ?_ _) | (with_reducible refine OR.alloc ?_ _) | (refine OR.far ?_ k5 _))); done)) (by omega)⟩, by (repeat (first | (with_reducible exact s1) | (with_reducible refine OR.drew ?_) | (with_reducible refine OR.drewN ?_ _) | (with_reducible refine OR.alloc ?_ _) | (refine OR.far ?_ k1 _))), by (repeat (first | (with_reducible exact s2) | (with_reducible refine OR.drew ?_) | (with_reducible refine OR.drewN ?_ _) | (with_reducible refine OR.alloc ?_ _) | (refine OR.far ?_ k2 _))), by (repeat (first | (with_reducible exact s3) | (with_reducible refine OR.drew ?_) | (with_reducible refine OR.drewN ?_ _) | (with_reducible refine OR.alloc ?_ _) | (refine OR.far ?_ k3 _))), by first | omega | (simp; omega)⟩
      obtain ⟨bC, rfl, rfl, hS⟩ := hcut
      obtain ⟨hV4, hN1, hN2, hN3, ⟨A4, n4, c4, hNC, ho4⟩, p1, p2, p3, hgt⟩ := hS
      clear hV2 hM1 hM2 hM3 q1 q2 q3 ma mb mc mf ml r0a r0b r0c r0f r0l r1a r1b r1c r1f r1l r2a r2b r2c r2f r2l ua ub uc uf ul va vb vc vf vl za zb zc zf zl hri2
      have hCl := hNC.lt
      have k0 : ¬ bC = w.heap.size := by omega
      have k0' : ¬ w.heap.size = bC := by omega
      have k1 : ¬ bC = w.heap.size + 1 := by omega
      have k1' : ¬ w.heap.size + 1 = bC := by omega
      have k2 : ¬ bC = w.heap.size + 1 + 1 := by omega
      have k2' : ¬ w.heap.size + 1 + 1 = bC := by omega
      have k3 : ¬ bC = w.heap.size + 1 + 1 + 1 := by omega
      have k3' : ¬ w.heap.size + 1 + 1 + 1 = bC := by omega
      rcases hmb : mulB R R (tb R R s.g) nb 1 bs with _ | _
      · have HN := Lib.hid (HRES.out.1 hmb)
        rw [mulM_no hmb] at hNC ho4
        clear hmb
        obtain ⟨r0a, r0b, r0c, r0f, r0l⟩ := hV4.r1.mx
        obtain ⟨r1a, r1b, r1c, r1f, r1l⟩ := hV4.r2.mx
        obtain ⟨r2a, r2b, r2c, r2f, r2l⟩ := hV4.r3.mx
        obtain ⟨ua, ub, uc, uf, ul⟩ := hN1.mx
        obtain ⟨va, vb, vc, vf, vl⟩ := hN2.mx
        obtain ⟨za, zb, zc, zf, zl⟩ := hN3.mx
        obtain ⟨ca, cb, cc, cf, cl⟩ := hNC.mx
        have hvr1 := B3.of hV4.r1
        have hvr2 := B3.of hV4.r2
        have hvr3 := B3.of hV4.r3
        have hbw := hV4.b
        go_wp2_with fail
        ((refine wp_region_held_drew (S := (fun w' => ((fun w' => w'.cell? ⟨bH, 0, none⟩ = some (.int .i64 (R : Int)) ∧ w'.cell? ⟨bH, 1, none⟩ = some (.int .i64 (C : Int)) ∧ w'.cell? ⟨bH, 2, none⟩ = some (.slice A1 n1 c1) ∧ w'.cell? ⟨b2, 0, none⟩ = some (.int .i64 (R : Int)) ∧ w'.cell? ⟨b2, 1, none⟩ = some (.int .i64 (R : Int)) ∧ w'.cell? ⟨b2, 2, none⟩ = some (.slice A2 n2 c2) ∧ w'.cell? ⟨b3, 0, none⟩ = some (.int .i64 (C : Int)) ∧ w'.cell? ⟨b3, 1, none⟩ = some (.int .i64 (C : Int)) ∧ w'.cell? ⟨b3, 2, none⟩ = some (.slice A3 n3 c3))) w' ∧ w'.cell? ⟨bC, 2, none⟩ = some (.slice A4 n4 c4))) (by kernel_rfl) ?_ (fun hHeld => ?_)); ((focus ((try dsimp only); (go_keep)))); ((refine tk_ (i := 0) (v := ?_) (y := Or.inl ⟨by rfl, ?_⟩) (h := ?_); rotate_left; (focus (((intro w hSw; (try dsimp only at hSw); go_simp) <;> (try with_reducible rfl)); done)); (try simp only [Act.put, p1_, p2_, p3_]))); ((refine tk_ (i := 1) (v := ?_) (y := Or.inl ⟨by rfl, ?_⟩) (h := ?_); rotate_left; (focus (((intro w hSw; (try dsimp only at hSw); go_simp) <;> (try with_reducible rfl)); done)); (try simp only [Act.put, p1_, p2_, p3_]))); ((refine tk_ (i := 2) (v := ?_) (y := Or.inl ⟨by rfl, ?_⟩) (h := ?_); rotate_left; (focus (((intro w hSw; (try dsimp only at hSw); go_simp) <;> (try with_reducible rfl)); done)); (try simp only [Act.put, p1_, p2_, p3_]))); ((refine tk_ (i := 3) (v := ?_) (y := Or.inl ⟨by rfl, ?_⟩) (h := ?_); rotate_left; (focus (((intro w hSw; (try dsimp only at hSw); go_simp) <;> (try with_reducible rfl)); done)); (try simp only [Act.put, p1_, p2_, p3_]))); ((refine tk_ (i := 4) (v := ?_) (y := Or.inl ⟨by rfl, ?_⟩) (h := ?_); rotate_left; (focus (((intro w hSw; (try dsimp only at hSw); go_simp) <;> (try with_reducible rfl)); done)); (try simp only [Act.put, p1_, p2_, p3_]))); ((refine tk_ (i := 5) (v := ?_) (y := Or.inl ⟨by rfl, ?_⟩) (h := ?_); rotate_left; (focus (((intro w hSw; (try dsimp only at hSw); go_simp) <;> (try with_reducible rfl)); done)); (try simp only [Act.put, p1_, p2_, p3_]))); (refine wpAnyH_ready (rs := [6]) (by kernel_rfl) (by simp) ?_); (refine AllReadyH.cons (by simp only [e1_, e2_, e3_]; try rfl) ?_ ?_); ((focus ((intro K hK); (go_simp); ((try go_wp2_with fail)); (refine hK.out _ _ ?_ (fun hHeld => ?_)); ((focus ((try dsimp only); (go_keep)))); (clear hK K); ((try simp only [Act.put, p1_, p2_, p3_])); (refine wpAnyH_ready (rs := [7]) (by kernel_rfl) (by simp) ?_); (refine AllReadyH.cons (by simp only [e1_, e2_, e3_]; try rfl) ?_ ?_); ((focus ((intro K hK); (go_simp); ((try go_wp2_with fail)); (refine hK.out _ _ ?_ (fun hHeld => ?_)); ((focus ((try dsimp only); (go_keep)))); (clear hK K); ((try simp only [Act.put, p1_, p2_, p3_])); (refine wpAnyH_ready (rs := [8]) (by kernel_rfl) (by simp) ?_); (refine AllReadyH.cons (by simp only [e1_, e2_, e3_]; try rfl) ?_ ?_); ((focus ((intro K hK); (go_simp); ((try go_wp2_with fail)); (refine hK.out _ _ ?_ (fun hHeld => ?_)); ((focus ((try dsimp only); (go_keep)))); (clear hK K); ((try simp only [Act.put, p1_, p2_, p3_])); ((refine tk_ (i := 9) (v := ?_) (y := Or.inl ⟨by rfl, ?_⟩) (h := ?_); rotate_left; (focus (((intro w hSw; (try dsimp only at hSw); go_simp) <;> (try with_reducible rfl)); done)); (try simp only [Act.put, p1_, p2_, p3_]))); ((refine tk_ (i := 10) (v := ?_) (y := Or.inl ⟨by rfl, ?_⟩) (h := ?_); rotate_left; (focus (((intro w hSw; (try dsimp only at hSw); go_simp) <;> (try with_reducible rfl)); done)); (try simp only [Act.put, p1_, p2_, p3_]))); (refine wpAnyH_done (by kernel_rfl) ?_ _)))); (rotate_left 1); (exact AllReadyH.nil)))); (rotate_left 1); (exact AllReadyH.nil)))); (rotate_left 1); (exact AllReadyH.nil))
        all_goals (iterate 4 (try (first | go_values | go_skip | go_guarded | go_step)))
        all_goals refine ret_M3C (r := (R : Int)) (c := (C : Int)) (A := A1) (n := n1) (cap := c1) (r' := (R : Int)) (c' := (R : Int)) (A' := A2) (n' := n2) (cap' := c2) (r'' := (C : Int)) (c'' := (C : Int)) (A'' := A3) (n'' := n3) (cap'' := c3) Try.results99 rfl rfl rfl (Kb hvr1) (Kb hvr2) (Kb hvr3) rfl ?_
        all_goals exact SFR.of_no HN.out ⟨_, _, _, _, _, _, _, _, _, _, _, _, _, _, _, _, _, _, rfl, Kw⟩
      · have HN := Lib.hid (HRES.out.2 hmb)
        rw [mulM_yes hmb] at hNC ho4
        simp only [Int.toNat_natCast] at ho4
        have ho4' : OR _ (w.heap.size + 1 + 1 + 1 + 1) (.slice A4 n4 c4) (mulL (tb R R s.g) R R bs 1) := ho4
        clear ho4
        have ho4 := ho4'
        clear ho4'
        clear hmb
        obtain ⟨r0a, r0b, r0c, r0f, r0l⟩ := hV4.r1.mx
        obtain ⟨r1a, r1b, r1c, r1f, r1l⟩ := hV4.r2.mx
        obtain ⟨r2a, r2b, r2c, r2f, r2l⟩ := hV4.r3.mx
        obtain ⟨ua, ub, uc, uf, ul⟩ := hN1.mx
        obtain ⟨va, vb, vc, vf, vl⟩ := hN2.mx
        obtain ⟨za, zb, zc, zf, zl⟩ := hN3.mx
        obtain ⟨ca, cb, cc, cf, cl⟩ := hNC.mx
        have hvr1 := B3.of hV4.r1
        have hvr2 := B3.of hV4.r2
        have hvr3 := B3.of hV4.r3
        have hbw := hV4.b
        go_wp2_with fail
        ((refine wp_region_held_drew (S := (fun w' => ((fun w' => w'.cell? ⟨bH, 0, none⟩ = some (.int .i64 (R : Int)) ∧ w'.cell? ⟨bH, 1, none⟩ = some (.int .i64 (C : Int)) ∧ w'.cell? ⟨bH, 2, none⟩ = some (.slice A1 n1 c1) ∧ w'.cell? ⟨b2, 0, none⟩ = some (.int .i64 (R : Int)) ∧ w'.cell? ⟨b2, 1, none⟩ = some (.int .i64 (R : Int)) ∧ w'.cell? ⟨b2, 2, none⟩ = some (.slice A2 n2 c2) ∧ w'.cell? ⟨b3, 0, none⟩ = some (.int .i64 (C : Int)) ∧ w'.cell? ⟨b3, 1, none⟩ = some (.int .i64 (C : Int)) ∧ w'.cell? ⟨b3, 2, none⟩ = some (.slice A3 n3 c3))) w' ∧ w'.cell? ⟨bC, 2, none⟩ = some (.slice A4 n4 c4))) (by kernel_rfl) ?_ (fun hHeld => ?_)); ((focus ((try dsimp only); (go_keep)))); ((refine tk_ (i := 0) (v := ?_) (y := Or.inl ⟨by rfl, ?_⟩) (h := ?_); rotate_left; (focus (((intro w hSw; (try dsimp only at hSw); go_simp) <;> (try with_reducible rfl)); done)); (try simp only [Act.put, p1_, p2_, p3_]))); ((refine tk_ (i := 1) (v := ?_) (y := Or.inl ⟨by rfl, ?_⟩) (h := ?_); rotate_left; (focus (((intro w hSw; (try dsimp only at hSw); go_simp) <;> (try with_reducible rfl)); done)); (try simp only [Act.put, p1_, p2_, p3_]))); ((refine tk_ (i := 2) (v := ?_) (y := Or.inl ⟨by rfl, ?_⟩) (h := ?_); rotate_left; (focus (((intro w hSw; (try dsimp only at hSw); go_simp) <;> (try with_reducible rfl)); done)); (try simp only [Act.put, p1_, p2_, p3_]))); ((refine tk_ (i := 3) (v := ?_) (y := Or.inl ⟨by rfl, ?_⟩) (h := ?_); rotate_left; (focus (((intro w hSw; (try dsimp only at hSw); go_simp) <;> (try with_reducible rfl)); done)); (try simp only [Act.put, p1_, p2_, p3_]))); ((refine tk_ (i := 4) (v := ?_) (y := Or.inl ⟨by rfl, ?_⟩) (h := ?_); rotate_left; (focus (((intro w hSw; (try dsimp only at hSw); go_simp) <;> (try with_reducible rfl)); done)); (try simp only [Act.put, p1_, p2_, p3_]))); ((refine tk_ (i := 5) (v := ?_) (y := Or.inl ⟨by rfl, ?_⟩) (h := ?_); rotate_left; (focus (((intro w hSw; (try dsimp only at hSw); go_simp) <;> (try with_reducible rfl)); done)); (try simp only [Act.put, p1_, p2_, p3_]))); (refine wpAnyH_ready (rs := [6]) (by kernel_rfl) (by simp) ?_); (refine AllReadyH.cons (by simp only [e1_, e2_, e3_]; try rfl) ?_ ?_); ((focus ((intro K hK); (go_simp); ((try go_wp2_with fail)); (refine hK.out _ _ ?_ (fun hHeld => ?_)); ((focus ((try dsimp only); (go_keep)))); (clear hK K); ((try simp only [Act.put, p1_, p2_, p3_])); (refine wpAnyH_ready (rs := [7]) (by kernel_rfl) (by simp) ?_); (refine AllReadyH.cons (by simp only [e1_, e2_, e3_]; try rfl) ?_ ?_); ((focus ((intro K hK); (go_simp); ((try go_wp2_with fail)); (refine hK.out _ _ ?_ (fun hHeld => ?_)); ((focus ((try dsimp only); (go_keep)))); (clear hK K); ((try simp only [Act.put, p1_, p2_, p3_])); (refine wpAnyH_ready (rs := [8]) (by kernel_rfl) (by simp) ?_); (refine AllReadyH.cons (by simp only [e1_, e2_, e3_]; try rfl) ?_ ?_); ((focus ((intro K hK); (go_simp); ((try go_wp2_with fail)); (refine hK.out _ _ ?_ (fun hHeld => ?_)); ((focus ((try dsimp only); (go_keep)))); (clear hK K); ((try simp only [Act.put, p1_, p2_, p3_])); ((refine tk_ (i := 9) (v := ?_) (y := Or.inl ⟨by rfl, ?_⟩) (h := ?_); rotate_left; (focus (((intro w hSw; (try dsimp only at hSw); go_simp) <;> (try with_reducible rfl)); done)); (try simp only [Act.put, p1_, p2_, p3_]))); ((refine tk_ (i := 10) (v := ?_) (y := Or.inl ⟨by rfl, ?_⟩) (h := ?_); rotate_left; (focus (((intro w hSw; (try dsimp only at hSw); go_simp) <;> (try with_reducible rfl)); done)); (try simp only [Act.put, p1_, p2_, p3_]))); (refine wpAnyH_done (by kernel_rfl) ?_ _)))); (rotate_left 1); (exact AllReadyH.nil)))); (rotate_left 1); (exact AllReadyH.nil)))); (rotate_left 1); (exact AllReadyH.nil))
        all_goals (iterate 4 (try (first | go_values | go_skip | go_guarded | go_step)))
        all_goals refine ret_M3C (r := (R : Int)) (c := (C : Int)) (A := A1) (n := n1) (cap := c1) (r' := (R : Int)) (c' := (R : Int)) (A' := A2) (n' := n2) (cap' := c2) (r'' := (C : Int)) (c'' := (C : Int)) (A'' := A3) (n'' := n3) (cap'' := c3) Try.results99 rfl rfl rfl (Kb hvr1) (Kb hvr2) (Kb hvr3) rfl ?_
        all_goals exact SFR.of_yes HN.out ⟨_, _, _, _, _, _, _, _, _, _, _, _, rfl, OR.mono (B := (w.heap.size + 1 + 1 + 1 + 1)) (Ko p1) (by omega), OR.mono (B := (w.heap.size + 1 + 1 + 1 + 1)) (Ko p2) (by omega), OR.mono (B := (w.heap.size + 1 + 1 + 1 + 1)) (Ko p3) (by omega), OR.mono (B := (w.heap.size + 1 + 1 + 1 + 1)) (Ko ho4) (by omega), Kw⟩
    · have hnq : ((nb : Int) != (R : Int)) = true := by simp; omega
      have HN := Lib.hid (siS_len hX hl)
      have HX := Lib.hid hX
      clear hX hl
      go_enter Try.func99, Try.ntmps99
      go_wp2_with fail
      refine (impl_SmithForm R C A n cap xs _ (B := w.heap.size) (Kr H2.out) Ks hn).mono ?_
      rw [HX.out]
      intro e w1 hk1
      obtain ⟨A1, n1, c1, A2, n2, c2, A3, n3, c3, rfl, ho1, ho2, ho3, -, -, -, hb1⟩ := M3R.elim_some hk1
      clear hk1
      have hs1 := hb1.size
      simp at hs1
      have hV : HV3 w w1 R C A n cap := ⟨Ka, Ka, Ka, Ka, Kw⟩
      have hV2 : HV3 w (((w1.alloc (.cells #[.int .i64 (R : Int), .int .i64 (C : Int), .slice A1 n1 c1] 26)).alloc (.cells #[.int .i64 (R : Int), .int .i64 (R : Int), .slice A2 n2 c2] 26)).alloc (.cells #[.int .i64 (C : Int), .int .i64 (C : Int), .slice A3 n3 c3] 26)) R C A n cap := ((hV.alloc _).alloc _).alloc _
      have hM1 : BM (((w1.alloc (.cells #[.int .i64 (R : Int), .int .i64 (C : Int), .slice A1 n1 c1] 26)).alloc (.cells #[.int .i64 (R : Int), .int .i64 (R : Int), .slice A2 n2 c2] 26)).alloc (.cells #[.int .i64 (C : Int), .int .i64 (C : Int), .slice A3 n3 c3] 26)) w1.heap.size (R : Int) (C : Int) A1 n1 c1 := Ka
      have hM2 : BM (((w1.alloc (.cells #[.int .i64 (R : Int), .int .i64 (C : Int), .slice A1 n1 c1] 26)).alloc (.cells #[.int .i64 (R : Int), .int .i64 (R : Int), .slice A2 n2 c2] 26)).alloc (.cells #[.int .i64 (C : Int), .int .i64 (C : Int), .slice A3 n3 c3] 26)) (w1.heap.size + 1) (R : Int) (R : Int) A2 n2 c2 := Ka
      have hM3 : BM (((w1.alloc (.cells #[.int .i64 (R : Int), .int .i64 (C : Int), .slice A1 n1 c1] 26)).alloc (.cells #[.int .i64 (R : Int), .int .i64 (R : Int), .slice A2 n2 c2] 26)).alloc (.cells #[.int .i64 (C : Int), .int .i64 (C : Int), .slice A3 n3 c3] 26)) (w1.heap.size + 1 + 1) (C : Int) (C : Int) A3 n3 c3 := Ka
      have hsz2 : w1.heap.size + 1 + 1 + 1 ≤ ((((w1.alloc (.cells #[.int .i64 (R : Int), .int .i64 (C : Int), .slice A1 n1 c1] 26)).alloc (.cells #[.int .i64 (R : Int), .int .i64 (R : Int), .slice A2 n2 c2] 26)).alloc (.cells #[.int .i64 (C : Int), .int .i64 (C : Int), .slice A3 n3 c3] 26))).heap.size := by simp
      have hlv := hV.lt
      have hri2 : RI (((w1.alloc (.cells #[.int .i64 (R : Int), .int .i64 (C : Int), .slice A1 n1 c1] 26)).alloc (.cells #[.int .i64 (R : Int), .int .i64 (R : Int), .slice A2 n2 c2] 26)).alloc (.cells #[.int .i64 (C : Int), .int .i64 (C : Int), .slice A3 n3 c3] 26)) w.heap.size Ab nb bs := Kr H3.out
      skip
      clear hb1
      obtain ⟨ma, mb, mc, mf, ml⟩ := hV.m.mx
      have ml2 : w.heap.size < w1.heap.size + 1 := Nat.lt_succ_of_lt ml
      have ml3 : w.heap.size < w1.heap.size + 1 + 1 := Nat.lt_succ_of_lt ml2
      go_upto_region 2 with fail
      clear hV ma mb mc mf ml ml2 ml3
      generalize (((w1.alloc (.cells #[.int .i64 (R : Int), .int .i64 (C : Int), .slice A1 n1 c1] 26)).alloc (.cells #[.int .i64 (R : Int), .int .i64 (R : Int), .slice A2 n2 c2] 26)).alloc (.cells #[.int .i64 (C : Int), .int .i64 (C : Int), .slice A3 n3 c3] 26)) = w2 at *
      generalize w1.heap.size = bH at *
      generalize hb2e : bH + 1 = b2 at *
      generalize hb3e : b2 + 1 = b3 at *
      have ne0 : ¬ bH = w.heap.size := by omega
      have nf0 : ¬ w.heap.size = bH := by omega
      have ne1 : ¬ bH = w.heap.size + 1 := by omega
      have nf1 : ¬ w.heap.size + 1 = bH := by omega
      have ne2 : ¬ bH = w.heap.size + 1 + 1 := by omega
      have nf2 : ¬ w.heap.size + 1 + 1 = bH := by omega
      have ne3 : ¬ bH = w.heap.size + 1 + 1 + 1 := by omega
      have nf3 : ¬ w.heap.size + 1 + 1 + 1 = bH := by omega
      have ne4 : ¬ b2 = w.heap.size := by omega
      have nf4 : ¬ w.heap.size = b2 := by omega
      have ne5 : ¬ b2 = w.heap.size + 1 := by omega
      have nf5 : ¬ w.heap.size + 1 = b2 := by omega
      have ne6 : ¬ b2 = w.heap.size + 1 + 1 := by omega
      have nf6 : ¬ w.heap.size + 1 + 1 = b2 := by omega
      have ne7 : ¬ b2 = w.heap.size + 1 + 1 + 1 := by omega
      have nf7 : ¬ w.heap.size + 1 + 1 + 1 = b2 := by omega
      have ne8 : ¬ b3 = w.heap.size := by omega
      have nf8 : ¬ w.heap.size = b3 := by omega
      have ne9 : ¬ b3 = w.heap.size + 1 := by omega
      have nf9 : ¬ w.heap.size + 1 = b3 := by omega
      have ne10 : ¬ b3 = w.heap.size + 1 + 1 := by omega
      have nf10 : ¬ w.heap.size + 1 + 1 = b3 := by omega
      have ne11 : ¬ b3 = w.heap.size + 1 + 1 + 1 := by omega
      have nf11 : ¬ w.heap.size + 1 + 1 + 1 = b3 := by omega
      have ne12 : ¬ bH = b2 := by omega
      have nf12 : ¬ b2 = bH := by omega
      have ne13 : ¬ bH = b3 := by omega
      have nf13 : ¬ b3 = bH := by omega
      have ne14 : ¬ b2 = b3 := by omega
      have nf14 : ¬ b3 = b2 := by omega
      have hlo : w.heap.size + 1 + 1 + 1 < w2.heap.size := by omega
      clear hb2e hb3e
      obtain ⟨ma, mb, mc, mf, ml⟩ := hV2.m.mx
      obtain ⟨r0a, r0b, r0c, r0f, r0l⟩ := hV2.r1.mx
      obtain ⟨r1a, r1b, r1c, r1f, r1l⟩ := hV2.r2.mx
      obtain ⟨r2a, r2b, r2c, r2f, r2l⟩ := hV2.r3.mx
      obtain ⟨ua, ub, uc, uf, ul⟩ := hM1.mx
      obtain ⟨va, vb, vc, vf, vl⟩ := hM2.mx
      obtain ⟨za, zb, zc, zf, zl⟩ := hM3.mx
      have hvr1 := B3.of hV2.r1
      have hvr2 := B3.of hV2.r2
      have hvr3 := B3.of hV2.r3
      have hbw := hV2.b
      go_upto_region 3 with fail
      iterate 29 (try (first | go_values | go_skip | go_guarded | go_step))
      refine ret_M3C (r := 0) (c := 0) (A := none) (n := 0) (cap := 0) (r' := 0) (c' := 0) (A' := none) (n' := 0) (cap' := 0) (r'' := 0) (c'' := 0) (A'' := none) (n'' := 0) (cap'' := 0) Try.results99 rfl rfl rfl (Kb hvr1) (Kb hvr2) (Kb hvr3) rfl ?_
      exact SFR.of_no HN.out ⟨_, _, _, _, _, _, _, _, _, _, _, _, _, _, _, _, _, _, rfl, Kw⟩
end Go.Proofs.Ytacjonkehcamgaa

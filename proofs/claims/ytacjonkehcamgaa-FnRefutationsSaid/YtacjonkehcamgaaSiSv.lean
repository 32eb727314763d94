/-
  DERIVED. l14Ready, l14Blocked of the reference.
-/
import Derived.Test.YtacjonkehcamgaaY5
import Derived.Test.YtacjonkehcamgaaSm7v
namespace Go.Proofs.Ytacjonkehcamgaa
open Go.RowKit
set_option linter.unusedVariables false
set_option linter.unusedSimpArgs false
set_option maxRecDepth 100000 in
set_option maxHeartbeats 8000000 in
theorem spec_l14Ready (r c : Int) (A Ab : Option Addr) (n cap nb capb : Nat) (xs bs : List Int) (w : World) {B B' : Nat} (h : RI w B A n xs) (hb : RI w B' Ab nb bs) (hB : B ≤ w.heap.size) (hB' : B' ≤ w.heap.size) (hn : n ≤ 1048576) (hnb : nb ≤ 1048576) :
    Calls Try.prog 188 #[.agg #[.int .i64 r, .int .i64 c, .slice A n cap], .slice Ab nb capb] w (SFR r c xs bs w) := by
  have hlb := hb.len
  have hlb2 : bs.length ≤ nb ∧ nb ≤ bs.length := by omega
  have HLB := Lib.hid hlb
  have H2 := Lib.hid (h.more hB)
  have H3 := Lib.hid (hb.more hB')
  clear h hb hlb
  rcases hX : sfX r c xs with _ | s
  · have HN := Lib.hid (siS_none (bs := bs) hX)
    have HX := Lib.hid hX
    clear hX
    go_enter Try.func188, Try.ntmps188
    go_wp2_with fail
    refine (spec_SmithForm r c A n cap xs _ (B := w.heap.size) (Kr H2.out) Ks hn).mono ?_
    rw [HX.out]
    rintro e w1 ⟨A1, n1, c1, A2, n2, c2, A3, n3, c3, rfl, -, -, -, -, -, -, hb1⟩
    have hs1 := hb1.size
    simp at hs1
    have hV : HV3 w w1 r c A n cap := ⟨Ka, Ka, Ka, Ka, Kw⟩
    have hV2 : HV3 w (((w1.alloc (.cells #[.int .i64 (sfDO r c none |>.r), .int .i64 (sfDO r c none |>.c), .slice A1 n1 c1] 26)).alloc (.cells #[.int .i64 (sfUO r none |>.r), .int .i64 (sfUO r none |>.c), .slice A2 n2 c2] 26)).alloc (.cells #[.int .i64 (sfVO c none |>.r), .int .i64 (sfVO c none |>.c), .slice A3 n3 c3] 26)) r c A n cap := ((hV.alloc _).alloc _).alloc _
    have hM1 : BM (((w1.alloc (.cells #[.int .i64 (sfDO r c none |>.r), .int .i64 (sfDO r c none |>.c), .slice A1 n1 c1] 26)).alloc (.cells #[.int .i64 (sfUO r none |>.r), .int .i64 (sfUO r none |>.c), .slice A2 n2 c2] 26)).alloc (.cells #[.int .i64 (sfVO c none |>.r), .int .i64 (sfVO c none |>.c), .slice A3 n3 c3] 26)) w1.heap.size (sfDO r c none |>.r) (sfDO r c none |>.c) A1 n1 c1 := Ka
    have hM2 : BM (((w1.alloc (.cells #[.int .i64 (sfDO r c none |>.r), .int .i64 (sfDO r c none |>.c), .slice A1 n1 c1] 26)).alloc (.cells #[.int .i64 (sfUO r none |>.r), .int .i64 (sfUO r none |>.c), .slice A2 n2 c2] 26)).alloc (.cells #[.int .i64 (sfVO c none |>.r), .int .i64 (sfVO c none |>.c), .slice A3 n3 c3] 26)) (w1.heap.size + 1) (sfUO r none |>.r) (sfUO r none |>.c) A2 n2 c2 := Ka
    have hM3 : BM (((w1.alloc (.cells #[.int .i64 (sfDO r c none |>.r), .int .i64 (sfDO r c none |>.c), .slice A1 n1 c1] 26)).alloc (.cells #[.int .i64 (sfUO r none |>.r), .int .i64 (sfUO r none |>.c), .slice A2 n2 c2] 26)).alloc (.cells #[.int .i64 (sfVO c none |>.r), .int .i64 (sfVO c none |>.c), .slice A3 n3 c3] 26)) (w1.heap.size + 1 + 1) (sfVO c none |>.r) (sfVO c none |>.c) A3 n3 c3 := Ka
    have hsz2 : w1.heap.size + 1 + 1 + 1 ≤ ((((w1.alloc (.cells #[.int .i64 (sfDO r c none |>.r), .int .i64 (sfDO r c none |>.c), .slice A1 n1 c1] 26)).alloc (.cells #[.int .i64 (sfUO r none |>.r), .int .i64 (sfUO r none |>.c), .slice A2 n2 c2] 26)).alloc (.cells #[.int .i64 (sfVO c none |>.r), .int .i64 (sfVO c none |>.c), .slice A3 n3 c3] 26))).heap.size := by simp
    have hlv := hV.lt
    have hri2 : RI (((w1.alloc (.cells #[.int .i64 (sfDO r c none |>.r), .int .i64 (sfDO r c none |>.c), .slice A1 n1 c1] 26)).alloc (.cells #[.int .i64 (sfUO r none |>.r), .int .i64 (sfUO r none |>.c), .slice A2 n2 c2] 26)).alloc (.cells #[.int .i64 (sfVO c none |>.r), .int .i64 (sfVO c none |>.c), .slice A3 n3 c3] 26)) w.heap.size Ab nb bs := Kr H3.out
    skip
    clear hb1
    obtain ⟨ma, mb, mc, mf, ml⟩ := hV.m.mx
    have ml2 : w.heap.size < w1.heap.size + 1 := Nat.lt_succ_of_lt ml
    have ml3 : w.heap.size < w1.heap.size + 1 + 1 := Nat.lt_succ_of_lt ml2
    go_wp2_with fail
    clear hV ma mb mc mf ml ml2 ml3
    generalize (((w1.alloc (.cells #[.int .i64 (sfDO r c none |>.r), .int .i64 (sfDO r c none |>.c), .slice A1 n1 c1] 26)).alloc (.cells #[.int .i64 (sfUO r none |>.r), .int .i64 (sfUO r none |>.c), .slice A2 n2 c2] 26)).alloc (.cells #[.int .i64 (sfVO c none |>.r), .int .i64 (sfVO c none |>.c), .slice A3 n3 c3] 26)) = w2 at *
    generalize w1.heap.size = bH at *
    generalize hb2e : bH + 1 = b2 at *
    generalize hb3e : b2 + 1 = b3 at *
    have ne0 : ¬ bH = w.heap.size := by omega
    have nf0 : ¬ w.heap.size = bH := by omega
    have ne1 : ¬ bH = w.heap.size + 1 := by omega
    have nf1 : ¬ w.heap.size + 1 = bH := by omega
    have ne2 : ¬ bH = w.heap.size + 1 + 1 := by omega
    have nf2 : ¬ w.heap.size + 1 + 1 = bH := by omega
    have ne3 : ¬ bH = w.heap.size + 1 + 1 + 1 := by omega
    have nf3 : ¬ w.heap.size + 1 + 1 + 1 = bH := by omega
    have ne4 : ¬ b2 = w.heap.size := by omega
    have nf4 : ¬ w.heap.size = b2 := by omega
    have ne5 : ¬ b2 = w.heap.size + 1 := by omega
    have nf5 : ¬ w.heap.size + 1 = b2 := by omega
    have ne6 : ¬ b2 = w.heap.size + 1 + 1 := by omega
    have nf6 : ¬ w.heap.size + 1 + 1 = b2 := by omega
    have ne7 : ¬ b2 = w.heap.size + 1 + 1 + 1 := by omega
    have nf7 : ¬ w.heap.size + 1 + 1 + 1 = b2 := by omega
    have ne8 : ¬ b3 = w.heap.size := by omega
    have nf8 : ¬ w.heap.size = b3 := by omega
    have ne9 : ¬ b3 = w.heap.size + 1 := by omega
    have nf9 : ¬ w.heap.size + 1 = b3 := by omega
    have ne10 : ¬ b3 = w.heap.size + 1 + 1 := by omega
    have nf10 : ¬ w.heap.size + 1 + 1 = b3 := by omega
    have ne11 : ¬ b3 = w.heap.size + 1 + 1 + 1 := by omega
    have nf11 : ¬ w.heap.size + 1 + 1 + 1 = b3 := by omega
    have ne12 : ¬ bH = b2 := by omega
    have nf12 : ¬ b2 = bH := by omega
    have ne13 : ¬ bH = b3 := by omega
    have nf13 : ¬ b3 = bH := by omega
    have ne14 : ¬ b2 = b3 := by omega
    have nf14 : ¬ b3 = b2 := by omega
    have hlo : w.heap.size + 1 + 1 + 1 < w2.heap.size := by omega
    clear hb2e hb3e
    obtain ⟨ma, mb, mc, mf, ml⟩ := hV2.m.mx
    obtain ⟨r0a, r0b, r0c, r0f, r0l⟩ := hV2.r1.mx
    obtain ⟨r1a, r1b, r1c, r1f, r1l⟩ := hV2.r2.mx
    obtain ⟨r2a, r2b, r2c, r2f, r2l⟩ := hV2.r3.mx
    obtain ⟨ua, ub, uc, uf, ul⟩ := hM1.mx
    obtain ⟨va, vb, vc, vf, vl⟩ := hM2.mx
    obtain ⟨za, zb, zc, zf, zl⟩ := hM3.mx
    have hvr1 := B3.of hV2.r1
    have hvr2 := B3.of hV2.r2
    have hvr3 := B3.of hV2.r3
    have hbw := hV2.b
    ((refine wp_region_held_drew (S := (fun w' => w'.cell? ⟨bH, 0, none⟩ = some (.int .i64 (sfDO r c none |>.r)) ∧ w'.cell? ⟨bH, 1, none⟩ = some (.int .i64 (sfDO r c none |>.c)) ∧ w'.cell? ⟨bH, 2, none⟩ = some (.slice A1 n1 c1) ∧ w'.cell? ⟨b2, 0, none⟩ = some (.int .i64 (sfUO r none |>.r)) ∧ w'.cell? ⟨b2, 1, none⟩ = some (.int .i64 (sfUO r none |>.c)) ∧ w'.cell? ⟨b2, 2, none⟩ = some (.slice A2 n2 c2) ∧ w'.cell? ⟨b3, 0, none⟩ = some (.int .i64 (sfVO c none |>.r)) ∧ w'.cell? ⟨b3, 1, none⟩ = some (.int .i64 (sfVO c none |>.c)) ∧ w'.cell? ⟨b3, 2, none⟩ = some (.slice A3 n3 c3))) (by kernel_rfl) ?_ (fun hHeld => ?_)); ((focus ((try dsimp only); (go_keep)))); ((refine tk_ (i := 0) (v := ?_) (y := Or.inl ⟨by rfl, ?_⟩) (h := ?_); rotate_left; (focus (((intro w hSw; (try dsimp only at hSw); go_simp) <;> (try with_reducible rfl)); done)); (try simp only [Act.put, p1_, p2_, p3_]))); ((refine tk_ (i := 1) (v := ?_) (y := Or.inl ⟨by rfl, ?_⟩) (h := ?_); rotate_left; (focus (((intro w hSw; (try dsimp only at hSw); go_simp) <;> (try with_reducible rfl)); done)); (try simp only [Act.put, p1_, p2_, p3_]))); ((refine tk_ (i := 2) (v := ?_) (y := Or.inl ⟨by rfl, ?_⟩) (h := ?_); rotate_left; (focus (((intro w hSw; (try dsimp only at hSw); go_simp) <;> (try with_reducible rfl)); done)); (try simp only [Act.put, p1_, p2_, p3_]))); (refine wpAnyH_ready (rs := [3, 4]) (by kernel_rfl) (by simp) ?_); (refine AllReadyH.cons (by simp only [e1_, e2_, e3_]; try rfl) ?_ ?_); ((focus ((intro K hK); (go_simp); ((try go_wp2_with fail)); (refine hK.out _ _ ?_ (fun hHeld => ?_)); ((focus ((try dsimp only); (go_keep)))); (clear hK K); ((try simp only [Act.put, p1_, p2_, p3_])); (refine wpAnyH_ready (rs := [4]) (by kernel_rfl) (by simp) ?_); (refine AllReadyH.cons (by simp only [e1_, e2_, e3_]; try rfl) ?_ ?_); ((focus ((intro K hK); (go_simp); ((try go_wp2_with fail)); (refine hK.out _ _ ?_ (fun hHeld => ?_)); ((focus ((try dsimp only); (go_keep)))); (clear hK K); ((try simp only [Act.put, p1_, p2_, p3_])); (refine wpAnyH_ready (rs := [5]) (by kernel_rfl) (by simp) ?_); (refine AllReadyH.cons (by simp only [e1_, e2_, e3_]; try rfl) ?_ ?_); ((focus ((intro K hK); (go_simp); ((try go_wp2_with fail)); (refine hK.out _ _ ?_ (fun hHeld => ?_)); ((focus ((try dsimp only); (go_keep)))); (clear hK K); ((try simp only [Act.put, p1_, p2_, p3_])); (refine wpAnyH_ready (rs := [6]) (by kernel_rfl) (by simp) ?_); (refine AllReadyH.cons (by simp only [e1_, e2_, e3_]; try rfl) ?_ ?_); ((focus ((intro K hK); (go_simp); ((try go_wp2_with fail)); (refine hK.out _ _ ?_ (fun hHeld => ?_)); ((focus ((try dsimp only); (go_keep)))); (clear hK K); ((try simp only [Act.put, p1_, p2_, p3_])); ((refine tk_ (i := 7) (v := ?_) (y := Or.inl ⟨by rfl, ?_⟩) (h := ?_); rotate_left; (focus (((intro w hSw; (try dsimp only at hSw); go_simp) <;> (try with_reducible rfl)); done)); (try simp only [Act.put, p1_, p2_, p3_]))); ((refine tk_ (i := 8) (v := ?_) (y := Or.inl ⟨by rfl, ?_⟩) (h := ?_); rotate_left; (focus (((intro w hSw; (try dsimp only at hSw); go_simp) <;> (try with_reducible rfl)); done)); (try simp only [Act.put, p1_, p2_, p3_]))); (refine wpAnyH_done (by kernel_rfl) ?_ _)))); (rotate_left 1); (exact AllReadyH.nil)))); (rotate_left 1); (exact AllReadyH.nil)))); (rotate_left 1); (exact AllReadyH.nil)))); (rotate_left 1); (refine AllReadyH.cons (by simp only [e1_, e2_, e3_]; try rfl) ?_ ?_); ((focus ((intro K hK); (go_simp); ((try go_wp2_with fail)); (refine hK.out _ _ ?_ (fun hHeld => ?_)); ((focus ((try dsimp only); (go_keep)))); (clear hK K); ((try simp only [Act.put, p1_, p2_, p3_])); (refine wpAnyH_ready (rs := [3, 5]) (by kernel_rfl) (by simp) ?_); (refine AllReadyH.cons (by simp only [e1_, e2_, e3_]; try rfl) ?_ ?_); ((focus ((intro K hK); (go_simp); ((try go_wp2_with fail)); (refine hK.out _ _ ?_ (fun hHeld => ?_)); ((focus ((try dsimp only); (go_keep)))); (clear hK K); ((try simp only [Act.put, p1_, p2_, p3_])); (refine wpAnyH_ready (rs := [5]) (by kernel_rfl) (by simp) ?_); (refine AllReadyH.cons (by simp only [e1_, e2_, e3_]; try rfl) ?_ ?_); ((focus ((intro K hK); (go_simp); ((try go_wp2_with fail)); (refine hK.out _ _ ?_ (fun hHeld => ?_)); ((focus ((try dsimp only); (go_keep)))); (clear hK K); ((try simp only [Act.put, p1_, p2_, p3_])); (refine wpAnyH_ready (rs := [6]) (by kernel_rfl) (by simp) ?_); (refine AllReadyH.cons (by simp only [e1_, e2_, e3_]; try rfl) ?_ ?_); ((focus ((intro K hK); (go_simp); ((try go_wp2_with fail)); (refine hK.out _ _ ?_ (fun hHeld => ?_)); ((focus ((try dsimp only); (go_keep)))); (clear hK K); ((try simp only [Act.put, p1_, p2_, p3_])); ((refine tk_ (i := 7) (v := ?_) (y := Or.inl ⟨by rfl, ?_⟩) (h := ?_); rotate_left; (focus (((intro w hSw; (try dsimp only at hSw); go_simp) <;> (try with_reducible rfl)); done)); (try simp only [Act.put, p1_, p2_, p3_]))); ((refine tk_ (i := 8) (v := ?_) (y := Or.inl ⟨by rfl, ?_⟩) (h := ?_); rotate_left; (focus (((intro w hSw; (try dsimp only at hSw); go_simp) <;> (try with_reducible rfl)); done)); (try simp only [Act.put, p1_, p2_, p3_]))); (refine wpAnyH_done (by kernel_rfl) ?_ _)))); (rotate_left 1); (exact AllReadyH.nil)))); (rotate_left 1); (exact AllReadyH.nil)))); (rotate_left 1); (refine AllReadyH.cons (by simp only [e1_, e2_, e3_]; try rfl) ?_ ?_); ((focus ((intro K hK); (go_simp); ((try go_wp2_with fail)); (refine hK.out _ _ ?_ (fun hHeld => ?_)); ((focus ((try dsimp only); (go_keep)))); (clear hK K); ((try simp only [Act.put, p1_, p2_, p3_])); (refine wpAnyH_ready (rs := [3, 6]) (by kernel_rfl) (by simp) ?_); (refine AllReadyH.cons (by simp only [e1_, e2_, e3_]; try rfl) ?_ ?_); ((focus ((intro K hK); (go_simp); ((try go_wp2_with fail)); (refine hK.out _ _ ?_ (fun hHeld => ?_)); ((focus ((try dsimp only); (go_keep)))); (clear hK K); ((try simp only [Act.put, p1_, p2_, p3_])); (refine wpAnyH_ready (rs := [6]) (by kernel_rfl) (by simp) ?_); (refine AllReadyH.cons (by simp only [e1_, e2_, e3_]; try rfl) ?_ ?_); ((focus ((intro K hK); (go_simp); ((try go_wp2_with fail)); (refine hK.out _ _ ?_ (fun hHeld => ?_)); ((focus ((try dsimp only); (go_keep)))); (clear hK K); ((try simp only [Act.put, p1_, p2_, p3_])); ((refine tk_ (i := 7) (v := ?_) (y := Or.inl ⟨by rfl, ?_⟩) (h := ?_); rotate_left; (focus (((intro w hSw; (try dsimp only at hSw); go_simp) <;> (try with_reducible rfl)); done)); (try simp only [Act.put, p1_, p2_, p3_]))); ((refine tk_ (i := 8) (v := ?_) (y := Or.inl ⟨by rfl, ?_⟩) (h := ?_); rotate_left; (focus (((intro w hSw; (try dsimp only at hSw); go_simp) <;> (try with_reducible rfl)); done)); (try simp only [Act.put, p1_, p2_, p3_]))); (refine wpAnyH_done (by kernel_rfl) ?_ _)))); (rotate_left 1); (exact AllReadyH.nil)))); (rotate_left 1); (refine AllReadyH.cons (by simp only [e1_, e2_, e3_]; try rfl) ?_ ?_); ((focus ((intro K hK); (go_simp); ((try go_wp2_with fail)); (refine hK.out _ _ ?_ (fun hHeld => ?_)); ((focus ((try dsimp only); (go_keep)))); (clear hK K); ((try simp only [Act.put, p1_, p2_, p3_])); (refine wpAnyH_ready (rs := [3]) (by kernel_rfl) (by simp) ?_); (refine AllReadyH.cons (by simp only [e1_, e2_, e3_]; try rfl) ?_ ?_); ((focus ((intro K hK); (go_simp); ((try go_wp2_with fail)); (refine hK.out _ _ ?_ (fun hHeld => ?_)); ((focus ((try dsimp only); (go_keep)))); (clear hK K); ((try simp only [Act.put, p1_, p2_, p3_])); ((refine tk_ (i := 7) (v := ?_) (y := Or.inl ⟨by rfl, ?_⟩) (h := ?_); rotate_left; (focus (((intro w hSw; (try dsimp only at hSw); go_simp) <;> (try with_reducible rfl)); done)); (try simp only [Act.put, p1_, p2_, p3_]))); ((refine tk_ (i := 8) (v := ?_) (y := Or.inl ⟨by rfl, ?_⟩) (h := ?_); rotate_left; (focus (((intro w hSw; (try dsimp only at hSw); go_simp) <;> (try with_reducible rfl)); done)); (try simp only [Act.put, p1_, p2_, p3_]))); (refine wpAnyH_done (by kernel_rfl) ?_ _)))); (rotate_left 1); (exact AllReadyH.nil)))); (rotate_left 1); (exact AllReadyH.nil)))); (rotate_left 2); (exact AllReadyH.nil)))); (rotate_left 3); (exact AllReadyH.nil))
    all_goals (iterate 4 (try (first | go_values | go_skip | go_guarded | go_step)))
    all_goals refine ret_M3C (r := (sfDO r c none).r) (c := (sfDO r c none).c) (A := A1) (n := n1) (cap := c1) (r' := (sfUO r none).r) (c' := (sfUO r none).c) (A' := A2) (n' := n2) (cap' := c2) (r'' := (sfVO c none).r) (c'' := (sfVO c none).c) (A'' := A3) (n'' := n3) (cap'' := c3) Try.results188 rfl rfl rfl (Kb hvr1) (Kb hvr2) (Kb hvr3) rfl ?_
    all_goals exact SFR.of_no HN.out ⟨_, _, _, _, _, _, _, _, _, _, _, _, _, _, _, _, _, _, rfl, Kw⟩
  · have hm : isMat r c xs = true := by
      rcases hm : isMat r c xs with _ | _
      · rw [sfX_no hm] at hX; cases hX
      · rfl
    have M := isMat_iff.1 hm
    obtain ⟨R, rfl⟩ := nat_of M.r0
    obtain ⟨C, rfl⟩ := nat_of M.c0
    have hR : R ≤ 24 := by have := M.r1; omega
    have hC : C ≤ 24 := by have := M.c1; omega
    clear M hm
    by_cases hl : bs.length = R
    · have hnq : ((nb : Int) != (R : Int)) = false := by simp; omega
      have HX := Lib.hid hX
      have HRES : Hid ((mulB R R (tb R R s.g) nb 1 bs = false → siS R C xs bs = none) ∧ (mulB R R (tb R R s.g) nb 1 bs = true → siS R C xs bs = some (s, mulL (tb R R s.g) R R bs 1))) := Lib.hid (by
        rw [← HLB.out]
        exact ⟨fun k => siS_mul hX hl k, fun k => siS_yes hX hl k⟩)
      have hnR : nb ≤ R ∧ R ≤ nb := by omega
      clear hX hl
      go_enter Try.func188, Try.ntmps188
      go_wp2_with fail
      refine (spec_SmithForm R C A n cap xs _ (B := w.heap.size) (Kr H2.out) Ks hn).mono ?_
      rw [HX.out]
      intro e w1 hk1
      obtain ⟨A1, n1, c1, A2, n2, c2, A3, n3, c3, rfl, ho1, ho2, ho3, -, -, -, hb1⟩ := M3R.elim_some hk1
      clear hk1
      have hs1 := hb1.size
      simp at hs1
      have hV : HV3 w w1 R C A n cap := ⟨Ka, Ka, Ka, Ka, Kw⟩
      have hV2 : HV3 w (((w1.alloc (.cells #[.int .i64 (R : Int), .int .i64 (C : Int), .slice A1 n1 c1] 26)).alloc (.cells #[.int .i64 (R : Int), .int .i64 (R : Int), .slice A2 n2 c2] 26)).alloc (.cells #[.int .i64 (C : Int), .int .i64 (C : Int), .slice A3 n3 c3] 26)) R C A n cap := ((hV.alloc _).alloc _).alloc _
      have hM1 : BM (((w1.alloc (.cells #[.int .i64 (R : Int), .int .i64 (C : Int), .slice A1 n1 c1] 26)).alloc (.cells #[.int .i64 (R : Int), .int .i64 (R : Int), .slice A2 n2 c2] 26)).alloc (.cells #[.int .i64 (C : Int), .int .i64 (C : Int), .slice A3 n3 c3] 26)) w1.heap.size (R : Int) (C : Int) A1 n1 c1 := Ka
      have hM2 : BM (((w1.alloc (.cells #[.int .i64 (R : Int), .int .i64 (C : Int), .slice A1 n1 c1] 26)).alloc (.cells #[.int .i64 (R : Int), .int .i64 (R : Int), .slice A2 n2 c2] 26)).alloc (.cells #[.int .i64 (C : Int), .int .i64 (C : Int), .slice A3 n3 c3] 26)) (w1.heap.size + 1) (R : Int) (R : Int) A2 n2 c2 := Ka
      have hM3 : BM (((w1.alloc (.cells #[.int .i64 (R : Int), .int .i64 (C : Int), .slice A1 n1 c1] 26)).alloc (.cells #[.int .i64 (R : Int), .int .i64 (R : Int), .slice A2 n2 c2] 26)).alloc (.cells #[.int .i64 (C : Int), .int .i64 (C : Int), .slice A3 n3 c3] 26)) (w1.heap.size + 1 + 1) (C : Int) (C : Int) A3 n3 c3 := Ka
      have hsz2 : w1.heap.size + 1 + 1 + 1 ≤ ((((w1.alloc (.cells #[.int .i64 (R : Int), .int .i64 (C : Int), .slice A1 n1 c1] 26)).alloc (.cells #[.int .i64 (R : Int), .int .i64 (R : Int), .slice A2 n2 c2] 26)).alloc (.cells #[.int .i64 (C : Int), .int .i64 (C : Int), .slice A3 n3 c3] 26))).heap.size := by simp
      have hlv := hV.lt
      have hri2 : RI (((w1.alloc (.cells #[.int .i64 (R : Int), .int .i64 (C : Int), .slice A1 n1 c1] 26)).alloc (.cells #[.int .i64 (R : Int), .int .i64 (R : Int), .slice A2 n2 c2] 26)).alloc (.cells #[.int .i64 (C : Int), .int .i64 (C : Int), .slice A3 n3 c3] 26)) w.heap.size Ab nb bs := Kr H3.out
      (have q1 : OR (((w1.alloc (.cells #[.int .i64 (R : Int), .int .i64 (C : Int), .slice A1 n1 c1] 26)).alloc (.cells #[.int .i64 (R : Int), .int .i64 (R : Int), .slice A2 n2 c2] 26)).alloc (.cells #[.int .i64 (C : Int), .int .i64 (C : Int), .slice A3 n3 c3] 26)) (w.heap.size + 1 + 1 + 1 + 1) (.slice A1 n1 c1) (tb R C s.f) := (by have q := OR.mono (xs := tb R C s.f) (B' := (w.heap.size + 1 + 1 + 1 + 1)) ho1 (by simp); (with_reducible (repeat (first | exact q | refine OR.drew ?_ | refine OR.drewN ?_ _ | refine OR.alloc ?_ _ | refine OR.b_ ?_ | refine OR.l_ ?_))))); (have q2 : OR (((w1.alloc (.cells #[.int .i64 (R : Int), .int .i64 (C : Int), .slice A1 n1 c1] 26)).alloc (.cells #[.int .i64 (R : Int), .int .i64 (R : Int), .slice A2 n2 c2] 26)).alloc (.cells #[.int .i64 (C : Int), .int .i64 (C : Int), .slice A3 n3 c3] 26)) (w.heap.size + 1 + 1 + 1 + 1) (.slice A2 n2 c2) (tb R R s.g) := (by have q := OR.mono (xs := tb R R s.g) (B' := (w.heap.size + 1 + 1 + 1 + 1)) ho2 (by simp); (with_reducible (repeat (first | exact q | refine OR.drew ?_ | refine OR.drewN ?_ _ | refine OR.alloc ?_ _ | refine OR.b_ ?_ | refine OR.l_ ?_))))); (have q3 : OR (((w1.alloc (.cells #[.int .i64 (R : Int), .int .i64 (C : Int), .slice A1 n1 c1] 26)).alloc (.cells #[.int .i64 (R : Int), .int .i64 (R : Int), .slice A2 n2 c2] 26)).alloc (.cells #[.int .i64 (C : Int), .int .i64 (C : Int), .slice A3 n3 c3] 26)) (w.heap.size + 1 + 1 + 1 + 1) (.slice A3 n3 c3) (tb C C s.h) := (by have q := OR.mono (xs := tb C C s.h) (B' := (w.heap.size + 1 + 1 + 1 + 1)) ho3 (by simp); (with_reducible (repeat (first | exact q | refine OR.drew ?_ | refine OR.drewN ?_ _ | refine OR.alloc ?_ _ | refine OR.b_ ?_ | refine OR.l_ ?_))))); clear ho1 ho2 ho3
      clear hb1
      obtain ⟨ma, mb, mc, mf, ml⟩ := hV.m.mx
      have ml2 : w.heap.size < w1.heap.size + 1 := Nat.lt_succ_of_lt ml
      have ml3 : w.heap.size < w1.heap.size + 1 + 1 := Nat.lt_succ_of_lt ml2
      go_wp2_with fail
      clear hV ma mb mc mf ml ml2 ml3
      generalize (((w1.alloc (.cells #[.int .i64 (R : Int), .int .i64 (C : Int), .slice A1 n1 c1] 26)).alloc (.cells #[.int .i64 (R : Int), .int .i64 (R : Int), .slice A2 n2 c2] 26)).alloc (.cells #[.int .i64 (C : Int), .int .i64 (C : Int), .slice A3 n3 c3] 26)) = w2 at *
      generalize w1.heap.size = bH at *
      generalize hb2e : bH + 1 = b2 at *
      generalize hb3e : b2 + 1 = b3 at *
      have ne0 : ¬ bH = w.heap.size := by omega
      have nf0 : ¬ w.heap.size = bH := by omega
      have ne1 : ¬ bH = w.heap.size + 1 := by omega
      have nf1 : ¬ w.heap.size + 1 = bH := by omega
      have ne2 : ¬ bH = w.heap.size + 1 + 1 := by omega
      have nf2 : ¬ w.heap.size + 1 + 1 = bH := by omega
      have ne3 : ¬ bH = w.heap.size + 1 + 1 + 1 := by omega
      have nf3 : ¬ w.heap.size + 1 + 1 + 1 = bH := by omega
      have ne4 : ¬ b2 = w.heap.size := by omega
      have nf4 : ¬ w.heap.size = b2 := by omega
      have ne5 : ¬ b2 = w.heap.size + 1 := by omega
      have nf5 : ¬ w.heap.size + 1 = b2 := by omega
      have ne6 : ¬ b2 = w.heap.size + 1 + 1 := by omega
      have nf6 : ¬ w.heap.size + 1 + 1 = b2 := by omega
      have ne7 : ¬ b2 = w.heap.size + 1 + 1 + 1 := by omega
      have nf7 : ¬ w.heap.size + 1 + 1 + 1 = b2 := by omega
      have ne8 : ¬ b3 = w.heap.size := by omega
      have nf8 : ¬ w.heap.size = b3 := by omega
      have ne9 : ¬ b3 = w.heap.size + 1 := by omega
      have nf9 : ¬ w.heap.size + 1 = b3 := by omega
      have ne10 : ¬ b3 = w.heap.size + 1 + 1 := by omega
      have nf10 : ¬ w.heap.size + 1 + 1 = b3 := by omega
      have ne11 : ¬ b3 = w.heap.size + 1 + 1 + 1 := by omega
      have nf11 : ¬ w.heap.size + 1 + 1 + 1 = b3 := by omega
      have ne12 : ¬ bH = b2 := by omega
      have nf12 : ¬ b2 = bH := by omega
      have ne13 : ¬ bH = b3 := by omega
      have nf13 : ¬ b3 = bH := by omega
      have ne14 : ¬ b2 = b3 := by omega
      have nf14 : ¬ b3 = b2 := by omega
      have hlo : w.heap.size + 1 + 1 + 1 < w2.heap.size := by omega
      clear hb2e hb3e
      obtain ⟨ma, mb, mc, mf, ml⟩ := hV2.m.mx
      obtain ⟨r0a, r0b, r0c, r0f, r0l⟩ := hV2.r1.mx
      obtain ⟨r1a, r1b, r1c, r1f, r1l⟩ := hV2.r2.mx
      obtain ⟨r2a, r2b, r2c, r2f, r2l⟩ := hV2.r3.mx
      obtain ⟨ua, ub, uc, uf, ul⟩ := hM1.mx
      obtain ⟨va, vb, vc, vf, vl⟩ := hM2.mx
      obtain ⟨za, zb, zc, zf, zl⟩ := hM3.mx
      have hn2 : n2 ≤ 1048576 := by have h8 := q2.lenEq; rw [tb_len] at h8; have := Nat.mul_le_mul hR hR; omega
      refine (spec_l14Times R R A2 Ab n2 c2 nb capb (tb R R s.g) bs _ (B := w2.heap.size) (B3' := w.heap.size) q2.reads hri2 (Nat.le_refl _) (by omega) hn2 hnb).mono ?_
      rcases hmb : mulB R R (tb R R s.g) nb 1 bs with _ | _
      · have HN := Lib.hid (HRES.out.1 hmb)
        clear hmb
        rintro e w3 ⟨A4, n4, c4, rfl, -, hb3⟩
        have hs3 := hb3.size
        have hV3 : HV3 w w3 R C A n cap := hV2.below hb3 (by omega)
        have hN1 : BM w3 bH (R : Int) (C : Int) A1 n1 c1 := hM1.below hb3 (by omega)
        have hN2 : BM w3 b2 (R : Int) (R : Int) A2 n2 c2 := hM2.below hb3 (by omega)
        have hN3 : BM w3 b3 (C : Int) (C : Int) A3 n3 c3 := hM3.below hb3 (by omega)
        clear hV2 hM1 hM2 hM3 hb3 ma mb mc mf ml r0a r0b r0c r0f r0l r1a r1b r1c r1f r1l r2a r2b r2c r2f r2l ua ub uc uf ul va vb vc vf vl za zb zc zf zl
        obtain ⟨r0a, r0b, r0c, r0f, r0l⟩ := hV3.r1.mx
        obtain ⟨r1a, r1b, r1c, r1f, r1l⟩ := hV3.r2.mx
        obtain ⟨r2a, r2b, r2c, r2f, r2l⟩ := hV3.r3.mx
        obtain ⟨ua, ub, uc, uf, ul⟩ := hN1.mx
        obtain ⟨va, vb, vc, vf, vl⟩ := hN2.mx
        obtain ⟨za, zb, zc, zf, zl⟩ := hN3.mx
        have hvr1 := B3.of hV3.r1
        have hvr2 := B3.of hV3.r2
        have hvr3 := B3.of hV3.r3
        have hbw := hV3.b
        go_wp2_with fail
        ((refine wp_region_held_drew (S := (fun w' => w'.cell? ⟨bH, 0, none⟩ = some (.int .i64 (R : Int)) ∧ w'.cell? ⟨bH, 1, none⟩ = some (.int .i64 (C : Int)) ∧ w'.cell? ⟨bH, 2, none⟩ = some (.slice A1 n1 c1) ∧ w'.cell? ⟨b2, 0, none⟩ = some (.int .i64 (R : Int)) ∧ w'.cell? ⟨b2, 1, none⟩ = some (.int .i64 (R : Int)) ∧ w'.cell? ⟨b2, 2, none⟩ = some (.slice A2 n2 c2) ∧ w'.cell? ⟨b3, 0, none⟩ = some (.int .i64 (C : Int)) ∧ w'.cell? ⟨b3, 1, none⟩ = some (.int .i64 (C : Int)) ∧ w'.cell? ⟨b3, 2, none⟩ = some (.slice A3 n3 c3))) (by kernel_rfl) ?_ (fun hHeld => ?_)); ((focus ((try dsimp only); (go_keep)))); ((refine tk_ (i := 0) (v := ?_) (y := Or.inl ⟨by rfl, ?_⟩) (h := ?_); rotate_left; (focus (((intro w hSw; (try dsimp only at hSw); go_simp) <;> (try with_reducible rfl)); done)); (try simp only [Act.put, p1_, p2_, p3_]))); ((refine tk_ (i := 1) (v := ?_) (y := Or.inl ⟨by rfl, ?_⟩) (h := ?_); rotate_left; (focus (((intro w hSw; (try dsimp only at hSw); go_simp) <;> (try with_reducible rfl)); done)); (try simp only [Act.put, p1_, p2_, p3_]))); ((refine tk_ (i := 2) (v := ?_) (y := Or.inl ⟨by rfl, ?_⟩) (h := ?_); rotate_left; (focus (((intro w hSw; (try dsimp only at hSw); go_simp) <;> (try with_reducible rfl)); done)); (try simp only [Act.put, p1_, p2_, p3_]))); ((refine tk_ (i := 3) (v := ?_) (y := Or.inl ⟨by rfl, ?_⟩) (h := ?_); rotate_left; (focus (((intro w hSw; (try dsimp only at hSw); go_simp) <;> (try with_reducible rfl)); done)); (try simp only [Act.put, p1_, p2_, p3_]))); ((refine tk_ (i := 4) (v := ?_) (y := Or.inl ⟨by rfl, ?_⟩) (h := ?_); rotate_left; (focus (((intro w hSw; (try dsimp only at hSw); go_simp) <;> (try with_reducible rfl)); done)); (try simp only [Act.put, p1_, p2_, p3_]))); (refine wpAnyH_ready (rs := [5]) (by kernel_rfl) (by simp) ?_); (refine AllReadyH.cons (by simp only [e1_, e2_, e3_]; try rfl) ?_ ?_); ((focus ((intro K hK); (go_simp); ((try go_wp2_with fail)); (refine hK.out _ _ ?_ (fun hHeld => ?_)); ((focus ((try dsimp only); (go_keep)))); (clear hK K); ((try simp only [Act.put, p1_, p2_, p3_])); (refine wpAnyH_ready (rs := [6]) (by kernel_rfl) (by simp) ?_); (refine AllReadyH.cons (by simp only [e1_, e2_, e3_]; try rfl) ?_ ?_); ((focus ((intro K hK); (go_simp); ((try go_wp2_with fail)); (refine hK.out _ _ ?_ (fun hHeld => ?_)); ((focus ((try dsimp only); (go_keep)))); (clear hK K); ((try simp only [Act.put, p1_, p2_, p3_])); (refine wpAnyH_ready (rs := [7]) (by kernel_rfl) (by simp) ?_); (refine AllReadyH.cons (by simp only [e1_, e2_, e3_]; try rfl) ?_ ?_); ((focus ((intro K hK); (go_simp); ((try go_wp2_with fail)); (refine hK.out _ _ ?_ (fun hHeld => ?_)); ((focus ((try dsimp only); (go_keep)))); (clear hK K); ((try simp only [Act.put, p1_, p2_, p3_])); ((refine tk_ (i := 8) (v := ?_) (y := Or.inl ⟨by rfl, ?_⟩) (h := ?_); rotate_left; (focus (((intro w hSw; (try dsimp only at hSw); go_simp) <;> (try with_reducible rfl)); done)); (try simp only [Act.put, p1_, p2_, p3_]))); ((refine tk_ (i := 9) (v := ?_) (y := Or.inl ⟨by rfl, ?_⟩) (h := ?_); rotate_left; (focus (((intro w hSw; (try dsimp only at hSw); go_simp) <;> (try with_reducible rfl)); done)); (try simp only [Act.put, p1_, p2_, p3_]))); (refine wpAnyH_done (by kernel_rfl) ?_ _)))); (rotate_left 1); (exact AllReadyH.nil)))); (rotate_left 1); (exact AllReadyH.nil)))); (rotate_left 1); (exact AllReadyH.nil))
        all_goals (iterate 4 (try (first | go_values | go_skip | go_guarded | go_step)))
        all_goals refine ret_M3C (r := (R : Int)) (c := (C : Int)) (A := A1) (n := n1) (cap := c1) (r' := (R : Int)) (c' := (R : Int)) (A' := A2) (n' := n2) (cap' := c2) (r'' := (C : Int)) (c'' := (C : Int)) (A'' := A3) (n'' := n3) (cap'' := c3) Try.results188 rfl rfl rfl (Kb hvr1) (Kb hvr2) (Kb hvr3) rfl ?_
        all_goals exact SFR.of_no HN.out ⟨_, _, _, _, _, _, _, _, _, _, _, _, _, _, _, _, _, _, rfl, Kw⟩
      · have HN := Lib.hid (HRES.out.2 hmb)
        rw [mulM_yes hmb]
        simp only [Int.toNat_natCast]
        clear hmb
        rintro e w3 ⟨A4, n4, c4, rfl, ho4_, hb3⟩
        have ho4 : OR w3 w2.heap.size (.slice A4 n4 c4) (mulL (tb R R s.g) R R bs 1) := ho4_
        clear ho4_
        have hs3 := hb3.size
        have hV3 : HV3 w w3 R C A n cap := hV2.below hb3 (by omega)
        have hN1 : BM w3 bH (R : Int) (C : Int) A1 n1 c1 := hM1.below hb3 (by omega)
        have hN2 : BM w3 b2 (R : Int) (R : Int) A2 n2 c2 := hM2.below hb3 (by omega)
        have hN3 : BM w3 b3 (C : Int) (C : Int) A3 n3 c3 := hM3.below hb3 (by omega)
        have p1 : OR w3 (w.heap.size + 1 + 1 + 1 + 1) (.slice A1 n1 c1) (tb R C s.f) := Ko q1
        have p2 : OR w3 (w.heap.size + 1 + 1 + 1 + 1) (.slice A2 n2 c2) (tb R R s.g) := Ko q2
        have p3 : OR w3 (w.heap.size + 1 + 1 + 1 + 1) (.slice A3 n3 c3) (tb C C s.h) := Ko q3
        clear hV2 hM1 hM2 hM3 hb3 q1 q2 q3 ma mb mc mf ml r0a r0b r0c r0f r0l r1a r1b r1c r1f r1l r2a r2b r2c r2f r2l ua ub uc uf ul va vb vc vf vl za zb zc zf zl
        obtain ⟨r0a, r0b, r0c, r0f, r0l⟩ := hV3.r1.mx
        obtain ⟨r1a, r1b, r1c, r1f, r1l⟩ := hV3.r2.mx
        obtain ⟨r2a, r2b, r2c, r2f, r2l⟩ := hV3.r3.mx
        obtain ⟨ua, ub, uc, uf, ul⟩ := hN1.mx
        obtain ⟨va, vb, vc, vf, vl⟩ := hN2.mx
        obtain ⟨za, zb, zc, zf, zl⟩ := hN3.mx
        have hvr1 := B3.of hV3.r1
        have hvr2 := B3.of hV3.r2
        have hvr3 := B3.of hV3.r3
        have hbw := hV3.b
        go_wp2_with fail
        ((refine wp_region_held_drew (S := (fun w' => w'.cell? ⟨bH, 0, none⟩ = some (.int .i64 (R : Int)) ∧ w'.cell? ⟨bH, 1, none⟩ = some (.int .i64 (C : Int)) ∧ w'.cell? ⟨bH, 2, none⟩ = some (.slice A1 n1 c1) ∧ w'.cell? ⟨b2, 0, none⟩ = some (.int .i64 (R : Int)) ∧ w'.cell? ⟨b2, 1, none⟩ = some (.int .i64 (R : Int)) ∧ w'.cell? ⟨b2, 2, none⟩ = some (.slice A2 n2 c2) ∧ w'.cell? ⟨b3, 0, none⟩ = some (.int .i64 (C : Int)) ∧ w'.cell? ⟨b3, 1, none⟩ = some (.int .i64 (C : Int)) ∧ w'.cell? ⟨b3, 2, none⟩ = some (.slice A3 n3 c3))) (by kernel_rfl) ?_ (fun hHeld => ?_)); ((focus ((try dsimp only); (go_keep)))); ((refine tk_ (i := 0) (v := ?_) (y := Or.inl ⟨by rfl, ?_⟩) (h := ?_); rotate_left; (focus (((intro w hSw; (try dsimp only at hSw); go_simp) <;> (try with_reducible rfl)); done)); (try simp only [Act.put, p1_, p2_, p3_]))); ((refine tk_ (i := 1) (v := ?_) (y := Or.inl ⟨by rfl, ?_⟩) (h := ?_); rotate_left; (focus (((intro w hSw; (try dsimp only at hSw); go_simp) <;> (try with_reducible rfl)); done)); (try simp only [Act.put, p1_, p2_, p3_]))); ((refine tk_ (i := 2) (v := ?_) (y := Or.inl ⟨by rfl, ?_⟩) (h := ?_); rotate_left; (focus (((intro w hSw; (try dsimp only at hSw); go_simp) <;> (try with_reducible rfl)); done)); (try simp only [Act.put, p1_, p2_, p3_]))); ((refine tk_ (i := 3) (v := ?_) (y := Or.inl ⟨by rfl, ?_⟩) (h := ?_); rotate_left; (focus (((intro w hSw; (try dsimp only at hSw); go_simp) <;> (try with_reducible rfl)); done)); (try simp only [Act.put, p1_, p2_, p3_]))); ((refine tk_ (i := 4) (v := ?_) (y := Or.inl ⟨by rfl, ?_⟩) (h := ?_); rotate_left; (focus (((intro w hSw; (try dsimp only at hSw); go_simp) <;> (try with_reducible rfl)); done)); (try simp only [Act.put, p1_, p2_, p3_]))); (refine wpAnyH_ready (rs := [5]) (by kernel_rfl) (by simp) ?_); (refine AllReadyH.cons (by simp only [e1_, e2_, e3_]; try rfl) ?_ ?_); ((focus ((intro K hK); (go_simp); ((try go_wp2_with fail)); (refine hK.out _ _ ?_ (fun hHeld => ?_)); ((focus ((try dsimp only); (go_keep)))); (clear hK K); ((try simp only [Act.put, p1_, p2_, p3_])); (refine wpAnyH_ready (rs := [6]) (by kernel_rfl) (by simp) ?_); (refine AllReadyH.cons (by simp only [e1_, e2_, e3_]; try rfl) ?_ ?_); ((focus ((intro K hK); (go_simp); ((try go_wp2_with fail)); (refine hK.out _ _ ?_ (fun hHeld => ?_)); ((focus ((try dsimp only); (go_keep)))); (clear hK K); ((try simp only [Act.put, p1_, p2_, p3_])); (refine wpAnyH_ready (rs := [7]) (by kernel_rfl) (by simp) ?_); (refine AllReadyH.cons (by simp only [e1_, e2_, e3_]; try rfl) ?_ ?_); ((focus ((intro K hK); (go_simp); ((try go_wp2_with fail)); (refine hK.out _ _ ?_ (fun hHeld => ?_)); ((focus ((try dsimp only); (go_keep)))); (clear hK K); ((try simp only [Act.put, p1_, p2_, p3_])); ((refine tk_ (i := 8) (v := ?_) (y := Or.inl ⟨by rfl, ?_⟩) (h := ?_); rotate_left; (focus (((intro w hSw; (try dsimp only at hSw); go_simp) <;> (try with_reducible rfl)); done)); (try simp only [Act.put, p1_, p2_, p3_]))); ((refine tk_ (i := 9) (v := ?_) (y := Or.inl ⟨by rfl, ?_⟩) (h := ?_); rotate_left; (focus (((intro w hSw; (try dsimp only at hSw); go_simp) <;> (try with_reducible rfl)); done)); (try simp only [Act.put, p1_, p2_, p3_]))); (refine wpAnyH_done (by kernel_rfl) ?_ _)))); (rotate_left 1); (exact AllReadyH.nil)))); (rotate_left 1); (exact AllReadyH.nil)))); (rotate_left 1); (exact AllReadyH.nil))
        all_goals (iterate 4 (try (first | go_values | go_skip | go_guarded | go_step)))
        all_goals refine ret_M3C (r := (R : Int)) (c := (C : Int)) (A := A1) (n := n1) (cap := c1) (r' := (R : Int)) (c' := (R : Int)) (A' := A2) (n' := n2) (cap' := c2) (r'' := (C : Int)) (c'' := (C : Int)) (A'' := A3) (n'' := n3) (cap'' := c3) Try.results188 rfl rfl rfl (Kb hvr1) (Kb hvr2) (Kb hvr3) rfl ?_
        all_goals exact SFR.of_yes HN.out ⟨_, _, _, _, _, _, _, _, _, _, _, _, rfl, OR.mono (B := (w.heap.size + 1 + 1 + 1 + 1)) (Ko p1) (by omega), OR.mono (B := (w.heap.size + 1 + 1 + 1 + 1)) (Ko p2) (by omega), OR.mono (B := (w.heap.size + 1 + 1 + 1 + 1)) (Ko p3) (by omega), OR.mono (B := w2.heap.size) (Ko ho4) (by omega), Kw⟩
    · have hnq : ((nb : Int) != (R : Int)) = true := by simp; omega
      have HN := Lib.hid (siS_len hX hl)
      have HX := Lib.hid hX
      clear hX hl
      go_enter Try.func188, Try.ntmps188
      go_wp2_with fail
      refine (spec_SmithForm R C A n cap xs _ (B := w.heap.size) (Kr H2.out) Ks hn).mono ?_
      rw [HX.out]
      intro e w1 hk1
      obtain ⟨A1, n1, c1, A2, n2, c2, A3, n3, c3, rfl, ho1, ho2, ho3, -, -, -, hb1⟩ := M3R.elim_some hk1
      clear hk1
      have hs1 := hb1.size
      simp at hs1
      have hV : HV3 w w1 R C A n cap := ⟨Ka, Ka, Ka, Ka, Kw⟩
      have hV2 : HV3 w (((w1.alloc (.cells #[.int .i64 (R : Int), .int .i64 (C : Int), .slice A1 n1 c1] 26)).alloc (.cells #[.int .i64 (R : Int), .int .i64 (R : Int), .slice A2 n2 c2] 26)).alloc (.cells #[.int .i64 (C : Int), .int .i64 (C : Int), .slice A3 n3 c3] 26)) R C A n cap := ((hV.alloc _).alloc _).alloc _
      have hM1 : BM (((w1.alloc (.cells #[.int .i64 (R : Int), .int .i64 (C : Int), .slice A1 n1 c1] 26)).alloc (.cells #[.int .i64 (R : Int), .int .i64 (R : Int), .slice A2 n2 c2] 26)).alloc (.cells #[.int .i64 (C : Int), .int .i64 (C : Int), .slice A3 n3 c3] 26)) w1.heap.size (R : Int) (C : Int) A1 n1 c1 := Ka
      have hM2 : BM (((w1.alloc (.cells #[.int .i64 (R : Int), .int .i64 (C : Int), .slice A1 n1 c1] 26)).alloc (.cells #[.int .i64 (R : Int), .int .i64 (R : Int), .slice A2 n2 c2] 26)).alloc (.cells #[.int .i64 (C : Int), .int .i64 (C : Int), .slice A3 n3 c3] 26)) (w1.heap.size + 1) (R : Int) (R : Int) A2 n2 c2 := Ka
      have hM3 : BM (((w1.alloc (.cells #[.int .i64 (R : Int), .int .i64 (C : Int), .slice A1 n1 c1] 26)).alloc (.cells #[.int .i64 (R : Int), .int .i64 (R : Int), .slice A2 n2 c2] 26)).alloc (.cells #[.int .i64 (C : Int), .int .i64 (C : Int), .slice A3 n3 c3] 26)) (w1.heap.size + 1 + 1) (C : Int) (C : Int) A3 n3 c3 := Ka
      have hsz2 : w1.heap.size + 1 + 1 + 1 ≤ ((((w1.alloc (.cells #[.int .i64 (R : Int), .int .i64 (C : Int), .slice A1 n1 c1] 26)).alloc (.cells #[.int .i64 (R : Int), .int .i64 (R : Int), .slice A2 n2 c2] 26)).alloc (.cells #[.int .i64 (C : Int), .int .i64 (C : Int), .slice A3 n3 c3] 26))).heap.size := by simp
      have hlv := hV.lt
      have hri2 : RI (((w1.alloc (.cells #[.int .i64 (R : Int), .int .i64 (C : Int), .slice A1 n1 c1] 26)).alloc (.cells #[.int .i64 (R : Int), .int .i64 (R : Int), .slice A2 n2 c2] 26)).alloc (.cells #[.int .i64 (C : Int), .int .i64 (C : Int), .slice A3 n3 c3] 26)) w.heap.size Ab nb bs := Kr H3.out
      skip
      clear hb1
      obtain ⟨ma, mb, mc, mf, ml⟩ := hV.m.mx
      have ml2 : w.heap.size < w1.heap.size + 1 := Nat.lt_succ_of_lt ml
      have ml3 : w.heap.size < w1.heap.size + 1 + 1 := Nat.lt_succ_of_lt ml2
      go_wp2_with fail
      clear hV ma mb mc mf ml ml2 ml3
      generalize (((w1.alloc (.cells #[.int .i64 (R : Int), .int .i64 (C : Int), .slice A1 n1 c1] 26)).alloc (.cells #[.int .i64 (R : Int), .int .i64 (R : Int), .slice A2 n2 c2] 26)).alloc (.cells #[.int .i64 (C : Int), .int .i64 (C : Int), .slice A3 n3 c3] 26)) = w2 at *
      generalize w1.heap.size = bH at *
      generalize hb2e : bH + 1 = b2 at *
      generalize hb3e : b2 + 1 = b3 at *
      have ne0 : ¬ bH = w.heap.size := by omega
      have nf0 : ¬ w.heap.size = bH := by omega
      have ne1 : ¬ bH = w.heap.size + 1 := by omega
      have nf1 : ¬ w.heap.size + 1 = bH := by omega
      have ne2 : ¬ bH = w.heap.size + 1 + 1 := by omega
      have nf2 : ¬ w.heap.size + 1 + 1 = bH := by omega
      have ne3 : ¬ bH = w.heap.size + 1 + 1 + 1 := by omega
      have nf3 : ¬ w.heap.size + 1 + 1 + 1 = bH := by omega
      have ne4 : ¬ b2 = w.heap.size := by omega
      have nf4 : ¬ w.heap.size = b2 := by omega
      have ne5 : ¬ b2 = w.heap.size + 1 := by omega
      have nf5 : ¬ w.heap.size + 1 = b2 := by omega
      have ne6 : ¬ b2 = w.heap.size + 1 + 1 := by omega
      have nf6 : ¬ w.heap.size + 1 + 1 = b2 := by omega
      have ne7 : ¬ b2 = w.heap.size + 1 + 1 + 1 := by omega
      have nf7 : ¬ w.heap.size + 1 + 1 + 1 = b2 := by omega
      have ne8 : ¬ b3 = w.heap.size := by omega
      have nf8 : ¬ w.heap.size = b3 := by omega
      have ne9 : ¬ b3 = w.heap.size + 1 := by omega
      have nf9 : ¬ w.heap.size + 1 = b3 := by omega
      have ne10 : ¬ b3 = w.heap.size + 1 + 1 := by omega
      have nf10 : ¬ w.heap.size + 1 + 1 = b3 := by omega
      have ne11 : ¬ b3 = w.heap.size + 1 + 1 + 1 := by omega
      have nf11 : ¬ w.heap.size + 1 + 1 + 1 = b3 := by omega
      have ne12 : ¬ bH = b2 := by omega
      have nf12 : ¬ b2 = bH := by omega
      have ne13 : ¬ bH = b3 := by omega
      have nf13 : ¬ b3 = bH := by omega
      have ne14 : ¬ b2 = b3 := by omega
      have nf14 : ¬ b3 = b2 := by omega
      have hlo : w.heap.size + 1 + 1 + 1 < w2.heap.size := by omega
      clear hb2e hb3e
      obtain ⟨ma, mb, mc, mf, ml⟩ := hV2.m.mx
      obtain ⟨r0a, r0b, r0c, r0f, r0l⟩ := hV2.r1.mx
      obtain ⟨r1a, r1b, r1c, r1f, r1l⟩ := hV2.r2.mx
      obtain ⟨r2a, r2b, r2c, r2f, r2l⟩ := hV2.r3.mx
      obtain ⟨ua, ub, uc, uf, ul⟩ := hM1.mx
      obtain ⟨va, vb, vc, vf, vl⟩ := hM2.mx
      obtain ⟨za, zb, zc, zf, zl⟩ := hM3.mx
      have hvr1 := B3.of hV2.r1
      have hvr2 := B3.of hV2.r2
      have hvr3 := B3.of hV2.r3
      have hbw := hV2.b
      ((refine wp_region_held_drew (S := (fun w' => w'.cell? ⟨bH, 0, none⟩ = some (.int .i64 (R : Int)) ∧ w'.cell? ⟨bH, 1, none⟩ = some (.int .i64 (C : Int)) ∧ w'.cell? ⟨bH, 2, none⟩ = some (.slice A1 n1 c1) ∧ w'.cell? ⟨b2, 0, none⟩ = some (.int .i64 (R : Int)) ∧ w'.cell? ⟨b2, 1, none⟩ = some (.int .i64 (R : Int)) ∧ w'.cell? ⟨b2, 2, none⟩ = some (.slice A2 n2 c2) ∧ w'.cell? ⟨b3, 0, none⟩ = some (.int .i64 (C : Int)) ∧ w'.cell? ⟨b3, 1, none⟩ = some (.int .i64 (C : Int)) ∧ w'.cell? ⟨b3, 2, none⟩ = some (.slice A3 n3 c3))) (by kernel_rfl) ?_ (fun hHeld => ?_)); ((focus ((try dsimp only); (go_keep)))); ((refine tk_ (i := 0) (v := ?_) (y := Or.inl ⟨by rfl, ?_⟩) (h := ?_); rotate_left; (focus (((intro w hSw; (try dsimp only at hSw); go_simp) <;> (try with_reducible rfl)); done)); (try simp only [Act.put, p1_, p2_, p3_]))); ((refine tk_ (i := 1) (v := ?_) (y := Or.inl ⟨by rfl, ?_⟩) (h := ?_); rotate_left; (focus (((intro w hSw; (try dsimp only at hSw); go_simp) <;> (try with_reducible rfl)); done)); (try simp only [Act.put, p1_, p2_, p3_]))); ((refine tk_ (i := 2) (v := ?_) (y := Or.inl ⟨by rfl, ?_⟩) (h := ?_); rotate_left; (focus (((intro w hSw; (try dsimp only at hSw); go_simp) <;> (try with_reducible rfl)); done)); (try simp only [Act.put, p1_, p2_, p3_]))); (refine wpAnyH_ready (rs := [3, 4]) (by kernel_rfl) (by simp) ?_); (refine AllReadyH.cons (by simp only [e1_, e2_, e3_]; try rfl) ?_ ?_); ((focus ((intro K hK); (go_simp); ((try go_wp2_with fail)); (refine hK.out _ _ ?_ (fun hHeld => ?_)); ((focus ((try dsimp only); (go_keep)))); (clear hK K); ((try simp only [Act.put, p1_, p2_, p3_])); (refine wpAnyH_ready (rs := [4]) (by kernel_rfl) (by simp) ?_); (refine AllReadyH.cons (by simp only [e1_, e2_, e3_]; try rfl) ?_ ?_); ((focus ((intro K hK); (go_simp); ((try go_wp2_with fail)); (refine hK.out _ _ ?_ (fun hHeld => ?_)); ((focus ((try dsimp only); (go_keep)))); (clear hK K); ((try simp only [Act.put, p1_, p2_, p3_])); (refine wpAnyH_ready (rs := [5]) (by kernel_rfl) (by simp) ?_); (refine AllReadyH.cons (by simp only [e1_, e2_, e3_]; try rfl) ?_ ?_); ((focus ((intro K hK); (go_simp); ((try go_wp2_with fail)); (refine hK.out _ _ ?_ (fun hHeld => ?_)); ((focus ((try dsimp only); (go_keep)))); (clear hK K); ((try simp only [Act.put, p1_, p2_, p3_])); (refine wpAnyH_ready (rs := [6]) (by kernel_rfl) (by simp) ?_); (refine AllReadyH.cons (by simp only [e1_, e2_, e3_]; try rfl) ?_ ?_); ((focus ((intro K hK); (go_simp); ((try go_wp2_with fail)); (refine hK.out _ _ ?_ (fun hHeld => ?_)); ((focus ((try dsimp only); (go_keep)))); (clear hK K); ((try simp only [Act.put, p1_, p2_, p3_])); ((refine tk_ (i := 7) (v := ?_) (y := Or.inl ⟨by rfl, ?_⟩) (h := ?_); rotate_left; (focus (((intro w hSw; (try dsimp only at hSw); go_simp) <;> (try with_reducible rfl)); done)); (try simp only [Act.put, p1_, p2_, p3_]))); ((refine tk_ (i := 8) (v := ?_) (y := Or.inl ⟨by rfl, ?_⟩) (h := ?_); rotate_left; (focus (((intro w hSw; (try dsimp only at hSw); go_simp) <;> (try with_reducible rfl)); done)); (try simp only [Act.put, p1_, p2_, p3_]))); (refine wpAnyH_done (by kernel_rfl) ?_ _)))); (rotate_left 1); (exact AllReadyH.nil)))); (rotate_left 1); (exact AllReadyH.nil)))); (rotate_left 1); (exact AllReadyH.nil)))); (rotate_left 1); (refine AllReadyH.cons (by simp only [e1_, e2_, e3_]; try rfl) ?_ ?_); ((focus ((intro K hK); (go_simp); ((try go_wp2_with fail)); (refine hK.out _ _ ?_ (fun hHeld => ?_)); ((focus ((try dsimp only); (go_keep)))); (clear hK K); ((try simp only [Act.put, p1_, p2_, p3_])); (refine wpAnyH_ready (rs := [3, 5]) (by kernel_rfl) (by simp) ?_); (refine AllReadyH.cons (by simp only [e1_, e2_, e3_]; try rfl) ?_ ?_); ((focus ((intro K hK); (go_simp); ((try go_wp2_with fail)); (refine hK.out _ _ ?_ (fun hHeld => ?_)); ((focus ((try dsimp only); (go_keep)))); (clear hK K); ((try simp only [Act.put, p1_, p2_, p3_])); (refine wpAnyH_ready (rs := [5]) (by kernel_rfl) (by simp) ?_); (refine AllReadyH.cons (by simp only [e1_, e2_, e3_]; try rfl) ?_ ?_); ((focus ((intro K hK); (go_simp); ((try go_wp2_with fail)); (refine hK.out _ _ ?_ (fun hHeld => ?_)); ((focus ((try dsimp only); (go_keep)))); (clear hK K); ((try simp only [Act.put, p1_, p2_, p3_])); (refine wpAnyH_ready (rs := [6]) (by kernel_rfl) (by simp) ?_); (refine AllReadyH.cons (by simp only [e1_, e2_, e3_]; try rfl) ?_ ?_); ((focus ((intro K hK); (go_simp); ((try go_wp2_with fail)); (refine hK.out _ _ ?_ (fun hHeld => ?_)); ((focus ((try dsimp only); (go_keep)))); (clear hK K); ((try simp only [Act.put, p1_, p2_, p3_])); ((refine tk_ (i := 7) (v := ?_) (y := Or.inl ⟨by rfl, ?_⟩) (h := ?_); rotate_left; (focus (((intro w hSw; (try dsimp only at hSw); go_simp) <;> (try with_reducible rfl)); done)); (try simp only [Act.put, p1_, p2_, p3_]))); ((refine tk_ (i := 8) (v := ?_) (y := Or.inl ⟨by rfl, ?_⟩) (h := ?_); rotate_left; (focus (((intro w hSw; (try dsimp only at hSw); go_simp) <;> (try with_reducible rfl)); done)); (try simp only [Act.put, p1_, p2_, p3_]))); (refine wpAnyH_done (by kernel_rfl) ?_ _)))); (rotate_left 1); (exact AllReadyH.nil)))); (rotate_left 1); (exact AllReadyH.nil)))); (rotate_left 1); (refine AllReadyH.cons (by simp only [e1_, e2_, e3_]; try rfl) ?_ ?_); ((focus ((intro K hK); (go_simp); ((try go_wp2_with fail)); (refine hK.out _ _ ?_ (fun hHeld => ?_)); ((focus ((try dsimp only); (go_keep)))); (clear hK K); ((try simp only [Act.put, p1_, p2_, p3_])); (refine wpAnyH_ready (rs := [3, 6]) (by kernel_rfl) (by simp) ?_); (refine AllReadyH.cons (by simp only [e1_, e2_, e3_]; try rfl) ?_ ?_); ((focus ((intro K hK); (go_simp); ((try go_wp2_with fail)); (refine hK.out _ _ ?_ (fun hHeld => ?_)); ((focus ((try dsimp only); (go_keep)))); (clear hK K); ((try simp only [Act.put, p1_, p2_, p3_])); (refine wpAnyH_ready (rs := [6]) (by kernel_rfl) (by simp) ?_); (refine AllReadyH.cons (by simp only [e1_, e2_, e3_]; try rfl) ?_ ?_); ((focus ((intro K hK); (go_simp); ((try go_wp2_with fail)); (refine hK.out _ _ ?_ (fun hHeld => ?_)); ((focus ((try dsimp only); (go_keep)))); (clear hK K); ((try simp only [Act.put, p1_, p2_, p3_])); ((refine tk_ (i := 7) (v := ?_) (y := Or.inl ⟨by rfl, ?_⟩) (h := ?_); rotate_left; (focus (((intro w hSw; (try dsimp only at hSw); go_simp) <;> (try with_reducible rfl)); done)); (try simp only [Act.put, p1_, p2_, p3_]))); ((refine tk_ (i := 8) (v := ?_) (y := Or.inl ⟨by rfl, ?_⟩) (h := ?_); rotate_left; (focus (((intro w hSw; (try dsimp only at hSw); go_simp) <;> (try with_reducible rfl)); done)); (try simp only [Act.put, p1_, p2_, p3_]))); (refine wpAnyH_done (by kernel_rfl) ?_ _)))); (rotate_left 1); (exact AllReadyH.nil)))); (rotate_left 1); (refine AllReadyH.cons (by simp only [e1_, e2_, e3_]; try rfl) ?_ ?_); ((focus ((intro K hK); (go_simp); ((try go_wp2_with fail)); (refine hK.out _ _ ?_ (fun hHeld => ?_)); ((focus ((try dsimp only); (go_keep)))); (clear hK K); ((try simp only [Act.put, p1_, p2_, p3_])); (refine wpAnyH_ready (rs := [3]) (by kernel_rfl) (by simp) ?_); (refine AllReadyH.cons (by simp only [e1_, e2_, e3_]; try rfl) ?_ ?_); ((focus ((intro K hK); (go_simp); ((try go_wp2_with fail)); (refine hK.out _ _ ?_ (fun hHeld => ?_)); ((focus ((try dsimp only); (go_keep)))); (clear hK K); ((try simp only [Act.put, p1_, p2_, p3_])); ((refine tk_ (i := 7) (v := ?_) (y := Or.inl ⟨by rfl, ?_⟩) (h := ?_); rotate_left; (focus (((intro w hSw; (try dsimp only at hSw); go_simp) <;> (try with_reducible rfl)); done)); (try simp only [Act.put, p1_, p2_, p3_]))); ((refine tk_ (i := 8) (v := ?_) (y := Or.inl ⟨by rfl, ?_⟩) (h := ?_); rotate_left; (focus (((intro w hSw; (try dsimp only at hSw); go_simp) <;> (try with_reducible rfl)); done)); (try simp only [Act.put, p1_, p2_, p3_]))); (refine wpAnyH_done (by kernel_rfl) ?_ _)))); (rotate_left 1); (exact AllReadyH.nil)))); (rotate_left 1); (exact AllReadyH.nil)))); (rotate_left 2); (exact AllReadyH.nil)))); (rotate_left 3); (exact AllReadyH.nil))
      all_goals (iterate 4 (try (first | go_values | go_skip | go_guarded | go_step)))
      all_goals refine ret_M3C (r := (R : Int)) (c := (C : Int)) (A := A1) (n := n1) (cap := c1) (r' := (R : Int)) (c' := (R : Int)) (A' := A2) (n' := n2) (cap' := c2) (r'' := (C : Int)) (c'' := (C : Int)) (A'' := A3) (n'' := n3) (cap'' := c3) Try.results188 rfl rfl rfl (Kb hvr1) (Kb hvr2) (Kb hvr3) rfl ?_
      all_goals exact SFR.of_no HN.out ⟨_, _, _, _, _, _, _, _, _, _, _, _, _, _, _, _, _, _, rfl, Kw⟩
end Go.Proofs.Ytacjonkehcamgaa

/-
  DERIVED. IsRational of the reference.
-/
import Derived.Test.YtlggfmfelakadaaVS
import Derived.Test.YtlggfmfelakadaaIsRatv
namespace Go.Proofs.Ytlggfmfelakadaa
open Go.RowKit
set_option linter.unusedVariables false
set_option linter.unusedSimpArgs false
set_option maxRecDepth 100000 in
set_option maxHeartbeats 8000000 in
theorem spec_IsRational (r c : Int) (A Ab Ax : Option Addr) (n cap nb capb nx capx : Nat) (xs bs qs : List Int) (w : World) {B B' B'' : Nat} (h : RI w B A n xs) (hb : RI w B' Ab nb bs) (hx : RI w B'' Ax (nx * 2) qs) (hB : B ≤ w.heap.size) (hB' : B' ≤ w.heap.size) (hB'' : B'' ≤ w.heap.size) (hn : n ≤ 1048576) (hnb : nb ≤ 1048576) (hnx : nx ≤ 1048576) :
    Calls Try.prog 42 #[.agg #[.int .i64 r, .int .i64 c, .slice A n cap], .slice Ab nb capb, .slice Ax nx capx] w (BV (.bool (irB r c xs bs qs)) w) := by
  have hlb := hb.len
  have hlx := hx.len
  have H2 := Lib.hid (h.more hB)
  have H3 := Lib.hid (hb.more hB')
  have H4 := Lib.hid (hx.more hB'')
  have hln := h.len
  clear h hb hx
  rcases ir_cases r c xs bs qs with ⟨hm, hv⟩ | ⟨hm, hl, hv⟩ | ⟨hm, hl, hq, hv⟩ | ⟨hm, hl, hq, hv⟩
  · rw [hv]
    have HM := Lib.hid hm
    clear hm hv hlb hlx hln
    go_enter Try.func42, Try.ntmps42
    go_wp2_with fail
    refine (spec_IsMatrix r c A n cap xs _ (C := w.heap.size) (Kr H2.out) Ks hn).mono ?_; rw [HM.out]; rintro e w1 ⟨rfl, hb1⟩; have hsz1 := hb1.size; simp at hsz1; have hM : BM w1 w.heap.size r c A n cap := Ka; have hbw : Below w.heap.size w w1 := Kw; clear hb1; obtain ⟨ma, mb, mc, mf, ml⟩ := hM.mx
    go_wp2_with fail
    go_ret
    exact BV.mk rfl Kw
  · rw [hv]
    have HM := Lib.hid hm
    rw [hlb] at hl
    clear hm hv hlb hlx hln
    go_enter Try.func42, Try.ntmps42
    go_wp2_with fail
    refine (spec_IsMatrix r c A n cap xs _ (C := w.heap.size) (Kr H2.out) Ks hn).mono ?_; rw [HM.out]; rintro e w1 ⟨rfl, hb1⟩; have hsz1 := hb1.size; simp at hsz1; have hM : BM w1 w.heap.size r c A n cap := Ka; have hbw : Below w.heap.size w w1 := Kw; clear hb1; obtain ⟨ma, mb, mc, mf, ml⟩ := hM.mx
    go_wp2_with fail
    go_ret
    exact BV.mk rfl Kw
  · rw [hv]
    have HM := Lib.hid hm
    rw [hlb] at hl
    have hq2 : ((nx : Int) != c) = true := by simp; omega
    clear hm hv hlb hlx hq hln
    go_enter Try.func42, Try.ntmps42
    go_wp2_with fail
    refine (spec_IsMatrix r c A n cap xs _ (C := w.heap.size) (Kr H2.out) Ks hn).mono ?_; rw [HM.out]; rintro e w1 ⟨rfl, hb1⟩; have hsz1 := hb1.size; simp at hsz1; have hM : BM w1 w.heap.size r c A n cap := Ka; have hbw : Below w.heap.size w w1 := Kw; clear hb1; obtain ⟨ma, mb, mc, mf, ml⟩ := hM.mx
    go_wp2_with fail
    go_ret
    exact BV.mk rfl Kw
  · have HV := Lib.hid hv
    have HM := Lib.hid hm
    have M := isMat_iff.1 hm
    have hr1 := M.r1
    have hc1 := M.c1
    have hMl := M.len
    have HBD : Hid (∀ i k : Nat, -400000000 ≤ cel xs c i k ∧ cel xs c i k ≤ 400000000) := Lib.hid (fun i k => M.cel_bd i k)
    obtain ⟨R, rfl⟩ := nat_of M.r0
    obtain ⟨C, rfl⟩ := nat_of M.c0
    rw [hlb] at hl
    have hq2 : ((nx : Int) != (C : Int)) = false := by simp; omega
    have hnR : nb ≤ R ∧ R ≤ nb := by have := (bne_eq_false_iff_eq).1 hl; omega
    have hnC : nx ≤ C ∧ C ≤ nx := by omega
    have hln2 : R * C ≤ n ∧ n ≤ R * C := by rw [← Int.natCast_mul] at hMl; omega
    have hRC : R * C ≤ 24 * 24 := Nat.mul_le_mul (by omega) (by omega)
    simp only [Int.toNat_natCast] at HV
    have HLB := Lib.hid hlb
    clear hm hv hlb hlx hq hln M hMl
    generalize irB (R : Int) (C : Int) xs bs qs = vb at *
    go_enter Try.func42, Try.ntmps42
    go_wp2_with fail
    refine (spec_IsMatrix R C A n cap xs _ (C := w.heap.size) (Kr H2.out) Ks hn).mono ?_; rw [HM.out]; rintro e w1 ⟨rfl, hb1⟩; have hsz1 := hb1.size; simp at hsz1; have hM : BM w1 w.heap.size R C A n cap := Ka; have hbw : Below w.heap.size w w1 := Kw; clear hb1; obtain ⟨ma, mb, mc, mf, ml⟩ := hM.mx
    go_wp2_with fail
    go_loopw [7] (fun v wr => ∃ i : Nat, v = .int .i64 i ∧ i ≤ R ∧ (∀ j, j < i → ratRow xs C qs j = (bs.getD j 0, 1)) ∧ BM wr w.heap.size R C A n cap ∧ Below w.heap.size w wr) (fun v _ => R - (intOf v).toNat)
    case atStart => exact ⟨0, rfl, Nat.zero_le _, fun j hj => absurd hj (by omega), hM, hbw⟩
    case round =>
      clear ma mb mc mf ml hM hbw
      obtain ⟨i, rfl, hi, hrows0, hM, hbw⟩ := hrel
      have HRW := Lib.hid hrows0
      clear hrows0
      obtain ⟨ma, mb, mc, mf, ml⟩ := hM.mx
      by_cases hiR : i < R
      · have hszr := hbw.size
        have hlM := hM.lt
        have hMA : BM (wr.alloc (.cells #[.int .i64 0, .int .i64 1] 84)) w.heap.size R C A n cap := Kb hM
        have hS : BQ (wr.alloc (.cells #[.int .i64 0, .int .i64 1] 84)) wr.heap.size (rsum (fun k => (cel xs C i k, 1)) (fl qs) 0).1 (rsum (fun k => (cel xs C i k, 1)) (fl qs) 0).2 := by
          show BQ _ wr.heap.size 0 1
          (with_reducible (repeat (first | assumption | refine Blk.new_at _ _ _ _ Ks | refine Blk.below ?_ (by assumption) Ks | apply Blk.drew | apply Blk.drewN | refine Blk.far ?_ (by simp only [ne_eq]; omega) _ | apply Blk.alloc)))
        have hbwA : Below w.heap.size w (wr.alloc (.cells #[.int .i64 0, .int .i64 1] 84)) := Kw
        go_wp2_with fail
        generalize hbS : wr.heap.size = bS at *
        generalize hwo : wr.alloc (.cells #[.int .i64 0, .int .i64 1] 84) = wo at *
        clear hwo ma mb mc mf ml hM hbw
        have hM := hMA
        have hbw := hbwA
        clear hMA hbwA
        go_loopw [9] (fun v wr => ∃ k : Nat, v = .int .i64 k ∧ k ≤ C ∧ BM wr w.heap.size R C A n cap ∧ BQ wr bS (rsum (fun k => (cel xs C i k, 1)) (fl qs) k).1 (rsum (fun k => (cel xs C i k, 1)) (fl qs) k).2 ∧ Below w.heap.size w wr) (fun v _ => C - (intOf v).toNat)
        case atStart => exact ⟨0, rfl, Nat.zero_le _, hM, hS, hbw⟩
        case round =>
          clear hM hS hbw
          obtain ⟨k, rfl, hk, hM, hS, hbw⟩ := hrel
          by_cases hkC : k < C
          · obtain ⟨bx, ox, rfl, hbx, _⟩ := H4.out.2 (by omega)
            have hix := idx_nat hiR hkC
            obtain ⟨bm, om, rfl, hbm, _⟩ := H2.out.2 (by omega)
            have hxi : RI wr w.heap.size (some ⟨bx, ox, none⟩) (nx * 2) qs := Kr H4.out
            have hmi : RI wr w.heap.size (some ⟨bm, om, none⟩) n xs := Kr H2.out
            have cx1 := hxi.at_ (k := k * 2) (by omega)
            have cx2 : wr.cell? ⟨bx, ox + k * 2 + 1, none⟩ = _ := hxi.at_ (k := k * 2 + 1) (by omega)
            have cm := hmi.at_ (k := i * C + k) (by omega)
            have hstep : rsum (fun k => (cel xs C i k, 1)) (fl qs) (k + 1) = addR (rsum (fun k => (cel xs C i k, 1)) (fl qs) k) (mulR (cel xs C i k, 1) (qs.getD (k * 2) 0, qs.getD (k * 2 + 1) 0)) := rfl
            rw [← cel_nat] at cm
            have HSTEP := Lib.hid hstep
            obtain ⟨x, hx⟩ : ∃ x, qs.getD (k * 2) 0 = x := ⟨_, rfl⟩
            obtain ⟨y, hy⟩ : ∃ y, qs.getD (k * 2 + 1) 0 = y := ⟨_, rfl⟩
            obtain ⟨m, hm⟩ : ∃ m, cel xs C i k = m := ⟨_, rfl⟩
            have HX1 := Lib.hid hx
            have HX2 := Lib.hid hy
            have HX3 := Lib.hid hm
            rw [hx] at cx1
            rw [hy] at cx2
            rw [hm] at cm
            clear hstep hx hy hm
            obtain ⟨s, hs⟩ : ∃ s, rsum (fun k => (cel xs C i k, 1)) (fl qs) k = s := ⟨_, rfl⟩
            have HS0 := Lib.hid hs
            rw [hs] at hS
            clear hs
            have i1 : (i : Int) * (C : Int) = ((i * C : Nat) : Int) := by rw [Int.natCast_mul]
            have e1 : ((i : Int) * (C : Int) + (k : Int)).toNat = i * C + k := by omega
            have g3 : IntKind.i64.wrap ((i : Int) * (C : Int)) = (i : Int) * (C : Int) := IntWalk.i64_in _ (by omega)
            have g4 : IntKind.i64.wrap ((i : Int) * (C : Int) + (k : Int)) = (i : Int) * (C : Int) + (k : Int) := IntWalk.i64_in _ (by omega)
            have g5 : 0 ≤ (i : Int) * (C : Int) + (k : Int) ∧ (i : Int) * (C : Int) + (k : Int) < (n : Int) := by omega
            rw [← e1] at cm
            have E1 := Lib.hid e1
            have hkn : k < nx := by omega
            have hne1 : bS ≠ w.heap.size := by omega
            have hne2 : bS ≠ bx := by omega
            have hne3 : bS ≠ bm := by omega
            clear i1 e1
            obtain ⟨ma, mb, mc, mf, ml⟩ := hM.mx; obtain ⟨sa, sb, sf, sl⟩ := hS.cells
            go_wp2_with fail
            ((refine wp_region_held_drew (S := (fun w' => w'.cell? ⟨w.heap.size, 1, none⟩ = some (.int .i64 C) ∧ w'.cell? ⟨w.heap.size, 2, none⟩ = some (.slice (some ⟨bm, om, none⟩) n cap) ∧ w'.cell? ⟨bx, ox + k * 2, none⟩ = some (.int .i64 x) ∧ w'.cell? ⟨bx, ox + k * 2 + 1, none⟩ = some (.int .i64 y) ∧ w'.cell? ⟨bm, om + ((i : Int) * (C : Int) + (k : Int)).toNat, none⟩ = some (.int .i64 m))) (by kernel_rfl) ?_ (fun hHeld => ?_)); ((focus ((try dsimp only); (go_keep)))); ((refine tk_ (i := 1) (v := ?_) (y := Or.inl ⟨by rfl, ?_⟩) (h := ?_); rotate_left; (focus (((intro w hSw; (try dsimp only at hSw); go_simp) <;> (try with_reducible rfl)); done)); (try simp only [Act.put, p1_, p2_, p3_]))); ((refine tk_ (i := 2) (v := ?_) (y := Or.inl ⟨by rfl, ?_⟩) (h := ?_); rotate_left; (focus (((intro w hSw; (try dsimp only at hSw); go_simp) <;> (try with_reducible rfl)); done)); (try simp only [Act.put, p1_, p2_, p3_]))); ((refine tk_ (i := 3) (v := ?_) (y := Or.inl ⟨by rfl, ?_⟩) (h := ?_); rotate_left; (focus (((intro w hSw; (try dsimp only at hSw); go_simp) <;> (try with_reducible rfl)); done)); (try simp only [Act.put, p1_, p2_, p3_]))); ((refine tk_ (i := 4) (v := ?_) (y := Or.inl ⟨by rfl, ?_⟩) (h := ?_); rotate_left; (focus (((intro w hSw; (try dsimp only at hSw); go_simp) <;> (try with_reducible rfl)); done)); (try simp only [Act.put, p1_, p2_, p3_]))); ((refine tk_ (i := 5) (v := ?_) (y := Or.inl ⟨by rfl, ?_⟩) (h := ?_); rotate_left; (focus (((intro w hSw; (try dsimp only at hSw); go_simp) <;> (try with_reducible rfl)); done)); (try simp only [Act.put, p1_, p2_, p3_]))); ((refine tk_ (i := 6) (v := ?_) (y := Or.inl ⟨by rfl, ?_⟩) (h := ?_); rotate_left; (focus (((intro w hSw; (try dsimp only at hSw); go_simp) <;> (try with_reducible rfl)); done)); (try simp only [Act.put, p1_, p2_, p3_]))); ((refine tk_ (i := 7) (v := ?_) (y := Or.inl ⟨by rfl, ?_⟩) (h := ?_); rotate_left; (focus (((intro w hSw; (try dsimp only at hSw); go_simp) <;> (try with_reducible rfl)); done)); (try simp only [Act.put, p1_, p2_, p3_]))); ((refine tk_ (i := 8) (v := ?_) (y := Or.inl ⟨by rfl, ?_⟩) (h := ?_); rotate_left; (focus (((intro w hSw; (try dsimp only at hSw); go_simp) <;> (try with_reducible rfl)); done)); (try simp only [Act.put, p1_, p2_, p3_]))); ((refine tk_ (i := 9) (v := ?_) (y := Or.inl ⟨by rfl, ?_⟩) (h := ?_); rotate_left; (focus (((intro w hSw; (try dsimp only at hSw); go_simp) <;> (try with_reducible rfl)); done)); (try simp only [Act.put, p1_, p2_, p3_]))); ((refine tk_ (i := 10) (v := ?_) (y := Or.inl ⟨by rfl, ?_⟩) (h := ?_); rotate_left; (focus (((intro w hSw; (try dsimp only at hSw); go_simp) <;> (try with_reducible rfl)); done)); (try simp only [Act.put, p1_, p2_, p3_]))); ((refine tk_ (i := 11) (v := ?_) (y := Or.inl ⟨by rfl, ?_⟩) (h := ?_); rotate_left; (focus (((intro w hSw; (try dsimp only at hSw); go_simp) <;> (try with_reducible rfl)); done)); (try simp only [Act.put, p1_, p2_, p3_]))); ((refine tk_ (i := 12) (v := ?_) (y := Or.inl ⟨by rfl, ?_⟩) (h := ?_); rotate_left; (focus (((intro w hSw; (try dsimp only at hSw); go_simp) <;> (try with_reducible rfl)); done)); (try simp only [Act.put, p1_, p2_, p3_]))); ((refine tk_ (i := 13) (v := ?_) (y := Or.inl ⟨by rfl, ?_⟩) (h := ?_); rotate_left; (focus (((intro w hSw; (try dsimp only at hSw); go_simp) <;> (try with_reducible rfl)); done)); (try simp only [Act.put, p1_, p2_, p3_]))); ((refine tk_ (i := 14) (v := ?_) (y := Or.inl ⟨by rfl, ?_⟩) (h := ?_); rotate_left; (focus (((intro w hSw; (try dsimp only at hSw); go_simp) <;> (try with_reducible rfl)); done)); (try simp only [Act.put, p1_, p2_, p3_]))); ((refine tk_ (i := 15) (v := ?_) (y := Or.inl ⟨by rfl, ?_⟩) (h := ?_); rotate_left; (focus (((intro w hSw; (try dsimp only at hSw); go_simp) <;> (try with_reducible rfl)); done)); (try simp only [Act.put, p1_, p2_, p3_]))); (refine wpAnyH_ready (rs := [0, 16]) (by kernel_rfl) (by simp) ?_); (refine AllReadyH.cons (by simp only [e1_, e2_, e3_]; try rfl) ?_ ?_); ((focus ((intro K hK); (go_simp); ((try go_wp2_with fail)); (refine hK.out _ _ ?_ (fun hHeld => ?_)); ((focus ((try dsimp only); (go_keep)))); (clear hK K); ((try simp only [Act.put, p1_, p2_, p3_])); (refine wpAnyH_ready (rs := [16]) (by kernel_rfl) (by simp) ?_); (refine AllReadyH.cons (by simp only [e1_, e2_, e3_]; try rfl) ?_ ?_); ((focus ((intro K hK); (go_simp); ((refine (spec_MultiplyRatios m 1 x y _).mono ?_; rintro e w5 ⟨rfl, hb5⟩; unfold rV; have hsz_0 := hb5.size; (try simp at hsz_0); have hM_1 : BM w5 w.heap.size R C (some ⟨bm, om, none⟩) n cap := (Kb hM); have hS_1 : BQ w5 bS s.1 s.2 := (by (with_reducible (repeat (first | exact hS | refine Blk.new_at _ _ _ _ Ks | refine Blk.below ?_ (by assumption) Ks | apply Blk.drew | apply Blk.drewN | refine Blk.far ?_ (by simp only [ne_eq]; omega) _ | apply Blk.alloc)))); have hxi_1 : RI w5 w.heap.size (some ⟨bx, ox, none⟩) (nx * 2) qs := (Kr hxi); have hmi_1 : RI w5 w.heap.size (some ⟨bm, om, none⟩) n xs := (Kr hmi); have hbw_1 : Below w.heap.size w w5 := Kw; clear ma mb mc mf ml sa sb sf sl; clear hM hS hxi hmi hbw cx1 cx2 cm; have hM := hM_1; have hS := hS_1; have hxi := hxi_1; have hmi := hmi_1; have hbw := hbw_1; clear hM_1 hS_1 hxi_1 hmi_1 hbw_1; obtain ⟨ma, mb, mc, mf, ml⟩ := hM.mx; obtain ⟨sa, sb, sf, sl⟩ := hS.cells; have cx1 := hxi.at_ (k := k * 2) (by omega); have cx2 : World.cell? w5 ⟨bx, ox + k * 2 + 1, none⟩ = _ := hxi.at_ (k := k * 2 + 1) (by omega); rw [HX1.out] at cx1; rw [HX2.out] at cx2; have cm := hmi.at_ (k := i * C + k) (by omega); rw [← cel_nat, HX3.out, ← E1.out] at cm)); ((try go_wp2_with fail)); (refine hK.out _ _ ?_ (fun hHeld => ?_)); ((focus ((try dsimp only); (go_keep)))); (clear hK K); ((try simp only [Act.put, p1_, p2_, p3_])); (refine wpAnyH_ready (rs := [17]) (by kernel_rfl) (by simp) ?_); (refine AllReadyH.cons (by simp only [e1_, e2_, e3_]; try rfl) ?_ ?_); ((focus ((intro K hK); (go_simp); ((refine (spec_AddRatios s.1 s.2 _ _ _).mono ?_; rintro e w6 ⟨rfl, hb6⟩; unfold rV; have hsz_0 := hb6.size; (try simp at hsz_0); have hM_1 : BM w6 w.heap.size R C (some ⟨bm, om, none⟩) n cap := (Kb hM); have hS_1 : BQ w6 bS s.1 s.2 := (by (with_reducible (repeat (first | exact hS | refine Blk.new_at _ _ _ _ Ks | refine Blk.below ?_ (by assumption) Ks | apply Blk.drew | apply Blk.drewN | refine Blk.far ?_ (by simp only [ne_eq]; omega) _ | apply Blk.alloc)))); have hxi_1 : RI w6 w.heap.size (some ⟨bx, ox, none⟩) (nx * 2) qs := (Kr hxi); have hmi_1 : RI w6 w.heap.size (some ⟨bm, om, none⟩) n xs := (Kr hmi); have hbw_1 : Below w.heap.size w w6 := Kw; clear ma mb mc mf ml sa sb sf sl; clear hM hS hxi hmi hbw cx1 cx2 cm; have hM := hM_1; have hS := hS_1; have hxi := hxi_1; have hmi := hmi_1; have hbw := hbw_1; clear hM_1 hS_1 hxi_1 hmi_1 hbw_1; obtain ⟨ma, mb, mc, mf, ml⟩ := hM.mx; obtain ⟨sa, sb, sf, sl⟩ := hS.cells; have cx1 := hxi.at_ (k := k * 2) (by omega); have cx2 : World.cell? w6 ⟨bx, ox + k * 2 + 1, none⟩ = _ := hxi.at_ (k := k * 2 + 1) (by omega); rw [HX1.out] at cx1; rw [HX2.out] at cx2; have cm := hmi.at_ (k := i * C + k) (by omega); rw [← cel_nat, HX3.out, ← E1.out] at cm)); ((try go_wp2_with fail)); (refine hK.out _ _ ?_ (fun hHeld => ?_)); ((focus ((try dsimp only); (go_keep)))); (clear hK K); ((try simp only [Act.put, p1_, p2_, p3_])); (refine wpAnyH_ready (rs := [18]) (by kernel_rfl) (by simp) ?_); (refine AllReadyH.cons (by simp only [e1_, e2_, e3_]; try rfl) ?_ ?_); ((focus ((intro K hK); (go_simp); ((try go_wp2_with fail)); (refine hK.out _ _ ?_ (fun hHeld => ?_)); ((focus ((try dsimp only); (go_keep)))); (clear hK K); ((try simp only [Act.put, p1_, p2_, p3_])); (refine wpAnyH_done (by kernel_rfl) ?_ _)))); (rotate_left 1); (exact AllReadyH.nil)))); (rotate_left 1); (exact AllReadyH.nil)))); (rotate_left 1); (exact AllReadyH.nil)))); (rotate_left 1); (refine AllReadyH.cons (by simp only [e1_, e2_, e3_]; try rfl) ?_ ?_); ((focus ((intro K hK); (go_simp); ((refine (spec_MultiplyRatios m 1 x y _).mono ?_; rintro e w5 ⟨rfl, hb5⟩; unfold rV; have hsz_0 := hb5.size; (try simp at hsz_0); have hM_1 : BM w5 w.heap.size R C (some ⟨bm, om, none⟩) n cap := (Kb hM); have hS_1 : BQ w5 bS s.1 s.2 := (by (with_reducible (repeat (first | exact hS | refine Blk.new_at _ _ _ _ Ks | refine Blk.below ?_ (by assumption) Ks | apply Blk.drew | apply Blk.drewN | refine Blk.far ?_ (by simp only [ne_eq]; omega) _ | apply Blk.alloc)))); have hxi_1 : RI w5 w.heap.size (some ⟨bx, ox, none⟩) (nx * 2) qs := (Kr hxi); have hmi_1 : RI w5 w.heap.size (some ⟨bm, om, none⟩) n xs := (Kr hmi); have hbw_1 : Below w.heap.size w w5 := Kw; clear ma mb mc mf ml sa sb sf sl; clear hM hS hxi hmi hbw cx1 cx2 cm; have hM := hM_1; have hS := hS_1; have hxi := hxi_1; have hmi := hmi_1; have hbw := hbw_1; clear hM_1 hS_1 hxi_1 hmi_1 hbw_1; obtain ⟨ma, mb, mc, mf, ml⟩ := hM.mx; obtain ⟨sa, sb, sf, sl⟩ := hS.cells; have cx1 := hxi.at_ (k := k * 2) (by omega); have cx2 : World.cell? w5 ⟨bx, ox + k * 2 + 1, none⟩ = _ := hxi.at_ (k := k * 2 + 1) (by omega); rw [HX1.out] at cx1; rw [HX2.out] at cx2; have cm := hmi.at_ (k := i * C + k) (by omega); rw [← cel_nat, HX3.out, ← E1.out] at cm)); ((try go_wp2_with fail)); (refine hK.out _ _ ?_ (fun hHeld => ?_)); ((focus ((try dsimp only); (go_keep)))); (clear hK K); ((try simp only [Act.put, p1_, p2_, p3_])); (refine wpAnyH_ready (rs := [0]) (by kernel_rfl) (by simp) ?_); (refine AllReadyH.cons (by simp only [e1_, e2_, e3_]; try rfl) ?_ ?_); ((focus ((intro K hK); (go_simp); ((try go_wp2_with fail)); (refine hK.out _ _ ?_ (fun hHeld => ?_)); ((focus ((try dsimp only); (go_keep)))); (clear hK K); ((try simp only [Act.put, p1_, p2_, p3_])); (refine wpAnyH_ready (rs := [17]) (by kernel_rfl) (by simp) ?_); (refine AllReadyH.cons (by simp only [e1_, e2_, e3_]; try rfl) ?_ ?_); ((focus ((intro K hK); (go_simp); ((refine (spec_AddRatios s.1 s.2 _ _ _).mono ?_; rintro e w6 ⟨rfl, hb6⟩; unfold rV; have hsz_0 := hb6.size; (try simp at hsz_0); have hM_1 : BM w6 w.heap.size R C (some ⟨bm, om, none⟩) n cap := (Kb hM); have hS_1 : BQ w6 bS s.1 s.2 := (by (with_reducible (repeat (first | exact hS | refine Blk.new_at _ _ _ _ Ks | refine Blk.below ?_ (by assumption) Ks | apply Blk.drew | apply Blk.drewN | refine Blk.far ?_ (by simp only [ne_eq]; omega) _ | apply Blk.alloc)))); have hxi_1 : RI w6 w.heap.size (some ⟨bx, ox, none⟩) (nx * 2) qs := (Kr hxi); have hmi_1 : RI w6 w.heap.size (some ⟨bm, om, none⟩) n xs := (Kr hmi); have hbw_1 : Below w.heap.size w w6 := Kw; clear ma mb mc mf ml sa sb sf sl; clear hM hS hxi hmi hbw cx1 cx2 cm; have hM := hM_1; have hS := hS_1; have hxi := hxi_1; have hmi := hmi_1; have hbw := hbw_1; clear hM_1 hS_1 hxi_1 hmi_1 hbw_1; obtain ⟨ma, mb, mc, mf, ml⟩ := hM.mx; obtain ⟨sa, sb, sf, sl⟩ := hS.cells; have cx1 := hxi.at_ (k := k * 2) (by omega); have cx2 : World.cell? w6 ⟨bx, ox + k * 2 + 1, none⟩ = _ := hxi.at_ (k := k * 2 + 1) (by omega); rw [HX1.out] at cx1; rw [HX2.out] at cx2; have cm := hmi.at_ (k := i * C + k) (by omega); rw [← cel_nat, HX3.out, ← E1.out] at cm)); ((try go_wp2_with fail)); (refine hK.out _ _ ?_ (fun hHeld => ?_)); ((focus ((try dsimp only); (go_keep)))); (clear hK K); ((try simp only [Act.put, p1_, p2_, p3_])); (refine wpAnyH_ready (rs := [18]) (by kernel_rfl) (by simp) ?_); (refine AllReadyH.cons (by simp only [e1_, e2_, e3_]; try rfl) ?_ ?_); ((focus ((intro K hK); (go_simp); ((try go_wp2_with fail)); (refine hK.out _ _ ?_ (fun hHeld => ?_)); ((focus ((try dsimp only); (go_keep)))); (clear hK K); ((try simp only [Act.put, p1_, p2_, p3_])); (refine wpAnyH_done (by kernel_rfl) ?_ _)))); (rotate_left 1); (exact AllReadyH.nil)))); (rotate_left 1); (exact AllReadyH.nil)))); (rotate_left 1); (exact AllReadyH.nil)))); (rotate_left 1); (exact AllReadyH.nil))
            all_goals go_wp2_with fail
            all_goals go_roundw
            all_goals first
              | exact ⟨k + 1, by go_num, by omega, Kb hM, by rw [HSTEP.out, HS0.out, HX1.out, HX2.out, HX3.out]; exact BQ.put hS, Kw⟩
              | (simp only [intOf]; omega)
          · obtain rfl : k = C := by omega
            have hrow : ratRow xs k qs i = rsum (fun q => (cel xs k i q, 1)) (fl qs) k := rfl
            generalize rsum (fun q => (cel xs k i q, 1)) (fl qs) k = s at *
            obtain ⟨s1, s2⟩ := s
            obtain ⟨bb, ob, rfl, hbb, _⟩ := H3.out.2 (by omega)
            have hbi : RI wr w.heap.size (some ⟨bb, ob, none⟩) nb bs := Kr H3.out
            have cb := hbi.at_ (k := i) (by omega)
            have hin : i < nb := by omega
            obtain ⟨z, hz⟩ : ∃ z, bs.getD i 0 = z := ⟨_, rfl⟩
            have HZ := Lib.hid hz
            rw [hz] at cb
            clear hz
            obtain ⟨ma, mb, mc, mf, ml⟩ := hM.mx; obtain ⟨sa, sb, sf, sl⟩ := hS.cells
            simp only [] at sa sb
            by_cases hgood : (s1, s2) = (z, (1 : Int))
            · injection hgood with e1 e2
              subst e1; subst e2
              have HRN : Hid (ratRow xs k qs i = (bs.getD i 0, 1)) := Lib.hid (by rw [hrow, HZ.out])
              clear hrow
              go_wp2_with fail
              ((refine wp_region_held_drew (S := (fun w' => w'.cell? ⟨bS, 0, none⟩ = some (.int .i64 s1) ∧ w'.cell? ⟨bS, 1, none⟩ = some (.int .i64 1) ∧ w'.cell? ⟨bb, ob + i, none⟩ = some (.int .i64 s1))) (by kernel_rfl) ?_ (fun hHeld => ?_)); ((focus ((try dsimp only); (go_keep)))); ((refine tk_ (i := 0) (v := ?_) (y := Or.inl ⟨by rfl, ?_⟩) (h := ?_); rotate_left; (focus (((intro w hSw; (try dsimp only at hSw); go_simp) <;> (try with_reducible rfl)); done)); (try simp only [Act.put, p1_, p2_, p3_]))); ((refine tk_ (i := 1) (v := ?_) (y := Or.inl ⟨by rfl, ?_⟩) (h := ?_); rotate_left; (focus (((intro w hSw; (try dsimp only at hSw); go_simp) <;> (try with_reducible rfl)); done)); (try simp only [Act.put, p1_, p2_, p3_]))); ((refine tk_ (i := 2) (v := ?_) (y := Or.inl ⟨by rfl, ?_⟩) (h := ?_); rotate_left; (focus (((intro w hSw; (try dsimp only at hSw); go_simp) <;> (try with_reducible rfl)); done)); (try simp only [Act.put, p1_, p2_, p3_]))); ((refine tk_ (i := 3) (v := ?_) (y := Or.inl ⟨by rfl, ?_⟩) (h := ?_); rotate_left; (focus (((intro w hSw; (try dsimp only at hSw); go_simp) <;> (try with_reducible rfl)); done)); (try simp only [Act.put, p1_, p2_, p3_]))); ((refine tk_ (i := 4) (v := ?_) (y := Or.inl ⟨by rfl, ?_⟩) (h := ?_); rotate_left; (focus (((intro w hSw; (try dsimp only at hSw); go_simp) <;> (try with_reducible rfl)); done)); (try simp only [Act.put, p1_, p2_, p3_]))); ((refine tk_ (i := 5) (v := ?_) (y := Or.inl ⟨by rfl, ?_⟩) (h := ?_); rotate_left; (focus (((intro w hSw; (try dsimp only at hSw); go_simp) <;> (try with_reducible rfl)); done)); (try simp only [Act.put, p1_, p2_, p3_]))); ((refine tk_ (i := 6) (v := ?_) (y := Or.inl ⟨by rfl, ?_⟩) (h := ?_); rotate_left; (focus (((intro w hSw; (try dsimp only at hSw); go_simp) <;> (try with_reducible rfl)); done)); (try simp only [Act.put, p1_, p2_, p3_]))); ((refine tk_ (i := 7) (v := ?_) (y := Or.inl ⟨by rfl, ?_⟩) (h := ?_); rotate_left; (focus (((intro w hSw; (try dsimp only at hSw); go_simp) <;> (try with_reducible rfl)); done)); (try simp only [Act.put, p1_, p2_, p3_]))); ((refine tk_ (i := 8) (v := ?_) (y := Or.inl ⟨by rfl, ?_⟩) (h := ?_); rotate_left; (focus (((intro w hSw; (try dsimp only at hSw); go_simp) <;> (try with_reducible rfl)); done)); (try simp only [Act.put, p1_, p2_, p3_]))); ((refine tk_ (i := 9) (v := ?_) (y := Or.inl ⟨by rfl, ?_⟩) (h := ?_); rotate_left; (focus (((intro w hSw; (try dsimp only at hSw); go_simp) <;> (try with_reducible rfl)); done)); (try simp only [Act.put, p1_, p2_, p3_]))); ((refine tk_ (i := 10) (v := ?_) (y := Or.inl ⟨by rfl, ?_⟩) (h := ?_); rotate_left; (focus (((intro w hSw; (try dsimp only at hSw); go_simp) <;> (try with_reducible rfl)); done)); (try simp only [Act.put, p1_, p2_, p3_]))); ((refine tk_ (i := 11) (v := ?_) (y := Or.inl ⟨by rfl, ?_⟩) (h := ?_); rotate_left; (focus (((intro w hSw; (try dsimp only at hSw); go_simp) <;> (try with_reducible rfl)); done)); (try simp only [Act.put, p1_, p2_, p3_]))); (refine wpAnyH_done (by kernel_rfl) ?_ _))
              go_wp2_with fail
              go_roundw
              case rel => exact ⟨i + 1, by go_num, by omega, (fun j hj => by
                rcases Nat.lt_or_ge j i with h1 | h1
                · exact HRW.out j h1
                · obtain rfl : j = i := by omega
                  exact HRN.out), Kb hM, Kw⟩
              case measure => simp only [intOf]; omega
            · have hvv : vb = false := by
                rw [HV.out]
                exact ratRows_no hiR (by rw [hrow, HZ.out]; exact hgood)
              have HVV := Lib.hid hvv
              clear hvv hrow
              by_cases h2 : s2 = 1
              · subst h2
                have h1 : ¬ s1 = z := fun e => hgood (by rw [e])
                clear hgood
                go_wp2_with fail
                ((refine wp_region_held_drew (S := (fun w' => w'.cell? ⟨bS, 0, none⟩ = some (.int .i64 s1) ∧ w'.cell? ⟨bS, 1, none⟩ = some (.int .i64 1) ∧ w'.cell? ⟨bb, ob + i, none⟩ = some (.int .i64 z))) (by kernel_rfl) ?_ (fun hHeld => ?_)); ((focus ((try dsimp only); (go_keep)))); ((refine tk_ (i := 0) (v := ?_) (y := Or.inl ⟨by rfl, ?_⟩) (h := ?_); rotate_left; (focus (((intro w hSw; (try dsimp only at hSw); go_simp) <;> (try with_reducible rfl)); done)); (try simp only [Act.put, p1_, p2_, p3_]))); ((refine tk_ (i := 1) (v := ?_) (y := Or.inl ⟨by rfl, ?_⟩) (h := ?_); rotate_left; (focus (((intro w hSw; (try dsimp only at hSw); go_simp) <;> (try with_reducible rfl)); done)); (try simp only [Act.put, p1_, p2_, p3_]))); ((refine tk_ (i := 2) (v := ?_) (y := Or.inl ⟨by rfl, ?_⟩) (h := ?_); rotate_left; (focus (((intro w hSw; (try dsimp only at hSw); go_simp) <;> (try with_reducible rfl)); done)); (try simp only [Act.put, p1_, p2_, p3_]))); ((refine tk_ (i := 3) (v := ?_) (y := Or.inl ⟨by rfl, ?_⟩) (h := ?_); rotate_left; (focus (((intro w hSw; (try dsimp only at hSw); go_simp) <;> (try with_reducible rfl)); done)); (try simp only [Act.put, p1_, p2_, p3_]))); ((refine tk_ (i := 4) (v := ?_) (y := Or.inl ⟨by rfl, ?_⟩) (h := ?_); rotate_left; (focus (((intro w hSw; (try dsimp only at hSw); go_simp) <;> (try with_reducible rfl)); done)); (try simp only [Act.put, p1_, p2_, p3_]))); ((refine tk_ (i := 5) (v := ?_) (y := Or.inl ⟨by rfl, ?_⟩) (h := ?_); rotate_left; (focus (((intro w hSw; (try dsimp only at hSw); go_simp) <;> (try with_reducible rfl)); done)); (try simp only [Act.put, p1_, p2_, p3_]))); ((refine tk_ (i := 6) (v := ?_) (y := Or.inl ⟨by rfl, ?_⟩) (h := ?_); rotate_left; (focus (((intro w hSw; (try dsimp only at hSw); go_simp) <;> (try with_reducible rfl)); done)); (try simp only [Act.put, p1_, p2_, p3_]))); ((refine tk_ (i := 7) (v := ?_) (y := Or.inl ⟨by rfl, ?_⟩) (h := ?_); rotate_left; (focus (((intro w hSw; (try dsimp only at hSw); go_simp) <;> (try with_reducible rfl)); done)); (try simp only [Act.put, p1_, p2_, p3_]))); ((refine tk_ (i := 8) (v := ?_) (y := Or.inl ⟨by rfl, ?_⟩) (h := ?_); rotate_left; (focus (((intro w hSw; (try dsimp only at hSw); go_simp) <;> (try with_reducible rfl)); done)); (try simp only [Act.put, p1_, p2_, p3_]))); ((refine tk_ (i := 9) (v := ?_) (y := Or.inl ⟨by rfl, ?_⟩) (h := ?_); rotate_left; (focus (((intro w hSw; (try dsimp only at hSw); go_simp) <;> (try with_reducible rfl)); done)); (try simp only [Act.put, p1_, p2_, p3_]))); ((refine tk_ (i := 10) (v := ?_) (y := Or.inl ⟨by rfl, ?_⟩) (h := ?_); rotate_left; (focus (((intro w hSw; (try dsimp only at hSw); go_simp) <;> (try with_reducible rfl)); done)); (try simp only [Act.put, p1_, p2_, p3_]))); ((refine tk_ (i := 11) (v := ?_) (y := Or.inl ⟨by rfl, ?_⟩) (h := ?_); rotate_left; (focus (((intro w hSw; (try dsimp only at hSw); go_simp) <;> (try with_reducible rfl)); done)); (try simp only [Act.put, p1_, p2_, p3_]))); (refine wpAnyH_done (by kernel_rfl) ?_ _))
                go_wp2_with fail
                go_ret
                exact BV.mk (vbool HVV.out.symm) Kw
              · have hb2 : (s2 != 1) = true := by simpa using h2
                clear hgood
                go_wp2_with fail
                ((refine wp_region_held_drew (S := (fun w' => w'.cell? ⟨bS, 0, none⟩ = some (.int .i64 s1) ∧ w'.cell? ⟨bS, 1, none⟩ = some (.int .i64 s2) ∧ w'.cell? ⟨bb, ob + i, none⟩ = some (.int .i64 z))) (by kernel_rfl) ?_ (fun hHeld => ?_)); ((focus ((try dsimp only); (go_keep)))); ((refine tk_ (i := 0) (v := ?_) (y := Or.inl ⟨by rfl, ?_⟩) (h := ?_); rotate_left; (focus (((intro w hSw; (try dsimp only at hSw); go_simp) <;> (try with_reducible rfl)); done)); (try simp only [Act.put, p1_, p2_, p3_]))); ((refine tk_ (i := 1) (v := ?_) (y := Or.inl ⟨by rfl, ?_⟩) (h := ?_); rotate_left; (focus (((intro w hSw; (try dsimp only at hSw); go_simp) <;> (try with_reducible rfl)); done)); (try simp only [Act.put, p1_, p2_, p3_]))); ((refine tk_ (i := 2) (v := ?_) (y := Or.inl ⟨by rfl, ?_⟩) (h := ?_); rotate_left; (focus (((intro w hSw; (try dsimp only at hSw); go_simp) <;> (try with_reducible rfl)); done)); (try simp only [Act.put, p1_, p2_, p3_]))); ((refine tk_ (i := 3) (v := ?_) (y := Or.inl ⟨by rfl, ?_⟩) (h := ?_); rotate_left; (focus (((intro w hSw; (try dsimp only at hSw); go_simp) <;> (try with_reducible rfl)); done)); (try simp only [Act.put, p1_, p2_, p3_]))); ((refine wpAnyH_take (i := 4) (by simp only [e1_, e2_, e3_]; try rfl) (by kernel_rfl) (by kernel_rfl) (by kernel_rfl) (by exact fun _ _ _ h => h) (Or.inr ⟨by rfl, rfl⟩) (by assumption) ?_; (try simp only [Act.put, p1_, p2_, p3_]))); ((refine wpAnyH_take (i := 5) (by simp only [e1_, e2_, e3_]; try rfl) (by kernel_rfl) (by kernel_rfl) (by kernel_rfl) (by exact fun _ _ _ h => h) (Or.inr ⟨by rfl, rfl⟩) (by assumption) ?_; (try simp only [Act.put, p1_, p2_, p3_]))); ((refine wpAnyH_take (i := 6) (by simp only [e1_, e2_, e3_]; try rfl) (by kernel_rfl) (by kernel_rfl) (by kernel_rfl) (by exact fun _ _ _ h => h) (Or.inr ⟨by rfl, rfl⟩) (by assumption) ?_; (try simp only [Act.put, p1_, p2_, p3_]))); ((refine wpAnyH_take (i := 7) (by simp only [e1_, e2_, e3_]; try rfl) (by kernel_rfl) (by kernel_rfl) (by kernel_rfl) (by exact fun _ _ _ h => h) (Or.inr ⟨by rfl, rfl⟩) (by assumption) ?_; (try simp only [Act.put, p1_, p2_, p3_]))); ((refine wpAnyH_take (i := 8) (by simp only [e1_, e2_, e3_]; try rfl) (by kernel_rfl) (by kernel_rfl) (by kernel_rfl) (by exact fun _ _ _ h => h) (Or.inr ⟨by rfl, rfl⟩) (by assumption) ?_; (try simp only [Act.put, p1_, p2_, p3_]))); ((refine wpAnyH_take (i := 9) (by simp only [e1_, e2_, e3_]; try rfl) (by kernel_rfl) (by kernel_rfl) (by kernel_rfl) (by exact fun _ _ _ h => h) (Or.inr ⟨by rfl, rfl⟩) (by assumption) ?_; (try simp only [Act.put, p1_, p2_, p3_]))); ((refine wpAnyH_take (i := 10) (by simp only [e1_, e2_, e3_]; try rfl) (by kernel_rfl) (by kernel_rfl) (by kernel_rfl) (by exact fun _ _ _ h => h) (Or.inr ⟨by rfl, rfl⟩) (by assumption) ?_; (try simp only [Act.put, p1_, p2_, p3_]))); ((refine tk_ (i := 11) (v := ?_) (y := Or.inl ⟨by rfl, ?_⟩) (h := ?_); rotate_left; (focus (((intro w hSw; (try dsimp only at hSw); go_simp) <;> (try with_reducible rfl)); done)); (try simp only [Act.put, p1_, p2_, p3_]))); (refine wpAnyH_done (by kernel_rfl) ?_ _))
                go_wp2_with fail
                go_ret
                exact BV.mk (vbool HVV.out.symm) Kw
      · obtain rfl : i = R := by omega
        have hvv : vb = true := by rw [HV.out]; exact ratRows_yes HRW.out
        have HVV := Lib.hid hvv
        clear hvv
        go_wp2_with fail
        go_ret
        exact BV.mk (vbool HVV.out.symm) Kw
end Go.Proofs.Ytlggfmfelakadaa

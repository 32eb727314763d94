/-
  DERIVED. IsRefutation of the reference.
-/
import Derived.Test.YtacjonkehcamgaaY4
namespace Go.Proofs.Ytacjonkehcamgaa
open Go.RowKit
set_option linter.unusedVariables false
set_option linter.unusedSimpArgs false
theorem BQ.put0 {w : World} {b : Nat} {n d n' : Int} (h : BQ w b n d) : BQ (w.setCell ⟨b, 0, none⟩ (.int .i64 n')) b n' d := (Blk.set_ h 0 (.int .i64 n')).as rfl
/-- Column j, or the right side for j = C. -/
def refF (xs : List Int) (C : Nat) (bs : List Int) (j : Nat) : Nat → Int × Int := fun k => ((if j < C then cel xs C k j else bs.getD k 0), 1)
theorem refF_col {xs : List Int} {R C : Nat} {bs qs : List Int} {j : Nat} (hj : j < C) : rsum (refF xs C bs j) (fl qs) R = refCol xs R C qs j := by
  unfold refCol
  apply rsum_congr
  intro k hk
  unfold refF
  rw [if_pos hj]
theorem refF_end {xs : List Int} {R C : Nat} {bs qs : List Int} : rsum (refF xs C bs C) (fl qs) R = refEnd R bs qs := by
  unfold refEnd
  apply rsum_congr
  intro k hk
  unfold refF
  rw [if_neg (by omega)]
theorem refP_all {xs : List Int} {R C : Nat} {bs qs : List Int} (h : ∀ j, j < C → (refCol xs R C qs j).2 = 1) (h1 : ¬ (refEnd R bs qs).2 = 0) (h2 : ¬ (refEnd R bs qs).2 = 1) : refP xs R C bs qs = true := by
  rw [refP_yes h, decide_eq_true h1, decide_eq_true h2]; rfl
theorem refP_end {xs : List Int} {R C : Nat} {bs qs : List Int} (h1 : (refEnd R bs qs).2 = 0 ∨ (refEnd R bs qs).2 = 1) : refP xs R C bs qs = false := by
  unfold refP
  rcases h1 with h1 | h1
  · rw [h1]; simp
  · rw [h1]; simp
set_option maxRecDepth 100000 in
set_option maxHeartbeats 8000000 in
theorem spec_IsRefutation (r c : Int) (A Ab Ax : Option Addr) (n cap nb capb nx capx : Nat) (xs bs qs : List Int) (w : World) {B B' B'' : Nat} (h : RI w B A n xs) (hb : RI w B' Ab nb bs) (hx : RI w B'' Ax (nx * 2) qs) (hB : B ≤ w.heap.size) (hB' : B' ≤ w.heap.size) (hB'' : B'' ≤ w.heap.size) (hn : n ≤ 1048576) (hnb : nb ≤ 1048576) (hnx : nx ≤ 1048576) :
    Calls Try.prog 20 #[.agg #[.int .i64 r, .int .i64 c, .slice A n cap], .slice Ab nb capb, .slice Ax nx capx] w (BV (.bool (refB r c xs bs qs)) w) := by
  have hlb := hb.len
  have hlx := hx.len
  have H2 := Lib.hid (h.more hB)
  have H3 := Lib.hid (hb.more hB')
  have H4 := Lib.hid (hx.more hB'')
  have hln := h.len
  clear h hb hx
  rcases ref_cases r c xs bs qs with ⟨hm, hv⟩ | ⟨hm, hl, hv⟩ | ⟨hm, hl, hq, hv⟩ | ⟨hm, hl, hq, hv⟩
  · rw [hv]
    have HM := Lib.hid hm
    clear hm hv hlb hlx hln
    go_enter Try.func20, Try.ntmps20
    go_wp2_with fail
    refine (spec_IsMatrix r c A n cap xs _ (C := w.heap.size) (Kr H2.out) Ks hn).mono ?_; rw [HM.out]; rintro e w1 ⟨rfl, hb1⟩; have hsz1 := hb1.size; simp at hsz1; have hM : BM w1 w.heap.size r c A n cap := Ka; have hbw : Below w.heap.size w w1 := Kw; obtain ⟨ma, mb, mc, mf, ml⟩ := hM.mx
    go_wp2_with fail
    go_ret
    exact BV.mk rfl Kw
  · rw [hv]
    have HM := Lib.hid hm
    rw [hlb] at hl
    clear hm hv hlb hlx hln
    go_enter Try.func20, Try.ntmps20
    go_wp2_with fail
    refine (spec_IsMatrix r c A n cap xs _ (C := w.heap.size) (Kr H2.out) Ks hn).mono ?_; rw [HM.out]; rintro e w1 ⟨rfl, hb1⟩; have hsz1 := hb1.size; simp at hsz1; have hM : BM w1 w.heap.size r c A n cap := Ka; have hbw : Below w.heap.size w w1 := Kw; obtain ⟨ma, mb, mc, mf, ml⟩ := hM.mx
    go_wp2_with fail
    go_ret
    exact BV.mk rfl Kw
  · rw [hv]
    have HM := Lib.hid hm
    rw [hlb] at hl
    have hq2 : ((nx : Int) != r) = true := by simp; omega
    clear hm hv hlb hlx hq hln
    go_enter Try.func20, Try.ntmps20
    go_wp2_with fail
    refine (spec_IsMatrix r c A n cap xs _ (C := w.heap.size) (Kr H2.out) Ks hn).mono ?_; rw [HM.out]; rintro e w1 ⟨rfl, hb1⟩; have hsz1 := hb1.size; simp at hsz1; have hM : BM w1 w.heap.size r c A n cap := Ka; have hbw : Below w.heap.size w w1 := Kw; obtain ⟨ma, mb, mc, mf, ml⟩ := hM.mx
    go_wp2_with fail
    go_ret
    exact BV.mk rfl Kw
  · have HV := Lib.hid hv
    have HM := Lib.hid hm
    have M := isMat_iff.1 hm
    have hr1 := M.r1
    have hc1 := M.c1
    have hMl := M.len
    obtain ⟨R, rfl⟩ := nat_of M.r0
    obtain ⟨C, rfl⟩ := nat_of M.c0
    rw [hlb] at hl
    have hq2 : ((nx : Int) != (R : Int)) = false := by simp; omega
    have hnR : nb ≤ R ∧ R ≤ nb := by have := (bne_eq_false_iff_eq).1 hl; omega
    have hnC : nx ≤ R ∧ R ≤ nx := by omega
    have hln2 : R * C ≤ n ∧ n ≤ R * C := by rw [← Int.natCast_mul] at hMl; omega
    have hRC : R * C ≤ 24 * 24 := Nat.mul_le_mul (by omega) (by omega)
    simp only [Int.toNat_natCast] at HV
    clear hm hv hlb hlx hq hln M hMl
    generalize refB (R : Int) (C : Int) xs bs qs = vb at *
    go_enter Try.func20, Try.ntmps20
    go_wp2_with fail
    refine (spec_IsMatrix R C A n cap xs _ (C := w.heap.size) (Kr H2.out) Ks hn).mono ?_; rw [HM.out]; rintro e w1 ⟨rfl, hb1⟩; have hsz1 := hb1.size; simp at hsz1; have hM : BM w1 w.heap.size R C A n cap := Ka; have hbw : Below w.heap.size w w1 := Kw; obtain ⟨ma, mb, mc, mf, ml⟩ := hM.mx
    clear hb1
    go_wp2_with fail
    go_loopw [7] (fun v wr => ∃ j : Nat, v = .int .i64 j ∧ j ≤ C + 1 ∧ (∀ q, q < j → q < C → (refCol xs R C qs q).2 = 1) ∧ (C < j → ¬ (refEnd R bs qs).2 = 0 ∧ ¬ (refEnd R bs qs).2 = 1) ∧ BM wr w.heap.size R C A n cap ∧ Below w.heap.size w wr) (fun v _ => C + 1 - (intOf v).toNat)
    case atStart => exact ⟨0, rfl, Nat.zero_le _, (fun q hq => absurd hq (by omega)), (fun h => absurd h (by omega)), hM, hbw⟩
    case round =>
      clear hM hbw ma mb mc mf ml
      obtain ⟨j, rfl, hj, hco0, hen0, hM, hbw⟩ := hrel
      have HCO := Lib.hid hco0
      have HEN := Lib.hid hen0
      clear hco0 hen0
      have hszr := hbw.size
      obtain ⟨ma, mb, mc, mf, ml⟩ := hM.mx
      by_cases hjC : j ≤ C
      · have hMA : BM (wr.alloc (.cells #[.int .i64 0, .int .i64 1] 92)) w.heap.size R C A n cap := Kb hM
        have hS : BQ (wr.alloc (.cells #[.int .i64 0, .int .i64 1] 92)) wr.heap.size (rsum (refF xs C bs j) (fl qs) 0).1 (rsum (refF xs C bs j) (fl qs) 0).2 := by
          show BQ _ wr.heap.size 0 1
          (with_reducible (repeat (first | assumption | refine Blk.new_at _ _ _ _ Ks | refine Blk.below ?_ (by assumption) Ks | apply Blk.drew | apply Blk.drewN | refine Blk.far ?_ (by simp only [ne_eq]; omega) _ | apply Blk.alloc)))
        have hbwA : Below w.heap.size w (wr.alloc (.cells #[.int .i64 0, .int .i64 1] 92)) := Kw
        have hlM := hM.lt
        go_wp2_with fail
        generalize hbS : wr.heap.size = bS at *
        generalize hwo : wr.alloc (.cells #[.int .i64 0, .int .i64 1] 92) = wo at *
        clear hwo ma mb mc mf ml hM hbw
        have hM := hMA
        have hbw := hbwA
        clear hMA hbwA
        go_loopw [9] (fun v wr => ∃ k : Nat, v = .int .i64 k ∧ k ≤ R ∧ BM wr w.heap.size R C A n cap ∧ BQ wr bS (rsum (refF xs C bs j) (fl qs) k).1 (rsum (refF xs C bs j) (fl qs) k).2 ∧ Below w.heap.size w wr) (fun v _ => R - (intOf v).toNat)
        case atStart => exact ⟨0, rfl, Nat.zero_le _, hM, hS, hbw⟩
        case round =>
          clear hM hS hbw
          obtain ⟨k, rfl, hk, hM, hS, hbw⟩ := hrel
          by_cases hkR : k < R
          · obtain ⟨bx, ox, rfl, hbx, _⟩ := H4.out.2 (by omega)
            obtain ⟨bb, ob, rfl, hbb, _⟩ := H3.out.2 (by omega)
            have hxi : RI wr w.heap.size (some ⟨bx, ox, none⟩) (nx * 2) qs := Kr H4.out
            have hbi : RI wr w.heap.size (some ⟨bb, ob, none⟩) nb bs := Kr H3.out
            have cb := hbi.at_ (k := k) (by omega)
            have hstep : rsum (refF xs C bs j) (fl qs) (k + 1) = addR (rsum (refF xs C bs j) (fl qs) k) (mulR ((if j < C then cel xs C k j else bs.getD k 0), 1) (qs.getD (k * 2) 0, qs.getD (k * 2 + 1) 0)) := rfl
            have HSTEP := Lib.hid hstep
            obtain ⟨x, hx⟩ : ∃ x, qs.getD (k * 2) 0 = x := ⟨_, rfl⟩
            obtain ⟨y, hy⟩ : ∃ y, qs.getD (k * 2 + 1) 0 = y := ⟨_, rfl⟩
            have HX1 := Lib.hid hx
            have HX2 := Lib.hid hy
            clear hstep hx hy
            obtain ⟨s, hs⟩ : ∃ s, rsum (refF xs C bs j) (fl qs) k = s := ⟨_, rfl⟩
            have HS0 := Lib.hid hs
            rw [hs] at hS
            clear hs
            have hkn : k < nb := by omega
            have hkx : k < nx := by omega
            have hszk := hbw.size
            have hlS := (hS.cells).2.2.2
            obtain ⟨ma, mb, mc, mf, ml⟩ := hM.mx
            by_cases hjlt : j < C
            · have hix := idx_nat hkR hjlt
              have i1 : (k : Int) * (C : Int) = ((k * C : Nat) : Int) := by rw [Int.natCast_mul]
              have i2 : 0 ≤ (k : Int) * (C : Int) ∧ (k : Int) * (C : Int) ≤ 10000 := by omega
              have i3 : (k : Int) * (C : Int) + (j : Int) < (n : Int) := by omega
              obtain ⟨v, hv⟩ : ∃ v, cel xs C k j = v := ⟨_, rfl⟩
              have HCV := Lib.hid hv
              have HVV : Hid ((if j < C then cel xs C k j else bs.getD k 0) = v) := Lib.hid (by rw [if_pos hjlt]; exact hv)
              clear hv i1 hix
              generalize bs.getD k 0 = z at cb
              go_wp2_with fail
              refine (spec_l12Cell R C k j A n cap xs _ (C := w.heap.size) (Kr H2.out) Ks i2 ⟨by omega, by omega⟩ i3).mono ?_
              rw [HCV.out]
              rintro e w3 ⟨rfl, hb3⟩
              have hsz3 := hb3.size
              simp at hsz3
              have hM3 : BM w3 w.heap.size R C A n cap := Kb hM
              have hS3 : BQ w3 bS s.1 s.2 := by (with_reducible (repeat (first | exact hS | refine Blk.new_at _ _ _ _ Ks | refine Blk.below ?_ (by assumption) Ks | apply Blk.drew | apply Blk.drewN | refine Blk.far ?_ (by simp only [ne_eq]; omega) _ | apply Blk.alloc)))
              have hX3 : BQ w3 wr.heap.size z 1 := by (with_reducible (repeat (first | assumption | refine Blk.new_at _ _ _ _ Ks | refine Blk.below ?_ (by assumption) Ks | apply Blk.drew | apply Blk.drewN | refine Blk.far ?_ (by simp only [ne_eq]; omega) _ | apply Blk.alloc)))
              have hxi3 : RI w3 w.heap.size (some ⟨bx, ox, none⟩) (nx * 2) qs := Kr hxi
              have hbw3 : Below w.heap.size w w3 := Kw
              generalize hbX : wr.heap.size = bX at *
              clear hM hS hxi hbi hbw cb ma mb mc mf ml hb3
              obtain ⟨xa, xb, xf, xl⟩ := hX3.cells
              have hS : BQ (w3.setCell ⟨bX, 0, none⟩ (.int .i64 v)) bS s.1 s.2 := Blk.far (p := ⟨bX, 0, none⟩) hS3 (show bS ≠ bX by omega) (.int .i64 v)
              have hM : BM (w3.setCell ⟨bX, 0, none⟩ (.int .i64 v)) w.heap.size R C A n cap := BX.far (p := ⟨bX, 0, none⟩) hM3 (show w.heap.size ≠ bX by omega) (.int .i64 v)
              have hX := BQ.put0 (n' := v) hX3
              have hxi := RI.setCell (p := ⟨bX, 0, none⟩) hxi3 (show w.heap.size ≤ bX by omega) (.int .i64 v)
              have hbw : Below w.heap.size w (w3.setCell ⟨bX, 0, none⟩ (.int .i64 v)) := Below.setCell hbw3 (p := ⟨bX, 0, none⟩) (show w.heap.size ≤ bX by omega) (.int .i64 v)
              have cx1 := hxi.at_ (k := k * 2) (by omega)
              have cx2 : World.cell? _ ⟨bx, ox + k * 2 + 1, none⟩ = _ := hxi.at_ (k := k * 2 + 1) (by omega)
              rw [HX1.out] at cx1
              rw [HX2.out] at cx2
              go_wp2_with fail
              clear xa xb xf xl hX3 hS3 hM3 hxi3 hbw3
              generalize w3.setCell ⟨bX, 0, none⟩ (.int .i64 v) = wq at *
              have hlM := hM.lt
              have hlX := (hX.cells).2.2.2
              have hne1 : bS ≠ bX := by omega
              have hne2 : bS ≠ bx := by omega
              obtain ⟨ma, mb, mc, mf, ml⟩ := hM.mx; obtain ⟨sa, sb, sf, sl⟩ := hS.cells; obtain ⟨xa, xb, xf, xl⟩ := hX.cells
              go_wp2_with fail
              ((refine wp_region_held_drew (S := (fun w' => w'.cell? ⟨bX, 0, none⟩ = some (.int .i64 v) ∧ w'.cell? ⟨bX, 1, none⟩ = some (.int .i64 1) ∧ w'.cell? ⟨bx, ox + k * 2, none⟩ = some (.int .i64 x) ∧ w'.cell? ⟨bx, ox + k * 2 + 1, none⟩ = some (.int .i64 y))) (by kernel_rfl) ?_ (fun hHeld => ?_)); ((focus ((try dsimp only); (go_keep)))); ((refine tk_ (i := 1) (v := ?_) (y := Or.inl ⟨by rfl, ?_⟩) (h := ?_); rotate_left; (focus (((intro w hSw; (try dsimp only at hSw); go_simp) <;> (try with_reducible rfl)); done)); (try simp only [Act.put, p1_, p2_, p3_]))); ((refine tk_ (i := 2) (v := ?_) (y := Or.inl ⟨by rfl, ?_⟩) (h := ?_); rotate_left; (focus (((intro w hSw; (try dsimp only at hSw); go_simp) <;> (try with_reducible rfl)); done)); (try simp only [Act.put, p1_, p2_, p3_]))); ((refine tk_ (i := 3) (v := ?_) (y := Or.inl ⟨by rfl, ?_⟩) (h := ?_); rotate_left; (focus (((intro w hSw; (try dsimp only at hSw); go_simp) <;> (try with_reducible rfl)); done)); (try simp only [Act.put, p1_, p2_, p3_]))); ((refine tk_ (i := 4) (v := ?_) (y := Or.inl ⟨by rfl, ?_⟩) (h := ?_); rotate_left; (focus (((intro w hSw; (try dsimp only at hSw); go_simp) <;> (try with_reducible rfl)); done)); (try simp only [Act.put, p1_, p2_, p3_]))); ((refine tk_ (i := 5) (v := ?_) (y := Or.inl ⟨by rfl, ?_⟩) (h := ?_); rotate_left; (focus (((intro w hSw; (try dsimp only at hSw); go_simp) <;> (try with_reducible rfl)); done)); (try simp only [Act.put, p1_, p2_, p3_]))); (refine wpAnyH_ready (rs := [0, 6]) (by kernel_rfl) (by simp) ?_); (refine AllReadyH.cons (by simp only [e1_, e2_, e3_]; try rfl) ?_ ?_); ((focus ((intro K hK); (go_simp); ((try go_wp2_with fail)); (refine hK.out _ _ ?_ (fun hHeld => ?_)); ((focus ((try dsimp only); (go_keep)))); (clear hK K); ((try simp only [Act.put, p1_, p2_, p3_])); (refine wpAnyH_ready (rs := [6]) (by kernel_rfl) (by simp) ?_); (refine AllReadyH.cons (by simp only [e1_, e2_, e3_]; try rfl) ?_ ?_); ((focus ((intro K hK); (go_simp); ((refine (spec_MultiplyRatios v 1 x y _).mono ?_; rintro e w5 ⟨rfl, hb5⟩; unfold rV; have hsz_0 := hb5.size; (try simp at hsz_0); have hM_1 : BM w5 w.heap.size R C A n cap := (Kb hM); have hS_1 : BQ w5 bS s.1 s.2 := (by (with_reducible (repeat (first | exact hS | refine Blk.new_at _ _ _ _ Ks | refine Blk.below ?_ (by assumption) Ks | apply Blk.drew | apply Blk.drewN | refine Blk.far ?_ (by simp only [ne_eq]; omega) _ | apply Blk.alloc)))); have hX_1 : BQ w5 bX v 1 := (by (with_reducible (repeat (first | exact hX | refine Blk.new_at _ _ _ _ Ks | refine Blk.below ?_ (by assumption) Ks | apply Blk.drew | apply Blk.drewN | refine Blk.far ?_ (by simp only [ne_eq]; omega) _ | apply Blk.alloc)))); have hxi_1 : RI w5 w.heap.size (some ⟨bx, ox, none⟩) (nx * 2) qs := (Kr hxi); have hbw_1 : Below w.heap.size w w5 := Kw; clear ma mb mc mf ml sa sb sf sl xa xb xf xl; clear hM hS hX hxi hbw cx1 cx2; have hM := hM_1; have hS := hS_1; have hX := hX_1; have hxi := hxi_1; have hbw := hbw_1; clear hM_1 hS_1 hX_1 hxi_1 hbw_1; obtain ⟨ma, mb, mc, mf, ml⟩ := hM.mx; obtain ⟨sa, sb, sf, sl⟩ := hS.cells; obtain ⟨xa, xb, xf, xl⟩ := hX.cells; have cx1 := hxi.at_ (k := k * 2) (by omega); have cx2 : World.cell? w5 ⟨bx, ox + k * 2 + 1, none⟩ = _ := hxi.at_ (k := k * 2 + 1) (by omega); rw [HX1.out] at cx1; rw [HX2.out] at cx2)); ((try go_wp2_with fail)); (refine hK.out _ _ ?_ (fun hHeld => ?_)); ((focus ((try dsimp only); (go_keep)))); (clear hK K); ((try simp only [Act.put, p1_, p2_, p3_])); (refine wpAnyH_ready (rs := [7]) (by kernel_rfl) (by simp) ?_); (refine AllReadyH.cons (by simp only [e1_, e2_, e3_]; try rfl) ?_ ?_); ((focus ((intro K hK); (go_simp); ((refine (spec_AddRatios s.1 s.2 _ _ _).mono ?_; rintro e w6 ⟨rfl, hb6⟩; unfold rV; have hsz_0 := hb6.size; (try simp at hsz_0); have hM_1 : BM w6 w.heap.size R C A n cap := (Kb hM); have hS_1 : BQ w6 bS s.1 s.2 := (by (with_reducible (repeat (first | exact hS | refine Blk.new_at _ _ _ _ Ks | refine Blk.below ?_ (by assumption) Ks | apply Blk.drew | apply Blk.drewN | refine Blk.far ?_ (by simp only [ne_eq]; omega) _ | apply Blk.alloc)))); have hX_1 : BQ w6 bX v 1 := (by (with_reducible (repeat (first | exact hX | refine Blk.new_at _ _ _ _ Ks | refine Blk.below ?_ (by assumption) Ks | apply Blk.drew | apply Blk.drewN | refine Blk.far ?_ (by simp only [ne_eq]; omega) _ | apply Blk.alloc)))); have hxi_1 : RI w6 w.heap.size (some ⟨bx, ox, none⟩) (nx * 2) qs := (Kr hxi); have hbw_1 : Below w.heap.size w w6 := Kw; clear ma mb mc mf ml sa sb sf sl xa xb xf xl; clear hM hS hX hxi hbw cx1 cx2; have hM := hM_1; have hS := hS_1; have hX := hX_1; have hxi := hxi_1; have hbw := hbw_1; clear hM_1 hS_1 hX_1 hxi_1 hbw_1; obtain ⟨ma, mb, mc, mf, ml⟩ := hM.mx; obtain ⟨sa, sb, sf, sl⟩ := hS.cells; obtain ⟨xa, xb, xf, xl⟩ := hX.cells; have cx1 := hxi.at_ (k := k * 2) (by omega); have cx2 : World.cell? w6 ⟨bx, ox + k * 2 + 1, none⟩ = _ := hxi.at_ (k := k * 2 + 1) (by omega); rw [HX1.out] at cx1; rw [HX2.out] at cx2)); ((try go_wp2_with fail)); (refine hK.out _ _ ?_ (fun hHeld => ?_)); ((focus ((try dsimp only); (go_keep)))); (clear hK K); ((try simp only [Act.put, p1_, p2_, p3_])); (refine wpAnyH_ready (rs := [8]) (by kernel_rfl) (by simp) ?_); (refine AllReadyH.cons (by simp only [e1_, e2_, e3_]; try rfl) ?_ ?_); ((focus ((intro K hK); (go_simp); ((try go_wp2_with fail)); (refine hK.out _ _ ?_ (fun hHeld => ?_)); ((focus ((try dsimp only); (go_keep)))); (clear hK K); ((try simp only [Act.put, p1_, p2_, p3_])); (refine wpAnyH_done (by kernel_rfl) ?_ _)))); (rotate_left 1); (exact AllReadyH.nil)))); (rotate_left 1); (exact AllReadyH.nil)))); (rotate_left 1); (exact AllReadyH.nil)))); (rotate_left 1); (refine AllReadyH.cons (by simp only [e1_, e2_, e3_]; try rfl) ?_ ?_); ((focus ((intro K hK); (go_simp); ((refine (spec_MultiplyRatios v 1 x y _).mono ?_; rintro e w5 ⟨rfl, hb5⟩; unfold rV; have hsz_0 := hb5.size; (try simp at hsz_0); have hM_1 : BM w5 w.heap.size R C A n cap := (Kb hM); have hS_1 : BQ w5 bS s.1 s.2 := (by (with_reducible (repeat (first | exact hS | refine Blk.new_at _ _ _ _ Ks | refine Blk.below ?_ (by assumption) Ks | apply Blk.drew | apply Blk.drewN | refine Blk.far ?_ (by simp only [ne_eq]; omega) _ | apply Blk.alloc)))); have hX_1 : BQ w5 bX v 1 := (by (with_reducible (repeat (first | exact hX | refine Blk.new_at _ _ _ _ Ks | refine Blk.below ?_ (by assumption) Ks | apply Blk.drew | apply Blk.drewN | refine Blk.far ?_ (by simp only [ne_eq]; omega) _ | apply Blk.alloc)))); have hxi_1 : RI w5 w.heap.size (some ⟨bx, ox, none⟩) (nx * 2) qs := (Kr hxi); have hbw_1 : Below w.heap.size w w5 := Kw; clear ma mb mc mf ml sa sb sf sl xa xb xf xl; clear hM hS hX hxi hbw cx1 cx2; have hM := hM_1; have hS := hS_1; have hX := hX_1; have hxi := hxi_1; have hbw := hbw_1; clear hM_1 hS_1 hX_1 hxi_1 hbw_1; obtain ⟨ma, mb, mc, mf, ml⟩ := hM.mx; obtain ⟨sa, sb, sf, sl⟩ := hS.cells; obtain ⟨xa, xb, xf, xl⟩ := hX.cells; have cx1 := hxi.at_ (k := k * 2) (by omega); have cx2 : World.cell? w5 ⟨bx, ox + k * 2 + 1, none⟩ = _ := hxi.at_ (k := k * 2 + 1) (by omega); rw [HX1.out] at cx1; rw [HX2.out] at cx2)); ((try go_wp2_with fail)); (refine hK.out _ _ ?_ (fun hHeld => ?_)); ((focus ((try dsimp only); (go_keep)))); (clear hK K); ((try simp only [Act.put, p1_, p2_, p3_])); (refine wpAnyH_ready (rs := [0]) (by kernel_rfl) (by simp) ?_); (refine AllReadyH.cons (by simp only [e1_, e2_, e3_]; try rfl) ?_ ?_); ((focus ((intro K hK); (go_simp); ((try go_wp2_with fail)); (refine hK.out _ _ ?_ (fun hHeld => ?_)); ((focus ((try dsimp only); (go_keep)))); (clear hK K); ((try simp only [Act.put, p1_, p2_, p3_])); (refine wpAnyH_ready (rs := [7]) (by kernel_rfl) (by simp) ?_); (refine AllReadyH.cons (by simp only [e1_, e2_, e3_]; try rfl) ?_ ?_); ((focus ((intro K hK); (go_simp); ((refine (spec_AddRatios s.1 s.2 _ _ _).mono ?_; rintro e w6 ⟨rfl, hb6⟩; unfold rV; have hsz_0 := hb6.size; (try simp at hsz_0); have hM_1 : BM w6 w.heap.size R C A n cap := (Kb hM); have hS_1 : BQ w6 bS s.1 s.2 := (by (with_reducible (repeat (first | exact hS | refine Blk.new_at _ _ _ _ Ks | refine Blk.below ?_ (by assumption) Ks | apply Blk.drew | apply Blk.drewN | refine Blk.far ?_ (by simp only [ne_eq]; omega) _ | apply Blk.alloc)))); have hX_1 : BQ w6 bX v 1 := (by (with_reducible (repeat (first | exact hX | refine Blk.new_at _ _ _ _ Ks | refine Blk.below ?_ (by assumption) Ks | apply Blk.drew | apply Blk.drewN | refine Blk.far ?_ (by simp only [ne_eq]; omega) _ | apply Blk.alloc)))); have hxi_1 : RI w6 w.heap.size (some ⟨bx, ox, none⟩) (nx * 2) qs := (Kr hxi); have hbw_1 : Below w.heap.size w w6 := Kw; clear ma mb mc mf ml sa sb sf sl xa xb xf xl; clear hM hS hX hxi hbw cx1 cx2; have hM := hM_1; have hS := hS_1; have hX := hX_1; have hxi := hxi_1; have hbw := hbw_1; clear hM_1 hS_1 hX_1 hxi_1 hbw_1; obtain ⟨ma, mb, mc, mf, ml⟩ := hM.mx; obtain ⟨sa, sb, sf, sl⟩ := hS.cells; obtain ⟨xa, xb, xf, xl⟩ := hX.cells; have cx1 := hxi.at_ (k := k * 2) (by omega); have cx2 : World.cell? w6 ⟨bx, ox + k * 2 + 1, none⟩ = _ := hxi.at_ (k := k * 2 + 1) (by omega); rw [HX1.out] at cx1; rw [HX2.out] at cx2)); ((try go_wp2_with fail)); (refine hK.out _ _ ?_ (fun hHeld => ?_)); ((focus ((try dsimp only); (go_keep)))); (clear hK K); ((try simp only [Act.put, p1_, p2_, p3_])); (refine wpAnyH_ready (rs := [8]) (by kernel_rfl) (by simp) ?_); (refine AllReadyH.cons (by simp only [e1_, e2_, e3_]; try rfl) ?_ ?_); ((focus ((intro K hK); (go_simp); ((try go_wp2_with fail)); (refine hK.out _ _ ?_ (fun hHeld => ?_)); ((focus ((try dsimp only); (go_keep)))); (clear hK K); ((try simp only [Act.put, p1_, p2_, p3_])); (refine wpAnyH_done (by kernel_rfl) ?_ _)))); (rotate_left 1); (exact AllReadyH.nil)))); (rotate_left 1); (exact AllReadyH.nil)))); (rotate_left 1); (exact AllReadyH.nil)))); (rotate_left 1); (exact AllReadyH.nil))
              all_goals go_wp2_with fail
              all_goals go_roundw
              all_goals first
                | exact ⟨k + 1, by go_num, by omega, Kb hM, by rw [HSTEP.out, HS0.out, HVV.out, HX1.out, HX2.out]; exact BQ.put hS, Kw⟩
                | (simp only [intOf]; omega)
            · obtain ⟨v, hv⟩ : ∃ v, bs.getD k 0 = v := ⟨_, rfl⟩
              have HVV : Hid ((if j < C then cel xs C k j else bs.getD k 0) = v) := Lib.hid ((if_neg hjlt).trans hv)
              rw [hv] at cb
              clear hv
              have hjc : ¬ (j : Int) < (C : Int) := by omega
              have hM4 : BM (wr.alloc (.cells #[.int .i64 v, .int .i64 1] 92)) w.heap.size R C A n cap := Kb hM
              have hS4 : BQ (wr.alloc (.cells #[.int .i64 v, .int .i64 1] 92)) bS s.1 s.2 := by (with_reducible (repeat (first | exact hS | refine Blk.new_at _ _ _ _ Ks | refine Blk.below ?_ (by assumption) Ks | apply Blk.drew | apply Blk.drewN | refine Blk.far ?_ (by simp only [ne_eq]; omega) _ | apply Blk.alloc)))
              have hX4 : BQ (wr.alloc (.cells #[.int .i64 v, .int .i64 1] 92)) wr.heap.size v 1 := by (with_reducible (repeat (first | assumption | refine Blk.new_at _ _ _ _ Ks | refine Blk.below ?_ (by assumption) Ks | apply Blk.drew | apply Blk.drewN | refine Blk.far ?_ (by simp only [ne_eq]; omega) _ | apply Blk.alloc)))
              have hxi4 : RI (wr.alloc (.cells #[.int .i64 v, .int .i64 1] 92)) w.heap.size (some ⟨bx, ox, none⟩) (nx * 2) qs := Kr hxi
              have hbw4 : Below w.heap.size w (wr.alloc (.cells #[.int .i64 v, .int .i64 1] 92)) := Kw
              go_wp2_with fail
              generalize hbX : wr.heap.size = bX at *
              clear hM hS hxi hbi hbw cb ma mb mc mf ml
              generalize wr.alloc (.cells #[.int .i64 v, .int .i64 1] 92) = wq at *
              have hM := hM4
              have hS := hS4
              have hX := hX4
              have hxi := hxi4
              have hbw := hbw4
              clear hM4 hS4 hX4 hxi4 hbw4
              have cx1 := hxi.at_ (k := k * 2) (by omega)
              have cx2 : World.cell? _ ⟨bx, ox + k * 2 + 1, none⟩ = _ := hxi.at_ (k := k * 2 + 1) (by omega)
              rw [HX1.out] at cx1
              rw [HX2.out] at cx2
              have hlM := hM.lt
              have hlX := (hX.cells).2.2.2
              have hne1 : bS ≠ bX := by omega
              have hne2 : bS ≠ bx := by omega
              obtain ⟨ma, mb, mc, mf, ml⟩ := hM.mx; obtain ⟨sa, sb, sf, sl⟩ := hS.cells; obtain ⟨xa, xb, xf, xl⟩ := hX.cells
              go_wp2_with fail
              ((refine wp_region_held_drew (S := (fun w' => w'.cell? ⟨bX, 0, none⟩ = some (.int .i64 v) ∧ w'.cell? ⟨bX, 1, none⟩ = some (.int .i64 1) ∧ w'.cell? ⟨bx, ox + k * 2, none⟩ = some (.int .i64 x) ∧ w'.cell? ⟨bx, ox + k * 2 + 1, none⟩ = some (.int .i64 y))) (by kernel_rfl) ?_ (fun hHeld => ?_)); ((focus ((try dsimp only); (go_keep)))); ((refine tk_ (i := 1) (v := ?_) (y := Or.inl ⟨by rfl, ?_⟩) (h := ?_); rotate_left; (focus (((intro w hSw; (try dsimp only at hSw); go_simp) <;> (try with_reducible rfl)); done)); (try simp only [Act.put, p1_, p2_, p3_]))); ((refine tk_ (i := 2) (v := ?_) (y := Or.inl ⟨by rfl, ?_⟩) (h := ?_); rotate_left; (focus (((intro w hSw; (try dsimp only at hSw); go_simp) <;> (try with_reducible rfl)); done)); (try simp only [Act.put, p1_, p2_, p3_]))); ((refine tk_ (i := 3) (v := ?_) (y := Or.inl ⟨by rfl, ?_⟩) (h := ?_); rotate_left; (focus (((intro w hSw; (try dsimp only at hSw); go_simp) <;> (try with_reducible rfl)); done)); (try simp only [Act.put, p1_, p2_, p3_]))); ((refine tk_ (i := 4) (v := ?_) (y := Or.inl ⟨by rfl, ?_⟩) (h := ?_); rotate_left; (focus (((intro w hSw; (try dsimp only at hSw); go_simp) <;> (try with_reducible rfl)); done)); (try simp only [Act.put, p1_, p2_, p3_]))); ((refine tk_ (i := 5) (v := ?_) (y := Or.inl ⟨by rfl, ?_⟩) (h := ?_); rotate_left; (focus (((intro w hSw; (try dsimp only at hSw); go_simp) <;> (try with_reducible rfl)); done)); (try simp only [Act.put, p1_, p2_, p3_]))); (refine wpAnyH_ready (rs := [0, 6]) (by kernel_rfl) (by simp) ?_); (refine AllReadyH.cons (by simp only [e1_, e2_, e3_]; try rfl) ?_ ?_); ((focus ((intro K hK); (go_simp); ((try go_wp2_with fail)); (refine hK.out _ _ ?_ (fun hHeld => ?_)); ((focus ((try dsimp only); (go_keep)))); (clear hK K); ((try simp only [Act.put, p1_, p2_, p3_])); (refine wpAnyH_ready (rs := [6]) (by kernel_rfl) (by simp) ?_); (refine AllReadyH.cons (by simp only [e1_, e2_, e3_]; try rfl) ?_ ?_); ((focus ((intro K hK); (go_simp); ((refine (spec_MultiplyRatios v 1 x y _).mono ?_; rintro e w5 ⟨rfl, hb5⟩; unfold rV; have hsz_0 := hb5.size; (try simp at hsz_0); have hM_1 : BM w5 w.heap.size R C A n cap := (Kb hM); have hS_1 : BQ w5 bS s.1 s.2 := (by (with_reducible (repeat (first | exact hS | refine Blk.new_at _ _ _ _ Ks | refine Blk.below ?_ (by assumption) Ks | apply Blk.drew | apply Blk.drewN | refine Blk.far ?_ (by simp only [ne_eq]; omega) _ | apply Blk.alloc)))); have hX_1 : BQ w5 bX v 1 := (by (with_reducible (repeat (first | exact hX | refine Blk.new_at _ _ _ _ Ks | refine Blk.below ?_ (by assumption) Ks | apply Blk.drew | apply Blk.drewN | refine Blk.far ?_ (by simp only [ne_eq]; omega) _ | apply Blk.alloc)))); have hxi_1 : RI w5 w.heap.size (some ⟨bx, ox, none⟩) (nx * 2) qs := (Kr hxi); have hbw_1 : Below w.heap.size w w5 := Kw; clear ma mb mc mf ml sa sb sf sl xa xb xf xl; clear hM hS hX hxi hbw cx1 cx2; have hM := hM_1; have hS := hS_1; have hX := hX_1; have hxi := hxi_1; have hbw := hbw_1; clear hM_1 hS_1 hX_1 hxi_1 hbw_1; obtain ⟨ma, mb, mc, mf, ml⟩ := hM.mx; obtain ⟨sa, sb, sf, sl⟩ := hS.cells; obtain ⟨xa, xb, xf, xl⟩ := hX.cells; have cx1 := hxi.at_ (k := k * 2) (by omega); have cx2 : World.cell? w5 ⟨bx, ox + k * 2 + 1, none⟩ = _ := hxi.at_ (k := k * 2 + 1) (by omega); rw [HX1.out] at cx1; rw [HX2.out] at cx2)); ((try go_wp2_with fail)); (refine hK.out _ _ ?_ (fun hHeld => ?_)); ((focus ((try dsimp only); (go_keep)))); (clear hK K); ((try simp only [Act.put, p1_, p2_, p3_])); (refine wpAnyH_ready (rs := [7]) (by kernel_rfl) (by simp) ?_); (refine AllReadyH.cons (by simp only [e1_, e2_, e3_]; try rfl) ?_ ?_); ((focus ((intro K hK); (go_simp); ((refine (spec_AddRatios s.1 s.2 _ _ _).mono ?_; rintro e w6 ⟨rfl, hb6⟩; unfold rV; have hsz_0 := hb6.size; (try simp at hsz_0); have hM_1 : BM w6 w.heap.size R C A n cap := (Kb hM); have hS_1 : BQ w6 bS s.1 s.2 := (by (with_reducible (repeat (first | exact hS | refine Blk.new_at _ _ _ _ Ks | refine Blk.below ?_ (by assumption) Ks | apply Blk.drew | apply Blk.drewN | refine Blk.far ?_ (by simp only [ne_eq]; omega) _ | apply Blk.alloc)))); have hX_1 : BQ w6 bX v 1 := (by (with_reducible (repeat (first | exact hX | refine Blk.new_at _ _ _ _ Ks | refine Blk.below ?_ (by assumption) Ks | apply Blk.drew | apply Blk.drewN | refine Blk.far ?_ (by simp only [ne_eq]; omega) _ | apply Blk.alloc)))); have hxi_1 : RI w6 w.heap.size (some ⟨bx, ox, none⟩) (nx * 2) qs := (Kr hxi); have hbw_1 : Below w.heap.size w w6 := Kw; clear ma mb mc mf ml sa sb sf sl xa xb xf xl; clear hM hS hX hxi hbw cx1 cx2; have hM := hM_1; have hS := hS_1; have hX := hX_1; have hxi := hxi_1; have hbw := hbw_1; clear hM_1 hS_1 hX_1 hxi_1 hbw_1; obtain ⟨ma, mb, mc, mf, ml⟩ := hM.mx; obtain ⟨sa, sb, sf, sl⟩ := hS.cells; obtain ⟨xa, xb, xf, xl⟩ := hX.cells; have cx1 := hxi.at_ (k := k * 2) (by omega); have cx2 : World.cell? w6 ⟨bx, ox + k * 2 + 1, none⟩ = _ := hxi.at_ (k := k * 2 + 1) (by omega); rw [HX1.out] at cx1; rw [HX2.out] at cx2)); ((try go_wp2_with fail)); (refine hK.out _ _ ?_ (fun hHeld => ?_)); ((focus ((try dsimp only); (go_keep)))); (clear hK K); ((try simp only [Act.put, p1_, p2_, p3_])); (refine wpAnyH_ready (rs := [8]) (by kernel_rfl) (by simp) ?_); (refine AllReadyH.cons (by simp only [e1_, e2_, e3_]; try rfl) ?_ ?_); ((focus ((intro K hK); (go_simp); ((try go_wp2_with fail)); (refine hK.out _ _ ?_ (fun hHeld => ?_)); ((focus ((try dsimp only); (go_keep)))); (clear hK K); ((try simp only [Act.put, p1_, p2_, p3_])); (refine wpAnyH_done (by kernel_rfl) ?_ _)))); (rotate_left 1); (exact AllReadyH.nil)))); (rotate_left 1); (exact AllReadyH.nil)))); (rotate_left 1); (exact AllReadyH.nil)))); (rotate_left 1); (refine AllReadyH.cons (by simp only [e1_, e2_, e3_]; try rfl) ?_ ?_); ((focus ((intro K hK); (go_simp); ((refine (spec_MultiplyRatios v 1 x y _).mono ?_; rintro e w5 ⟨rfl, hb5⟩; unfold rV; have hsz_0 := hb5.size; (try simp at hsz_0); have hM_1 : BM w5 w.heap.size R C A n cap := (Kb hM); have hS_1 : BQ w5 bS s.1 s.2 := (by (with_reducible (repeat (first | exact hS | refine Blk.new_at _ _ _ _ Ks | refine Blk.below ?_ (by assumption) Ks | apply Blk.drew | apply Blk.drewN | refine Blk.far ?_ (by simp only [ne_eq]; omega) _ | apply Blk.alloc)))); have hX_1 : BQ w5 bX v 1 := (by (with_reducible (repeat (first | exact hX | refine Blk.new_at _ _ _ _ Ks | refine Blk.below ?_ (by assumption) Ks | apply Blk.drew | apply Blk.drewN | refine Blk.far ?_ (by simp only [ne_eq]; omega) _ | apply Blk.alloc)))); have hxi_1 : RI w5 w.heap.size (some ⟨bx, ox, none⟩) (nx * 2) qs := (Kr hxi); have hbw_1 : Below w.heap.size w w5 := Kw; clear ma mb mc mf ml sa sb sf sl xa xb xf xl; clear hM hS hX hxi hbw cx1 cx2; have hM := hM_1; have hS := hS_1; have hX := hX_1; have hxi := hxi_1; have hbw := hbw_1; clear hM_1 hS_1 hX_1 hxi_1 hbw_1; obtain ⟨ma, mb, mc, mf, ml⟩ := hM.mx; obtain ⟨sa, sb, sf, sl⟩ := hS.cells; obtain ⟨xa, xb, xf, xl⟩ := hX.cells; have cx1 := hxi.at_ (k := k * 2) (by omega); have cx2 : World.cell? w5 ⟨bx, ox + k * 2 + 1, none⟩ = _ := hxi.at_ (k := k * 2 + 1) (by omega); rw [HX1.out] at cx1; rw [HX2.out] at cx2)); ((try go_wp2_with fail)); (refine hK.out _ _ ?_ (fun hHeld => ?_)); ((focus ((try dsimp only); (go_keep)))); (clear hK K); ((try simp only [Act.put, p1_, p2_, p3_])); (refine wpAnyH_ready (rs := [0]) (by kernel_rfl) (by simp) ?_); (refine AllReadyH.cons (by simp only [e1_, e2_, e3_]; try rfl) ?_ ?_); ((focus ((intro K hK); (go_simp); ((try go_wp2_with fail)); (refine hK.out _ _ ?_ (fun hHeld => ?_)); ((focus ((try dsimp only); (go_keep)))); (clear hK K); ((try simp only [Act.put, p1_, p2_, p3_])); (refine wpAnyH_ready (rs := [7]) (by kernel_rfl) (by simp) ?_); (refine AllReadyH.cons (by simp only [e1_, e2_, e3_]; try rfl) ?_ ?_); ((focus ((intro K hK); (go_simp); ((refine (spec_AddRatios s.1 s.2 _ _ _).mono ?_; rintro e w6 ⟨rfl, hb6⟩; unfold rV; have hsz_0 := hb6.size; (try simp at hsz_0); have hM_1 : BM w6 w.heap.size R C A n cap := (Kb hM); have hS_1 : BQ w6 bS s.1 s.2 := (by (with_reducible (repeat (first | exact hS | refine Blk.new_at _ _ _ _ Ks | refine Blk.below ?_ (by assumption) Ks | apply Blk.drew | apply Blk.drewN | refine Blk.far ?_ (by simp only [ne_eq]; omega) _ | apply Blk.alloc)))); have hX_1 : BQ w6 bX v 1 := (by (with_reducible (repeat (first | exact hX | refine Blk.new_at _ _ _ _ Ks | refine Blk.below ?_ (by assumption) Ks | apply Blk.drew | apply Blk.drewN | refine Blk.far ?_ (by simp only [ne_eq]; omega) _ | apply Blk.alloc)))); have hxi_1 : RI w6 w.heap.size (some ⟨bx, ox, none⟩) (nx * 2) qs := (Kr hxi); have hbw_1 : Below w.heap.size w w6 := Kw; clear ma mb mc mf ml sa sb sf sl xa xb xf xl; clear hM hS hX hxi hbw cx1 cx2; have hM := hM_1; have hS := hS_1; have hX := hX_1; have hxi := hxi_1; have hbw := hbw_1; clear hM_1 hS_1 hX_1 hxi_1 hbw_1; obtain ⟨ma, mb, mc, mf, ml⟩ := hM.mx; obtain ⟨sa, sb, sf, sl⟩ := hS.cells; obtain ⟨xa, xb, xf, xl⟩ := hX.cells; have cx1 := hxi.at_ (k := k * 2) (by omega); have cx2 : World.cell? w6 ⟨bx, ox + k * 2 + 1, none⟩ = _ := hxi.at_ (k := k * 2 + 1) (by omega); rw [HX1.out] at cx1; rw [HX2.out] at cx2)); ((try go_wp2_with fail)); (refine hK.out _ _ ?_ (fun hHeld => ?_)); ((focus ((try dsimp only); (go_keep)))); (clear hK K); ((try simp only [Act.put, p1_, p2_, p3_])); (refine wpAnyH_ready (rs := [8]) (by kernel_rfl) (by simp) ?_); (refine AllReadyH.cons (by simp only [e1_, e2_, e3_]; try rfl) ?_ ?_); ((focus ((intro K hK); (go_simp); ((try go_wp2_with fail)); (refine hK.out _ _ ?_ (fun hHeld => ?_)); ((focus ((try dsimp only); (go_keep)))); (clear hK K); ((try simp only [Act.put, p1_, p2_, p3_])); (refine wpAnyH_done (by kernel_rfl) ?_ _)))); (rotate_left 1); (exact AllReadyH.nil)))); (rotate_left 1); (exact AllReadyH.nil)))); (rotate_left 1); (exact AllReadyH.nil)))); (rotate_left 1); (exact AllReadyH.nil))
              all_goals go_wp2_with fail
              all_goals go_roundw
              all_goals first
                | exact ⟨k + 1, by go_num, by omega, Kb hM, by rw [HSTEP.out, HS0.out, HVV.out, HX1.out, HX2.out]; exact BQ.put hS, Kw⟩
                | (simp only [intOf]; omega)
          · obtain rfl : k = R := by omega
            obtain ⟨s, hs⟩ : ∃ s, rsum (refF xs C bs j) (fl qs) k = s := ⟨_, rfl⟩
            have HS0 := Lib.hid hs
            rw [hs] at hS
            clear hs
            obtain ⟨s1, s2⟩ := s
            obtain ⟨ma, mb, mc, mf, ml⟩ := hM.mx
            obtain ⟨sa, sb, sf, sl⟩ := hS.cells
            simp only [] at sa sb
            by_cases hjlt : j < C
            · have hrc : refCol xs k C qs j = (s1, s2) := by rw [← refF_col (bs := bs) hjlt]; exact HS0.out
              have hje : ((j : Int) == (C : Int)) = false := by simp; omega
              by_cases h1 : s2 = 1
              · subst h1
                have HCJ : Hid ((refCol xs k C qs j).2 = 1) := Lib.hid (by rw [hrc])
                clear hrc
                go_wp2_with fail
                go_roundw
                case rel => exact ⟨j + 1, by go_num, by omega, (fun q hq hqC => by
                  rcases Nat.lt_or_ge q j with h2 | h2
                  · exact HCO.out q h2 hqC
                  · obtain rfl : q = j := by omega
                    exact HCJ.out), (fun h => absurd h (by omega)), Kb hM, Kw⟩
                case measure => simp only [intOf]; omega
              · have hvv : vb = false := by rw [HV.out]; exact refP_no hjlt (by rw [hrc]; exact h1)
                have HVV := Lib.hid hvv
                have hb1 : (s2 != 1) = true := by simpa using h1
                clear hvv hrc h1
                by_cases h0 : s2 = 0
                · have hb0 : (s2 == 0) = true := by simpa using h0
                  clear h0
                  go_wp2_with fail
                  go_ret
                  exact BV.mk (vbool HVV.out.symm) Kw
                · have hb0 : (s2 == 0) = false := by simpa using h0
                  clear h0
                  go_wp2_with fail
                  go_ret
                  exact BV.mk (vbool HVV.out.symm) Kw
            · obtain rfl : j = C := by omega
              have hrc : refEnd k bs qs = (s1, s2) := by rw [← refF_end (xs := xs) (C := j)]; exact HS0.out
              have hje : ((j : Int) == (j : Int)) = true := by simp
              by_cases h0 : s2 = 0
              · have hvv : vb = false := by rw [HV.out]; exact refP_end (.inl (by rw [hrc]; exact h0))
                have HVV := Lib.hid hvv
                have hb0 : (s2 == 0) = true := by simpa using h0
                clear hvv hrc h0
                go_wp2_with fail
                go_ret
                exact BV.mk (vbool HVV.out.symm) Kw
              · have hb0 : (s2 == 0) = false := by simpa using h0
                by_cases h1 : s2 = 1
                · have hvv : vb = false := by rw [HV.out]; exact refP_end (.inr (by rw [hrc]; exact h1))
                  have HVV := Lib.hid hvv
                  have hb1 : (s2 == 1) = true := by simpa using h1
                  clear hvv hrc h1 h0
                  go_wp2_with fail
                  go_ret
                  exact BV.mk (vbool HVV.out.symm) Kw
                · have hb1 : (s2 == 1) = false := by simpa using h1
                  have HEE : Hid (¬ (refEnd k bs qs).2 = 0 ∧ ¬ (refEnd k bs qs).2 = 1) := Lib.hid (by rw [hrc]; exact ⟨h0, h1⟩)
                  clear hrc h1 h0
                  go_wp2_with fail
                  go_roundw
                  case rel => exact ⟨j + 1, by go_num, by omega, (fun q hq hqC => HCO.out q (by omega) hqC), (fun h => HEE.out), Kb hM, Kw⟩
                  case measure => simp only [intOf]; omega
      · have hvv : vb = true := by
          rw [HV.out]
          obtain ⟨h1, h2⟩ := HEN.out (by omega)
          exact refP_all (fun q hq => HCO.out q (by omega) hq) h1 h2
        have HVV := Lib.hid hvv
        clear hvv
        go_wp2_with fail
        go_ret
        exact BV.mk (vbool HVV.out.symm) Kw
end Go.Proofs.Ytacjonkehcamgaa

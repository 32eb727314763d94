/-
  DERIVED. isSystem, l11Right; SolveByEchelon of the program.
-/
import Derived.Test.YtlggfmfelakadaaU7
import Derived.Test.YtlggfmfelakadaaU3
import Derived.Test.YtlggfmfelakadaaU1
import Derived.Test.YtlggfmfelakadaaU6
import Derived.Test.YtlggfmfelakadaaEchQu
import Derived.Test.YtlggfmfelakadaaRatAu
namespace Go.Proofs.Ytlggfmfelakadaa
open Go.RowKit
set_option linter.unusedVariables false
set_option linter.unusedSimpArgs false
theorem se_yes {R : Nat} {s : QSt} (h : R ≤ s.ps.length) (h2 : R = 0 ∨ s.ps.getD (R - 1) 0 = ((R - 1 : Nat) : Int)) : seOk R (some s) = true := by
  unfold seOk
  simp only
  rw [decide_eq_true h]
  rcases h2 with h2 | h2
  · rw [decide_eq_true h2]; rfl
  · rw [decide_eq_true h2, Bool.or_true]; rfl
theorem se_no1 {R : Nat} {s : QSt} (h : ¬ R ≤ s.ps.length) : seOk R (some s) = false := by
  unfold seOk
  simp only
  rw [decide_eq_false h]; rfl
theorem se_no2 {R : Nat} {s : QSt} (h : 0 < R) (h2 : ¬ s.ps.getD (R - 1) 0 = ((R - 1 : Nat) : Int)) : seOk R (some s) = false := by
  unfold seOk
  simp only
  rw [decide_eq_false h2, decide_eq_false (show ¬ R = 0 by omega), Bool.or_self, Bool.and_false]
theorem seV_no {r c : Int} {xs bs : List Int} (h : seB r c xs bs = false) : seV r c xs bs = [] ∧ seN r c xs bs = 0 := by
  unfold seV seN; rw [h]; exact ⟨rfl, rfl⟩
theorem seV_yes {r c : Int} {xs bs : List Int} {s : QSt} (h : seB r c xs bs = true) (hx : seX r xs bs = some s) : seV r c xs bs = seL s r.toNat r.toNat ∧ seN r c xs bs = r.toNat := by
  unfold seV seN; rw [h, hx]; exact ⟨rfl, rfl⟩
theorem MIBR.of_some {R C : Nat} {s : QSt} {w w' : World} {e : Ending} (h : MIBR (mxQ R C (some s)) (psQ (some s)) (some s).isSome w e w') :
    ∃ A n cap P k c, e = .returned (.tuple #[.agg #[.int .i64 R, .int .i64 C, .slice A n cap], .slice P k c, .bool true]) ∧ OR w' w.heap.size (.slice A n cap) (tb R C s.f) ∧ OR w' w.heap.size (.slice P k c) s.ps ∧ Below w.heap.size w w' := by
  obtain ⟨A, n, cap, P, k, c, h1, h2, h3, _, h5⟩ := h
  exact ⟨A, n, cap, P, k, c, h1, by simpa [mxQ] using h2, h3, h5⟩
theorem MIBR.of_none {R C : Nat} {w w' : World} {e : Ending} (h : MIBR (mxQ R C none) (psQ none) (none : Option QSt).isSome w e w') :
    ∃ A n cap P k c, e = .returned (.tuple #[.agg #[.int .i64 0, .int .i64 0, .slice A n cap], .slice P k c, .bool false]) ∧ Below w.heap.size w w' := by
  obtain ⟨A, n, cap, P, k, c, h1, h2, h3, _, h5⟩ := h
  exact ⟨A, n, cap, P, k, c, h1, h5⟩
set_option maxRecDepth 100000 in
set_option maxHeartbeats 8000000 in
theorem impl_SolveByEchelon (r c : Int) (A Ab : Option Addr) (n cap nb capb : Nat) (xs bs : List Int) (w : World) {B B' : Nat} (h : RI w B A n xs) (hb : RI w B' Ab nb bs) (hB : B ≤ w.heap.size) (hB' : B' ≤ w.heap.size) (hn : n ≤ 1048576) (hnb : nb ≤ 1048576) (hnc : n ≤ cap) (hcap : cap ≤ 9223372036854775807) :
    Calls Try.prog 39 #[.agg #[.int .i64 r, .int .i64 c, .slice A n cap], .slice Ab nb capb] w (QBR (seN r c xs bs) (seV r c xs bs) (seB r c xs bs) w) := by
  have hlb := hb.len
  have hln := h.len
  have H2 := Lib.hid (h.more hB)
  have H3 := Lib.hid (hb.more hB')
  clear h hb
  rcases hs : sysB r c xs bs with _ | _
  · have hv : seB r c xs bs = false := by unfold seB; rw [hs]; rfl
    obtain ⟨hv1, hv2⟩ := seV_no hv
    rw [hv1, hv2, hv]
    have HS := Lib.hid hs
    clear hs hv hv1 hv2 hlb hln
    go_enter Try.func39, Try.ntmps39
    go_wp2_with fail
    refine (impl_isSystem r c A Ab n cap nb capb xs bs _ (B := w.heap.size) (B' := w.heap.size) (Kr H2.out) (Kr H3.out) Ks Ks hn hnb).mono ?_; rw [HS.out]; rintro e w1 ⟨rfl, hb1⟩; have hsz1 := hb1.size; simp at hsz1; have hM1 : BM w1 w.heap.size r c A n cap := Ka; have hbw1 : Below w.heap.size w w1 := Kw; have hlm1 := hM1.lt; obtain ⟨ma, mb, mc, mf, ml⟩ := hM1.mx
    go_wp2_with fail
    go_ret2
    exact ⟨_, _, _, rfl, OF.empty _ w1.heap.size (by first | rfl | simp) Ks, Kw⟩
  · have K := sysOk hs
    have HS := Lib.hid hs
    have hrc := K.rc
    subst hrc
    have hr6 := K.r6
    obtain ⟨R, rfl⟩ := nat_of K.m.r0
    have hMl := K.m.len
    have hbl := K.bl
    rw [hlb] at hbl
    have hnb2 : nb ≤ R ∧ R ≤ nb := by omega
    have hxl : xs.length = R * R := by rw [← Int.natCast_mul] at hMl; omega
    have hXT : xs = tb R R (fun i j => cel xs R i j) := aug_ri hxl
    have HXT := Lib.hid hXT
    have hn2 : R * R ≤ n ∧ n ≤ R * R := by omega
    have hbv : seB (R : Int) (R : Int) xs bs = seOk R (seX (R : Int) xs bs) := by unfold seB; rw [hs, Bool.true_and]; rfl
    have HBV := Lib.hid hbv
    have HNO := Lib.hid (@seV_no (R : Int) (R : Int) xs bs)
    have HYES : Hid (∀ s : QSt, seB (R : Int) (R : Int) xs bs = true → seX (R : Int) xs bs = some s → seV (R : Int) (R : Int) xs bs = seL s (R : Int).toNat (R : Int).toNat ∧ seN (R : Int) (R : Int) xs bs = (R : Int).toNat) := Lib.hid (fun s h1 h2 => seV_yes h1 h2)
    have HXE : Hid (eoX (R : Int) ((R + 1 : Nat) : Int) (tb R (R + 1) (augF R (fun i j => cel xs R i j) bs)) = seX (R : Int) xs bs) := Lib.hid rfl
    simp only [Int.toNat_natCast] at HYES
    generalize seB (R : Int) (R : Int) xs bs = vb at *
    generalize seV (R : Int) (R : Int) xs bs = vv at *
    generalize seN (R : Int) (R : Int) xs bs = vn at *
    generalize seX (R : Int) xs bs = X at *
    generalize (fun i j : Nat => cel xs R i j) = f at *
    obtain ⟨D, hD⟩ : ∃ D : Nat, D = R + 1 := ⟨_, rfl⟩; have hD2 : (R : Int) + 1 = (D : Int) := (by omega); have HD := Lib.hid hD2; have hD3 : D ≤ R + 1 ∧ R + 1 ≤ D := (by omega); have HDN := Lib.hid hD; have hRD : R * D ≤ 6 * 7 := Nat.mul_le_mul (by omega) (by omega); have hRR : R * R ≤ 6 * 6 := Nat.mul_le_mul (by omega) (by omega); clear hD hD2
    clear hs K hMl hbl hXT hbv hlb hln hxl
    go_enter Try.func39, Try.ntmps39
    go_wp2_with fail
    refine (impl_isSystem R R A Ab n cap nb capb xs bs _ (B := w.heap.size) (B' := w.heap.size) (Kr H2.out) (Kr H3.out) Ks Ks hn hnb).mono ?_; rw [HS.out]; rintro e w1 ⟨rfl, hb1⟩; have hsz1 := hb1.size; simp at hsz1; have hM1 : BM w1 w.heap.size R R A n cap := Ka; have hbw1 : Below w.heap.size w w1 := Kw; have hlm1 := hM1.lt; obtain ⟨ma, mb, mc, mf, ml⟩ := hM1.mx
    go_wp2_with fail
    rw [HD.out]
    refine (impl_newMatrix R D _ (by omega) (by omega) (by omega)).mono ?_
    rintro e w2 ⟨Aw, nw, cw, rfl, how0, hb2⟩
    have hsz2 := hb2.size
    generalize hbO : w2.heap.size = bO at *
    have hM : BM (w2.alloc (.cells #[.int .i64 R, .int .i64 D, .slice Aw nw cw] 26)) w.heap.size R R A n cap := Kb hM1
    have hW : BM (w2.alloc (.cells #[.int .i64 R, .int .i64 D, .slice Aw nw cw] 26)) bO R D Aw nw cw := Ka
    have how : OR (w2.alloc (.cells #[.int .i64 R, .int .i64 D, .slice Aw nw cw] 26)) w1.heap.size (.slice Aw nw cw) (tb R D (aK R f bs 0)) := by
      rw [aK_zero, tb_zeros]; exact OR.alloc (xs := List.replicate (R * D) 0) how0 _
    have hbw : Below w.heap.size w (w2.alloc (.cells #[.int .i64 R, .int .i64 D, .slice Aw nw cw] 26)) := Kw
    have HU : Hid (Own (.slice Aw nw cw) w1.heap.size bO) := Lib.hid (by rw [← hbO]; exact OR.own (xs := List.replicate (R * D) 0) how0)
    have hnw := how.lenEq
    rw [tb_len] at hnw
    have hcw := how.caps
    have HNW : Hid (nw ≤ R * D ∧ R * D ≤ nw) := Lib.hid (by omega)
    clear hnw hM1 hbw1 ma mb mc mf ml how0 hb2 hb1
    obtain ⟨aa, ab, ac, af, al⟩ := hM.mx; obtain ⟨oa, ob, oc, of, ol⟩ := hW.mx
    go_wp2_with fail
    generalize hwo : w2.alloc (.cells #[.int .i64 R, .int .i64 D, .slice Aw nw cw] 26) = wo at *
    clear hwo
    go_loopw [8] (fun v wr => ∃ i : Nat, v = .int .i64 i ∧ i ≤ R ∧ BM wr w.heap.size R R A n cap ∧ BM wr bO R D Aw nw cw ∧ OR wr w1.heap.size (.slice Aw nw cw) (tb R D ((aK R f bs i))) ∧ Below w.heap.size w wr) (fun v _ => R - (intOf v).toNat)
    case atStart => exact ⟨0, rfl, Nat.zero_le _, hM, hW, how, hbw⟩
    case round =>
      clear aa ab ac af al oa ob oc of ol
      clear hM hW how hbw
      obtain ⟨i, rfl, hi, hM, hW, how, hbw⟩ := hrel
      have hlw := hW.lt
      have hszr := hbw.size
      by_cases hiR : i < R
      · obtain ⟨g, rfl, hg1, hg2⟩ := how.begins (by rw [tb_len]; exact Nat.mul_pos (by omega) (by omega))
        have hgb := HU.out g rfl
        have hfitw : i * D + D ≤ R * D := by
          have h3 := Nat.mul_le_mul_right D (show i + 1 ≤ R by omega); rw [Nat.add_mul, Nat.one_mul] at h3; exact h3
        have hfita : i * R + R ≤ R * R := by
          have h3 := Nat.mul_le_mul_right R (show i + 1 ≤ R by omega); rw [Nat.add_mul, Nat.one_mul] at h3; exact h3
        have e1 : (i : Int) * (D : Int) = ((i * D : Nat) : Int) := by rw [Int.natCast_mul]
        have e2 : 0 ≤ (i : Int) * (D : Int) ∧ (i : Int) * (D : Int) ≤ 10000 := by omega
        have e3 : (i : Int) * (D : Int) + (R : Int) < (nw : Int) := by have := HNW.out; omega
        have e4 : ((i : Int) * (D : Int) + (R : Int)).toNat = i * D + R := by omega
        have E4 := Lib.hid e4
        have HRW : Hid (splL (tb R D (aK R f bs i)) (i * D) (rowL xs R i) = tb R D (aR R f bs i R)) := Lib.hid (by rw [HXT.out, HDN.out]; exact aR_row hiR)
        have HRE : Hid (tb R D (upd (aR R f bs i R) i R (bs.getD i 0)) = tb R D (aK R f bs (i + 1))) := Lib.hid (by rw [HDN.out]; exact aR_end)
        clear e1 e4
        obtain ⟨bb, obb, rfl, hbb, _⟩ := H3.out.2 (by omega)
        obtain ⟨aa, ab, ac, af, al⟩ := hM.mx; obtain ⟨oa, ob, oc, of, ol⟩ := hW.mx
        go_wp2_with fail
        ((refine wp_region_held_drew (S := (fun w' => w'.cell? ⟨bO, 0, none⟩ = some (.int .i64 R) ∧ w'.cell? ⟨bO, 1, none⟩ = some (.int .i64 D) ∧ w'.cell? ⟨bO, 2, none⟩ = some (.slice (some ⟨g, 0, none⟩) nw cw) ∧ w'.cell? ⟨w.heap.size, 0, none⟩ = some (.int .i64 R) ∧ w'.cell? ⟨w.heap.size, 1, none⟩ = some (.int .i64 R) ∧ w'.cell? ⟨w.heap.size, 2, none⟩ = some (.slice A n cap))) (by kernel_rfl) ?_ (fun hHeld => ?_)); ((focus ((try dsimp only); (go_keep)))); ((refine tk_ (i := 0) (v := ?_) (y := Or.inl ⟨by rfl, ?_⟩) (h := ?_); rotate_left; (focus (((intro w hSw; (try dsimp only at hSw); go_simp) <;> (try with_reducible rfl)); done)); (try simp only [Act.put, p1_, p2_, p3_]))); ((refine tk_ (i := 1) (v := ?_) (y := Or.inl ⟨by rfl, ?_⟩) (h := ?_); rotate_left; (focus (((intro w hSw; (try dsimp only at hSw); go_simp) <;> (try with_reducible rfl)); done)); (try simp only [Act.put, p1_, p2_, p3_]))); ((refine tk_ (i := 3) (v := ?_) (y := Or.inl ⟨by rfl, ?_⟩) (h := ?_); rotate_left; (focus (((intro w hSw; (try dsimp only at hSw); go_simp) <;> (try with_reducible rfl)); done)); (try simp only [Act.put, p1_, p2_, p3_]))); ((refine tk_ (i := 4) (v := ?_) (y := Or.inl ⟨by rfl, ?_⟩) (h := ?_); rotate_left; (focus (((intro w hSw; (try dsimp only at hSw); go_simp) <;> (try with_reducible rfl)); done)); (try simp only [Act.put, p1_, p2_, p3_]))); ((refine wpAnyH_ready (rs := [2]) (by kernel_rfl) (by simp) ?_; refine AllReadyH.cons (by simp only [e1_, e2_, e3_]; try rfl) (fun K hK => ?_) AllReadyH.nil; go_simp; (refine (impl_row_own R D i g nw cw _ Ks (by omega) (by omega) (by omega) (by omega) (by omega) (by have := HNW.out; omega)).mono ?_; rintro e w3 ⟨rfl, hb3⟩; have hsz_0 := hb3.size; (try simp at hsz_0); have hM_1 : BM w3 w.heap.size R R A n cap := (Kb hM); have hW_1 : BM w3 bO R D (some ⟨g, 0, none⟩) nw cw := (Kb hW); have how_1 : OR w3 w1.heap.size (.slice (some ⟨g, 0, none⟩) nw cw) (tb R D ((aK R f bs i))) := (Ko how); have hbw_1 : Below w.heap.size w w3 := Kw; clear aa ab ac af al oa ob oc of ol; clear hM hW how hbw; have hM := hM_1; have hW := hW_1; have how := how_1; have hbw := hbw_1; clear hM_1 hW_1 how_1 hbw_1; obtain ⟨aa, ab, ac, af, al⟩ := hM.mx; obtain ⟨oa, ob, oc, of, ol⟩ := hW.mx); (try go_wp2_with fail); refine hK.out _ _ ?_ (fun hHeld => ?_); (focus ((try dsimp only); (go_keep))); clear hK K; (try simp only [Act.put, p1_, p2_, p3_]))); ((refine wpAnyH_ready (rs := [5]) (by kernel_rfl) (by simp) ?_; refine AllReadyH.cons (by simp only [e1_, e2_, e3_]; try rfl) (fun K hK => ?_) AllReadyH.nil; go_simp; (refine (impl_row R R i A n cap xs _ (B := w.heap.size) (Kr H2.out) Ks hnc hcap (by omega) (by omega) (by omega)).mono ?_; rintro e w4 ⟨As, cs, rfl, hri, hb4, hcs1, hcs2⟩; have hsz_0 := hb4.size; (try simp at hsz_0); have hM_1 : BM w4 w.heap.size R R A n cap := (Kb hM); have hW_1 : BM w4 bO R D (some ⟨g, 0, none⟩) nw cw := (Kb hW); have how_1 : OR w4 w1.heap.size (.slice (some ⟨g, 0, none⟩) nw cw) (tb R D ((aK R f bs i))) := (Ko how); have hbw_1 : Below w.heap.size w w4 := Kw; clear aa ab ac af al oa ob oc of ol; clear hM hW how hbw; have hM := hM_1; have hW := hW_1; have how := how_1; have hbw := hbw_1; clear hM_1 hW_1 how_1 hbw_1; obtain ⟨aa, ab, ac, af, al⟩ := hM.mx; obtain ⟨oa, ob, oc, of, ol⟩ := hW.mx); (try go_wp2_with fail); refine hK.out _ _ ?_ (fun hHeld => ?_); (focus ((try dsimp only); (go_keep))); clear hK K; (try simp only [Act.put, p1_, p2_, p3_]))); ((refine wpAnyH_ready (rs := [6]) (by kernel_rfl) (by simp) ?_; refine AllReadyH.cons (by simp only [e1_, e2_, e3_]; try rfl) (fun K hK => ?_) AllReadyH.nil; (refine step_copy_win _ rfl (.tmp 32) (.tmp 35) rfl w1.heap.size (some ⟨g, 0, none⟩) nw cw (tb R D (aK R f bs i)) (Ko how) (i * D) R D (cw - i * D) cs (by omega) (some ⟨g, i * D, none⟩) As rfl rfl _ (rowL xs R i) (Kr hri) (by rw [tb_len]; omega) (fun _ => by simp [addr_add]) ?_; intro w5 hst_0 hgr_0 hsz_0; (try simp at hsz_0); rw [HRW.out] at hst_0; have hM_1 := BX.keptOwn (b := w.heap.size) (Kb hM) hgr_0 HU.out (by omega); have hW_1 := BX.keptOwn (b := bO) (Kb hW) hgr_0 HU.out (by omega); have hbw_1 : Below w.heap.size w w5 := Below.trans Kw (below_keptOwn hgr_0 HU.out (by omega) Ks); have how_1 := hst_0; clear hgr_0 hst_0; clear aa ab ac af al oa ob oc of ol; clear hM hW how hbw; have hM := hM_1; have hW := hW_1; have how := how_1; have hbw := hbw_1; clear hM_1 hW_1 how_1 hbw_1; obtain ⟨aa, ab, ac, af, al⟩ := hM.mx; obtain ⟨oa, ob, oc, of, ol⟩ := hW.mx); refine hK.out _ _ ?_ (fun hHeld => ?_); (focus ((try dsimp only); (go_keep))); clear hK K; (try simp only [Act.put, p1_, p2_, p3_]))); (refine wpAnyH_done (by kernel_rfl) ?_ _))
        clear hri
        have hszq := hbw.size
        have hbi : RI w5 w.heap.size (some ⟨bb, obb, none⟩) nb bs := Kr H3.out
        have cb := hbi.at_ (k := i) (by omega)
        have hin : i < nb := by omega
        obtain ⟨z, hz⟩ : ∃ z, bs.getD i 0 = z := ⟨_, rfl⟩
        have HZ := Lib.hid hz
        rw [hz] at cb
        clear hz
        go_wp2_with fail
        ((refine wp_region_held_drew (S := (fun w' => w'.cell? ⟨bO, 0, none⟩ = some (.int .i64 R) ∧ w'.cell? ⟨bO, 1, none⟩ = some (.int .i64 D) ∧ w'.cell? ⟨bO, 2, none⟩ = some (.slice (some ⟨g, 0, none⟩) nw cw) ∧ w'.cell? ⟨bb, obb + i, none⟩ = some (.int .i64 z))) (by kernel_rfl) ?_ (fun hHeld => ?_)); ((focus ((try dsimp only); (go_keep)))); ((refine tk_ (i := 0) (v := ?_) (y := Or.inl ⟨by rfl, ?_⟩) (h := ?_); rotate_left; (focus (((intro w hSw; (try dsimp only at hSw); go_simp) <;> (try with_reducible rfl)); done)); (try simp only [Act.put, p1_, p2_, p3_]))); ((refine tk_ (i := 1) (v := ?_) (y := Or.inl ⟨by rfl, ?_⟩) (h := ?_); rotate_left; (focus (((intro w hSw; (try dsimp only at hSw); go_simp) <;> (try with_reducible rfl)); done)); (try simp only [Act.put, p1_, p2_, p3_]))); ((refine tk_ (i := 2) (v := ?_) (y := Or.inl ⟨by rfl, ?_⟩) (h := ?_); rotate_left; (focus (((intro w hSw; (try dsimp only at hSw); go_simp) <;> (try with_reducible rfl)); done)); (try simp only [Act.put, p1_, p2_, p3_]))); ((refine tk_ (i := 3) (v := ?_) (y := Or.inl ⟨by rfl, ?_⟩) (h := ?_); rotate_left; (focus (((intro w hSw; (try dsimp only at hSw); go_simp) <;> (try with_reducible rfl)); done)); (try simp only [Act.put, p1_, p2_, p3_]))); ((refine tk_ (i := 4) (v := ?_) (y := Or.inl ⟨by rfl, ?_⟩) (h := ?_); rotate_left; (focus (((intro w hSw; (try dsimp only at hSw); go_simp) <;> (try with_reducible rfl)); done)); (try simp only [Act.put, p1_, p2_, p3_]))); ((refine tk_ (i := 5) (v := ?_) (y := Or.inl ⟨by rfl, ?_⟩) (h := ?_); rotate_left; (focus (((intro w hSw; (try dsimp only at hSw); go_simp) <;> (try with_reducible rfl)); done)); (try simp only [Act.put, p1_, p2_, p3_]))); ((refine tk_ (i := 6) (v := ?_) (y := Or.inl ⟨by rfl, ?_⟩) (h := ?_); rotate_left; (focus (((intro w hSw; (try dsimp only at hSw); go_simp) <;> (try with_reducible rfl)); done)); (try simp only [Act.put, p1_, p2_, p3_]))); ((refine wpAnyH_ready (rs := [7]) (by kernel_rfl) (by simp) ?_; refine AllReadyH.cons (by simp only [e1_, e2_, e3_]; try rfl) (fun K hK => ?_) AllReadyH.nil; go_simp; (refine (impl_set R D i R z (some ⟨g, 0, none⟩) nw cw (tb R D (aR R f bs i R)) _ (B := w1.heap.size) (Ko how) e2 ⟨by omega, by omega⟩ e3).mono ?_; rintro e w6 ⟨rfl, hst_0, hgr_0, hsz_0⟩; rw [E4.out, tb_set hiR (by omega), ← HZ.out, HRE.out] at hst_0; have hbi_1 := RI.keptOwn (B := w.heap.size) (A := some ⟨bb, obb, none⟩) (n := nb) (xs := bs) (Kr hbi) hgr_0 HU.out (by omega) Ks; clear hbi cb; have cb := hbi_1.at_ (k := i) (by omega); rw [HZ.out] at cb; have hM_1 := BX.keptOwn (b := w.heap.size) (Kb hM) hgr_0 HU.out (by omega); have hW_1 := BX.keptOwn (b := bO) (Kb hW) hgr_0 HU.out (by omega); have hbw_1 : Below w.heap.size w w6 := Below.trans Kw (below_keptOwn hgr_0 HU.out (by omega) Ks); have how_1 := hst_0; clear hgr_0 hst_0; clear aa ab ac af al oa ob oc of ol; clear hM hW how hbw; have hM := hM_1; have hW := hW_1; have how := how_1; have hbw := hbw_1; clear hM_1 hW_1 how_1 hbw_1; obtain ⟨aa, ab, ac, af, al⟩ := hM.mx; obtain ⟨oa, ob, oc, of, ol⟩ := hW.mx); (try go_wp2_with fail); refine hK.out _ _ ?_ (fun hHeld => ?_); (focus ((try dsimp only); (go_keep))); clear hK K; (try simp only [Act.put, p1_, p2_, p3_]))); (refine wpAnyH_done (by kernel_rfl) ?_ _))
        clear hbi_1 cb
        go_wp2_with fail
        go_roundw
        case rel => exact ⟨i + 1, by go_num, by omega, Kb hM, Kb hW, Ko how, Kw⟩
        case measure => simp only [intOf]; omega
      · obtain rfl : i = R := by omega
        have how2 := how.as (show tb i D (aK i f bs i) = tb i D (augF i f bs) by rw [HDN.out]; exact aK_end f bs)
        have hpv := fun s (hx : X = some s) => eoX_piv (s := s) (HXE.out.trans hx)
        have HXD : Hid (eoX (i : Int) (D : Int) (tb i D (augF i f bs)) = X) := Lib.hid (by rw [HDN.out]; exact HXE.out)
        clear how
        obtain ⟨aa, ab, ac, af, al⟩ := hM.mx; obtain ⟨oa, ob, oc, of, ol⟩ := hW.mx
        go_wp2_with fail
        have hlM := hM.lt
        have hszr2 := hbw.size
        rcases hX : X with _ | s
        · have HXS := Lib.hid hX
          have hv : vb = false := by rw [HBV.out, hX]; rfl
          obtain ⟨hv1, hv2⟩ := HNO.out hv
          have HV := Lib.hid hv
          have HV1 := Lib.hid hv1
          have HV2 := Lib.hid hv2
          clear hv hv1 hv2 hpv hX
          refine (impl_EchelonOf i D Aw nw cw (tb i D (augF i f bs)) _ (OR.reads (B := w1.heap.size) (cap := cw) (Ko how2)) (Nat.le_refl _) (by have := HNW.out; omega)).mono ?_; rw [HXD.out, HXS.out]
          intro e w7 hq
          obtain ⟨Ae, ne, ce, P, kp, pc, rfl, hb7⟩ := hq.of_none
          have hsz7 := hb7.size
          have hbw7 : Below w.heap.size w w7 := Kw
          clear hq
          go_wp2_with fail
          go_ret2
          rw [HV.out, HV1.out, HV2.out]
          exact ⟨_, _, _, rfl, OF.empty _ (w7.heap.size + 1) (by simp) (by simp; omega), Kw⟩
        · have HXS := Lib.hid hX
          obtain ⟨hp1, hp2⟩ := hpv s hX
          have hHV : vb = seOk i (some s) := by rw [HBV.out, hX]
          have HHV := Lib.hid hHV
          have HPI := Lib.hid hp2
          clear hpv hHV hp2 hX
          refine (impl_EchelonOf i D Aw nw cw (tb i D (augF i f bs)) _ (OR.reads (B := w1.heap.size) (cap := cw) (Ko how2)) (Nat.le_refl _) (by have := HNW.out; omega)).mono ?_; rw [HXD.out, HXS.out]
          intro e w7 hq
          obtain ⟨Ae, ne, ce, P, kp, pc, rfl, he, hp, hb7⟩ := hq.of_some
          have hsz7 := hb7.size
          have hbw7 : Below w.heap.size w w7 := Kw
          have hkp := hp.lenEq
          have hne := he.lenEq
          rw [tb_len] at hne
          have HNE : Hid (ne ≤ i * D ∧ i * D ≤ ne) := Lib.hid (by omega)
          clear hq hne hM hW how2 hbw hb7
          clear aa ab ac af al oa ob oc of ol
          by_cases hlen : i ≤ s.ps.length
          · have hkpi : kp ≤ i ∧ i ≤ kp := by omega
            clear hkp
            rcases Nat.eq_zero_or_pos i with h0 | h0
            · have hv : vb = true := by rw [HHV.out]; exact se_yes hlen (.inl h0)
              obtain ⟨hv1, hv2⟩ := HYES.out s hv HXS.out
              have hv3 : vv = [] := by rw [hv1, h0]; rfl
              have hv4 : vn = 0 := by rw [hv2, h0]
              have HV := Lib.hid hv
              have HV1 := Lib.hid hv3
              have HV2 := Lib.hid hv4
              have hi0 : (i : Int) ≤ 0 := by omega
              have hkpi2 : (i : Int) ≤ (kp : Int) := by omega
              clear hv hv1 hv2 hv3 hv4 hlen he hp h0
              go_wp2_with fail
              refine wp_loop_rounds 1 ?_
              rw [rounds_succ]
              go_wp2_with fail
              go_ret2
              rw [HV.out, HV1.out, HV2.out]
              exact ⟨_, _, _, rfl, OF.empty _ (w7.heap.size + 1) (by simp) (by simp; omega), Kw⟩
            · obtain ⟨gp, rfl, hgp1, hgp2⟩ := hp.begins (by omega)
              have cp := hp.cell (i - 1) (by omega)
              obtain ⟨z, hz⟩ : ∃ z, s.ps.getD (i - 1) 0 = z := ⟨_, rfl⟩
              have hzb := HPI.out (i - 1) (by omega)
              have HZ := Lib.hid hz
              rw [hz] at cp hzb
              have hi0 : (0 : Int) < (i : Int) := by omega
              have hkpi2 : (i : Int) ≤ (kp : Int) := by omega
              have hb57 : decide ((kp : Int) < (i : Int)) = false := decide_eq_false (by omega)
              have hb61 : decide ((0 : Int) < (i : Int)) = true := decide_eq_true (by omega)
              have hb62 : decide (0 < i) = true := decide_eq_true h0
              have hb58 : decide (kp < i) = false := decide_eq_false (by omega)
              have gi : 0 ≤ (i : Int) - 1 ∧ (i : Int) - 1 < (kp : Int) := by omega
              have ei : ((i : Int) - 1).toNat = i - 1 := by omega
              have EI := Lib.hid ei
              clear hz ei
              by_cases hzi : z = (i : Int) - 1
              · have hv : vb = true := by rw [HHV.out]; exact se_yes hlen (.inr (by rw [HZ.out]; omega))
                obtain ⟨hv1, hv2⟩ := HYES.out s hv HXS.out
                have HV := Lib.hid hv
                have HV1 := Lib.hid hv1
                have HV2 := Lib.hid hv2
                have hzb2 : (z != (i : Int) - 1) = false := by simpa using hzi
                clear hv hv1 hv2 hzi
                go_wp2_with fail
                have hwr7 : w1.heap.size ≤ wr.heap.size := by omega
                have hE : BM ((w7.alloc (.cells #[.int .i64 i, .int .i64 D, .slice Ae ne ce] 26)).alloc (.cells #[] 84)) w7.heap.size i D Ae ne ce := Ka
                have he2 : OR ((w7.alloc (.cells #[.int .i64 i, .int .i64 D, .slice Ae ne ce] 26)).alloc (.cells #[] 84)) w1.heap.size (.slice Ae ne ce) (tb i D s.f) := by
                  have he3 := OR.mono he hwr7
                  (with_reducible (repeat (first | exact he3 | refine OR.drew ?_ | refine OR.drewN ?_ _ | refine OR.alloc ?_ _ | refine OR.b_ ?_ | refine OR.l_ ?_)))
                have hout : OF ((w7.alloc (.cells #[.int .i64 i, .int .i64 D, .slice Ae ne ce] 26)).alloc (.cells #[] 84)) (w7.heap.size + 1) (.slice (some ⟨w7.heap.size + 1, 0, none⟩) 0 0) 0 (seL s i 0) := OF.empty _ (w7.heap.size + 1) (by simp) (by simp)
                have hbw : Below w.heap.size w ((w7.alloc (.cells #[.int .i64 i, .int .i64 D, .slice Ae ne ce] 26)).alloc (.cells #[] 84)) := Kw
                have HUE : Hid (Own (.slice Ae ne ce) w1.heap.size w7.heap.size) := Lib.hid (he.own.wide hwr7 (Nat.le_refl _))
                have hsz7w : w.heap.size ≤ w7.heap.size := by omega
                generalize hbE : w7.heap.size = bE at *
                generalize hwo : (w7.alloc (.cells #[.int .i64 i, .int .i64 D, .slice Ae ne ce] 26)).alloc (.cells #[] 84) = wo at *
                clear hwo hbw7 hp he cp
                go_loopw [12, 13] (fun u v wr => ∃ (k : Nat) (P2 : Option Addr) (pc2 : Nat), v = .int .i64 k ∧ u = .slice P2 k pc2 ∧ k ≤ i ∧ BM wr bE i D Ae ne ce ∧ OR wr w1.heap.size (.slice Ae ne ce) (tb i D s.f) ∧ OF wr (bE + 1) (.slice P2 k pc2) k (seL s i k) ∧ Below w.heap.size w wr) (fun _ v _ => i - (intOf v).toNat)
                case atStart => exact ⟨0, _, _, rfl, rfl, Nat.zero_le _, hE, he2, hout, hbw⟩
                case round =>
                  clear hE he2 hout hbw
                  obtain ⟨k, P2, pc2, rfl, rfl, hk, hE, he, hout, hbw⟩ := hrel
                  have hlE := hE.lt
                  have hszk := hbw.size
                  by_cases hki : k < i
                  · have hix := idx_nat hki (show i < D by omega)
                    have hiy := idx_nat hki (show k < D by omega)
                    have e1 : (k : Int) * (D : Int) = ((k * D : Nat) : Int) := by rw [Int.natCast_mul]
                    have e2 : 0 ≤ (k : Int) * (D : Int) ∧ (k : Int) * (D : Int) ≤ 10000 := by omega
                    have e3 : (k : Int) * (D : Int) + (i : Int) < (ne : Int) := by have := HNE.out; omega
                    have e4 : (k : Int) * (D : Int) + (k : Int) < (ne : Int) := by have := HNE.out; omega
                    have HC1 : Hid (cel (tb i D s.f) D k i = s.f k i) := Lib.hid (cel_tb hki (by omega))
                    have HC2 : Hid (cel (tb i D s.f) D k k = s.f k k) := Lib.hid (cel_tb hki (by omega))
                    have HSF : Hid (seL s i (k + 1) = seL s i k ++ [(makR (s.f k i) (s.f k k)).1, (makR (s.f k i) (s.f k k)).2]) := Lib.hid rfl
                    clear e1 hix hiy
                    obtain ⟨ea, eb, ec, ef, el⟩ := hE.mx
                    go_wp2_with fail
                    ((refine wp_region_held_drew (S := (fun w' => w'.cell? ⟨bE, 0, none⟩ = some (.int .i64 i) ∧ w'.cell? ⟨bE, 1, none⟩ = some (.int .i64 D) ∧ w'.cell? ⟨bE, 2, none⟩ = some (.slice Ae ne ce))) (by kernel_rfl) ?_ (fun hHeld => ?_)); ((focus ((try dsimp only); (go_keep)))); ((refine tk_ (i := 0) (v := ?_) (y := Or.inl ⟨by rfl, ?_⟩) (h := ?_); rotate_left; (focus (((intro w hSw; (try dsimp only at hSw); go_simp) <;> (try with_reducible rfl)); done)); (try simp only [Act.put, p1_, p2_, p3_]))); ((refine tk_ (i := 1) (v := ?_) (y := Or.inl ⟨by rfl, ?_⟩) (h := ?_); rotate_left; (focus (((intro w hSw; (try dsimp only at hSw); go_simp) <;> (try with_reducible rfl)); done)); (try simp only [Act.put, p1_, p2_, p3_]))); ((refine tk_ (i := 2) (v := ?_) (y := Or.inl ⟨by rfl, ?_⟩) (h := ?_); rotate_left; (focus (((intro w hSw; (try dsimp only at hSw); go_simp) <;> (try with_reducible rfl)); done)); (try simp only [Act.put, p1_, p2_, p3_]))); ((refine tk_ (i := 3) (v := ?_) (y := Or.inl ⟨by rfl, ?_⟩) (h := ?_); rotate_left; (focus (((intro w hSw; (try dsimp only at hSw); go_simp) <;> (try with_reducible rfl)); done)); (try simp only [Act.put, p1_, p2_, p3_]))); ((refine tk_ (i := 5) (v := ?_) (y := Or.inl ⟨by rfl, ?_⟩) (h := ?_); rotate_left; (focus (((intro w hSw; (try dsimp only at hSw); go_simp) <;> (try with_reducible rfl)); done)); (try simp only [Act.put, p1_, p2_, p3_]))); ((refine tk_ (i := 6) (v := ?_) (y := Or.inl ⟨by rfl, ?_⟩) (h := ?_); rotate_left; (focus (((intro w hSw; (try dsimp only at hSw); go_simp) <;> (try with_reducible rfl)); done)); (try simp only [Act.put, p1_, p2_, p3_]))); ((refine tk_ (i := 7) (v := ?_) (y := Or.inl ⟨by rfl, ?_⟩) (h := ?_); rotate_left; (focus (((intro w hSw; (try dsimp only at hSw); go_simp) <;> (try with_reducible rfl)); done)); (try simp only [Act.put, p1_, p2_, p3_]))); ((refine wpAnyH_ready (rs := [4]) (by kernel_rfl) (by simp) ?_; refine AllReadyH.cons (by simp only [e1_, e2_, e3_]; try rfl) (fun K hK => ?_) AllReadyH.nil; go_simp; (refine (impl_at i D k i Ae ne ce (tb i D s.f) _ (OR.reads (B := w1.heap.size) (cap := ce) (Ko he)) (Nat.le_refl _) e2 ⟨by omega, by omega⟩ e3).mono ?_; rw [HC1.out]; rintro e w8 ⟨rfl, hb8⟩; have hsz_0 := hb8.size; (try simp at hsz_0); have hE_1 : BM w8 bE i D Ae ne ce := (Kb hE); have he_1 : OR w8 w1.heap.size (.slice Ae ne ce) (tb i D s.f) := (Ko he); have hout_1 : OF w8 (bE + 1) (.slice P2 k pc2) k (seL s i k) := (by (with_reducible (repeat (first | exact hout | refine OF.drew ?_ | refine OF.drewN ?_ _ | refine OF.alloc ?_ _ | refine OF.b_ ?_ | refine OF.l_ ?_)))); have hbw_1 : Below w.heap.size w w8 := Kw; clear ea eb ec ef el; clear hE he hout hbw; have hE := hE_1; have he := he_1; have hout := hout_1; have hbw := hbw_1; clear hE_1 he_1 hout_1 hbw_1; obtain ⟨ea, eb, ec, ef, el⟩ := hE.mx); (try go_wp2_with fail); refine hK.out _ _ ?_ (fun hHeld => ?_); (focus ((try dsimp only); (go_keep))); clear hK K; (try simp only [Act.put, p1_, p2_, p3_]))); ((refine wpAnyH_ready (rs := [8]) (by kernel_rfl) (by simp) ?_; refine AllReadyH.cons (by simp only [e1_, e2_, e3_]; try rfl) (fun K hK => ?_) AllReadyH.nil; go_simp; (refine (impl_at i D k k Ae ne ce (tb i D s.f) _ (OR.reads (B := w1.heap.size) (cap := ce) (Ko he)) (Nat.le_refl _) e2 ⟨by omega, by omega⟩ e4).mono ?_; rw [HC2.out]; rintro e w9 ⟨rfl, hb9⟩; have hsz_0 := hb9.size; (try simp at hsz_0); have hE_1 : BM w9 bE i D Ae ne ce := (Kb hE); have he_1 : OR w9 w1.heap.size (.slice Ae ne ce) (tb i D s.f) := (Ko he); have hout_1 : OF w9 (bE + 1) (.slice P2 k pc2) k (seL s i k) := (by (with_reducible (repeat (first | exact hout | refine OF.drew ?_ | refine OF.drewN ?_ _ | refine OF.alloc ?_ _ | refine OF.b_ ?_ | refine OF.l_ ?_)))); have hbw_1 : Below w.heap.size w w9 := Kw; clear ea eb ec ef el; clear hE he hout hbw; have hE := hE_1; have he := he_1; have hout := hout_1; have hbw := hbw_1; clear hE_1 he_1 hout_1 hbw_1; obtain ⟨ea, eb, ec, ef, el⟩ := hE.mx); (try go_wp2_with fail); refine hK.out _ _ ?_ (fun hHeld => ?_); (focus ((try dsimp only); (go_keep))); clear hK K; (try simp only [Act.put, p1_, p2_, p3_]))); ((refine wpAnyH_ready (rs := [9]) (by kernel_rfl) (by simp) ?_; refine AllReadyH.cons (by simp only [e1_, e2_, e3_]; try rfl) (fun K hK => ?_) AllReadyH.nil; go_simp; (refine (impl_MakeRatio _ _ _).mono ?_; obtain ⟨q, hq⟩ : ∃ q, makR (s.f k i) (s.f k k) = q := ⟨_, rfl⟩; rw [hq] at HSF ⊢; clear hq; rintro e w10 ⟨rfl, hb10⟩; unfold rV; have hsz_0 := hb10.size; (try simp at hsz_0); have hE_1 : BM w10 bE i D Ae ne ce := (Kb hE); have he_1 : OR w10 w1.heap.size (.slice Ae ne ce) (tb i D s.f) := (Ko he); have hout_1 : OF w10 (bE + 1) (.slice P2 k pc2) k (seL s i k) := (by (with_reducible (repeat (first | exact hout | refine OF.drew ?_ | refine OF.drewN ?_ _ | refine OF.alloc ?_ _ | refine OF.b_ ?_ | refine OF.l_ ?_)))); have hbw_1 : Below w.heap.size w w10 := Kw; clear ea eb ec ef el; clear hE he hout hbw; have hE := hE_1; have he := he_1; have hout := hout_1; have hbw := hbw_1; clear hE_1 he_1 hout_1 hbw_1; obtain ⟨ea, eb, ec, ef, el⟩ := hE.mx); (try go_wp2_with fail); refine hK.out _ _ ?_ (fun hHeld => ?_); (focus ((try dsimp only); (go_keep))); clear hK K; (try simp only [Act.put, p1_, p2_, p3_]))); ((refine wpAnyH_ready (rs := [10]) (by kernel_rfl) (by simp) ?_; refine AllReadyH.cons (by simp only [e1_, e2_, e3_]; try rfl) (fun K hK => ?_) AllReadyH.nil; go_simp; (try go_wp2_with fail); refine hK.out _ _ ?_ (fun hHeld => ?_); (focus ((try dsimp only); (go_keep))); clear hK K; (try simp only [Act.put, p1_, p2_, p3_]))); ((refine wpAnyH_ready (rs := [11]) (by kernel_rfl) (by simp) ?_; refine AllReadyH.cons (by simp only [e1_, e2_, e3_]; try rfl) (fun K hK => ?_) AllReadyH.nil; (refine step_append_ratio _ rfl (.tmp 80) (.tmp 90) rfl (bE + 1) (.slice P2 k pc2) k (seL s i k) rfl (by (with_reducible (repeat (first | exact hout | refine OF.drew ?_ | refine OF.drewN ?_ _ | refine OF.alloc ?_ _ | refine OF.b_ ?_ | refine OF.l_ ?_)))) _ q.1 q.2 rfl (by simp [go_sem]) (by simp [go_sem]) (by omega) Ks ?_; intro v1 w11 hown1 hgr hat; have hsz11 := hgr.size; (try simp at hsz11); have hE_1 : BM w11 bE i D Ae ne ce := BX.grown (Kb hE) hgr (OF.ne_low hout (by omega)); have he_1 : OR w11 w1.heap.size (.slice Ae ne ce) (tb i D s.f) := OR.keptOwn (Ko he) hgr HUE.out (OF.own hout) (.inl (by omega)); have hbw_1 : Below w.heap.size w w11 := Below.trans Kw ((OF.below_grown (B := bE + 1) (n := k) (xs := seL s i k) (by (with_reducible (repeat (first | exact hout | refine OF.drew ?_ | refine OF.drewN ?_ _ | refine OF.alloc ?_ _ | refine OF.b_ ?_ | refine OF.l_ ?_)))) hgr Ks).mono (by omega)); rw [← HSF.out] at hown1; clear hgr hat; obtain ⟨P3, pc3, rfl⟩ := hown1.shape; clear ea eb ec ef el; clear hE he hout hbw; have hE := hE_1; have he := he_1; have hbw := hbw_1; clear hE_1 he_1 hbw_1; obtain ⟨ea, eb, ec, ef, el⟩ := hE.mx); refine hK.out _ _ ?_ (fun hHeld => ?_); (focus ((try dsimp only); (go_keep))); clear hK K; (try simp only [Act.put, p1_, p2_, p3_]))); ((refine tk_ (i := 12) (v := ?_) (y := Or.inl ⟨by rfl, ?_⟩) (h := ?_); rotate_left; (focus (((intro w hSw; (try dsimp only at hSw); go_simp) <;> (try with_reducible rfl)); done)); (try simp only [Act.put, p1_, p2_, p3_]))); (refine wpAnyH_done (by kernel_rfl) ?_ _))
                    go_wp2_with fail
                    go_roundw
                    case rel => exact ⟨k + 1, P3, pc3, by go_num, rfl, by omega, Kb hE, Ko he, by (with_reducible (repeat (first | exact hown1 | refine OF.drew ?_ | refine OF.drewN ?_ _ | refine OF.alloc ?_ _ | refine OF.b_ ?_ | refine OF.l_ ?_))), Kw⟩
                    case measure => simp only [intOf]; omega
                  · obtain rfl : k = i := by omega
                    go_wp2_with fail
                    go_ret2
                    rw [HV.out, HV1.out, HV2.out]
                    exact ⟨_, _, _, rfl, OF.mono (B := bE + 1) (by (with_reducible (repeat (first | exact hout | refine OF.drew ?_ | refine OF.drewN ?_ _ | refine OF.alloc ?_ _ | refine OF.b_ ?_ | refine OF.l_ ?_)))) (by omega), Kw⟩
              · have hv : vb = false := by rw [HHV.out]; exact se_no2 h0 (by rw [HZ.out]; omega)
                obtain ⟨hv1, hv2⟩ := HNO.out hv
                have HV := Lib.hid hv
                have HV1 := Lib.hid hv1
                have HV2 := Lib.hid hv2
                have hzb2 : (z != (i : Int) - 1) = true := by simpa using hzi
                clear hv hv1 hv2 hzi he
                go_wp2_with fail
                go_ret2
                rw [HV.out, HV1.out, HV2.out]
                exact ⟨_, _, _, rfl, OF.empty _ (w7.heap.size + 1) (by simp) (by simp; omega), Kw⟩
          · have hv : vb = false := by rw [HHV.out]; exact se_no1 hlen
            obtain ⟨hv1, hv2⟩ := HNO.out hv
            have HV := Lib.hid hv
            have HV1 := Lib.hid hv1
            have HV2 := Lib.hid hv2
            have hkpi : (kp : Int) < (i : Int) := by omega
            clear hv hv1 hv2 hkp hlen he hp
            go_wp2_with fail
            go_ret2
            rw [HV.out, HV1.out, HV2.out]
            exact ⟨_, _, _, rfl, OF.empty _ (w7.heap.size + 1) (by simp) (by simp; omega), Kw⟩
end Go.Proofs.Ytlggfmfelakadaa

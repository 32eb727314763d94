/-
  DERIVED. TransposeOf of the program.
-/
import Derived.Test.YtacjonkehcamgaaZS
import Derived.Test.YtacjonkehcamgaaZ1
import Derived.Test.YtacjonkehcamgaaMatOps
namespace Go.Proofs.Ytacjonkehcamgaa
open Go.RowKit
set_option linter.unusedVariables false
set_option linter.unusedSimpArgs false
/-- The turned matrix, its columns up to m done, column m up to k. -/
def trK (f : Nat → Nat → Int) (m k : Nat) : Nat → Nat → Int := fun a b => if b < m ∨ b = m ∧ a < k then f b a else 0
theorem trK_zero (f : Nat → Nat → Int) : trK f 0 0 = fun _ _ => 0 := by funext a b; simp [trK]
theorem trK_step {f : Nat → Nat → Int} {m k : Nat} : upd (trK f m k) k m (f m k) = trK f m (k + 1) := by funext a b; unfold upd trK; grind
theorem trK_row {R C : Nat} {f : Nat → Nat → Int} {m : Nat} : tb C R (trK f m C) = tb C R (trK f (m + 1) 0) := tb_ext fun a b ha hb => by unfold trK; grind
theorem trK_end {R C : Nat} (f : Nat → Nat → Int) : tb C R (trK f R 0) = tb C R (fun a b => f b a) := tb_ext fun a b ha hb => by unfold trK; grind
def trM (r c : Int) (xs : List Int) : Mx := if isMat r c xs then ⟨c, r, tb c.toNat r.toNat (fun a b => cel xs c b a)⟩ else .none
set_option maxRecDepth 100000 in
set_option maxHeartbeats 8000000 in
theorem impl_TransposeOf (r c : Int) (A : Option Addr) (n cap : Nat) (xs : List Int) (w : World) {B : Nat} (h : RI w B A n xs) (hB : B ≤ w.heap.size) (hn : n ≤ 1048576) :
    Calls Try.prog 63 #[.agg #[.int .i64 r, .int .i64 c, .slice A n cap]] w (MBR (trM r c xs) (isMat r c xs) w) := by
  have hln := h.len
  have H2 := Lib.hid (h.more hB)
  clear h
  rcases hm : isMat r c xs with _ | _
  · have hv : trM r c xs = .none := by unfold trM; rw [hm]; rfl
    rw [hv]
    have HM := Lib.hid hm
    clear hm hv hln
    go_enter Try.func63, Try.ntmps63
    go_wp2_with fail
    refine (impl_IsMatrix r c A n cap xs _ (C := w.heap.size) (Kr H2.out) Ks hn).mono ?_
    rw [HM.out]
    rintro e w1 ⟨rfl, hb⟩
    have hsz := hb.size
    simp at hsz
    have hR : BM w1 (w.heap.size + 1) 0 0 none 0 0 := Ka
    have hbw : Below w.heap.size w w1 := Kw
    obtain ⟨ra, rb, rc, rf, rl⟩ := hR.mx
    go_wp2_with fail
    refine ret_MB (r := 0) (c := 0) (A := none) (n := 0) (cap := 0) Try.results63 rfl (Kb hR) rfl ?_
    exact MBR.mk rfl (OR.nil_ _ _) Kw
  · have hv : trM r c xs = ⟨c, r, tb c.toNat r.toNat (fun a b => cel xs c b a)⟩ := by unfold trM; rw [hm]; rfl
    have HV := Lib.hid hv
    have HM := Lib.hid hm
    have M := isMat_iff.1 hm
    have hr1 := M.r1
    have hc1 := M.c1
    have hMl := M.len
    obtain ⟨R, rfl⟩ := nat_of M.r0
    obtain ⟨C, rfl⟩ := nat_of M.c0
    have hln2 : R * C ≤ n ∧ n ≤ R * C := by rw [← Int.natCast_mul] at hMl; omega
    have hRC : R * C ≤ 24 * 24 := Nat.mul_le_mul (by omega) (by omega)
    have hCR : C * R ≤ 24 * 24 := Nat.mul_le_mul (by omega) (by omega)
    simp only [Int.toNat_natCast] at HV
    have HFC : Hid (∀ i j : Nat, cel xs C i j = (fun a b : Nat => cel xs C a b) i j) := Lib.hid (fun i j => rfl)
    have HVT : Hid (tb C R (fun a b : Nat => cel xs C b a) = tb C R (fun a b => (fun a b : Nat => cel xs C a b) b a)) := Lib.hid rfl
    generalize (fun a b : Nat => cel xs C a b) = f at *
    generalize trM (R : Int) (C : Int) xs = vm at *
    clear hm hv M hMl hln
    go_enter Try.func63, Try.ntmps63
    go_wp2_with fail
    refine (impl_IsMatrix R C A n cap xs _ (C := w.heap.size) (Kr H2.out) Ks hn).mono ?_
    rw [HM.out]
    rintro e w1 ⟨rfl, hb1⟩
    have hsz1 := hb1.size
    simp at hsz1
    have hA1 : BM w1 w.heap.size R C A n cap := Ka
    have hR1 : BM w1 (w.heap.size + 1) 0 0 none 0 0 := Ka
    have hbw1 : Below w.heap.size w w1 := Kw
    obtain ⟨aa, ab, ac, af, al⟩ := hA1.mx
    go_wp2_with fail
    refine (impl_newMatrix C R _ (by omega) (by omega) (by omega)).mono ?_
    rintro e w2 ⟨Ao, no, co, rfl, how0, hb2⟩
    have hsz2 := hb2.size
    generalize hbO : w2.heap.size = bO at *
    have hA : BM (w2.alloc (.cells #[.int .i64 C, .int .i64 R, .slice Ao no co] 26)) w.heap.size R C A n cap := Kb hA1
    have hR : BM (w2.alloc (.cells #[.int .i64 C, .int .i64 R, .slice Ao no co] 26)) (w.heap.size + 1) 0 0 none 0 0 := Kb hR1
    have hO : BM (w2.alloc (.cells #[.int .i64 C, .int .i64 R, .slice Ao no co] 26)) bO C R Ao no co := Ka
    have hown : OR (w2.alloc (.cells #[.int .i64 C, .int .i64 R, .slice Ao no co] 26)) (w.heap.size + 1 + 1) (.slice Ao no co) (tb C R (trK f 0 0)) := by
      rw [trK_zero, tb_zeros]; exact (OR.mono (xs := List.replicate (C * R) 0) how0 (by omega)).alloc _
    have hbw : Below w.heap.size w (w2.alloc (.cells #[.int .i64 C, .int .i64 R, .slice Ao no co] 26)) := Kw
    have HU : Hid (Own (.slice Ao no co) (w.heap.size + 1 + 1) bO) := Lib.hid (by rw [← hbO]; exact (OR.own (xs := List.replicate (C * R) 0) how0).wide (by omega) (Nat.le_refl _))
    have hno := hown.lenEq
    rw [tb_len] at hno
    have HNO : Hid (no ≤ C * R ∧ C * R ≤ no) := Lib.hid (by omega)
    have hbO2 : w.heap.size + 1 + 1 ≤ bO := by omega
    clear hno hA1 hR1 hbw1 aa ab ac af al how0 hb1 hb2
    obtain ⟨aa, ab, ac, af, al⟩ := hA.mx; obtain ⟨oa, ob, oc, of, ol⟩ := hO.mx
    go_wp2_with fail
    generalize hwo : w2.alloc (.cells #[.int .i64 C, .int .i64 R, .slice Ao no co] 26) = wo at *
    clear hwo
    go_loopw [5] (fun v wr => ∃ i : Nat, v = .int .i64 i ∧ i ≤ R ∧ BM wr w.heap.size R C A n cap ∧ BM wr (w.heap.size + 1) 0 0 none 0 0 ∧ BM wr bO C R Ao no co ∧ OR wr (w.heap.size + 1 + 1) (.slice Ao no co) (tb C R (trK f i 0)) ∧ Below w.heap.size w wr) (fun v _ => R - (intOf v).toNat)
    case atStart => exact ⟨0, rfl, Nat.zero_le _, hA, hR, hO, hown, hbw⟩
    case round =>
      clear aa ab ac af al oa ob oc of ol
      clear hA hR hO hown hbw
      obtain ⟨i, rfl, hi, hA, hR, hO, hown, hbw⟩ := hrel
      obtain ⟨aa, ab, ac, af, al⟩ := hA.mx; obtain ⟨oa, ob, oc, of, ol⟩ := hO.mx
      by_cases hiR : i < R
      · go_wp2_with fail
        obtain ⟨wo2, rfl⟩ : ∃ wo : World, wo = wr := ⟨_, rfl⟩
        go_loopw [6] (fun v wr => ∃ j : Nat, v = .int .i64 j ∧ j ≤ C ∧ BM wr w.heap.size R C A n cap ∧ BM wr (w.heap.size + 1) 0 0 none 0 0 ∧ BM wr bO C R Ao no co ∧ OR wr (w.heap.size + 1 + 1) (.slice Ao no co) (tb C R (trK f i j)) ∧ Below w.heap.size w wr) (fun v _ => C - (intOf v).toNat)
        case atStart => exact ⟨0, rfl, Nat.zero_le _, hA, hR, hO, hown, hbw⟩
        case round =>
          clear aa ab ac af al oa ob oc of ol
          clear hA hR hO hown hbw
          obtain ⟨j, rfl, hj, hA, hR, hO, hown, hbw⟩ := hrel
          obtain ⟨aa, ab, ac, af, al⟩ := hA.mx; obtain ⟨oa, ob, oc, of, ol⟩ := hO.mx
          by_cases hjC : j < C
          · have hix := idx_nat hiR hjC
            have hiy := idx_nat hjC hiR
            have hno2 := HNO.out
            have i1 : (i : Int) * (C : Int) = ((i * C : Nat) : Int) := by rw [Int.natCast_mul]
            have j1 : (j : Int) * (R : Int) = ((j * R : Nat) : Int) := by rw [Int.natCast_mul]
            have i2 : 0 ≤ (i : Int) * (C : Int) ∧ (i : Int) * (C : Int) ≤ 10000 := by omega
            have j2 : 0 ≤ (j : Int) * (R : Int) ∧ (j : Int) * (R : Int) ≤ 10000 := by omega
            have i3 : (i : Int) * (C : Int) + (j : Int) < (n : Int) := by omega
            have j3 : (j : Int) * (R : Int) + (i : Int) < (no : Int) := by omega
            have e4 : ((j : Int) * (R : Int) + (i : Int)).toNat = j * R + i := by omega
            have E4 := Lib.hid e4
            have HC := Lib.hid (HFC.out i j)
            have HST := Lib.hid (tb_set (R := C) (C := R) (i := j) (j := i) (f := trK f i j) (v := f i j) hjC hiR)
            clear i1 j1 e4 hix hiy hno2
            go_wp2_with fail
            ((refine wp_region_held_drew (S := (fun w' => w'.cell? ⟨w.heap.size, 0, none⟩ = some (.int .i64 R) ∧ w'.cell? ⟨w.heap.size, 1, none⟩ = some (.int .i64 C) ∧ w'.cell? ⟨w.heap.size, 2, none⟩ = some (.slice A n cap) ∧ w'.cell? ⟨bO, 0, none⟩ = some (.int .i64 C) ∧ w'.cell? ⟨bO, 1, none⟩ = some (.int .i64 R) ∧ w'.cell? ⟨bO, 2, none⟩ = some (.slice Ao no co))) (by kernel_rfl) ?_ (fun hHeld => ?_)); ((focus ((try dsimp only); (go_keep)))); ((refine tk_ (i := 0) (v := ?_) (y := Or.inl ⟨by rfl, ?_⟩) (h := ?_); rotate_left; (focus (((intro w hSw; (try dsimp only at hSw); go_simp) <;> (try with_reducible rfl)); done)); (try simp only [Act.put, p1_, p2_, p3_]))); ((refine tk_ (i := 1) (v := ?_) (y := Or.inl ⟨by rfl, ?_⟩) (h := ?_); rotate_left; (focus (((intro w hSw; (try dsimp only at hSw); go_simp) <;> (try with_reducible rfl)); done)); (try simp only [Act.put, p1_, p2_, p3_]))); ((refine tk_ (i := 2) (v := ?_) (y := Or.inl ⟨by rfl, ?_⟩) (h := ?_); rotate_left; (focus (((intro w hSw; (try dsimp only at hSw); go_simp) <;> (try with_reducible rfl)); done)); (try simp only [Act.put, p1_, p2_, p3_]))); ((refine tk_ (i := 3) (v := ?_) (y := Or.inl ⟨by rfl, ?_⟩) (h := ?_); rotate_left; (focus (((intro w hSw; (try dsimp only at hSw); go_simp) <;> (try with_reducible rfl)); done)); (try simp only [Act.put, p1_, p2_, p3_]))); ((refine tk_ (i := 4) (v := ?_) (y := Or.inl ⟨by rfl, ?_⟩) (h := ?_); rotate_left; (focus (((intro w hSw; (try dsimp only at hSw); go_simp) <;> (try with_reducible rfl)); done)); (try simp only [Act.put, p1_, p2_, p3_]))); ((refine tk_ (i := 5) (v := ?_) (y := Or.inl ⟨by rfl, ?_⟩) (h := ?_); rotate_left; (focus (((intro w hSw; (try dsimp only at hSw); go_simp) <;> (try with_reducible rfl)); done)); (try simp only [Act.put, p1_, p2_, p3_]))); ((refine wpAnyH_ready (rs := [6]) (by kernel_rfl) (by simp) ?_; refine AllReadyH.cons (by simp only [e1_, e2_, e3_]; try rfl) (fun K hK => ?_) AllReadyH.nil; go_simp; (refine (impl_at R C i j A n cap xs _ (C := w.heap.size) (Kr H2.out) Ks i2 ⟨by omega, by omega⟩ i3).mono ?_; rw [HC.out]; rintro e w3 ⟨rfl, hb3⟩; have hsz_0 := hb3.size; (try simp at hsz_0); have hA_1 : BM w3 w.heap.size R C A n cap := (Kb hA); have hR_1 : BM w3 (w.heap.size + 1) 0 0 none 0 0 := (Kb hR); have hO_1 : BM w3 bO C R Ao no co := (Kb hO); have hown_1 : OR w3 (w.heap.size + 1 + 1) (.slice Ao no co) (tb C R (trK f i j)) := (Ko hown); have hbw_1 : Below w.heap.size w w3 := Kw; clear aa ab ac af al oa ob oc of ol; clear hA hR hO hown hbw; have hA := hA_1; have hR := hR_1; have hO := hO_1; have hown := hown_1; have hbw := hbw_1; clear hA_1 hR_1 hO_1 hown_1 hbw_1; obtain ⟨aa, ab, ac, af, al⟩ := hA.mx; obtain ⟨oa, ob, oc, of, ol⟩ := hO.mx); (try go_wp2_with fail); refine hK.out _ _ ?_ (fun hHeld => ?_); (focus ((try dsimp only); (go_keep))); clear hK K; (try simp only [Act.put, p1_, p2_, p3_]))); ((refine wpAnyH_ready (rs := [7]) (by kernel_rfl) (by simp) ?_; refine AllReadyH.cons (by simp only [e1_, e2_, e3_]; try rfl) (fun K hK => ?_) AllReadyH.nil; go_simp; (refine (impl_set C R j i _ Ao no co _ _ (B := w.heap.size + 1 + 1) (Ko hown) j2 ⟨by omega, by omega⟩ j3).mono ?_; rintro e w4 ⟨rfl, hst_0, hgr_0, hsz_0⟩; rw [E4.out, HST.out, trK_step] at hst_0; have hA_1 := BX.keptOwn (b := w.heap.size) (Kb hA) hgr_0 HU.out (by omega); have hR_1 := BX.keptOwn (b := w.heap.size + 1) (Kb hR) hgr_0 HU.out (by omega); have hO_1 := BX.keptOwn (b := bO) (Kb hO) hgr_0 HU.out (by omega); have hbw_1 : Below w.heap.size w w4 := Below.trans Kw (below_keptOwn hgr_0 HU.out (by omega) Ks); have hown_1 := hst_0; clear hgr_0 hst_0; clear aa ab ac af al oa ob oc of ol; clear hA hR hO hown hbw; have hA := hA_1; have hR := hR_1; have hO := hO_1; have hown := hown_1; have hbw := hbw_1; clear hA_1 hR_1 hO_1 hown_1 hbw_1; obtain ⟨aa, ab, ac, af, al⟩ := hA.mx; obtain ⟨oa, ob, oc, of, ol⟩ := hO.mx); (try go_wp2_with fail); refine hK.out _ _ ?_ (fun hHeld => ?_); (focus ((try dsimp only); (go_keep))); clear hK K; (try simp only [Act.put, p1_, p2_, p3_]))); (refine wpAnyH_done (by kernel_rfl) ?_ _))
            go_wp2_with fail
            go_roundw
            case rel => exact ⟨j + 1, by go_num, by omega, Kb hA, Kb hR, Kb hO, Ko hown, Kw⟩
            case measure => simp only [intOf]; omega
          · obtain rfl : j = C := by omega
            have hown2 := hown.as trK_row
            clear hown
            go_wp2_with fail
            go_roundw
            case rel => exact ⟨i + 1, by go_num, by omega, Kb hA, Kb hR, Kb hO, Ko hown2, Kw⟩
            case measure => simp only [intOf]; omega
      · obtain rfl : i = R := by omega
        have hown2 := hown.as (trK_end f)
        obtain ⟨ra, rb, rc, rf, rl⟩ := hR.mx
        clear hown
        go_wp2_with fail
        refine ret_MB (r := C) (c := i) (A := Ao) (n := no) (cap := co) Try.results63 rfl (Kb hR) rfl ?_
        rw [HV.out]
        exact MBR.mk (by rw [HVT.out]) (OR.mono (B := w.heap.size + 1 + 1) (Ko hown2) (by omega)) Kw
end Go.Proofs.Ytacjonkehcamgaa

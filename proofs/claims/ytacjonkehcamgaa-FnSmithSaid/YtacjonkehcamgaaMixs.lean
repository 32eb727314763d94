/-
  DERIVED. The laws' mix: a unimodular matrix drawn by bytes.
-/
import Derived.Test.YtacjonkehcamgaaU3
import Derived.Test.YtacjonkehcamgaaU4
import Derived.Test.YtacjonkehcamgaaU2
namespace Go.Proofs.Ytacjonkehcamgaa
open Go.RowKit
set_option linter.unusedVariables false
set_option linter.unusedSimpArgs false
/-- A step of mix: still small, still unimodular. -/
structure MixF (N b : Nat) (f : Fn2) : Prop where
  small : ∀ x y, (f x y).natAbs ≤ b
  spn : SPN N N idF f
theorem MixF.nb {N b : Nat} {f : Fn2} (h : MixF N b f) (hb : b ≤ 64) : NBF f := fun x y => .inr (by have := h.small x y; omega)
theorem MixF.ok {N b : Nat} {f : Fn2} (h : MixF N b f) (hb : b ≤ 64) : OKF N N f := fun x y _ _ => by
  have := h.small x y
  exact ⟨by omega, by omega⟩
theorem isMat_tbS {N : Nat} {f : Fn2} (hN : N ≤ 24) (h : OKF N N f) : isMat N N (tb N N f) = true :=
  isMat_iff.2 ⟨by omega, by omega, by omega, by omega, by rw [tb_len]; simp, by
    rw [List.all_eq_true]
    exact tb_mem fun i j hi hj => (h i j hi hj).isN⟩
theorem MixF.start (N : Nat) : MixF N 1 idF := ⟨fun x y => by unfold idF; split <;> decide, SPN.refl _ _ _⟩
theorem MixF.step {N b k j : Nat} {f : Fn2} {t : Int} (h : MixF N b f) (hb : b ≤ 32) (hk : k < N) (hj : j < N) (hkj : k ≠ j) (ht : -1 ≤ t ∧ t ≤ 1) : MixF N (2 * b) (opA f k j t) := by
  have hv : ∀ y, opA f k j t k y = f k y + f j y * t ∧ (f k y + f j y * t).natAbs ≤ 2 * b := fun y => by
    have h1 := h.small k y
    have h2 := h.small j y
    have h3 : (f j y * t).natAbs ≤ b := by
      rw [Int.natAbs_mul]
      have := Nat.mul_le_mul h2 (show t.natAbs ≤ 1 by omega)
      omega
    generalize hm : f j y * t = m at *
    refine ⟨?_, by omega⟩
    unfold opA
    rw [if_pos rfl, mulF_num (by omega) (by omega), hm, fit_in (by omega), addB_num (by omega) (by omega), fit_in (by omega)]
  refine ⟨fun x y => ?_, h.spn.add hk hj hkj (fun y _ => (hv y).1) (fun x y _ _ hne => opA_other hne)⟩
  by_cases e : x = k
  · subst e
    rw [(hv y).1]; exact (hv y).2
  · rw [opA_other e]
    have := h.small x y; omega
theorem mixJ {N k : Nat} {q : Int} (hk : k < N) (hN : 2 ≤ N) (hq : 0 ≤ q ∧ q < (N : Int) - 1) : ∃ j : Nat, ((k : Int) + 1 + q) % (N : Int) = j ∧ j < N ∧ k ≠ j := by
  have h1 := Int.emod_nonneg ((k : Int) + 1 + q) (show (N : Int) ≠ 0 by omega)
  have h2 := Int.emod_lt_of_pos ((k : Int) + 1 + q) (show (0 : Int) < N by omega)
  obtain ⟨j, hj⟩ := nat_of h1
  refine ⟨j, hj, by omega, fun e => ?_⟩
  subst e
  have h3 := Int.emod_add_mul_ediv ((k : Int) + 1 + q) N
  rw [hj] at h3
  generalize ((k : Int) + 1 + q) / N = d at h3
  have h4 : (N : Int) * d = 1 + q := by omega
  rcases Int.lt_or_le d 1 with hd | hd
  · have : (N : Int) * d ≤ 0 := by
      have := Int.mul_le_mul_of_nonneg_left (show d ≤ 0 by omega) (show (0 : Int) ≤ N by omega)
      simpa using this
    omega
  · have := Int.mul_le_mul_of_nonneg_left hd (show (0 : Int) ≤ N by omega)
    rw [Int.mul_one] at this
    omega
/-- The call returned a unimodular matrix. -/
def MXR (N : Nat) (w : World) (e : Ending) (w' : World) : Prop := ∃ (f : Fn2) (Am : Option Addr) (nm cm : Nat), e = .returned (.agg #[.int .i64 N, .int .i64 N, .slice Am nm cm]) ∧ OR w' w.heap.size (.slice Am nm cm) (tb N N f) ∧ MixF N 64 f ∧ Below w.heap.size w w'
set_option maxRecDepth 100000 in
set_option maxHeartbeats 8000000 in
theorem laws_mix (N : Nat) (A : Option Addr) (n cap : Nat) (xs : List Int) (w : World) (hby : RB w w.heap.size A n xs) (hn : n ≤ 2000000) (hN : N ≤ 24) :
    Calls Try.prog 52 #[.slice A n cap, .int .i64 N] w (MXR N w) := by
  have HBY := Lib.hid hby
  clear hby
  go_enter Try.func52, Try.ntmps52
  go_wp2_with fail
  refine (laws_unit N _ hN).mono ?_
  rintro e w1 ⟨A1, n1, c1, rfl, ho1, hb1⟩
  have hs1 := hb1.size
  simp at hs1
  have hR1 : BM w1 w.heap.size 0 0 none 0 0 := Ka
  have hR : BM (w1.alloc (.cells #[.int .i64 N, .int .i64 N, .slice A1 n1 c1] 26)) w.heap.size 0 0 none 0 0 := Kb hR1
  have hM : BM (w1.alloc (.cells #[.int .i64 N, .int .i64 N, .slice A1 n1 c1] 26)) w1.heap.size N N A1 n1 c1 := Ka
  have ho : OR (w1.alloc (.cells #[.int .i64 N, .int .i64 N, .slice A1 n1 c1] 26)) (w.heap.size + 1) (.slice A1 n1 c1) (tb N N idF) := OR.alloc (xs := tb N N idF) (OR.mono (xs := tb N N idF) ho1 (by simp)) _
  have hbw : Below w.heap.size w (w1.alloc (.cells #[.int .i64 N, .int .i64 N, .slice A1 n1 c1] 26)) := Kw
  have HLO := Lib.hid (show w.heap.size + 1 ≤ w1.heap.size by omega)
  clear hR1 ho1 hb1
  obtain ⟨oa, ob, oc, of, ol⟩ := hM.mx; obtain ⟨ra, rb, rc, rf, rl⟩ := hR.mx
  go_wp2_with fail
  generalize (w1.alloc (.cells #[.int .i64 N, .int .i64 N, .slice A1 n1 c1] 26)) = w2 at *
  generalize w1.heap.size = bM at *
  have hlo := HLO.out
  go_loopw [6] (fun v wr => ∃ (i : Nat) (f : Fn2) (Am : Option Addr) (nm cm : Nat), v = .int .i64 i ∧ i ≤ 6 ∧ i ≤ n ∧ MixF N (2 ^ i) f ∧ BM wr w.heap.size 0 0 none 0 0 ∧ BM wr bM N N Am nm cm ∧ OR wr (w.heap.size + 1) (.slice Am nm cm) (tb N N f) ∧ Below w.heap.size w wr) (fun v _ => n - (intOf v).toNat)
  case atStart => exact ⟨0, idF, A1, n1, c1, rfl, by omega, by omega, MixF.start N, Kb hR, Kb hM, Ko ho, Kw⟩
  case round =>
    clear hR hM ho hbw oa ob oc of ol ra rb rc rf rl
    obtain ⟨i, f, Am, nm, cm, rfl, hi6, hin, hF, hR, hM, ho, hbw⟩ := hrel
    have hsw := hbw.size
    have hlM := hM.lt
    have HF := Lib.hid hF
    have hp6 : 2 ^ i ≤ 64 := by have := Nat.pow_le_pow_right (show 0 < 2 by omega) hi6; omega
    clear hF
    obtain ⟨oa, ob, oc, of, ol⟩ := hM.mx; obtain ⟨ra, rb, rc, rf, rl⟩ := hR.mx
    by_cases hgo : i < n ∧ i < 6 ∧ 1 < N
    · obtain ⟨h1, h2, h3⟩ := hgo
      obtain ⟨b, o, rfl, hbb, hcells⟩ := HBY.out.2.1 (by omega)
      have cv := (hbw.cell (p := ⟨b, o + i, none⟩) hbb).trans (hcells i h1)
      obtain ⟨v1, v2⟩ := HBY.out.2.2 i
      have HCV := Lib.hid (hcells i h1)
      clear hcells
      generalize xs.getD i 0 = v at *
      have hN0 : ¬ (N : Int) = 0 := by omega
      have hN1 : ¬ (N : Int) - 1 = 0 := by omega
      have hN00 : ¬ N = 0 := by omega
      have ne1 : ¬ bM = b := by omega
      have ne2 : ¬ b = bM := by omega
      have ne3 : ¬ bM = w.heap.size := by omega
      have ne4 : ¬ w.heap.size = bM := by omega
      -- the row k, the row j, the times t
      obtain ⟨k, hk⟩ := nat_of (Int.emod_nonneg v hN0)
      have hkN : k < N := by have := Int.emod_lt_of_pos v (show (0 : Int) < N by omega); omega
      have HK := Lib.hid hk
      have e8 : v.tdiv 8 = v / 8 := Int.tdiv_eq_ediv_of_nonneg v1
      have e32 : v.tdiv 32 = v / 32 := Int.tdiv_eq_ediv_of_nonneg v1
      obtain ⟨q, hq⟩ : ∃ q, (v / 8).tmod ((N : Int) - 1) = q := ⟨_, rfl⟩
      have hq1 : 0 ≤ q ∧ q < (N : Int) - 1 := by
        rw [← hq]
        exact ⟨Int.tmod_nonneg _ (by omega), Int.tmod_lt_of_pos _ (by omega)⟩
      obtain ⟨t0, ht0⟩ : ∃ t0, (v / 32).tmod 3 = t0 := ⟨_, rfl⟩
      have ht1 : 0 ≤ t0 ∧ t0 < 3 := by
        rw [← ht0]
        exact ⟨Int.tmod_nonneg _ (by omega), Int.tmod_lt_of_pos _ (by omega)⟩
      obtain ⟨j, hj, hjN, hkj⟩ := mixJ hkN (by omega) hq1
      have hj2 : ((k : Int) + 1 + q).tmod (N : Int) = j := by rw [Int.tmod_eq_emod_of_nonneg (by omega)]; exact hj
      have w1 : IntKind.i64.wrap ((N : Int) - 1) = (N : Int) - 1 := IntWalk.i64_in _ (by omega)
      have w2_ : IntKind.u8.wrap (v.tdiv 8) = v / 8 := by rw [e8]; exact IntWalk.u8_in _ (by omega)
      have w3 : IntKind.u8.wrap (v.tdiv 32) = v / 32 := by rw [e32]; exact IntWalk.u8_in _ (by omega)
      have w4 : IntKind.i64.wrap (v / 8) = v / 8 := IntWalk.i64_in _ (by omega)
      have w5 : IntKind.i64.wrap (v / 32) = v / 32 := IntWalk.i64_in _ (by omega)
      have w6 : IntKind.i64.wrap ((k : Int) + 1) = (k : Int) + 1 := IntWalk.i64_in _ (by omega)
      have w7 : IntKind.i64.wrap ((k : Int) + 1 + q) = (k : Int) + 1 + q := IntWalk.i64_in _ (by omega)
      have w8 : IntKind.i64.wrap (t0 - 1) = t0 - 1 := IntWalk.i64_in _ (by omega)
      have hb2 : 2 ^ i ≤ 32 := by have := Nat.pow_le_pow_right (show 0 < 2 by omega) (show i ≤ 5 by omega); omega
      have hMS := HF.out.step (k := k) (j := j) (t := t0 - 1) hb2 hkN hjN hkj (by omega)
      have HMS := Lib.hid hMS
      have HHM := Lib.hid (isMat_tbS hN (HF.out.ok hp6))
      have HHM2 := Lib.hid (isMat_tbS hN (hMS.ok (by omega)))
      clear hMS hk e8 e32 hj
      go_wp2_with fail
      rw [HK.out]
      have hri := Lib.hid ho.reads
      have hsr : ∃ z, z = wr.heap.size := ⟨_, rfl⟩
      obtain ⟨hz, hhz⟩ := hsr
      rw [← hhz] at hri
      have hzl : hz ≤ wr.heap.size := by omega
      clear hhz
      have nb1 : ¬ bM = wr.heap.size := by omega
      have nb2 : ¬ wr.heap.size = bM := by omega
      have nb3 : ¬ b = wr.heap.size := by omega
      have nb4 : ¬ wr.heap.size = b := by omega
      have nb5 : ¬ w.heap.size = wr.heap.size := by omega
      have nb6 : ¬ wr.heap.size = w.heap.size := by omega
      ((refine wp_region_held_drew (S := (fun w' => w'.cell? ⟨bM, 0, none⟩ = some (.int .i64 N) ∧ w'.cell? ⟨bM, 1, none⟩ = some (.int .i64 N) ∧ w'.cell? ⟨bM, 2, none⟩ = some (.slice Am nm cm) ∧ w'.cell? ⟨b, o + i, none⟩ = some (.int .u8 v))) (by kernel_rfl) ?_ (fun hHeld => ?_)); ((focus ((try dsimp only); ((first | (go_keep; done) | exact ⟨oa, ob, oc, cv⟩))))); ((refine tk_ (i := 0) (v := ?_) (y := Or.inl ⟨by rfl, ?_⟩) (h := ?_); rotate_left; (focus (((intro w hSw; (try dsimp only at hSw); go_simp) <;> (try with_reducible rfl)); done)); (try simp only [Act.put, p1_, p2_, p3_]))); ((refine tk_ (i := 1) (v := ?_) (y := Or.inl ⟨by rfl, ?_⟩) (h := ?_); rotate_left; (focus (((intro w hSw; (try dsimp only at hSw); go_simp) <;> (try with_reducible rfl)); done)); (try simp only [Act.put, p1_, p2_, p3_]))); ((refine tk_ (i := 2) (v := ?_) (y := Or.inl ⟨by rfl, ?_⟩) (h := ?_); rotate_left; (focus (((intro w hSw; (try dsimp only at hSw); go_simp) <;> (try with_reducible rfl)); done)); (try simp only [Act.put, p1_, p2_, p3_]))); ((refine tk_ (i := 3) (v := ?_) (y := Or.inl ⟨by rfl, ?_⟩) (h := ?_); rotate_left; (focus (((intro w hSw; (try dsimp only at hSw); go_simp) <;> (try with_reducible rfl)); done)); (try simp only [Act.put, p1_, p2_, p3_]))); ((refine tk_ (i := 4) (v := ?_) (y := Or.inl ⟨by rfl, ?_⟩) (h := ?_); rotate_left; (focus (((intro w hSw; (try dsimp only at hSw); go_simp) <;> (try with_reducible rfl)); done)); (try simp only [Act.put, p1_, p2_, p3_]))); ((refine tk_ (i := 5) (v := ?_) (y := Or.inl ⟨by rfl, ?_⟩) (h := ?_); rotate_left; (focus (((intro w hSw; (try dsimp only at hSw); go_simp) <;> (try with_reducible rfl)); done)); (try simp only [Act.put, p1_, p2_, p3_]))); ((refine tk_ (i := 6) (v := ?_) (y := Or.inl ⟨by rfl, ?_⟩) (h := ?_); rotate_left; (focus (((intro w hSw; (try dsimp only at hSw); go_simp) <;> (try with_reducible rfl)); done)); (try simp only [Act.put, p1_, p2_, p3_]))); ((refine tk_ (i := 7) (v := ?_) (y := Or.inl ⟨by rfl, ?_⟩) (h := ?_); rotate_left; (focus (((intro w hSw; (try dsimp only at hSw); go_simp) <;> (try with_reducible rfl)); done)); (try simp only [Act.put, p1_, p2_, p3_]))); ((refine tk_ (i := 8) (v := ?_) (y := Or.inl ⟨by rfl, ?_⟩) (h := ?_); rotate_left; (focus (((intro w hSw; (try dsimp only at hSw); go_simp) <;> (try with_reducible rfl)); done)); (try simp only [Act.put, p1_, p2_, p3_]))); ((refine tk_ (i := 9) (v := ?_) (y := Or.inl ⟨by rfl, ?_⟩) (h := ?_); rotate_left; (focus (((intro w hSw; (try dsimp only at hSw); go_simp) <;> (try with_reducible rfl)); done)); (try simp only [Act.put, p1_, p2_, p3_]))); ((refine tk_ (i := 10) (v := ?_) (y := Or.inl ⟨by rfl, ?_⟩) (h := ?_); rotate_left; (focus (((intro w hSw; (try dsimp only at hSw); go_simp) <;> (try with_reducible rfl)); done)); (try simp only [Act.put, p1_, p2_, p3_]))); ((refine tk_ (i := 11) (v := ?_) (y := Or.inl ⟨by rfl, ?_⟩) (h := ?_); rotate_left; (focus (((intro w hSw; (try dsimp only at hSw); go_simp) <;> (try with_reducible rfl)); done)); (try simp only [Act.put, p1_, p2_, p3_]))); ((refine tk_ (i := 12) (v := ?_) (y := Or.inl ⟨by rfl, ?_⟩) (h := ?_); rotate_left; (focus (((intro w hSw; (try dsimp only at hSw); go_simp) <;> (try with_reducible rfl)); done)); (try simp only [Act.put, p1_, p2_, p3_]))); ((refine tk_ (i := 13) (v := ?_) (y := Or.inl ⟨by rfl, ?_⟩) (h := ?_); rotate_left; (focus (((intro w hSw; (try dsimp only at hSw); go_simp) <;> (try with_reducible rfl)); done)); (try simp only [Act.put, p1_, p2_, p3_]))); ((refine tk_ (i := 14) (v := ?_) (y := Or.inl ⟨by rfl, ?_⟩) (h := ?_); rotate_left; (focus (((intro w hSw; (try dsimp only at hSw); go_simp) <;> (try with_reducible rfl)); done)); (try simp only [Act.put, p1_, p2_, p3_]))); ((refine tk_ (i := 15) (v := ?_) (y := Or.inl ⟨by rfl, ?_⟩) (h := ?_); rotate_left; (focus (((intro w hSw; (try dsimp only at hSw); go_simp) <;> (try with_reducible rfl)); done)); (try simp only [Act.put, p1_, p2_, p3_]))); ((refine tk_ (i := 16) (v := ?_) (y := Or.inl ⟨by rfl, ?_⟩) (h := ?_); rotate_left; (focus (((intro w hSw; (try dsimp only at hSw); go_simp) <;> (try with_reducible rfl)); done)); (try simp only [Act.put, p1_, p2_, p3_]))); ((refine tk_ (i := 17) (v := ?_) (y := Or.inl ⟨by rfl, ?_⟩) (h := ?_); rotate_left; (focus (((intro w hSw; (try dsimp only at hSw); go_simp) <;> (try with_reducible rfl)); done)); (try simp only [Act.put, p1_, p2_, p3_]))); ((refine tk_ (i := 18) (v := ?_) (y := Or.inl ⟨by rfl, ?_⟩) (h := ?_); rotate_left; (focus (((intro w hSw; (try dsimp only at hSw); go_simp) <;> (try with_reducible rfl)); done)); (try simp only [Act.put, p1_, p2_, p3_]))); ((refine tk_ (i := 19) (v := ?_) (y := Or.inl ⟨by rfl, ?_⟩) (h := ?_); rotate_left; (focus (((intro w hSw; (try dsimp only at hSw); go_simp) <;> (try with_reducible rfl)); done)); (try simp only [Act.put, p1_, p2_, p3_]))); ((refine tk_ (i := 20) (v := ?_) (y := Or.inl ⟨by rfl, ?_⟩) (h := ?_); rotate_left; (focus (((intro w hSw; (try dsimp only at hSw); go_simp) <;> (try with_reducible rfl)); done)); (try simp only [Act.put, p1_, p2_, p3_]))); ((refine tk_ (i := 21) (v := ?_) (y := Or.inl ⟨by rfl, ?_⟩) (h := ?_); rotate_left; (focus (((intro w hSw; (try dsimp only at hSw); go_simp) <;> (try with_reducible rfl)); done)); (try simp only [Act.put, p1_, p2_, p3_]))); ((refine tk_ (i := 22) (v := ?_) (y := Or.inl ⟨by rfl, ?_⟩) (h := ?_); rotate_left; (focus (((intro w hSw; (try dsimp only at hSw); go_simp) <;> (try with_reducible rfl)); done)); (try simp only [Act.put, p1_, p2_, p3_]))); ((refine tk_ (i := 23) (v := ?_) (y := Or.inl ⟨by rfl, ?_⟩) (h := ?_); rotate_left; (focus (((intro w hSw; (try dsimp only at hSw); go_simp) <;> (try with_reducible rfl)); done)); (try simp only [Act.put, p1_, p2_, p3_]))); ((refine tk_ (i := 24) (v := ?_) (y := Or.inl ⟨by rfl, ?_⟩) (h := ?_); rotate_left; (focus (((intro w hSw; (try dsimp only at hSw); go_simp) <;> (try with_reducible rfl)); done)); (try simp only [Act.put, p1_, p2_, p3_]))); (refine wpAnyH_ready (rs := [25, 29]) (by kernel_rfl) (by simp) ?_); (refine AllReadyH.cons (by simp only [e1_, e2_, e3_]; try rfl) ?_ ?_); ((focus ((intro K hK); (go_simp); ((go_at_call 152; refine (spec_DoRowOp_add N N k j (t0 - 1) Am nm cm f _ (B := hz) (Kr hri.out) Ks HHM.out (HF.out.nb hp6) hkN hjN hkj ⟨by omega, by omega⟩ HHM2.out (by omega) hN hN).mono ?_; rintro e w9 ⟨A9, n9, c9, rfl, ho9, hb9⟩; have hsz9 := hb9.size; (try simp at hsz9); have ho9_ : OR w9 (w.heap.size + 1) (.slice A9 n9 c9) (tb N N (opA f k j (t0 - 1))) := OR.mono (xs := tb N N (opA f k j (t0 - 1))) ho9 Ks; have kO := OR.own (xs := tb N N (opA f k j (t0 - 1))) ho9; (try simp at kO); clear ho9; have hR_1 : BM w9 w.heap.size 0 0 none 0 0 := (Kb hR); have hM_1 : BM w9 bM N N Am nm cm := (Kb hM); have hbw_1 : Below w.heap.size w w9 := Kw; have cv_1 := (hbw_1.cell (p := ⟨b, o + i, none⟩) hbb).trans HCV.out; clear oa ob oc of ol ra rb rc rf rl; clear hR hM hbw cv; have cv := cv_1; clear cv_1; have hR := hR_1; have hM := hM_1; have hbw := hbw_1; clear hR_1 hM_1 hbw_1; obtain ⟨oa, ob, oc, of, ol⟩ := hM.mx; obtain ⟨ra, rb, rc, rf, rl⟩ := hR.mx; have nc1 : ¬ bM = w9.heap.size := (by omega); have nc2 : ¬ w9.heap.size = bM := (by omega); have nc3 : ¬ b = w9.heap.size := (by omega); have nc4 : ¬ w9.heap.size = b := (by omega); have nc5 : ¬ w.heap.size = w9.heap.size := (by omega); have nc6 : ¬ w9.heap.size = w.heap.size := (by omega); have k9 : ¬ Value.ownBlock (.slice A9 n9 c9) = some w9.heap.size := (fun e => by have := kO _ e; omega); have k9' : ¬ Value.ownBlock (.slice A9 n9 c9) = some bM := (fun e => by have := kO _ e; omega); clear kO)); ((try go_wp2_with fail)); (refine hK.out _ _ ?_ (fun hHeld => ?_)); ((focus ((try dsimp only); ((first | (go_keep; done) | exact ⟨oa, ob, oc, cv⟩))))); (clear hK K); ((try simp only [Act.put, p1_, p2_, p3_])); ((refine tk_ (i := 26) (v := ?_) (y := Or.inl ⟨by rfl, ?_⟩) (h := ?_); rotate_left; (focus (((intro w hSw; (try dsimp only at hSw); go_simp) <;> (try with_reducible rfl)); done)); (try simp only [Act.put, p1_, p2_, p3_]))); ((refine tk_ (i := 27) (v := ?_) (y := Or.inl ⟨by rfl, ?_⟩) (h := ?_); rotate_left; (focus (((intro w hSw; (try dsimp only at hSw); go_simp) <;> (try with_reducible rfl)); done)); (try simp only [Act.put, p1_, p2_, p3_]))); ((refine tk_ (i := 28) (v := ?_) (y := Or.inl ⟨by rfl, ?_⟩) (h := ?_); rotate_left; (focus (((intro w hSw; (try dsimp only at hSw); go_simp) <;> (try with_reducible rfl)); done)); (try simp only [Act.put, p1_, p2_, p3_]))); (refine wpAnyH_ready (rs := [29]) (by kernel_rfl) (by simp) ?_); (refine AllReadyH.cons (by simp only [e1_, e2_, e3_]; try rfl) ?_ ?_); ((focus ((intro K hK); (go_simp); ((try go_wp2_with fail)); (refine hK.out _ _ ?_ (fun hHeld => ?_)); ((focus ((try dsimp only); ((first | (go_keep; done) | exact ⟨oa, ob, oc, cv⟩))))); (clear hK K); ((try simp only [Act.put, p1_, p2_, p3_])); (refine wpAnyH_ready (rs := [30]) (by kernel_rfl) (by simp) ?_); (refine AllReadyH.cons (by simp only [e1_, e2_, e3_]; try rfl) ?_ ?_); ((focus ((intro K hK); (go_simp); ((try go_wp2_with fail)); (refine hK.out _ _ ?_ (fun hHeld => ?_)); ((focus ((try dsimp only); ((first | (go_keep; done) | exact ⟨oa, ob, oc, cv⟩))))); (clear hK K); ((try simp only [Act.put, p1_, p2_, p3_])); ((refine tk_ (i := 31) (v := ?_) (y := Or.inl ⟨by rfl, ?_⟩) (h := ?_); rotate_left; (focus (((intro w hSw; (try dsimp only at hSw); go_simp) <;> (try with_reducible rfl)); done)); (try simp only [Act.put, p1_, p2_, p3_]))); (refine wpAnyH_done (by kernel_rfl) ?_ _)))); (rotate_left 1); (exact AllReadyH.nil)))); (rotate_left 1); (exact AllReadyH.nil)))); (rotate_left 1); (refine AllReadyH.cons (by simp only [e1_, e2_, e3_]; try rfl) ?_ ?_); ((focus ((intro K hK); (go_simp); ((try go_wp2_with fail)); (refine hK.out _ _ ?_ (fun hHeld => ?_)); ((focus ((try dsimp only); ((first | (go_keep; done) | exact ⟨oa, ob, oc, cv⟩))))); (clear hK K); ((try simp only [Act.put, p1_, p2_, p3_])); (refine wpAnyH_ready (rs := [25]) (by kernel_rfl) (by simp) ?_); (refine AllReadyH.cons (by simp only [e1_, e2_, e3_]; try rfl) ?_ ?_); ((focus ((intro K hK); (go_simp); ((go_at_call 152; refine (spec_DoRowOp_add N N k j (t0 - 1) Am nm cm f _ (B := hz) (Kr hri.out) Ks HHM.out (HF.out.nb hp6) hkN hjN hkj ⟨by omega, by omega⟩ HHM2.out (by omega) hN hN).mono ?_; rintro e w9 ⟨A9, n9, c9, rfl, ho9, hb9⟩; have hsz9 := hb9.size; (try simp at hsz9); have ho9_ : OR w9 (w.heap.size + 1) (.slice A9 n9 c9) (tb N N (opA f k j (t0 - 1))) := OR.mono (xs := tb N N (opA f k j (t0 - 1))) ho9 Ks; have kO := OR.own (xs := tb N N (opA f k j (t0 - 1))) ho9; (try simp at kO); clear ho9; have hR_1 : BM w9 w.heap.size 0 0 none 0 0 := (Kb hR); have hM_1 : BM w9 bM N N Am nm cm := (Kb hM); have hbw_1 : Below w.heap.size w w9 := Kw; have cv_1 := (hbw_1.cell (p := ⟨b, o + i, none⟩) hbb).trans HCV.out; clear oa ob oc of ol ra rb rc rf rl; clear hR hM hbw cv; have cv := cv_1; clear cv_1; have hR := hR_1; have hM := hM_1; have hbw := hbw_1; clear hR_1 hM_1 hbw_1; obtain ⟨oa, ob, oc, of, ol⟩ := hM.mx; obtain ⟨ra, rb, rc, rf, rl⟩ := hR.mx; have h8 : B3 26 w9 wr.heap.size := (by refine B3.below ?_ hb9 Ks; (with_reducible (repeat (first | refine B3.n_ | exact B3.new _ _ _ _ _ _ rfl | refine B3.drew ?_ | refine B3.drewN ?_ _ | refine B3.alloc ?_ _)))); obtain ⟨x0, x1, x2, hx⟩ := id h8; have z0 := hx.cell 0; have z1 := hx.cell 1; have z2 := hx.cell 2; have zf := hx.frozen; have zl := hx.lt; simp at z0 z1 z2; have k9 : ¬ Value.ownBlock (.slice A9 n9 c9) = some wr.heap.size := (fun e => by have := kO _ e; omega); have k9' : ¬ Value.ownBlock (.slice A9 n9 c9) = some bM := (fun e => by have := kO _ e; omega); clear kO)); ((try go_wp2_with fail)); (refine hK.out _ _ ?_ (fun hHeld => ?_)); ((focus ((try dsimp only); ((first | (go_keep; done) | exact ⟨oa, ob, oc, cv⟩))))); (clear hK K); ((try simp only [Act.put, p1_, p2_, p3_])); ((refine tk_ (i := 26) (v := ?_) (y := Or.inl ⟨by rfl, ?_⟩) (h := ?_); rotate_left; (focus (((intro w hSw; (try dsimp only at hSw); go_simp) <;> (try with_reducible rfl)); done)); (try simp only [Act.put, p1_, p2_, p3_]))); ((refine tk_ (i := 27) (v := ?_) (y := Or.inl ⟨by rfl, ?_⟩) (h := ?_); rotate_left; (focus (((intro w hSw; (try dsimp only at hSw); go_simp) <;> (try with_reducible rfl)); done)); (try simp only [Act.put, p1_, p2_, p3_]))); ((refine tk_ (i := 28) (v := ?_) (y := Or.inl ⟨by rfl, ?_⟩) (h := ?_); rotate_left; (focus (((intro w hSw; (try dsimp only at hSw); go_simp) <;> (try with_reducible rfl)); done)); (try simp only [Act.put, p1_, p2_, p3_]))); (refine wpAnyH_ready (rs := [30]) (by kernel_rfl) (by simp) ?_); (refine AllReadyH.cons (by simp only [e1_, e2_, e3_]; try rfl) ?_ ?_); ((focus ((intro K hK); (go_simp); ((try go_wp2_with fail)); (refine hK.out _ _ ?_ (fun hHeld => ?_)); ((focus ((try dsimp only); ((first | (go_keep; done) | exact ⟨oa, ob, oc, cv⟩))))); (clear hK K); ((try simp only [Act.put, p1_, p2_, p3_])); ((refine tk_ (i := 31) (v := ?_) (y := Or.inl ⟨by rfl, ?_⟩) (h := ?_); rotate_left; (focus (((intro w hSw; (try dsimp only at hSw); go_simp) <;> (try with_reducible rfl)); done)); (try simp only [Act.put, p1_, p2_, p3_]))); (refine wpAnyH_done (by kernel_rfl) ?_ _)))); (rotate_left 1); (exact AllReadyH.nil)))); (rotate_left 1); (exact AllReadyH.nil)))); (rotate_left 1); (exact AllReadyH.nil))
      all_goals
        go_wp2_with fail
        go_roundw
        case rel => exact ⟨i + 1, opA f k j (t0 - 1), A9, n9, c9, by go_num, by omega, by omega, by (rw [Nat.pow_succ, Nat.mul_comm]; exact HMS.out), Kb hR, Kb hM, by (repeat (first | (with_reducible exact ho9_) | (with_reducible refine OR.drew ?_) | (with_reducible refine OR.drewN ?_ _) | (with_reducible refine OR.alloc ?_ _) | (refine OR.far ?_ k9 _) | (refine OR.far ?_ k9' _))), Kw⟩
        case measure => simp only [intOf]; omega
    · have hvr := B3.of hR
      have hfin : 2 ^ i ≤ 64 := hp6
      have ne1 : ¬ bM = w.heap.size := by omega
      have ne2 : ¬ w.heap.size = bM := by omega
      by_cases k1 : i < n
      · by_cases k2 : i < 6
        · have k3 : ¬ 1 < N := fun h => hgo ⟨k1, k2, h⟩
          clear hgo
          go_wp2_with fail
          refine ret_M (b := w.heap.size) Try.results52 rfl (Kb hvr) rfl ?_
          exact ⟨f, Am, nm, cm, rfl, OR.mono (B := w.heap.size + 1) (Ko ho) (by omega), ⟨fun x y => Nat.le_trans (HF.out.small x y) hfin, HF.out.spn⟩, Kw⟩
        · clear hgo
          go_wp2_with fail
          refine ret_M (b := w.heap.size) Try.results52 rfl (Kb hvr) rfl ?_
          exact ⟨f, Am, nm, cm, rfl, OR.mono (B := w.heap.size + 1) (Ko ho) (by omega), ⟨fun x y => Nat.le_trans (HF.out.small x y) hfin, HF.out.spn⟩, Kw⟩
      · clear hgo
        go_wp2_with fail
        refine ret_M (b := w.heap.size) Try.results52 rfl (Kb hvr) rfl ?_
        exact ⟨f, Am, nm, cm, rfl, OR.mono (B := w.heap.size + 1) (Ko ho) (by omega), ⟨fun x y => Nat.le_trans (HF.out.small x y) hfin, HF.out.spn⟩, Kw⟩
end Go.Proofs.Ytacjonkehcamgaa

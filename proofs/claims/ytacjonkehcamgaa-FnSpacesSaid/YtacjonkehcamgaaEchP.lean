/-
  DERIVED. l7Echelon and EchelonOf of the reference.
-/
import Derived.Test.YtacjonkehcamgaaEchT
import Derived.Test.YtacjonkehcamgaaCopyS
namespace Go.Proofs.Ytacjonkehcamgaa
open Go.RowKit
set_option linter.unusedVariables false
set_option linter.unusedSimpArgs false
/-- The number, or the mark of one beyond the limit. -/
def fitQ (n : Int) : Int := if isNum n then n else -4611686018427387904
theorem fitQ_in {n : Int} (h : -400000000 ≤ n ∧ n ≤ 400000000) : fitQ n = n := by simp [fitQ, (isNum_iff n).2 h]
theorem fitQ_out {n : Int} (h : n < -400000000 ∨ 400000000 < n) : fitQ n = -4611686018427387904 := by simp [fitQ, (isNum_not n).2 h]
theorem spec_l1FitQ (n : Int) (w : World) : Calls Try.prog 221 #[.int .i64 n] w (EV (.int .i64 (fitQ n)) w) := by
  by_cases h : -400000000 ≤ n ∧ n ≤ 400000000
  · rw [fitQ_in h]
    obtain ⟨h1, h2⟩ := h
    go_enter Try.func221, Try.ntmps221
    go_wp2_with (first | (go_at_call 154; (first | refine (spec_l1In_yes _ _ _ _ (by omega)).mono ?_ | refine (spec_l1In_no _ _ _ _ (by omega)).mono ?_ | refine (spec_l1In _ _ _ _).mono ?_); rintro e w' ⟨rfl, rfl⟩))
    go_ret
    exact EV.mk rfl
  · rw [fitQ_out (by omega)]
    have h' : n < -400000000 ∨ 400000000 < n := by omega
    clear h
    rcases h' with h | h
    all_goals
      go_enter Try.func221, Try.ntmps221
      go_wp2_with (first | (go_at_call 154; (first | refine (spec_l1In_yes _ _ _ _ (by omega)).mono ?_ | refine (spec_l1In_no _ _ _ _ (by omega)).mono ?_ | refine (spec_l1In _ _ _ _).mono ?_); rintro e w' ⟨rfl, rfl⟩))
      go_ret
      exact EV.mk rfl
set_option maxRecDepth 100000 in
set_option maxHeartbeats 64000000 in
theorem spec_l7Echelon (R C : Nat) (A : Option Addr) (n cap : Nat) (f0 : Nat → Nat → Int) (w : World) {B : Nat} (h : RI w B A n (tb R C f0)) (hB : B ≤ w.heap.size) (hn : n ≤ 1048576) (hR : R ≤ 24) (hC : C ≤ 24) (hb0 : ∀ i c : Nat, i < R → c < C → -400000000 ≤ f0 i c ∧ f0 i c ≤ 400000000) :
    Calls Try.prog 174 #[.agg #[.int .i64 R, .int .i64 C, .slice A n cap]] w (MIBR (mxQ R C (echQ R C f0)) (psQ (echQ R C f0)) (echQ R C f0).isSome w) := by
  have H2 := Lib.hid (h.more hB)
  have HBD := Lib.hid hb0
  have hQ0 := QOk.all HBD.out
  have hrun : colsQ R C (C - 0) 0 ⟨prK C f0 R, []⟩ = echQ R C f0 := rfl
  generalize echQ R C f0 = X at *
  clear h hb0
  go_enter Try.func174, Try.ntmps174
  go_wp2_with fail
  refine (spec_l3Copy R C A n cap (tb R C f0) _ (B := w.heap.size) (by (repeat (first | (with_reducible exact H2.out) | (with_reducible refine RI.drew ?_) | (with_reducible refine RI.drewN ?_ _) | (with_reducible refine RI.alloc ?_ (by first | omega | (simp; done) | (simp; omega)) _) | (with_reducible refine RI.setCell ?_ (by first | omega | (simp; done) | (simp; omega)) _) | (with_reducible refine RI.below ?_ (by assumption) (by first | omega | (simp; done) | (simp; omega)))))) (by first | omega | (simp; done) | (simp; omega)) hn).mono ?_
  rintro e w2 ⟨A2, n2, cap2, rfl, hn2, hown, hb2⟩
  have hsz2 := hb2.size
  simp at hsz2
  have HN2 : Hid (n2 = R * C) := Lib.hid (by rw [hn2, tb_len])
  have hR0 : BM w2 (w.heap.size + 1) 0 0 none 0 0 := by (repeat (first | (with_reducible assumption) | (with_reducible refine BX.new _ _ _ _ _ _ _ _ (by first | omega | (simp; done) | (simp; omega))) | (with_reducible refine BX.below ?_ (by assumption) (by first | omega | (simp; done) | (simp; omega))) | (with_reducible apply BX.drew) | (with_reducible apply BX.drewN) | (with_reducible refine BX.put ?_) | (with_reducible refine BX.put2 ?_) | (with_reducible refine BX.far ?_ (by simp only [ne_eq]; omega) _) | (with_reducible apply BX.alloc) | (with_reducible refine B3.new _ _ _ _ _ _ (by first | omega | (simp; done) | (simp; omega))) | (with_reducible refine B3.of (by assumption)) | (with_reducible refine B3.below ?_ (by assumption) (by first | omega | (simp; done) | (simp; omega))) | (with_reducible apply B3.drew) | (with_reducible apply B3.drewN) | (with_reducible refine B3.far ?_ (by simp only [ne_eq]; omega) _) | (with_reducible apply B3.alloc)))
  have hbw0 : Below w.heap.size w w2 := by (repeat (first | (with_reducible exact Below.refl _ _) | (with_reducible assumption) | (with_reducible refine below_drewN ?_ _) | (with_reducible refine Below.drew ?_) | (with_reducible refine Below.alloc ?_ ?_ _) | (with_reducible refine Below.setCell ?_ ?_ _) | (with_reducible refine below_into ?_ (by assumption) (by first | omega | (simp; done) | (simp; omega))) | go_size))
  have HG : Hid (0 < R * C → ∃ g, A2 = some ⟨g, 0, none⟩ ∧ w.heap.size + 1 + 1 ≤ g ∧ g < w2.heap.size) := Lib.hid (fun h0 => by have := hown.begins (by rw [tb_len]; exact h0); simpa using this)
  have HU : Hid (Own (.slice A2 n2 cap2) (w.heap.size + 1 + 1) w2.heap.size) := Lib.hid (hown.own.wide (by simp) (Nat.le_refl _))
  have hown0 : OR w2 (w.heap.size + 1 + 1) (.slice A2 n2 cap2) (tb R C f0) := by simpa using hown
  clear hown hb2 hn2
  obtain ⟨ra, rb, rc, rf, rl⟩ := hR0.mx
  go_wp2_with fail
  have hO1 : BM ((w2.alloc (.cells #[.int .i64 R, .int .i64 C, .slice A2 n2 cap2] 26)).alloc (.cells #[] 3)) w2.heap.size R C A2 n2 cap2 := by (repeat (first | (with_reducible assumption) | (with_reducible refine BX.new _ _ _ _ _ _ _ _ (by first | omega | (simp; done) | (simp; omega))) | (with_reducible refine BX.below ?_ (by assumption) (by first | omega | (simp; done) | (simp; omega))) | (with_reducible apply BX.drew) | (with_reducible apply BX.drewN) | (with_reducible refine BX.put ?_) | (with_reducible refine BX.put2 ?_) | (with_reducible refine BX.far ?_ (by simp only [ne_eq]; omega) _) | (with_reducible apply BX.alloc) | (with_reducible refine B3.new _ _ _ _ _ _ (by first | omega | (simp; done) | (simp; omega))) | (with_reducible refine B3.of (by assumption)) | (with_reducible refine B3.below ?_ (by assumption) (by first | omega | (simp; done) | (simp; omega))) | (with_reducible apply B3.drew) | (with_reducible apply B3.drewN) | (with_reducible refine B3.far ?_ (by simp only [ne_eq]; omega) _) | (with_reducible apply B3.alloc)))
  have hR1 : BM ((w2.alloc (.cells #[.int .i64 R, .int .i64 C, .slice A2 n2 cap2] 26)).alloc (.cells #[] 3)) (w.heap.size + 1) 0 0 none 0 0 := by (repeat (first | (with_reducible exact hR0) | (with_reducible refine BX.new _ _ _ _ _ _ _ _ (by first | omega | (simp; done) | (simp; omega))) | (with_reducible refine BX.below ?_ (by assumption) (by first | omega | (simp; done) | (simp; omega))) | (with_reducible apply BX.drew) | (with_reducible apply BX.drewN) | (with_reducible refine BX.put ?_) | (with_reducible refine BX.put2 ?_) | (with_reducible refine BX.far ?_ (by simp only [ne_eq]; omega) _) | (with_reducible apply BX.alloc) | (with_reducible refine B3.new _ _ _ _ _ _ (by first | omega | (simp; done) | (simp; omega))) | (with_reducible exact B3.of hR0) | (with_reducible refine B3.below ?_ (by assumption) (by first | omega | (simp; done) | (simp; omega))) | (with_reducible apply B3.drew) | (with_reducible apply B3.drewN) | (with_reducible refine B3.far ?_ (by simp only [ne_eq]; omega) _) | (with_reducible apply B3.alloc)))
  have hown1 : OR ((w2.alloc (.cells #[.int .i64 R, .int .i64 C, .slice A2 n2 cap2] 26)).alloc (.cells #[] 3)) (w.heap.size + 1 + 1) (.slice A2 n2 cap2) (tb R C f0) := by (repeat (first | (with_reducible exact hown0) | (with_reducible refine OR.drew ?_) | (with_reducible refine OR.drewN ?_ _) | (with_reducible refine OR.alloc ?_ _) | (with_reducible refine OR.below ?_ (by assumption) (by first | omega | (simp; done) | (simp; omega))) | (with_reducible refine OR.low ?_ (by first | omega | (simp only []; omega) | (simp; omega)) _)))
  have hbw1 : Below w.heap.size w ((w2.alloc (.cells #[.int .i64 R, .int .i64 C, .slice A2 n2 cap2] 26)).alloc (.cells #[] 3)) := by (repeat (first | (with_reducible exact Below.refl _ _) | (with_reducible assumption) | (with_reducible refine below_drewN ?_ _) | (with_reducible refine Below.drew ?_) | (with_reducible refine Below.alloc ?_ ?_ _) | (with_reducible refine Below.setCell ?_ ?_ _) | (with_reducible refine below_into ?_ (by assumption) (by first | omega | (simp; done) | (simp; omega))) | go_size))
  have hP1 : OR ((w2.alloc (.cells #[.int .i64 R, .int .i64 C, .slice A2 n2 cap2] 26)).alloc (.cells #[] 3)) (w2.heap.size + 1) (.slice (some ⟨w2.heap.size + 1, 0, none⟩) 0 0) [] := OR.empty' _ (w2.heap.size + 1) (by simp) (by simp)
  clear hown0 hR0 hbw0 ra rb rc rf rl
  generalize hbO : w2.heap.size = bO at *
  have HBO := Lib.hid hbO
  clear hbO
  go_loopw [7] (fun v wr => ∃ i : Nat, v = .int .i64 i ∧ i ≤ R ∧ BM wr bO R C A2 n2 cap2 ∧ BM wr (w.heap.size + 1) 0 0 none 0 0 ∧ OR wr (w.heap.size + 1 + 1) (.slice A2 n2 cap2) (tb R C (prK C f0 i)) ∧ OR wr (bO + 1) (.slice (some ⟨bO + 1, 0, none⟩) 0 0) [] ∧ Below w.heap.size w wr) (fun v _ => R - (intOf v).toNat)
  case atStart => exact ⟨0, rfl, Nat.zero_le _, hO1, hR1, by rw [prK_zero]; exact hown1, hP1, hbw1⟩
  case round =>
    clear hO1 hR1 hown1 hP1 hbw1
    obtain ⟨i, rfl, hi, hO, hRV, hown, hP, hbw⟩ := hrel
    obtain ⟨oa, ob, oc, of, ol⟩ := hO.mx; obtain ⟨ra, rb, rc, rf, rl⟩ := hRV.mx
    by_cases hiR : i < R
    · have HPB : Hid (∀ c : Nat, c < C → -400000000 ≤ prK C f0 i i c ∧ prK C f0 i i c ≤ 400000000) := Lib.hid (fun c hc => by
        have e : prK C f0 i i c = f0 i c := by simp [prK]
        rw [e]; exact HBD.out i c hiR hc)
      have HST := Lib.hid (prK_step C f0 i)
      go_wp2_with fail
      refine (spec_l7Primitive R C i _ n2 cap2 (prK C f0 i) _ (B := w.heap.size + 1 + 1) (by (repeat (first | (with_reducible exact hown) | (with_reducible refine OR.drew ?_) | (with_reducible refine OR.drewN ?_ _) | (with_reducible refine OR.alloc ?_ _) | (with_reducible refine OR.below ?_ (by assumption) (by first | omega | (simp; done) | (simp; omega))) | (with_reducible refine OR.low ?_ (by first | omega | (simp only []; omega) | (simp; omega)) _)))) hiR (by omega) (by omega) HPB.out).mono ?_
      rw [HST.out]
      rintro e w5 ⟨rfl, hown_1, hgr_0, hsz_0⟩
      have hO_1 := hO.keptOwn hgr_0 HU.out (.inr (by omega)); have hRV_1 := hRV.keptOwn hgr_0 HU.out (.inl (by omega)); have hP_1 := hP.keptOwn hgr_0 hP.own HU.out (.inr (by omega)); have hbw_1 : Below w.heap.size w w5 := (hbw.trans (below_keptOwn hgr_0 HU.out (by omega) (by omega))); clear hgr_0 hsz_0; clear hO hRV hown hP hbw oa ob oc of ol ra rb rc rf rl; have hO := hO_1; have hRV := hRV_1; have hown := hown_1; have hP := hP_1; have hbw := hbw_1; clear hO_1 hRV_1 hown_1 hP_1 hbw_1; obtain ⟨oa, ob, oc, of, ol⟩ := hO.mx; obtain ⟨ra, rb, rc, rf, rl⟩ := hRV.mx
      go_wp2_with fail
      go_roundw
      case rel => exact ⟨i + 1, by go_num, by omega, hO, hRV, hown, hP, hbw⟩
      case measure => simp only [intOf]; omega
    · obtain rfl : R = i := by omega
      generalize hf1 : prK C f0 R = f1 at *
      clear hf1 HBD
      go_wp2_with fail
      obtain ⟨wo, rfl⟩ : ∃ wo : World, wo = wr := ⟨_, rfl⟩
      go_loopw [6, 8] (fun vp vj wr => ∃ (j : Nat) (f : Nat → Nat → Int) (t : Nat) (P : Option Addr) (pc : Nat) (ps : List Int), vj = .int .i64 j ∧ vp = .slice P t pc ∧ ps.length = t ∧ t ≤ R ∧ j ≤ C ∧ QOk R C f ∧ colsQ R C (C - j) j ⟨f, ps⟩ = X ∧ BM wr bO R C A2 n2 cap2 ∧ BM wr (w.heap.size + 1) 0 0 none 0 0 ∧ OR wr (w.heap.size + 1 + 1) (.slice A2 n2 cap2) (tb R C f) ∧ OR wr (bO + 1) (.slice P t pc) ps ∧ Below w.heap.size w wr) (fun _ v _ => C - (intOf v).toNat)
      case atStart => exact ⟨0, f1, 0, _, _, [], rfl, rfl, rfl, Nat.zero_le _, Nat.zero_le _, hQ0, hrun, hO, hRV, hown, hP, hbw⟩
      case round =>
        clear hO hRV hown hP hbw oa ob oc of ol ra rb rc rf rl
        clear hrun hQ0
        obtain ⟨j, f, t, P, pc, ps, rfl, rfl, hpl0, htR0, hj, hok, hcol0, hO, hRV, hown, hP, hbw⟩ := hrel
        have hpl := Lib.hid hpl0
        have hcol := Lib.hid hcol0
        have HOK := Lib.hid hok
        clear hcol0 hok hpl0
        obtain ⟨oa, ob, oc, of, ol⟩ := hO.mx; obtain ⟨ra, rb, rc, rf, rl⟩ := hRV.mx
        by_cases hjC : j < C
        · by_cases htR : t < R
          · go_wp2_with fail
            obtain ⟨wo2, rfl⟩ : ∃ wo : World, wo = wr := ⟨_, rfl⟩
            go_loopw [10] (fun v wr => ∃ k : Nat, v = .int .i64 k ∧ t ≤ k ∧ k ≤ R ∧ fnd f j (R - k) k = fnd f j (R - t) t ∧ BM wr bO R C A2 n2 cap2 ∧ BM wr (w.heap.size + 1) 0 0 none 0 0 ∧ OR wr (w.heap.size + 1 + 1) (.slice A2 n2 cap2) (tb R C f) ∧ OR wr (bO + 1) (.slice P t pc) ps ∧ Below w.heap.size w wr) (fun v _ => R - (intOf v).toNat)
            case atStart => exact ⟨t, rfl, Nat.le_refl _, htR0, rfl, hO, hRV, hown, hP, hbw⟩
            case round =>
              clear hO hRV hown hP hbw oa ob oc of ol ra rb rc rf rl
              obtain ⟨k, rfl, hk1, hk2, hfn0, hO, hRV, hown, hP, hbw⟩ := hrel
              have hfn := Lib.hid hfn0
              clear hfn0
              obtain ⟨oa, ob, oc, of, ol⟩ := hO.mx; obtain ⟨ra, rb, rc, rf, rl⟩ := hRV.mx
              by_cases hkR : k < R
              · obtain ⟨g, rfl, hg1, hg2⟩ := HG.out (Nat.mul_pos (by omega) (by omega))
                have hgb1 : ¬ g = bO := by omega
                have hgb2 : ¬ bO = g := by omega
                have hkRb : ((k : Int) == (R : Int)) = false := by simp; omega
                have hidk : k * C + j < n2 := by rw [HN2.out]; exact idx_nat hkR hjC
                have hidk3 : k * C ≤ 2000 := by have := Nat.mul_le_mul (show k ≤ 24 by omega) (show C ≤ 48 by omega); omega
                have c1 := hown.cell (k * C + j) (by rw [tb_len]; exact idx_nat hkR (by omega)); rw [tb_at hkR (by omega)] at c1
                by_cases hz : f k j = 0
                · have hfx := Lib.hid ((fnd_next hkR hz).symm.trans hfn.out)
                  rw [hz] at c1
                  clear hz
                  go_wp2
                  go_roundw
                  case rel => exact ⟨k + 1, by go_num, by omega, by omega, hfx.out, hO, hRV, hown, hP, hbw⟩
                  case measure => simp only [intOf]; omega
                · have hP0 : fnd f j (R - t) t = k := hfn.out.symm.trans (fnd_here hkR hz)
                  have hcn := colsQ_none (C := C) (f := f) (ps := ps) hjC (by rw [hpl.out]; exact hP0) hkR
                  rw [hpl.out] at hcn
                  have HN : Hid (rowsQ C t j (R - 0) 0 (swF f k t) = none → X = none) := Lib.hid (fun e => hcol.out.symm.trans (hcn e))
                  have HS : Hid (∀ f', rowsQ C t j (R - 0) 0 (swF f k t) = some f' → colsQ R C (C - (j + 1)) (j + 1) ⟨f', ps ++ [(j : Int)]⟩ = X) := Lib.hid (fun f' e => by
                    have hcs := colsQ_some (C := C) (f := f) (ps := ps) (f' := f') hjC (by rw [hpl.out]; exact hP0) hkR
                    rw [hpl.out] at hcs
                    exact (hcs e).symm.trans hcol.out)
                  have HQF := Lib.hid (HOK.out.sw hkR htR)
                  have hyb : (f k j == 0) = false := by simpa using hz
                  clear hcn hP0 hz
                  generalize f k j = y at *
                  by_cases hkt : k = t
                  · have hktb : ((k : Int) != (t : Int)) = false := by simp [hkt]
                    have hsf : swF f k t = f := by rw [hkt]; exact swF_same f t
                    rw [hsf] at HN HS HQF
                    clear hsf hkt
                    have HQ1 : Hid (QOk R C f) := HQF
                    generalize hY : rowsQ C t j (R - 0) 0 f = Y at *
                    go_wp2_with fail
                    obtain ⟨wo3, rfl⟩ : ∃ wo : World, wo = wr := ⟨_, rfl⟩
                    go_loopw [11] (fun v wr => ∃ (i : Nat) (q : Nat → Nat → Int), v = .int .i64 i ∧ i ≤ R ∧ QOk R C q ∧ rowsQ C t j (R - i) i q = Y ∧ BM wr bO R C (some ⟨g, 0, none⟩) n2 cap2 ∧ BM wr (w.heap.size + 1) 0 0 none 0 0 ∧ OR wr (w.heap.size + 1 + 1) (.slice (some ⟨g, 0, none⟩) n2 cap2) (tb R C q) ∧ OR wr (bO + 1) (.slice P t pc) ps ∧ Below w.heap.size w wr) (fun v _ => R - (intOf v).toNat)
                    case atStart => exact ⟨0, f, rfl, Nat.zero_le _, HQ1.out, hY, hO, hRV, hown, hP, hbw⟩
                    case round =>
                      clear hO hRV hown hP hbw oa ob oc of ol ra rb rc rf rl
                      clear hY
                      obtain ⟨i, q, rfl, hi, hokq, hrq0, hO, hRV, hown, hP, hbw⟩ := hrel
                      have hrq := Lib.hid hrq0
                      have HOQ := Lib.hid hokq
                      clear hrq0 hokq
                      obtain ⟨oa, ob, oc, of, ol⟩ := hO.mx; obtain ⟨ra, rb, rc, rf, rl⟩ := hRV.mx
                      by_cases hiR : i < R
                      · obtain ⟨hx1, hx2⟩ := HOQ.out.bd i j hiR hjC
                        obtain ⟨hy1, hy2⟩ := HOQ.out.bd t j htR hjC
                        have hidi : i * C + j < n2 := by rw [HN2.out]; exact idx_nat hiR hjC
                        have hidt : t * C + j < n2 := by rw [HN2.out]; exact idx_nat htR hjC
                        have hidi3 : i * C ≤ 2000 := by have := Nat.mul_le_mul (show i ≤ 24 by omega) (show C ≤ 48 by omega); omega
                        have hidt3 : t * C ≤ 2000 := by have := Nat.mul_le_mul (show t ≤ 24 by omega) (show C ≤ 48 by omega); omega
                        have c1 := hown.cell (i * C + j) (by rw [tb_len]; exact idx_nat hiR (by omega)); rw [tb_at hiR (by omega)] at c1
                        by_cases hit : i = t
                        · have hb1 : ((i : Int) == (t : Int)) = true := by simp [hit]
                          have hnx := Lib.hid ((rowsQ_skip hiR (.inl hit)).symm.trans hrq.out)
                          clear hit
                          generalize q i j = x at *
                          go_wp2_with fail
                          go_roundw
                          case rel => exact ⟨i + 1, q, by go_num, by omega, HOQ.out, hnx.out, hO, hRV, hown, hP, hbw⟩
                          case measure => simp only [intOf]; omega
                        · have hb1 : ((i : Int) == (t : Int)) = false := by simp; omega
                          by_cases hx0 : q i j = 0
                          · have hnx := Lib.hid ((rowsQ_skip hiR (.inr hx0)).symm.trans hrq.out)
                            rw [hx0] at c1
                            clear hx0
                            go_wp2_with fail
                            go_roundw
                            case rel => exact ⟨i + 1, q, by go_num, by omega, HOQ.out, hnx.out, hO, hRV, hown, hP, hbw⟩
                            case measure => simp only [intOf]; omega
                          · have HDO : Hid (okQ C q t j i = true → rowsQ C t j (R - (i + 1)) (i + 1) (stQ C q t j i) = Y) := Lib.hid (fun hk => (rowsQ_do hiR hit hx0 hk).symm.trans hrq.out)
                            have HBAD : Hid (okQ C q t j i = false → Y = none) := Lib.hid (fun hk => hrq.out.symm.trans (rowsQ_bad hiR hit hx0 hk))
                            have HCV : Hid (∀ k, cbV q t j i k = (q t j).tdiv (Int.gcd (q i j) (q t j) : Nat) * q i k - (q i j).tdiv (Int.gcd (q i j) (q t j) : Nat) * q t k) := Lib.hid (fun k => rfl)
                            have hg0 : 0 < Int.gcd (q i j) (q t j) := Int.gcd_pos_of_ne_zero_left _ hx0
                            have hg1' : Int.gcd (q i j) (q t j) ≤ (q i j).natAbs := Nat.le_of_dvd (by omega) (Int.gcd_dvd_natAbs_left ..)
                            have HIT := Lib.hid hit
                            have c2 := hown.cell (t * C + j) (by rw [tb_len]; exact idx_nat htR (by omega)); rw [tb_at htR (by omega)] at c2
                            have hxb : (q i j == 0) = false := by simpa using hx0
                            clear hx0 hit
                            generalize q i j = x at *
                            generalize q t j = y at *
                            go_wp2_with (first | (go_at_call 175; refine (spec_GcdOf _ _ _ (by omega) (by omega)).mono ?_; rintro e w' ⟨rfl, nd, rfl⟩))
                            generalize Int.gcd x y = G at *
                            clear c1 c2
                            obtain ⟨wo4, rfl⟩ : ∃ wo : World, wo = wr := ⟨_, rfl⟩
                            go_loopw [15] (fun v wr => ∃ k : Nat, v = .int .i64 k ∧ k ≤ C ∧ (List.range k).all (fun k => isNum (cbV q t j i k)) = true ∧ BM wr bO R C (some ⟨g, 0, none⟩) n2 cap2 ∧ BM wr (w.heap.size + 1) 0 0 none 0 0 ∧ OR wr (w.heap.size + 1 + 1) (.slice (some ⟨g, 0, none⟩) n2 cap2) (tb R C (cbK q t j i k)) ∧ OR wr (bO + 1) (.slice P t pc) ps ∧ Below w.heap.size w wr) (fun v _ => C - (intOf v).toNat)
                            case atStart => exact ⟨0, rfl, Nat.zero_le _, by simp, by (repeat (first | (with_reducible exact hO) | (with_reducible refine BX.new _ _ _ _ _ _ _ _ (by first | omega | (simp; done) | (simp; omega))) | (with_reducible refine BX.below ?_ (by assumption) (by first | omega | (simp; done) | (simp; omega))) | (with_reducible apply BX.drew) | (with_reducible apply BX.drewN) | (with_reducible refine BX.put ?_) | (with_reducible refine BX.put2 ?_) | (with_reducible refine BX.far ?_ (by simp only [ne_eq]; omega) _) | (with_reducible apply BX.alloc) | (with_reducible refine B3.new _ _ _ _ _ _ (by first | omega | (simp; done) | (simp; omega))) | (with_reducible exact B3.of hO) | (with_reducible refine B3.below ?_ (by assumption) (by first | omega | (simp; done) | (simp; omega))) | (with_reducible apply B3.drew) | (with_reducible apply B3.drewN) | (with_reducible refine B3.far ?_ (by simp only [ne_eq]; omega) _) | (with_reducible apply B3.alloc))), by (repeat (first | (with_reducible exact hRV) | (with_reducible refine BX.new _ _ _ _ _ _ _ _ (by first | omega | (simp; done) | (simp; omega))) | (with_reducible refine BX.below ?_ (by assumption) (by first | omega | (simp; done) | (simp; omega))) | (with_reducible apply BX.drew) | (with_reducible apply BX.drewN) | (with_reducible refine BX.put ?_) | (with_reducible refine BX.put2 ?_) | (with_reducible refine BX.far ?_ (by simp only [ne_eq]; omega) _) | (with_reducible apply BX.alloc) | (with_reducible refine B3.new _ _ _ _ _ _ (by first | omega | (simp; done) | (simp; omega))) | (with_reducible exact B3.of hRV) | (with_reducible refine B3.below ?_ (by assumption) (by first | omega | (simp; done) | (simp; omega))) | (with_reducible apply B3.drew) | (with_reducible apply B3.drewN) | (with_reducible refine B3.far ?_ (by simp only [ne_eq]; omega) _) | (with_reducible apply B3.alloc))), by rw [cbK_zero]; (repeat (first | (with_reducible exact hown) | (with_reducible refine OR.drew ?_) | (with_reducible refine OR.drewN ?_ _) | (with_reducible refine OR.alloc ?_ _) | (with_reducible refine OR.below ?_ (by assumption) (by first | omega | (simp; done) | (simp; omega))) | (with_reducible refine OR.low ?_ (by first | omega | (simp only []; omega) | (simp; omega)) _))), by (repeat (first | (with_reducible exact hP) | (with_reducible refine OR.drew ?_) | (with_reducible refine OR.drewN ?_ _) | (with_reducible refine OR.alloc ?_ _) | (with_reducible refine OR.below ?_ (by assumption) (by first | omega | (simp; done) | (simp; omega))) | (with_reducible refine OR.low ?_ (by first | omega | (simp only []; omega) | (simp; omega)) _))), by (repeat (first | (with_reducible exact Below.refl _ _) | (with_reducible assumption) | (with_reducible refine below_drewN ?_ _) | (with_reducible refine Below.drew ?_) | (with_reducible refine Below.alloc ?_ ?_ _) | (with_reducible refine Below.setCell ?_ ?_ _) | (with_reducible refine below_into ?_ (by assumption) (by first | omega | (simp; done) | (simp; omega))) | go_size))⟩
                            case round =>
                              clear hO hRV hown hP hbw oa ob oc of ol ra rb rc rf rl
                              obtain ⟨k, rfl, hk, hal0, hO, hRV, hown, hP, hbw⟩ := hrel
                              have hal := Lib.hid hal0
                              clear hal0
                              obtain ⟨oa, ob, oc, of, ol⟩ := hO.mx; obtain ⟨ra, rb, rc, rf, rl⟩ := hRV.mx
                              by_cases hkC : k < C
                              · obtain ⟨z1a, z1b⟩ := HOQ.out.bd i k hiR hkC
                                obtain ⟨z2a, z2b⟩ := HOQ.out.bd t k htR hkC
                                have hiki := idx_nat hiR hkC
                                have hikt := idx_nat htR hkC
                                have c4 := hown.cell (i * C + k) (by rw [tb_len]; exact hiki)
                                rw [tb_at hiR hkC, cbK_at q t j i k k (Nat.le_refl _)] at c4
                                have c5 := hown.cell (t * C + k) (by rw [tb_len]; exact hikt)
                                rw [tb_at htR hkC, cbK_t q t j i k k HIT.out] at c5
                                have f4 := hown.frozen (i * C + k)
                                have hcv := HCV.out k
                                have hstp := cbK_step q t j i k
                                have hall := range_all_succ (fun k => isNum (cbV q t j i k)) k
                                rw [show (List.range k).all (fun k => isNum (cbV q t j i k)) = true from hal.out, Bool.true_and] at hall
                                have hbadk : isNum (cbV q t j i k) = false → Y = none := fun e => HBAD.out (range_all_false (p := fun k => isNum (cbV q t j i k)) hkC e)
                                generalize q i k = z1 at *
                                generalize q t k = z2 at *
                                obtain ⟨d1, d2, d3⟩ := quo_bd y (G : Int) z1 (by omega) (by omega)
                                obtain ⟨d4, d5, d6⟩ := quo_bd x (G : Int) z2 (by omega) (by omega)
                                have hG1 : ¬ G = 0 := by omega
                                have hG0 : ¬ ((G : Nat) : Int) = 0 := by omega
                                have g1 : IntKind.i64.wrap (y.tdiv (G : Nat)) = y.tdiv (G : Nat) := IntWalk.i64_in _ (by omega)
                                have g2 : IntKind.i64.wrap (x.tdiv (G : Nat)) = x.tdiv (G : Nat) := IntWalk.i64_in _ (by omega)
                                have g3 : IntKind.i64.wrap (y.tdiv (G : Nat) * z1) = y.tdiv (G : Nat) * z1 := IntWalk.i64_in _ (by omega)
                                have g4 : IntKind.i64.wrap (x.tdiv (G : Nat) * z2) = x.tdiv (G : Nat) * z2 := IntWalk.i64_in _ (by omega)
                                have g5 : IntKind.i64.wrap (y.tdiv (G : Nat) * z1 - x.tdiv (G : Nat) * z2) = y.tdiv (G : Nat) * z1 - x.tdiv (G : Nat) * z2 := IntWalk.i64_in _ (by omega)
                                have hn2' : n2 ≤ R * C ∧ R * C ≤ n2 := by have := HN2.out; omega
                                have i1 : (t : Int) * (C : Int) = ((t * C : Nat) : Int) := by rw [Int.natCast_mul]
                                have i2 : (i : Int) * (C : Int) = ((i * C : Nat) : Int) := by rw [Int.natCast_mul]
                                have g6 : IntKind.i64.wrap ((t : Int) * (C : Int)) = (t : Int) * (C : Int) := IntWalk.i64_in _ (by omega)
                                have g7 : IntKind.i64.wrap ((t : Int) * (C : Int) + (k : Int)) = (t : Int) * (C : Int) + (k : Int) := IntWalk.i64_in _ (by omega)
                                have g8 : IntKind.i64.wrap ((i : Int) * (C : Int)) = (i : Int) * (C : Int) := IntWalk.i64_in _ (by omega)
                                have g9 : IntKind.i64.wrap ((i : Int) * (C : Int) + (k : Int)) = (i : Int) * (C : Int) + (k : Int) := IntWalk.i64_in _ (by omega)
                                have g10 : 0 ≤ (t : Int) * (C : Int) + (k : Int) ∧ (t : Int) * (C : Int) + (k : Int) < (n2 : Int) := by omega
                                have g11 : 0 ≤ (i : Int) * (C : Int) + (k : Int) ∧ (i : Int) * (C : Int) + (k : Int) < (n2 : Int) := by omega
                                have hid4 : i * C + k < n2 := by omega
                                have e5 : ((t : Int) * (C : Int) + (k : Int)).toNat = t * C + k := by omega
                                have e6 : ((i : Int) * (C : Int) + (k : Int)).toNat = i * C + k := by omega
                                rw [← e5] at c5
                                rw [← e6] at c4
                                have E6 := Lib.hid e6
                                have HCK := Lib.hid hcv
                                have HALL := Lib.hid hall
                                have HBK := Lib.hid hbadk
                                clear hcv hall hbadk d1 d4 i1 i2 e5 e6 hiki hikt
                                go_wp2_with fail
                                ((refine wp_region_held_drew (S := (fun w' => w'.cell? ⟨bO, 0, none⟩ = some (.int .i64 R) ∧ w'.cell? ⟨bO, 1, none⟩ = some (.int .i64 C) ∧ w'.cell? ⟨bO, 2, none⟩ = some (.slice (some ⟨g, 0, none⟩) n2 cap2) ∧ w'.cell? ⟨g, ((i : Int) * (C : Int) + (k : Int)).toNat, none⟩ = some (.int .i64 z1) ∧ w'.cell? ⟨g, ((t : Int) * (C : Int) + (k : Int)).toNat, none⟩ = some (.int .i64 z2))) (by kernel_rfl) ?_ (fun hHeld => ?_)); ((focus ((try dsimp only); (go_keep)))); ((refine wpAnyH_take (i := 0) (v := ?_) (by (first | (simp only [List.getElem?_toArray, List.getElem?_cons_succ, List.getElem?_cons_zero]; done) | (simp only [List.getElem?_toArray, List.getElem?_cons_succ, List.getElem?_cons_zero]; rfl))) (by kernel_rfl) (by kernel_rfl) (by kernel_rfl) (by exact fun _ _ _ h => h) (Or.inl ⟨by rfl, ?_⟩) (by assumption) ?_; rotate_left; (focus (((intro w hSw; (try dsimp only at hSw); go_simp) <;> (try with_reducible rfl)); done)); (try simp only [Act.put, List.setIfInBounds_toArray, List.set_cons_zero, List.set_cons_succ]))); ((refine wpAnyH_take (i := 1) (v := ?_) (by (first | (simp only [List.getElem?_toArray, List.getElem?_cons_succ, List.getElem?_cons_zero]; done) | (simp only [List.getElem?_toArray, List.getElem?_cons_succ, List.getElem?_cons_zero]; rfl))) (by kernel_rfl) (by kernel_rfl) (by kernel_rfl) (by exact fun _ _ _ h => h) (Or.inl ⟨by rfl, ?_⟩) (by assumption) ?_; rotate_left; (focus (((intro w hSw; (try dsimp only at hSw); go_simp) <;> (try with_reducible rfl)); done)); (try simp only [Act.put, List.setIfInBounds_toArray, List.set_cons_zero, List.set_cons_succ]))); ((refine wpAnyH_take (i := 2) (v := ?_) (by (first | (simp only [List.getElem?_toArray, List.getElem?_cons_succ, List.getElem?_cons_zero]; done) | (simp only [List.getElem?_toArray, List.getElem?_cons_succ, List.getElem?_cons_zero]; rfl))) (by kernel_rfl) (by kernel_rfl) (by kernel_rfl) (by exact fun _ _ _ h => h) (Or.inl ⟨by rfl, ?_⟩) (by assumption) ?_; rotate_left; (focus (((intro w hSw; (try dsimp only at hSw); go_simp) <;> (try with_reducible rfl)); done)); (try simp only [Act.put, List.setIfInBounds_toArray, List.set_cons_zero, List.set_cons_succ]))); ((refine wpAnyH_take (i := 3) (v := ?_) (by (first | (simp only [List.getElem?_toArray, List.getElem?_cons_succ, List.getElem?_cons_zero]; done) | (simp only [List.getElem?_toArray, List.getElem?_cons_succ, List.getElem?_cons_zero]; rfl))) (by kernel_rfl) (by kernel_rfl) (by kernel_rfl) (by exact fun _ _ _ h => h) (Or.inl ⟨by rfl, ?_⟩) (by assumption) ?_; rotate_left; (focus (((intro w hSw; (try dsimp only at hSw); go_simp) <;> (try with_reducible rfl)); done)); (try simp only [Act.put, List.setIfInBounds_toArray, List.set_cons_zero, List.set_cons_succ]))); ((refine wpAnyH_take (i := 4) (v := ?_) (by (first | (simp only [List.getElem?_toArray, List.getElem?_cons_succ, List.getElem?_cons_zero]; done) | (simp only [List.getElem?_toArray, List.getElem?_cons_succ, List.getElem?_cons_zero]; rfl))) (by kernel_rfl) (by kernel_rfl) (by kernel_rfl) (by exact fun _ _ _ h => h) (Or.inl ⟨by rfl, ?_⟩) (by assumption) ?_; rotate_left; (focus (((intro w hSw; (try dsimp only at hSw); go_simp) <;> (try with_reducible rfl)); done)); (try simp only [Act.put, List.setIfInBounds_toArray, List.set_cons_zero, List.set_cons_succ]))); ((refine wpAnyH_take (i := 5) (v := ?_) (by (first | (simp only [List.getElem?_toArray, List.getElem?_cons_succ, List.getElem?_cons_zero]; done) | (simp only [List.getElem?_toArray, List.getElem?_cons_succ, List.getElem?_cons_zero]; rfl))) (by kernel_rfl) (by kernel_rfl) (by kernel_rfl) (by exact fun _ _ _ h => h) (Or.inl ⟨by rfl, ?_⟩) (by assumption) ?_; rotate_left; (focus (((intro w hSw; (try dsimp only at hSw); go_simp) <;> (try with_reducible rfl)); done)); (try simp only [Act.put, List.setIfInBounds_toArray, List.set_cons_zero, List.set_cons_succ]))); ((refine wpAnyH_take (i := 6) (v := ?_) (by (first | (simp only [List.getElem?_toArray, List.getElem?_cons_succ, List.getElem?_cons_zero]; done) | (simp only [List.getElem?_toArray, List.getElem?_cons_succ, List.getElem?_cons_zero]; rfl))) (by kernel_rfl) (by kernel_rfl) (by kernel_rfl) (by exact fun _ _ _ h => h) (Or.inl ⟨by rfl, ?_⟩) (by assumption) ?_; rotate_left; (focus (((intro w hSw; (try dsimp only at hSw); go_simp) <;> (try with_reducible rfl)); done)); (try simp only [Act.put, List.setIfInBounds_toArray, List.set_cons_zero, List.set_cons_succ]))); ((refine wpAnyH_take (i := 7) (v := ?_) (by (first | (simp only [List.getElem?_toArray, List.getElem?_cons_succ, List.getElem?_cons_zero]; done) | (simp only [List.getElem?_toArray, List.getElem?_cons_succ, List.getElem?_cons_zero]; rfl))) (by kernel_rfl) (by kernel_rfl) (by kernel_rfl) (by exact fun _ _ _ h => h) (Or.inl ⟨by rfl, ?_⟩) (by assumption) ?_; rotate_left; (focus (((intro w hSw; (try dsimp only at hSw); go_simp) <;> (try with_reducible rfl)); done)); (try simp only [Act.put, List.setIfInBounds_toArray, List.set_cons_zero, List.set_cons_succ]))); ((refine wpAnyH_take (i := 8) (v := ?_) (by (first | (simp only [List.getElem?_toArray, List.getElem?_cons_succ, List.getElem?_cons_zero]; done) | (simp only [List.getElem?_toArray, List.getElem?_cons_succ, List.getElem?_cons_zero]; rfl))) (by kernel_rfl) (by kernel_rfl) (by kernel_rfl) (by exact fun _ _ _ h => h) (Or.inl ⟨by rfl, ?_⟩) (by assumption) ?_; rotate_left; (focus (((intro w hSw; (try dsimp only at hSw); go_simp) <;> (try with_reducible rfl)); done)); (try simp only [Act.put, List.setIfInBounds_toArray, List.set_cons_zero, List.set_cons_succ]))); ((refine wpAnyH_take (i := 9) (v := ?_) (by (first | (simp only [List.getElem?_toArray, List.getElem?_cons_succ, List.getElem?_cons_zero]; done) | (simp only [List.getElem?_toArray, List.getElem?_cons_succ, List.getElem?_cons_zero]; rfl))) (by kernel_rfl) (by kernel_rfl) (by kernel_rfl) (by exact fun _ _ _ h => h) (Or.inl ⟨by rfl, ?_⟩) (by assumption) ?_; rotate_left; (focus (((intro w hSw; (try dsimp only at hSw); go_simp) <;> (try with_reducible rfl)); done)); (try simp only [Act.put, List.setIfInBounds_toArray, List.set_cons_zero, List.set_cons_succ]))); ((refine wpAnyH_take (i := 10) (v := ?_) (by (first | (simp only [List.getElem?_toArray, List.getElem?_cons_succ, List.getElem?_cons_zero]; done) | (simp only [List.getElem?_toArray, List.getElem?_cons_succ, List.getElem?_cons_zero]; rfl))) (by kernel_rfl) (by kernel_rfl) (by kernel_rfl) (by exact fun _ _ _ h => h) (Or.inl ⟨by rfl, ?_⟩) (by assumption) ?_; rotate_left; (focus (((intro w hSw; (try dsimp only at hSw); go_simp) <;> (try with_reducible rfl)); done)); (try simp only [Act.put, List.setIfInBounds_toArray, List.set_cons_zero, List.set_cons_succ]))); ((refine wpAnyH_take (i := 11) (v := ?_) (by (first | (simp only [List.getElem?_toArray, List.getElem?_cons_succ, List.getElem?_cons_zero]; done) | (simp only [List.getElem?_toArray, List.getElem?_cons_succ, List.getElem?_cons_zero]; rfl))) (by kernel_rfl) (by kernel_rfl) (by kernel_rfl) (by exact fun _ _ _ h => h) (Or.inl ⟨by rfl, ?_⟩) (by assumption) ?_; rotate_left; (focus (((intro w hSw; (try dsimp only at hSw); go_simp) <;> (try with_reducible rfl)); done)); (try simp only [Act.put, List.setIfInBounds_toArray, List.set_cons_zero, List.set_cons_succ]))); ((refine wpAnyH_take (i := 12) (v := ?_) (by (first | (simp only [List.getElem?_toArray, List.getElem?_cons_succ, List.getElem?_cons_zero]; done) | (simp only [List.getElem?_toArray, List.getElem?_cons_succ, List.getElem?_cons_zero]; rfl))) (by kernel_rfl) (by kernel_rfl) (by kernel_rfl) (by exact fun _ _ _ h => h) (Or.inl ⟨by rfl, ?_⟩) (by assumption) ?_; rotate_left; (focus (((intro w hSw; (try dsimp only at hSw); go_simp) <;> (try with_reducible rfl)); done)); (try simp only [Act.put, List.setIfInBounds_toArray, List.set_cons_zero, List.set_cons_succ]))); ((refine wpAnyH_take (i := 13) (v := ?_) (by (first | (simp only [List.getElem?_toArray, List.getElem?_cons_succ, List.getElem?_cons_zero]; done) | (simp only [List.getElem?_toArray, List.getElem?_cons_succ, List.getElem?_cons_zero]; rfl))) (by kernel_rfl) (by kernel_rfl) (by kernel_rfl) (by exact fun _ _ _ h => h) (Or.inl ⟨by rfl, ?_⟩) (by assumption) ?_; rotate_left; (focus (((intro w hSw; (try dsimp only at hSw); go_simp) <;> (try with_reducible rfl)); done)); (try simp only [Act.put, List.setIfInBounds_toArray, List.set_cons_zero, List.set_cons_succ]))); ((refine wpAnyH_take (i := 14) (v := ?_) (by (first | (simp only [List.getElem?_toArray, List.getElem?_cons_succ, List.getElem?_cons_zero]; done) | (simp only [List.getElem?_toArray, List.getElem?_cons_succ, List.getElem?_cons_zero]; rfl))) (by kernel_rfl) (by kernel_rfl) (by kernel_rfl) (by exact fun _ _ _ h => h) (Or.inl ⟨by rfl, ?_⟩) (by assumption) ?_; rotate_left; (focus (((intro w hSw; (try dsimp only at hSw); go_simp) <;> (try with_reducible rfl)); done)); (try simp only [Act.put, List.setIfInBounds_toArray, List.set_cons_zero, List.set_cons_succ]))); ((refine wpAnyH_take (i := 15) (v := ?_) (by (first | (simp only [List.getElem?_toArray, List.getElem?_cons_succ, List.getElem?_cons_zero]; done) | (simp only [List.getElem?_toArray, List.getElem?_cons_succ, List.getElem?_cons_zero]; rfl))) (by kernel_rfl) (by kernel_rfl) (by kernel_rfl) (by exact fun _ _ _ h => h) (Or.inl ⟨by rfl, ?_⟩) (by assumption) ?_; rotate_left; (focus (((intro w hSw; (try dsimp only at hSw); go_simp) <;> (try with_reducible rfl)); done)); (try simp only [Act.put, List.setIfInBounds_toArray, List.set_cons_zero, List.set_cons_succ]))); ((refine wpAnyH_take (i := 16) (v := ?_) (by (first | (simp only [List.getElem?_toArray, List.getElem?_cons_succ, List.getElem?_cons_zero]; done) | (simp only [List.getElem?_toArray, List.getElem?_cons_succ, List.getElem?_cons_zero]; rfl))) (by kernel_rfl) (by kernel_rfl) (by kernel_rfl) (by exact fun _ _ _ h => h) (Or.inl ⟨by rfl, ?_⟩) (by assumption) ?_; rotate_left; (focus (((intro w hSw; (try dsimp only at hSw); go_simp) <;> (try with_reducible rfl)); done)); (try simp only [Act.put, List.setIfInBounds_toArray, List.set_cons_zero, List.set_cons_succ]))); ((refine wpAnyH_take (i := 17) (v := ?_) (by (first | (simp only [List.getElem?_toArray, List.getElem?_cons_succ, List.getElem?_cons_zero]; done) | (simp only [List.getElem?_toArray, List.getElem?_cons_succ, List.getElem?_cons_zero]; rfl))) (by kernel_rfl) (by kernel_rfl) (by kernel_rfl) (by exact fun _ _ _ h => h) (Or.inl ⟨by rfl, ?_⟩) (by assumption) ?_; rotate_left; (focus (((intro w hSw; (try dsimp only at hSw); go_simp) <;> (try with_reducible rfl)); done)); (try simp only [Act.put, List.setIfInBounds_toArray, List.set_cons_zero, List.set_cons_succ]))); ((refine wpAnyH_take (i := 18) (v := ?_) (by (first | (simp only [List.getElem?_toArray, List.getElem?_cons_succ, List.getElem?_cons_zero]; done) | (simp only [List.getElem?_toArray, List.getElem?_cons_succ, List.getElem?_cons_zero]; rfl))) (by kernel_rfl) (by kernel_rfl) (by kernel_rfl) (by exact fun _ _ _ h => h) (Or.inl ⟨by rfl, ?_⟩) (by assumption) ?_; rotate_left; (focus (((intro w hSw; (try dsimp only at hSw); go_simp) <;> (try with_reducible rfl)); done)); (try simp only [Act.put, List.setIfInBounds_toArray, List.set_cons_zero, List.set_cons_succ]))); ((refine wpAnyH_take (i := 19) (v := ?_) (by (first | (simp only [List.getElem?_toArray, List.getElem?_cons_succ, List.getElem?_cons_zero]; done) | (simp only [List.getElem?_toArray, List.getElem?_cons_succ, List.getElem?_cons_zero]; rfl))) (by kernel_rfl) (by kernel_rfl) (by kernel_rfl) (by exact fun _ _ _ h => h) (Or.inl ⟨by rfl, ?_⟩) (by assumption) ?_; rotate_left; (focus (((intro w hSw; (try dsimp only at hSw); go_simp) <;> (try with_reducible rfl)); done)); (try simp only [Act.put, List.setIfInBounds_toArray, List.set_cons_zero, List.set_cons_succ]))); ((refine wpAnyH_take (i := 20) (v := ?_) (by (first | (simp only [List.getElem?_toArray, List.getElem?_cons_succ, List.getElem?_cons_zero]; done) | (simp only [List.getElem?_toArray, List.getElem?_cons_succ, List.getElem?_cons_zero]; rfl))) (by kernel_rfl) (by kernel_rfl) (by kernel_rfl) (by exact fun _ _ _ h => h) (Or.inl ⟨by rfl, ?_⟩) (by assumption) ?_; rotate_left; (focus (((intro w hSw; (try dsimp only at hSw); go_simp) <;> (try with_reducible rfl)); done)); (try simp only [Act.put, List.setIfInBounds_toArray, List.set_cons_zero, List.set_cons_succ]))); ((refine wpAnyH_take (i := 21) (v := ?_) (by (first | (simp only [List.getElem?_toArray, List.getElem?_cons_succ, List.getElem?_cons_zero]; done) | (simp only [List.getElem?_toArray, List.getElem?_cons_succ, List.getElem?_cons_zero]; rfl))) (by kernel_rfl) (by kernel_rfl) (by kernel_rfl) (by exact fun _ _ _ h => h) (Or.inl ⟨by rfl, ?_⟩) (by assumption) ?_; rotate_left; (focus (((intro w hSw; (try dsimp only at hSw); go_simp) <;> (try with_reducible rfl)); done)); (try simp only [Act.put, List.setIfInBounds_toArray, List.set_cons_zero, List.set_cons_succ]))); ((refine wpAnyH_take (i := 22) (v := ?_) (by (first | (simp only [List.getElem?_toArray, List.getElem?_cons_succ, List.getElem?_cons_zero]; done) | (simp only [List.getElem?_toArray, List.getElem?_cons_succ, List.getElem?_cons_zero]; rfl))) (by kernel_rfl) (by kernel_rfl) (by kernel_rfl) (by exact fun _ _ _ h => h) (Or.inl ⟨by rfl, ?_⟩) (by assumption) ?_; rotate_left; (focus (((intro w hSw; (try dsimp only at hSw); go_simp) <;> (try with_reducible rfl)); done)); (try simp only [Act.put, List.setIfInBounds_toArray, List.set_cons_zero, List.set_cons_succ]))); ((refine wpAnyH_take (i := 23) (v := ?_) (by (first | (simp only [List.getElem?_toArray, List.getElem?_cons_succ, List.getElem?_cons_zero]; done) | (simp only [List.getElem?_toArray, List.getElem?_cons_succ, List.getElem?_cons_zero]; rfl))) (by kernel_rfl) (by kernel_rfl) (by kernel_rfl) (by exact fun _ _ _ h => h) (Or.inl ⟨by rfl, ?_⟩) (by assumption) ?_; rotate_left; (focus (((intro w hSw; (try dsimp only at hSw); go_simp) <;> (try with_reducible rfl)); done)); (try simp only [Act.put, List.setIfInBounds_toArray, List.set_cons_zero, List.set_cons_succ]))); ((refine wpAnyH_take (i := 24) (v := ?_) (by (first | (simp only [List.getElem?_toArray, List.getElem?_cons_succ, List.getElem?_cons_zero]; done) | (simp only [List.getElem?_toArray, List.getElem?_cons_succ, List.getElem?_cons_zero]; rfl))) (by kernel_rfl) (by kernel_rfl) (by kernel_rfl) (by exact fun _ _ _ h => h) (Or.inl ⟨by rfl, ?_⟩) (by assumption) ?_; rotate_left; (focus (((intro w hSw; (try dsimp only at hSw); go_simp) <;> (try with_reducible rfl)); done)); (try simp only [Act.put, List.setIfInBounds_toArray, List.set_cons_zero, List.set_cons_succ]))); ((refine wpAnyH_take (i := 25) (v := ?_) (by (first | (simp only [List.getElem?_toArray, List.getElem?_cons_succ, List.getElem?_cons_zero]; done) | (simp only [List.getElem?_toArray, List.getElem?_cons_succ, List.getElem?_cons_zero]; rfl))) (by kernel_rfl) (by kernel_rfl) (by kernel_rfl) (by exact fun _ _ _ h => h) (Or.inl ⟨by rfl, ?_⟩) (by assumption) ?_; rotate_left; (focus (((intro w hSw; (try dsimp only at hSw); go_simp) <;> (try with_reducible rfl)); done)); (try simp only [Act.put, List.setIfInBounds_toArray, List.set_cons_zero, List.set_cons_succ]))); ((refine wpAnyH_take (i := 26) (v := ?_) (by (first | (simp only [List.getElem?_toArray, List.getElem?_cons_succ, List.getElem?_cons_zero]; done) | (simp only [List.getElem?_toArray, List.getElem?_cons_succ, List.getElem?_cons_zero]; rfl))) (by kernel_rfl) (by kernel_rfl) (by kernel_rfl) (by exact fun _ _ _ h => h) (Or.inl ⟨by rfl, ?_⟩) (by assumption) ?_; rotate_left; (focus (((intro w hSw; (try dsimp only at hSw); go_simp) <;> (try with_reducible rfl)); done)); (try simp only [Act.put, List.setIfInBounds_toArray, List.set_cons_zero, List.set_cons_succ]))); ((refine wpAnyH_take (i := 27) (v := ?_) (by (first | (simp only [List.getElem?_toArray, List.getElem?_cons_succ, List.getElem?_cons_zero]; done) | (simp only [List.getElem?_toArray, List.getElem?_cons_succ, List.getElem?_cons_zero]; rfl))) (by kernel_rfl) (by kernel_rfl) (by kernel_rfl) (by exact fun _ _ _ h => h) (Or.inl ⟨by rfl, ?_⟩) (by assumption) ?_; rotate_left; (focus (((intro w hSw; (try dsimp only at hSw); go_simp) <;> (try with_reducible rfl)); done)); (try simp only [Act.put, List.setIfInBounds_toArray, List.set_cons_zero, List.set_cons_succ]))); ((refine wpAnyH_take (i := 28) (v := ?_) (by (first | (simp only [List.getElem?_toArray, List.getElem?_cons_succ, List.getElem?_cons_zero]; done) | (simp only [List.getElem?_toArray, List.getElem?_cons_succ, List.getElem?_cons_zero]; rfl))) (by kernel_rfl) (by kernel_rfl) (by kernel_rfl) (by exact fun _ _ _ h => h) (Or.inl ⟨by rfl, ?_⟩) (by assumption) ?_; rotate_left; (focus (((intro w hSw; (try dsimp only at hSw); go_simp) <;> (try with_reducible rfl)); done)); (try simp only [Act.put, List.setIfInBounds_toArray, List.set_cons_zero, List.set_cons_succ]))); ((refine wpAnyH_ready (rs := [29]) (by kernel_rfl) (by simp) ?_; refine AllReadyH.cons (by (first | (simp only [List.getElem?_toArray, List.getElem?_cons_succ, List.getElem?_cons_zero]; done) | (simp only [List.getElem?_toArray, List.getElem?_cons_succ, List.getElem?_cons_zero]; rfl))) (fun K hK => ?_) AllReadyH.nil; go_simp; (go_at_call 221; refine (spec_l1FitQ _ _).mono ?_; rintro e w' ⟨rfl, rfl⟩); (try go_wp2_with fail); refine hK.out _ _ ?_ (fun hHeld => ?_); (focus ((try dsimp only); (go_keep))); clear hK K; (try simp only [Act.put, List.setIfInBounds_toArray, List.set_cons_zero, List.set_cons_succ]))); ((refine wpAnyH_take (i := 30) (v := ?_) (by (first | (simp only [List.getElem?_toArray, List.getElem?_cons_succ, List.getElem?_cons_zero]; done) | (simp only [List.getElem?_toArray, List.getElem?_cons_succ, List.getElem?_cons_zero]; rfl))) (by kernel_rfl) (by kernel_rfl) (by kernel_rfl) (by exact fun _ _ _ h => h) (Or.inl ⟨by rfl, ?_⟩) (by assumption) ?_; rotate_left; (focus (((intro w hSw; (try dsimp only at hSw); go_simp) <;> (try with_reducible rfl)); done)); (try simp only [Act.put, List.setIfInBounds_toArray, List.set_cons_zero, List.set_cons_succ]))); (refine wpAnyH_done (by kernel_rfl) ?_ _))
                                clear g1 g2 g3 g4 g5 g6 g7 g8 g9
                                have hvb : -400000000000000000 ≤ y.tdiv (G : Nat) * z1 - x.tdiv (G : Nat) * z2 ∧ y.tdiv (G : Nat) * z1 - x.tdiv (G : Nat) * z2 ≤ 400000000000000000 := by omega
                                obtain ⟨hv1, hv2⟩ := hvb
                                clear d2 d3 d5 d6
                                generalize y.tdiv (G : Nat) * z1 - x.tdiv (G : Nat) * z2 = v at *
                                by_cases hvn : -400000000 ≤ v ∧ v ≤ 400000000
                                · have hnxa := Lib.hid (HALL.out.trans ((isNum_iff _).2 (by rw [HCK.out]; exact hvn)))
                                  have HFV : Hid (fitQ v = v) := Lib.hid (fitQ_in hvn)
                                  obtain ⟨hvn1, hvn2⟩ := hvn
                                  have hvbad : (v == -4611686018427387904) = false := by simp; omega
                                  rw [HCK.out] at hstp
                                  have hs4 := hown.set_ (i * C + k) v
                                  rw [tb_set hiR hkC, hstp] at hs4
                                  rw [E6.out] at c4
                                  clear hstp c5
                                  rw [HFV.out]
                                  go_wp2
                                  go_roundw
                                  case rel => exact ⟨k + 1, by go_num, by omega, hnxa.out, by (repeat (first | (with_reducible exact hO) | (with_reducible refine BX.new _ _ _ _ _ _ _ _ (by first | omega | (simp; done) | (simp; omega))) | (with_reducible refine BX.below ?_ (by assumption) (by first | omega | (simp; done) | (simp; omega))) | (with_reducible apply BX.drew) | (with_reducible apply BX.drewN) | (with_reducible refine BX.put ?_) | (with_reducible refine BX.put2 ?_) | (with_reducible refine BX.far ?_ (by simp only [ne_eq]; omega) _) | (with_reducible apply BX.alloc) | (with_reducible refine B3.new _ _ _ _ _ _ (by first | omega | (simp; done) | (simp; omega))) | (with_reducible exact B3.of hO) | (with_reducible refine B3.below ?_ (by assumption) (by first | omega | (simp; done) | (simp; omega))) | (with_reducible apply B3.drew) | (with_reducible apply B3.drewN) | (with_reducible refine B3.far ?_ (by simp only [ne_eq]; omega) _) | (with_reducible apply B3.alloc))), by (repeat (first | (with_reducible exact hRV) | (with_reducible refine BX.new _ _ _ _ _ _ _ _ (by first | omega | (simp; done) | (simp; omega))) | (with_reducible refine BX.below ?_ (by assumption) (by first | omega | (simp; done) | (simp; omega))) | (with_reducible apply BX.drew) | (with_reducible apply BX.drewN) | (with_reducible refine BX.put ?_) | (with_reducible refine BX.put2 ?_) | (with_reducible refine BX.far ?_ (by simp only [ne_eq]; omega) _) | (with_reducible apply BX.alloc) | (with_reducible refine B3.new _ _ _ _ _ _ (by first | omega | (simp; done) | (simp; omega))) | (with_reducible exact B3.of hRV) | (with_reducible refine B3.below ?_ (by assumption) (by first | omega | (simp; done) | (simp; omega))) | (with_reducible apply B3.drew) | (with_reducible apply B3.drewN) | (with_reducible refine B3.far ?_ (by simp only [ne_eq]; omega) _) | (with_reducible apply B3.alloc))), (by first | exact hs4 | exact OR.drew hs4), by (repeat (first | (with_reducible exact hP) | (with_reducible refine OR.drew ?_) | (with_reducible refine OR.drewN ?_ _) | (with_reducible refine OR.alloc ?_ _) | (with_reducible refine OR.below ?_ (by assumption) (by first | omega | (simp; done) | (simp; omega))) | (with_reducible refine OR.low ?_ (by first | omega | (simp only []; omega) | (simp; omega)) _))), by (repeat (first | (with_reducible exact Below.refl _ _) | (with_reducible assumption) | (with_reducible refine below_drewN ?_ _) | (with_reducible refine Below.drew ?_) | (with_reducible refine Below.alloc ?_ ?_ _) | (with_reducible refine Below.setCell ?_ ?_ _) | (with_reducible refine below_into ?_ (by assumption) (by first | omega | (simp; done) | (simp; omega))) | go_size))⟩
                                  case measure => simp only [intOf]; omega
                                · have hyn := HBK.out (by rw [HCK.out, ← Bool.not_eq_true, isNum_iff]; exact hvn)
                                  have hxn := HN.out hyn
                                  have HFV : Hid (fitQ v = -4611686018427387904) := Lib.hid (fitQ_out (by omega))
                                  have hvbad : (fitQ v == -4611686018427387904) = true := beq_iff_eq.2 HFV.out
                                  subst hxn
                                  clear hyn c4 c5 HFV HCK HALL HBK hvn hstp
                                  generalize fitQ v = fv at *
                                  go_wp2
                                  refine ret_MTT' (b := w.heap.size + 1) Try.results174 rfl (by (repeat (first | (with_reducible exact hRV) | (with_reducible refine BX.new _ _ _ _ _ _ _ _ (by first | omega | (simp; done) | (simp; omega))) | (with_reducible refine BX.below ?_ (by assumption) (by first | omega | (simp; done) | (simp; omega))) | (with_reducible apply BX.drew) | (with_reducible apply BX.drewN) | (with_reducible refine BX.put ?_) | (with_reducible refine BX.put2 ?_) | (with_reducible refine BX.far ?_ (by simp only [ne_eq]; omega) _) | (with_reducible apply BX.alloc) | (with_reducible refine B3.new _ _ _ _ _ _ (by first | omega | (simp; done) | (simp; omega))) | (with_reducible exact B3.of hRV) | (with_reducible refine B3.below ?_ (by assumption) (by first | omega | (simp; done) | (simp; omega))) | (with_reducible apply B3.drew) | (with_reducible apply B3.drewN) | (with_reducible refine B3.far ?_ (by simp only [ne_eq]; omega) _) | (with_reducible apply B3.alloc)))) rfl ?_
                                  exact MIBR.none_ (OR.empty' _ wr.heap.size (by simp [World.setCell]) (by simp [World.setCell]; omega)) (by (repeat (first | (with_reducible exact Below.refl _ _) | (with_reducible assumption) | (with_reducible refine below_drewN ?_ _) | (with_reducible refine Below.drew ?_) | (with_reducible refine Below.alloc ?_ ?_ _) | (with_reducible refine Below.setCell ?_ ?_ _) | (with_reducible refine below_into ?_ (by assumption) (by first | omega | (simp; done) | (simp; omega))) | go_size)))
                              · obtain rfl : C = k := by omega
                                have hkk : okQ C q t j i = true := hal.out
                                have hnx := Lib.hid (HDO.out hkk)
                                have HQS := Lib.hid (HOQ.out.st hiR hkk)
                                have HPB : Hid (∀ c : Nat, c < C → -400000000 ≤ cbK q t j i C i c ∧ cbK q t j i C i c ≤ 400000000) := Lib.hid (fun c hc => by
                                  unfold cbK
                                  rw [if_pos ⟨rfl, hc⟩]; exact (isNum_iff _).1 (List.all_eq_true.1 hkk c (List.mem_range.2 hc)))
                                clear hkk
                                go_wp2_with fail
                                refine (spec_l7Primitive R C i _ n2 cap2 (cbK q t j i C) _ (B := w.heap.size + 1 + 1) (by (repeat (first | (with_reducible exact hown) | (with_reducible refine OR.drew ?_) | (with_reducible refine OR.drewN ?_ _) | (with_reducible refine OR.alloc ?_ _) | (with_reducible refine OR.below ?_ (by assumption) (by first | omega | (simp; done) | (simp; omega))) | (with_reducible refine OR.low ?_ (by first | omega | (simp only []; omega) | (simp; omega)) _)))) hiR (by omega) (by omega) HPB.out).mono ?_
                                rintro e w5 ⟨rfl, hown_1, hgr_0, hsz_0⟩
                                have hO_1 := hO.keptOwn hgr_0 HU.out (.inr (by omega)); have hRV_1 := hRV.keptOwn hgr_0 HU.out (.inl (by omega)); have hP_1 := hP.keptOwn hgr_0 hP.own HU.out (.inr (by omega)); have hbw_1 : Below w.heap.size w w5 := (hbw.trans (below_keptOwn hgr_0 HU.out (by omega) (by omega))); clear hgr_0 hsz_0; clear hO hRV hown hP hbw oa ob oc of ol ra rb rc rf rl; have hO := hO_1; have hRV := hRV_1; have hown := hown_1; have hP := hP_1; have hbw := hbw_1; clear hO_1 hRV_1 hown_1 hP_1 hbw_1; obtain ⟨oa, ob, oc, of, ol⟩ := hO.mx; obtain ⟨ra, rb, rc, rf, rl⟩ := hRV.mx
                                go_wp2_with fail
                                go_roundw
                                case rel => exact ⟨i + 1, _, by go_num, by omega, HQS.out, hnx.out, hO, hRV, hown, hP, hbw⟩
                                case measure => simp only [intOf]; omega
                      · obtain rfl : R = i := by omega
                        have hyy : Y = some q := hrq.out.symm.trans (rowsQ_end _ _ _ _ _)
                        have hcx := Lib.hid (HS.out q hyy)
                        clear hyy
                        go_wp2_with (at_builtin; refine wpList_append_one _ rfl (.tmp 166) (.tmp 168) rfl (bO + 1) _ _ rfl (hP.alloc _) _ j rfl ?f1 ?f2 ?f3 ?_)
                        case f1 => simp [go_sem]
                        case f2 => have := hpl.out; omega
                        case f3 => simp; omega
                        intro v1 w5 hown1 hgr hat
                        have hO2 := (hO.alloc (.cells #[.int .i64 j] 3)).grown hgr (hP.ne_low (by omega))
                        have hR2 := (hRV.alloc (.cells #[.int .i64 j] 3)).grown hgr (hP.ne_low (by omega))
                        have hK2 := (hown.alloc (.cells #[.int .i64 j] 3)).kept hgr (.inr (hP.ne_low (show g < bO + 1 by omega)))
                        have hb2 := Below.trans (show Below w.heap.size w (wr.alloc (.cells #[.int .i64 j] 3)) by (repeat (first | (with_reducible exact Below.refl _ _) | (with_reducible assumption) | (with_reducible refine below_drewN ?_ _) | (with_reducible refine Below.drew ?_) | (with_reducible refine Below.alloc ?_ ?_ _) | (with_reducible refine Below.setCell ?_ ?_ _) | (with_reducible refine below_into ?_ (by assumption) (by first | omega | (simp; done) | (simp; omega))) | go_size))) ((hP.alloc (.cells #[.int .i64 j] 3)).below_grown hgr (by simp; omega) |>.mono (by omega))
                        have hl1 : (ps ++ [(j : Int)]).length = t + 1 := by have := hpl.out; simp; omega
                        obtain ⟨P', pc', rfl⟩ := hown1.shape'
                        rw [hl1] at hown1 ⊢
                        have HL1 := Lib.hid hl1
                        clear hgr hat hl1
                        go_wp2
                        go_roundw
                        case rel => exact ⟨j + 1, _, t + 1, P', pc', _, by go_num, rfl, HL1.out, by omega, by omega, HOQ.out, hcx.out, hO2, hR2, hK2, hown1, hb2⟩
                        case measure => simp only [intOf]; omega
                  · have hktb : ((k : Int) != (t : Int)) = true := by simp; omega
                    have HKT := Lib.hid hkt
                    clear hkt
                    go_wp2_with fail
                    refine (spec_l5Do_swap R C k t 0 _ n2 cap2 f _ (B := w.heap.size + 1 + 1) (by (repeat (first | (with_reducible exact hown) | (with_reducible refine OR.drew ?_) | (with_reducible refine OR.drewN ?_ _) | (with_reducible refine OR.alloc ?_ _) | (with_reducible refine OR.below ?_ (by assumption) (by first | omega | (simp; done) | (simp; omega))) | (with_reducible refine OR.low ?_ (by first | omega | (simp only []; omega) | (simp; omega)) _)))) hkR htR HKT.out (by omega) (by omega) (by omega)).mono ?_
                    rintro e w5 ⟨rfl, hown_1, hgr_0, hsz_0⟩
                    clear c1
                    have hO_1 := hO.keptOwn hgr_0 HU.out (.inr (by omega)); have hRV_1 := hRV.keptOwn hgr_0 HU.out (.inl (by omega)); have hP_1 := hP.keptOwn hgr_0 hP.own HU.out (.inr (by omega)); have hbw_1 : Below w.heap.size w w5 := (hbw.trans (below_keptOwn hgr_0 HU.out (by omega) (by omega))); clear hgr_0 hsz_0; clear hO hRV hown hP hbw oa ob oc of ol ra rb rc rf rl; have hO := hO_1; have hRV := hRV_1; have hown := hown_1; have hP := hP_1; have hbw := hbw_1; clear hO_1 hRV_1 hown_1 hP_1 hbw_1; obtain ⟨oa, ob, oc, of, ol⟩ := hO.mx; obtain ⟨ra, rb, rc, rf, rl⟩ := hRV.mx
                    generalize swF f k t = F1 at *
                    have HQ1 : Hid (QOk R C F1) := HQF
                    generalize hY : rowsQ C t j (R - 0) 0 F1 = Y at *
                    go_wp2_with fail
                    obtain ⟨wo3, rfl⟩ : ∃ wo : World, wo = w5 := ⟨_, rfl⟩
                    go_loopw [11] (fun v wr => ∃ (i : Nat) (q : Nat → Nat → Int), v = .int .i64 i ∧ i ≤ R ∧ QOk R C q ∧ rowsQ C t j (R - i) i q = Y ∧ BM wr bO R C (some ⟨g, 0, none⟩) n2 cap2 ∧ BM wr (w.heap.size + 1) 0 0 none 0 0 ∧ OR wr (w.heap.size + 1 + 1) (.slice (some ⟨g, 0, none⟩) n2 cap2) (tb R C q) ∧ OR wr (bO + 1) (.slice P t pc) ps ∧ Below w.heap.size w wr) (fun v _ => R - (intOf v).toNat)
                    case atStart => exact ⟨0, F1, rfl, Nat.zero_le _, HQ1.out, hY, hO, hRV, hown, hP, hbw⟩
                    case round =>
                      clear hO hRV hown hP hbw oa ob oc of ol ra rb rc rf rl
                      clear hY
                      obtain ⟨i, q, rfl, hi, hokq, hrq0, hO, hRV, hown, hP, hbw⟩ := hrel
                      have hrq := Lib.hid hrq0
                      have HOQ := Lib.hid hokq
                      clear hrq0 hokq
                      obtain ⟨oa, ob, oc, of, ol⟩ := hO.mx; obtain ⟨ra, rb, rc, rf, rl⟩ := hRV.mx
                      by_cases hiR : i < R
                      · obtain ⟨hx1, hx2⟩ := HOQ.out.bd i j hiR hjC
                        obtain ⟨hy1, hy2⟩ := HOQ.out.bd t j htR hjC
                        have hidi : i * C + j < n2 := by rw [HN2.out]; exact idx_nat hiR hjC
                        have hidt : t * C + j < n2 := by rw [HN2.out]; exact idx_nat htR hjC
                        have hidi3 : i * C ≤ 2000 := by have := Nat.mul_le_mul (show i ≤ 24 by omega) (show C ≤ 48 by omega); omega
                        have hidt3 : t * C ≤ 2000 := by have := Nat.mul_le_mul (show t ≤ 24 by omega) (show C ≤ 48 by omega); omega
                        have c1 := hown.cell (i * C + j) (by rw [tb_len]; exact idx_nat hiR (by omega)); rw [tb_at hiR (by omega)] at c1
                        by_cases hit : i = t
                        · have hb1 : ((i : Int) == (t : Int)) = true := by simp [hit]
                          have hnx := Lib.hid ((rowsQ_skip hiR (.inl hit)).symm.trans hrq.out)
                          clear hit
                          generalize q i j = x at *
                          go_wp2_with fail
                          go_roundw
                          case rel => exact ⟨i + 1, q, by go_num, by omega, HOQ.out, hnx.out, hO, hRV, hown, hP, hbw⟩
                          case measure => simp only [intOf]; omega
                        · have hb1 : ((i : Int) == (t : Int)) = false := by simp; omega
                          by_cases hx0 : q i j = 0
                          · have hnx := Lib.hid ((rowsQ_skip hiR (.inr hx0)).symm.trans hrq.out)
                            rw [hx0] at c1
                            clear hx0
                            go_wp2_with fail
                            go_roundw
                            case rel => exact ⟨i + 1, q, by go_num, by omega, HOQ.out, hnx.out, hO, hRV, hown, hP, hbw⟩
                            case measure => simp only [intOf]; omega
                          · have HDO : Hid (okQ C q t j i = true → rowsQ C t j (R - (i + 1)) (i + 1) (stQ C q t j i) = Y) := Lib.hid (fun hk => (rowsQ_do hiR hit hx0 hk).symm.trans hrq.out)
                            have HBAD : Hid (okQ C q t j i = false → Y = none) := Lib.hid (fun hk => hrq.out.symm.trans (rowsQ_bad hiR hit hx0 hk))
                            have HCV : Hid (∀ k, cbV q t j i k = (q t j).tdiv (Int.gcd (q i j) (q t j) : Nat) * q i k - (q i j).tdiv (Int.gcd (q i j) (q t j) : Nat) * q t k) := Lib.hid (fun k => rfl)
                            have hg0 : 0 < Int.gcd (q i j) (q t j) := Int.gcd_pos_of_ne_zero_left _ hx0
                            have hg1' : Int.gcd (q i j) (q t j) ≤ (q i j).natAbs := Nat.le_of_dvd (by omega) (Int.gcd_dvd_natAbs_left ..)
                            have HIT := Lib.hid hit
                            have c2 := hown.cell (t * C + j) (by rw [tb_len]; exact idx_nat htR (by omega)); rw [tb_at htR (by omega)] at c2
                            have hxb : (q i j == 0) = false := by simpa using hx0
                            clear hx0 hit
                            generalize q i j = x at *
                            generalize q t j = y at *
                            go_wp2_with (first | (go_at_call 175; refine (spec_GcdOf _ _ _ (by omega) (by omega)).mono ?_; rintro e w' ⟨rfl, nd, rfl⟩))
                            generalize Int.gcd x y = G at *
                            clear c1 c2
                            obtain ⟨wo4, rfl⟩ : ∃ wo : World, wo = wr := ⟨_, rfl⟩
                            go_loopw [15] (fun v wr => ∃ k : Nat, v = .int .i64 k ∧ k ≤ C ∧ (List.range k).all (fun k => isNum (cbV q t j i k)) = true ∧ BM wr bO R C (some ⟨g, 0, none⟩) n2 cap2 ∧ BM wr (w.heap.size + 1) 0 0 none 0 0 ∧ OR wr (w.heap.size + 1 + 1) (.slice (some ⟨g, 0, none⟩) n2 cap2) (tb R C (cbK q t j i k)) ∧ OR wr (bO + 1) (.slice P t pc) ps ∧ Below w.heap.size w wr) (fun v _ => C - (intOf v).toNat)
                            case atStart => exact ⟨0, rfl, Nat.zero_le _, by simp, by (repeat (first | (with_reducible exact hO) | (with_reducible refine BX.new _ _ _ _ _ _ _ _ (by first | omega | (simp; done) | (simp; omega))) | (with_reducible refine BX.below ?_ (by assumption) (by first | omega | (simp; done) | (simp; omega))) | (with_reducible apply BX.drew) | (with_reducible apply BX.drewN) | (with_reducible refine BX.put ?_) | (with_reducible refine BX.put2 ?_) | (with_reducible refine BX.far ?_ (by simp only [ne_eq]; omega) _) | (with_reducible apply BX.alloc) | (with_reducible refine B3.new _ _ _ _ _ _ (by first | omega | (simp; done) | (simp; omega))) | (with_reducible exact B3.of hO) | (with_reducible refine B3.below ?_ (by assumption) (by first | omega | (simp; done) | (simp; omega))) | (with_reducible apply B3.drew) | (with_reducible apply B3.drewN) | (with_reducible refine B3.far ?_ (by simp only [ne_eq]; omega) _) | (with_reducible apply B3.alloc))), by (repeat (first | (with_reducible exact hRV) | (with_reducible refine BX.new _ _ _ _ _ _ _ _ (by first | omega | (simp; done) | (simp; omega))) | (with_reducible refine BX.below ?_ (by assumption) (by first | omega | (simp; done) | (simp; omega))) | (with_reducible apply BX.drew) | (with_reducible apply BX.drewN) | (with_reducible refine BX.put ?_) | (with_reducible refine BX.put2 ?_) | (with_reducible refine BX.far ?_ (by simp only [ne_eq]; omega) _) | (with_reducible apply BX.alloc) | (with_reducible refine B3.new _ _ _ _ _ _ (by first | omega | (simp; done) | (simp; omega))) | (with_reducible exact B3.of hRV) | (with_reducible refine B3.below ?_ (by assumption) (by first | omega | (simp; done) | (simp; omega))) | (with_reducible apply B3.drew) | (with_reducible apply B3.drewN) | (with_reducible refine B3.far ?_ (by simp only [ne_eq]; omega) _) | (with_reducible apply B3.alloc))), by rw [cbK_zero]; (repeat (first | (with_reducible exact hown) | (with_reducible refine OR.drew ?_) | (with_reducible refine OR.drewN ?_ _) | (with_reducible refine OR.alloc ?_ _) | (with_reducible refine OR.below ?_ (by assumption) (by first | omega | (simp; done) | (simp; omega))) | (with_reducible refine OR.low ?_ (by first | omega | (simp only []; omega) | (simp; omega)) _))), by (repeat (first | (with_reducible exact hP) | (with_reducible refine OR.drew ?_) | (with_reducible refine OR.drewN ?_ _) | (with_reducible refine OR.alloc ?_ _) | (with_reducible refine OR.below ?_ (by assumption) (by first | omega | (simp; done) | (simp; omega))) | (with_reducible refine OR.low ?_ (by first | omega | (simp only []; omega) | (simp; omega)) _))), by (repeat (first | (with_reducible exact Below.refl _ _) | (with_reducible assumption) | (with_reducible refine below_drewN ?_ _) | (with_reducible refine Below.drew ?_) | (with_reducible refine Below.alloc ?_ ?_ _) | (with_reducible refine Below.setCell ?_ ?_ _) | (with_reducible refine below_into ?_ (by assumption) (by first | omega | (simp; done) | (simp; omega))) | go_size))⟩
                            case round =>
                              clear hO hRV hown hP hbw oa ob oc of ol ra rb rc rf rl
                              obtain ⟨k, rfl, hk, hal0, hO, hRV, hown, hP, hbw⟩ := hrel
                              have hal := Lib.hid hal0
                              clear hal0
                              obtain ⟨oa, ob, oc, of, ol⟩ := hO.mx; obtain ⟨ra, rb, rc, rf, rl⟩ := hRV.mx
                              by_cases hkC : k < C
                              · obtain ⟨z1a, z1b⟩ := HOQ.out.bd i k hiR hkC
                                obtain ⟨z2a, z2b⟩ := HOQ.out.bd t k htR hkC
                                have hiki := idx_nat hiR hkC
                                have hikt := idx_nat htR hkC
                                have c4 := hown.cell (i * C + k) (by rw [tb_len]; exact hiki)
                                rw [tb_at hiR hkC, cbK_at q t j i k k (Nat.le_refl _)] at c4
                                have c5 := hown.cell (t * C + k) (by rw [tb_len]; exact hikt)
                                rw [tb_at htR hkC, cbK_t q t j i k k HIT.out] at c5
                                have f4 := hown.frozen (i * C + k)
                                have hcv := HCV.out k
                                have hstp := cbK_step q t j i k
                                have hall := range_all_succ (fun k => isNum (cbV q t j i k)) k
                                rw [show (List.range k).all (fun k => isNum (cbV q t j i k)) = true from hal.out, Bool.true_and] at hall
                                have hbadk : isNum (cbV q t j i k) = false → Y = none := fun e => HBAD.out (range_all_false (p := fun k => isNum (cbV q t j i k)) hkC e)
                                generalize q i k = z1 at *
                                generalize q t k = z2 at *
                                obtain ⟨d1, d2, d3⟩ := quo_bd y (G : Int) z1 (by omega) (by omega)
                                obtain ⟨d4, d5, d6⟩ := quo_bd x (G : Int) z2 (by omega) (by omega)
                                have hG1 : ¬ G = 0 := by omega
                                have hG0 : ¬ ((G : Nat) : Int) = 0 := by omega
                                have g1 : IntKind.i64.wrap (y.tdiv (G : Nat)) = y.tdiv (G : Nat) := IntWalk.i64_in _ (by omega)
                                have g2 : IntKind.i64.wrap (x.tdiv (G : Nat)) = x.tdiv (G : Nat) := IntWalk.i64_in _ (by omega)
                                have g3 : IntKind.i64.wrap (y.tdiv (G : Nat) * z1) = y.tdiv (G : Nat) * z1 := IntWalk.i64_in _ (by omega)
                                have g4 : IntKind.i64.wrap (x.tdiv (G : Nat) * z2) = x.tdiv (G : Nat) * z2 := IntWalk.i64_in _ (by omega)
                                have g5 : IntKind.i64.wrap (y.tdiv (G : Nat) * z1 - x.tdiv (G : Nat) * z2) = y.tdiv (G : Nat) * z1 - x.tdiv (G : Nat) * z2 := IntWalk.i64_in _ (by omega)
                                have hn2' : n2 ≤ R * C ∧ R * C ≤ n2 := by have := HN2.out; omega
                                have i1 : (t : Int) * (C : Int) = ((t * C : Nat) : Int) := by rw [Int.natCast_mul]
                                have i2 : (i : Int) * (C : Int) = ((i * C : Nat) : Int) := by rw [Int.natCast_mul]
                                have g6 : IntKind.i64.wrap ((t : Int) * (C : Int)) = (t : Int) * (C : Int) := IntWalk.i64_in _ (by omega)
                                have g7 : IntKind.i64.wrap ((t : Int) * (C : Int) + (k : Int)) = (t : Int) * (C : Int) + (k : Int) := IntWalk.i64_in _ (by omega)
                                have g8 : IntKind.i64.wrap ((i : Int) * (C : Int)) = (i : Int) * (C : Int) := IntWalk.i64_in _ (by omega)
                                have g9 : IntKind.i64.wrap ((i : Int) * (C : Int) + (k : Int)) = (i : Int) * (C : Int) + (k : Int) := IntWalk.i64_in _ (by omega)
                                have g10 : 0 ≤ (t : Int) * (C : Int) + (k : Int) ∧ (t : Int) * (C : Int) + (k : Int) < (n2 : Int) := by omega
                                have g11 : 0 ≤ (i : Int) * (C : Int) + (k : Int) ∧ (i : Int) * (C : Int) + (k : Int) < (n2 : Int) := by omega
                                have hid4 : i * C + k < n2 := by omega
                                have e5 : ((t : Int) * (C : Int) + (k : Int)).toNat = t * C + k := by omega
                                have e6 : ((i : Int) * (C : Int) + (k : Int)).toNat = i * C + k := by omega
                                rw [← e5] at c5
                                rw [← e6] at c4
                                have E6 := Lib.hid e6
                                have HCK := Lib.hid hcv
                                have HALL := Lib.hid hall
                                have HBK := Lib.hid hbadk
                                clear hcv hall hbadk d1 d4 i1 i2 e5 e6 hiki hikt
                                go_wp2_with fail
                                ((refine wp_region_held_drew (S := (fun w' => w'.cell? ⟨bO, 0, none⟩ = some (.int .i64 R) ∧ w'.cell? ⟨bO, 1, none⟩ = some (.int .i64 C) ∧ w'.cell? ⟨bO, 2, none⟩ = some (.slice (some ⟨g, 0, none⟩) n2 cap2) ∧ w'.cell? ⟨g, ((i : Int) * (C : Int) + (k : Int)).toNat, none⟩ = some (.int .i64 z1) ∧ w'.cell? ⟨g, ((t : Int) * (C : Int) + (k : Int)).toNat, none⟩ = some (.int .i64 z2))) (by kernel_rfl) ?_ (fun hHeld => ?_)); ((focus ((try dsimp only); (go_keep)))); ((refine wpAnyH_take (i := 0) (v := ?_) (by (first | (simp only [List.getElem?_toArray, List.getElem?_cons_succ, List.getElem?_cons_zero]; done) | (simp only [List.getElem?_toArray, List.getElem?_cons_succ, List.getElem?_cons_zero]; rfl))) (by kernel_rfl) (by kernel_rfl) (by kernel_rfl) (by exact fun _ _ _ h => h) (Or.inl ⟨by rfl, ?_⟩) (by assumption) ?_; rotate_left; (focus (((intro w hSw; (try dsimp only at hSw); go_simp) <;> (try with_reducible rfl)); done)); (try simp only [Act.put, List.setIfInBounds_toArray, List.set_cons_zero, List.set_cons_succ]))); ((refine wpAnyH_take (i := 1) (v := ?_) (by (first | (simp only [List.getElem?_toArray, List.getElem?_cons_succ, List.getElem?_cons_zero]; done) | (simp only [List.getElem?_toArray, List.getElem?_cons_succ, List.getElem?_cons_zero]; rfl))) (by kernel_rfl) (by kernel_rfl) (by kernel_rfl) (by exact fun _ _ _ h => h) (Or.inl ⟨by rfl, ?_⟩) (by assumption) ?_; rotate_left; (focus (((intro w hSw; (try dsimp only at hSw); go_simp) <;> (try with_reducible rfl)); done)); (try simp only [Act.put, List.setIfInBounds_toArray, List.set_cons_zero, List.set_cons_succ]))); ((refine wpAnyH_take (i := 2) (v := ?_) (by (first | (simp only [List.getElem?_toArray, List.getElem?_cons_succ, List.getElem?_cons_zero]; done) | (simp only [List.getElem?_toArray, List.getElem?_cons_succ, List.getElem?_cons_zero]; rfl))) (by kernel_rfl) (by kernel_rfl) (by kernel_rfl) (by exact fun _ _ _ h => h) (Or.inl ⟨by rfl, ?_⟩) (by assumption) ?_; rotate_left; (focus (((intro w hSw; (try dsimp only at hSw); go_simp) <;> (try with_reducible rfl)); done)); (try simp only [Act.put, List.setIfInBounds_toArray, List.set_cons_zero, List.set_cons_succ]))); ((refine wpAnyH_take (i := 3) (v := ?_) (by (first | (simp only [List.getElem?_toArray, List.getElem?_cons_succ, List.getElem?_cons_zero]; done) | (simp only [List.getElem?_toArray, List.getElem?_cons_succ, List.getElem?_cons_zero]; rfl))) (by kernel_rfl) (by kernel_rfl) (by kernel_rfl) (by exact fun _ _ _ h => h) (Or.inl ⟨by rfl, ?_⟩) (by assumption) ?_; rotate_left; (focus (((intro w hSw; (try dsimp only at hSw); go_simp) <;> (try with_reducible rfl)); done)); (try simp only [Act.put, List.setIfInBounds_toArray, List.set_cons_zero, List.set_cons_succ]))); ((refine wpAnyH_take (i := 4) (v := ?_) (by (first | (simp only [List.getElem?_toArray, List.getElem?_cons_succ, List.getElem?_cons_zero]; done) | (simp only [List.getElem?_toArray, List.getElem?_cons_succ, List.getElem?_cons_zero]; rfl))) (by kernel_rfl) (by kernel_rfl) (by kernel_rfl) (by exact fun _ _ _ h => h) (Or.inl ⟨by rfl, ?_⟩) (by assumption) ?_; rotate_left; (focus (((intro w hSw; (try dsimp only at hSw); go_simp) <;> (try with_reducible rfl)); done)); (try simp only [Act.put, List.setIfInBounds_toArray, List.set_cons_zero, List.set_cons_succ]))); ((refine wpAnyH_take (i := 5) (v := ?_) (by (first | (simp only [List.getElem?_toArray, List.getElem?_cons_succ, List.getElem?_cons_zero]; done) | (simp only [List.getElem?_toArray, List.getElem?_cons_succ, List.getElem?_cons_zero]; rfl))) (by kernel_rfl) (by kernel_rfl) (by kernel_rfl) (by exact fun _ _ _ h => h) (Or.inl ⟨by rfl, ?_⟩) (by assumption) ?_; rotate_left; (focus (((intro w hSw; (try dsimp only at hSw); go_simp) <;> (try with_reducible rfl)); done)); (try simp only [Act.put, List.setIfInBounds_toArray, List.set_cons_zero, List.set_cons_succ]))); ((refine wpAnyH_take (i := 6) (v := ?_) (by (first | (simp only [List.getElem?_toArray, List.getElem?_cons_succ, List.getElem?_cons_zero]; done) | (simp only [List.getElem?_toArray, List.getElem?_cons_succ, List.getElem?_cons_zero]; rfl))) (by kernel_rfl) (by kernel_rfl) (by kernel_rfl) (by exact fun _ _ _ h => h) (Or.inl ⟨by rfl, ?_⟩) (by assumption) ?_; rotate_left; (focus (((intro w hSw; (try dsimp only at hSw); go_simp) <;> (try with_reducible rfl)); done)); (try simp only [Act.put, List.setIfInBounds_toArray, List.set_cons_zero, List.set_cons_succ]))); ((refine wpAnyH_take (i := 7) (v := ?_) (by (first | (simp only [List.getElem?_toArray, List.getElem?_cons_succ, List.getElem?_cons_zero]; done) | (simp only [List.getElem?_toArray, List.getElem?_cons_succ, List.getElem?_cons_zero]; rfl))) (by kernel_rfl) (by kernel_rfl) (by kernel_rfl) (by exact fun _ _ _ h => h) (Or.inl ⟨by rfl, ?_⟩) (by assumption) ?_; rotate_left; (focus (((intro w hSw; (try dsimp only at hSw); go_simp) <;> (try with_reducible rfl)); done)); (try simp only [Act.put, List.setIfInBounds_toArray, List.set_cons_zero, List.set_cons_succ]))); ((refine wpAnyH_take (i := 8) (v := ?_) (by (first | (simp only [List.getElem?_toArray, List.getElem?_cons_succ, List.getElem?_cons_zero]; done) | (simp only [List.getElem?_toArray, List.getElem?_cons_succ, List.getElem?_cons_zero]; rfl))) (by kernel_rfl) (by kernel_rfl) (by kernel_rfl) (by exact fun _ _ _ h => h) (Or.inl ⟨by rfl, ?_⟩) (by assumption) ?_; rotate_left; (focus (((intro w hSw; (try dsimp only at hSw); go_simp) <;> (try with_reducible rfl)); done)); (try simp only [Act.put, List.setIfInBounds_toArray, List.set_cons_zero, List.set_cons_succ]))); ((refine wpAnyH_take (i := 9) (v := ?_) (by (first | (simp only [List.getElem?_toArray, List.getElem?_cons_succ, List.getElem?_cons_zero]; done) | (simp only [List.getElem?_toArray, List.getElem?_cons_succ, List.getElem?_cons_zero]; rfl))) (by kernel_rfl) (by kernel_rfl) (by kernel_rfl) (by exact fun _ _ _ h => h) (Or.inl ⟨by rfl, ?_⟩) (by assumption) ?_; rotate_left; (focus (((intro w hSw; (try dsimp only at hSw); go_simp) <;> (try with_reducible rfl)); done)); (try simp only [Act.put, List.setIfInBounds_toArray, List.set_cons_zero, List.set_cons_succ]))); ((refine wpAnyH_take (i := 10) (v := ?_) (by (first | (simp only [List.getElem?_toArray, List.getElem?_cons_succ, List.getElem?_cons_zero]; done) | (simp only [List.getElem?_toArray, List.getElem?_cons_succ, List.getElem?_cons_zero]; rfl))) (by kernel_rfl) (by kernel_rfl) (by kernel_rfl) (by exact fun _ _ _ h => h) (Or.inl ⟨by rfl, ?_⟩) (by assumption) ?_; rotate_left; (focus (((intro w hSw; (try dsimp only at hSw); go_simp) <;> (try with_reducible rfl)); done)); (try simp only [Act.put, List.setIfInBounds_toArray, List.set_cons_zero, List.set_cons_succ]))); ((refine wpAnyH_take (i := 11) (v := ?_) (by (first | (simp only [List.getElem?_toArray, List.getElem?_cons_succ, List.getElem?_cons_zero]; done) | (simp only [List.getElem?_toArray, List.getElem?_cons_succ, List.getElem?_cons_zero]; rfl))) (by kernel_rfl) (by kernel_rfl) (by kernel_rfl) (by exact fun _ _ _ h => h) (Or.inl ⟨by rfl, ?_⟩) (by assumption) ?_; rotate_left; (focus (((intro w hSw; (try dsimp only at hSw); go_simp) <;> (try with_reducible rfl)); done)); (try simp only [Act.put, List.setIfInBounds_toArray, List.set_cons_zero, List.set_cons_succ]))); ((refine wpAnyH_take (i := 12) (v := ?_) (by (first | (simp only [List.getElem?_toArray, List.getElem?_cons_succ, List.getElem?_cons_zero]; done) | (simp only [List.getElem?_toArray, List.getElem?_cons_succ, List.getElem?_cons_zero]; rfl))) (by kernel_rfl) (by kernel_rfl) (by kernel_rfl) (by exact fun _ _ _ h => h) (Or.inl ⟨by rfl, ?_⟩) (by assumption) ?_; rotate_left; (focus (((intro w hSw; (try dsimp only at hSw); go_simp) <;> (try with_reducible rfl)); done)); (try simp only [Act.put, List.setIfInBounds_toArray, List.set_cons_zero, List.set_cons_succ]))); ((refine wpAnyH_take (i := 13) (v := ?_) (by (first | (simp only [List.getElem?_toArray, List.getElem?_cons_succ, List.getElem?_cons_zero]; done) | (simp only [List.getElem?_toArray, List.getElem?_cons_succ, List.getElem?_cons_zero]; rfl))) (by kernel_rfl) (by kernel_rfl) (by kernel_rfl) (by exact fun _ _ _ h => h) (Or.inl ⟨by rfl, ?_⟩) (by assumption) ?_; rotate_left; (focus (((intro w hSw; (try dsimp only at hSw); go_simp) <;> (try with_reducible rfl)); done)); (try simp only [Act.put, List.setIfInBounds_toArray, List.set_cons_zero, List.set_cons_succ]))); ((refine wpAnyH_take (i := 14) (v := ?_) (by (first | (simp only [List.getElem?_toArray, List.getElem?_cons_succ, List.getElem?_cons_zero]; done) | (simp only [List.getElem?_toArray, List.getElem?_cons_succ, List.getElem?_cons_zero]; rfl))) (by kernel_rfl) (by kernel_rfl) (by kernel_rfl) (by exact fun _ _ _ h => h) (Or.inl ⟨by rfl, ?_⟩) (by assumption) ?_; rotate_left; (focus (((intro w hSw; (try dsimp only at hSw); go_simp) <;> (try with_reducible rfl)); done)); (try simp only [Act.put, List.setIfInBounds_toArray, List.set_cons_zero, List.set_cons_succ]))); ((refine wpAnyH_take (i := 15) (v := ?_) (by (first | (simp only [List.getElem?_toArray, List.getElem?_cons_succ, List.getElem?_cons_zero]; done) | (simp only [List.getElem?_toArray, List.getElem?_cons_succ, List.getElem?_cons_zero]; rfl))) (by kernel_rfl) (by kernel_rfl) (by kernel_rfl) (by exact fun _ _ _ h => h) (Or.inl ⟨by rfl, ?_⟩) (by assumption) ?_; rotate_left; (focus (((intro w hSw; (try dsimp only at hSw); go_simp) <;> (try with_reducible rfl)); done)); (try simp only [Act.put, List.setIfInBounds_toArray, List.set_cons_zero, List.set_cons_succ]))); ((refine wpAnyH_take (i := 16) (v := ?_) (by (first | (simp only [List.getElem?_toArray, List.getElem?_cons_succ, List.getElem?_cons_zero]; done) | (simp only [List.getElem?_toArray, List.getElem?_cons_succ, List.getElem?_cons_zero]; rfl))) (by kernel_rfl) (by kernel_rfl) (by kernel_rfl) (by exact fun _ _ _ h => h) (Or.inl ⟨by rfl, ?_⟩) (by assumption) ?_; rotate_left; (focus (((intro w hSw; (try dsimp only at hSw); go_simp) <;> (try with_reducible rfl)); done)); (try simp only [Act.put, List.setIfInBounds_toArray, List.set_cons_zero, List.set_cons_succ]))); ((refine wpAnyH_take (i := 17) (v := ?_) (by (first | (simp only [List.getElem?_toArray, List.getElem?_cons_succ, List.getElem?_cons_zero]; done) | (simp only [List.getElem?_toArray, List.getElem?_cons_succ, List.getElem?_cons_zero]; rfl))) (by kernel_rfl) (by kernel_rfl) (by kernel_rfl) (by exact fun _ _ _ h => h) (Or.inl ⟨by rfl, ?_⟩) (by assumption) ?_; rotate_left; (focus (((intro w hSw; (try dsimp only at hSw); go_simp) <;> (try with_reducible rfl)); done)); (try simp only [Act.put, List.setIfInBounds_toArray, List.set_cons_zero, List.set_cons_succ]))); ((refine wpAnyH_take (i := 18) (v := ?_) (by (first | (simp only [List.getElem?_toArray, List.getElem?_cons_succ, List.getElem?_cons_zero]; done) | (simp only [List.getElem?_toArray, List.getElem?_cons_succ, List.getElem?_cons_zero]; rfl))) (by kernel_rfl) (by kernel_rfl) (by kernel_rfl) (by exact fun _ _ _ h => h) (Or.inl ⟨by rfl, ?_⟩) (by assumption) ?_; rotate_left; (focus (((intro w hSw; (try dsimp only at hSw); go_simp) <;> (try with_reducible rfl)); done)); (try simp only [Act.put, List.setIfInBounds_toArray, List.set_cons_zero, List.set_cons_succ]))); ((refine wpAnyH_take (i := 19) (v := ?_) (by (first | (simp only [List.getElem?_toArray, List.getElem?_cons_succ, List.getElem?_cons_zero]; done) | (simp only [List.getElem?_toArray, List.getElem?_cons_succ, List.getElem?_cons_zero]; rfl))) (by kernel_rfl) (by kernel_rfl) (by kernel_rfl) (by exact fun _ _ _ h => h) (Or.inl ⟨by rfl, ?_⟩) (by assumption) ?_; rotate_left; (focus (((intro w hSw; (try dsimp only at hSw); go_simp) <;> (try with_reducible rfl)); done)); (try simp only [Act.put, List.setIfInBounds_toArray, List.set_cons_zero, List.set_cons_succ]))); ((refine wpAnyH_take (i := 20) (v := ?_) (by (first | (simp only [List.getElem?_toArray, List.getElem?_cons_succ, List.getElem?_cons_zero]; done) | (simp only [List.getElem?_toArray, List.getElem?_cons_succ, List.getElem?_cons_zero]; rfl))) (by kernel_rfl) (by kernel_rfl) (by kernel_rfl) (by exact fun _ _ _ h => h) (Or.inl ⟨by rfl, ?_⟩) (by assumption) ?_; rotate_left; (focus (((intro w hSw; (try dsimp only at hSw); go_simp) <;> (try with_reducible rfl)); done)); (try simp only [Act.put, List.setIfInBounds_toArray, List.set_cons_zero, List.set_cons_succ]))); ((refine wpAnyH_take (i := 21) (v := ?_) (by (first | (simp only [List.getElem?_toArray, List.getElem?_cons_succ, List.getElem?_cons_zero]; done) | (simp only [List.getElem?_toArray, List.getElem?_cons_succ, List.getElem?_cons_zero]; rfl))) (by kernel_rfl) (by kernel_rfl) (by kernel_rfl) (by exact fun _ _ _ h => h) (Or.inl ⟨by rfl, ?_⟩) (by assumption) ?_; rotate_left; (focus (((intro w hSw; (try dsimp only at hSw); go_simp) <;> (try with_reducible rfl)); done)); (try simp only [Act.put, List.setIfInBounds_toArray, List.set_cons_zero, List.set_cons_succ]))); ((refine wpAnyH_take (i := 22) (v := ?_) (by (first | (simp only [List.getElem?_toArray, List.getElem?_cons_succ, List.getElem?_cons_zero]; done) | (simp only [List.getElem?_toArray, List.getElem?_cons_succ, List.getElem?_cons_zero]; rfl))) (by kernel_rfl) (by kernel_rfl) (by kernel_rfl) (by exact fun _ _ _ h => h) (Or.inl ⟨by rfl, ?_⟩) (by assumption) ?_; rotate_left; (focus (((intro w hSw; (try dsimp only at hSw); go_simp) <;> (try with_reducible rfl)); done)); (try simp only [Act.put, List.setIfInBounds_toArray, List.set_cons_zero, List.set_cons_succ]))); ((refine wpAnyH_take (i := 23) (v := ?_) (by (first | (simp only [List.getElem?_toArray, List.getElem?_cons_succ, List.getElem?_cons_zero]; done) | (simp only [List.getElem?_toArray, List.getElem?_cons_succ, List.getElem?_cons_zero]; rfl))) (by kernel_rfl) (by kernel_rfl) (by kernel_rfl) (by exact fun _ _ _ h => h) (Or.inl ⟨by rfl, ?_⟩) (by assumption) ?_; rotate_left; (focus (((intro w hSw; (try dsimp only at hSw); go_simp) <;> (try with_reducible rfl)); done)); (try simp only [Act.put, List.setIfInBounds_toArray, List.set_cons_zero, List.set_cons_succ]))); ((refine wpAnyH_take (i := 24) (v := ?_) (by (first | (simp only [List.getElem?_toArray, List.getElem?_cons_succ, List.getElem?_cons_zero]; done) | (simp only [List.getElem?_toArray, List.getElem?_cons_succ, List.getElem?_cons_zero]; rfl))) (by kernel_rfl) (by kernel_rfl) (by kernel_rfl) (by exact fun _ _ _ h => h) (Or.inl ⟨by rfl, ?_⟩) (by assumption) ?_; rotate_left; (focus (((intro w hSw; (try dsimp only at hSw); go_simp) <;> (try with_reducible rfl)); done)); (try simp only [Act.put, List.setIfInBounds_toArray, List.set_cons_zero, List.set_cons_succ]))); ((refine wpAnyH_take (i := 25) (v := ?_) (by (first | (simp only [List.getElem?_toArray, List.getElem?_cons_succ, List.getElem?_cons_zero]; done) | (simp only [List.getElem?_toArray, List.getElem?_cons_succ, List.getElem?_cons_zero]; rfl))) (by kernel_rfl) (by kernel_rfl) (by kernel_rfl) (by exact fun _ _ _ h => h) (Or.inl ⟨by rfl, ?_⟩) (by assumption) ?_; rotate_left; (focus (((intro w hSw; (try dsimp only at hSw); go_simp) <;> (try with_reducible rfl)); done)); (try simp only [Act.put, List.setIfInBounds_toArray, List.set_cons_zero, List.set_cons_succ]))); ((refine wpAnyH_take (i := 26) (v := ?_) (by (first | (simp only [List.getElem?_toArray, List.getElem?_cons_succ, List.getElem?_cons_zero]; done) | (simp only [List.getElem?_toArray, List.getElem?_cons_succ, List.getElem?_cons_zero]; rfl))) (by kernel_rfl) (by kernel_rfl) (by kernel_rfl) (by exact fun _ _ _ h => h) (Or.inl ⟨by rfl, ?_⟩) (by assumption) ?_; rotate_left; (focus (((intro w hSw; (try dsimp only at hSw); go_simp) <;> (try with_reducible rfl)); done)); (try simp only [Act.put, List.setIfInBounds_toArray, List.set_cons_zero, List.set_cons_succ]))); ((refine wpAnyH_take (i := 27) (v := ?_) (by (first | (simp only [List.getElem?_toArray, List.getElem?_cons_succ, List.getElem?_cons_zero]; done) | (simp only [List.getElem?_toArray, List.getElem?_cons_succ, List.getElem?_cons_zero]; rfl))) (by kernel_rfl) (by kernel_rfl) (by kernel_rfl) (by exact fun _ _ _ h => h) (Or.inl ⟨by rfl, ?_⟩) (by assumption) ?_; rotate_left; (focus (((intro w hSw; (try dsimp only at hSw); go_simp) <;> (try with_reducible rfl)); done)); (try simp only [Act.put, List.setIfInBounds_toArray, List.set_cons_zero, List.set_cons_succ]))); ((refine wpAnyH_take (i := 28) (v := ?_) (by (first | (simp only [List.getElem?_toArray, List.getElem?_cons_succ, List.getElem?_cons_zero]; done) | (simp only [List.getElem?_toArray, List.getElem?_cons_succ, List.getElem?_cons_zero]; rfl))) (by kernel_rfl) (by kernel_rfl) (by kernel_rfl) (by exact fun _ _ _ h => h) (Or.inl ⟨by rfl, ?_⟩) (by assumption) ?_; rotate_left; (focus (((intro w hSw; (try dsimp only at hSw); go_simp) <;> (try with_reducible rfl)); done)); (try simp only [Act.put, List.setIfInBounds_toArray, List.set_cons_zero, List.set_cons_succ]))); ((refine wpAnyH_ready (rs := [29]) (by kernel_rfl) (by simp) ?_; refine AllReadyH.cons (by (first | (simp only [List.getElem?_toArray, List.getElem?_cons_succ, List.getElem?_cons_zero]; done) | (simp only [List.getElem?_toArray, List.getElem?_cons_succ, List.getElem?_cons_zero]; rfl))) (fun K hK => ?_) AllReadyH.nil; go_simp; (go_at_call 221; refine (spec_l1FitQ _ _).mono ?_; rintro e w' ⟨rfl, rfl⟩); (try go_wp2_with fail); refine hK.out _ _ ?_ (fun hHeld => ?_); (focus ((try dsimp only); (go_keep))); clear hK K; (try simp only [Act.put, List.setIfInBounds_toArray, List.set_cons_zero, List.set_cons_succ]))); ((refine wpAnyH_take (i := 30) (v := ?_) (by (first | (simp only [List.getElem?_toArray, List.getElem?_cons_succ, List.getElem?_cons_zero]; done) | (simp only [List.getElem?_toArray, List.getElem?_cons_succ, List.getElem?_cons_zero]; rfl))) (by kernel_rfl) (by kernel_rfl) (by kernel_rfl) (by exact fun _ _ _ h => h) (Or.inl ⟨by rfl, ?_⟩) (by assumption) ?_; rotate_left; (focus (((intro w hSw; (try dsimp only at hSw); go_simp) <;> (try with_reducible rfl)); done)); (try simp only [Act.put, List.setIfInBounds_toArray, List.set_cons_zero, List.set_cons_succ]))); (refine wpAnyH_done (by kernel_rfl) ?_ _))
                                clear g1 g2 g3 g4 g5 g6 g7 g8 g9
                                have hvb : -400000000000000000 ≤ y.tdiv (G : Nat) * z1 - x.tdiv (G : Nat) * z2 ∧ y.tdiv (G : Nat) * z1 - x.tdiv (G : Nat) * z2 ≤ 400000000000000000 := by omega
                                obtain ⟨hv1, hv2⟩ := hvb
                                clear d2 d3 d5 d6
                                generalize y.tdiv (G : Nat) * z1 - x.tdiv (G : Nat) * z2 = v at *
                                by_cases hvn : -400000000 ≤ v ∧ v ≤ 400000000
                                · have hnxa := Lib.hid (HALL.out.trans ((isNum_iff _).2 (by rw [HCK.out]; exact hvn)))
                                  have HFV : Hid (fitQ v = v) := Lib.hid (fitQ_in hvn)
                                  obtain ⟨hvn1, hvn2⟩ := hvn
                                  have hvbad : (v == -4611686018427387904) = false := by simp; omega
                                  rw [HCK.out] at hstp
                                  have hs4 := hown.set_ (i * C + k) v
                                  rw [tb_set hiR hkC, hstp] at hs4
                                  rw [E6.out] at c4
                                  clear hstp c5
                                  rw [HFV.out]
                                  go_wp2
                                  go_roundw
                                  case rel => exact ⟨k + 1, by go_num, by omega, hnxa.out, by (repeat (first | (with_reducible exact hO) | (with_reducible refine BX.new _ _ _ _ _ _ _ _ (by first | omega | (simp; done) | (simp; omega))) | (with_reducible refine BX.below ?_ (by assumption) (by first | omega | (simp; done) | (simp; omega))) | (with_reducible apply BX.drew) | (with_reducible apply BX.drewN) | (with_reducible refine BX.put ?_) | (with_reducible refine BX.put2 ?_) | (with_reducible refine BX.far ?_ (by simp only [ne_eq]; omega) _) | (with_reducible apply BX.alloc) | (with_reducible refine B3.new _ _ _ _ _ _ (by first | omega | (simp; done) | (simp; omega))) | (with_reducible exact B3.of hO) | (with_reducible refine B3.below ?_ (by assumption) (by first | omega | (simp; done) | (simp; omega))) | (with_reducible apply B3.drew) | (with_reducible apply B3.drewN) | (with_reducible refine B3.far ?_ (by simp only [ne_eq]; omega) _) | (with_reducible apply B3.alloc))), by (repeat (first | (with_reducible exact hRV) | (with_reducible refine BX.new _ _ _ _ _ _ _ _ (by first | omega | (simp; done) | (simp; omega))) | (with_reducible refine BX.below ?_ (by assumption) (by first | omega | (simp; done) | (simp; omega))) | (with_reducible apply BX.drew) | (with_reducible apply BX.drewN) | (with_reducible refine BX.put ?_) | (with_reducible refine BX.put2 ?_) | (with_reducible refine BX.far ?_ (by simp only [ne_eq]; omega) _) | (with_reducible apply BX.alloc) | (with_reducible refine B3.new _ _ _ _ _ _ (by first | omega | (simp; done) | (simp; omega))) | (with_reducible exact B3.of hRV) | (with_reducible refine B3.below ?_ (by assumption) (by first | omega | (simp; done) | (simp; omega))) | (with_reducible apply B3.drew) | (with_reducible apply B3.drewN) | (with_reducible refine B3.far ?_ (by simp only [ne_eq]; omega) _) | (with_reducible apply B3.alloc))), (by first | exact hs4 | exact OR.drew hs4), by (repeat (first | (with_reducible exact hP) | (with_reducible refine OR.drew ?_) | (with_reducible refine OR.drewN ?_ _) | (with_reducible refine OR.alloc ?_ _) | (with_reducible refine OR.below ?_ (by assumption) (by first | omega | (simp; done) | (simp; omega))) | (with_reducible refine OR.low ?_ (by first | omega | (simp only []; omega) | (simp; omega)) _))), by (repeat (first | (with_reducible exact Below.refl _ _) | (with_reducible assumption) | (with_reducible refine below_drewN ?_ _) | (with_reducible refine Below.drew ?_) | (with_reducible refine Below.alloc ?_ ?_ _) | (with_reducible refine Below.setCell ?_ ?_ _) | (with_reducible refine below_into ?_ (by assumption) (by first | omega | (simp; done) | (simp; omega))) | go_size))⟩
                                  case measure => simp only [intOf]; omega
                                · have hyn := HBK.out (by rw [HCK.out, ← Bool.not_eq_true, isNum_iff]; exact hvn)
                                  have hxn := HN.out hyn
                                  have HFV : Hid (fitQ v = -4611686018427387904) := Lib.hid (fitQ_out (by omega))
                                  have hvbad : (fitQ v == -4611686018427387904) = true := beq_iff_eq.2 HFV.out
                                  subst hxn
                                  clear hyn c4 c5 HFV HCK HALL HBK hvn hstp
                                  generalize fitQ v = fv at *
                                  go_wp2
                                  refine ret_MTT' (b := w.heap.size + 1) Try.results174 rfl (by (repeat (first | (with_reducible exact hRV) | (with_reducible refine BX.new _ _ _ _ _ _ _ _ (by first | omega | (simp; done) | (simp; omega))) | (with_reducible refine BX.below ?_ (by assumption) (by first | omega | (simp; done) | (simp; omega))) | (with_reducible apply BX.drew) | (with_reducible apply BX.drewN) | (with_reducible refine BX.put ?_) | (with_reducible refine BX.put2 ?_) | (with_reducible refine BX.far ?_ (by simp only [ne_eq]; omega) _) | (with_reducible apply BX.alloc) | (with_reducible refine B3.new _ _ _ _ _ _ (by first | omega | (simp; done) | (simp; omega))) | (with_reducible exact B3.of hRV) | (with_reducible refine B3.below ?_ (by assumption) (by first | omega | (simp; done) | (simp; omega))) | (with_reducible apply B3.drew) | (with_reducible apply B3.drewN) | (with_reducible refine B3.far ?_ (by simp only [ne_eq]; omega) _) | (with_reducible apply B3.alloc)))) rfl ?_
                                  exact MIBR.none_ (OR.empty' _ wr.heap.size (by simp [World.setCell]) (by simp [World.setCell]; omega)) (by (repeat (first | (with_reducible exact Below.refl _ _) | (with_reducible assumption) | (with_reducible refine below_drewN ?_ _) | (with_reducible refine Below.drew ?_) | (with_reducible refine Below.alloc ?_ ?_ _) | (with_reducible refine Below.setCell ?_ ?_ _) | (with_reducible refine below_into ?_ (by assumption) (by first | omega | (simp; done) | (simp; omega))) | go_size)))
                              · obtain rfl : C = k := by omega
                                have hkk : okQ C q t j i = true := hal.out
                                have hnx := Lib.hid (HDO.out hkk)
                                have HQS := Lib.hid (HOQ.out.st hiR hkk)
                                have HPB : Hid (∀ c : Nat, c < C → -400000000 ≤ cbK q t j i C i c ∧ cbK q t j i C i c ≤ 400000000) := Lib.hid (fun c hc => by
                                  unfold cbK
                                  rw [if_pos ⟨rfl, hc⟩]; exact (isNum_iff _).1 (List.all_eq_true.1 hkk c (List.mem_range.2 hc)))
                                clear hkk
                                go_wp2_with fail
                                refine (spec_l7Primitive R C i _ n2 cap2 (cbK q t j i C) _ (B := w.heap.size + 1 + 1) (by (repeat (first | (with_reducible exact hown) | (with_reducible refine OR.drew ?_) | (with_reducible refine OR.drewN ?_ _) | (with_reducible refine OR.alloc ?_ _) | (with_reducible refine OR.below ?_ (by assumption) (by first | omega | (simp; done) | (simp; omega))) | (with_reducible refine OR.low ?_ (by first | omega | (simp only []; omega) | (simp; omega)) _)))) hiR (by omega) (by omega) HPB.out).mono ?_
                                rintro e w5 ⟨rfl, hown_1, hgr_0, hsz_0⟩
                                have hO_1 := hO.keptOwn hgr_0 HU.out (.inr (by omega)); have hRV_1 := hRV.keptOwn hgr_0 HU.out (.inl (by omega)); have hP_1 := hP.keptOwn hgr_0 hP.own HU.out (.inr (by omega)); have hbw_1 : Below w.heap.size w w5 := (hbw.trans (below_keptOwn hgr_0 HU.out (by omega) (by omega))); clear hgr_0 hsz_0; clear hO hRV hown hP hbw oa ob oc of ol ra rb rc rf rl; have hO := hO_1; have hRV := hRV_1; have hown := hown_1; have hP := hP_1; have hbw := hbw_1; clear hO_1 hRV_1 hown_1 hP_1 hbw_1; obtain ⟨oa, ob, oc, of, ol⟩ := hO.mx; obtain ⟨ra, rb, rc, rf, rl⟩ := hRV.mx
                                go_wp2_with fail
                                go_roundw
                                case rel => exact ⟨i + 1, _, by go_num, by omega, HQS.out, hnx.out, hO, hRV, hown, hP, hbw⟩
                                case measure => simp only [intOf]; omega
                      · obtain rfl : R = i := by omega
                        have hyy : Y = some q := hrq.out.symm.trans (rowsQ_end _ _ _ _ _)
                        have hcx := Lib.hid (HS.out q hyy)
                        clear hyy
                        go_wp2_with (at_builtin; refine wpList_append_one _ rfl (.tmp 166) (.tmp 168) rfl (bO + 1) _ _ rfl (hP.alloc _) _ j rfl ?f1 ?f2 ?f3 ?_)
                        case f1 => simp [go_sem]
                        case f2 => have := hpl.out; omega
                        case f3 => simp; omega
                        intro v1 w5 hown1 hgr hat
                        have hO2 := (hO.alloc (.cells #[.int .i64 j] 3)).grown hgr (hP.ne_low (by omega))
                        have hR2 := (hRV.alloc (.cells #[.int .i64 j] 3)).grown hgr (hP.ne_low (by omega))
                        have hK2 := (hown.alloc (.cells #[.int .i64 j] 3)).kept hgr (.inr (hP.ne_low (show g < bO + 1 by omega)))
                        have hb2 := Below.trans (show Below w.heap.size w (wr.alloc (.cells #[.int .i64 j] 3)) by (repeat (first | (with_reducible exact Below.refl _ _) | (with_reducible assumption) | (with_reducible refine below_drewN ?_ _) | (with_reducible refine Below.drew ?_) | (with_reducible refine Below.alloc ?_ ?_ _) | (with_reducible refine Below.setCell ?_ ?_ _) | (with_reducible refine below_into ?_ (by assumption) (by first | omega | (simp; done) | (simp; omega))) | go_size))) ((hP.alloc (.cells #[.int .i64 j] 3)).below_grown hgr (by simp; omega) |>.mono (by omega))
                        have hl1 : (ps ++ [(j : Int)]).length = t + 1 := by have := hpl.out; simp; omega
                        obtain ⟨P', pc', rfl⟩ := hown1.shape'
                        rw [hl1] at hown1 ⊢
                        have HL1 := Lib.hid hl1
                        clear hgr hat hl1
                        go_wp2
                        go_roundw
                        case rel => exact ⟨j + 1, _, t + 1, P', pc', _, by go_num, rfl, HL1.out, by omega, by omega, HOQ.out, hcx.out, hO2, hR2, hK2, hown1, hb2⟩
                        case measure => simp only [intOf]; omega
              · obtain rfl : k = R := by omega
                have hP0 : fnd f j (k - t) t = k := hfn.out.symm.trans (fnd_end f j k)
                have hcx := colsQ_no (C := C) (f := f) (ps := ps) hjC (by rw [hpl.out]; exact hP0)
                have hcol2 := Lib.hid (hcx.symm.trans hcol.out)
                clear hcx hP0
                go_wp2_with fail
                go_roundw
                case rel => exact ⟨j + 1, f, t, P, pc, ps, by go_num, rfl, hpl.out, by omega, by omega, HOK.out, hcol2.out, hO, hRV, hown, hP, hbw⟩
                case measure => simp only [intOf]; omega
          · have hX : X = some ⟨f, ps⟩ := hcol.out.symm.trans (colsQ_full (by show R ≤ ps.length; have := hpl.out; omega) _ _)
            subst hX
            go_wp2_with fail
            obtain ⟨woF, rfl⟩ : ∃ wo : World, wo = wr := ⟨_, rfl⟩
            go_loopw [17] (fun v wr => ∃ i : Nat, v = .int .i64 i ∧ i ≤ t ∧ BM wr bO R C A2 n2 cap2 ∧ BM wr (w.heap.size + 1) 0 0 none 0 0 ∧ OR wr (w.heap.size + 1 + 1) (.slice A2 n2 cap2) (tb R C f) ∧ OR wr (bO + 1) (.slice P t pc) ps ∧ Below w.heap.size w wr) (fun v _ => t - (intOf v).toNat)
            case atStart => exact ⟨0, rfl, Nat.zero_le _, hO, hRV, hown, hP, hbw⟩
            case round =>
              clear hO hRV hown hP hbw oa ob oc of ol ra rb rc rf rl
              obtain ⟨i, rfl, hi, hO, hRV, hown, hP, hbw⟩ := hrel
              obtain ⟨oa, ob, oc, of, ol⟩ := hO.mx; obtain ⟨ra, rb, rc, rf, rl⟩ := hRV.mx
              by_cases hit : i < t
              · have hiR : i < R := by omega
                have HPB : Hid (∀ c : Nat, c < C → -400000000 ≤ f i c ∧ f i c ≤ 400000000) := Lib.hid (fun c hc => HOK.out.bd i c hiR hc)
                have HSM : Hid (tb R C (prF C f i) = tb R C f) := Lib.hid (prF_same (HOK.out.pr i hiR))
                go_wp2_with fail
                refine (spec_l7Primitive R C i _ n2 cap2 f _ (B := w.heap.size + 1 + 1) (by (repeat (first | (with_reducible exact hown) | (with_reducible refine OR.drew ?_) | (with_reducible refine OR.drewN ?_ _) | (with_reducible refine OR.alloc ?_ _) | (with_reducible refine OR.below ?_ (by assumption) (by first | omega | (simp; done) | (simp; omega))) | (with_reducible refine OR.low ?_ (by first | omega | (simp only []; omega) | (simp; omega)) _)))) hiR (by omega) (by omega) HPB.out).mono ?_
                rw [HSM.out]
                rintro e w5 ⟨rfl, hown_1, hgr_0, hsz_0⟩
                have hO_1 := hO.keptOwn hgr_0 HU.out (.inr (by omega)); have hRV_1 := hRV.keptOwn hgr_0 HU.out (.inl (by omega)); have hP_1 := hP.keptOwn hgr_0 hP.own HU.out (.inr (by omega)); have hbw_1 : Below w.heap.size w w5 := (hbw.trans (below_keptOwn hgr_0 HU.out (by omega) (by omega))); clear hgr_0 hsz_0; clear hO hRV hown hP hbw oa ob oc of ol ra rb rc rf rl; have hO := hO_1; have hRV := hRV_1; have hown := hown_1; have hP := hP_1; have hbw := hbw_1; clear hO_1 hRV_1 hown_1 hP_1 hbw_1; obtain ⟨oa, ob, oc, of, ol⟩ := hO.mx; obtain ⟨ra, rb, rc, rf, rl⟩ := hRV.mx
                go_wp2_with fail
                go_roundw
                case rel => exact ⟨i + 1, by go_num, by omega, hO, hRV, hown, hP, hbw⟩
                case measure => simp only [intOf]; omega
              · have hap : Apart (.slice A2 n2 cap2) (.slice P t pc) := Apart.of_own HU.out hP.own (.inl (by omega))
                go_wp2_with fail
                refine ret_MTT' (b := w.heap.size + 1) Try.results174 rfl (by (repeat (first | (with_reducible exact hRV) | (with_reducible refine BX.new _ _ _ _ _ _ _ _ (by first | omega | (simp; done) | (simp; omega))) | (with_reducible refine BX.below ?_ (by assumption) (by first | omega | (simp; done) | (simp; omega))) | (with_reducible apply BX.drew) | (with_reducible apply BX.drewN) | (with_reducible refine BX.put ?_) | (with_reducible refine BX.put2 ?_) | (with_reducible refine BX.far ?_ (by simp only [ne_eq]; omega) _) | (with_reducible apply BX.alloc) | (with_reducible refine B3.new _ _ _ _ _ _ (by first | omega | (simp; done) | (simp; omega))) | (with_reducible exact B3.of hRV) | (with_reducible refine B3.below ?_ (by assumption) (by first | omega | (simp; done) | (simp; omega))) | (with_reducible apply B3.drew) | (with_reducible apply B3.drewN) | (with_reducible refine B3.far ?_ (by simp only [ne_eq]; omega) _) | (with_reducible apply B3.alloc)))) rfl ?_
                exact MIBR.some_ (OR.mono (B := w.heap.size + 1 + 1) (by (repeat (first | (with_reducible exact hown) | (with_reducible refine OR.drew ?_) | (with_reducible refine OR.drewN ?_ _) | (with_reducible refine OR.alloc ?_ _) | (with_reducible refine OR.below ?_ (by assumption) (by first | omega | (simp; done) | (simp; omega))) | (with_reducible refine OR.low ?_ (by first | omega | (simp only []; omega) | (simp; omega)) _)))) (by omega)) (OR.mono (B := bO + 1) (by (repeat (first | (with_reducible exact hP) | (with_reducible refine OR.drew ?_) | (with_reducible refine OR.drewN ?_ _) | (with_reducible refine OR.alloc ?_ _) | (with_reducible refine OR.below ?_ (by assumption) (by first | omega | (simp; done) | (simp; omega))) | (with_reducible refine OR.low ?_ (by first | omega | (simp only []; omega) | (simp; omega)) _)))) (by omega)) hap (by (repeat (first | (with_reducible exact Below.refl _ _) | (with_reducible assumption) | (with_reducible refine below_drewN ?_ _) | (with_reducible refine Below.drew ?_) | (with_reducible refine Below.alloc ?_ ?_ _) | (with_reducible refine Below.setCell ?_ ?_ _) | (with_reducible refine below_into ?_ (by assumption) (by first | omega | (simp; done) | (simp; omega))) | go_size)))
        · obtain rfl : C = j := by omega
          have hX : X = some ⟨f, ps⟩ := hcol.out.symm.trans (colsQ_end _ _ _)
          subst hX
          go_wp2_with fail
          obtain ⟨woF, rfl⟩ : ∃ wo : World, wo = wr := ⟨_, rfl⟩
          go_loopw [17] (fun v wr => ∃ i : Nat, v = .int .i64 i ∧ i ≤ t ∧ BM wr bO R C A2 n2 cap2 ∧ BM wr (w.heap.size + 1) 0 0 none 0 0 ∧ OR wr (w.heap.size + 1 + 1) (.slice A2 n2 cap2) (tb R C f) ∧ OR wr (bO + 1) (.slice P t pc) ps ∧ Below w.heap.size w wr) (fun v _ => t - (intOf v).toNat)
          case atStart => exact ⟨0, rfl, Nat.zero_le _, hO, hRV, hown, hP, hbw⟩
          case round =>
            clear hO hRV hown hP hbw oa ob oc of ol ra rb rc rf rl
            obtain ⟨i, rfl, hi, hO, hRV, hown, hP, hbw⟩ := hrel
            obtain ⟨oa, ob, oc, of, ol⟩ := hO.mx; obtain ⟨ra, rb, rc, rf, rl⟩ := hRV.mx
            by_cases hit : i < t
            · have hiR : i < R := by omega
              have HPB : Hid (∀ c : Nat, c < C → -400000000 ≤ f i c ∧ f i c ≤ 400000000) := Lib.hid (fun c hc => HOK.out.bd i c hiR hc)
              have HSM : Hid (tb R C (prF C f i) = tb R C f) := Lib.hid (prF_same (HOK.out.pr i hiR))
              go_wp2_with fail
              refine (spec_l7Primitive R C i _ n2 cap2 f _ (B := w.heap.size + 1 + 1) (by (repeat (first | (with_reducible exact hown) | (with_reducible refine OR.drew ?_) | (with_reducible refine OR.drewN ?_ _) | (with_reducible refine OR.alloc ?_ _) | (with_reducible refine OR.below ?_ (by assumption) (by first | omega | (simp; done) | (simp; omega))) | (with_reducible refine OR.low ?_ (by first | omega | (simp only []; omega) | (simp; omega)) _)))) hiR (by omega) (by omega) HPB.out).mono ?_
              rw [HSM.out]
              rintro e w5 ⟨rfl, hown_1, hgr_0, hsz_0⟩
              have hO_1 := hO.keptOwn hgr_0 HU.out (.inr (by omega)); have hRV_1 := hRV.keptOwn hgr_0 HU.out (.inl (by omega)); have hP_1 := hP.keptOwn hgr_0 hP.own HU.out (.inr (by omega)); have hbw_1 : Below w.heap.size w w5 := (hbw.trans (below_keptOwn hgr_0 HU.out (by omega) (by omega))); clear hgr_0 hsz_0; clear hO hRV hown hP hbw oa ob oc of ol ra rb rc rf rl; have hO := hO_1; have hRV := hRV_1; have hown := hown_1; have hP := hP_1; have hbw := hbw_1; clear hO_1 hRV_1 hown_1 hP_1 hbw_1; obtain ⟨oa, ob, oc, of, ol⟩ := hO.mx; obtain ⟨ra, rb, rc, rf, rl⟩ := hRV.mx
              go_wp2_with fail
              go_roundw
              case rel => exact ⟨i + 1, by go_num, by omega, hO, hRV, hown, hP, hbw⟩
              case measure => simp only [intOf]; omega
            · have hap : Apart (.slice A2 n2 cap2) (.slice P t pc) := Apart.of_own HU.out hP.own (.inl (by omega))
              go_wp2_with fail
              refine ret_MTT' (b := w.heap.size + 1) Try.results174 rfl (by (repeat (first | (with_reducible exact hRV) | (with_reducible refine BX.new _ _ _ _ _ _ _ _ (by first | omega | (simp; done) | (simp; omega))) | (with_reducible refine BX.below ?_ (by assumption) (by first | omega | (simp; done) | (simp; omega))) | (with_reducible apply BX.drew) | (with_reducible apply BX.drewN) | (with_reducible refine BX.put ?_) | (with_reducible refine BX.put2 ?_) | (with_reducible refine BX.far ?_ (by simp only [ne_eq]; omega) _) | (with_reducible apply BX.alloc) | (with_reducible refine B3.new _ _ _ _ _ _ (by first | omega | (simp; done) | (simp; omega))) | (with_reducible exact B3.of hRV) | (with_reducible refine B3.below ?_ (by assumption) (by first | omega | (simp; done) | (simp; omega))) | (with_reducible apply B3.drew) | (with_reducible apply B3.drewN) | (with_reducible refine B3.far ?_ (by simp only [ne_eq]; omega) _) | (with_reducible apply B3.alloc)))) rfl ?_
              exact MIBR.some_ (OR.mono (B := w.heap.size + 1 + 1) (by (repeat (first | (with_reducible exact hown) | (with_reducible refine OR.drew ?_) | (with_reducible refine OR.drewN ?_ _) | (with_reducible refine OR.alloc ?_ _) | (with_reducible refine OR.below ?_ (by assumption) (by first | omega | (simp; done) | (simp; omega))) | (with_reducible refine OR.low ?_ (by first | omega | (simp only []; omega) | (simp; omega)) _)))) (by omega)) (OR.mono (B := bO + 1) (by (repeat (first | (with_reducible exact hP) | (with_reducible refine OR.drew ?_) | (with_reducible refine OR.drewN ?_ _) | (with_reducible refine OR.alloc ?_ _) | (with_reducible refine OR.below ?_ (by assumption) (by first | omega | (simp; done) | (simp; omega))) | (with_reducible refine OR.low ?_ (by first | omega | (simp only []; omega) | (simp; omega)) _)))) (by omega)) hap (by (repeat (first | (with_reducible exact Below.refl _ _) | (with_reducible assumption) | (with_reducible refine below_drewN ?_ _) | (with_reducible refine Below.drew ?_) | (with_reducible refine Below.alloc ?_ ?_ _) | (with_reducible refine Below.setCell ?_ ?_ _) | (with_reducible refine below_into ?_ (by assumption) (by first | omega | (simp; done) | (simp; omega))) | go_size)))
end Go.Proofs.Ytacjonkehcamgaa

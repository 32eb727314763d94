/-
  DERIVED. EchelonOf of the program.
-/
import Derived.Test.YtlggfmfelakadaaU7
namespace Go.Proofs.Ytlggfmfelakadaa
open Go.RowKit
set_option linter.unusedVariables false
set_option linter.unusedSimpArgs false
set_option maxRecDepth 100000 in
set_option maxHeartbeats 32000000 in
theorem impl_EchelonOf (r c : Int) (A : Option Addr) (n cap : Nat) (xs : List Int) (w : World) {B : Nat} (h : RI w B A n xs) (hB : B ≤ w.heap.size) (hn : n ≤ 1048576) :
    Calls Try.prog 86 #[.agg #[.int .i64 r, .int .i64 c, .slice A n cap]] w (MIBR (mxQ r c (eoX r c xs)) (psQ (eoX r c xs)) (eoX r c xs).isSome w) := by
  have hlen := h.len
  have H2 := Lib.hid (h.more hB)
  clear h
  rcases hm : isMat r c xs with _ | _
  · have hx : eoX r c xs = none := by unfold eoX; rw [hm]; rfl
    rw [hx]
    have HM := Lib.hid hm
    clear hm hx hlen
    go_enter Try.func86, Try.ntmps86
    go_wp2_with (go_at_call 46; refine (impl_IsMatrix r c A n cap xs _ (C := w.heap.size) (Kr H2.out) Ks hn).mono ?_; rw [HM.out]; rintro e w1 ⟨rfl, hb⟩; have hz := hb.size; (try simp at hz); have kk := bkeep (w := w) hb Ks; obtain ⟨kc, kf⟩ := kk; (try (have kk := bkeepb (w.heap.size) hb Ks; obtain ⟨kc0, kf0, kl0⟩ := kk)); (try (have kk := bkeepb (w.heap.size + 1) hb Ks; obtain ⟨kc1, kf1, kl1⟩ := kk)); (try (have kk := bkeepb (w.heap.size + 1 + 1) hb Ks; obtain ⟨kc2, kf2, kl2⟩ := kk)); (try (have kk := bkeepb (w.heap.size + 1 + 1 + 1) hb Ks; obtain ⟨kc3, kf3, kl3⟩ := kk)); (try (have kk := bkeepb (wr.heap.size) hb Ks; obtain ⟨kr0, ks0, kt0⟩ := kk)); (try (have kk := bkeepb (wr.heap.size + 1) hb Ks; obtain ⟨kr1, ks1, kt1⟩ := kk)); (try (have kk := bkeepb (wr.heap.size + 1 + 1) hb Ks; obtain ⟨kr2, ks2, kt2⟩ := kk)))
    refine ret_MTT' (b := w.heap.size + 1) Try.results86 rfl Ka rfl ?_
    exact MIBR.none_ (OR.empty' _ w1.heap.size (by simp [World.setCell]) (by simp [World.setCell]; omega)) Kw
  · have M := isMat_iff.1 hm
    have hx : eoX r c xs = echQ r.toNat c.toNat (fun i j => cel xs c.toNat i j) := by unfold eoX; rw [if_pos hm]
    rw [hx]
    clear hx
    have HM := Lib.hid hm
    obtain ⟨R, rfl⟩ := nat_of M.r0
    obtain ⟨C, rfl⟩ := nat_of M.c0
    have hR := M.r1
    have hC := M.c1
    have HT : Hid (xs = tb R C (fun i j => cel xs C i j)) := Lib.hid (tb_of (by have := M.len; rw [← Int.natCast_mul] at this; omega))
    simp only [Int.toNat_natCast]
    have HBD : Hid (∀ i c : Nat, i < R → c < C → -400000000 ≤ (fun i j : Nat => cel xs C i j) i c ∧ (fun i j : Nat => cel xs C i j) i c ≤ 400000000) := Lib.hid (fun i c _ _ => M.cel_bd i c)
    have hQ0 := QOk.all HBD.out
    have hrun : colsQ R C (C - 0) 0 ⟨prK C (fun i j => cel xs C i j) R, []⟩ = echQ R C (fun i j => cel xs C i j) := rfl
    generalize hf0 : (fun i j : Nat => cel xs C i j) = f0 at *
    have HF0 := Lib.hid hf0
    generalize echQ R C f0 = X at *
    clear hm M hlen hf0
    go_enter Try.func86, Try.ntmps86
    go_wp2_with (go_at_call 46; refine (impl_IsMatrix R C A n cap xs _ (C := w.heap.size) (Kr H2.out) Ks hn).mono ?_; rw [HM.out]; rintro e w1 ⟨rfl, hb⟩; have hz := hb.size; (try simp at hz); have kk := bkeep (w := w) hb Ks; obtain ⟨kc, kf⟩ := kk; (try (have kk := bkeepb (w.heap.size) hb Ks; obtain ⟨kc0, kf0, kl0⟩ := kk)); (try (have kk := bkeepb (w.heap.size + 1) hb Ks; obtain ⟨kc1, kf1, kl1⟩ := kk)); (try (have kk := bkeepb (w.heap.size + 1 + 1) hb Ks; obtain ⟨kc2, kf2, kl2⟩ := kk)); (try (have kk := bkeepb (w.heap.size + 1 + 1 + 1) hb Ks; obtain ⟨kc3, kf3, kl3⟩ := kk)); (try (have kk := bkeepb (wr.heap.size) hb Ks; obtain ⟨kr0, ks0, kt0⟩ := kk)); (try (have kk := bkeepb (wr.heap.size + 1) hb Ks; obtain ⟨kr1, ks1, kt1⟩ := kk)); (try (have kk := bkeepb (wr.heap.size + 1 + 1) hb Ks; obtain ⟨kr2, ks2, kt2⟩ := kk)))
    have hsz1 := hb.size
    simp at hsz1
    have hR1 : BM w1 (w.heap.size + 1) 0 0 none 0 0 := Ka
    have hbw1 : Below w.heap.size w w1 := Kw
    go_wp2_with fail
    refine (impl_copyMatrix R C A n cap xs _ (B := w.heap.size) (Kr H2.out) Ks hn).mono ?_
    rintro e w2 ⟨A2, n2, cap2, rfl, hn2, hown, hb2⟩
    have hsz2 := hb2.size
    (try simp at hsz2)
    have hR0 : BM w2 (w.heap.size + 1) 0 0 none 0 0 := Kb hR1
    have hbw0 : Below w.heap.size w w2 := Kw
    rw [HT.out] at hown hn2
    have HN2 : Hid (n2 = R * C) := Lib.hid (by rw [hn2, tb_len])
    have hcap2 := hown.caps
    have HG : Hid (0 < R * C → ∃ g, A2 = some ⟨g, 0, none⟩ ∧ w.heap.size + 1 + 1 ≤ g ∧ g < w2.heap.size) := Lib.hid (fun h0 => by
      obtain ⟨g, e, h1, h2⟩ := hown.begins (by rw [tb_len]; exact h0)
      exact ⟨g, e, by omega, h2⟩)
    have HU : Hid (Own (.slice A2 n2 cap2) (w.heap.size + 1 + 1) w2.heap.size) := Lib.hid (hown.own.wide (by omega) (Nat.le_refl _))
    have hown0 : OR w2 (w.heap.size + 1 + 1) (.slice A2 n2 cap2) (tb R C f0) := by
      have := OR.mono (B' := w.heap.size + 1 + 1) hown (by omega)
      exact this
    clear hown hb2 hn2 hR1 hbw1 hb kc kf kc0 kf0 kl0 kc1 kf1 kl1 hz
    obtain ⟨ra, rb, rc, rf, rl⟩ := hR0.mx
    go_wp2_with fail
    have hO1 : BM ((w2.alloc (.cells #[.int .i64 R, .int .i64 C, .slice A2 n2 cap2] 26)).alloc (.cells #[] 3)) w2.heap.size R C A2 n2 cap2 := Ka
    have hR1 : BM ((w2.alloc (.cells #[.int .i64 R, .int .i64 C, .slice A2 n2 cap2] 26)).alloc (.cells #[] 3)) (w.heap.size + 1) 0 0 none 0 0 := Kb hR0
    have hown1 : OR ((w2.alloc (.cells #[.int .i64 R, .int .i64 C, .slice A2 n2 cap2] 26)).alloc (.cells #[] 3)) (w.heap.size + 1 + 1) (.slice A2 n2 cap2) (tb R C f0) := Ko hown0
    have hbw1 : Below w.heap.size w ((w2.alloc (.cells #[.int .i64 R, .int .i64 C, .slice A2 n2 cap2] 26)).alloc (.cells #[] 3)) := Kw
    have hP1 : OR ((w2.alloc (.cells #[.int .i64 R, .int .i64 C, .slice A2 n2 cap2] 26)).alloc (.cells #[] 3)) (w2.heap.size + 1) (.slice (some ⟨w2.heap.size + 1, 0, none⟩) 0 0) [] := OR.empty' _ (w2.heap.size + 1) (by simp) (by simp)
    clear hown0 hR0 hbw0 ra rb rc rf rl
    generalize hbO : w2.heap.size = bO at *
    have HBO := Lib.hid hbO
    clear hbO
    go_loopw [7] (fun v wr => ∃ i : Nat, v = .int .i64 i ∧ i ≤ R ∧ BM wr bO R C A2 n2 cap2 ∧ BM wr (w.heap.size + 1) 0 0 none 0 0 ∧ OR wr (w.heap.size + 1 + 1) (.slice A2 n2 cap2) (tb R C (prK C f0 i)) ∧ OR wr (bO + 1) (.slice (some ⟨bO + 1, 0, none⟩) 0 0) [] ∧ Below w.heap.size w wr) (fun v _ => R - (intOf v).toNat)
    case atStart => exact ⟨0, rfl, Nat.zero_le _, hO1, hR1, by rw [prK_zero]; exact hown1, hP1, hbw1⟩
    case round =>
      clear hO1 hR1 hown1 hP1 hbw1
      obtain ⟨i, rfl, hi, hO, hRV, hown, hP, hbw⟩ := hrel
      obtain ⟨oa, ob, oc, of, ol⟩ := hO.mx; obtain ⟨ra, rb, rc, rf, rl⟩ := hRV.mx
      by_cases hiR : i < R
      · by_cases hC0 : C = 0
        · have hn0 : n2 = 0 := by rw [HN2.out, hC0, Nat.mul_zero]
          have hnx := hown.as (show tb R C (prK C f0 i) = tb R C (prK C f0 (i + 1)) from tb_ext fun a c ha hc => by omega)
          have HRN : Hid (∀ w', RI w' (w.heap.size + 1 + 1) A2 n2 []) := Lib.hid (fun w' => by rw [hn0]; exact RI.nil_ _ _ _)
          have HRK : Hid (i * C + C ≤ n2) := Lib.hid (by rw [hC0, hn0]; simp)
          have HC0 := Lib.hid hC0
          clear hn0 hC0
          go_wp2_with fail
          refine (impl_row R C i A2 n2 cap2 [] _ (B := w.heap.size + 1 + 1) (HRN.out _) Ks (by omega) (by omega) (by omega) (by omega) HRK.out).mono ?_
          rintro e w3 ⟨A', cap', rfl, hri, hb, hc1, hc2⟩
          have hnx3 : OR w3 (w.heap.size + 1 + 1) (.slice A2 n2 cap2) (tb R C (prK C f0 (i + 1))) := Ko hnx
          have hO3 : BM w3 bO R C A2 n2 cap2 := Kb hO
          have hR3 : BM w3 (w.heap.size + 1) 0 0 none 0 0 := Kb hRV
          have hP3 : OR w3 (bO + 1) (.slice (some ⟨bO + 1, 0, none⟩) 0 0) [] := Ko hP
          have hbw3 : Below w.heap.size w w3 := Kw
          clear hri hc1 hc2
          go_wp2_with fail
          refine (impl_makePrimitive0 A' C cap' HC0.out _).mono ?_
          rintro e w' ⟨rfl, rfl⟩
          go_wp2_with fail
          go_roundw
          case rel => exact ⟨i + 1, by go_num, by omega, hO3, hR3, hnx3, hP3, hbw3⟩
          case measure => simp only [intOf]; omega
        · obtain ⟨g, rfl, hg1, hg2⟩ := HG.out (Nat.mul_pos (by omega) (by omega))
          have hiC : i * C + C ≤ n2 := by
            have h3 := Nat.mul_le_mul_right C (show i + 1 ≤ R by omega); rw [Nat.add_mul, Nat.one_mul] at h3; rw [HN2.out]; exact h3
          have HPB : Hid (∀ a c : Nat, a < R → c < C → -400000000 ≤ prK C f0 i a c ∧ prK C f0 i a c ≤ 400000000) := Lib.hid (fun a c ha hc => by
            by_cases h1 : a < i
            · have h2 := hQ0.bd a c ha hc
              have e : prK C f0 i a c = prK C f0 R a c := by simp [prK, h1, ha]
              rw [e]; exact h2
            · have e : prK C f0 i a c = f0 a c := by simp [prK, h1]
              rw [e]; exact HBD.out a c ha hc)
          go_wp2_with fail
          refine (impl_row_own R C i g n2 cap2 _ Ks (by omega) (by omega) (by omega) (by omega) (by omega) hiC).mono ?_
          rintro e w3 ⟨rfl, hb⟩
          have hO3 : BM w3 bO R C (some ⟨g, 0, none⟩) n2 cap2 := Kb hO
          have hR3 : BM w3 (w.heap.size + 1) 0 0 none 0 0 := Kb hRV
          have hP3 : OR w3 (bO + 1) (.slice (some ⟨bO + 1, 0, none⟩) 0 0) [] := Ko hP
          have hown3 : OR w3 (w.heap.size + 1 + 1) (.slice (some ⟨g, 0, none⟩) n2 cap2) (tb R C (prK C f0 i)) := Ko hown
          have hbw3 : Below w.heap.size w w3 := Kw
          clear hO hRV hP hbw hown oa ob oc of ol ra rb rc rf rl hb
          go_wp2_with fail
          refine (impl_makePrimitive_tb R C i g _ n2 cap2 (prK C f0 i) (prK C f0 (i + 1)) (prK_step C f0 i) _ hown3 hiR (by omega) HPB.out).mono ?_
          rintro e w4 ⟨rfl, hown4, hgr_0, hsz_0⟩
          have hO4 : BM w4 bO R C (some ⟨g, 0, none⟩) n2 cap2 := hO3.grown hgr_0 (by simp [Value.ownBlock]; omega)
          have hR4 : BM w4 (w.heap.size + 1) 0 0 none 0 0 := hR3.grown hgr_0 (by simp [Value.ownBlock]; omega)
          have hP4 : OR w4 (bO + 1) (.slice (some ⟨bO + 1, 0, none⟩) 0 0) [] := hP3.kept hgr_0 (.inr (fun e => hP3.ne_low (show g < bO + 1 by omega) e.symm))
          have hol3 := hO3.lt
          have hbw4 : Below w.heap.size w w4 := hbw3.trans (only_below hgr_0 (by omega) (by intro g' h; simp [Value.ownBlock] at h; omega))
          clear hgr_0 hsz_0 hO3 hR3 hP3 hbw3 hown3
          go_wp2_with fail
          go_roundw
          case rel => exact ⟨i + 1, by go_num, by omega, hO4, hR4, hown4, hP4, hbw4⟩
          case measure => simp only [intOf]; omega
      · obtain rfl : R = i := by omega
        generalize hf1 : prK C f0 R = f1 at *
        clear hf1 HBD HT HF0
        go_wp2_with fail
        obtain ⟨wo, rfl⟩ : ∃ wo : World, wo = wr := ⟨_, rfl⟩
        go_loopw [6, 8] (fun vp vj wr => ∃ (j : Nat) (f : Nat → Nat → Int) (t : Nat) (P : Option Addr) (pc : Nat) (ps : List Int), vj = .int .i64 j ∧ vp = .slice P t pc ∧ ps.length = t ∧ t ≤ R ∧ j ≤ C ∧ QOk R C f ∧ colsQ R C (C - j) j ⟨f, ps⟩ = X ∧ BM wr bO R C A2 n2 cap2 ∧ BM wr (w.heap.size + 1) 0 0 none 0 0 ∧ OR wr (w.heap.size + 1 + 1) (.slice A2 n2 cap2) (tb R C f) ∧ OR wr (bO + 1) (.slice P t pc) ps ∧ Below w.heap.size w wr) (fun _ v _ => C - (intOf v).toNat)
        case atStart => exact ⟨0, f1, 0, _, _, [], rfl, rfl, rfl, Nat.zero_le _, Nat.zero_le _, hQ0, hrun, hO, hRV, hown, hP, hbw⟩
        case round =>
          clear hO hRV hown hP hbw oa ob oc of ol ra rb rc rf rl
          clear hrun hQ0
          obtain ⟨j, f, t, P, pc, ps, rfl, rfl, hpl0, htR0, hj, hok, hcol0, hO, hRV, hown, hP, hbw⟩ := hrel
          have hpl := Lib.hid hpl0
          have hcol := Lib.hid hcol0
          have HOK := Lib.hid hok
          clear hcol0 hok hpl0
          obtain ⟨oa, ob, oc, of, ol⟩ := hO.mx; obtain ⟨ra, rb, rc, rf, rl⟩ := hRV.mx
          by_cases hjC : j < C
          · go_wp2_with fail
            obtain ⟨wo2, rfl⟩ : ∃ wo : World, wo = wr := ⟨_, rfl⟩
            go_loopw [10] (fun v wr => ∃ k : Nat, v = .int .i64 k ∧ t ≤ k ∧ k ≤ R ∧ fnd f j (R - k) k = fnd f j (R - t) t ∧ BM wr bO R C A2 n2 cap2 ∧ BM wr (w.heap.size + 1) 0 0 none 0 0 ∧ OR wr (w.heap.size + 1 + 1) (.slice A2 n2 cap2) (tb R C f) ∧ OR wr (bO + 1) (.slice P t pc) ps ∧ Below w.heap.size w wr) (fun v _ => R - (intOf v).toNat)
            case atStart => exact ⟨t, rfl, Nat.le_refl _, htR0, rfl, hO, hRV, hown, hP, hbw⟩
            case round =>
              clear hO hRV hown hP hbw oa ob oc of ol ra rb rc rf rl
              obtain ⟨k, rfl, hk1, hk2, hfn0, hO, hRV, hown, hP, hbw⟩ := hrel
              have hfn := Lib.hid hfn0
              clear hfn0
              obtain ⟨oa, ob, oc, of, ol⟩ := hO.mx; obtain ⟨ra, rb, rc, rf, rl⟩ := hRV.mx
              by_cases hkR : k < R
              · obtain ⟨g, rfl, hg1, hg2⟩ := HG.out (Nat.mul_pos (by omega) (by omega))
                have htR : t < R := by omega
                have hkRb : decide (R ≤ k) = false := by simp; omega
                by_cases hz : f k j = 0
                · have hfx := Lib.hid ((fnd_next hkR hz).symm.trans hfn.out)
                  have HZ := Lib.hid hz
                  clear hz
                  go_wp2_with fail
                  refine (impl_at_tb R C k j _ n2 cap2 f 0 HZ.out _ (B := w.heap.size + 1 + 1) (Ko hown) (by omega) (by omega) hkR hjC).mono ?_
                  rintro e w1 ⟨rfl, hb⟩
                  have hO_1 : BM w1 bO R C (some ⟨g, 0, none⟩) n2 cap2 := (Kb hO); have hRV_1 : BM w1 (w.heap.size + 1) 0 0 none 0 0 := (Kb hRV); have hown_1 : OR w1 (w.heap.size + 1 + 1) (.slice (some ⟨g, 0, none⟩) n2 cap2) (tb R C f) := (Ko hown); have hP_1 : OR w1 (bO + 1) (.slice P t pc) ps := (Ko hP); have hbw_1 : Below w.heap.size w w1 := Kw; clear hb; clear hO hRV hown hP hbw oa ob oc of ol ra rb rc rf rl; have hO := hO_1; have hRV := hRV_1; have hown := hown_1; have hP := hP_1; have hbw := hbw_1; clear hO_1 hRV_1 hown_1 hP_1 hbw_1; obtain ⟨oa, ob, oc, of, ol⟩ := hO.mx; obtain ⟨ra, rb, rc, rf, rl⟩ := hRV.mx
                  go_wp2_with fail
                  go_roundw
                  case rel => exact ⟨k + 1, by go_num, by omega, by omega, hfx.out, hO, hRV, hown, hP, hbw⟩
                  case measure => simp only [intOf]; omega
                · have hP0 : fnd f j (R - t) t = k := hfn.out.symm.trans (fnd_here hkR hz)
                  have hcn := colsQ_none (C := C) (f := f) (ps := ps) hjC (by rw [hpl.out]; exact hP0) hkR
                  rw [hpl.out] at hcn
                  have HN : Hid (rowsQ C t j (R - 0) 0 (swF f k t) = none → X = none) := Lib.hid (fun e => hcol.out.symm.trans (hcn e))
                  have HS : Hid (∀ f', rowsQ C t j (R - 0) 0 (swF f k t) = some f' → colsQ R C (C - (j + 1)) (j + 1) ⟨f', ps ++ [(j : Int)]⟩ = X) := Lib.hid (fun f' e => by
                    have hcs := colsQ_some (C := C) (f := f) (ps := ps) (f' := f') hjC (by rw [hpl.out]; exact hP0) hkR
                    rw [hpl.out] at hcs
                    exact (hcs e).symm.trans hcol.out)
                  have HQF := Lib.hid (HOK.out.sw hkR htR)
                  generalize hy : f k j = y at *
                  have HYK := Lib.hid hy
                  have hyb : (y == 0) = false := by simpa using hz
                  clear hcn hP0 hz hy
                  by_cases hkt : k = t
                  · have hktb : ((k : Int) != (t : Int)) = false := by simp [hkt]
                    have hsf : swF f k t = f := by rw [hkt]; exact swF_same f t
                    rw [hsf] at HN HS HQF
                    clear hsf hkt
                    go_wp2_with fail
                    refine (impl_at_tb R C k j _ n2 cap2 f y HYK.out _ (B := w.heap.size + 1 + 1) (Ko hown) (by omega) (by omega) hkR hjC).mono ?_
                    rintro e w1 ⟨rfl, hb⟩
                    have hO_1 : BM w1 bO R C (some ⟨g, 0, none⟩) n2 cap2 := (Kb hO); have hRV_1 : BM w1 (w.heap.size + 1) 0 0 none 0 0 := (Kb hRV); have hown_1 : OR w1 (w.heap.size + 1 + 1) (.slice (some ⟨g, 0, none⟩) n2 cap2) (tb R C f) := (Ko hown); have hP_1 : OR w1 (bO + 1) (.slice P t pc) ps := (Ko hP); have hbw_1 : Below w.heap.size w w1 := Kw; clear hb; clear hO hRV hown hP hbw oa ob oc of ol ra rb rc rf rl; have hO := hO_1; have hRV := hRV_1; have hown := hown_1; have hP := hP_1; have hbw := hbw_1; clear hO_1 hRV_1 hown_1 hP_1 hbw_1; obtain ⟨oa, ob, oc, of, ol⟩ := hO.mx; obtain ⟨ra, rb, rc, rf, rl⟩ := hRV.mx
                    have HQ1 : Hid (QOk R C f) := HQF
                    generalize hY : rowsQ C t j (R - 0) 0 f = Y at *
                    go_wp2_with fail
                    obtain ⟨wo3, rfl⟩ : ∃ wo : World, wo = w1 := ⟨_, rfl⟩
                    go_loopw [11] (fun v wr => ∃ (i : Nat) (q : Nat → Nat → Int), v = .int .i64 i ∧ i ≤ R ∧ QOk R C q ∧ rowsQ C t j (R - i) i q = Y ∧ BM wr bO R C (some ⟨g, 0, none⟩) n2 cap2 ∧ BM wr (w.heap.size + 1) 0 0 none 0 0 ∧ OR wr (w.heap.size + 1 + 1) (.slice (some ⟨g, 0, none⟩) n2 cap2) (tb R C q) ∧ OR wr (bO + 1) (.slice P t pc) ps ∧ Below w.heap.size w wr) (fun v _ => R - (intOf v).toNat)
                    case atStart => exact ⟨0, f, rfl, Nat.zero_le _, HQ1.out, hY, hO, hRV, hown, hP, hbw⟩
                    case round =>
                      clear hO hRV hown hP hbw oa ob oc of ol ra rb rc rf rl
                      clear hY
                      obtain ⟨i, q, rfl, hi, hokq, hrq0, hO, hRV, hown, hP, hbw⟩ := hrel
                      have hrq := Lib.hid hrq0
                      have HOQ := Lib.hid hokq
                      clear hrq0 hokq
                      obtain ⟨oa, ob, oc, of, ol⟩ := hO.mx; obtain ⟨ra, rb, rc, rf, rl⟩ := hRV.mx
                      by_cases hiR : i < R
                      · obtain ⟨hx1, hx2⟩ := HOQ.out.bd i j hiR hjC
                        obtain ⟨hy1, hy2⟩ := HOQ.out.bd t j htR hjC
                        by_cases hit : i = t
                        · have hb1 : ((i : Int) == (t : Int)) = true := by simp [hit]
                          have hnx := Lib.hid ((rowsQ_skip hiR (.inl hit)).symm.trans hrq.out)
                          clear hit
                          go_wp2_with fail
                          refine (impl_at_tb R C i j _ n2 cap2 q _ rfl _ (B := w.heap.size + 1 + 1) (Ko hown) (by omega) (by omega) hiR hjC).mono ?_
                          rintro e w1 ⟨rfl, hb⟩
                          have hO_1 : BM w1 bO R C (some ⟨g, 0, none⟩) n2 cap2 := (Kb hO); have hRV_1 : BM w1 (w.heap.size + 1) 0 0 none 0 0 := (Kb hRV); have hown_1 : OR w1 (w.heap.size + 1 + 1) (.slice (some ⟨g, 0, none⟩) n2 cap2) (tb R C q) := (Ko hown); have hP_1 : OR w1 (bO + 1) (.slice P t pc) ps := (Ko hP); have hbw_1 : Below w.heap.size w w1 := Kw; clear hb; clear hO hRV hown hP hbw oa ob oc of ol ra rb rc rf rl; have hO := hO_1; have hRV := hRV_1; have hown := hown_1; have hP := hP_1; have hbw := hbw_1; clear hO_1 hRV_1 hown_1 hP_1 hbw_1; obtain ⟨oa, ob, oc, of, ol⟩ := hO.mx; obtain ⟨ra, rb, rc, rf, rl⟩ := hRV.mx
                          go_wp2_with fail
                          go_roundw
                          case rel => exact ⟨i + 1, q, by go_num, by omega, HOQ.out, hnx.out, hO, hRV, hown, hP, hbw⟩
                          case measure => simp only [intOf]; omega
                        · have hb1 : ((i : Int) == (t : Int)) = false := by simp; omega
                          by_cases hx0 : q i j = 0
                          · have hnx := Lib.hid ((rowsQ_skip hiR (.inr hx0)).symm.trans hrq.out)
                            have HX0 := Lib.hid hx0
                            clear hx0
                            go_wp2_with fail
                            refine (impl_at_tb R C i j _ n2 cap2 q 0 HX0.out _ (B := w.heap.size + 1 + 1) (Ko hown) (by omega) (by omega) hiR hjC).mono ?_
                            rintro e w1 ⟨rfl, hb⟩
                            have hO_1 : BM w1 bO R C (some ⟨g, 0, none⟩) n2 cap2 := (Kb hO); have hRV_1 : BM w1 (w.heap.size + 1) 0 0 none 0 0 := (Kb hRV); have hown_1 : OR w1 (w.heap.size + 1 + 1) (.slice (some ⟨g, 0, none⟩) n2 cap2) (tb R C q) := (Ko hown); have hP_1 : OR w1 (bO + 1) (.slice P t pc) ps := (Ko hP); have hbw_1 : Below w.heap.size w w1 := Kw; clear hb; clear hO hRV hown hP hbw oa ob oc of ol ra rb rc rf rl; have hO := hO_1; have hRV := hRV_1; have hown := hown_1; have hP := hP_1; have hbw := hbw_1; clear hO_1 hRV_1 hown_1 hP_1 hbw_1; obtain ⟨oa, ob, oc, of, ol⟩ := hO.mx; obtain ⟨ra, rb, rc, rf, rl⟩ := hRV.mx
                            go_wp2_with fail
                            go_roundw
                            case rel => exact ⟨i + 1, q, by go_num, by omega, HOQ.out, hnx.out, hO, hRV, hown, hP, hbw⟩
                            case measure => simp only [intOf]; omega
                          · have HDO : Hid (okQ C q t j i = true → rowsQ C t j (R - (i + 1)) (i + 1) (stQ C q t j i) = Y) := Lib.hid (fun hk => (rowsQ_do hiR hit hx0 hk).symm.trans hrq.out)
                            have HBAD : Hid (okQ C q t j i = false → Y = none) := Lib.hid (fun hk => hrq.out.symm.trans (rowsQ_bad hiR hit hx0 hk))
                            have HCV : Hid (∀ k, cbV q t j i k = (q t j).tdiv (Int.gcd (q i j) (q t j) : Nat) * q i k - (q i j).tdiv (Int.gcd (q i j) (q t j) : Nat) * q t k) := Lib.hid (fun k => rfl)
                            have hg0 : 0 < Int.gcd (q i j) (q t j) := Int.gcd_pos_of_ne_zero_left _ hx0
                            have hg1' : Int.gcd (q i j) (q t j) ≤ (q i j).natAbs := Nat.le_of_dvd (by omega) (Int.gcd_dvd_natAbs_left ..)
                            have HIT := Lib.hid hit
                            generalize hx : q i j = x at *
                            have HX := Lib.hid hx
                            have hxb : (x == 0) = false := by simpa using hx0
                            clear hx hx0 hit
                            go_wp2_with fail
                            refine (impl_at_tb R C i j _ n2 cap2 q x HX.out _ (B := w.heap.size + 1 + 1) (Ko hown) (by omega) (by omega) hiR hjC).mono ?_
                            rintro e w1 ⟨rfl, hb⟩
                            have hO_1 : BM w1 bO R C (some ⟨g, 0, none⟩) n2 cap2 := (Kb hO); have hRV_1 : BM w1 (w.heap.size + 1) 0 0 none 0 0 := (Kb hRV); have hown_1 : OR w1 (w.heap.size + 1 + 1) (.slice (some ⟨g, 0, none⟩) n2 cap2) (tb R C q) := (Ko hown); have hP_1 : OR w1 (bO + 1) (.slice P t pc) ps := (Ko hP); have hbw_1 : Below w.heap.size w w1 := Kw; clear hb; clear hO hRV hown hP hbw oa ob oc of ol ra rb rc rf rl; have hO := hO_1; have hRV := hRV_1; have hown := hown_1; have hP := hP_1; have hbw := hbw_1; clear hO_1 hRV_1 hown_1 hP_1 hbw_1; obtain ⟨oa, ob, oc, of, ol⟩ := hO.mx; obtain ⟨ra, rb, rc, rf, rl⟩ := hRV.mx
                            generalize hy : q t j = y at *
                            have HY := Lib.hid hy
                            clear hy
                            go_wp2_with fail
                            refine (impl_at_tb R C t j _ n2 cap2 q y HY.out _ (B := w.heap.size + 1 + 1) (Ko hown) (by omega) (by omega) htR hjC).mono ?_
                            rintro e w4 ⟨rfl, hb⟩
                            have hO_1 : BM w4 bO R C (some ⟨g, 0, none⟩) n2 cap2 := (Kb hO); have hRV_1 : BM w4 (w.heap.size + 1) 0 0 none 0 0 := (Kb hRV); have hown_1 : OR w4 (w.heap.size + 1 + 1) (.slice (some ⟨g, 0, none⟩) n2 cap2) (tb R C q) := (Ko hown); have hP_1 : OR w4 (bO + 1) (.slice P t pc) ps := (Ko hP); have hbw_1 : Below w.heap.size w w4 := Kw; clear hb; clear hO hRV hown hP hbw oa ob oc of ol ra rb rc rf rl; have hO := hO_1; have hRV := hRV_1; have hown := hown_1; have hP := hP_1; have hbw := hbw_1; clear hO_1 hRV_1 hown_1 hP_1 hbw_1; obtain ⟨oa, ob, oc, of, ol⟩ := hO.mx; obtain ⟨ra, rb, rc, rf, rl⟩ := hRV.mx
                            go_wp2_with (first | (go_at_call 121; refine (impl_gcd _ _ _ (by omega) (by omega) (by omega) (by omega)).mono ?_; rintro e w' ⟨rfl, nd, rfl⟩))
                            generalize Int.gcd x y = G at *
                            obtain ⟨wo4, rfl⟩ : ∃ wo : World, wo = w4 := ⟨_, rfl⟩
                            go_loopw [15] (fun v wr => ∃ k : Nat, v = .int .i64 k ∧ k ≤ C ∧ (List.range k).all (fun k => isNum (cbV q t j i k)) = true ∧ BM wr bO R C (some ⟨g, 0, none⟩) n2 cap2 ∧ BM wr (w.heap.size + 1) 0 0 none 0 0 ∧ OR wr (w.heap.size + 1 + 1) (.slice (some ⟨g, 0, none⟩) n2 cap2) (tb R C (cbK q t j i k)) ∧ OR wr (bO + 1) (.slice P t pc) ps ∧ Below w.heap.size w wr) (fun v _ => C - (intOf v).toNat)
                            case atStart => exact ⟨0, rfl, Nat.zero_le _, by simp, Kb hO, Kb hRV, by rw [cbK_zero]; (with_reducible (repeat (first | exact hown | refine OR.drew ?_ | refine OR.drewN ?_ _ | refine OR.alloc ?_ _ | refine OR.b_ ?_ | refine OR.l_ ?_))), Ko hP, Kw⟩
                            case round =>
                              clear hO hRV hown hP hbw oa ob oc of ol ra rb rc rf rl
                              obtain ⟨k, rfl, hk, hal0, hO, hRV, hown, hP, hbw⟩ := hrel
                              have hal := Lib.hid hal0
                              clear hal0
                              obtain ⟨oa, ob, oc, of, ol⟩ := hO.mx; obtain ⟨ra, rb, rc, rf, rl⟩ := hRV.mx
                              by_cases hkC : k < C
                              · obtain ⟨z1a, z1b⟩ := HOQ.out.bd i k hiR hkC
                                obtain ⟨z2a, z2b⟩ := HOQ.out.bd t k htR hkC
                                have HA1 := Lib.hid (cbK_at q t j i k k (Nat.le_refl _))
                                have HA2 := Lib.hid (cbK_t q t j i k k HIT.out)
                                have hcv := HCV.out k
                                have HST := Lib.hid (cbK_step q t j i k)
                                have hall := range_all_succ (fun k => isNum (cbV q t j i k)) k
                                rw [show (List.range k).all (fun k => isNum (cbV q t j i k)) = true from hal.out, Bool.true_and] at hall
                                have hbadk : isNum (cbV q t j i k) = false → Y = none := fun e => HBAD.out (range_all_false (p := fun k => isNum (cbV q t j i k)) hkC e)
                                generalize q i k = z1 at *
                                generalize q t k = z2 at *
                                obtain ⟨d1, d2, d3⟩ := quo_bd y (G : Int) z1 (by omega) (by omega)
                                obtain ⟨d4, d5, d6⟩ := quo_bd x (G : Int) z2 (by omega) (by omega)
                                have hG1 : ¬ G = 0 := by omega
                                have hG0 : ¬ ((G : Nat) : Int) = 0 := by omega
                                have g1 : IntKind.i64.wrap (y.tdiv (G : Nat)) = y.tdiv (G : Nat) := IntWalk.i64_in _ (by omega)
                                have g2 : IntKind.i64.wrap (x.tdiv (G : Nat)) = x.tdiv (G : Nat) := IntWalk.i64_in _ (by omega)
                                have g3 : IntKind.i64.wrap (y.tdiv (G : Nat) * z1) = y.tdiv (G : Nat) * z1 := IntWalk.i64_in _ (by omega)
                                have g4 : IntKind.i64.wrap (x.tdiv (G : Nat) * z2) = x.tdiv (G : Nat) * z2 := IntWalk.i64_in _ (by omega)
                                have g5 : IntKind.i64.wrap (y.tdiv (G : Nat) * z1 - x.tdiv (G : Nat) * z2) = y.tdiv (G : Nat) * z1 - x.tdiv (G : Nat) * z2 := IntWalk.i64_in _ (by omega)
                                have hvb : -400000000000000000 ≤ y.tdiv (G : Nat) * z1 - x.tdiv (G : Nat) * z2 ∧ y.tdiv (G : Nat) * z1 - x.tdiv (G : Nat) * z2 ≤ 400000000000000000 := by omega
                                obtain ⟨hv1, hv2⟩ := hvb
                                have HCK := Lib.hid hcv
                                have HALL := Lib.hid hall
                                have HBK := Lib.hid hbadk
                                clear hcv hall hbadk d1 d2 d3 d4 d5 d6
                                go_wp2_with fail
                                ((refine wp_region_held_drew (S := (fun w' => w'.cell? ⟨bO, 0, none⟩ = some (.int .i64 R) ∧ w'.cell? ⟨bO, 1, none⟩ = some (.int .i64 C) ∧ w'.cell? ⟨bO, 2, none⟩ = some (.slice (some ⟨g, 0, none⟩) n2 cap2))) (by kernel_rfl) ?_ (fun hHeld => ?_)); ((focus ((try dsimp only); (go_keep)))); ((refine tk_ (i := 0) (v := ?_) (y := Or.inl ⟨by rfl, ?_⟩) (h := ?_); rotate_left; (focus (((intro w hSw; (try dsimp only at hSw); go_simp) <;> (try with_reducible rfl)); done)); (try simp only [Act.put, p1_, p2_, p3_]))); ((refine tk_ (i := 1) (v := ?_) (y := Or.inl ⟨by rfl, ?_⟩) (h := ?_); rotate_left; (focus (((intro w hSw; (try dsimp only at hSw); go_simp) <;> (try with_reducible rfl)); done)); (try simp only [Act.put, p1_, p2_, p3_]))); ((refine tk_ (i := 2) (v := ?_) (y := Or.inl ⟨by rfl, ?_⟩) (h := ?_); rotate_left; (focus (((intro w hSw; (try dsimp only at hSw); go_simp) <;> (try with_reducible rfl)); done)); (try simp only [Act.put, p1_, p2_, p3_]))); ((refine tk_ (i := 3) (v := ?_) (y := Or.inl ⟨by rfl, ?_⟩) (h := ?_); rotate_left; (focus (((intro w hSw; (try dsimp only at hSw); go_simp) <;> (try with_reducible rfl)); done)); (try simp only [Act.put, p1_, p2_, p3_]))); ((refine tk_ (i := 4) (v := ?_) (y := Or.inl ⟨by rfl, ?_⟩) (h := ?_); rotate_left; (focus (((intro w hSw; (try dsimp only at hSw); go_simp) <;> (try with_reducible rfl)); done)); (try simp only [Act.put, p1_, p2_, p3_]))); ((refine tk_ (i := 5) (v := ?_) (y := Or.inl ⟨by rfl, ?_⟩) (h := ?_); rotate_left; (focus (((intro w hSw; (try dsimp only at hSw); go_simp) <;> (try with_reducible rfl)); done)); (try simp only [Act.put, p1_, p2_, p3_]))); ((refine tk_ (i := 8) (v := ?_) (y := Or.inl ⟨by rfl, ?_⟩) (h := ?_); rotate_left; (focus (((intro w hSw; (try dsimp only at hSw); go_simp) <;> (try with_reducible rfl)); done)); (try simp only [Act.put, p1_, p2_, p3_]))); ((refine tk_ (i := 9) (v := ?_) (y := Or.inl ⟨by rfl, ?_⟩) (h := ?_); rotate_left; (focus (((intro w hSw; (try dsimp only at hSw); go_simp) <;> (try with_reducible rfl)); done)); (try simp only [Act.put, p1_, p2_, p3_]))); ((refine tk_ (i := 10) (v := ?_) (y := Or.inl ⟨by rfl, ?_⟩) (h := ?_); rotate_left; (focus (((intro w hSw; (try dsimp only at hSw); go_simp) <;> (try with_reducible rfl)); done)); (try simp only [Act.put, p1_, p2_, p3_]))); ((refine tk_ (i := 11) (v := ?_) (y := Or.inl ⟨by rfl, ?_⟩) (h := ?_); rotate_left; (focus (((intro w hSw; (try dsimp only at hSw); go_simp) <;> (try with_reducible rfl)); done)); (try simp only [Act.put, p1_, p2_, p3_]))); ((refine tk_ (i := 12) (v := ?_) (y := Or.inl ⟨by rfl, ?_⟩) (h := ?_); rotate_left; (focus (((intro w hSw; (try dsimp only at hSw); go_simp) <;> (try with_reducible rfl)); done)); (try simp only [Act.put, p1_, p2_, p3_]))); ((refine tk_ (i := 13) (v := ?_) (y := Or.inl ⟨by rfl, ?_⟩) (h := ?_); rotate_left; (focus (((intro w hSw; (try dsimp only at hSw); go_simp) <;> (try with_reducible rfl)); done)); (try simp only [Act.put, p1_, p2_, p3_]))); ((refine wpAnyH_ready (rs := [6]) (by kernel_rfl) (by simp) ?_; refine AllReadyH.cons (by simp only [e1_, e2_, e3_]; try rfl) (fun K hK => ?_) AllReadyH.nil; go_simp; (go_at_call 53; refine (impl_at_tb R C _ _ _ n2 cap2 (cbK q t j i k) z1 HA1.out _ (B := w.heap.size + 1 + 1) (Ko hown) (by omega) (by omega) (by omega) (by omega)).mono ?_; rintro e w1 ⟨rfl, hb⟩; have hO_1 : BM w1 bO R C (some ⟨g, 0, none⟩) n2 cap2 := (Kb hO); have hRV_1 : BM w1 (w.heap.size + 1) 0 0 none 0 0 := (Kb hRV); have hown_1 : OR w1 (w.heap.size + 1 + 1) (.slice (some ⟨g, 0, none⟩) n2 cap2) (tb R C (cbK q t j i k)) := (Ko hown); have hP_1 : OR w1 (bO + 1) (.slice P t pc) ps := (Ko hP); have hbw_1 : Below w.heap.size w w1 := Kw; clear hb; clear hO hRV hown hP hbw oa ob oc of ol ra rb rc rf rl; have hO := hO_1; have hRV := hRV_1; have hown := hown_1; have hP := hP_1; have hbw := hbw_1; clear hO_1 hRV_1 hown_1 hP_1 hbw_1; obtain ⟨oa, ob, oc, of, ol⟩ := hO.mx; obtain ⟨ra, rb, rc, rf, rl⟩ := hRV.mx); (try go_wp2_with fail); refine hK.out _ _ ?_ (fun hHeld => ?_); (focus ((try dsimp only); (go_keep))); clear hK K; (try simp only [Act.put, p1_, p2_, p3_]))); ((refine tk_ (i := 7) (v := ?_) (y := Or.inl ⟨by rfl, ?_⟩) (h := ?_); rotate_left; (focus (((intro w hSw; (try dsimp only at hSw); go_simp) <;> (try with_reducible rfl)); done)); (try simp only [Act.put, p1_, p2_, p3_]))); ((refine wpAnyH_ready (rs := [14]) (by kernel_rfl) (by simp) ?_; refine AllReadyH.cons (by simp only [e1_, e2_, e3_]; try rfl) (fun K hK => ?_) AllReadyH.nil; go_simp; (go_at_call 53; refine (impl_at_tb R C _ _ _ n2 cap2 (cbK q t j i k) z2 HA2.out _ (B := w.heap.size + 1 + 1) (Ko hown) (by omega) (by omega) (by omega) (by omega)).mono ?_; rintro e w1 ⟨rfl, hb⟩; have hO_1 : BM w1 bO R C (some ⟨g, 0, none⟩) n2 cap2 := (Kb hO); have hRV_1 : BM w1 (w.heap.size + 1) 0 0 none 0 0 := (Kb hRV); have hown_1 : OR w1 (w.heap.size + 1 + 1) (.slice (some ⟨g, 0, none⟩) n2 cap2) (tb R C (cbK q t j i k)) := (Ko hown); have hP_1 : OR w1 (bO + 1) (.slice P t pc) ps := (Ko hP); have hbw_1 : Below w.heap.size w w1 := Kw; clear hb; clear hO hRV hown hP hbw oa ob oc of ol ra rb rc rf rl; have hO := hO_1; have hRV := hRV_1; have hown := hown_1; have hP := hP_1; have hbw := hbw_1; clear hO_1 hRV_1 hown_1 hP_1 hbw_1; obtain ⟨oa, ob, oc, of, ol⟩ := hO.mx; obtain ⟨ra, rb, rc, rf, rl⟩ := hRV.mx); (try go_wp2_with fail); refine hK.out _ _ ?_ (fun hHeld => ?_); (focus ((try dsimp only); (go_keep))); clear hK K; (try simp only [Act.put, p1_, p2_, p3_]))); ((refine tk_ (i := 15) (v := ?_) (y := Or.inl ⟨by rfl, ?_⟩) (h := ?_); rotate_left; (focus (((intro w hSw; (try dsimp only at hSw); go_simp) <;> (try with_reducible rfl)); done)); (try simp only [Act.put, p1_, p2_, p3_]))); ((refine tk_ (i := 16) (v := ?_) (y := Or.inl ⟨by rfl, ?_⟩) (h := ?_); rotate_left; (focus (((intro w hSw; (try dsimp only at hSw); go_simp) <;> (try with_reducible rfl)); done)); (try simp only [Act.put, p1_, p2_, p3_]))); ((refine tk_ (i := 17) (v := ?_) (y := Or.inl ⟨by rfl, ?_⟩) (h := ?_); rotate_left; (focus (((intro w hSw; (try dsimp only at hSw); go_simp) <;> (try with_reducible rfl)); done)); (try simp only [Act.put, p1_, p2_, p3_]))); (refine wpAnyH_done (by kernel_rfl) ?_ _))
                                clear g1 g2 g3 g4 g5
                                generalize y.tdiv (G : Nat) * z1 - x.tdiv (G : Nat) * z2 = v at *
                                by_cases hvn : -400000000 ≤ v ∧ v ≤ 400000000
                                · have hnxa := Lib.hid (HALL.out.trans ((isNum_iff _).2 (by rw [HCK.out]; exact hvn)))
                                  obtain ⟨hvn1, hvn2⟩ := hvn
                                  rw [HCK.out] at HST
                                  go_wp2_with (first | (go_at_call 65; (first | refine (impl_IsNumber_yes _ _ (by omega)).mono ?_ | refine (impl_IsNumber_no _ _ (by omega)).mono ?_ | refine (impl_IsNumber _ _).mono ?_); rintro e w' ⟨rfl, rfl⟩))
                                  refine (impl_set_tb R C i k v _ n2 cap2 (cbK q t j i k) (cbK q t j i (k + 1)) HST.out _ (B := w.heap.size + 1 + 1) (Ko hown) (by omega) (by omega) hiR hkC).mono ?_
                                  rintro e w5 ⟨rfl, hown_1, hgr_0, hsz_0⟩
                                  have hO_1 : BM w5 bO R C (some ⟨g, 0, none⟩) n2 cap2 := (hO.grown hgr_0 (by simp [Value.ownBlock]; omega)); have hRV_1 : BM w5 (w.heap.size + 1) 0 0 none 0 0 := (hRV.grown hgr_0 (by simp [Value.ownBlock]; omega)); have hP_1 : OR w5 (bO + 1) (.slice P t pc) ps := (hP.kept hgr_0 (.inr (fun e => hP.ne_low (show g < bO + 1 by omega) e.symm))); have hbw_1 : Below w.heap.size w w5 := (hbw.trans (only_below hgr_0 (by omega) (by intro g' h; simp [Value.ownBlock] at h; omega))); clear hgr_0 hsz_0; clear hO hRV hown hP hbw oa ob oc of ol ra rb rc rf rl; have hO := hO_1; have hRV := hRV_1; have hown := hown_1; have hP := hP_1; have hbw := hbw_1; clear hO_1 hRV_1 hown_1 hP_1 hbw_1; obtain ⟨oa, ob, oc, of, ol⟩ := hO.mx; obtain ⟨ra, rb, rc, rf, rl⟩ := hRV.mx
                                  go_wp2
                                  go_roundw
                                  case rel => exact ⟨k + 1, by go_num, by omega, hnxa.out, hO, hRV, hown, hP, hbw⟩
                                  case measure => simp only [intOf]; omega
                                · have hyn := HBK.out (by rw [HCK.out, ← Bool.not_eq_true, isNum_iff]; exact hvn)
                                  have hxn := HN.out hyn
                                  subst hxn
                                  clear hyn
                                  go_wp2_with (first | (go_at_call 65; (first | refine (impl_IsNumber_yes _ _ (by omega)).mono ?_ | refine (impl_IsNumber_no _ _ (by omega)).mono ?_ | refine (impl_IsNumber _ _).mono ?_); rintro e w' ⟨rfl, rfl⟩))
                                  refine ret_MTT' (b := w.heap.size + 1) Try.results86 rfl (Kb hRV) rfl ?_
                                  exact MIBR.none_ (OR.empty' _ w1.heap.size (by simp [World.setCell]) (by simp [World.setCell]; omega)) Kw
                              · obtain rfl : C = k := by omega
                                have hkk : okQ C q t j i = true := hal.out
                                have hnx := Lib.hid (HDO.out hkk)
                                have HQS := Lib.hid (HOQ.out.st hiR hkk)
                                have HPB : Hid (∀ a c : Nat, a < R → c < C → -400000000 ≤ cbK q t j i C a c ∧ cbK q t j i C a c ≤ 400000000) := Lib.hid (fun a c ha hc => by
                                  unfold cbK
                                  by_cases hai : a = i ∧ c < C
                                  · rw [if_pos hai]; exact (isNum_iff _).1 (List.all_eq_true.1 hkk c (List.mem_range.2 hc))
                                  · rw [if_neg hai]; exact HOQ.out.bd a c ha hc)
                                clear hkk
                                have hiC : i * C + C ≤ n2 := by
                                  have h3 := Nat.mul_le_mul_right C (show i + 1 ≤ R by omega); rw [Nat.add_mul, Nat.one_mul] at h3; rw [HN2.out]; exact h3
                                go_wp2_with fail
                                refine (impl_row_own R C i g n2 cap2 _ Ks (by omega) (by omega) (by omega) (by omega) (by omega) hiC).mono ?_
                                rintro e w1 ⟨rfl, hb⟩
                                have hO_1 : BM w1 bO R C (some ⟨g, 0, none⟩) n2 cap2 := (Kb hO); have hRV_1 : BM w1 (w.heap.size + 1) 0 0 none 0 0 := (Kb hRV); have hown_1 : OR w1 (w.heap.size + 1 + 1) (.slice (some ⟨g, 0, none⟩) n2 cap2) (tb R C (cbK q t j i C)) := (Ko hown); have hP_1 : OR w1 (bO + 1) (.slice P t pc) ps := (Ko hP); have hbw_1 : Below w.heap.size w w1 := Kw; clear hb; clear hO hRV hown hP hbw oa ob oc of ol ra rb rc rf rl; have hO := hO_1; have hRV := hRV_1; have hown := hown_1; have hP := hP_1; have hbw := hbw_1; clear hO_1 hRV_1 hown_1 hP_1 hbw_1; obtain ⟨oa, ob, oc, of, ol⟩ := hO.mx; obtain ⟨ra, rb, rc, rf, rl⟩ := hRV.mx
                                go_wp2_with fail
                                refine (impl_makePrimitive_tb R C i g _ n2 cap2 (cbK q t j i C) (stQ C q t j i) rfl _ hown hiR (by omega) HPB.out).mono ?_
                                rintro e w5 ⟨rfl, hown_1, hgr_0, hsz_0⟩
                                have hO_1 : BM w5 bO R C (some ⟨g, 0, none⟩) n2 cap2 := (hO.grown hgr_0 (by simp [Value.ownBlock]; omega)); have hRV_1 : BM w5 (w.heap.size + 1) 0 0 none 0 0 := (hRV.grown hgr_0 (by simp [Value.ownBlock]; omega)); have hP_1 : OR w5 (bO + 1) (.slice P t pc) ps := (hP.kept hgr_0 (.inr (fun e => hP.ne_low (show g < bO + 1 by omega) e.symm))); have hbw_1 : Below w.heap.size w w5 := (hbw.trans (only_below hgr_0 (by omega) (by intro g' h; simp [Value.ownBlock] at h; omega))); clear hgr_0 hsz_0; clear hO hRV hown hP hbw oa ob oc of ol ra rb rc rf rl; have hO := hO_1; have hRV := hRV_1; have hown := hown_1; have hP := hP_1; have hbw := hbw_1; clear hO_1 hRV_1 hown_1 hP_1 hbw_1; obtain ⟨oa, ob, oc, of, ol⟩ := hO.mx; obtain ⟨ra, rb, rc, rf, rl⟩ := hRV.mx
                                go_wp2_with fail
                                go_roundw
                                case rel => exact ⟨i + 1, _, by go_num, by omega, HQS.out, hnx.out, hO, hRV, hown, hP, hbw⟩
                                case measure => simp only [intOf]; omega
                      · obtain rfl : R = i := by omega
                        have hyy : Y = some q := hrq.out.symm.trans (rowsQ_end _ _ _ _ _)
                        have hcx := Lib.hid (HS.out q hyy)
                        clear hyy
                        go_wp2_with (at_builtin; refine wpList_append_one _ rfl (.tmp 130) (.tmp 132) rfl (bO + 1) _ _ rfl (hP.alloc _) _ j rfl ?f1 ?f2 ?f3 ?_)
                        case f1 => simp [go_sem]
                        case f2 => have := hpl.out; omega
                        case f3 => simp; omega
                        intro v1 w5 hown1 hgr hat
                        have hO2 := (hO.alloc (.cells #[.int .i64 j] 3)).grown hgr (hP.ne_low (by omega))
                        have hR2 := (hRV.alloc (.cells #[.int .i64 j] 3)).grown hgr (hP.ne_low (by omega))
                        have hK2 := (hown.alloc (.cells #[.int .i64 j] 3)).kept hgr (.inr (hP.ne_low (show g < bO + 1 by omega)))
                        have hb2 := Below.trans (show Below w.heap.size w (wr.alloc (.cells #[.int .i64 j] 3)) from Kw) ((hP.alloc (.cells #[.int .i64 j] 3)).below_grown hgr (by simp; omega) |>.mono (by omega))
                        have hl1 : (ps ++ [(j : Int)]).length = t + 1 := by have := hpl.out; simp; omega
                        obtain ⟨P', pc', rfl⟩ := hown1.shape'
                        rw [hl1] at hown1 ⊢
                        have HL1 := Lib.hid hl1
                        clear hgr hat hl1
                        go_wp2
                        go_roundw
                        case rel => exact ⟨j + 1, _, t + 1, P', pc', _, by go_num, rfl, HL1.out, by omega, by omega, HOQ.out, hcx.out, hO2, hR2, hK2, hown1, hb2⟩
                        case measure => simp only [intOf]; omega
                  · have hktb : ((k : Int) != (t : Int)) = true := by simp; omega
                    have HKT := Lib.hid hkt
                    clear hkt
                    go_wp2_with fail
                    refine (impl_at_tb R C k j _ n2 cap2 f y HYK.out _ (B := w.heap.size + 1 + 1) (Ko hown) (by omega) (by omega) hkR hjC).mono ?_
                    rintro e w1 ⟨rfl, hb⟩
                    have hO_1 : BM w1 bO R C (some ⟨g, 0, none⟩) n2 cap2 := (Kb hO); have hRV_1 : BM w1 (w.heap.size + 1) 0 0 none 0 0 := (Kb hRV); have hown_1 : OR w1 (w.heap.size + 1 + 1) (.slice (some ⟨g, 0, none⟩) n2 cap2) (tb R C f) := (Ko hown); have hP_1 : OR w1 (bO + 1) (.slice P t pc) ps := (Ko hP); have hbw_1 : Below w.heap.size w w1 := Kw; clear hb; clear hO hRV hown hP hbw oa ob oc of ol ra rb rc rf rl; have hO := hO_1; have hRV := hRV_1; have hown := hown_1; have hP := hP_1; have hbw := hbw_1; clear hO_1 hRV_1 hown_1 hP_1 hbw_1; obtain ⟨oa, ob, oc, of, ol⟩ := hO.mx; obtain ⟨ra, rb, rc, rf, rl⟩ := hRV.mx
                    go_wp2_with fail
                    refine (impl_rowOp_swap R C k t 0 _ n2 cap2 f _ (B := w.heap.size + 1 + 1) (Ko hown) hkR htR HKT.out (by omega) (by omega) (by omega)).mono ?_
                    rintro e w5 ⟨rfl, hown_1, hgr_0, hsz_0⟩
                    have hO_1 : BM w5 bO R C (some ⟨g, 0, none⟩) n2 cap2 := (hO.grown hgr_0 (by simp [Value.ownBlock]; omega)); have hRV_1 : BM w5 (w.heap.size + 1) 0 0 none 0 0 := (hRV.grown hgr_0 (by simp [Value.ownBlock]; omega)); have hP_1 : OR w5 (bO + 1) (.slice P t pc) ps := (hP.kept hgr_0 (.inr (fun e => hP.ne_low (show g < bO + 1 by omega) e.symm))); have hbw_1 : Below w.heap.size w w5 := (hbw.trans (only_below hgr_0 (by omega) (by intro g' h; simp [Value.ownBlock] at h; omega))); clear hgr_0 hsz_0; clear hO hRV hown hP hbw oa ob oc of ol ra rb rc rf rl; have hO := hO_1; have hRV := hRV_1; have hown := hown_1; have hP := hP_1; have hbw := hbw_1; clear hO_1 hRV_1 hown_1 hP_1 hbw_1; obtain ⟨oa, ob, oc, of, ol⟩ := hO.mx; obtain ⟨ra, rb, rc, rf, rl⟩ := hRV.mx
                    generalize swF f k t = F1 at *
                    have HQ1 : Hid (QOk R C F1) := HQF
                    generalize hY : rowsQ C t j (R - 0) 0 F1 = Y at *
                    go_wp2_with fail
                    obtain ⟨wo3, rfl⟩ : ∃ wo : World, wo = w5 := ⟨_, rfl⟩
                    go_loopw [11] (fun v wr => ∃ (i : Nat) (q : Nat → Nat → Int), v = .int .i64 i ∧ i ≤ R ∧ QOk R C q ∧ rowsQ C t j (R - i) i q = Y ∧ BM wr bO R C (some ⟨g, 0, none⟩) n2 cap2 ∧ BM wr (w.heap.size + 1) 0 0 none 0 0 ∧ OR wr (w.heap.size + 1 + 1) (.slice (some ⟨g, 0, none⟩) n2 cap2) (tb R C q) ∧ OR wr (bO + 1) (.slice P t pc) ps ∧ Below w.heap.size w wr) (fun v _ => R - (intOf v).toNat)
                    case atStart => exact ⟨0, F1, rfl, Nat.zero_le _, HQ1.out, hY, hO, hRV, hown, hP, hbw⟩
                    case round =>
                      clear hO hRV hown hP hbw oa ob oc of ol ra rb rc rf rl
                      clear hY
                      obtain ⟨i, q, rfl, hi, hokq, hrq0, hO, hRV, hown, hP, hbw⟩ := hrel
                      have hrq := Lib.hid hrq0
                      have HOQ := Lib.hid hokq
                      clear hrq0 hokq
                      obtain ⟨oa, ob, oc, of, ol⟩ := hO.mx; obtain ⟨ra, rb, rc, rf, rl⟩ := hRV.mx
                      by_cases hiR : i < R
                      · obtain ⟨hx1, hx2⟩ := HOQ.out.bd i j hiR hjC
                        obtain ⟨hy1, hy2⟩ := HOQ.out.bd t j htR hjC
                        by_cases hit : i = t
                        · have hb1 : ((i : Int) == (t : Int)) = true := by simp [hit]
                          have hnx := Lib.hid ((rowsQ_skip hiR (.inl hit)).symm.trans hrq.out)
                          clear hit
                          go_wp2_with fail
                          refine (impl_at_tb R C i j _ n2 cap2 q _ rfl _ (B := w.heap.size + 1 + 1) (Ko hown) (by omega) (by omega) hiR hjC).mono ?_
                          rintro e w1 ⟨rfl, hb⟩
                          have hO_1 : BM w1 bO R C (some ⟨g, 0, none⟩) n2 cap2 := (Kb hO); have hRV_1 : BM w1 (w.heap.size + 1) 0 0 none 0 0 := (Kb hRV); have hown_1 : OR w1 (w.heap.size + 1 + 1) (.slice (some ⟨g, 0, none⟩) n2 cap2) (tb R C q) := (Ko hown); have hP_1 : OR w1 (bO + 1) (.slice P t pc) ps := (Ko hP); have hbw_1 : Below w.heap.size w w1 := Kw; clear hb; clear hO hRV hown hP hbw oa ob oc of ol ra rb rc rf rl; have hO := hO_1; have hRV := hRV_1; have hown := hown_1; have hP := hP_1; have hbw := hbw_1; clear hO_1 hRV_1 hown_1 hP_1 hbw_1; obtain ⟨oa, ob, oc, of, ol⟩ := hO.mx; obtain ⟨ra, rb, rc, rf, rl⟩ := hRV.mx
                          go_wp2_with fail
                          go_roundw
                          case rel => exact ⟨i + 1, q, by go_num, by omega, HOQ.out, hnx.out, hO, hRV, hown, hP, hbw⟩
                          case measure => simp only [intOf]; omega
                        · have hb1 : ((i : Int) == (t : Int)) = false := by simp; omega
                          by_cases hx0 : q i j = 0
                          · have hnx := Lib.hid ((rowsQ_skip hiR (.inr hx0)).symm.trans hrq.out)
                            have HX0 := Lib.hid hx0
                            clear hx0
                            go_wp2_with fail
                            refine (impl_at_tb R C i j _ n2 cap2 q 0 HX0.out _ (B := w.heap.size + 1 + 1) (Ko hown) (by omega) (by omega) hiR hjC).mono ?_
                            rintro e w1 ⟨rfl, hb⟩
                            have hO_1 : BM w1 bO R C (some ⟨g, 0, none⟩) n2 cap2 := (Kb hO); have hRV_1 : BM w1 (w.heap.size + 1) 0 0 none 0 0 := (Kb hRV); have hown_1 : OR w1 (w.heap.size + 1 + 1) (.slice (some ⟨g, 0, none⟩) n2 cap2) (tb R C q) := (Ko hown); have hP_1 : OR w1 (bO + 1) (.slice P t pc) ps := (Ko hP); have hbw_1 : Below w.heap.size w w1 := Kw; clear hb; clear hO hRV hown hP hbw oa ob oc of ol ra rb rc rf rl; have hO := hO_1; have hRV := hRV_1; have hown := hown_1; have hP := hP_1; have hbw := hbw_1; clear hO_1 hRV_1 hown_1 hP_1 hbw_1; obtain ⟨oa, ob, oc, of, ol⟩ := hO.mx; obtain ⟨ra, rb, rc, rf, rl⟩ := hRV.mx
                            go_wp2_with fail
                            go_roundw
                            case rel => exact ⟨i + 1, q, by go_num, by omega, HOQ.out, hnx.out, hO, hRV, hown, hP, hbw⟩
                            case measure => simp only [intOf]; omega
                          · have HDO : Hid (okQ C q t j i = true → rowsQ C t j (R - (i + 1)) (i + 1) (stQ C q t j i) = Y) := Lib.hid (fun hk => (rowsQ_do hiR hit hx0 hk).symm.trans hrq.out)
                            have HBAD : Hid (okQ C q t j i = false → Y = none) := Lib.hid (fun hk => hrq.out.symm.trans (rowsQ_bad hiR hit hx0 hk))
                            have HCV : Hid (∀ k, cbV q t j i k = (q t j).tdiv (Int.gcd (q i j) (q t j) : Nat) * q i k - (q i j).tdiv (Int.gcd (q i j) (q t j) : Nat) * q t k) := Lib.hid (fun k => rfl)
                            have hg0 : 0 < Int.gcd (q i j) (q t j) := Int.gcd_pos_of_ne_zero_left _ hx0
                            have hg1' : Int.gcd (q i j) (q t j) ≤ (q i j).natAbs := Nat.le_of_dvd (by omega) (Int.gcd_dvd_natAbs_left ..)
                            have HIT := Lib.hid hit
                            generalize hx : q i j = x at *
                            have HX := Lib.hid hx
                            have hxb : (x == 0) = false := by simpa using hx0
                            clear hx hx0 hit
                            go_wp2_with fail
                            refine (impl_at_tb R C i j _ n2 cap2 q x HX.out _ (B := w.heap.size + 1 + 1) (Ko hown) (by omega) (by omega) hiR hjC).mono ?_
                            rintro e w1 ⟨rfl, hb⟩
                            have hO_1 : BM w1 bO R C (some ⟨g, 0, none⟩) n2 cap2 := (Kb hO); have hRV_1 : BM w1 (w.heap.size + 1) 0 0 none 0 0 := (Kb hRV); have hown_1 : OR w1 (w.heap.size + 1 + 1) (.slice (some ⟨g, 0, none⟩) n2 cap2) (tb R C q) := (Ko hown); have hP_1 : OR w1 (bO + 1) (.slice P t pc) ps := (Ko hP); have hbw_1 : Below w.heap.size w w1 := Kw; clear hb; clear hO hRV hown hP hbw oa ob oc of ol ra rb rc rf rl; have hO := hO_1; have hRV := hRV_1; have hown := hown_1; have hP := hP_1; have hbw := hbw_1; clear hO_1 hRV_1 hown_1 hP_1 hbw_1; obtain ⟨oa, ob, oc, of, ol⟩ := hO.mx; obtain ⟨ra, rb, rc, rf, rl⟩ := hRV.mx
                            generalize hy : q t j = y at *
                            have HY := Lib.hid hy
                            clear hy
                            go_wp2_with fail
                            refine (impl_at_tb R C t j _ n2 cap2 q y HY.out _ (B := w.heap.size + 1 + 1) (Ko hown) (by omega) (by omega) htR hjC).mono ?_
                            rintro e w4 ⟨rfl, hb⟩
                            have hO_1 : BM w4 bO R C (some ⟨g, 0, none⟩) n2 cap2 := (Kb hO); have hRV_1 : BM w4 (w.heap.size + 1) 0 0 none 0 0 := (Kb hRV); have hown_1 : OR w4 (w.heap.size + 1 + 1) (.slice (some ⟨g, 0, none⟩) n2 cap2) (tb R C q) := (Ko hown); have hP_1 : OR w4 (bO + 1) (.slice P t pc) ps := (Ko hP); have hbw_1 : Below w.heap.size w w4 := Kw; clear hb; clear hO hRV hown hP hbw oa ob oc of ol ra rb rc rf rl; have hO := hO_1; have hRV := hRV_1; have hown := hown_1; have hP := hP_1; have hbw := hbw_1; clear hO_1 hRV_1 hown_1 hP_1 hbw_1; obtain ⟨oa, ob, oc, of, ol⟩ := hO.mx; obtain ⟨ra, rb, rc, rf, rl⟩ := hRV.mx
                            go_wp2_with (first | (go_at_call 121; refine (impl_gcd _ _ _ (by omega) (by omega) (by omega) (by omega)).mono ?_; rintro e w' ⟨rfl, nd, rfl⟩))
                            generalize Int.gcd x y = G at *
                            obtain ⟨wo4, rfl⟩ : ∃ wo : World, wo = w4 := ⟨_, rfl⟩
                            go_loopw [15] (fun v wr => ∃ k : Nat, v = .int .i64 k ∧ k ≤ C ∧ (List.range k).all (fun k => isNum (cbV q t j i k)) = true ∧ BM wr bO R C (some ⟨g, 0, none⟩) n2 cap2 ∧ BM wr (w.heap.size + 1) 0 0 none 0 0 ∧ OR wr (w.heap.size + 1 + 1) (.slice (some ⟨g, 0, none⟩) n2 cap2) (tb R C (cbK q t j i k)) ∧ OR wr (bO + 1) (.slice P t pc) ps ∧ Below w.heap.size w wr) (fun v _ => C - (intOf v).toNat)
                            case atStart => exact ⟨0, rfl, Nat.zero_le _, by simp, Kb hO, Kb hRV, by rw [cbK_zero]; (with_reducible (repeat (first | exact hown | refine OR.drew ?_ | refine OR.drewN ?_ _ | refine OR.alloc ?_ _ | refine OR.b_ ?_ | refine OR.l_ ?_))), Ko hP, Kw⟩
                            case round =>
                              clear hO hRV hown hP hbw oa ob oc of ol ra rb rc rf rl
                              obtain ⟨k, rfl, hk, hal0, hO, hRV, hown, hP, hbw⟩ := hrel
                              have hal := Lib.hid hal0
                              clear hal0
                              obtain ⟨oa, ob, oc, of, ol⟩ := hO.mx; obtain ⟨ra, rb, rc, rf, rl⟩ := hRV.mx
                              by_cases hkC : k < C
                              · obtain ⟨z1a, z1b⟩ := HOQ.out.bd i k hiR hkC
                                obtain ⟨z2a, z2b⟩ := HOQ.out.bd t k htR hkC
                                have HA1 := Lib.hid (cbK_at q t j i k k (Nat.le_refl _))
                                have HA2 := Lib.hid (cbK_t q t j i k k HIT.out)
                                have hcv := HCV.out k
                                have HST := Lib.hid (cbK_step q t j i k)
                                have hall := range_all_succ (fun k => isNum (cbV q t j i k)) k
                                rw [show (List.range k).all (fun k => isNum (cbV q t j i k)) = true from hal.out, Bool.true_and] at hall
                                have hbadk : isNum (cbV q t j i k) = false → Y = none := fun e => HBAD.out (range_all_false (p := fun k => isNum (cbV q t j i k)) hkC e)
                                generalize q i k = z1 at *
                                generalize q t k = z2 at *
                                obtain ⟨d1, d2, d3⟩ := quo_bd y (G : Int) z1 (by omega) (by omega)
                                obtain ⟨d4, d5, d6⟩ := quo_bd x (G : Int) z2 (by omega) (by omega)
                                have hG1 : ¬ G = 0 := by omega
                                have hG0 : ¬ ((G : Nat) : Int) = 0 := by omega
                                have g1 : IntKind.i64.wrap (y.tdiv (G : Nat)) = y.tdiv (G : Nat) := IntWalk.i64_in _ (by omega)
                                have g2 : IntKind.i64.wrap (x.tdiv (G : Nat)) = x.tdiv (G : Nat) := IntWalk.i64_in _ (by omega)
                                have g3 : IntKind.i64.wrap (y.tdiv (G : Nat) * z1) = y.tdiv (G : Nat) * z1 := IntWalk.i64_in _ (by omega)
                                have g4 : IntKind.i64.wrap (x.tdiv (G : Nat) * z2) = x.tdiv (G : Nat) * z2 := IntWalk.i64_in _ (by omega)
                                have g5 : IntKind.i64.wrap (y.tdiv (G : Nat) * z1 - x.tdiv (G : Nat) * z2) = y.tdiv (G : Nat) * z1 - x.tdiv (G : Nat) * z2 := IntWalk.i64_in _ (by omega)
                                have hvb : -400000000000000000 ≤ y.tdiv (G : Nat) * z1 - x.tdiv (G : Nat) * z2 ∧ y.tdiv (G : Nat) * z1 - x.tdiv (G : Nat) * z2 ≤ 400000000000000000 := by omega
                                obtain ⟨hv1, hv2⟩ := hvb
                                have HCK := Lib.hid hcv
                                have HALL := Lib.hid hall
                                have HBK := Lib.hid hbadk
                                clear hcv hall hbadk d1 d2 d3 d4 d5 d6
                                go_wp2_with fail
                                ((refine wp_region_held_drew (S := (fun w' => w'.cell? ⟨bO, 0, none⟩ = some (.int .i64 R) ∧ w'.cell? ⟨bO, 1, none⟩ = some (.int .i64 C) ∧ w'.cell? ⟨bO, 2, none⟩ = some (.slice (some ⟨g, 0, none⟩) n2 cap2))) (by kernel_rfl) ?_ (fun hHeld => ?_)); ((focus ((try dsimp only); (go_keep)))); ((refine tk_ (i := 0) (v := ?_) (y := Or.inl ⟨by rfl, ?_⟩) (h := ?_); rotate_left; (focus (((intro w hSw; (try dsimp only at hSw); go_simp) <;> (try with_reducible rfl)); done)); (try simp only [Act.put, p1_, p2_, p3_]))); ((refine tk_ (i := 1) (v := ?_) (y := Or.inl ⟨by rfl, ?_⟩) (h := ?_); rotate_left; (focus (((intro w hSw; (try dsimp only at hSw); go_simp) <;> (try with_reducible rfl)); done)); (try simp only [Act.put, p1_, p2_, p3_]))); ((refine tk_ (i := 2) (v := ?_) (y := Or.inl ⟨by rfl, ?_⟩) (h := ?_); rotate_left; (focus (((intro w hSw; (try dsimp only at hSw); go_simp) <;> (try with_reducible rfl)); done)); (try simp only [Act.put, p1_, p2_, p3_]))); ((refine tk_ (i := 3) (v := ?_) (y := Or.inl ⟨by rfl, ?_⟩) (h := ?_); rotate_left; (focus (((intro w hSw; (try dsimp only at hSw); go_simp) <;> (try with_reducible rfl)); done)); (try simp only [Act.put, p1_, p2_, p3_]))); ((refine tk_ (i := 4) (v := ?_) (y := Or.inl ⟨by rfl, ?_⟩) (h := ?_); rotate_left; (focus (((intro w hSw; (try dsimp only at hSw); go_simp) <;> (try with_reducible rfl)); done)); (try simp only [Act.put, p1_, p2_, p3_]))); ((refine tk_ (i := 5) (v := ?_) (y := Or.inl ⟨by rfl, ?_⟩) (h := ?_); rotate_left; (focus (((intro w hSw; (try dsimp only at hSw); go_simp) <;> (try with_reducible rfl)); done)); (try simp only [Act.put, p1_, p2_, p3_]))); ((refine tk_ (i := 8) (v := ?_) (y := Or.inl ⟨by rfl, ?_⟩) (h := ?_); rotate_left; (focus (((intro w hSw; (try dsimp only at hSw); go_simp) <;> (try with_reducible rfl)); done)); (try simp only [Act.put, p1_, p2_, p3_]))); ((refine tk_ (i := 9) (v := ?_) (y := Or.inl ⟨by rfl, ?_⟩) (h := ?_); rotate_left; (focus (((intro w hSw; (try dsimp only at hSw); go_simp) <;> (try with_reducible rfl)); done)); (try simp only [Act.put, p1_, p2_, p3_]))); ((refine tk_ (i := 10) (v := ?_) (y := Or.inl ⟨by rfl, ?_⟩) (h := ?_); rotate_left; (focus (((intro w hSw; (try dsimp only at hSw); go_simp) <;> (try with_reducible rfl)); done)); (try simp only [Act.put, p1_, p2_, p3_]))); ((refine tk_ (i := 11) (v := ?_) (y := Or.inl ⟨by rfl, ?_⟩) (h := ?_); rotate_left; (focus (((intro w hSw; (try dsimp only at hSw); go_simp) <;> (try with_reducible rfl)); done)); (try simp only [Act.put, p1_, p2_, p3_]))); ((refine tk_ (i := 12) (v := ?_) (y := Or.inl ⟨by rfl, ?_⟩) (h := ?_); rotate_left; (focus (((intro w hSw; (try dsimp only at hSw); go_simp) <;> (try with_reducible rfl)); done)); (try simp only [Act.put, p1_, p2_, p3_]))); ((refine tk_ (i := 13) (v := ?_) (y := Or.inl ⟨by rfl, ?_⟩) (h := ?_); rotate_left; (focus (((intro w hSw; (try dsimp only at hSw); go_simp) <;> (try with_reducible rfl)); done)); (try simp only [Act.put, p1_, p2_, p3_]))); ((refine wpAnyH_ready (rs := [6]) (by kernel_rfl) (by simp) ?_; refine AllReadyH.cons (by simp only [e1_, e2_, e3_]; try rfl) (fun K hK => ?_) AllReadyH.nil; go_simp; (go_at_call 53; refine (impl_at_tb R C _ _ _ n2 cap2 (cbK q t j i k) z1 HA1.out _ (B := w.heap.size + 1 + 1) (Ko hown) (by omega) (by omega) (by omega) (by omega)).mono ?_; rintro e w1 ⟨rfl, hb⟩; have hO_1 : BM w1 bO R C (some ⟨g, 0, none⟩) n2 cap2 := (Kb hO); have hRV_1 : BM w1 (w.heap.size + 1) 0 0 none 0 0 := (Kb hRV); have hown_1 : OR w1 (w.heap.size + 1 + 1) (.slice (some ⟨g, 0, none⟩) n2 cap2) (tb R C (cbK q t j i k)) := (Ko hown); have hP_1 : OR w1 (bO + 1) (.slice P t pc) ps := (Ko hP); have hbw_1 : Below w.heap.size w w1 := Kw; clear hb; clear hO hRV hown hP hbw oa ob oc of ol ra rb rc rf rl; have hO := hO_1; have hRV := hRV_1; have hown := hown_1; have hP := hP_1; have hbw := hbw_1; clear hO_1 hRV_1 hown_1 hP_1 hbw_1; obtain ⟨oa, ob, oc, of, ol⟩ := hO.mx; obtain ⟨ra, rb, rc, rf, rl⟩ := hRV.mx); (try go_wp2_with fail); refine hK.out _ _ ?_ (fun hHeld => ?_); (focus ((try dsimp only); (go_keep))); clear hK K; (try simp only [Act.put, p1_, p2_, p3_]))); ((refine tk_ (i := 7) (v := ?_) (y := Or.inl ⟨by rfl, ?_⟩) (h := ?_); rotate_left; (focus (((intro w hSw; (try dsimp only at hSw); go_simp) <;> (try with_reducible rfl)); done)); (try simp only [Act.put, p1_, p2_, p3_]))); ((refine wpAnyH_ready (rs := [14]) (by kernel_rfl) (by simp) ?_; refine AllReadyH.cons (by simp only [e1_, e2_, e3_]; try rfl) (fun K hK => ?_) AllReadyH.nil; go_simp; (go_at_call 53; refine (impl_at_tb R C _ _ _ n2 cap2 (cbK q t j i k) z2 HA2.out _ (B := w.heap.size + 1 + 1) (Ko hown) (by omega) (by omega) (by omega) (by omega)).mono ?_; rintro e w1 ⟨rfl, hb⟩; have hO_1 : BM w1 bO R C (some ⟨g, 0, none⟩) n2 cap2 := (Kb hO); have hRV_1 : BM w1 (w.heap.size + 1) 0 0 none 0 0 := (Kb hRV); have hown_1 : OR w1 (w.heap.size + 1 + 1) (.slice (some ⟨g, 0, none⟩) n2 cap2) (tb R C (cbK q t j i k)) := (Ko hown); have hP_1 : OR w1 (bO + 1) (.slice P t pc) ps := (Ko hP); have hbw_1 : Below w.heap.size w w1 := Kw; clear hb; clear hO hRV hown hP hbw oa ob oc of ol ra rb rc rf rl; have hO := hO_1; have hRV := hRV_1; have hown := hown_1; have hP := hP_1; have hbw := hbw_1; clear hO_1 hRV_1 hown_1 hP_1 hbw_1; obtain ⟨oa, ob, oc, of, ol⟩ := hO.mx; obtain ⟨ra, rb, rc, rf, rl⟩ := hRV.mx); (try go_wp2_with fail); refine hK.out _ _ ?_ (fun hHeld => ?_); (focus ((try dsimp only); (go_keep))); clear hK K; (try simp only [Act.put, p1_, p2_, p3_]))); ((refine tk_ (i := 15) (v := ?_) (y := Or.inl ⟨by rfl, ?_⟩) (h := ?_); rotate_left; (focus (((intro w hSw; (try dsimp only at hSw); go_simp) <;> (try with_reducible rfl)); done)); (try simp only [Act.put, p1_, p2_, p3_]))); ((refine tk_ (i := 16) (v := ?_) (y := Or.inl ⟨by rfl, ?_⟩) (h := ?_); rotate_left; (focus (((intro w hSw; (try dsimp only at hSw); go_simp) <;> (try with_reducible rfl)); done)); (try simp only [Act.put, p1_, p2_, p3_]))); ((refine tk_ (i := 17) (v := ?_) (y := Or.inl ⟨by rfl, ?_⟩) (h := ?_); rotate_left; (focus (((intro w hSw; (try dsimp only at hSw); go_simp) <;> (try with_reducible rfl)); done)); (try simp only [Act.put, p1_, p2_, p3_]))); (refine wpAnyH_done (by kernel_rfl) ?_ _))
                                clear g1 g2 g3 g4 g5
                                generalize y.tdiv (G : Nat) * z1 - x.tdiv (G : Nat) * z2 = v at *
                                by_cases hvn : -400000000 ≤ v ∧ v ≤ 400000000
                                · have hnxa := Lib.hid (HALL.out.trans ((isNum_iff _).2 (by rw [HCK.out]; exact hvn)))
                                  obtain ⟨hvn1, hvn2⟩ := hvn
                                  rw [HCK.out] at HST
                                  go_wp2_with (first | (go_at_call 65; (first | refine (impl_IsNumber_yes _ _ (by omega)).mono ?_ | refine (impl_IsNumber_no _ _ (by omega)).mono ?_ | refine (impl_IsNumber _ _).mono ?_); rintro e w' ⟨rfl, rfl⟩))
                                  refine (impl_set_tb R C i k v _ n2 cap2 (cbK q t j i k) (cbK q t j i (k + 1)) HST.out _ (B := w.heap.size + 1 + 1) (Ko hown) (by omega) (by omega) hiR hkC).mono ?_
                                  rintro e w5 ⟨rfl, hown_1, hgr_0, hsz_0⟩
                                  have hO_1 : BM w5 bO R C (some ⟨g, 0, none⟩) n2 cap2 := (hO.grown hgr_0 (by simp [Value.ownBlock]; omega)); have hRV_1 : BM w5 (w.heap.size + 1) 0 0 none 0 0 := (hRV.grown hgr_0 (by simp [Value.ownBlock]; omega)); have hP_1 : OR w5 (bO + 1) (.slice P t pc) ps := (hP.kept hgr_0 (.inr (fun e => hP.ne_low (show g < bO + 1 by omega) e.symm))); have hbw_1 : Below w.heap.size w w5 := (hbw.trans (only_below hgr_0 (by omega) (by intro g' h; simp [Value.ownBlock] at h; omega))); clear hgr_0 hsz_0; clear hO hRV hown hP hbw oa ob oc of ol ra rb rc rf rl; have hO := hO_1; have hRV := hRV_1; have hown := hown_1; have hP := hP_1; have hbw := hbw_1; clear hO_1 hRV_1 hown_1 hP_1 hbw_1; obtain ⟨oa, ob, oc, of, ol⟩ := hO.mx; obtain ⟨ra, rb, rc, rf, rl⟩ := hRV.mx
                                  go_wp2
                                  go_roundw
                                  case rel => exact ⟨k + 1, by go_num, by omega, hnxa.out, hO, hRV, hown, hP, hbw⟩
                                  case measure => simp only [intOf]; omega
                                · have hyn := HBK.out (by rw [HCK.out, ← Bool.not_eq_true, isNum_iff]; exact hvn)
                                  have hxn := HN.out hyn
                                  subst hxn
                                  clear hyn
                                  go_wp2_with (first | (go_at_call 65; (first | refine (impl_IsNumber_yes _ _ (by omega)).mono ?_ | refine (impl_IsNumber_no _ _ (by omega)).mono ?_ | refine (impl_IsNumber _ _).mono ?_); rintro e w' ⟨rfl, rfl⟩))
                                  refine ret_MTT' (b := w.heap.size + 1) Try.results86 rfl (Kb hRV) rfl ?_
                                  exact MIBR.none_ (OR.empty' _ w1.heap.size (by simp [World.setCell]) (by simp [World.setCell]; omega)) Kw
                              · obtain rfl : C = k := by omega
                                have hkk : okQ C q t j i = true := hal.out
                                have hnx := Lib.hid (HDO.out hkk)
                                have HQS := Lib.hid (HOQ.out.st hiR hkk)
                                have HPB : Hid (∀ a c : Nat, a < R → c < C → -400000000 ≤ cbK q t j i C a c ∧ cbK q t j i C a c ≤ 400000000) := Lib.hid (fun a c ha hc => by
                                  unfold cbK
                                  by_cases hai : a = i ∧ c < C
                                  · rw [if_pos hai]; exact (isNum_iff _).1 (List.all_eq_true.1 hkk c (List.mem_range.2 hc))
                                  · rw [if_neg hai]; exact HOQ.out.bd a c ha hc)
                                clear hkk
                                have hiC : i * C + C ≤ n2 := by
                                  have h3 := Nat.mul_le_mul_right C (show i + 1 ≤ R by omega); rw [Nat.add_mul, Nat.one_mul] at h3; rw [HN2.out]; exact h3
                                go_wp2_with fail
                                refine (impl_row_own R C i g n2 cap2 _ Ks (by omega) (by omega) (by omega) (by omega) (by omega) hiC).mono ?_
                                rintro e w1 ⟨rfl, hb⟩
                                have hO_1 : BM w1 bO R C (some ⟨g, 0, none⟩) n2 cap2 := (Kb hO); have hRV_1 : BM w1 (w.heap.size + 1) 0 0 none 0 0 := (Kb hRV); have hown_1 : OR w1 (w.heap.size + 1 + 1) (.slice (some ⟨g, 0, none⟩) n2 cap2) (tb R C (cbK q t j i C)) := (Ko hown); have hP_1 : OR w1 (bO + 1) (.slice P t pc) ps := (Ko hP); have hbw_1 : Below w.heap.size w w1 := Kw; clear hb; clear hO hRV hown hP hbw oa ob oc of ol ra rb rc rf rl; have hO := hO_1; have hRV := hRV_1; have hown := hown_1; have hP := hP_1; have hbw := hbw_1; clear hO_1 hRV_1 hown_1 hP_1 hbw_1; obtain ⟨oa, ob, oc, of, ol⟩ := hO.mx; obtain ⟨ra, rb, rc, rf, rl⟩ := hRV.mx
                                go_wp2_with fail
                                refine (impl_makePrimitive_tb R C i g _ n2 cap2 (cbK q t j i C) (stQ C q t j i) rfl _ hown hiR (by omega) HPB.out).mono ?_
                                rintro e w5 ⟨rfl, hown_1, hgr_0, hsz_0⟩
                                have hO_1 : BM w5 bO R C (some ⟨g, 0, none⟩) n2 cap2 := (hO.grown hgr_0 (by simp [Value.ownBlock]; omega)); have hRV_1 : BM w5 (w.heap.size + 1) 0 0 none 0 0 := (hRV.grown hgr_0 (by simp [Value.ownBlock]; omega)); have hP_1 : OR w5 (bO + 1) (.slice P t pc) ps := (hP.kept hgr_0 (.inr (fun e => hP.ne_low (show g < bO + 1 by omega) e.symm))); have hbw_1 : Below w.heap.size w w5 := (hbw.trans (only_below hgr_0 (by omega) (by intro g' h; simp [Value.ownBlock] at h; omega))); clear hgr_0 hsz_0; clear hO hRV hown hP hbw oa ob oc of ol ra rb rc rf rl; have hO := hO_1; have hRV := hRV_1; have hown := hown_1; have hP := hP_1; have hbw := hbw_1; clear hO_1 hRV_1 hown_1 hP_1 hbw_1; obtain ⟨oa, ob, oc, of, ol⟩ := hO.mx; obtain ⟨ra, rb, rc, rf, rl⟩ := hRV.mx
                                go_wp2_with fail
                                go_roundw
                                case rel => exact ⟨i + 1, _, by go_num, by omega, HQS.out, hnx.out, hO, hRV, hown, hP, hbw⟩
                                case measure => simp only [intOf]; omega
                      · obtain rfl : R = i := by omega
                        have hyy : Y = some q := hrq.out.symm.trans (rowsQ_end _ _ _ _ _)
                        have hcx := Lib.hid (HS.out q hyy)
                        clear hyy
                        go_wp2_with (at_builtin; refine wpList_append_one _ rfl (.tmp 130) (.tmp 132) rfl (bO + 1) _ _ rfl (hP.alloc _) _ j rfl ?f1 ?f2 ?f3 ?_)
                        case f1 => simp [go_sem]
                        case f2 => have := hpl.out; omega
                        case f3 => simp; omega
                        intro v1 w5 hown1 hgr hat
                        have hO2 := (hO.alloc (.cells #[.int .i64 j] 3)).grown hgr (hP.ne_low (by omega))
                        have hR2 := (hRV.alloc (.cells #[.int .i64 j] 3)).grown hgr (hP.ne_low (by omega))
                        have hK2 := (hown.alloc (.cells #[.int .i64 j] 3)).kept hgr (.inr (hP.ne_low (show g < bO + 1 by omega)))
                        have hb2 := Below.trans (show Below w.heap.size w (wr.alloc (.cells #[.int .i64 j] 3)) from Kw) ((hP.alloc (.cells #[.int .i64 j] 3)).below_grown hgr (by simp; omega) |>.mono (by omega))
                        have hl1 : (ps ++ [(j : Int)]).length = t + 1 := by have := hpl.out; simp; omega
                        obtain ⟨P', pc', rfl⟩ := hown1.shape'
                        rw [hl1] at hown1 ⊢
                        have HL1 := Lib.hid hl1
                        clear hgr hat hl1
                        go_wp2
                        go_roundw
                        case rel => exact ⟨j + 1, _, t + 1, P', pc', _, by go_num, rfl, HL1.out, by omega, by omega, HOQ.out, hcx.out, hO2, hR2, hK2, hown1, hb2⟩
                        case measure => simp only [intOf]; omega
              · obtain rfl : k = R := by omega
                have hP0 : fnd f j (k - t) t = k := hfn.out.symm.trans (fnd_end f j k)
                have hcx := colsQ_no (C := C) (f := f) (ps := ps) hjC (by rw [hpl.out]; exact hP0)
                have hcol2 := Lib.hid (hcx.symm.trans hcol.out)
                clear hcx hP0
                go_wp2_with fail
                go_roundw
                case rel => exact ⟨j + 1, f, t, P, pc, ps, by go_num, rfl, hpl.out, by omega, by omega, HOK.out, hcol2.out, hO, hRV, hown, hP, hbw⟩
                case measure => simp only [intOf]; omega
          · obtain rfl : C = j := by omega
            have hX : X = some ⟨f, ps⟩ := hcol.out.symm.trans (colsQ_end _ _ _)
            subst hX
            have hap : Apart (.slice A2 n2 cap2) (.slice P t pc) := Apart.of_own HU.out hP.own (.inl (by omega))
            go_wp2_with fail
            refine ret_MTT' (b := w.heap.size + 1) Try.results86 rfl (Kb hRV) rfl ?_
            exact MIBR.some_ (OR.mono (B := w.heap.size + 1 + 1) (Ko hown) (by omega)) (OR.mono (B := bO + 1) (Ko hP) (by omega)) hap Kw
end Go.Proofs.Ytlggfmfelakadaa

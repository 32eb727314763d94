/-
  DERIVED. MinorGcd of the program.
-/
import Derived.Test.YtacjonkehcamgaaU5
import Derived.Test.YtacjonkehcamgaaU2
import Derived.Test.YtacjonkehcamgaaU3
namespace Go.Proofs.Ytacjonkehcamgaa
open Go.RowKit
set_option linter.unusedVariables false
set_option linter.unusedSimpArgs false
/-- A matrix filled row by row, up to (m, k). -/
def flF (f : Nat → Nat → Int) (m k : Nat) : Nat → Nat → Int := fun a b => if a < m ∨ a = m ∧ b < k then f a b else 0
theorem flF_zero (f : Nat → Nat → Int) : flF f 0 0 = fun _ _ => 0 := by funext a b; simp [flF]
theorem flF_step {f : Nat → Nat → Int} {m k : Nat} : upd (flF f m k) m k (f m k) = flF f m (k + 1) := by funext a b; unfold upd flF; grind
theorem flF_row {R C : Nat} {f : Nat → Nat → Int} {m : Nat} : tb R C (flF f m C) = tb R C (flF f (m + 1) 0) := tb_ext fun a b ha hb => by unfold flF; grind
theorem flF_end {R C : Nat} (f : Nat → Nat → Int) : tb R C (flF f R 0) = tb R C f := tb_ext fun a b ha hb => by unfold flF; grind
set_option maxRecDepth 100000 in
set_option maxHeartbeats 8000000 in
theorem impl_MinorGcd_no (r c k : Int) (A : Option Addr) (n cap : Nat) (xs : List Int) (w : World) {B : Nat} (h : RI w B A n xs) (hB : B ≤ w.heap.size) (hn : n ≤ 1048576)
    (hno : isMat r c xs = false ∨ (isMat r c xs = true ∧ 6 < r) ∨ (isMat r c xs = true ∧ r ≤ 6 ∧ 6 < c) ∨ (isMat r c xs = true ∧ r ≤ 6 ∧ c ≤ 6 ∧ k < 0) ∨ (isMat r c xs = true ∧ r ≤ 6 ∧ c ≤ 6 ∧ 0 ≤ k ∧ min r c < k)) :
    Calls Try.prog 61 #[.agg #[.int .i64 r, .int .i64 c, .slice A n cap], .int .i64 k] w (ODV none w) := by
  have H2 := Lib.hid (h.more hB)
  clear h
  rcases hno with hm | ⟨hm, h1⟩ | ⟨hm, h1, h2⟩ | ⟨hm, h1, h2, h3⟩ | ⟨hm, h1, h2, h3, h4⟩
  · have HM := Lib.hid hm
    clear hm
    go_enter Try.func61, Try.ntmps61
    go_wp2_with fail
    refine (impl_IsMatrix r c A n cap xs _ (C := w.heap.size) (Kr H2.out) Ks hn).mono ?_
    rw [HM.out]
    rintro e w1 ⟨rfl, hb1⟩
    have hsz1 := hb1.size
    (try simp at hsz1)
    have hM : BM w1 w.heap.size r c A n cap := Ka
    have hbw : Below w.heap.size w w1 := Kw
    obtain ⟨ma, mb, mc, mf, ml⟩ := hM.mx
    go_wp2_with fail
    go_ret2
    exact ⟨rfl, Kw⟩
  · have HM := Lib.hid hm
    clear hm
    go_enter Try.func61, Try.ntmps61
    go_wp2_with fail
    refine (impl_IsMatrix r c A n cap xs _ (C := w.heap.size) (Kr H2.out) Ks hn).mono ?_
    rw [HM.out]
    rintro e w1 ⟨rfl, hb1⟩
    have hsz1 := hb1.size
    (try simp at hsz1)
    have hM : BM w1 w.heap.size r c A n cap := Ka
    have hbw : Below w.heap.size w w1 := Kw
    obtain ⟨ma, mb, mc, mf, ml⟩ := hM.mx
    go_wp2_with fail
    go_ret2
    exact ⟨rfl, Kw⟩
  · have HM := Lib.hid hm
    clear hm
    go_enter Try.func61, Try.ntmps61
    go_wp2_with fail
    refine (impl_IsMatrix r c A n cap xs _ (C := w.heap.size) (Kr H2.out) Ks hn).mono ?_
    rw [HM.out]
    rintro e w1 ⟨rfl, hb1⟩
    have hsz1 := hb1.size
    (try simp at hsz1)
    have hM : BM w1 w.heap.size r c A n cap := Ka
    have hbw : Below w.heap.size w w1 := Kw
    obtain ⟨ma, mb, mc, mf, ml⟩ := hM.mx
    go_wp2_with fail
    go_ret2
    exact ⟨rfl, Kw⟩
  · have HM := Lib.hid hm
    clear hm
    go_enter Try.func61, Try.ntmps61
    go_wp2_with fail
    refine (impl_IsMatrix r c A n cap xs _ (C := w.heap.size) (Kr H2.out) Ks hn).mono ?_
    rw [HM.out]
    rintro e w1 ⟨rfl, hb1⟩
    have hsz1 := hb1.size
    (try simp at hsz1)
    have hM : BM w1 w.heap.size r c A n cap := Ka
    have hbw : Below w.heap.size w w1 := Kw
    obtain ⟨ma, mb, mc, mf, ml⟩ := hM.mx
    go_wp2_with fail
    all_goals go_ret2
    all_goals exact ⟨rfl, Kw⟩
  · have HM := Lib.hid hm
    clear hm
    go_enter Try.func61, Try.ntmps61
    go_wp2_with fail
    refine (impl_IsMatrix r c A n cap xs _ (C := w.heap.size) (Kr H2.out) Ks hn).mono ?_
    rw [HM.out]
    rintro e w1 ⟨rfl, hb1⟩
    have hsz1 := hb1.size
    (try simp at hsz1)
    have hM : BM w1 w.heap.size r c A n cap := Ka
    have hbw : Below w.heap.size w w1 := Kw
    obtain ⟨ma, mb, mc, mf, ml⟩ := hM.mx
    go_wp2_with fail
    all_goals go_ret2
    all_goals exact ⟨rfl, Kw⟩
set_option maxRecDepth 100000 in
set_option maxHeartbeats 8000000 in
theorem impl_MinorGcd_yes (r c k : Int) (A : Option Addr) (n cap : Nat) (xs : List Int) (w : World) {B : Nat} (h : RI w B A n xs) (hB : B ≤ w.heap.size) (hn : n ≤ 1048576)
    (hm : isMat r c xs = true) (h1 : r ≤ 6) (h2 : c ≤ 6) (h3 : 0 ≤ k) (h4 : k ≤ min r c) :
    Calls Try.prog 61 #[.agg #[.int .i64 r, .int .i64 c, .slice A n cap], .int .i64 k] w (ODV (mgK (mgD r c xs k.toNat) ((chL r k.toNat).length * (chL c k.toNat).length)) w) := by
  have H2 := Lib.hid (h.more hB)
  clear h
  have M := isMat_iff.1 hm
  obtain ⟨R, rfl⟩ := nat_of M.r0
  obtain ⟨C, rfl⟩ := nat_of M.c0
  obtain ⟨Kn, rfl⟩ := nat_of h3
  have HLX : Hid (xs.length = R * C) := Lib.hid (by have := M.len; rw [← Int.natCast_mul] at this; omega)
  have HNU := Lib.hid M.num
  have HM := Lib.hid hm
  have hR6 : R ≤ 6 := by omega
  have hC6 : C ≤ 6 := by omega
  have hKR : Kn ≤ R := by omega
  have hKC : Kn ≤ C := by omega
  simp only [Int.toNat_natCast]
  have HX1 := Lib.hid (chL_mem (n := (R : Int)) (Int.natCast_nonneg R) Kn)
  have HX2 := Lib.hid (chL_mem (n := (C : Int)) (Int.natCast_nonneg C) Kn)
  have HN1 : Hid ((chL (R : Int) Kn).length ≤ 46656) := Lib.hid (Nat.le_trans (chL_len hR6 Kn) (pow6 (by omega)))
  have HN2 : Hid ((chL (C : Int) Kn).length ≤ 46656) := Lib.hid (Nat.le_trans (chL_len hC6 Kn) (pow6 (by omega)))
  have HDB : Hid (∀ q d, mgD R C xs Kn q = some d → -400000000 ≤ d ∧ d ≤ 400000000) := Lib.hid (fun q d hd => detL_num _ _ _ hd)
  have HDQ : Hid (∀ i j, j < (chL (C : Int) Kn).length → detL Kn (tb Kn Kn (pF xs C ((chL (R : Int) Kn).getD i []) ((chL (C : Int) Kn).getD j []))) = mgD R C xs Kn (i * (chL (C : Int) Kn).length + j)) := Lib.hid (fun i j hj => by
    obtain ⟨e1, e2⟩ := idx_div (i := i) hj
    unfold mgD
    rw [e1, e2, Int.toNat_natCast])
  have HLN : Hid (R * C ≤ n ∧ n ≤ R * C) := Lib.hid (by have := H2.out.len; have := HLX.out; omega)
  have HCEL : Hid (∀ i j, i < (chL (R : Int) Kn).length → j < (chL (C : Int) Kn).length → ∀ a b : Nat, a < Kn → b < Kn → ∀ (w' : World) (B' : Nat), RI w' B' A n xs → B' ≤ w'.heap.size →
      Calls Try.prog 117 #[.agg #[.int .i64 R, .int .i64 C, .slice A n cap], .int .i64 (((chL (R : Int) Kn).getD i []).getD a 0), .int .i64 (((chL (C : Int) Kn).getD j []).getD b 0)] w' (BV (.int .i64 (pF xs C ((chL (R : Int) Kn).getD i []) ((chL (C : Int) Kn).getD j []) a b)) w')) := Lib.hid (fun i j hi hj a b ha hb w' B' k1 k2 => by
    have a1 := HX1.out _ (mem_getDL hi)
    have a2 := HX2.out _ (mem_getDL hj)
    have e2 : (R : Int) * (C : Int) = ((R * C : Nat) : Int) := by rw [Int.natCast_mul]
    have e3 := HLN.out
    obtain ⟨p1, p2, p3⟩ := pF_idx (R := R) (C := C) (by omega) (by omega) (a1.2 _ (mem_getD (k := a) (by omega))) (a2.2 _ (mem_getD (k := b) (by omega)))
    exact impl_at R C _ _ A n cap xs w' k1 k2 p1 p2 (by omega))
  have HDET : Hid (∀ i j, j < (chL (C : Int) Kn).length → ∀ (w' : World) (A5 : Option Addr) (n5 c5 : Nat) (B5 : Nat), RI w' B5 A5 n5 (tb Kn Kn (pF xs C ((chL (R : Int) Kn).getD i []) ((chL (C : Int) Kn).getD j []))) → B5 ≤ w'.heap.size →
      Calls Try.prog 160 #[.agg #[.int .i64 Kn, .int .i64 Kn, .slice A5 n5 c5]] w' (DetR (mgD R C xs Kn (i * (chL (C : Int) Kn).length + j)) w')) := Lib.hid (fun i j hj w' A5 n5 c5 B5 k1 k2 => by
    rw [← HDQ.out i j hj]
    exact impl_determinant Kn A5 n5 c5 _ w' k1 k2 (tb_len _ _ _) (by omega) (pF_num HNU.out))
  have HLE1 : Hid (∀ i, i < (chL (R : Int) Kn).length → ((chL (R : Int) Kn).getD i []).length = Kn) := Lib.hid (fun i hi => (HX1.out _ (mem_getDL hi)).1)
  have HLE2 : Hid (∀ i, i < (chL (C : Int) Kn).length → ((chL (C : Int) Kn).getD i []).length = Kn) := Lib.hid (fun i hi => (HX2.out _ (mem_getDL hi)).1)
  have HS1 := Lib.hid (fun w' => impl_choices R hR6 Kn w' (by omega))
  have HS2 := Lib.hid (fun w' => impl_choices C hC6 Kn w' (by omega))
  have hK6 : Kn ≤ 6 := by omega
  have hmin1 : ((R : Int) < (Kn : Int)) = False := by simp; omega
  have hmin2 : ((C : Int) < (Kn : Int)) = False := by simp; omega
  clear h1 h2 h3 h4 hm M HX1 HX2 HLX HNU HDQ HLN
  generalize mgD (R : Int) (C : Int) xs Kn = D at *
  generalize hF : (fun i j => pF xs C ((chL (R : Int) Kn).getD i []) ((chL (C : Int) Kn).getD j [])) = F at *
  have HF : Hid (∀ i j, pF xs C ((chL (R : Int) Kn).getD i []) ((chL (C : Int) Kn).getD j []) = F i j) := Lib.hid (fun i j => by rw [← hF])
  clear hF
  simp only [HF.out] at HCEL HDET
  clear HF
  generalize chL (R : Int) Kn = L1 at *
  generalize chL (C : Int) Kn = L2 at *
  obtain ⟨N1, hN1⟩ : ∃ m, m = L1.length := ⟨_, rfl⟩
  obtain ⟨N2, hN2⟩ : ∃ m, m = L2.length := ⟨_, rfl⟩
  rw [← hN1, ← hN2]
  rw [← hN1] at HCEL HN1 HLE1
  rw [← hN2] at HCEL HDET HN2 HLE2
  have HE1 := Lib.hid hN1
  have HE2 := Lib.hid hN2
  have hN2b := HN2.out
  clear hN1 hN2
  go_enter Try.func61, Try.ntmps61
  go_wp2_with fail
  refine (impl_IsMatrix R C A n cap xs _ (C := w.heap.size) (Kr H2.out) Ks hn).mono ?_
  rw [HM.out]
  rintro e w1 ⟨rfl, hb1⟩
  have hsz1 := hb1.size
  (try simp at hsz1)
  have hM : BM w1 w.heap.size R C A n cap := Ka
  have hbw : Below w.heap.size w w1 := Kw
  obtain ⟨ma, mb, mc, mf, ml⟩ := hM.mx
  have hq6 : (6 < (R : Int)) = False := by simp; omega
  go_wp2_with fail
  all_goals (
    refine (HS1.out _).mono ?_
    rintro e wB ⟨A1, n1, c1, vs1, rfl, hO1, hR1, hb2⟩
    have hsz2 := hb2.size
    have hM2 : BM wB w.heap.size R C A n cap := Kb hM
    have hbw2 : Below w.heap.size w wB := Kw
    obtain rfl : n1 = N1 := by have := hO1.lenN hR1; have := HE1.out; omega
    have HP1 : Hid (∀ j, j < n1 → ∃ g A' m c', A1 = some ⟨g, 0, none⟩ ∧ g < wB.heap.size ∧ wB.cell? ⟨g, j, none⟩ = some (.slice A' m c') ∧ RI wB wB.heap.size A' m (L1.getD j [])) := Lib.hid (fun j hj => hO1.row hR1 (by have := HE1.out; omega))
    clear ma mb mc mf ml
    clear hM hbw hb1 hb2 hO1 hR1 HS1
    have hM := hM2
    clear hM2
    obtain ⟨ma, mb, mc, mf, ml⟩ := hM.mx
    have hsB := hbw2.size
    have hbq : Below wB.heap.size wB wB := Below.refl _ _
    have HB0 := Lib.hid hbw2
    have HD0 : Hid (mgK D (0 * N2) = some 0) := Lib.hid (by rw [Nat.zero_mul]; rfl)
    have hn1b : n1 ≤ 46656 := by have := HN1.out; omega
    clear hbw2 HN1 HN2
    go_wp2_with fail
    go_loopg [6, 47] (n1 + 1) (fun gn vg vi wr => ∃ (i : Nat) (g : Int), vi = .int .i64 i ∧ vg = .int .i64 g ∧ i ≤ n1 ∧ n1 - i < gn ∧ (0 ≤ g ∧ g ≤ 400000000) ∧ Hid (mgK D (i * N2) = some g) ∧ BM wr w.heap.size R C A n cap ∧ Below wB.heap.size wB wr)
    case atStart => exact ⟨0, 0, rfl, rfl, Nat.zero_le _, by omega, by omega, HD0, hM, hbq⟩
    case round =>
      clear ma mb mc mf ml
      clear hM hbq HD0
      obtain ⟨i, g, rfl, rfl, hi, hgk, hgb, HG, hM, hbq⟩ := hrel
      obtain ⟨ma, mb, mc, mf, ml⟩ := hM.mx
      by_cases hiN : i < n1
      · obtain ⟨g1, Ar, nr, capr, rfl, hg1, k1, k2⟩ := HP1.out i hiN
        have cx := (hbq.cell (p := ⟨g1, i, none⟩) (by simpa using hg1)).trans k1
        have HI1 := Lib.hid (k2.below hbq (Nat.le_refl _))
        have hr1 := HLE1.out i hiN
        have hr2 : Kn = nr := by have := k2.len; omega
        have HLr := Lib.hid hr1
        have hsq := hbq.size
        have HG0 : Hid (mgK D (i * N2 + 0) = some g) := Lib.hid HG.out
        obtain ⟨gO, rfl⟩ : ∃ gO : Nat, gO = gk := ⟨_, rfl⟩
        have HCE2 := Lib.hid (fun j hj => HCEL.out i j hiN hj)
        have HDE2 := Lib.hid (fun j hj => HDET.out i j hj)
        have HLT : Hid (∀ j, j < N2 → i * N2 + j < n1 * N2) := Lib.hid (fun j hj => idx_nat hiN hj)
        clear k1 k2 HG hr1
        generalize L1.getD i [] = rs at *
        generalize F i = F1 at *
        subst hr2
        go_wp2_with fail
        refine (HS2.out _).mono ?_
        rintro e wC ⟨A2, n2, c2, vs2, rfl, hO2, hR2, hb3⟩
        have hsz3 := hb3.size
        obtain rfl : n2 = N2 := by have := hO2.lenN hR2; have := HE2.out; omega
        have hM2 : BM wC w.heap.size R C A n cap := Kb hM
        have hbq2 : Below wB.heap.size wB wC := Kw
        have HP2 : Hid (∀ j, j < n2 → ∃ g A' m c', A2 = some ⟨g, 0, none⟩ ∧ g < wC.heap.size ∧ wC.cell? ⟨g, j, none⟩ = some (.slice A' m c') ∧ RI wC wC.heap.size A' m (L2.getD j [])) := Lib.hid (fun j hj => hO2.row hR2 (by have := HE2.out; omega))
        have HI1 := Lib.hid ((HI1.out.below hb3 (by omega)).more (show wB.heap.size ≤ wC.heap.size by omega))
        have HBC := Lib.hid hbq2
        clear ma mb mc mf ml
        clear hM hbq hb3 hO2 hR2 cx
        have hM := hM2
        have hbc : Below wC.heap.size wC wC := Below.refl _ _
        clear hM2 hbq2
        obtain ⟨ma, mb, mc, mf, ml⟩ := hM.mx
        go_wp2_with fail
        go_loopg [6, 56] (n2 + 1) (fun gn vg vj wr => ∃ (j : Nat) (g : Int), vj = .int .i64 j ∧ vg = .int .i64 g ∧ j ≤ n2 ∧ n2 - j < gn ∧ (0 ≤ g ∧ g ≤ 400000000) ∧ Hid (mgK D (i * n2 + j) = some g) ∧ BM wr w.heap.size R C A n cap ∧ Below wC.heap.size wC wr)
        case atStart => exact ⟨0, g, rfl, rfl, Nat.zero_le _, by omega, hgb, HG0, hM, hbc⟩
        case round =>
          clear ma mb mc mf ml
          clear hM hbc HG0 hgb
          obtain ⟨j, g, rfl, rfl, hj, hgk, hgb, HG, hM, hbc⟩ := hrel
          obtain ⟨ma, mb, mc, mf, ml⟩ := hM.mx
          have hsr := hbc.size
          by_cases hjN : j < n2
          · obtain ⟨g2, Ac, nc, capc, rfl, hg2, k1, k2⟩ := HP2.out j hjN
            have cy := (hbc.cell (p := ⟨g2, j, none⟩) (by simpa using hg2)).trans k1
            have HIY := Lib.hid ((k2.below hbc (Nat.le_refl _)).more hsr)
            have HIX := Lib.hid ((HI1.out.below hbc (Nat.le_refl _)).more hsr)
            have HCE := Lib.hid (HCE2.out j hjN)
            have HDE := Lib.hid (HDE2.out j hjN)
            have HLTJ := Lib.hid (HLT.out j hjN)
            have hr1 := HLE2.out j hjN
            have hr2 : Kn = nc := by have := k2.len; omega
            clear k1 k2 hr1
            generalize L2.getD j [] = cs at *
            generalize F1 j = f at *
            subst hr2
            obtain ⟨wD, rfl⟩ : ∃ wo : World, wo = wr := ⟨_, rfl⟩
            have HBA : Hid (Below w.heap.size w wD) := Lib.hid ((HB0.out.trans (HBC.out.mono (by omega))).trans (hbc.mono (by omega)))
            have HRW : Hid (RI wD w.heap.size A n xs) := Lib.hid (H2.out.below HBA.out (Nat.le_refl _))
            have HBE := Lib.hid hbc
            have hsz4 := HBA.out.size
            have hKK : Kn * Kn ≤ 6 * 6 := Nat.mul_le_mul hK6 hK6
            clear hbc
            go_wp2_with fail
            refine (impl_newMatrix Kn Kn _ (by omega) (by omega) (by omega)).mono ?_
            rintro e wN ⟨Ao, no, co, rfl, how0, hb5⟩
            have hsz5 := hb5.size
            generalize hbO : wN.heap.size = bO at *
            have hM2 : BM (wN.alloc (.cells #[.int .i64 Kn, .int .i64 Kn, .slice Ao no co] 26)) w.heap.size R C A n cap := Kb hM
            have hO : BM (wN.alloc (.cells #[.int .i64 Kn, .int .i64 Kn, .slice Ao no co] 26)) bO Kn Kn Ao no co := Ka
            have hown : OR (wN.alloc (.cells #[.int .i64 Kn, .int .i64 Kn, .slice Ao no co] 26)) wD.heap.size (.slice Ao no co) (tb Kn Kn (flF f 0 0)) := by
              rw [flF_zero, tb_zeros]; exact (OR.mono (xs := List.replicate (Kn * Kn) 0) how0 (by omega)).alloc _
            have hbd : Below wD.heap.size wD (wN.alloc (.cells #[.int .i64 Kn, .int .i64 Kn, .slice Ao no co] 26)) := Kw
            have HU : Hid (Own (.slice Ao no co) wD.heap.size bO) := Lib.hid (by rw [← hbO]; exact (OR.own (xs := List.replicate (Kn * Kn) 0) how0).wide (by omega) (Nat.le_refl _))
            have hbO2 : wD.heap.size ≤ bO := by omega
            clear ma mb mc mf ml
            clear hM how0 hb5 cy
            have hM := hM2
            clear hM2
            obtain ⟨ma, mb, mc, mf, ml⟩ := hM.mx
            obtain ⟨oa, ob, oc, of, ol⟩ := hO.mx
            go_wp2_with fail
            generalize hwo : wN.alloc (.cells #[.int .i64 Kn, .int .i64 Kn, .slice Ao no co] 26) = wo at *
            clear hwo
            go_loopw [65] (fun v wr => ∃ a : Nat, v = .int .i64 a ∧ a ≤ Kn ∧ BM wr w.heap.size R C A n cap ∧ BM wr bO Kn Kn Ao no co ∧ OR wr wD.heap.size (.slice Ao no co) (tb Kn Kn (flF f a 0)) ∧ Below wD.heap.size wD wr) (fun v _ => Kn - (intOf v).toNat)
            case atStart => exact ⟨0, rfl, Nat.zero_le _, hM, hO, hown, hbd⟩
            case round =>
              clear ma mb mc mf ml
              clear oa ob oc of ol
              clear hM hO hown hbd
              obtain ⟨a, rfl, ha, hM, hO, hown, hbd⟩ := hrel
              obtain ⟨ma, mb, mc, mf, ml⟩ := hM.mx
              obtain ⟨oa, ob, oc, of, ol⟩ := hO.mx
              by_cases haK : a < Kn
              · go_wp2_with fail
                obtain ⟨wo2, rfl⟩ : ∃ wo : World, wo = wr := ⟨_, rfl⟩
                go_loopw [70] (fun v wr => ∃ b : Nat, v = .int .i64 b ∧ b ≤ Kn ∧ BM wr w.heap.size R C A n cap ∧ BM wr bO Kn Kn Ao no co ∧ OR wr wD.heap.size (.slice Ao no co) (tb Kn Kn (flF f a b)) ∧ Below wD.heap.size wD wr) (fun v _ => Kn - (intOf v).toNat)
                case atStart => exact ⟨0, rfl, Nat.zero_le _, hM, hO, hown, hbd⟩
                case round =>
                  clear ma mb mc mf ml
                  clear oa ob oc of ol
                  clear hM hO hown hbd
                  obtain ⟨b, rfl, hb, hM, hO, hown, hbd⟩ := hrel
                  obtain ⟨ma, mb, mc, mf, ml⟩ := hM.mx
                  obtain ⟨oa, ob, oc, of, ol⟩ := hO.mx
                  by_cases hbK : b < Kn
                  · obtain ⟨bx, ox, rfl, hbx, hcx⟩ := HIX.out.2 (by omega)
                    obtain ⟨by_, oy, rfl, hby, hcy⟩ := HIY.out.2 (by omega)
                    have HCX := Lib.hid (hcx a (by omega))
                    have HCY := Lib.hid (hcy b (by omega))
                    have HCL : Hid (∀ w', RI w' w.heap.size A n xs → w.heap.size ≤ w'.heap.size → Calls Try.prog 117 #[.agg #[.int .i64 R, .int .i64 C, .slice A n cap], .int .i64 (rs.getD a 0), .int .i64 (cs.getD b 0)] w' (BV (.int .i64 (f a b)) w')) := Lib.hid (fun w' k1 k2 => HCE.out a b haK hbK w' _ k1 k2)
                    have HST := Lib.hid (flF_step (f := f) (m := a) (k := b))
                    have hsd := hbd.size
                    clear hcx hcy
                    generalize f a b = z at *
                    generalize rs.getD a 0 = x at *
                    generalize cs.getD b 0 = y at *
                    have cx := (hbd.cell (p := ⟨bx, ox + a, none⟩) (by simpa using hbx)).trans HCX.out
                    have cy := (hbd.cell (p := ⟨by_, oy + b, none⟩) (by simpa using hby)).trans HCY.out
                    go_wp2_with fail
                    ((refine wp_region_held_drew (S := (fun w' => w'.cell? ⟨w.heap.size, 0, none⟩ = some (.int .i64 R) ∧ w'.cell? ⟨w.heap.size, 1, none⟩ = some (.int .i64 C) ∧ w'.cell? ⟨w.heap.size, 2, none⟩ = some (.slice A n cap) ∧ w'.cell? ⟨bO, 0, none⟩ = some (.int .i64 Kn) ∧ w'.cell? ⟨bO, 1, none⟩ = some (.int .i64 Kn) ∧ w'.cell? ⟨bO, 2, none⟩ = some (.slice Ao no co) ∧ w'.cell? ⟨bx, ox + a, none⟩ = some (.int .i64 x) ∧ w'.cell? ⟨by_, oy + b, none⟩ = some (.int .i64 y))) (by kernel_rfl) ?_ (fun hHeld => ?_)); ((focus ((try dsimp only); (go_keep)))); ((refine tk_ (i := 0) (v := ?_) (y := Or.inl ⟨by rfl, ?_⟩) (h := ?_); rotate_left; (focus (((intro w hSw; (try dsimp only at hSw); go_simp) <;> (try with_reducible rfl)); done)); (try simp only [Act.put, p1_, p2_, p3_]))); ((refine tk_ (i := 1) (v := ?_) (y := Or.inl ⟨by rfl, ?_⟩) (h := ?_); rotate_left; (focus (((intro w hSw; (try dsimp only at hSw); go_simp) <;> (try with_reducible rfl)); done)); (try simp only [Act.put, p1_, p2_, p3_]))); ((refine tk_ (i := 2) (v := ?_) (y := Or.inl ⟨by rfl, ?_⟩) (h := ?_); rotate_left; (focus (((intro w hSw; (try dsimp only at hSw); go_simp) <;> (try with_reducible rfl)); done)); (try simp only [Act.put, p1_, p2_, p3_]))); ((refine tk_ (i := 3) (v := ?_) (y := Or.inl ⟨by rfl, ?_⟩) (h := ?_); rotate_left; (focus (((intro w hSw; (try dsimp only at hSw); go_simp) <;> (try with_reducible rfl)); done)); (try simp only [Act.put, p1_, p2_, p3_]))); ((refine tk_ (i := 4) (v := ?_) (y := Or.inl ⟨by rfl, ?_⟩) (h := ?_); rotate_left; (focus (((intro w hSw; (try dsimp only at hSw); go_simp) <;> (try with_reducible rfl)); done)); (try simp only [Act.put, p1_, p2_, p3_]))); ((refine tk_ (i := 5) (v := ?_) (y := Or.inl ⟨by rfl, ?_⟩) (h := ?_); rotate_left; (focus (((intro w hSw; (try dsimp only at hSw); go_simp) <;> (try with_reducible rfl)); done)); (try simp only [Act.put, p1_, p2_, p3_]))); ((refine tk_ (i := 6) (v := ?_) (y := Or.inl ⟨by rfl, ?_⟩) (h := ?_); rotate_left; (focus (((intro w hSw; (try dsimp only at hSw); go_simp) <;> (try with_reducible rfl)); done)); (try simp only [Act.put, p1_, p2_, p3_]))); ((refine tk_ (i := 7) (v := ?_) (y := Or.inl ⟨by rfl, ?_⟩) (h := ?_); rotate_left; (focus (((intro w hSw; (try dsimp only at hSw); go_simp) <;> (try with_reducible rfl)); done)); (try simp only [Act.put, p1_, p2_, p3_]))); ((refine tk_ (i := 8) (v := ?_) (y := Or.inl ⟨by rfl, ?_⟩) (h := ?_); rotate_left; (focus (((intro w hSw; (try dsimp only at hSw); go_simp) <;> (try with_reducible rfl)); done)); (try simp only [Act.put, p1_, p2_, p3_]))); ((refine tk_ (i := 9) (v := ?_) (y := Or.inl ⟨by rfl, ?_⟩) (h := ?_); rotate_left; (focus (((intro w hSw; (try dsimp only at hSw); go_simp) <;> (try with_reducible rfl)); done)); (try simp only [Act.put, p1_, p2_, p3_]))); ((refine tk_ (i := 10) (v := ?_) (y := Or.inl ⟨by rfl, ?_⟩) (h := ?_); rotate_left; (focus (((intro w hSw; (try dsimp only at hSw); go_simp) <;> (try with_reducible rfl)); done)); (try simp only [Act.put, p1_, p2_, p3_]))); ((refine tk_ (i := 11) (v := ?_) (y := Or.inl ⟨by rfl, ?_⟩) (h := ?_); rotate_left; (focus (((intro w hSw; (try dsimp only at hSw); go_simp) <;> (try with_reducible rfl)); done)); (try simp only [Act.put, p1_, p2_, p3_]))); ((refine wpAnyH_ready (rs := [12]) (by kernel_rfl) (by simp) ?_; refine AllReadyH.cons (by simp only [e1_, e2_, e3_]; try rfl) (fun K hK => ?_) AllReadyH.nil; go_simp; (go_at_call 117; refine (HCL.out _ (Kr HRW.out) Ks).mono ?_; rintro e w5 ⟨rfl, hb5⟩; have hs5 := hb5.size; (try simp at hs5); (have hM_1 : BM w5 w.heap.size R C A n cap := Kb hM); (have hO_1 : BM w5 bO Kn Kn Ao no co := Kb hO); (have hown_1 : OR w5 wD.heap.size (.slice Ao no co) (tb Kn Kn (flF f a b)) := Ko hown); (have hbd_1 : Below wD.heap.size wD w5 := Kw); clear ma mb mc mf ml; clear oa ob oc of ol; clear hM hO hown hbd cx cy; (have hM := hM_1); (have hO := hO_1); (have hown := hown_1); (have hbd := hbd_1); clear hM_1 hO_1 hown_1 hbd_1; obtain ⟨ma, mb, mc, mf, ml⟩ := hM.mx; obtain ⟨oa, ob, oc, of, ol⟩ := hO.mx; (have cx := (hbd.cell (p := ⟨bx, ox + a, none⟩) (by simpa using hbx)).trans HCX.out); (have cy := (hbd.cell (p := ⟨by_, oy + b, none⟩) (by simpa using hby)).trans HCY.out)); (try go_wp2_with fail); refine hK.out _ _ ?_ (fun hHeld => ?_); (focus ((try dsimp only); (go_keep))); clear hK K; (try simp only [Act.put, p1_, p2_, p3_]))); ((refine wpAnyH_ready (rs := [13]) (by kernel_rfl) (by simp) ?_; refine AllReadyH.cons (by simp only [e1_, e2_, e3_]; try rfl) (fun K hK => ?_) AllReadyH.nil; go_simp; (go_at_call 125; refine (impl_set_tb Kn Kn a b z Ao no co (flF f a b) (flF f a (b + 1)) HST.out _ (B := wD.heap.size) (Ko hown) (by omega) (by omega) haK hbK).mono ?_; rintro e w6 ⟨rfl, hown_1, hgr, hs6⟩; (try simp at hs6); have hM_1 : BM w6 w.heap.size R C A n cap := BX.keptOwn (Kb hM) hgr HU.out (by omega); have hO_1 : BM w6 bO Kn Kn Ao no co := BX.keptOwn (Kb hO) hgr HU.out (by omega); have hbd_1 : Below wD.heap.size wD w6 := Below.trans Kw (below_keptOwn hgr HU.out (Nat.le_refl _) Ks); clear hgr; clear ma mb mc mf ml; clear oa ob oc of ol; clear hM hO hown hbd cx cy; (have hM := hM_1); (have hO := hO_1); (have hown := hown_1); (have hbd := hbd_1); clear hM_1 hO_1 hown_1 hbd_1; obtain ⟨ma, mb, mc, mf, ml⟩ := hM.mx; obtain ⟨oa, ob, oc, of, ol⟩ := hO.mx; (have cx := (hbd.cell (p := ⟨bx, ox + a, none⟩) (by simpa using hbx)).trans HCX.out); (have cy := (hbd.cell (p := ⟨by_, oy + b, none⟩) (by simpa using hby)).trans HCY.out)); (try go_wp2_with fail); refine hK.out _ _ ?_ (fun hHeld => ?_); (focus ((try dsimp only); (go_keep))); clear hK K; (try simp only [Act.put, p1_, p2_, p3_]))); (refine wpAnyH_done (by kernel_rfl) ?_ _))
                    go_wp2_with fail
                    go_roundw
                    case rel => exact ⟨b + 1, by go_num, by omega, Kb hM, Kb hO, Ko hown, Kw⟩
                    case measure => simp only [intOf]; omega
                  · obtain rfl : b = Kn := by omega
                    have hown2 := hown.as flF_row
                    clear hown
                    go_wp2_with fail
                    go_roundw
                    case rel => exact ⟨a + 1, by go_num, by omega, Kb hM, Kb hO, Ko hown2, Kw⟩
                    case measure => simp only [intOf]; omega
              · obtain rfl : a = Kn := by omega
                have hown2 := hown.as (flF_end f)
                clear hown
                rcases hd : D (i * n2 + j) with _ | d
                · have HX := Lib.hid (mgK_bad hd _ HLTJ.out)
                  rw [hd] at HDE
                  clear hd HG
                  go_wp2_with fail
                  refine (HDE.out _ _ _ _ _ (OR.reads (xs := tb a a f) (Ko hown2)) (Nat.le_refl _)).mono ?_
                  rintro e w7 ⟨⟨v, rfl, -⟩, hb7⟩
                  have hb8 : Below wD.heap.size wD w7 := Kw
                  go_wp2_with fail
                  go_ret2
                  rw [HX.out]
                  exact ⟨rfl, HBA.out.trans (Below.mono hb8 hsz4)⟩
                · have hdb := HDB.out _ _ hd
                  have HG2 := Lib.hid (mgK_next HG.out hd)
                  rw [hd] at HDE
                  have hgd := gcd_bdM hgb hdb
                  clear hd HG
                  go_wp2_with fail
                  refine (HDE.out _ _ _ _ _ (OR.reads (xs := tb a a f) (Ko hown2)) (Nat.le_refl _)).mono ?_
                  rintro e w7 ⟨⟨v, rfl, hv⟩, hb7⟩
                  obtain rfl := hv d rfl
                  have hM7 : BM w7 w.heap.size R C A n cap := Kb hM
                  have hb8 : Below wD.heap.size wD w7 := Kw
                  have hb9 : Below wC.heap.size wC w7 := HBE.out.trans (Below.mono hb8 (by omega))
                  clear hv
                  go_wp2_with fail
                  refine (impl_gcd g v _ (by omega) (by omega) (by omega) (by omega)).mono ?_
                  rintro e w9 ⟨rfl, nn, rfl⟩
                  go_wp2_with fail
                  go_roundg (gk - 1)
                  case measure => omega
                  case rel => exact ⟨j + 1, _, by go_num, rfl, by omega, by omega, hgd, HG2, Kb hM7, by first | exact hb9 | exact below_drewN hb9 _⟩
          · obtain rfl : j = n2 := by omega
            have HG2 : Hid (mgK D ((i + 1) * j) = some g) := Lib.hid (by rw [Nat.add_mul, Nat.one_mul]; exact HG.out)
            have hbf := HBC.out.trans (hbc.mono (show wB.heap.size ≤ wC.heap.size by omega))
            go_wp2_with fail
            go_roundg (gO - 1)
            case measure => omega
            case rel => exact ⟨i + 1, g, by go_num, rfl, by omega, by omega, hgb, HG2, hM, hbf⟩
      · obtain rfl : i = n1 := by omega
        go_wp2_with fail
        go_ret2
        rw [HG.out]
        exact ⟨rfl, HB0.out.trans (Below.mono hbq (by omega))⟩
  )
theorem impl_MinorGcd (r c k : Int) (A : Option Addr) (n cap : Nat) (xs : List Int) (w : World) {B : Nat} (h : RI w B A n xs) (hB : B ≤ w.heap.size) (hn : n ≤ 1048576) :
    Calls Try.prog 61 #[.agg #[.int .i64 r, .int .i64 c, .slice A n cap], .int .i64 k] w (ODV (mgO r c xs k) w) := by
  rcases mg_cases r c xs k with ⟨e, h1⟩ | ⟨e, h1⟩ | ⟨e, h1⟩ | ⟨e, h1⟩ | ⟨e, h1⟩ | ⟨e, h1, h2, h3, h4, h5⟩
  · rw [e]; exact impl_MinorGcd_no r c k A n cap xs w h hB hn (.inl h1)
  · rw [e]; exact impl_MinorGcd_no r c k A n cap xs w h hB hn (.inr (.inl h1))
  · rw [e]; exact impl_MinorGcd_no r c k A n cap xs w h hB hn (.inr (.inr (.inl h1)))
  · rw [e]; exact impl_MinorGcd_no r c k A n cap xs w h hB hn (.inr (.inr (.inr (.inl h1))))
  · rw [e]; exact impl_MinorGcd_no r c k A n cap xs w h hB hn (.inr (.inr (.inr (.inr h1))))
  · rw [e]; exact impl_MinorGcd_yes r c k A n cap xs w h hB hn h1 h2 h3 h4 h5
end Go.Proofs.Ytacjonkehcamgaa

/-
  DERIVED. RankMod and DeterminantMod of the program.
-/
import Derived.Test.YtacjonkehcamgaaZS
import Derived.Test.YtacjonkehcamgaaElimq
import Derived.Test.YtacjonkehcamgaaRedq
import Derived.Test.YtacjonkehcamgaaAppend2
namespace Go.Proofs.Ytacjonkehcamgaa
open Go.RowKit
set_option linter.unusedVariables false
set_option linter.unusedSimpArgs false
/-- The end of the elimination over residues. -/
def rmF (c : Int) (xs : List Int) (p : Int) : Nat → Nat → Int := fun i j => cel (redL xs p) c.toNat i j
def rmS (r c : Int) (xs : List Int) (p : Int) : ESt := runE r.toNat c.toNat p (rmF c xs p)
def rankM (r c : Int) (xs : List Int) (p : Int) : Int := if redB r c xs p then ((rmS r c xs p).t : Int) else 0
def detMB (r c : Int) (xs : List Int) (p : Int) : Bool := redB r c xs p && decide (r = c)
def detM (r c : Int) (xs : List Int) (p : Int) : Int := if detMB r c xs p then (if ((rmS r c xs p).t : Int) < r then 0 else (rmS r c xs p).d) else 0
theorem redL_at (xs : List Int) (p : Int) (hp : 2 ≤ p) (k : Nat) : 0 ≤ (redL xs p).getD k 0 ∧ (redL xs p).getD k 0 < p := by
  unfold redL
  by_cases hk : k < xs.length
  · have : (xs.map (· % p)).getD k 0 = xs[k] % p := by simp [List.getD, hk]
    rw [this]
    exact emod_bds _ _ (by omega)
  · have : (xs.map (· % p)).getD k 0 = 0 := by simp [List.getD, List.getElem?_eq_none (show xs.length ≤ k by omega)]
    rw [this]; omega
structure RedOk (r c : Int) (xs : List Int) (p : Int) : Prop where
  m : IsM r c xs
  pr : isPr p = true
  pb : 2 ≤ p ∧ p ≤ 10000
  mx : redM r c xs p = ⟨r, c, redL xs p⟩
  tb_ : redL xs p = tb r.toNat c.toNat (rmF c xs p)
  f0 : ∀ i j : Nat, 0 ≤ rmF c xs p i j ∧ rmF c xs p i j < p
  ok : EOk r.toNat p (rmS r c xs p)
theorem redOk {r c : Int} {xs : List Int} {p : Int} (h : redB r c xs p = true) : RedOk r c xs p := by
  have h0 := h
  unfold redB at h0
  rw [Bool.and_eq_true] at h0
  have M := isMat_iff.1 h0.1
  have hp := isPr_bds h0.2
  have hf : ∀ i j : Nat, 0 ≤ rmF c xs p i j ∧ rmF c xs p i j < p := fun i j => redL_at xs p hp.1 _
  refine ⟨M, h0.2, hp, ?_, ?_, hf, ?_⟩
  · unfold redM; rw [if_pos h]
  · unfold rmF
    apply tb_of
    have h1 := M.len; have h2 := M.r0; have h3 := M.c0
    obtain ⟨R, rfl⟩ := nat_of h2
    obtain ⟨C, rfl⟩ := nat_of h3
    simp only [Int.toNat_natCast]
    rw [← Int.natCast_mul] at h1
    simp [redL]; omega
  · exact colsE_ok hp.1 _ _ _ ⟨hf, Nat.zero_le _, by show (0 : Int) ≤ 1 ∧ (1 : Int) < p; omega⟩
theorem redM_no {r c : Int} {xs : List Int} {p : Int} (h : redB r c xs p = false) : redM r c xs p = .none := by
  unfold redM; rw [h]; rfl
set_option maxRecDepth 100000 in
set_option maxHeartbeats 2000000 in
theorem impl_RankMod (r c p : Int) (A : Option Addr) (n cap : Nat) (xs : List Int) (w : World) {B : Nat} (h : RI w B A n xs) (hB : B ≤ w.heap.size) (hn : n ≤ 1048576) :
    Calls Try.prog 84 #[.agg #[.int .i64 r, .int .i64 c, .slice A n cap], .int .i64 p] w (BV (.tuple #[.int .i64 (rankM r c xs p), .bool (redB r c xs p)]) w) := by
  have H2 := Lib.hid (h.more hB)
  clear h
  rcases hb : redB r c xs p with _ | _
  · have hv : rankM r c xs p = 0 := by unfold rankM; rw [hb]; rfl
    rw [hv]
    have HB := Lib.hid hb
    have HX := Lib.hid (redM_no hb)
    clear hb hv
    go_enter Try.func84, Try.ntmps84
    go_wp2_with fail
    refine (impl_ReduceMod r c p A n cap xs _ (B := w.heap.size) (Kr H2.out) Ks hn).mono ?_
    rw [HB.out, HX.out]
    rintro e w1 ⟨A', n', cap', rfl, hown, hb1⟩
    have hsz1 := hb1.size
    simp at hsz1
    go_wp2_with fail
    go_ret2
    exact BV.mk rfl Kw
  · have K := redOk hb
    have hv : rankM r c xs p = ((rmS r c xs p).t : Int) := by unfold rankM; rw [hb]; rfl
    rw [hv]
    have HB := Lib.hid hb
    have HX := Lib.hid K.mx
    have HT := Lib.hid K.tb_
    have HF := Lib.hid K.f0
    have HR : Hid (runE r.toNat c.toNat p (rmF c xs p) = rmS r c xs p) := Lib.hid rfl
    obtain ⟨hp1, hp2⟩ := K.pb
    have hR := K.m.r1
    have hC := K.m.c1
    obtain ⟨R, rfl⟩ := nat_of K.m.r0
    obtain ⟨C, rfl⟩ := nat_of K.m.c0
    clear hb hv K
    generalize rmS (R : Int) (C : Int) xs p = X at *
    simp only [Int.toNat_natCast] at HT HF HR
    generalize rmF (C : Int) xs p = f at *
    go_enter Try.func84, Try.ntmps84
    go_wp2_with fail
    refine (impl_ReduceMod R C p A n cap xs _ (B := w.heap.size) (Kr H2.out) Ks hn).mono ?_
    rw [HB.out, HX.out]
    rintro e w1 ⟨A', n', cap', rfl, hown, hb1⟩
    have hsz1 := hb1.size
    simp at hsz1
    have hown1 : OR w1 (w.heap.size + 1) (.slice A' n' cap') (tb R C f) := by
      have := hown
      rw [show (⟨(R : Int), (C : Int), redL xs p⟩ : Mx).xs = redL xs p from rfl, HT.out] at this
      simpa using this
    clear hown
    go_wp2_with fail
    refine (impl_eliminate R C C p A' n' cap' f _ (B := w.heap.size + 1) (Ko hown1) (by omega) (by omega) (Nat.le_refl _) ⟨hp1, hp2⟩ HF.out).mono ?_
    rw [HR.out]
    rintro e w2 ⟨rfl, hown2, hgr2, hsz2⟩
    have hbw : Below w.heap.size w w2 := Below.trans (show Below w.heap.size w (w1.alloc (.cells #[.int .i64 R, .int .i64 C, .slice A' n' cap'] 26)) from Kw) ((OR.below_grown (hown1.alloc (.cells #[.int .i64 R, .int .i64 C, .slice A' n' cap'] 26)) hgr2 (by simp; omega)).mono (by omega))
    clear hgr2
    go_wp2_with fail
    go_ret2
    exact BV.mk rfl hbw
theorem det_cases (r c : Int) (xs : List Int) (p : Int) : (redB r c xs p = false ∧ detMB r c xs p = false) ∨ (redB r c xs p = true ∧ (r != c) = true ∧ detMB r c xs p = false) ∨ (redB r c xs p = true ∧ r = c ∧ detMB r c xs p = true) := by
  unfold detMB
  rcases redB r c xs p with _ | _
  · left; simp
  · right
    by_cases h : r = c
    · right; simp [h]
    · left; simp [h]
theorem detM_no {r c : Int} {xs : List Int} {p : Int} (h : detMB r c xs p = false) : detM r c xs p = 0 := by unfold detM; rw [h]; rfl
set_option maxRecDepth 100000 in
set_option maxHeartbeats 2000000 in
theorem impl_DeterminantMod (r c p : Int) (A : Option Addr) (n cap : Nat) (xs : List Int) (w : World) {B : Nat} (h : RI w B A n xs) (hB : B ≤ w.heap.size) (hn : n ≤ 1048576) :
    Calls Try.prog 37 #[.agg #[.int .i64 r, .int .i64 c, .slice A n cap], .int .i64 p] w (BV (.tuple #[.int .i64 (detM r c xs p), .bool (detMB r c xs p)]) w) := by
  have H2 := Lib.hid (h.more hB)
  clear h
  rcases det_cases r c xs p with ⟨hb, hd⟩ | ⟨hb, hne, hd⟩ | ⟨hb, rfl, hd⟩
  · rw [detM_no hd, hd]
    have HB := Lib.hid hb
    have HX := Lib.hid (redM_no hb)
    clear hb hd
    go_enter Try.func37, Try.ntmps37
    go_wp2_with fail
    refine (impl_ReduceMod r c p A n cap xs _ (B := w.heap.size) (Kr H2.out) Ks hn).mono ?_
    rw [HB.out, HX.out]
    rintro e w1 ⟨A', n', cap', rfl, hown, hb1⟩
    have hsz1 := hb1.size
    simp at hsz1
    go_wp2_with fail
    go_ret2
    exact BV.mk rfl Kw
  · rw [detM_no hd, hd]
    have HB := Lib.hid hb
    have HX := Lib.hid (redOk hb).mx
    clear hb hd
    go_enter Try.func37, Try.ntmps37
    go_wp2_with fail
    refine (impl_ReduceMod r c p A n cap xs _ (B := w.heap.size) (Kr H2.out) Ks hn).mono ?_
    rw [HB.out, HX.out]
    rintro e w1 ⟨A', n', cap', rfl, hown, hb1⟩
    have hsz1 := hb1.size
    simp at hsz1
    have hM : BM w1 w.heap.size r c A n cap := Ka
    obtain ⟨oa, ob, oc, of, ol⟩ := hM.mx
    go_wp2_with fail
    go_ret2
    exact BV.mk rfl Kw
  · have K := redOk hb
    have hv : detM r r xs p = (if ((rmS r r xs p).t : Int) < r then 0 else (rmS r r xs p).d) := by unfold detM; rw [hd]; rfl
    rw [hv, hd]
    have HB := Lib.hid hb
    have HX := Lib.hid K.mx
    have HT := Lib.hid K.tb_
    have HF := Lib.hid K.f0
    have HR : Hid (runE r.toNat r.toNat p (rmF r xs p) = rmS r r xs p) := Lib.hid rfl
    obtain ⟨hp1, hp2⟩ := K.pb
    have hR := K.m.r1
    have hd0 := K.ok.d0
    have ht0 := K.ok.t0
    obtain ⟨R, rfl⟩ := nat_of K.m.r0
    clear hb hv K hd
    generalize rmS (R : Int) (R : Int) xs p = X at *
    simp only [Int.toNat_natCast] at HT HF HR ht0
    generalize rmF (R : Int) xs p = f at *
    obtain ⟨hd1, hd2⟩ := hd0
    generalize hvv : (if ((X.t : Nat) : Int) < (R : Int) then 0 else X.d) = V
    have HVV := Lib.hid hvv
    clear hvv
    go_enter Try.func37, Try.ntmps37
    go_wp2_with fail
    refine (impl_ReduceMod R R p A n cap xs _ (B := w.heap.size) (Kr H2.out) Ks hn).mono ?_
    rw [HB.out, HX.out]
    rintro e w1 ⟨A', n', cap', rfl, hown, hb1⟩
    have hsz1 := hb1.size
    simp at hsz1
    have hown1 : OR w1 (w.heap.size + 1) (.slice A' n' cap') (tb R R f) := by
      have := hown
      rw [show (⟨(R : Int), (R : Int), redL xs p⟩ : Mx).xs = redL xs p from rfl, HT.out] at this
      simpa using this
    have hM : BM w1 w.heap.size R R A n cap := Ka
    obtain ⟨oa, ob, oc, of, ol⟩ := hM.mx
    clear hown
    go_wp2_with fail
    refine (impl_eliminate R R R p A' n' cap' f _ (B := w.heap.size + 1) (Ko hown1) (by omega) (by omega) (Nat.le_refl _) ⟨hp1, hp2⟩ HF.out).mono ?_
    rw [HR.out]
    rintro e w2 ⟨rfl, hown2, hgr2, hsz2⟩
    have hbw : Below w.heap.size w w2 := Below.trans (show Below w.heap.size w (w1.alloc (.cells #[.int .i64 R, .int .i64 R, .slice A' n' cap'] 26)) from Kw) ((OR.below_grown (hown1.alloc (.cells #[.int .i64 R, .int .i64 R, .slice A' n' cap'] 26)) hgr2 (by simp; omega)).mono (by omega))
    have hM2 : BM w2 w.heap.size R R A n cap := (hM.alloc (.cells #[.int .i64 R, .int .i64 R, .slice A' n' cap'] 26)).grown hgr2 (OR.ne_low (hown1.alloc (.cells #[.int .i64 R, .int .i64 R, .slice A' n' cap'] 26)) (by omega))
    clear hgr2 oa ob oc of ol
    obtain ⟨oa, ob, oc, of, ol⟩ := hM2.mx
    by_cases hlt : X.t < R
    · have HV : Hid (V = 0) := Lib.hid (by rw [← HVV.out, if_pos (by omega)])
      generalize X.t = XT at *
      go_wp2_with fail
      go_ret2
      refine BV.mk ?_ hbw
      exact vib HV.out.symm rfl
    · have HV : Hid (V = X.d) := Lib.hid (by rw [← HVV.out, if_neg (by omega)])
      have HE : Hid (X.d % p = X.d) := Lib.hid (Int.emod_eq_of_lt hd1 hd2)
      generalize X.t = XT at *
      generalize X.d = XD at *
      go_wp2_with (first | (go_at_call 130; refine (impl_mod _ _ _ (by omega) (by omega) (by omega) (by omega)).mono ?_; rintro e w' ⟨rfl, rfl⟩))
      go_ret2
      refine BV.mk ?_ hbw
      exact vib (HV.out.trans HE.out.symm).symm rfl
end Go.Proofs.Ytacjonkehcamgaa

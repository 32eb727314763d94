/-
  DERIVED. RankMod and DeterminantMod of the reference.
-/
import Derived.Test.YtmcbhpaajjlmmaaElimS
import Derived.Test.YtmcbhpaajjlmmaaRankI
namespace Go.Proofs.Ytmcbhpaajjlmmaa
open Go.RowKit
set_option linter.unusedVariables false
set_option linter.unusedSimpArgs false
set_option maxRecDepth 100000 in
set_option maxHeartbeats 2000000 in
theorem spec_DeterminantMod (r c p : Int) (A : Option Addr) (n cap : Nat) (xs : List Int) (w : World) {B : Nat} (h : RI w B A n xs) (hB : B ≤ w.heap.size) (hn : n ≤ 1048576) :
    Calls Try.prog 117 #[.agg #[.int .i64 r, .int .i64 c, .slice A n cap], .int .i64 p] w (BV (.tuple #[.int .i64 (detM r c xs p), .bool (detMB r c xs p)]) w) := by
  have hlx := h.len
  have H2 := Lib.hid (h.more hB)
  clear h
  rcases det_cases r c xs p with ⟨hb, hd⟩ | ⟨hb, hne, hd⟩ | ⟨hb, rfl, hd⟩
  · rw [detM_no hd, hd]
    have HB := Lib.hid hb
    have HX := Lib.hid (redM_no hb)
    clear hb hd hlx
    go_enter Try.func117, Try.ntmps117
    go_wp2_with fail
    refine (spec_ReduceMod r c p A n cap xs _ (B := w.heap.size) (by (repeat (first | (with_reducible exact H2.out) | (with_reducible refine RI.drew ?_) | (with_reducible refine RI.drewN ?_ _) | (with_reducible refine RI.alloc ?_ (by first | omega | (simp; done) | (simp; omega)) _) | (with_reducible refine RI.setCell ?_ (by first | omega | (simp; done) | (simp; omega)) _) | (with_reducible refine RI.below ?_ (by assumption) (by first | omega | (simp; done) | (simp; omega)))))) (by first | omega | (simp; done) | (simp; omega)) hn).mono ?_
    rw [HB.out, HX.out]
    rintro e w1 ⟨A', n', cap', rfl, hown, hb1⟩
    have hsz1 := hb1.size
    simp at hsz1
    go_wp2_with fail
    go_ret2
    exact BV.mk rfl (by (repeat (first | (with_reducible exact Below.refl _ _) | (with_reducible assumption) | (with_reducible refine below_drewN ?_ _) | (with_reducible refine Below.drew ?_) | (with_reducible refine Below.alloc ?_ ?_ _) | (with_reducible refine Below.setCell ?_ ?_ _) | (with_reducible refine below_into ?_ (by assumption) (by first | omega | (simp; done) | (simp; omega))) | go_size)))
  · rw [detM_no hd, hd]
    have HB := Lib.hid hb
    have HX := Lib.hid (redOk hb).mx
    clear hb hd hlx
    go_enter Try.func117, Try.ntmps117
    go_wp2_with fail
    refine (spec_ReduceMod r c p A n cap xs _ (B := w.heap.size) (by (repeat (first | (with_reducible exact H2.out) | (with_reducible refine RI.drew ?_) | (with_reducible refine RI.drewN ?_ _) | (with_reducible refine RI.alloc ?_ (by first | omega | (simp; done) | (simp; omega)) _) | (with_reducible refine RI.setCell ?_ (by first | omega | (simp; done) | (simp; omega)) _) | (with_reducible refine RI.below ?_ (by assumption) (by first | omega | (simp; done) | (simp; omega)))))) (by first | omega | (simp; done) | (simp; omega)) hn).mono ?_
    rw [HB.out, HX.out]
    rintro e w1 ⟨A', n', cap', rfl, hown, hb1⟩
    have hsz1 := hb1.size
    simp at hsz1
    have hM : BM w1 w.heap.size r c A n cap := by (repeat (first | (with_reducible assumption) | (with_reducible refine BX.new _ _ _ _ _ _ _ _ (by first | omega | (simp; done) | (simp; omega))) | (with_reducible refine BX.below ?_ (by assumption) (by first | omega | (simp; done) | (simp; omega))) | (with_reducible apply BX.drew) | (with_reducible apply BX.drewN) | (with_reducible refine BX.put ?_) | (with_reducible refine BX.put2 ?_) | (with_reducible refine BX.far ?_ (by simp only [ne_eq]; omega) _) | (with_reducible apply BX.alloc) | (with_reducible refine B3.new _ _ _ _ _ _ (by first | omega | (simp; done) | (simp; omega))) | (with_reducible refine B3.of (by assumption)) | (with_reducible refine B3.below ?_ (by assumption) (by first | omega | (simp; done) | (simp; omega))) | (with_reducible apply B3.drew) | (with_reducible apply B3.drewN) | (with_reducible refine B3.far ?_ (by simp only [ne_eq]; omega) _) | (with_reducible apply B3.alloc)))
    obtain ⟨oa, ob, oc, of, ol⟩ := hM.mx
    go_wp2_with fail
    go_ret2
    exact BV.mk rfl (by (repeat (first | (with_reducible exact Below.refl _ _) | (with_reducible assumption) | (with_reducible refine below_drewN ?_ _) | (with_reducible refine Below.drew ?_) | (with_reducible refine Below.alloc ?_ ?_ _) | (with_reducible refine Below.setCell ?_ ?_ _) | (with_reducible refine below_into ?_ (by assumption) (by first | omega | (simp; done) | (simp; omega))) | go_size)))
  · have K := redOk hb
    have hv : detM r r xs p = (if ((rmS r r xs p).t : Int) < r then 0 else (rmS r r xs p).d) := by unfold detM; rw [hd]; rfl
    rw [hv, hd]
    have HB := Lib.hid hb
    have HX := Lib.hid K.mx
    have HT := Lib.hid K.tb_
    have HF := Lib.hid K.f0
    have HP := Lib.hid K.pr
    have HR : Hid (runE r.toNat r.toNat p (rmF r xs p) = rmS r r xs p) := Lib.hid rfl
    have hR := K.m.r1
    have ht0 := K.ok.t0
    obtain ⟨R, rfl⟩ := nat_of K.m.r0
    have HLR : Hid ((redL xs p).length ≤ 1048576) := Lib.hid (by simp [redL]; omega)
    clear hb hv K hd hlx
    generalize rmS (R : Int) (R : Int) xs p = X at *
    simp only [Int.toNat_natCast] at HT HF HR ht0
    generalize rmF (R : Int) xs p = f at *
    generalize hvv : (if ((X.t : Nat) : Int) < (R : Int) then 0 else X.d) = V
    have HVV := Lib.hid hvv
    clear hvv
    go_enter Try.func117, Try.ntmps117
    go_wp2_with fail
    refine (spec_ReduceMod R R p A n cap xs _ (B := w.heap.size) (by (repeat (first | (with_reducible exact H2.out) | (with_reducible refine RI.drew ?_) | (with_reducible refine RI.drewN ?_ _) | (with_reducible refine RI.alloc ?_ (by first | omega | (simp; done) | (simp; omega)) _) | (with_reducible refine RI.setCell ?_ (by first | omega | (simp; done) | (simp; omega)) _) | (with_reducible refine RI.below ?_ (by assumption) (by first | omega | (simp; done) | (simp; omega)))))) (by first | omega | (simp; done) | (simp; omega)) hn).mono ?_
    rw [HB.out, HX.out]
    rintro e w1 ⟨A', n', cap', rfl, hown, hb1⟩
    have hsz1 := hb1.size
    simp at hsz1
    have hown1 : OR w1 (w.heap.size + 1) (.slice A' n' cap') (tb R R f) := by
      have := hown
      rw [show (⟨(R : Int), (R : Int), redL xs p⟩ : Mx).xs = redL xs p from rfl, HT.out] at this
      simpa using this
    have hn1 : n' ≤ 1048576 := by have h1 := hown1.lenEq; have h2 := HLR.out; rw [HT.out] at h2; omega
    have hri := hown1.reads
    have hM : BM w1 w.heap.size R R A n cap := by (repeat (first | (with_reducible assumption) | (with_reducible refine BX.new _ _ _ _ _ _ _ _ (by first | omega | (simp; done) | (simp; omega))) | (with_reducible refine BX.below ?_ (by assumption) (by first | omega | (simp; done) | (simp; omega))) | (with_reducible apply BX.drew) | (with_reducible apply BX.drewN) | (with_reducible refine BX.put ?_) | (with_reducible refine BX.put2 ?_) | (with_reducible refine BX.far ?_ (by simp only [ne_eq]; omega) _) | (with_reducible apply BX.alloc) | (with_reducible refine B3.new _ _ _ _ _ _ (by first | omega | (simp; done) | (simp; omega))) | (with_reducible refine B3.of (by assumption)) | (with_reducible refine B3.below ?_ (by assumption) (by first | omega | (simp; done) | (simp; omega))) | (with_reducible apply B3.drew) | (with_reducible apply B3.drewN) | (with_reducible refine B3.far ?_ (by simp only [ne_eq]; omega) _) | (with_reducible apply B3.alloc)))
    obtain ⟨oa, ob, oc, of, ol⟩ := hM.mx
    clear hown
    go_wp2_with fail
    refine (spec_l8Eliminate R R R p A' n' cap' f _ (B := w1.heap.size) (by (repeat (first | (with_reducible exact hri) | (with_reducible refine RI.drew ?_) | (with_reducible refine RI.drewN ?_ _) | (with_reducible refine RI.alloc ?_ (by first | omega | (simp; done) | (simp; omega)) _) | (with_reducible refine RI.setCell ?_ (by first | omega | (simp; done) | (simp; omega)) _) | (with_reducible refine RI.below ?_ (by assumption) (by first | omega | (simp; done) | (simp; omega)))))) (by first | omega | (simp; done) | (simp; omega)) hn1 (by omega) (by omega) (Nat.le_refl _) HP.out HF.out).mono ?_
    rw [HR.out]
    rintro e w2 ⟨A2, n2, cap2, P, m2, pc, ps, rfl, hownA, hownP, hps, hb2⟩
    have hsz2 := hb2.size
    simp at hsz2
    have hm2 := hownP.lenEq
    have hm3 : m2 = X.t := by omega
    clear hm2 hps hownA
    subst hm3
    have hM2 : BM w2 w.heap.size R R A n cap := by (repeat (first | (with_reducible exact hM) | (with_reducible refine BX.new _ _ _ _ _ _ _ _ (by first | omega | (simp; done) | (simp; omega))) | (with_reducible refine BX.below ?_ (by assumption) (by first | omega | (simp; done) | (simp; omega))) | (with_reducible apply BX.drew) | (with_reducible apply BX.drewN) | (with_reducible refine BX.put ?_) | (with_reducible refine BX.put2 ?_) | (with_reducible refine BX.far ?_ (by simp only [ne_eq]; omega) _) | (with_reducible apply BX.alloc) | (with_reducible refine B3.new _ _ _ _ _ _ (by first | omega | (simp; done) | (simp; omega))) | (with_reducible exact B3.of hM) | (with_reducible refine B3.below ?_ (by assumption) (by first | omega | (simp; done) | (simp; omega))) | (with_reducible apply B3.drew) | (with_reducible apply B3.drewN) | (with_reducible refine B3.far ?_ (by simp only [ne_eq]; omega) _) | (with_reducible apply B3.alloc)))
    have hbw : Below w.heap.size w w2 := by (repeat (first | (with_reducible exact Below.refl _ _) | (with_reducible assumption) | (with_reducible refine below_drewN ?_ _) | (with_reducible refine Below.drew ?_) | (with_reducible refine Below.alloc ?_ ?_ _) | (with_reducible refine Below.setCell ?_ ?_ _) | (with_reducible refine below_into ?_ (by assumption) (by first | omega | (simp; done) | (simp; omega))) | go_size))
    clear oa ob oc of ol hM
    obtain ⟨oa, ob, oc, of, ol⟩ := hM2.mx
    by_cases hlt : X.t < R
    · have HV : Hid (V = 0) := Lib.hid (by rw [← HVV.out, if_pos (by omega)])
      clear HVV
      generalize X.t = XT at *
      go_wp2_with fail
      go_ret2
      refine BV.mk ?_ (by (repeat (first | (with_reducible exact Below.refl _ _) | (with_reducible assumption) | (with_reducible refine below_drewN ?_ _) | (with_reducible refine Below.drew ?_) | (with_reducible refine Below.alloc ?_ ?_ _) | (with_reducible refine Below.setCell ?_ ?_ _) | (with_reducible refine below_into ?_ (by assumption) (by first | omega | (simp; done) | (simp; omega))) | go_size)))
      exact vib HV.out.symm rfl
    · have HV : Hid (V = X.d) := Lib.hid (by rw [← HVV.out, if_neg (by omega)])
      clear HVV
      generalize X.t = XT at *
      generalize X.d = XD at *
      go_wp2_with fail
      go_ret2
      refine BV.mk ?_ (by (repeat (first | (with_reducible exact Below.refl _ _) | (with_reducible assumption) | (with_reducible refine below_drewN ?_ _) | (with_reducible refine Below.drew ?_) | (with_reducible refine Below.alloc ?_ ?_ _) | (with_reducible refine Below.setCell ?_ ?_ _) | (with_reducible refine below_into ?_ (by assumption) (by first | omega | (simp; done) | (simp; omega))) | go_size)))
      exact vib HV.out.symm rfl
end Go.Proofs.Ytmcbhpaajjlmmaa

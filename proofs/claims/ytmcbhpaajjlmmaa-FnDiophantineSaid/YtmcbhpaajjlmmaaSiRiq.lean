/-
  DERIVED. RefuteInteger of the program.
-/
import Derived.Test.YtmcbhpaajjlmmaaZ4
import Derived.Test.YtmcbhpaajjlmmaaSiFq
namespace Go.Proofs.Ytmcbhpaajjlmmaa
open Go.RowKit
set_option linter.unusedVariables false
set_option linter.unusedSimpArgs false
set_option maxRecDepth 100000 in
set_option maxHeartbeats 8000000 in
theorem impl_RefuteInteger (r c : Int) (A Ab : Option Addr) (n cap nb capb : Nat) (xs bs : List Int) (w : World) {B B' : Nat} (h : RI w B A n xs) (hb : RI w B' Ab nb bs) (hB : B ≤ w.heap.size) (hB' : B' ≤ w.heap.size) (hn : n ≤ 1048576) (hnb : nb ≤ 1048576) :
    Calls Try.prog 26 #[.agg #[.int .i64 r, .int .i64 c, .slice A n cap], .slice Ab nb capb] w (QIR (riR r c xs bs).1 (riR r c xs bs).2.1 (riR r c xs bs).2.2 w) := by
  have hlb := hb.len
  have hlb2 : bs.length ≤ nb ∧ nb ≤ bs.length := by omega
  have HLB := Lib.hid hlb
  have H2 := Lib.hid (h.more hB)
  have H3 := Lib.hid (hb.more hB')
  clear h hb hlb
  rcases hS : siS r c xs bs with _ | ⟨s, cs⟩
  · have HR := Lib.hid (riR_fail hS)
    have HS := Lib.hid hS
    clear hS
    go_enter Try.func26, Try.ntmps26
    go_wp2_with fail
    refine (impl_smithFor r c A Ab n cap nb capb xs bs _ (B := w.heap.size) (B' := w.heap.size) (by (with_reducible (repeat (first | exact H2.out | refine RI.drew ?_ | refine RI.drewN ?_ _ | refine RI.a_ ?_ | refine RI.s_ ?_ | refine RI.b_ ?_)))) (by (with_reducible (repeat (first | exact H3.out | refine RI.drew ?_ | refine RI.drewN ?_ _ | refine RI.a_ ?_ | refine RI.s_ ?_ | refine RI.b_ ?_)))) (by first | omega | (simp; done) | (simp; omega)) (by first | omega | (simp; done) | (simp; omega)) hn hnb).mono ?_
    intro e w1 hk1
    obtain ⟨r1, c1, r2, c2, r3, c3, A1, A2, A3, A4, n1, k1, n2, k2, n3, k3, n4, k4, rfl, hb1⟩ := SFR.no HS.out hk1
    clear hk1
    have hs1 := hb1.size
    simp at hs1
    go_wp2_with fail
    go_ret2; exact QIR.mk (by rw [HR.out]) (OF.empty _ _ (by simp) (by first | omega | (simp; done) | (simp; omega))) (by (repeat (first | (with_reducible (first | exact Below.refl _ _ | assumption | refine below_drewN ?_ _ | refine Below.drew ?_ | refine Below.alloc ?_ ?_ _ | refine Below.setCell ?_ ?_ _ | refine below_i ?_)) | go_size)))
  · have hm : isMat r c xs = true := by
      rcases hm : isMat r c xs with _ | _
      · rw [siS_none (sfX_no hm)] at hS; cases hS
      · rfl
    have M := isMat_iff.1 hm
    obtain ⟨R, rfl⟩ := nat_of M.r0
    obtain ⟨C, rfl⟩ := nat_of M.c0
    have hR : R ≤ 24 := by have := M.r1; omega
    have hC : C ≤ 24 := by have := M.c1; omega
    obtain ⟨hX, hlen, hmul, hcs⟩ := siS_some hS
    have HOK : Hid (OKF R C s.f) := Lib.hid (sfX_gd hX).2.2.2.ok.f
    have HG0 : OKF R R s.g := (sfX_gd hX).2.2.2.ok.g
    have HG : Hid (∀ k j, k < R → j < R → Num (s.g k j)) := Lib.hid (fun k j hk hj => HG0 k j hk hj)
    clear HG0
    have hcl : cs.length = R := by rw [hcs, mulL_len]; omega
    have HCN : Hid (∀ k, Num (cs.getD k 0)) := Lib.hid (by
      unfold mulB at hmul
      rw [Bool.and_eq_true] at hmul
      have h2 := (isMat_iff.1 hmul.2).num
      simp only [Int.toNat_natCast] at h2
      rw [hcs]
      exact getD_num h2)
    have HS := Lib.hid hS
    have HCL := Lib.hid hcl
    have hcl2 : cs.length ≤ R ∧ R ≤ cs.length := by omega
    clear M hm hX hlen hmul hcs hcl hS
    go_enter Try.func26, Try.ntmps26
    go_wp2_with fail
    refine (impl_smithFor R C A Ab n cap nb capb xs bs _ (B := w.heap.size) (B' := w.heap.size) (by (with_reducible (repeat (first | exact H2.out | refine RI.drew ?_ | refine RI.drewN ?_ _ | refine RI.a_ ?_ | refine RI.s_ ?_ | refine RI.b_ ?_)))) (by (with_reducible (repeat (first | exact H3.out | refine RI.drew ?_ | refine RI.drewN ?_ _ | refine RI.a_ ?_ | refine RI.s_ ?_ | refine RI.b_ ?_)))) (by first | omega | (simp; done) | (simp; omega)) (by first | omega | (simp; done) | (simp; omega)) hn hnb).mono ?_
    intro e w1 hk1
    obtain ⟨A1, n1, k1, A2, n2, k2, A3, n3, k3, A4, n4, k4, rfl, o1, o2, o3, o4, hb1⟩ := SFR.yes HS.out hk1
    clear hk1 o3
    have hs1 := hb1.size
    simp at hs1
    have hMx : BM w1 w.heap.size R C A n cap := by (with_reducible (repeat (first | assumption | refine BX.n_ | refine BX.b_ ?_ | apply BX.drew | apply BX.drewN | refine BX.put ?_ | refine BX.put2 ?_ | refine BX.f_ ?_ | apply BX.alloc | refine B3.n_ | refine B3.of (by assumption) | refine B3.b_ ?_ | apply B3.drew | apply B3.drewN | refine B3.f_ ?_ | apply B3.alloc)))
    have nMx : BM (((w1.alloc (.cells #[.int .i64 (R : Int), .int .i64 (C : Int), .slice A1 n1 k1] 28)).alloc (.cells #[.int .i64 (R : Int), .int .i64 (R : Int), .slice A2 n2 k2] 28)).alloc (.cells #[.int .i64 (C : Int), .int .i64 (C : Int), .slice A3 n3 k3] 28)) w.heap.size R C A n cap := ((hMx.alloc _).alloc _).alloc _
    have nM1 : BM (((w1.alloc (.cells #[.int .i64 (R : Int), .int .i64 (C : Int), .slice A1 n1 k1] 28)).alloc (.cells #[.int .i64 (R : Int), .int .i64 (R : Int), .slice A2 n2 k2] 28)).alloc (.cells #[.int .i64 (C : Int), .int .i64 (C : Int), .slice A3 n3 k3] 28)) w1.heap.size (R : Int) (C : Int) A1 n1 k1 := by (with_reducible (repeat (first | assumption | refine BX.n_ | refine BX.b_ ?_ | apply BX.drew | apply BX.drewN | refine BX.put ?_ | refine BX.put2 ?_ | refine BX.f_ ?_ | apply BX.alloc | refine B3.n_ | refine B3.of (by assumption) | refine B3.b_ ?_ | apply B3.drew | apply B3.drewN | refine B3.f_ ?_ | apply B3.alloc)))
    have nM2 : BM (((w1.alloc (.cells #[.int .i64 (R : Int), .int .i64 (C : Int), .slice A1 n1 k1] 28)).alloc (.cells #[.int .i64 (R : Int), .int .i64 (R : Int), .slice A2 n2 k2] 28)).alloc (.cells #[.int .i64 (C : Int), .int .i64 (C : Int), .slice A3 n3 k3] 28)) (w1.heap.size + 1) (R : Int) (R : Int) A2 n2 k2 := by (with_reducible (repeat (first | assumption | refine BX.n_ | refine BX.b_ ?_ | apply BX.drew | apply BX.drewN | refine BX.put ?_ | refine BX.put2 ?_ | refine BX.f_ ?_ | apply BX.alloc | refine B3.n_ | refine B3.of (by assumption) | refine B3.b_ ?_ | apply B3.drew | apply B3.drewN | refine B3.f_ ?_ | apply B3.alloc)))
    have p1 : OR (((w1.alloc (.cells #[.int .i64 (R : Int), .int .i64 (C : Int), .slice A1 n1 k1] 28)).alloc (.cells #[.int .i64 (R : Int), .int .i64 (R : Int), .slice A2 n2 k2] 28)).alloc (.cells #[.int .i64 (C : Int), .int .i64 (C : Int), .slice A3 n3 k3] 28)) (w.heap.size + 1) (.slice A1 n1 k1) (tb R C s.f) := by have q := OR.mono (xs := tb R C s.f) (B' := (w.heap.size + 1)) o1 (by simp); (with_reducible (repeat (first | exact q | refine OR.drew ?_ | refine OR.drewN ?_ _ | refine OR.alloc ?_ _ | refine OR.b_ ?_ | refine OR.l_ ?_)))
    have p2 : OR (((w1.alloc (.cells #[.int .i64 (R : Int), .int .i64 (C : Int), .slice A1 n1 k1] 28)).alloc (.cells #[.int .i64 (R : Int), .int .i64 (R : Int), .slice A2 n2 k2] 28)).alloc (.cells #[.int .i64 (C : Int), .int .i64 (C : Int), .slice A3 n3 k3] 28)) (w.heap.size + 1) (.slice A2 n2 k2) (tb R R s.g) := by have q := OR.mono (xs := tb R R s.g) (B' := (w.heap.size + 1)) o2 (by simp); (with_reducible (repeat (first | exact q | refine OR.drew ?_ | refine OR.drewN ?_ _ | refine OR.alloc ?_ _ | refine OR.b_ ?_ | refine OR.l_ ?_)))
    have p4 : OR (((w1.alloc (.cells #[.int .i64 (R : Int), .int .i64 (C : Int), .slice A1 n1 k1] 28)).alloc (.cells #[.int .i64 (R : Int), .int .i64 (R : Int), .slice A2 n2 k2] 28)).alloc (.cells #[.int .i64 (C : Int), .int .i64 (C : Int), .slice A3 n3 k3] 28)) (w.heap.size + 1) (.slice A4 n4 k4) cs := by have q := OR.mono (xs := cs) (B' := (w.heap.size + 1)) o4 (by simp); (with_reducible (repeat (first | exact q | refine OR.drew ?_ | refine OR.drewN ?_ _ | refine OR.alloc ?_ _ | refine OR.b_ ?_ | refine OR.l_ ?_)))
    have hbw : Below w.heap.size w (((w1.alloc (.cells #[.int .i64 (R : Int), .int .i64 (C : Int), .slice A1 n1 k1] 28)).alloc (.cells #[.int .i64 (R : Int), .int .i64 (R : Int), .slice A2 n2 k2] 28)).alloc (.cells #[.int .i64 (C : Int), .int .i64 (C : Int), .slice A3 n3 k3] 28)) := by (repeat (first | (with_reducible (first | exact Below.refl _ _ | assumption | refine below_drewN ?_ _ | refine Below.drew ?_ | refine Below.alloc ?_ ?_ _ | refine Below.setCell ?_ ?_ _ | refine below_i ?_)) | go_size))
    have hsz2 : w1.heap.size + 1 + 1 + 1 ≤ ((((w1.alloc (.cells #[.int .i64 (R : Int), .int .i64 (C : Int), .slice A1 n1 k1] 28)).alloc (.cells #[.int .i64 (R : Int), .int .i64 (R : Int), .slice A2 n2 k2] 28)).alloc (.cells #[.int .i64 (C : Int), .int .i64 (C : Int), .slice A3 n3 k3] 28))).heap.size := by simp
    clear o1 o2 o4 hb1 hMx
    go_wp2_with fail
    generalize (((w1.alloc (.cells #[.int .i64 (R : Int), .int .i64 (C : Int), .slice A1 n1 k1] 28)).alloc (.cells #[.int .i64 (R : Int), .int .i64 (R : Int), .slice A2 n2 k2] 28)).alloc (.cells #[.int .i64 (C : Int), .int .i64 (C : Int), .slice A3 n3 k3] 28)) = w2 at *
    generalize w1.heap.size = bH at *
    rcases hF : fwF (dgF R C s.f) 0 cs with _ | k
    · have HF := Lib.hid hF
      have HR := Lib.hid (riR_none HS.out hF)
      clear hF
      refine (impl_firstWrong R C A1 A4 n1 k1 n4 k4 s.f cs _ (B := (w.heap.size + 1)) (B' := w2.heap.size) p1 p4.reads (Nat.le_refl _) HCL.out HOK.out HCN.out hR hC).mono ?_
      rw [HF.out, show fwV none = (-1 : Int) from rfl]
      rintro e w3 ⟨rfl, hb3⟩
      have hs3 := hb3.size
      have hs2 := hbw.size
      have hbw3 : Below w.heap.size w w3 := by (repeat (first | (with_reducible (first | exact Below.refl _ _ | assumption | refine below_drewN ?_ _ | refine Below.drew ?_ | refine Below.alloc ?_ ?_ _ | refine Below.setCell ?_ ?_ _ | refine below_i ?_)) | go_size))
      clear hb3 hbw
      go_wp2_with fail
      go_ret2; exact QIR.mk (by rw [HR.out]) (OF.empty _ _ (by simp) (by first | omega | (simp; done) | (simp; omega))) (by (repeat (first | (with_reducible (first | exact Below.refl _ _ | assumption | refine below_drewN ?_ _ | refine Below.drew ?_ | refine Below.alloc ?_ ?_ _ | refine Below.setCell ?_ ?_ _ | refine below_i ?_)) | go_size)))
    · have HF := Lib.hid hF
      have K := RiK.of HCL.out hF
      have HKR := Lib.hid K.kR
      have hkR := K.kR
      have hnz := K.nz
      have HY := Lib.hid (riR_yes HS.out hF)
      have HN := Lib.hid (riR_big HS.out hF)
      clear hF K
      refine (impl_firstWrong R C A1 A4 n1 k1 n4 k4 s.f cs _ (B := (w.heap.size + 1)) (B' := w2.heap.size) p1 p4.reads (Nat.le_refl _) HCL.out HOK.out HCN.out hR hC).mono ?_
      rw [HF.out, show fwV (some k) = (k : Int) from rfl]
      rintro e w3 ⟨rfl, hb3⟩
      have hs3 := hb3.size
      (have hs5 := hb3.size); (try simp at hs5); (have nMx_1 : BM w3 w.heap.size R C A n cap := (by (with_reducible (repeat (first | exact nMx | refine BX.n_ | refine BX.b_ ?_ | apply BX.drew | apply BX.drewN | refine BX.put ?_ | refine BX.put2 ?_ | refine BX.f_ ?_ | apply BX.alloc | refine B3.n_ | exact B3.of nMx | refine B3.b_ ?_ | apply B3.drew | apply B3.drewN | refine B3.f_ ?_ | apply B3.alloc))))); (have nM1_1 : BM w3 bH (R : Int) (C : Int) A1 n1 k1 := (by (with_reducible (repeat (first | exact nM1 | refine BX.n_ | refine BX.b_ ?_ | apply BX.drew | apply BX.drewN | refine BX.put ?_ | refine BX.put2 ?_ | refine BX.f_ ?_ | apply BX.alloc | refine B3.n_ | exact B3.of nM1 | refine B3.b_ ?_ | apply B3.drew | apply B3.drewN | refine B3.f_ ?_ | apply B3.alloc))))); (have nM2_1 : BM w3 (bH + 1) (R : Int) (R : Int) A2 n2 k2 := (by (with_reducible (repeat (first | exact nM2 | refine BX.n_ | refine BX.b_ ?_ | apply BX.drew | apply BX.drewN | refine BX.put ?_ | refine BX.put2 ?_ | refine BX.f_ ?_ | apply BX.alloc | refine B3.n_ | exact B3.of nM2 | refine B3.b_ ?_ | apply B3.drew | apply B3.drewN | refine B3.f_ ?_ | apply B3.alloc))))); (have p1_1 : OR w3 (w.heap.size + 1) (.slice A1 n1 k1) (tb R C s.f) := (by (with_reducible (repeat (first | exact p1 | refine OR.drew ?_ | refine OR.drewN ?_ _ | refine OR.alloc ?_ _ | refine OR.b_ ?_ | refine OR.l_ ?_))))); (have p2_1 : OR w3 (w.heap.size + 1) (.slice A2 n2 k2) (tb R R s.g) := (by (with_reducible (repeat (first | exact p2 | refine OR.drew ?_ | refine OR.drewN ?_ _ | refine OR.alloc ?_ _ | refine OR.b_ ?_ | refine OR.l_ ?_))))); (have p4_1 : OR w3 (w.heap.size + 1) (.slice A4 n4 k4) cs := (by (with_reducible (repeat (first | exact p4 | refine OR.drew ?_ | refine OR.drewN ?_ _ | refine OR.alloc ?_ _ | refine OR.b_ ?_ | refine OR.l_ ?_))))); (have hbw_1 : Below w.heap.size w w3 := (by (repeat (first | (with_reducible (first | exact Below.refl _ _ | assumption | refine below_drewN ?_ _ | refine Below.drew ?_ | refine Below.alloc ?_ ?_ _ | refine Below.setCell ?_ ?_ _ | refine below_i ?_)) | go_size)))); clear nMx nM1 nM2 p1 p2 p4 hbw hb3; (have nMx := nMx_1); (have nM1 := nM1_1); (have nM2 := nM2_1); (have p1 := p1_1); (have p2 := p2_1); (have p4 := p4_1); (have hbw := hbw_1); clear nMx_1 nM1_1 nM2_1 p1_1 p2_1 p4_1 hbw_1
      have hbHl := nM2.lt
      have hsr := hbw.size
      obtain ⟨ma, mb, mc, mf, ml⟩ := nMx.mx; obtain ⟨ua, ub, uc, uf, ul⟩ := nM1.mx; obtain ⟨va, vb, vc, vf, vl⟩ := nM2.mx
      obtain ⟨x1, x2⟩ := HCN.out k
      obtain ⟨d1, d2⟩ := dgF_num (i := k) HOK.out
      obtain ⟨g4, rfl, hg1, hg2⟩ := p4.begins (by omega)
      have c1 := p4.cell k (by omega)
      have hln4 := p4.lenEq
      have hk4 : k < n4 := by omega
      clear hln4
      obtain ⟨z, hzv⟩ : ∃ z, riN (dgF R C s.f k) (cs.getD k 0) = z := ⟨_, rfl⟩
      rw [hzv] at HY HN hnz
      obtain ⟨d, hdv⟩ : ∃ d, dgF R C s.f k = d := ⟨_, rfl⟩
      have HDV := Lib.hid hdv
      rw [hdv] at hzv d1 d2
      generalize hcv : cs.getD k 0 = y at *
      have HCV := Lib.hid hcv
      clear hcv hdv
      have hzn0 : z ≠ 0 := hnz
      clear hnz
      by_cases hd0 : d = 0
      · have hz2 : z = 2 * y := by rw [← hzv]; unfold riN; rw [if_pos hd0]
        have hdb : (d == 0) = true := by simpa using hd0
        have HZ2 := Lib.hid hz2
        clear hd0 hz2 hzv
        go_wp2_with fail
        refine (impl_diagonal R C k A1 n1 k1 s.f _ (B := (w.heap.size + 1)) (by (with_reducible (repeat (first | exact p1 | refine OR.drew ?_ | refine OR.drewN ?_ _ | refine OR.alloc ?_ _ | refine OR.b_ ?_ | refine OR.l_ ?_)))) (by omega) hR hC).mono ?_
        rw [HDV.out]
        rintro e w4 ⟨rfl, hb4⟩
        clear ma mb mc mf ml ua ub uc uf ul va vb vc vf vl
        have hs4 := hb4.size
        have c1' := (hb4.cell (p := ⟨g4, k, none⟩) (by simpa using hg2)).trans c1
        (have hs5 := hb4.size); (try simp at hs5); (have nMx_1 : BM w4 w.heap.size R C A n cap := (by (with_reducible (repeat (first | exact nMx | refine BX.n_ | refine BX.b_ ?_ | apply BX.drew | apply BX.drewN | refine BX.put ?_ | refine BX.put2 ?_ | refine BX.f_ ?_ | apply BX.alloc | refine B3.n_ | exact B3.of nMx | refine B3.b_ ?_ | apply B3.drew | apply B3.drewN | refine B3.f_ ?_ | apply B3.alloc))))); (have nM1_1 : BM w4 bH (R : Int) (C : Int) A1 n1 k1 := (by (with_reducible (repeat (first | exact nM1 | refine BX.n_ | refine BX.b_ ?_ | apply BX.drew | apply BX.drewN | refine BX.put ?_ | refine BX.put2 ?_ | refine BX.f_ ?_ | apply BX.alloc | refine B3.n_ | exact B3.of nM1 | refine B3.b_ ?_ | apply B3.drew | apply B3.drewN | refine B3.f_ ?_ | apply B3.alloc))))); (have nM2_1 : BM w4 (bH + 1) (R : Int) (R : Int) A2 n2 k2 := (by (with_reducible (repeat (first | exact nM2 | refine BX.n_ | refine BX.b_ ?_ | apply BX.drew | apply BX.drewN | refine BX.put ?_ | refine BX.put2 ?_ | refine BX.f_ ?_ | apply BX.alloc | refine B3.n_ | exact B3.of nM2 | refine B3.b_ ?_ | apply B3.drew | apply B3.drewN | refine B3.f_ ?_ | apply B3.alloc))))); (have p1_1 : OR w4 (w.heap.size + 1) (.slice A1 n1 k1) (tb R C s.f) := (by (with_reducible (repeat (first | exact p1 | refine OR.drew ?_ | refine OR.drewN ?_ _ | refine OR.alloc ?_ _ | refine OR.b_ ?_ | refine OR.l_ ?_))))); (have p2_1 : OR w4 (w.heap.size + 1) (.slice A2 n2 k2) (tb R R s.g) := (by (with_reducible (repeat (first | exact p2 | refine OR.drew ?_ | refine OR.drewN ?_ _ | refine OR.alloc ?_ _ | refine OR.b_ ?_ | refine OR.l_ ?_))))); (have p4_1 : OR w4 (w.heap.size + 1) (.slice (some ⟨g4, 0, none⟩) n4 k4) cs := (by (with_reducible (repeat (first | exact p4 | refine OR.drew ?_ | refine OR.drewN ?_ _ | refine OR.alloc ?_ _ | refine OR.b_ ?_ | refine OR.l_ ?_))))); (have hbw_1 : Below w.heap.size w w4 := (by (repeat (first | (with_reducible (first | exact Below.refl _ _ | assumption | refine below_drewN ?_ _ | refine Below.drew ?_ | refine Below.alloc ?_ ?_ _ | refine Below.setCell ?_ ?_ _ | refine below_i ?_)) | go_size)))); clear nMx nM1 nM2 p1 p2 p4 hbw hb4; (have nMx := nMx_1); (have nM1 := nM1_1); (have nM2 := nM2_1); (have p1 := p1_1); (have p2 := p2_1); (have p4 := p4_1); (have hbw := hbw_1); clear nMx_1 nM1_1 nM2_1 p1_1 p2_1 p4_1 hbw_1
        obtain ⟨ma, mb, mc, mf, ml⟩ := nMx.mx; obtain ⟨ua, ub, uc, uf, ul⟩ := nM1.mx; obtain ⟨va, vb, vc, vf, vl⟩ := nM2.mx
        clear c1
        have c1 := c1'
        clear c1'
        go_upto_region 10 with fail
        rw [← HZ2.out]
        rcases hnm : isNum z with _ | _
        · skip
          have HR := Lib.hid (HN.out hnm)
          have hnb := (isNum_not _).1 hnm
          clear hnm
          go_wp2_with (first | (go_at_call 95; (first | refine (impl_IsNumber_yes _ _ (by omega)).mono ?_ | refine (impl_IsNumber_no _ _ (by omega)).mono ?_ | refine (impl_IsNumber _ _).mono ?_); rintro e w' ⟨rfl, rfl⟩))
          go_ret2; exact QIR.mk (by rw [HR.out]) (OF.empty _ _ (by simp) (by first | omega | (simp; done) | (simp; omega))) (by (repeat (first | (with_reducible (first | exact Below.refl _ _ | assumption | refine below_drewN ?_ _ | refine Below.drew ?_ | refine Below.alloc ?_ ?_ _ | refine Below.setCell ?_ ?_ _ | refine below_i ?_)) | go_size)))
        · skip
          have HR := Lib.hid (HY.out hnm)
          have HZN : Hid (Num z) := Lib.hid (Num.of hnm)
          obtain ⟨zn1, zn2⟩ := Num.of hnm
          clear hnm
          have hn2 : n2 ≤ 1048576 ∧ n2 ≤ R * R ∧ R * R ≤ n2 := by have h8 := p2.lenEq; rw [tb_len] at h8; have := Nat.mul_le_mul hR hR; omega
          have hkn : k * R + R ≤ n2 := by have h8 := Nat.mul_le_mul_right R (show k + 1 ≤ R by omega); rw [Nat.add_mul, Nat.one_mul] at h8; omega
          have hcp := p2.caps
          have HP2 := Lib.hid p2.reads
          go_wp2_with (first | (go_at_call 95; (first | refine (impl_IsNumber_yes _ _ (by omega)).mono ?_ | refine (impl_IsNumber_no _ _ (by omega)).mono ?_ | refine (impl_IsNumber _ _).mono ?_); rintro e w' ⟨rfl, rfl⟩))
          generalize hbq : w4.heap.size = bQ at *
          have OW1 : Hid (Own (.slice A1 n1 k1) (w.heap.size + 1) bQ) := Lib.hid (by rw [← hbq]; exact p1.own)
          have OW2 : Hid (Own (.slice A2 n2 k2) (w.heap.size + 1) bQ) := Lib.hid (by rw [← hbq]; exact p2.own)
          have OW4 : Hid (Own (.slice (some ⟨g4, 0, none⟩) n4 k4) (w.heap.size + 1) bQ) := Lib.hid (by rw [← hbq]; exact p4.own)
          have hbB : bH + 1 < bQ := by omega
          refine (impl_row R R k A2 n2 k2 (tb R R s.g) _ (B := bQ) (by (with_reducible (repeat (first | exact HP2.out | refine RI.drew ?_ | refine RI.drewN ?_ _ | refine RI.a_ ?_ | refine RI.s_ ?_ | refine RI.b_ ?_)))) (by simp; omega) hcp.1 hcp.2 (by omega) (by omega) hkn).mono ?_
          rintro e w5 ⟨Ar, cr, rfl, hrow, hb5, hcr1, hcr2⟩
          clear hkn hn2 hcp hcr1 hcr2
          clear ma mb mc mf ml ua ub uc uf ul va vb vc vf vl
          have hof : OF w5 bQ (.slice (some ⟨bQ, 0, none⟩) 0 0) 0 [] := by have hof0 : OF (w4.alloc (.cells #[] 50)) bQ (.slice (some ⟨bQ, 0, none⟩) 0 0) 0 [] := OF.empty _ _ hbq.symm (by omega); (with_reducible (repeat (first | exact hof0 | refine OF.drew ?_ | refine OF.drewN ?_ _ | refine OF.alloc ?_ _ | refine OF.b_ ?_ | refine OF.l_ ?_)))
          have hszq := hb5.size
          simp at hszq
          (have hs5 := hb5.size); (try simp at hs5); (have nMx_1 : BM w5 w.heap.size R C A n cap := (by (with_reducible (repeat (first | exact nMx | refine BX.n_ | refine BX.b_ ?_ | apply BX.drew | apply BX.drewN | refine BX.put ?_ | refine BX.put2 ?_ | refine BX.f_ ?_ | apply BX.alloc | refine B3.n_ | exact B3.of nMx | refine B3.b_ ?_ | apply B3.drew | apply B3.drewN | refine B3.f_ ?_ | apply B3.alloc))))); (have nM1_1 : BM w5 bH (R : Int) (C : Int) A1 n1 k1 := (by (with_reducible (repeat (first | exact nM1 | refine BX.n_ | refine BX.b_ ?_ | apply BX.drew | apply BX.drewN | refine BX.put ?_ | refine BX.put2 ?_ | refine BX.f_ ?_ | apply BX.alloc | refine B3.n_ | exact B3.of nM1 | refine B3.b_ ?_ | apply B3.drew | apply B3.drewN | refine B3.f_ ?_ | apply B3.alloc))))); (have nM2_1 : BM w5 (bH + 1) (R : Int) (R : Int) A2 n2 k2 := (by (with_reducible (repeat (first | exact nM2 | refine BX.n_ | refine BX.b_ ?_ | apply BX.drew | apply BX.drewN | refine BX.put ?_ | refine BX.put2 ?_ | refine BX.f_ ?_ | apply BX.alloc | refine B3.n_ | exact B3.of nM2 | refine B3.b_ ?_ | apply B3.drew | apply B3.drewN | refine B3.f_ ?_ | apply B3.alloc))))); (have p1_1 : OR w5 (w.heap.size + 1) (.slice A1 n1 k1) (tb R C s.f) := (by (with_reducible (repeat (first | exact p1 | refine OR.drew ?_ | refine OR.drewN ?_ _ | refine OR.alloc ?_ _ | refine OR.b_ ?_ | refine OR.l_ ?_))))); (have p2_1 : OR w5 (w.heap.size + 1) (.slice A2 n2 k2) (tb R R s.g) := (by (with_reducible (repeat (first | exact p2 | refine OR.drew ?_ | refine OR.drewN ?_ _ | refine OR.alloc ?_ _ | refine OR.b_ ?_ | refine OR.l_ ?_))))); (have p4_1 : OR w5 (w.heap.size + 1) (.slice (some ⟨g4, 0, none⟩) n4 k4) cs := (by (with_reducible (repeat (first | exact p4 | refine OR.drew ?_ | refine OR.drewN ?_ _ | refine OR.alloc ?_ _ | refine OR.b_ ?_ | refine OR.l_ ?_))))); (have hbw_1 : Below w.heap.size w w5 := (by (repeat (first | (with_reducible (first | exact Below.refl _ _ | assumption | refine below_drewN ?_ _ | refine Below.drew ?_ | refine Below.alloc ?_ ?_ _ | refine Below.setCell ?_ ?_ _ | refine below_i ?_)) | go_size)))); clear nMx nM1 nM2 p1 p2 p4 hbw hb5; (have nMx := nMx_1); (have nM1 := nM1_1); (have nM2 := nM2_1); (have p1 := p1_1); (have p2 := p2_1); (have p4 := p4_1); (have hbw := hbw_1); clear nMx_1 nM1_1 nM2_1 p1_1 p2_1 p4_1 hbw_1
          clear c1
          go_wp2_with fail
          go_loopw [13, 53] (fun vo u wr => ∃ (j : Nat) (P : Option Addr) (pc : Nat) (qs : List Int), u = .int .i64 j ∧ vo = .slice P j pc ∧ j ≤ R ∧ Hid (riL R s.g k z j = qs) ∧ BM wr w.heap.size R C A n cap ∧ BM wr bH (R : Int) (C : Int) A1 n1 k1 ∧ BM wr (bH + 1) (R : Int) (R : Int) A2 n2 k2 ∧ OR wr (w.heap.size + 1) (.slice A1 n1 k1) (tb R C s.f) ∧ OR wr (w.heap.size + 1) (.slice A2 n2 k2) (tb R R s.g) ∧ OR wr (w.heap.size + 1) (.slice (some ⟨g4, 0, none⟩) n4 k4) cs ∧ OF wr bQ (.slice P j pc) j qs ∧ bQ ≤ wr.heap.size ∧ Below w.heap.size w wr ∧ RI wr bQ Ar R (rowL (tb R R s.g) R k)) (fun _ u _ => R - (intOf u).toNat)
          case atStart => exact ⟨0, _, _, [], rfl, rfl, Nat.zero_le _, Lib.hid rfl, nMx, nM1, nM2, p1, p2, p4, hof, by omega, hbw, hrow⟩
          case round =>
            clear nMx nM1 nM2 p1 p2 p4 hof hbw hszq hrow
            obtain ⟨j, P, pc, qs, rfl, rfl, hj, HQS, nMx, nM1, nM2, p1, p2, p4, hof, hszq, hbw, hrow⟩ := hrel
            obtain ⟨ma, mb, mc, mf, ml⟩ := nMx.mx; obtain ⟨ua, ub, uc, uf, ul⟩ := nM1.mx; obtain ⟨va, vb, vc, vf, vl⟩ := nM2.mx
            have hszr := hbw.size
            by_cases hjR : j < R
            · obtain ⟨x, hxv⟩ : ∃ x, s.g k j = x := ⟨_, rfl⟩
              have HXV := Lib.hid hxv
              obtain ⟨br, or, rfl, hbr, -⟩ := hrow.2 (by omega)
              have cx := RI.at_ hrow (k := j) hjR
              rw [rowL_getD hjR, cel_tb HKR.out hjR, HXV.out] at cx
              have HROW := Lib.hid hrow
              clear hrow hxv
              go_wp2_with fail
              refine (impl_MakeRatio x z _).mono ?_
              obtain ⟨q, hq⟩ : ∃ q, makR x z = q := ⟨_, rfl⟩
              have HDN : Hid (riL R s.g k z (j + 1) = qs ++ [q.1, q.2]) := Lib.hid (riL_next HQS.out HXV.out hq (HG.out k j HKR.out hjR) HZN.out hzn0)
              rw [hq]
              clear hq
              rintro e w5 ⟨rfl, hb7⟩
              unfold rV
              clear ma mb mc mf ml ua ub uc uf ul va vb vc vf vl
              have hsz7 := hb7.size
              have hof7 : OF w5 bQ (.slice P j pc) j qs := by (with_reducible (repeat (first | exact hof | refine OF.drew ?_ | refine OF.drewN ?_ _ | refine OF.alloc ?_ _ | refine OF.b_ ?_ | refine OF.l_ ?_)))
              have hrw7 : RI w5 bQ (some ⟨br, or, none⟩) R (rowL (tb R R s.g) R k) := (by (with_reducible (repeat (first | exact HROW.out | refine RI.drew ?_ | refine RI.drewN ?_ _ | refine RI.a_ ?_ | refine RI.s_ ?_ | refine RI.b_ ?_))))
              (have hs5 := hb7.size); (try simp at hs5); (have nMx_1 : BM w5 w.heap.size R C A n cap := (by (with_reducible (repeat (first | exact nMx | refine BX.n_ | refine BX.b_ ?_ | apply BX.drew | apply BX.drewN | refine BX.put ?_ | refine BX.put2 ?_ | refine BX.f_ ?_ | apply BX.alloc | refine B3.n_ | exact B3.of nMx | refine B3.b_ ?_ | apply B3.drew | apply B3.drewN | refine B3.f_ ?_ | apply B3.alloc))))); (have nM1_1 : BM w5 bH (R : Int) (C : Int) A1 n1 k1 := (by (with_reducible (repeat (first | exact nM1 | refine BX.n_ | refine BX.b_ ?_ | apply BX.drew | apply BX.drewN | refine BX.put ?_ | refine BX.put2 ?_ | refine BX.f_ ?_ | apply BX.alloc | refine B3.n_ | exact B3.of nM1 | refine B3.b_ ?_ | apply B3.drew | apply B3.drewN | refine B3.f_ ?_ | apply B3.alloc))))); (have nM2_1 : BM w5 (bH + 1) (R : Int) (R : Int) A2 n2 k2 := (by (with_reducible (repeat (first | exact nM2 | refine BX.n_ | refine BX.b_ ?_ | apply BX.drew | apply BX.drewN | refine BX.put ?_ | refine BX.put2 ?_ | refine BX.f_ ?_ | apply BX.alloc | refine B3.n_ | exact B3.of nM2 | refine B3.b_ ?_ | apply B3.drew | apply B3.drewN | refine B3.f_ ?_ | apply B3.alloc))))); (have p1_1 : OR w5 (w.heap.size + 1) (.slice A1 n1 k1) (tb R C s.f) := (by (with_reducible (repeat (first | exact p1 | refine OR.drew ?_ | refine OR.drewN ?_ _ | refine OR.alloc ?_ _ | refine OR.b_ ?_ | refine OR.l_ ?_))))); (have p2_1 : OR w5 (w.heap.size + 1) (.slice A2 n2 k2) (tb R R s.g) := (by (with_reducible (repeat (first | exact p2 | refine OR.drew ?_ | refine OR.drewN ?_ _ | refine OR.alloc ?_ _ | refine OR.b_ ?_ | refine OR.l_ ?_))))); (have p4_1 : OR w5 (w.heap.size + 1) (.slice (some ⟨g4, 0, none⟩) n4 k4) cs := (by (with_reducible (repeat (first | exact p4 | refine OR.drew ?_ | refine OR.drewN ?_ _ | refine OR.alloc ?_ _ | refine OR.b_ ?_ | refine OR.l_ ?_))))); (have hbw_1 : Below w.heap.size w w5 := (by (repeat (first | (with_reducible (first | exact Below.refl _ _ | assumption | refine below_drewN ?_ _ | refine Below.drew ?_ | refine Below.alloc ?_ ?_ _ | refine Below.setCell ?_ ?_ _ | refine below_i ?_)) | go_size)))); clear nMx nM1 nM2 p1 p2 p4 hbw hb7; (have nMx := nMx_1); (have nM1 := nM1_1); (have nM2 := nM2_1); (have p1 := p1_1); (have p2 := p2_1); (have p4 := p4_1); (have hbw := hbw_1); clear nMx_1 nM1_1 nM2_1 p1_1 p2_1 p4_1 hbw_1
              go_wp2_with (at_builtin; refine wpList_append_ratio _ rfl (.tmp 57) (.tmp 61) rfl bQ _ j qs rfl (hof7.alloc _) _ q.1 q.2 rfl ?f1 ?f2 ?f3 ?f4 ?_)
              case f1 => simp [go_sem]
              case f2 => simp [go_sem]
              case f3 => omega
              case f4 => simp; omega
              intro v1 w6 hown1 hgr hat
              have nMx_2 := (nMx.alloc (.cells #[.int .i64 q.1, .int .i64 q.2] 50)).grown hgr (hof7.ne_low (by omega))
              have nM1_2 := (nM1.alloc (.cells #[.int .i64 q.1, .int .i64 q.2] 50)).grown hgr (hof7.ne_low (by omega))
              have nM2_2 := (nM2.alloc (.cells #[.int .i64 q.1, .int .i64 q.2] 50)).grown hgr (hof7.ne_low (by omega))
              have hsv := hof7.own
              have p1_2 := OR.keptOwn (p1.alloc (.cells #[.int .i64 q.1, .int .i64 q.2] 50)) hgr OW1.out hsv (.inl (Nat.le_refl _))
              have p2_2 := OR.keptOwn (p2.alloc (.cells #[.int .i64 q.1, .int .i64 q.2] 50)) hgr OW2.out hsv (.inl (Nat.le_refl _))
              have p4_2 := OR.keptOwn (p4.alloc (.cells #[.int .i64 q.1, .int .i64 q.2] 50)) hgr OW4.out hsv (.inl (Nat.le_refl _))
              have hgr2 := hgr
              have hb8 := Below.trans (show Below w.heap.size w (w5.alloc (.cells #[.int .i64 q.1, .int .i64 q.2] 50)) by (repeat (first | (with_reducible (first | exact Below.refl _ _ | assumption | refine below_drewN ?_ _ | refine Below.drew ?_ | refine Below.alloc ?_ ?_ _ | refine Below.setCell ?_ ?_ _ | refine below_i ?_)) | go_size))) ((hof7.alloc (.cells #[.int .i64 q.1, .int .i64 q.2] 50)).below_grown hgr (by simp; omega) |>.mono (by omega))
              have hsz8 := hgr.size
              simp at hsz8
              obtain ⟨P', pc', rfl⟩ := hown1.shape
              clear hof hof7 hgr hat nMx nM1 nM2 p1 p2 p4 hbw
              have hrw8 := RI.keptOwn (hrw7.alloc (by omega) (.cells #[.int .i64 q.1, .int .i64 q.2] 50)) hgr2 hsv (Nat.le_refl _) (by simp; omega)
              clear hrw7 hgr2
              go_wp2_with fail
              go_roundw
              case rel => exact ⟨j + 1, P', pc', qs ++ [q.1, q.2], by go_num, rfl, by omega, HDN, by (with_reducible (repeat (first | exact nMx_2 | refine BX.n_ | refine BX.b_ ?_ | apply BX.drew | apply BX.drewN | refine BX.put ?_ | refine BX.put2 ?_ | refine BX.f_ ?_ | apply BX.alloc | refine B3.n_ | exact B3.of nMx_2 | refine B3.b_ ?_ | apply B3.drew | apply B3.drewN | refine B3.f_ ?_ | apply B3.alloc))), by (with_reducible (repeat (first | exact nM1_2 | refine BX.n_ | refine BX.b_ ?_ | apply BX.drew | apply BX.drewN | refine BX.put ?_ | refine BX.put2 ?_ | refine BX.f_ ?_ | apply BX.alloc | refine B3.n_ | exact B3.of nM1_2 | refine B3.b_ ?_ | apply B3.drew | apply B3.drewN | refine B3.f_ ?_ | apply B3.alloc))), by (with_reducible (repeat (first | exact nM2_2 | refine BX.n_ | refine BX.b_ ?_ | apply BX.drew | apply BX.drewN | refine BX.put ?_ | refine BX.put2 ?_ | refine BX.f_ ?_ | apply BX.alloc | refine B3.n_ | exact B3.of nM2_2 | refine B3.b_ ?_ | apply B3.drew | apply B3.drewN | refine B3.f_ ?_ | apply B3.alloc))), by (with_reducible (repeat (first | exact p1_2 | refine OR.drew ?_ | refine OR.drewN ?_ _ | refine OR.alloc ?_ _ | refine OR.b_ ?_ | refine OR.l_ ?_))), by (with_reducible (repeat (first | exact p2_2 | refine OR.drew ?_ | refine OR.drewN ?_ _ | refine OR.alloc ?_ _ | refine OR.b_ ?_ | refine OR.l_ ?_))), by (with_reducible (repeat (first | exact p4_2 | refine OR.drew ?_ | refine OR.drewN ?_ _ | refine OR.alloc ?_ _ | refine OR.b_ ?_ | refine OR.l_ ?_))), by (with_reducible (repeat (first | exact hown1 | refine OF.drew ?_ | refine OF.drewN ?_ _ | refine OF.alloc ?_ _ | refine OF.b_ ?_ | refine OF.l_ ?_))), (by first | omega | (simp; done) | (simp; omega)), by (repeat (first | (with_reducible (first | exact Below.refl _ _ | assumption | refine below_drewN ?_ _ | refine Below.drew ?_ | refine Below.alloc ?_ ?_ _ | refine Below.setCell ?_ ?_ _ | refine below_i ?_)) | go_size)), by (with_reducible (repeat (first | exact hrw8 | refine RI.drew ?_ | refine RI.drewN ?_ _ | refine RI.a_ ?_ | refine RI.s_ ?_ | refine RI.b_ ?_)))⟩
              case measure => simp only [intOf]; omega
            · obtain rfl : j = R := by omega
              have HOF := Lib.hid (show OF _ bQ (.slice P j pc) j (riL j s.g k z j) by rw [HQS.out]; exact hof)
              clear hof hrow
              go_wp2_with fail
              go_ret2
              exact QIR.mk (by rw [HR.out]) (OF.mono (B := bQ) (by (with_reducible (repeat (first | exact HOF.out | refine OF.drew ?_ | refine OF.drewN ?_ _ | refine OF.alloc ?_ _ | refine OF.b_ ?_ | refine OF.l_ ?_)))) (by omega)) (by (repeat (first | (with_reducible (first | exact Below.refl _ _ | assumption | refine below_drewN ?_ _ | refine Below.drew ?_ | refine Below.alloc ?_ ?_ _ | refine Below.setCell ?_ ?_ _ | refine below_i ?_)) | go_size)))
      · have hz2 : d = z := by rw [← hzv]; unfold riN; rw [if_neg hd0]
        have hdb : (z == 0) = false := by simpa using hzn0
        have HDZ := Lib.hid (HDV.out.trans hz2)
        clear hd0 hz2 hzv
        go_wp2_with fail
        refine (impl_diagonal R C k A1 n1 k1 s.f _ (B := (w.heap.size + 1)) (by (with_reducible (repeat (first | exact p1 | refine OR.drew ?_ | refine OR.drewN ?_ _ | refine OR.alloc ?_ _ | refine OR.b_ ?_ | refine OR.l_ ?_)))) (by omega) hR hC).mono ?_
        rw [HDZ.out]
        rintro e w4 ⟨rfl, hb4⟩
        clear ma mb mc mf ml ua ub uc uf ul va vb vc vf vl
        have hs4 := hb4.size
        have c1' := (hb4.cell (p := ⟨g4, k, none⟩) (by simpa using hg2)).trans c1
        (have hs5 := hb4.size); (try simp at hs5); (have nMx_1 : BM w4 w.heap.size R C A n cap := (by (with_reducible (repeat (first | exact nMx | refine BX.n_ | refine BX.b_ ?_ | apply BX.drew | apply BX.drewN | refine BX.put ?_ | refine BX.put2 ?_ | refine BX.f_ ?_ | apply BX.alloc | refine B3.n_ | exact B3.of nMx | refine B3.b_ ?_ | apply B3.drew | apply B3.drewN | refine B3.f_ ?_ | apply B3.alloc))))); (have nM1_1 : BM w4 bH (R : Int) (C : Int) A1 n1 k1 := (by (with_reducible (repeat (first | exact nM1 | refine BX.n_ | refine BX.b_ ?_ | apply BX.drew | apply BX.drewN | refine BX.put ?_ | refine BX.put2 ?_ | refine BX.f_ ?_ | apply BX.alloc | refine B3.n_ | exact B3.of nM1 | refine B3.b_ ?_ | apply B3.drew | apply B3.drewN | refine B3.f_ ?_ | apply B3.alloc))))); (have nM2_1 : BM w4 (bH + 1) (R : Int) (R : Int) A2 n2 k2 := (by (with_reducible (repeat (first | exact nM2 | refine BX.n_ | refine BX.b_ ?_ | apply BX.drew | apply BX.drewN | refine BX.put ?_ | refine BX.put2 ?_ | refine BX.f_ ?_ | apply BX.alloc | refine B3.n_ | exact B3.of nM2 | refine B3.b_ ?_ | apply B3.drew | apply B3.drewN | refine B3.f_ ?_ | apply B3.alloc))))); (have p1_1 : OR w4 (w.heap.size + 1) (.slice A1 n1 k1) (tb R C s.f) := (by (with_reducible (repeat (first | exact p1 | refine OR.drew ?_ | refine OR.drewN ?_ _ | refine OR.alloc ?_ _ | refine OR.b_ ?_ | refine OR.l_ ?_))))); (have p2_1 : OR w4 (w.heap.size + 1) (.slice A2 n2 k2) (tb R R s.g) := (by (with_reducible (repeat (first | exact p2 | refine OR.drew ?_ | refine OR.drewN ?_ _ | refine OR.alloc ?_ _ | refine OR.b_ ?_ | refine OR.l_ ?_))))); (have p4_1 : OR w4 (w.heap.size + 1) (.slice (some ⟨g4, 0, none⟩) n4 k4) cs := (by (with_reducible (repeat (first | exact p4 | refine OR.drew ?_ | refine OR.drewN ?_ _ | refine OR.alloc ?_ _ | refine OR.b_ ?_ | refine OR.l_ ?_))))); (have hbw_1 : Below w.heap.size w w4 := (by (repeat (first | (with_reducible (first | exact Below.refl _ _ | assumption | refine below_drewN ?_ _ | refine Below.drew ?_ | refine Below.alloc ?_ ?_ _ | refine Below.setCell ?_ ?_ _ | refine below_i ?_)) | go_size)))); clear nMx nM1 nM2 p1 p2 p4 hbw hb4; (have nMx := nMx_1); (have nM1 := nM1_1); (have nM2 := nM2_1); (have p1 := p1_1); (have p2 := p2_1); (have p4 := p4_1); (have hbw := hbw_1); clear nMx_1 nM1_1 nM2_1 p1_1 p2_1 p4_1 hbw_1
        obtain ⟨ma, mb, mc, mf, ml⟩ := nMx.mx; obtain ⟨ua, ub, uc, uf, ul⟩ := nM1.mx; obtain ⟨va, vb, vc, vf, vl⟩ := nM2.mx
        clear c1
        have c1 := c1'
        clear c1'
        go_upto_region 10 with fail
        rcases hnm : isNum z with _ | _
        · skip
          have HR := Lib.hid (HN.out hnm)
          have hnb := (isNum_not _).1 hnm
          clear hnm
          go_wp2_with (first | (go_at_call 95; (first | refine (impl_IsNumber_yes _ _ (by omega)).mono ?_ | refine (impl_IsNumber_no _ _ (by omega)).mono ?_ | refine (impl_IsNumber _ _).mono ?_); rintro e w' ⟨rfl, rfl⟩))
          go_ret2; exact QIR.mk (by rw [HR.out]) (OF.empty _ _ (by simp) (by first | omega | (simp; done) | (simp; omega))) (by (repeat (first | (with_reducible (first | exact Below.refl _ _ | assumption | refine below_drewN ?_ _ | refine Below.drew ?_ | refine Below.alloc ?_ ?_ _ | refine Below.setCell ?_ ?_ _ | refine below_i ?_)) | go_size)))
        · skip
          have HR := Lib.hid (HY.out hnm)
          have HZN : Hid (Num z) := Lib.hid (Num.of hnm)
          obtain ⟨zn1, zn2⟩ := Num.of hnm
          clear hnm
          have hn2 : n2 ≤ 1048576 ∧ n2 ≤ R * R ∧ R * R ≤ n2 := by have h8 := p2.lenEq; rw [tb_len] at h8; have := Nat.mul_le_mul hR hR; omega
          have hkn : k * R + R ≤ n2 := by have h8 := Nat.mul_le_mul_right R (show k + 1 ≤ R by omega); rw [Nat.add_mul, Nat.one_mul] at h8; omega
          have hcp := p2.caps
          have HP2 := Lib.hid p2.reads
          go_wp2_with (first | (go_at_call 95; (first | refine (impl_IsNumber_yes _ _ (by omega)).mono ?_ | refine (impl_IsNumber_no _ _ (by omega)).mono ?_ | refine (impl_IsNumber _ _).mono ?_); rintro e w' ⟨rfl, rfl⟩))
          generalize hbq : w4.heap.size = bQ at *
          have OW1 : Hid (Own (.slice A1 n1 k1) (w.heap.size + 1) bQ) := Lib.hid (by rw [← hbq]; exact p1.own)
          have OW2 : Hid (Own (.slice A2 n2 k2) (w.heap.size + 1) bQ) := Lib.hid (by rw [← hbq]; exact p2.own)
          have OW4 : Hid (Own (.slice (some ⟨g4, 0, none⟩) n4 k4) (w.heap.size + 1) bQ) := Lib.hid (by rw [← hbq]; exact p4.own)
          have hbB : bH + 1 < bQ := by omega
          refine (impl_row R R k A2 n2 k2 (tb R R s.g) _ (B := bQ) (by (with_reducible (repeat (first | exact HP2.out | refine RI.drew ?_ | refine RI.drewN ?_ _ | refine RI.a_ ?_ | refine RI.s_ ?_ | refine RI.b_ ?_)))) (by simp; omega) hcp.1 hcp.2 (by omega) (by omega) hkn).mono ?_
          rintro e w5 ⟨Ar, cr, rfl, hrow, hb5, hcr1, hcr2⟩
          clear hkn hn2 hcp hcr1 hcr2
          clear ma mb mc mf ml ua ub uc uf ul va vb vc vf vl
          have hof : OF w5 bQ (.slice (some ⟨bQ, 0, none⟩) 0 0) 0 [] := by have hof0 : OF (w4.alloc (.cells #[] 50)) bQ (.slice (some ⟨bQ, 0, none⟩) 0 0) 0 [] := OF.empty _ _ hbq.symm (by omega); (with_reducible (repeat (first | exact hof0 | refine OF.drew ?_ | refine OF.drewN ?_ _ | refine OF.alloc ?_ _ | refine OF.b_ ?_ | refine OF.l_ ?_)))
          have hszq := hb5.size
          simp at hszq
          (have hs5 := hb5.size); (try simp at hs5); (have nMx_1 : BM w5 w.heap.size R C A n cap := (by (with_reducible (repeat (first | exact nMx | refine BX.n_ | refine BX.b_ ?_ | apply BX.drew | apply BX.drewN | refine BX.put ?_ | refine BX.put2 ?_ | refine BX.f_ ?_ | apply BX.alloc | refine B3.n_ | exact B3.of nMx | refine B3.b_ ?_ | apply B3.drew | apply B3.drewN | refine B3.f_ ?_ | apply B3.alloc))))); (have nM1_1 : BM w5 bH (R : Int) (C : Int) A1 n1 k1 := (by (with_reducible (repeat (first | exact nM1 | refine BX.n_ | refine BX.b_ ?_ | apply BX.drew | apply BX.drewN | refine BX.put ?_ | refine BX.put2 ?_ | refine BX.f_ ?_ | apply BX.alloc | refine B3.n_ | exact B3.of nM1 | refine B3.b_ ?_ | apply B3.drew | apply B3.drewN | refine B3.f_ ?_ | apply B3.alloc))))); (have nM2_1 : BM w5 (bH + 1) (R : Int) (R : Int) A2 n2 k2 := (by (with_reducible (repeat (first | exact nM2 | refine BX.n_ | refine BX.b_ ?_ | apply BX.drew | apply BX.drewN | refine BX.put ?_ | refine BX.put2 ?_ | refine BX.f_ ?_ | apply BX.alloc | refine B3.n_ | exact B3.of nM2 | refine B3.b_ ?_ | apply B3.drew | apply B3.drewN | refine B3.f_ ?_ | apply B3.alloc))))); (have p1_1 : OR w5 (w.heap.size + 1) (.slice A1 n1 k1) (tb R C s.f) := (by (with_reducible (repeat (first | exact p1 | refine OR.drew ?_ | refine OR.drewN ?_ _ | refine OR.alloc ?_ _ | refine OR.b_ ?_ | refine OR.l_ ?_))))); (have p2_1 : OR w5 (w.heap.size + 1) (.slice A2 n2 k2) (tb R R s.g) := (by (with_reducible (repeat (first | exact p2 | refine OR.drew ?_ | refine OR.drewN ?_ _ | refine OR.alloc ?_ _ | refine OR.b_ ?_ | refine OR.l_ ?_))))); (have p4_1 : OR w5 (w.heap.size + 1) (.slice (some ⟨g4, 0, none⟩) n4 k4) cs := (by (with_reducible (repeat (first | exact p4 | refine OR.drew ?_ | refine OR.drewN ?_ _ | refine OR.alloc ?_ _ | refine OR.b_ ?_ | refine OR.l_ ?_))))); (have hbw_1 : Below w.heap.size w w5 := (by (repeat (first | (with_reducible (first | exact Below.refl _ _ | assumption | refine below_drewN ?_ _ | refine Below.drew ?_ | refine Below.alloc ?_ ?_ _ | refine Below.setCell ?_ ?_ _ | refine below_i ?_)) | go_size)))); clear nMx nM1 nM2 p1 p2 p4 hbw hb5; (have nMx := nMx_1); (have nM1 := nM1_1); (have nM2 := nM2_1); (have p1 := p1_1); (have p2 := p2_1); (have p4 := p4_1); (have hbw := hbw_1); clear nMx_1 nM1_1 nM2_1 p1_1 p2_1 p4_1 hbw_1
          clear c1
          go_wp2_with fail
          go_loopw [13, 53] (fun vo u wr => ∃ (j : Nat) (P : Option Addr) (pc : Nat) (qs : List Int), u = .int .i64 j ∧ vo = .slice P j pc ∧ j ≤ R ∧ Hid (riL R s.g k z j = qs) ∧ BM wr w.heap.size R C A n cap ∧ BM wr bH (R : Int) (C : Int) A1 n1 k1 ∧ BM wr (bH + 1) (R : Int) (R : Int) A2 n2 k2 ∧ OR wr (w.heap.size + 1) (.slice A1 n1 k1) (tb R C s.f) ∧ OR wr (w.heap.size + 1) (.slice A2 n2 k2) (tb R R s.g) ∧ OR wr (w.heap.size + 1) (.slice (some ⟨g4, 0, none⟩) n4 k4) cs ∧ OF wr bQ (.slice P j pc) j qs ∧ bQ ≤ wr.heap.size ∧ Below w.heap.size w wr ∧ RI wr bQ Ar R (rowL (tb R R s.g) R k)) (fun _ u _ => R - (intOf u).toNat)
          case atStart => exact ⟨0, _, _, [], rfl, rfl, Nat.zero_le _, Lib.hid rfl, nMx, nM1, nM2, p1, p2, p4, hof, by omega, hbw, hrow⟩
          case round =>
            clear nMx nM1 nM2 p1 p2 p4 hof hbw hszq hrow
            obtain ⟨j, P, pc, qs, rfl, rfl, hj, HQS, nMx, nM1, nM2, p1, p2, p4, hof, hszq, hbw, hrow⟩ := hrel
            obtain ⟨ma, mb, mc, mf, ml⟩ := nMx.mx; obtain ⟨ua, ub, uc, uf, ul⟩ := nM1.mx; obtain ⟨va, vb, vc, vf, vl⟩ := nM2.mx
            have hszr := hbw.size
            by_cases hjR : j < R
            · obtain ⟨x, hxv⟩ : ∃ x, s.g k j = x := ⟨_, rfl⟩
              have HXV := Lib.hid hxv
              obtain ⟨br, or, rfl, hbr, -⟩ := hrow.2 (by omega)
              have cx := RI.at_ hrow (k := j) hjR
              rw [rowL_getD hjR, cel_tb HKR.out hjR, HXV.out] at cx
              have HROW := Lib.hid hrow
              clear hrow hxv
              go_wp2_with fail
              refine (impl_MakeRatio x z _).mono ?_
              obtain ⟨q, hq⟩ : ∃ q, makR x z = q := ⟨_, rfl⟩
              have HDN : Hid (riL R s.g k z (j + 1) = qs ++ [q.1, q.2]) := Lib.hid (riL_next HQS.out HXV.out hq (HG.out k j HKR.out hjR) HZN.out hzn0)
              rw [hq]
              clear hq
              rintro e w5 ⟨rfl, hb7⟩
              unfold rV
              clear ma mb mc mf ml ua ub uc uf ul va vb vc vf vl
              have hsz7 := hb7.size
              have hof7 : OF w5 bQ (.slice P j pc) j qs := by (with_reducible (repeat (first | exact hof | refine OF.drew ?_ | refine OF.drewN ?_ _ | refine OF.alloc ?_ _ | refine OF.b_ ?_ | refine OF.l_ ?_)))
              have hrw7 : RI w5 bQ (some ⟨br, or, none⟩) R (rowL (tb R R s.g) R k) := (by (with_reducible (repeat (first | exact HROW.out | refine RI.drew ?_ | refine RI.drewN ?_ _ | refine RI.a_ ?_ | refine RI.s_ ?_ | refine RI.b_ ?_))))
              (have hs5 := hb7.size); (try simp at hs5); (have nMx_1 : BM w5 w.heap.size R C A n cap := (by (with_reducible (repeat (first | exact nMx | refine BX.n_ | refine BX.b_ ?_ | apply BX.drew | apply BX.drewN | refine BX.put ?_ | refine BX.put2 ?_ | refine BX.f_ ?_ | apply BX.alloc | refine B3.n_ | exact B3.of nMx | refine B3.b_ ?_ | apply B3.drew | apply B3.drewN | refine B3.f_ ?_ | apply B3.alloc))))); (have nM1_1 : BM w5 bH (R : Int) (C : Int) A1 n1 k1 := (by (with_reducible (repeat (first | exact nM1 | refine BX.n_ | refine BX.b_ ?_ | apply BX.drew | apply BX.drewN | refine BX.put ?_ | refine BX.put2 ?_ | refine BX.f_ ?_ | apply BX.alloc | refine B3.n_ | exact B3.of nM1 | refine B3.b_ ?_ | apply B3.drew | apply B3.drewN | refine B3.f_ ?_ | apply B3.alloc))))); (have nM2_1 : BM w5 (bH + 1) (R : Int) (R : Int) A2 n2 k2 := (by (with_reducible (repeat (first | exact nM2 | refine BX.n_ | refine BX.b_ ?_ | apply BX.drew | apply BX.drewN | refine BX.put ?_ | refine BX.put2 ?_ | refine BX.f_ ?_ | apply BX.alloc | refine B3.n_ | exact B3.of nM2 | refine B3.b_ ?_ | apply B3.drew | apply B3.drewN | refine B3.f_ ?_ | apply B3.alloc))))); (have p1_1 : OR w5 (w.heap.size + 1) (.slice A1 n1 k1) (tb R C s.f) := (by (with_reducible (repeat (first | exact p1 | refine OR.drew ?_ | refine OR.drewN ?_ _ | refine OR.alloc ?_ _ | refine OR.b_ ?_ | refine OR.l_ ?_))))); (have p2_1 : OR w5 (w.heap.size + 1) (.slice A2 n2 k2) (tb R R s.g) := (by (with_reducible (repeat (first | exact p2 | refine OR.drew ?_ | refine OR.drewN ?_ _ | refine OR.alloc ?_ _ | refine OR.b_ ?_ | refine OR.l_ ?_))))); (have p4_1 : OR w5 (w.heap.size + 1) (.slice (some ⟨g4, 0, none⟩) n4 k4) cs := (by (with_reducible (repeat (first | exact p4 | refine OR.drew ?_ | refine OR.drewN ?_ _ | refine OR.alloc ?_ _ | refine OR.b_ ?_ | refine OR.l_ ?_))))); (have hbw_1 : Below w.heap.size w w5 := (by (repeat (first | (with_reducible (first | exact Below.refl _ _ | assumption | refine below_drewN ?_ _ | refine Below.drew ?_ | refine Below.alloc ?_ ?_ _ | refine Below.setCell ?_ ?_ _ | refine below_i ?_)) | go_size)))); clear nMx nM1 nM2 p1 p2 p4 hbw hb7; (have nMx := nMx_1); (have nM1 := nM1_1); (have nM2 := nM2_1); (have p1 := p1_1); (have p2 := p2_1); (have p4 := p4_1); (have hbw := hbw_1); clear nMx_1 nM1_1 nM2_1 p1_1 p2_1 p4_1 hbw_1
              go_wp2_with (at_builtin; refine wpList_append_ratio _ rfl (.tmp 57) (.tmp 61) rfl bQ _ j qs rfl (hof7.alloc _) _ q.1 q.2 rfl ?f1 ?f2 ?f3 ?f4 ?_)
              case f1 => simp [go_sem]
              case f2 => simp [go_sem]
              case f3 => omega
              case f4 => simp; omega
              intro v1 w6 hown1 hgr hat
              have nMx_2 := (nMx.alloc (.cells #[.int .i64 q.1, .int .i64 q.2] 50)).grown hgr (hof7.ne_low (by omega))
              have nM1_2 := (nM1.alloc (.cells #[.int .i64 q.1, .int .i64 q.2] 50)).grown hgr (hof7.ne_low (by omega))
              have nM2_2 := (nM2.alloc (.cells #[.int .i64 q.1, .int .i64 q.2] 50)).grown hgr (hof7.ne_low (by omega))
              have hsv := hof7.own
              have p1_2 := OR.keptOwn (p1.alloc (.cells #[.int .i64 q.1, .int .i64 q.2] 50)) hgr OW1.out hsv (.inl (Nat.le_refl _))
              have p2_2 := OR.keptOwn (p2.alloc (.cells #[.int .i64 q.1, .int .i64 q.2] 50)) hgr OW2.out hsv (.inl (Nat.le_refl _))
              have p4_2 := OR.keptOwn (p4.alloc (.cells #[.int .i64 q.1, .int .i64 q.2] 50)) hgr OW4.out hsv (.inl (Nat.le_refl _))
              have hgr2 := hgr
              have hb8 := Below.trans (show Below w.heap.size w (w5.alloc (.cells #[.int .i64 q.1, .int .i64 q.2] 50)) by (repeat (first | (with_reducible (first | exact Below.refl _ _ | assumption | refine below_drewN ?_ _ | refine Below.drew ?_ | refine Below.alloc ?_ ?_ _ | refine Below.setCell ?_ ?_ _ | refine below_i ?_)) | go_size))) ((hof7.alloc (.cells #[.int .i64 q.1, .int .i64 q.2] 50)).below_grown hgr (by simp; omega) |>.mono (by omega))
              have hsz8 := hgr.size
              simp at hsz8
              obtain ⟨P', pc', rfl⟩ := hown1.shape
              clear hof hof7 hgr hat nMx nM1 nM2 p1 p2 p4 hbw
              have hrw8 := RI.keptOwn (hrw7.alloc (by omega) (.cells #[.int .i64 q.1, .int .i64 q.2] 50)) hgr2 hsv (Nat.le_refl _) (by simp; omega)
              clear hrw7 hgr2
              go_wp2_with fail
              go_roundw
              case rel => exact ⟨j + 1, P', pc', qs ++ [q.1, q.2], by go_num, rfl, by omega, HDN, by (with_reducible (repeat (first | exact nMx_2 | refine BX.n_ | refine BX.b_ ?_ | apply BX.drew | apply BX.drewN | refine BX.put ?_ | refine BX.put2 ?_ | refine BX.f_ ?_ | apply BX.alloc | refine B3.n_ | exact B3.of nMx_2 | refine B3.b_ ?_ | apply B3.drew | apply B3.drewN | refine B3.f_ ?_ | apply B3.alloc))), by (with_reducible (repeat (first | exact nM1_2 | refine BX.n_ | refine BX.b_ ?_ | apply BX.drew | apply BX.drewN | refine BX.put ?_ | refine BX.put2 ?_ | refine BX.f_ ?_ | apply BX.alloc | refine B3.n_ | exact B3.of nM1_2 | refine B3.b_ ?_ | apply B3.drew | apply B3.drewN | refine B3.f_ ?_ | apply B3.alloc))), by (with_reducible (repeat (first | exact nM2_2 | refine BX.n_ | refine BX.b_ ?_ | apply BX.drew | apply BX.drewN | refine BX.put ?_ | refine BX.put2 ?_ | refine BX.f_ ?_ | apply BX.alloc | refine B3.n_ | exact B3.of nM2_2 | refine B3.b_ ?_ | apply B3.drew | apply B3.drewN | refine B3.f_ ?_ | apply B3.alloc))), by (with_reducible (repeat (first | exact p1_2 | refine OR.drew ?_ | refine OR.drewN ?_ _ | refine OR.alloc ?_ _ | refine OR.b_ ?_ | refine OR.l_ ?_))), by (with_reducible (repeat (first | exact p2_2 | refine OR.drew ?_ | refine OR.drewN ?_ _ | refine OR.alloc ?_ _ | refine OR.b_ ?_ | refine OR.l_ ?_))), by (with_reducible (repeat (first | exact p4_2 | refine OR.drew ?_ | refine OR.drewN ?_ _ | refine OR.alloc ?_ _ | refine OR.b_ ?_ | refine OR.l_ ?_))), by (with_reducible (repeat (first | exact hown1 | refine OF.drew ?_ | refine OF.drewN ?_ _ | refine OF.alloc ?_ _ | refine OF.b_ ?_ | refine OF.l_ ?_))), (by first | omega | (simp; done) | (simp; omega)), by (repeat (first | (with_reducible (first | exact Below.refl _ _ | assumption | refine below_drewN ?_ _ | refine Below.drew ?_ | refine Below.alloc ?_ ?_ _ | refine Below.setCell ?_ ?_ _ | refine below_i ?_)) | go_size)), by (with_reducible (repeat (first | exact hrw8 | refine RI.drew ?_ | refine RI.drewN ?_ _ | refine RI.a_ ?_ | refine RI.s_ ?_ | refine RI.b_ ?_)))⟩
              case measure => simp only [intOf]; omega
            · obtain rfl : j = R := by omega
              have HOF := Lib.hid (show OF _ bQ (.slice P j pc) j (riL j s.g k z j) by rw [HQS.out]; exact hof)
              clear hof hrow
              go_wp2_with fail
              go_ret2
              exact QIR.mk (by rw [HR.out]) (OF.mono (B := bQ) (by (with_reducible (repeat (first | exact HOF.out | refine OF.drew ?_ | refine OF.drewN ?_ _ | refine OF.alloc ?_ _ | refine OF.b_ ?_ | refine OF.l_ ?_)))) (by omega)) (by (repeat (first | (with_reducible (first | exact Below.refl _ _ | assumption | refine below_drewN ?_ _ | refine Below.drew ?_ | refine Below.alloc ?_ ?_ _ | refine Below.setCell ?_ ?_ _ | refine below_i ?_)) | go_size)))
end Go.Proofs.Ytmcbhpaajjlmmaa

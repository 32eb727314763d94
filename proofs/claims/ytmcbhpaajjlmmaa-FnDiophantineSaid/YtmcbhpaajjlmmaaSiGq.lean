/-
  DERIVED. SolveInteger of the program.
-/
import Derived.Test.YtmcbhpaajjlmmaaSiFq
import Derived.Test.YtmcbhpaajjlmmaaZ4
namespace Go.Proofs.Ytmcbhpaajjlmmaa
open Go.RowKit
set_option linter.unusedVariables false
set_option linter.unusedSimpArgs false
theorem siK_endC (R C : Nat) (s : SS) (cs : List Int) : siK R C s cs C = siY R C s cs := tab_cg fun j hj => if_pos hj
set_option maxRecDepth 100000 in
set_option maxHeartbeats 8000000 in
theorem impl_SolveInteger (r c : Int) (A Ab : Option Addr) (n cap nb capb : Nat) (xs bs : List Int) (w : World) {B B' : Nat} (h : RI w B A n xs) (hb : RI w B' Ab nb bs) (hB : B ≤ w.heap.size) (hB' : B' ≤ w.heap.size) (hn : n ≤ 1048576) (hnb : nb ≤ 1048576) :
    Calls Try.prog 19 #[.agg #[.int .i64 r, .int .i64 c, .slice A n cap], .slice Ab nb capb] w (IIR (siR r c xs bs).1 (siR r c xs bs).2 w) := by
  have hlb := hb.len
  have hlb2 : bs.length ≤ nb ∧ nb ≤ bs.length := by omega
  have HLB := Lib.hid hlb
  have H2 := Lib.hid (h.more hB)
  have H3 := Lib.hid (hb.more hB')
  clear h hb hlb
  rcases hS : siS r c xs bs with _ | ⟨s, cs⟩
  · have HR := Lib.hid (siR_fail hS)
    have HS := Lib.hid hS
    clear hS
    go_enter Try.func19, Try.ntmps19
    go_wp2_with fail
    refine (impl_smithFor r c A Ab n cap nb capb xs bs _ (B := w.heap.size) (B' := w.heap.size) (by (with_reducible (repeat (first | exact H2.out | refine RI.drew ?_ | refine RI.drewN ?_ _ | refine RI.a_ ?_ | refine RI.s_ ?_ | refine RI.b_ ?_)))) (by (with_reducible (repeat (first | exact H3.out | refine RI.drew ?_ | refine RI.drewN ?_ _ | refine RI.a_ ?_ | refine RI.s_ ?_ | refine RI.b_ ?_)))) (by first | omega | (simp; done) | (simp; omega)) (by first | omega | (simp; done) | (simp; omega)) hn hnb).mono ?_
    intro e w1 hk1
    obtain ⟨r1, c1, r2, c2, r3, c3, A1, A2, A3, A4, n1, k1, n2, k2, n3, k3, n4, k4, rfl, hb1⟩ := SFR.no HS.out hk1
    clear hk1
    have hs1 := hb1.size
    simp at hs1
    go_wp2_with fail
    go_ret2
    exact IIR.mk (by rw [HR.out]) (OR.empty' _ _ (by simp) (by first | omega | (simp; done) | (simp; omega))) (by (repeat (first | (with_reducible (first | exact Below.refl _ _ | assumption | refine below_drewN ?_ _ | refine Below.drew ?_ | refine Below.alloc ?_ ?_ _ | refine Below.setCell ?_ ?_ _ | refine below_i ?_)) | go_size)))
  · have hm : isMat r c xs = true := by
      rcases hm : isMat r c xs with _ | _
      · rw [siS_none (sfX_no hm)] at hS; cases hS
      · rfl
    have M := isMat_iff.1 hm
    obtain ⟨R, rfl⟩ := nat_of M.r0
    obtain ⟨C, rfl⟩ := nat_of M.c0
    have hR : R ≤ 24 := by have := M.r1; omega
    have hC : C ≤ 24 := by have := M.c1; omega
    obtain ⟨hX, hlen, hmul, hcs⟩ := siS_some hS
    have HOK : Hid (OKF R C s.f) := Lib.hid (sfX_gd hX).2.2.2.ok.f
    have hcl : cs.length = R := by rw [hcs, mulL_len]; omega
    have HCN : Hid (∀ k, Num (cs.getD k 0)) := Lib.hid (by
      unfold mulB at hmul
      rw [Bool.and_eq_true] at hmul
      have h2 := (isMat_iff.1 hmul.2).num
      simp only [Int.toNat_natCast] at h2
      rw [hcs]
      exact getD_num h2)
    have HS := Lib.hid hS
    have HCL := Lib.hid hcl
    have hcl2 : cs.length ≤ R ∧ R ≤ cs.length := by omega
    clear M hm hX hlen hmul hcs hcl hS
    go_enter Try.func19, Try.ntmps19
    go_wp2_with fail
    refine (impl_smithFor R C A Ab n cap nb capb xs bs _ (B := w.heap.size) (B' := w.heap.size) (by (with_reducible (repeat (first | exact H2.out | refine RI.drew ?_ | refine RI.drewN ?_ _ | refine RI.a_ ?_ | refine RI.s_ ?_ | refine RI.b_ ?_)))) (by (with_reducible (repeat (first | exact H3.out | refine RI.drew ?_ | refine RI.drewN ?_ _ | refine RI.a_ ?_ | refine RI.s_ ?_ | refine RI.b_ ?_)))) (by first | omega | (simp; done) | (simp; omega)) (by first | omega | (simp; done) | (simp; omega)) hn hnb).mono ?_
    intro e w1 hk1
    obtain ⟨A1, n1, k1, A2, n2, k2, A3, n3, k3, A4, n4, k4, rfl, o1, o2, o3, o4, hb1⟩ := SFR.yes HS.out hk1
    clear hk1
    have hs1 := hb1.size
    simp at hs1
    have hMx : BM w1 w.heap.size R C A n cap := by (with_reducible (repeat (first | assumption | refine BX.n_ | refine BX.b_ ?_ | apply BX.drew | apply BX.drewN | refine BX.put ?_ | refine BX.put2 ?_ | refine BX.f_ ?_ | apply BX.alloc | refine B3.n_ | refine B3.of (by assumption) | refine B3.b_ ?_ | apply B3.drew | apply B3.drewN | refine B3.f_ ?_ | apply B3.alloc)))
    have hMx2 : BM (((w1.alloc (.cells #[.int .i64 (R : Int), .int .i64 (C : Int), .slice A1 n1 k1] 28)).alloc (.cells #[.int .i64 (R : Int), .int .i64 (R : Int), .slice A2 n2 k2] 28)).alloc (.cells #[.int .i64 (C : Int), .int .i64 (C : Int), .slice A3 n3 k3] 28)) w.heap.size R C A n cap := ((hMx.alloc _).alloc _).alloc _
    have hM1 : BM (((w1.alloc (.cells #[.int .i64 (R : Int), .int .i64 (C : Int), .slice A1 n1 k1] 28)).alloc (.cells #[.int .i64 (R : Int), .int .i64 (R : Int), .slice A2 n2 k2] 28)).alloc (.cells #[.int .i64 (C : Int), .int .i64 (C : Int), .slice A3 n3 k3] 28)) w1.heap.size (R : Int) (C : Int) A1 n1 k1 := by (with_reducible (repeat (first | assumption | refine BX.n_ | refine BX.b_ ?_ | apply BX.drew | apply BX.drewN | refine BX.put ?_ | refine BX.put2 ?_ | refine BX.f_ ?_ | apply BX.alloc | refine B3.n_ | refine B3.of (by assumption) | refine B3.b_ ?_ | apply B3.drew | apply B3.drewN | refine B3.f_ ?_ | apply B3.alloc)))
    have hM3 : BM (((w1.alloc (.cells #[.int .i64 (R : Int), .int .i64 (C : Int), .slice A1 n1 k1] 28)).alloc (.cells #[.int .i64 (R : Int), .int .i64 (R : Int), .slice A2 n2 k2] 28)).alloc (.cells #[.int .i64 (C : Int), .int .i64 (C : Int), .slice A3 n3 k3] 28)) (w1.heap.size + 1 + 1) (C : Int) (C : Int) A3 n3 k3 := by (with_reducible (repeat (first | assumption | refine BX.n_ | refine BX.b_ ?_ | apply BX.drew | apply BX.drewN | refine BX.put ?_ | refine BX.put2 ?_ | refine BX.f_ ?_ | apply BX.alloc | refine B3.n_ | refine B3.of (by assumption) | refine B3.b_ ?_ | apply B3.drew | apply B3.drewN | refine B3.f_ ?_ | apply B3.alloc)))
    have q1 : OR (((w1.alloc (.cells #[.int .i64 (R : Int), .int .i64 (C : Int), .slice A1 n1 k1] 28)).alloc (.cells #[.int .i64 (R : Int), .int .i64 (R : Int), .slice A2 n2 k2] 28)).alloc (.cells #[.int .i64 (C : Int), .int .i64 (C : Int), .slice A3 n3 k3] 28)) (w.heap.size + 1) (.slice A1 n1 k1) (tb R C s.f) := by have q := OR.mono (xs := tb R C s.f) (B' := (w.heap.size + 1)) o1 (by simp); (with_reducible (repeat (first | exact q | refine OR.drew ?_ | refine OR.drewN ?_ _ | refine OR.alloc ?_ _ | refine OR.b_ ?_ | refine OR.l_ ?_)))
    have q3 : OR (((w1.alloc (.cells #[.int .i64 (R : Int), .int .i64 (C : Int), .slice A1 n1 k1] 28)).alloc (.cells #[.int .i64 (R : Int), .int .i64 (R : Int), .slice A2 n2 k2] 28)).alloc (.cells #[.int .i64 (C : Int), .int .i64 (C : Int), .slice A3 n3 k3] 28)) (w.heap.size + 1) (.slice A3 n3 k3) (tb C C s.h) := by have q := OR.mono (xs := tb C C s.h) (B' := (w.heap.size + 1)) o3 (by simp); (with_reducible (repeat (first | exact q | refine OR.drew ?_ | refine OR.drewN ?_ _ | refine OR.alloc ?_ _ | refine OR.b_ ?_ | refine OR.l_ ?_)))
    have q4 : OR (((w1.alloc (.cells #[.int .i64 (R : Int), .int .i64 (C : Int), .slice A1 n1 k1] 28)).alloc (.cells #[.int .i64 (R : Int), .int .i64 (R : Int), .slice A2 n2 k2] 28)).alloc (.cells #[.int .i64 (C : Int), .int .i64 (C : Int), .slice A3 n3 k3] 28)) (w.heap.size + 1) (.slice A4 n4 k4) cs := by have q := OR.mono (xs := cs) (B' := (w.heap.size + 1)) o4 (by simp); (with_reducible (repeat (first | exact q | refine OR.drew ?_ | refine OR.drewN ?_ _ | refine OR.alloc ?_ _ | refine OR.b_ ?_ | refine OR.l_ ?_)))
    have hbw : Below w.heap.size w (((w1.alloc (.cells #[.int .i64 (R : Int), .int .i64 (C : Int), .slice A1 n1 k1] 28)).alloc (.cells #[.int .i64 (R : Int), .int .i64 (R : Int), .slice A2 n2 k2] 28)).alloc (.cells #[.int .i64 (C : Int), .int .i64 (C : Int), .slice A3 n3 k3] 28)) := by (repeat (first | (with_reducible (first | exact Below.refl _ _ | assumption | refine below_drewN ?_ _ | refine Below.drew ?_ | refine Below.alloc ?_ ?_ _ | refine Below.setCell ?_ ?_ _ | refine below_i ?_)) | go_size))
    have hsz2 : w1.heap.size + 1 + 1 + 1 ≤ ((((w1.alloc (.cells #[.int .i64 (R : Int), .int .i64 (C : Int), .slice A1 n1 k1] 28)).alloc (.cells #[.int .i64 (R : Int), .int .i64 (R : Int), .slice A2 n2 k2] 28)).alloc (.cells #[.int .i64 (C : Int), .int .i64 (C : Int), .slice A3 n3 k3] 28))).heap.size := by simp
    clear o1 o2 o3 o4 hb1
    go_wp2_with fail
    generalize (((w1.alloc (.cells #[.int .i64 (R : Int), .int .i64 (C : Int), .slice A1 n1 k1] 28)).alloc (.cells #[.int .i64 (R : Int), .int .i64 (R : Int), .slice A2 n2 k2] 28)).alloc (.cells #[.int .i64 (C : Int), .int .i64 (C : Int), .slice A3 n3 k3] 28)) = w2 at *
    generalize w1.heap.size = bH at *
    rcases hF : fwF (dgF R C s.f) 0 cs with _ | k
    · have HF := Lib.hid hF
      clear hF
      refine (impl_firstWrong R C A1 A4 n1 k1 n4 k4 s.f cs _ (B := (w.heap.size + 1)) (B' := w2.heap.size) q1 q4.reads (Nat.le_refl _) HCL.out HOK.out HCN.out hR hC).mono ?_
      rw [HF.out, show fwV none = (-1 : Int) from rfl]
      rintro e w3 ⟨rfl, hb3⟩
      have hs3 := hb3.size
      have nMx : BM w3 w.heap.size R C A n cap := hMx2.below hb3 (by have := hMx2.lt; omega)
      have nM1 : BM w3 bH (R : Int) (C : Int) A1 n1 k1 := hM1.below hb3 hM1.lt
      have nM3 : BM w3 (bH + 1 + 1) (C : Int) (C : Int) A3 n3 k3 := hM3.below hb3 hM3.lt
      have p1 : OR w3 (w.heap.size + 1) (.slice A1 n1 k1) (tb R C s.f) := by (with_reducible (repeat (first | exact q1 | refine OR.drew ?_ | refine OR.drewN ?_ _ | refine OR.alloc ?_ _ | refine OR.b_ ?_ | refine OR.l_ ?_)))
      have p3 : OR w3 (w.heap.size + 1) (.slice A3 n3 k3) (tb C C s.h) := by (with_reducible (repeat (first | exact q3 | refine OR.drew ?_ | refine OR.drewN ?_ _ | refine OR.alloc ?_ _ | refine OR.b_ ?_ | refine OR.l_ ?_)))
      have p4 : OR w3 (w.heap.size + 1) (.slice A4 n4 k4) cs := by (with_reducible (repeat (first | exact q4 | refine OR.drew ?_ | refine OR.drewN ?_ _ | refine OR.alloc ?_ _ | refine OR.b_ ?_ | refine OR.l_ ?_)))
      have HO4 := Lib.hid p4.own
      have HO1 := Lib.hid p1.own
      have HO3 := Lib.hid p3.own
      have hbw3 : Below w.heap.size w w3 := by (repeat (first | (with_reducible (first | exact Below.refl _ _ | assumption | refine below_drewN ?_ _ | refine Below.drew ?_ | refine Below.alloc ?_ ?_ _ | refine Below.setCell ?_ ?_ _ | refine below_i ?_)) | go_size))
      clear hMx2 hM1 hM3 q1 q3 q4 hbw hb3
      obtain ⟨ma, mb, mc, mf, ml⟩ := nMx.mx
      obtain ⟨i0, hi, hz0, hz1, hz2⟩ := info_parts int_info
      go_wp2_with (at_make; refine wpList_make_full _ rfl _ _ 22 rfl w3.heap.size 3 i0 (.int .i64 0) 1 Try.underlying22 hi hz0 hz1 _ _ _ _ C rfl rfl rfl rfl ?b2 ?b3 (Nat.le_refl _) ?_)
      case b2 => rw [hz2]; omega
      case b3 => unfold maxLen; omega
      intro w4 hown0 hgrow0
      have hy : OR w4 w3.heap.size (.slice (some ⟨w3.heap.size, 0, none⟩) C C) (siK R C s cs 0) := by rw [siK_zero]; exact OR.of_made hown0
      have hb4 : Below w3.heap.size w3 w4 := (Below.refl _ _).grown hgrow0 (Nat.le_refl _) (by simp)
      have nMx : BM w4 w.heap.size R C A n cap := nMx.below hb4 (by omega)
      have nM1 : BM w4 bH (R : Int) (C : Int) A1 n1 k1 := nM1.below hb4 nM1.lt
      have nM3 : BM w4 (bH + 1 + 1) (C : Int) (C : Int) A3 n3 k3 := nM3.below hb4 nM3.lt
      have p1 : OR w4 (w.heap.size + 1) (.slice A1 n1 k1) (tb R C s.f) := by (with_reducible (repeat (first | exact p1 | refine OR.drew ?_ | refine OR.drewN ?_ _ | refine OR.alloc ?_ _ | refine OR.b_ ?_ | refine OR.l_ ?_)))
      have p3 : OR w4 (w.heap.size + 1) (.slice A3 n3 k3) (tb C C s.h) := by (with_reducible (repeat (first | exact p3 | refine OR.drew ?_ | refine OR.drewN ?_ _ | refine OR.alloc ?_ _ | refine OR.b_ ?_ | refine OR.l_ ?_)))
      have p4 : OR w4 (w.heap.size + 1) (.slice A4 n4 k4) cs := by (with_reducible (repeat (first | exact p4 | refine OR.drew ?_ | refine OR.drewN ?_ _ | refine OR.alloc ?_ _ | refine OR.b_ ?_ | refine OR.l_ ?_)))
      have hbw4 : Below w.heap.size w w4 := by (repeat (first | (with_reducible (first | exact Below.refl _ _ | assumption | refine below_drewN ?_ _ | refine Below.drew ?_ | refine Below.alloc ?_ ?_ _ | refine Below.setCell ?_ ?_ _ | refine below_i ?_)) | go_size))
      clear hown0 hgrow0 ma mb mc mf ml hi hz0 hz1 hz2
      go_wp2_with fail
      go_loopw [38] (fun v wr => ∃ i : Nat, v = .int .i64 i ∧ i ≤ C ∧ OR wr w3.heap.size (.slice (some ⟨w3.heap.size, 0, none⟩) C C) (siK R C s cs i) ∧ BM wr w.heap.size R C A n cap ∧ BM wr bH (R : Int) (C : Int) A1 n1 k1 ∧ BM wr (bH + 1 + 1) (C : Int) (C : Int) A3 n3 k3 ∧ OR wr (w.heap.size + 1) (.slice A1 n1 k1) (tb R C s.f) ∧ OR wr (w.heap.size + 1) (.slice A3 n3 k3) (tb C C s.h) ∧ OR wr (w.heap.size + 1) (.slice A4 n4 k4) cs ∧ Below w.heap.size w wr ∧ w3.heap.size < wr.heap.size) (fun v _ => C - (intOf v).toNat)
      case atStart => exact ⟨0, rfl, Nat.zero_le _, hy, nMx, nM1, nM3, p1, p3, p4, hbw4, by have := hy.own _ rfl; omega⟩
      case round =>
        clear hy hb4 nMx nM1 nM3 p1 p3 p4 hbw4 hbw3
        obtain ⟨i, rfl, hi, hy, nMx, nM1, nM3, p1, p3, p4, hbw, hs4⟩ := hrel
        obtain ⟨ma, mb, mc, mf, ml⟩ := nMx.mx
        obtain ⟨ua, ub, uc, uf, ul⟩ := nM1.mx
        by_cases hiC : i < C
        · obtain ⟨z, hz⟩ : ∃ z, dgF R C s.f i = z := ⟨_, rfl⟩
          by_cases hz0 : z = 0
          · have HE := Lib.hid (siK_skip (cs := cs) (hz.trans hz0))
            have HZ := Lib.hid (hz.trans hz0)
            have hznb : (z != 0) = false := by simp [hz0]
            clear hz hz0
            go_wp2_with fail
            refine (impl_diagonal R C i A1 n1 k1 s.f _ (B := (w.heap.size + 1)) (by (with_reducible (repeat (first | exact p1 | refine OR.drew ?_ | refine OR.drewN ?_ _ | refine OR.alloc ?_ _ | refine OR.b_ ?_ | refine OR.l_ ?_)))) (by omega) hR hC).mono ?_
            rw [HZ.out]
            rintro e w5 ⟨rfl, hb5⟩
            have hs5 := hb5.size
            (try simp at hs5)
            go_wp2_with fail
            go_roundw
            case measure => simp only [intOf]; omega
            case rel => exact ⟨i + 1, by go_num, by omega, by rw [HE.out]; (with_reducible (repeat (first | exact hy | refine OR.drew ?_ | refine OR.drewN ?_ _ | refine OR.alloc ?_ _ | refine OR.b_ ?_ | refine OR.l_ ?_))), by (with_reducible (repeat (first | exact nMx | refine BX.n_ | refine BX.b_ ?_ | apply BX.drew | apply BX.drewN | refine BX.put ?_ | refine BX.put2 ?_ | refine BX.f_ ?_ | apply BX.alloc | refine B3.n_ | exact B3.of nMx | refine B3.b_ ?_ | apply B3.drew | apply B3.drewN | refine B3.f_ ?_ | apply B3.alloc))), by (with_reducible (repeat (first | exact nM1 | refine BX.n_ | refine BX.b_ ?_ | apply BX.drew | apply BX.drewN | refine BX.put ?_ | refine BX.put2 ?_ | refine BX.f_ ?_ | apply BX.alloc | refine B3.n_ | exact B3.of nM1 | refine B3.b_ ?_ | apply B3.drew | apply B3.drewN | refine B3.f_ ?_ | apply B3.alloc))), by (with_reducible (repeat (first | exact nM3 | refine BX.n_ | refine BX.b_ ?_ | apply BX.drew | apply BX.drewN | refine BX.put ?_ | refine BX.put2 ?_ | refine BX.f_ ?_ | apply BX.alloc | refine B3.n_ | exact B3.of nM3 | refine B3.b_ ?_ | apply B3.drew | apply B3.drewN | refine B3.f_ ?_ | apply B3.alloc))), by (with_reducible (repeat (first | exact p1 | refine OR.drew ?_ | refine OR.drewN ?_ _ | refine OR.alloc ?_ _ | refine OR.b_ ?_ | refine OR.l_ ?_))), by (with_reducible (repeat (first | exact p3 | refine OR.drew ?_ | refine OR.drewN ?_ _ | refine OR.alloc ?_ _ | refine OR.b_ ?_ | refine OR.l_ ?_))), by (with_reducible (repeat (first | exact p4 | refine OR.drew ?_ | refine OR.drewN ?_ _ | refine OR.alloc ?_ _ | refine OR.b_ ?_ | refine OR.l_ ?_))), by (repeat (first | (with_reducible (first | exact Below.refl _ _ | assumption | refine below_drewN ?_ _ | refine Below.drew ?_ | refine Below.alloc ?_ ?_ _ | refine Below.setCell ?_ ?_ _ | refine below_i ?_)) | go_size)), (by first | omega | (simp; done) | (simp; omega))⟩
          · have hznb : (z != 0) = true := by simpa using hz0
            have HE : Hid ((siK R C s cs i).set i ((cs.getD i 0).tdiv z) = siK R C s cs (i + 1)) := Lib.hid (by rw [← hz]; exact siK_set hiC)
            have hiR : i < R := Nat.lt_of_not_le fun h => hz0 (by rw [← hz, dgF_out (by omega)])
            have HZV := Lib.hid hz
            obtain ⟨z1, z2⟩ := dgF_num (i := i) HOK.out
            rw [hz] at z1 z2
            obtain ⟨x1, x2⟩ := HCN.out i
            have hqb : ((cs.getD i 0).tdiv z).natAbs ≤ (cs.getD i 0).natAbs := by rw [Int.natAbs_tdiv]; exact Nat.div_le_self _ _
            have hw1 : IntKind.i64.wrap ((cs.getD i 0).tdiv z) = (cs.getD i 0).tdiv z := IntWalk.i64_in _ (by omega)
            obtain ⟨g4, rfl, hg1, hg2⟩ := p4.begins (by omega)
            have hg3 := (HO4.out g4 rfl).2
            have c1 := p4.cell i (by omega)
            have hln4 := p4.lenEq
            have hi4 : i < n4 := by omega
            have c2 := hy.cell i (by rw [siK_len]; omega)
            have f2 := hy.frozen i
            have ne1 : ¬ g4 = w3.heap.size := by omega
            have ne2 : ¬ w3.heap.size = g4 := by omega
            have hbH : bH < w3.heap.size := by have := nM1; omega
            have ne3 : ¬ bH = w3.heap.size := by omega
            have ne4 : ¬ w3.heap.size = bH := by omega
            have HI4 : Hid (i < cs.length) := Lib.hid (by omega)
            have HI5 : Hid (i < (siK R C s cs i).length) := Lib.hid (by rw [siK_len]; omega)
            generalize hxv : cs.getD i 0 = x at *
            have HXV := Lib.hid hxv
            clear hxv hz hqb hln4
            go_wp2_with fail
            refine (impl_diagonal R C i A1 n1 k1 s.f _ (B := (w.heap.size + 1)) (by (with_reducible (repeat (first | exact p1 | refine OR.drew ?_ | refine OR.drewN ?_ _ | refine OR.alloc ?_ _ | refine OR.b_ ?_ | refine OR.l_ ?_)))) (by omega) hR hC).mono ?_
            rw [HZV.out]
            rintro e w5 ⟨rfl, hb5⟩
            (have hs5 := hb5.size); (try simp at hs5); (have hy_1 : OR w5 w3.heap.size (.slice (some ⟨w3.heap.size, 0, none⟩) C C) (siK R C s cs i) := (by (with_reducible (repeat (first | exact hy | refine OR.drew ?_ | refine OR.drewN ?_ _ | refine OR.alloc ?_ _ | refine OR.b_ ?_ | refine OR.l_ ?_))))); (have nMx_1 : BM w5 w.heap.size R C A n cap := (by (with_reducible (repeat (first | exact nMx | refine BX.n_ | refine BX.b_ ?_ | apply BX.drew | apply BX.drewN | refine BX.put ?_ | refine BX.put2 ?_ | refine BX.f_ ?_ | apply BX.alloc | refine B3.n_ | exact B3.of nMx | refine B3.b_ ?_ | apply B3.drew | apply B3.drewN | refine B3.f_ ?_ | apply B3.alloc))))); (have nM1_1 : BM w5 bH (R : Int) (C : Int) A1 n1 k1 := (by (with_reducible (repeat (first | exact nM1 | refine BX.n_ | refine BX.b_ ?_ | apply BX.drew | apply BX.drewN | refine BX.put ?_ | refine BX.put2 ?_ | refine BX.f_ ?_ | apply BX.alloc | refine B3.n_ | exact B3.of nM1 | refine B3.b_ ?_ | apply B3.drew | apply B3.drewN | refine B3.f_ ?_ | apply B3.alloc))))); (have nM3_1 : BM w5 (bH + 1 + 1) (C : Int) (C : Int) A3 n3 k3 := (by (with_reducible (repeat (first | exact nM3 | refine BX.n_ | refine BX.b_ ?_ | apply BX.drew | apply BX.drewN | refine BX.put ?_ | refine BX.put2 ?_ | refine BX.f_ ?_ | apply BX.alloc | refine B3.n_ | exact B3.of nM3 | refine B3.b_ ?_ | apply B3.drew | apply B3.drewN | refine B3.f_ ?_ | apply B3.alloc))))); (have p1_1 : OR w5 (w.heap.size + 1) (.slice A1 n1 k1) (tb R C s.f) := (by (with_reducible (repeat (first | exact p1 | refine OR.drew ?_ | refine OR.drewN ?_ _ | refine OR.alloc ?_ _ | refine OR.b_ ?_ | refine OR.l_ ?_))))); (have p3_1 : OR w5 (w.heap.size + 1) (.slice A3 n3 k3) (tb C C s.h) := (by (with_reducible (repeat (first | exact p3 | refine OR.drew ?_ | refine OR.drewN ?_ _ | refine OR.alloc ?_ _ | refine OR.b_ ?_ | refine OR.l_ ?_))))); (have p4_1 : OR w5 (w.heap.size + 1) (.slice (some ⟨g4, 0, none⟩) n4 k4) cs := (by (with_reducible (repeat (first | exact p4 | refine OR.drew ?_ | refine OR.drewN ?_ _ | refine OR.alloc ?_ _ | refine OR.b_ ?_ | refine OR.l_ ?_))))); (have hbw_1 : Below w.heap.size w w5 := (by (repeat (first | (with_reducible (first | exact Below.refl _ _ | assumption | refine below_drewN ?_ _ | refine Below.drew ?_ | refine Below.alloc ?_ ?_ _ | refine Below.setCell ?_ ?_ _ | refine below_i ?_)) | go_size)))); clear hy nMx nM1 nM3 p1 p3 p4 hbw hb5 ua ub uc uf ul ma mb mc mf ml c1 c2 f2; (have hy := hy_1); (have nMx := nMx_1); (have nM1 := nM1_1); (have nM3 := nM3_1); (have p1 := p1_1); (have p3 := p3_1); (have p4 := p4_1); (have hbw := hbw_1); clear hy_1 nMx_1 nM1_1 nM3_1 p1_1 p3_1 p4_1 hbw_1; obtain ⟨ua, ub, uc, uf, ul⟩ := nM1.mx; obtain ⟨ma, mb, mc, mf, ml⟩ := nMx.mx; (have c1 := p4.cell i HI4.out); (have c2 := hy.cell i HI5.out); (have f2 := hy.frozen i); rw [HXV.out] at c1
            go_wp2_with fail
            have hst := hy.set_ i (x.tdiv z)
            rw [HE.out] at hst
            go_roundw
            case measure => simp only [intOf]; omega
            case rel => exact ⟨i + 1, by go_num, by omega, by first | exact hst | exact OR.drew hst, by (with_reducible (repeat (first | exact nMx | refine BX.n_ | refine BX.b_ ?_ | apply BX.drew | apply BX.drewN | refine BX.put ?_ | refine BX.put2 ?_ | refine BX.f_ ?_ | apply BX.alloc | refine B3.n_ | exact B3.of nMx | refine B3.b_ ?_ | apply B3.drew | apply B3.drewN | refine B3.f_ ?_ | apply B3.alloc))), by (with_reducible (repeat (first | exact nM1 | refine BX.n_ | refine BX.b_ ?_ | apply BX.drew | apply BX.drewN | refine BX.put ?_ | refine BX.put2 ?_ | refine BX.f_ ?_ | apply BX.alloc | refine B3.n_ | exact B3.of nM1 | refine B3.b_ ?_ | apply B3.drew | apply B3.drewN | refine B3.f_ ?_ | apply B3.alloc))), by (with_reducible (repeat (first | exact nM3 | refine BX.n_ | refine BX.b_ ?_ | apply BX.drew | apply BX.drewN | refine BX.put ?_ | refine BX.put2 ?_ | refine BX.f_ ?_ | apply BX.alloc | refine B3.n_ | exact B3.of nM3 | refine B3.b_ ?_ | apply B3.drew | apply B3.drewN | refine B3.f_ ?_ | apply B3.alloc))), OR.far (by (with_reducible (repeat (first | exact p1 | refine OR.drew ?_ | refine OR.drewN ?_ _ | refine OR.alloc ?_ _ | refine OR.b_ ?_ | refine OR.l_ ?_)))) (fun e => Nat.lt_irrefl _ (HO1.out w3.heap.size e).2) _, OR.far (by (with_reducible (repeat (first | exact p3 | refine OR.drew ?_ | refine OR.drewN ?_ _ | refine OR.alloc ?_ _ | refine OR.b_ ?_ | refine OR.l_ ?_)))) (fun e => Nat.lt_irrefl _ (HO3.out w3.heap.size e).2) _, OR.far (by (with_reducible (repeat (first | exact p4 | refine OR.drew ?_ | refine OR.drewN ?_ _ | refine OR.alloc ?_ _ | refine OR.b_ ?_ | refine OR.l_ ?_)))) (fun e => Nat.lt_irrefl _ (HO4.out w3.heap.size e).2) _, by (repeat (first | (with_reducible (first | exact Below.refl _ _ | assumption | refine below_drewN ?_ _ | refine Below.drew ?_ | refine Below.alloc ?_ ?_ _ | refine Below.setCell ?_ ?_ _ | refine below_i ?_)) | go_size)), (by first | omega | (simp; done) | (simp; omega))⟩
        · have hiE : i = C := by omega
          rw [hiE, siK_endC R C s cs] at hy
          clear hiE
          have hn3 : n3 ≤ 1048576 := by have h8 := p3.lenEq; rw [tb_len] at h8; have := Nat.mul_le_mul hC hC; omega
          obtain ⟨za, zb, zc, zf, zl⟩ := nM3.mx
          go_upto_region 14 with fail
          have hyr := Lib.hid hy.reads
          have hPr := Lib.hid p3.reads
          have hsr := hbw.size
          have l3 := nM3.lt
          have lM := nMx.lt
          have HO := Lib.hid hy.own
          clear ua ub uc uf ul p1 p4 nM1 hy
          go_cut [14, 15] from 56 to 62 (fun vp vb wc => ∃ bC A4 n4 c4, vp = .pointer (some ⟨bC, 0, none⟩) ∧ vb = .bool (mulB C C (tb C C s.h) C 1 (siY R C s cs)) ∧ BM wc w.heap.size R C A n cap ∧ BM wc bC (mulM C C (tb C C s.h) C 1 (siY R C s cs)).r (mulM C C (tb C C s.h) C 1 (siY R C s cs)).c A4 n4 c4 ∧ OR wc w.heap.size (.slice A4 n4 c4) (mulM C C (tb C C s.h) C 1 (siY R C s cs)).xs ∧ Below w.heap.size w wc)
          case first =>
            ((refine wp_region_held_drew (S := (fun w' => w'.cell? ⟨bH + 1 + 1, 0, none⟩ = some (.int .i64 (C : Int)) ∧ w'.cell? ⟨bH + 1 + 1, 1, none⟩ = some (.int .i64 (C : Int)) ∧ w'.cell? ⟨bH + 1 + 1, 2, none⟩ = some (.slice A3 n3 k3))) (by kernel_rfl) ?_ (fun hHeld => ?_)); ((focus ((try dsimp only); (go_keep)))); ((refine tk_ (i := 0) (v := ?_) (y := Or.inl ⟨by rfl, ?_⟩) (h := ?_); rotate_left; (focus (((intro w hSw; (try dsimp only at hSw); go_simp) <;> (try with_reducible rfl)); done)); (try simp only [Act.put, p1_, p2_, p3_]))); ((refine tk_ (i := 1) (v := ?_) (y := Or.inl ⟨by rfl, ?_⟩) (h := ?_); rotate_left; (focus (((intro w hSw; (try dsimp only at hSw); go_simp) <;> (try with_reducible rfl)); done)); (try simp only [Act.put, p1_, p2_, p3_]))); (refine wpAnyH_ready (rs := [2, 7]) (by kernel_rfl) (by simp) ?_); (refine AllReadyH.cons (by simp only [e1_, e2_, e3_]; try rfl) ?_ ?_); ((focus ((intro K hK); (go_simp); ((go_at_call 92; refine (impl_columnOf (some ⟨w3.heap.size, 0, none⟩) C C (siY R C s cs) _ (B := wr.heap.size) (by (with_reducible (repeat (first | exact hyr.out | refine RI.drew ?_ | refine RI.drewN ?_ _ | refine RI.a_ ?_ | refine RI.s_ ?_ | refine RI.b_ ?_)))) (by first | omega | (simp; done) | (simp; omega)) (by omega)).mono ?_; rintro e w4 ⟨Ac, nc, cc, rfl, hc_, hb4⟩; have hc : OR w4 wr.heap.size (.slice Ac nc cc) (siY R C s cs) := OR.mono (xs := siY R C s cs) hc_ (by first | omega | (simp; done) | (simp; omega)); clear hc_; have hs4 := hb4.size; (try simp at hs4); have tV : BM w4 w.heap.size R C A n cap := (by (with_reducible (repeat (first | exact nMx | refine BX.n_ | refine BX.b_ ?_ | apply BX.drew | apply BX.drewN | refine BX.put ?_ | refine BX.put2 ?_ | refine BX.f_ ?_ | apply BX.alloc | refine B3.n_ | exact B3.of nMx | refine B3.b_ ?_ | apply B3.drew | apply B3.drewN | refine B3.f_ ?_ | apply B3.alloc)))); have t3 : BM w4 (bH + 1 + 1) (C : Int) (C : Int) A3 n3 k3 := (by (with_reducible (repeat (first | exact nM3 | refine BX.n_ | refine BX.b_ ?_ | apply BX.drew | apply BX.drewN | refine BX.put ?_ | refine BX.put2 ?_ | refine BX.f_ ?_ | apply BX.alloc | refine B3.n_ | exact B3.of nM3 | refine B3.b_ ?_ | apply B3.drew | apply B3.drewN | refine B3.f_ ?_ | apply B3.alloc)))); have u3 : OR w4 (w.heap.size + 1) (.slice A3 n3 k3) (tb C C s.h) := (by (with_reducible (repeat (first | exact p3 | refine OR.drew ?_ | refine OR.drewN ?_ _ | refine OR.alloc ?_ _ | refine OR.b_ ?_ | refine OR.l_ ?_)))); have tb_ : Below w.heap.size w w4 := (by (repeat (first | (with_reducible (first | exact Below.refl _ _ | assumption | refine below_drewN ?_ _ | refine Below.drew ?_ | refine Below.alloc ?_ ?_ _ | refine Below.setCell ?_ ?_ _ | refine below_i ?_)) | go_size))); have HP2 := Lib.hid u3.reads; have HC := Lib.hid hc.reads; have hnc := hc.lenEq; have hnc2 : nc ≤ 1048576 := (by have : (siY R C s cs).length = C := tab_len _ _; omega); clear hnc hb4; obtain ⟨ya, yb, yc, yf, yl⟩ := t3.mx; have ne1 : ¬ bH + 1 + 1 = wr.heap.size := (by omega); have ne2 : ¬ wr.heap.size = bH + 1 + 1 := (by omega); have ne3 : ¬ bH + 1 + 1 = w4.heap.size := (by omega); have ne4 : ¬ w4.heap.size = bH + 1 + 1 := (by omega); have hs42 : wr.heap.size ≤ w4.heap.size := (by omega))); ((try go_wp2_with fail)); (refine hK.out _ _ ?_ (fun hHeld => ?_)); ((focus ((try dsimp only); (go_keep)))); (clear hK K); ((try simp only [Act.put, p1_, p2_, p3_])); (refine wpAnyH_ready (rs := [3, 7]) (by kernel_rfl) (by simp) ?_); (refine AllReadyH.cons (by simp only [e1_, e2_, e3_]; try rfl) ?_ ?_); ((focus ((intro K hK); (go_simp); ((go_at_call 32; refine (impl_MultiplyMatrices C C C 1 A3 Ac n3 k3 nc cc (tb C C s.h) (siY R C s cs) _ (B := w4.heap.size) (B' := w4.heap.size) (by (with_reducible (repeat (first | exact HP2.out | refine RI.drew ?_ | refine RI.drewN ?_ _ | refine RI.a_ ?_ | refine RI.s_ ?_ | refine RI.b_ ?_)))) (by (with_reducible (repeat (first | exact HC.out | refine RI.drew ?_ | refine RI.drewN ?_ _ | refine RI.a_ ?_ | refine RI.s_ ?_ | refine RI.b_ ?_)))) (by first | omega | (simp; done) | (simp; omega)) (by first | omega | (simp; done) | (simp; omega)) hn3 hnc2).mono ?_; rintro e w5 ⟨A4, n4, k4, rfl, ho4_, hb5⟩; have hs5 := hb5.size; (try simp at hs5); have ho5 : OR w5 w4.heap.size (.slice A4 n4 k4) (mulM C C (tb C C s.h) C 1 (siY R C s cs)).xs := OR.mono ho4_ (by first | omega | (simp; done) | (simp; omega)); have k5 : ¬ Value.ownBlock (.slice A4 n4 k4) = some w5.heap.size := (fun e => by have := ho5.own _ e; omega); have rV : BM w5 w.heap.size R C A n cap := (by (with_reducible (repeat (first | exact tV | refine BX.n_ | refine BX.b_ ?_ | apply BX.drew | apply BX.drewN | refine BX.put ?_ | refine BX.put2 ?_ | refine BX.f_ ?_ | apply BX.alloc | refine B3.n_ | exact B3.of tV | refine B3.b_ ?_ | apply B3.drew | apply B3.drewN | refine B3.f_ ?_ | apply B3.alloc)))); have r3 : BM w5 (bH + 1 + 1) (C : Int) (C : Int) A3 n3 k3 := (by (with_reducible (repeat (first | exact t3 | refine BX.n_ | refine BX.b_ ?_ | apply BX.drew | apply BX.drewN | refine BX.put ?_ | refine BX.put2 ?_ | refine BX.f_ ?_ | apply BX.alloc | refine B3.n_ | exact B3.of t3 | refine B3.b_ ?_ | apply B3.drew | apply B3.drewN | refine B3.f_ ?_ | apply B3.alloc)))); have rb_ : Below w.heap.size w w5 := (by (repeat (first | (with_reducible (first | exact Below.refl _ _ | assumption | refine below_drewN ?_ _ | refine Below.drew ?_ | refine Below.alloc ?_ ?_ _ | refine Below.setCell ?_ ?_ _ | refine below_i ?_)) | go_size))); clear hb5; obtain ⟨ja, jb, jc, jf, jl⟩ := r3.mx; have ne5 : ¬ bH + 1 + 1 = w5.heap.size := (by omega); have ne6 : ¬ w5.heap.size = bH + 1 + 1 := (by omega))); ((try go_wp2_with fail)); (refine hK.out _ _ ?_ (fun hHeld => ?_)); ((focus ((try dsimp only); (go_keep)))); (clear hK K); ((try simp only [Act.put, p1_, p2_, p3_])); ((refine tk_ (i := 4) (v := ?_) (y := Or.inl ⟨by rfl, ?_⟩) (h := ?_); rotate_left; (focus (((intro w hSw; (try dsimp only at hSw); go_simp) <;> (try with_reducible rfl)); done)); (try simp only [Act.put, p1_, p2_, p3_]))); ((refine tk_ (i := 5) (v := ?_) (y := Or.inl ⟨by rfl, ?_⟩) (h := ?_); rotate_left; (focus (((intro w hSw; (try dsimp only at hSw); go_simp) <;> (try with_reducible rfl)); done)); (try simp only [Act.put, p1_, p2_, p3_]))); ((refine tk_ (i := 6) (v := ?_) (y := Or.inl ⟨by rfl, ?_⟩) (h := ?_); rotate_left; (focus (((intro w hSw; (try dsimp only at hSw); go_simp) <;> (try with_reducible rfl)); done)); (try simp only [Act.put, p1_, p2_, p3_]))); (refine wpAnyH_ready (rs := [7]) (by kernel_rfl) (by simp) ?_); (refine AllReadyH.cons (by simp only [e1_, e2_, e3_]; try rfl) ?_ ?_); ((focus ((intro K hK); (go_simp); ((try go_wp2_with fail)); (refine hK.out _ _ ?_ (fun hHeld => ?_)); ((focus ((try dsimp only); (go_keep)))); (clear hK K); ((try simp only [Act.put, p1_, p2_, p3_])); (refine wpAnyH_ready (rs := [8]) (by kernel_rfl) (by simp) ?_); (refine AllReadyH.cons (by simp only [e1_, e2_, e3_]; try rfl) ?_ ?_); ((focus ((intro K hK); (go_simp); ((try go_wp2_with fail)); (refine hK.out _ _ ?_ (fun hHeld => ?_)); ((focus ((try dsimp only); (go_keep)))); (clear hK K); ((try simp only [Act.put, p1_, p2_, p3_])); ((refine tk_ (i := 9) (v := ?_) (y := Or.inl ⟨by rfl, ?_⟩) (h := ?_); rotate_left; (focus (((intro w hSw; (try dsimp only at hSw); go_simp) <;> (try with_reducible rfl)); done)); (try simp only [Act.put, p1_, p2_, p3_]))); (refine wpAnyH_done (by kernel_rfl) ?_ _)))); (rotate_left 1); (exact AllReadyH.nil)))); (rotate_left 1); (exact AllReadyH.nil)))); (rotate_left 1); (refine AllReadyH.cons (by simp only [e1_, e2_, e3_]; try rfl) ?_ ?_); ((focus ((intro K hK); (go_simp); ((try go_wp2_with fail)); (refine hK.out _ _ ?_ (fun hHeld => ?_)); ((focus ((try dsimp only); (go_keep)))); (clear hK K); ((try simp only [Act.put, p1_, p2_, p3_])); (refine wpAnyH_ready (rs := [3]) (by kernel_rfl) (by simp) ?_); (refine AllReadyH.cons (by simp only [e1_, e2_, e3_]; try rfl) ?_ ?_); ((focus ((intro K hK); (go_simp); ((go_at_call 32; refine (impl_MultiplyMatrices C C C 1 A3 Ac n3 k3 nc cc (tb C C s.h) (siY R C s cs) _ (B := w4.heap.size) (B' := w4.heap.size) (by (with_reducible (repeat (first | exact HP2.out | refine RI.drew ?_ | refine RI.drewN ?_ _ | refine RI.a_ ?_ | refine RI.s_ ?_ | refine RI.b_ ?_)))) (by (with_reducible (repeat (first | exact HC.out | refine RI.drew ?_ | refine RI.drewN ?_ _ | refine RI.a_ ?_ | refine RI.s_ ?_ | refine RI.b_ ?_)))) (by first | omega | (simp; done) | (simp; omega)) (by first | omega | (simp; done) | (simp; omega)) hn3 hnc2).mono ?_; rintro e w5 ⟨A4, n4, k4, rfl, ho4_, hb5⟩; have hs5 := hb5.size; (try simp at hs5); have ho5 : OR w5 (w4.heap.size + 1) (.slice A4 n4 k4) (mulM C C (tb C C s.h) C 1 (siY R C s cs)).xs := OR.mono ho4_ (by first | omega | (simp; done) | (simp; omega)); have k5 : ¬ Value.ownBlock (.slice A4 n4 k4) = some w4.heap.size := (fun e => by have := ho5.own _ e; omega); have rV : BM w5 w.heap.size R C A n cap := (by (with_reducible (repeat (first | exact tV | refine BX.n_ | refine BX.b_ ?_ | apply BX.drew | apply BX.drewN | refine BX.put ?_ | refine BX.put2 ?_ | refine BX.f_ ?_ | apply BX.alloc | refine B3.n_ | exact B3.of tV | refine B3.b_ ?_ | apply B3.drew | apply B3.drewN | refine B3.f_ ?_ | apply B3.alloc)))); have r3 : BM w5 (bH + 1 + 1) (C : Int) (C : Int) A3 n3 k3 := (by (with_reducible (repeat (first | exact t3 | refine BX.n_ | refine BX.b_ ?_ | apply BX.drew | apply BX.drewN | refine BX.put ?_ | refine BX.put2 ?_ | refine BX.f_ ?_ | apply BX.alloc | refine B3.n_ | exact B3.of t3 | refine B3.b_ ?_ | apply B3.drew | apply B3.drewN | refine B3.f_ ?_ | apply B3.alloc)))); have h9 : B3 28 w5 w4.heap.size := (by refine B3.below ?_ hb5 (by first | omega | (simp; done) | (simp; omega)); (with_reducible (repeat (first | refine B3.n_ | exact B3.new _ _ _ _ _ _ rfl | refine B3.drew ?_ | refine B3.drewN ?_ _ | refine B3.alloc ?_ _)))); have rb_ : Below w.heap.size w w5 := (by (repeat (first | (with_reducible (first | exact Below.refl _ _ | assumption | refine below_drewN ?_ _ | refine Below.drew ?_ | refine Below.alloc ?_ ?_ _ | refine Below.setCell ?_ ?_ _ | refine below_i ?_)) | go_size))); clear hb5; obtain ⟨x0, x1, x2, hx⟩ := id h9; have z0 := hx.cell 0; have z1 := hx.cell 1; have z2 := hx.cell 2; have zf := hx.frozen; have zl := hx.lt; simp at z0 z1 z2; obtain ⟨ja, jb, jc, jf, jl⟩ := r3.mx; have ne5 : ¬ bH + 1 + 1 = w5.heap.size := (by omega); have ne6 : ¬ w5.heap.size = bH + 1 + 1 := (by omega))); ((try go_wp2_with fail)); (refine hK.out _ _ ?_ (fun hHeld => ?_)); ((focus ((try dsimp only); (go_keep)))); (clear hK K); ((try simp only [Act.put, p1_, p2_, p3_])); ((refine tk_ (i := 4) (v := ?_) (y := Or.inl ⟨by rfl, ?_⟩) (h := ?_); rotate_left; (focus (((intro w hSw; (try dsimp only at hSw); go_simp) <;> (try with_reducible rfl)); done)); (try simp only [Act.put, p1_, p2_, p3_]))); ((refine tk_ (i := 5) (v := ?_) (y := Or.inl ⟨by rfl, ?_⟩) (h := ?_); rotate_left; (focus (((intro w hSw; (try dsimp only at hSw); go_simp) <;> (try with_reducible rfl)); done)); (try simp only [Act.put, p1_, p2_, p3_]))); ((refine tk_ (i := 6) (v := ?_) (y := Or.inl ⟨by rfl, ?_⟩) (h := ?_); rotate_left; (focus (((intro w hSw; (try dsimp only at hSw); go_simp) <;> (try with_reducible rfl)); done)); (try simp only [Act.put, p1_, p2_, p3_]))); (refine wpAnyH_ready (rs := [8]) (by kernel_rfl) (by simp) ?_); (refine AllReadyH.cons (by simp only [e1_, e2_, e3_]; try rfl) ?_ ?_); ((focus ((intro K hK); (go_simp); ((try go_wp2_with fail)); (refine hK.out _ _ ?_ (fun hHeld => ?_)); ((focus ((try dsimp only); (go_keep)))); (clear hK K); ((try simp only [Act.put, p1_, p2_, p3_])); ((refine tk_ (i := 9) (v := ?_) (y := Or.inl ⟨by rfl, ?_⟩) (h := ?_); rotate_left; (focus (((intro w hSw; (try dsimp only at hSw); go_simp) <;> (try with_reducible rfl)); done)); (try simp only [Act.put, p1_, p2_, p3_]))); (refine wpAnyH_done (by kernel_rfl) ?_ _)))); (rotate_left 1); (exact AllReadyH.nil)))); (rotate_left 1); (exact AllReadyH.nil)))); (rotate_left 1); (exact AllReadyH.nil)))); (rotate_left 2); (refine AllReadyH.cons (by simp only [e1_, e2_, e3_]; try rfl) ?_ ?_); ((focus ((intro K hK); (go_simp); ((try go_wp2_with fail)); (refine hK.out _ _ ?_ (fun hHeld => ?_)); ((focus ((try dsimp only); (go_keep)))); (clear hK K); ((try simp only [Act.put, p1_, p2_, p3_])); (refine wpAnyH_ready (rs := [2]) (by kernel_rfl) (by simp) ?_); (refine AllReadyH.cons (by simp only [e1_, e2_, e3_]; try rfl) ?_ ?_); ((focus ((intro K hK); (go_simp); ((go_at_call 92; refine (impl_columnOf (some ⟨w3.heap.size, 0, none⟩) C C (siY R C s cs) _ (B := wr.heap.size) (by (with_reducible (repeat (first | exact hyr.out | refine RI.drew ?_ | refine RI.drewN ?_ _ | refine RI.a_ ?_ | refine RI.s_ ?_ | refine RI.b_ ?_)))) (by first | omega | (simp; done) | (simp; omega)) (by omega)).mono ?_; rintro e w4 ⟨Ac, nc, cc, rfl, hc_, hb4⟩; have hc : OR w4 wr.heap.size (.slice Ac nc cc) (siY R C s cs) := OR.mono (xs := siY R C s cs) hc_ (by first | omega | (simp; done) | (simp; omega)); clear hc_; have hs4 := hb4.size; (try simp at hs4); have tV : BM w4 w.heap.size R C A n cap := (by (with_reducible (repeat (first | exact nMx | refine BX.n_ | refine BX.b_ ?_ | apply BX.drew | apply BX.drewN | refine BX.put ?_ | refine BX.put2 ?_ | refine BX.f_ ?_ | apply BX.alloc | refine B3.n_ | exact B3.of nMx | refine B3.b_ ?_ | apply B3.drew | apply B3.drewN | refine B3.f_ ?_ | apply B3.alloc)))); have t3 : BM w4 (bH + 1 + 1) (C : Int) (C : Int) A3 n3 k3 := (by (with_reducible (repeat (first | exact nM3 | refine BX.n_ | refine BX.b_ ?_ | apply BX.drew | apply BX.drewN | refine BX.put ?_ | refine BX.put2 ?_ | refine BX.f_ ?_ | apply BX.alloc | refine B3.n_ | exact B3.of nM3 | refine B3.b_ ?_ | apply B3.drew | apply B3.drewN | refine B3.f_ ?_ | apply B3.alloc)))); have u3 : OR w4 (w.heap.size + 1) (.slice A3 n3 k3) (tb C C s.h) := (by (with_reducible (repeat (first | exact p3 | refine OR.drew ?_ | refine OR.drewN ?_ _ | refine OR.alloc ?_ _ | refine OR.b_ ?_ | refine OR.l_ ?_)))); have h8 : B3 28 w4 wr.heap.size := (by refine B3.below ?_ hb4 (by first | omega | (simp; done) | (simp; omega)); (with_reducible (repeat (first | refine B3.n_ | exact B3.new _ _ _ _ _ _ rfl | refine B3.drew ?_ | refine B3.drewN ?_ _ | refine B3.alloc ?_ _)))); have tb_ : Below w.heap.size w w4 := (by (repeat (first | (with_reducible (first | exact Below.refl _ _ | assumption | refine below_drewN ?_ _ | refine Below.drew ?_ | refine Below.alloc ?_ ?_ _ | refine Below.setCell ?_ ?_ _ | refine below_i ?_)) | go_size))); have HP2 := Lib.hid u3.reads; have HC := Lib.hid hc.reads; have hnc := hc.lenEq; have hnc2 : nc ≤ 1048576 := (by have : (siY R C s cs).length = C := tab_len _ _; omega); clear hnc hb4; obtain ⟨ya, yb, yc, yf, yl⟩ := t3.mx; have ne1 : ¬ bH + 1 + 1 = wr.heap.size := (by omega); have ne2 : ¬ wr.heap.size = bH + 1 + 1 := (by omega); have ne3 : ¬ bH + 1 + 1 = w4.heap.size := (by omega); have ne4 : ¬ w4.heap.size = bH + 1 + 1 := (by omega); have hs42 : wr.heap.size ≤ w4.heap.size := (by omega))); ((try go_wp2_with fail)); (refine hK.out _ _ ?_ (fun hHeld => ?_)); ((focus ((try dsimp only); (go_keep)))); (clear hK K); ((try simp only [Act.put, p1_, p2_, p3_])); (refine wpAnyH_ready (rs := [3]) (by kernel_rfl) (by simp) ?_); (refine AllReadyH.cons (by simp only [e1_, e2_, e3_]; try rfl) ?_ ?_); ((focus ((intro K hK); (go_simp); ((go_at_call 32; refine (impl_MultiplyMatrices C C C 1 A3 Ac n3 k3 nc cc (tb C C s.h) (siY R C s cs) _ (B := w4.heap.size) (B' := w4.heap.size) (by (with_reducible (repeat (first | exact HP2.out | refine RI.drew ?_ | refine RI.drewN ?_ _ | refine RI.a_ ?_ | refine RI.s_ ?_ | refine RI.b_ ?_)))) (by (with_reducible (repeat (first | exact HC.out | refine RI.drew ?_ | refine RI.drewN ?_ _ | refine RI.a_ ?_ | refine RI.s_ ?_ | refine RI.b_ ?_)))) (by first | omega | (simp; done) | (simp; omega)) (by first | omega | (simp; done) | (simp; omega)) hn3 hnc2).mono ?_; rintro e w5 ⟨A4, n4, k4, rfl, ho4_, hb5⟩; have hs5 := hb5.size; (try simp at hs5); have ho5 : OR w5 w4.heap.size (.slice A4 n4 k4) (mulM C C (tb C C s.h) C 1 (siY R C s cs)).xs := OR.mono ho4_ (by first | omega | (simp; done) | (simp; omega)); have k5 : ¬ Value.ownBlock (.slice A4 n4 k4) = some wr.heap.size := (fun e => by have := ho5.own _ e; omega); have rV : BM w5 w.heap.size R C A n cap := (by (with_reducible (repeat (first | exact tV | refine BX.n_ | refine BX.b_ ?_ | apply BX.drew | apply BX.drewN | refine BX.put ?_ | refine BX.put2 ?_ | refine BX.f_ ?_ | apply BX.alloc | refine B3.n_ | exact B3.of tV | refine B3.b_ ?_ | apply B3.drew | apply B3.drewN | refine B3.f_ ?_ | apply B3.alloc)))); have r3 : BM w5 (bH + 1 + 1) (C : Int) (C : Int) A3 n3 k3 := (by (with_reducible (repeat (first | exact t3 | refine BX.n_ | refine BX.b_ ?_ | apply BX.drew | apply BX.drewN | refine BX.put ?_ | refine BX.put2 ?_ | refine BX.f_ ?_ | apply BX.alloc | refine B3.n_ | exact B3.of t3 | refine B3.b_ ?_ | apply B3.drew | apply B3.drewN | refine B3.f_ ?_ | apply B3.alloc)))); have h9 : B3 28 w5 wr.heap.size := h8.below hb5 (by first | omega | (simp; done) | (simp; omega)); have rb_ : Below w.heap.size w w5 := (by (repeat (first | (with_reducible (first | exact Below.refl _ _ | assumption | refine below_drewN ?_ _ | refine Below.drew ?_ | refine Below.alloc ?_ ?_ _ | refine Below.setCell ?_ ?_ _ | refine below_i ?_)) | go_size))); clear hb5; obtain ⟨x0, x1, x2, hx⟩ := id h9; have z0 := hx.cell 0; have z1 := hx.cell 1; have z2 := hx.cell 2; have zf := hx.frozen; have zl := hx.lt; simp at z0 z1 z2; obtain ⟨ja, jb, jc, jf, jl⟩ := r3.mx; have ne5 : ¬ bH + 1 + 1 = w5.heap.size := (by omega); have ne6 : ¬ w5.heap.size = bH + 1 + 1 := (by omega))); ((try go_wp2_with fail)); (refine hK.out _ _ ?_ (fun hHeld => ?_)); ((focus ((try dsimp only); (go_keep)))); (clear hK K); ((try simp only [Act.put, p1_, p2_, p3_])); ((refine tk_ (i := 4) (v := ?_) (y := Or.inl ⟨by rfl, ?_⟩) (h := ?_); rotate_left; (focus (((intro w hSw; (try dsimp only at hSw); go_simp) <;> (try with_reducible rfl)); done)); (try simp only [Act.put, p1_, p2_, p3_]))); ((refine tk_ (i := 5) (v := ?_) (y := Or.inl ⟨by rfl, ?_⟩) (h := ?_); rotate_left; (focus (((intro w hSw; (try dsimp only at hSw); go_simp) <;> (try with_reducible rfl)); done)); (try simp only [Act.put, p1_, p2_, p3_]))); ((refine tk_ (i := 6) (v := ?_) (y := Or.inl ⟨by rfl, ?_⟩) (h := ?_); rotate_left; (focus (((intro w hSw; (try dsimp only at hSw); go_simp) <;> (try with_reducible rfl)); done)); (try simp only [Act.put, p1_, p2_, p3_]))); (refine wpAnyH_ready (rs := [8]) (by kernel_rfl) (by simp) ?_); (refine AllReadyH.cons (by simp only [e1_, e2_, e3_]; try rfl) ?_ ?_); ((focus ((intro K hK); (go_simp); ((try go_wp2_with fail)); (refine hK.out _ _ ?_ (fun hHeld => ?_)); ((focus ((try dsimp only); (go_keep)))); (clear hK K); ((try simp only [Act.put, p1_, p2_, p3_])); ((refine tk_ (i := 9) (v := ?_) (y := Or.inl ⟨by rfl, ?_⟩) (h := ?_); rotate_left; (focus (((intro w hSw; (try dsimp only at hSw); go_simp) <;> (try with_reducible rfl)); done)); (try simp only [Act.put, p1_, p2_, p3_]))); (refine wpAnyH_done (by kernel_rfl) ?_ _)))); (rotate_left 1); (exact AllReadyH.nil)))); (rotate_left 1); (exact AllReadyH.nil)))); (rotate_left 1); (exact AllReadyH.nil)))); (rotate_left 1); (exact AllReadyH.nil))
            all_goals
              go_wp2_with fail
              go_meet
              case rel => exact ⟨_, _, _, _, rfl, rfl, by (with_reducible (repeat (first | exact rV | refine BX.n_ | refine BX.b_ ?_ | apply BX.drew | apply BX.drewN | refine BX.put ?_ | refine BX.put2 ?_ | refine BX.f_ ?_ | apply BX.alloc | refine B3.n_ | exact B3.of rV | refine B3.b_ ?_ | apply B3.drew | apply B3.drewN | refine B3.f_ ?_ | apply B3.alloc))), by first | exact BX.put h9 | (with_reducible (repeat (first | assumption | refine BX.n_ | refine BX.b_ ?_ | apply BX.drew | apply BX.drewN | refine BX.put ?_ | refine BX.put2 ?_ | refine BX.f_ ?_ | apply BX.alloc | refine B3.n_ | refine B3.of (by assumption) | refine B3.b_ ?_ | apply B3.drew | apply B3.drewN | refine B3.f_ ?_ | apply B3.alloc))), OR.mono (B := w4.heap.size) (by first | ((repeat (first | (with_reducible exact ho5) | (with_reducible refine OR.drew ?_) | (with_reducible refine OR.drewN ?_ _) | (with_reducible refine OR.alloc ?_ _) | (refine OR.far ?_ k5 _))); done) | (refine OR.mono (B := w4.heap.size + 1) ?_ (by omega); (repeat (first | (with_reducible exact ho5) | (with_reducible refine OR.drew ?_) | (with_reducible refine OR.drewN ?_ _) | (with_reducible refine OR.alloc ?_ _) | (refine OR.far ?_ k5 _))); done)) (by omega), by (repeat (first | (with_reducible (first | exact Below.refl _ _ | assumption | refine below_drewN ?_ _ | refine Below.drew ?_ | refine Below.alloc ?_ ?_ _ | refine Below.setCell ?_ ?_ _ | refine below_i ?_)) | go_size))⟩
          obtain ⟨bC, A4, n4, c4, rfl, rfl, hV4, hNC, ho4, hbw5⟩ := hcut
          clear nMx nM3 ma mb mc mf ml za zb zc zf zl p3 hbw
          obtain ⟨ca, cb, cc, cf, cl⟩ := hNC.mx
          have hs6 := hbw5.size
          rcases hmb : mulB C C (tb C C s.h) C 1 (siY R C s cs) with _ | _
          · have HR := Lib.hid (siR_big HS.out HF.out hmb)
            clear hmb
            go_wp2_with fail
            go_ret2
            exact IIR.mk (by rw [HR.out]) (OR.empty' _ _ (by simp) (by first | omega | (simp; done) | (simp; omega))) (by (repeat (first | (with_reducible (first | exact Below.refl _ _ | assumption | refine below_drewN ?_ _ | refine Below.drew ?_ | refine Below.alloc ?_ ?_ _ | refine Below.setCell ?_ ?_ _ | refine below_i ?_)) | go_size)))
          · have HR := Lib.hid (siR_yes HS.out HF.out hmb)
            rw [mulM_yes hmb] at ho4
            have ho4' : OR _ w.heap.size (.slice A4 n4 c4) (mulL (tb C C s.h) C C (siY R C s cs) 1) := ho4
            clear ho4
            have ho4 := ho4'
            clear ho4' hmb
            go_wp2_with fail
            go_ret2
            exact IIR.mk (by rw [HR.out]) (by (with_reducible (repeat (first | exact ho4 | refine OR.drew ?_ | refine OR.drewN ?_ _ | refine OR.alloc ?_ _ | refine OR.b_ ?_ | refine OR.l_ ?_)))) (by (repeat (first | (with_reducible (first | exact Below.refl _ _ | assumption | refine below_drewN ?_ _ | refine Below.drew ?_ | refine Below.alloc ?_ ?_ _ | refine Below.setCell ?_ ?_ _ | refine below_i ?_)) | go_size)))
    · have HF := Lib.hid hF
      have HR := Lib.hid (siR_none HS.out hF)
      clear hF
      refine (impl_firstWrong R C A1 A4 n1 k1 n4 k4 s.f cs _ (B := (w.heap.size + 1)) (B' := w2.heap.size) q1 q4.reads (Nat.le_refl _) HCL.out HOK.out HCN.out hR hC).mono ?_
      rw [HF.out]
      rintro e w3 ⟨rfl, hb3⟩
      have hk0 : (0 : Int) ≤ fwV (some k) := by show (0 : Int) ≤ (k : Int); omega
      have hbw3 : Below w.heap.size w w3 := by (repeat (first | (with_reducible (first | exact Below.refl _ _ | assumption | refine below_drewN ?_ _ | refine Below.drew ?_ | refine Below.alloc ?_ ?_ _ | refine Below.setCell ?_ ?_ _ | refine below_i ?_)) | go_size))
      have hs3 := hb3.size
      have hs2 := hbw.size
      clear hb3 hbw
      go_wp2_with fail
      go_ret2
      exact IIR.mk (by rw [HR.out]) (OR.empty' _ _ (by simp) (by first | omega | (simp; done) | (simp; omega))) (by (repeat (first | (with_reducible (first | exact Below.refl _ _ | assumption | refine below_drewN ?_ _ | refine Below.drew ?_ | refine Below.alloc ?_ ?_ _ | refine Below.setCell ?_ ?_ _ | refine below_i ?_)) | go_size)))
theorem siR_len (r c : Int) (xs bs : List Int) : (siR r c xs bs).1.length ≤ 1048576 := by
  rcases hS : siS r c xs bs with _ | ⟨s, cs⟩
  · rw [siR_fail hS]; exact Nat.zero_le _
  · have hm : isMat r c xs = true := by
      rcases hm : isMat r c xs with _ | _
      · rw [siS_none (sfX_no hm)] at hS; cases hS
      · rfl
    have M := isMat_iff.1 hm
    obtain ⟨R, rfl⟩ := nat_of M.r0
    obtain ⟨C, rfl⟩ := nat_of M.c0
    have hC : C ≤ 24 := by have := M.c1; omega
    rcases hF : fwF (dgF R C s.f) 0 cs with _ | k
    · rcases hmb : mulB C C (tb C C s.h) C 1 (siY R C s cs) with _ | _
      · rw [siR_big hS hF hmb]; exact Nat.zero_le _
      · rw [siR_yes hS hF hmb]
        show (mulL _ _ _ _ _).length ≤ _
        rw [mulL_len]; omega
    · rw [siR_none hS hF]; exact Nat.zero_le _
end Go.Proofs.Ytmcbhpaajjlmmaa

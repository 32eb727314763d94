/-
  DERIVED. SolveInteger of the reference.
-/
import Derived.Test.YtmcbhpaajjlmmaaSiBq
namespace Go.Proofs.Ytmcbhpaajjlmmaa
open Go.RowKit
set_option linter.unusedVariables false
set_option linter.unusedSimpArgs false
/-- The call returned an own slice and a number. -/
def IIR (ys : List Int) (k : Int) (w : World) (e : Ending) (w' : World) : Prop :=
  ∃ A n cap, e = .returned (.tuple #[.slice A n cap, .int .i64 k]) ∧ OR w' w.heap.size (.slice A n cap) ys ∧ Below w.heap.size w w'
theorem IIR.mk {ys zs : List Int} {k k' : Int} {A : Option Addr} {n cap : Nat} {w w' : World} (hz : (ys, k) = (zs, k')) (ho : OR w' w.heap.size (.slice A n cap) zs) (hb : Below w.heap.size w w') :
    IIR ys k w (.returned (.tuple #[.slice A n cap, .int .i64 k'])) w' := by
  injection hz with h1 h2
  subst h1; subst h2; exact ⟨A, n, cap, rfl, ho, hb⟩
theorem siR_fail {r c : Int} {xs bs : List Int} (h : siS r c xs bs = none) : siR r c xs bs = ([], 2) := by unfold siR; rw [h]
theorem siR_none {R C : Nat} {xs bs : List Int} {s : SS} {cs : List Int} {k : Nat} (h : siS R C xs bs = some (s, cs)) (hk : fwF (dgF R C s.f) 0 cs = some k) : siR R C xs bs = ([], 1) := by
  unfold siR; rw [h]; simp only [Int.toNat_natCast]; rw [hk]
theorem siR_big {R C : Nat} {xs bs : List Int} {s : SS} {cs : List Int} (h : siS R C xs bs = some (s, cs)) (hk : fwF (dgF R C s.f) 0 cs = none) (hm : mulB C C (tb C C s.h) C 1 (siY R C s cs) = false) : siR R C xs bs = ([], 2) := by
  unfold siR; rw [h]; simp only [Int.toNat_natCast]; rw [hk]; dsimp only; rw [hm]; rfl
theorem siR_yes {R C : Nat} {xs bs : List Int} {s : SS} {cs : List Int} (h : siS R C xs bs = some (s, cs)) (hk : fwF (dgF R C s.f) 0 cs = none) (hm : mulB C C (tb C C s.h) C 1 (siY R C s cs) = true) : siR R C xs bs = (mulL (tb C C s.h) C C (siY R C s cs) 1, 0) := by
  unfold siR; rw [h]; simp only [Int.toNat_natCast]; rw [hk]; dsimp only; rw [hm, mulM_yes hm]; simp
theorem tab_cg {n : Nat} {f g : Nat → Int} (h : ∀ k, k < n → f k = g k) : tab n f = tab n g := List.map_congr_left fun k hk => h k (List.mem_range.1 hk)
/-- The y that the loop makes, up to place i. -/
def siK (R C : Nat) (s : SS) (cs : List Int) (i : Nat) : List Int := tab C fun j => if j < i then (cs.getD j 0).tdiv (dgF R C s.f j) else 0
theorem siK_zero (R C : Nat) (s : SS) (cs : List Int) : siK R C s cs 0 = List.replicate C 0 := by
  unfold siK tab
  apply List.ext_getElem?
  intro i
  by_cases h : i < C <;> simp [h]
theorem siK_end {R C : Nat} {s : SS} {cs : List Int} (hl : cs.length = R) : siK R C s cs (min R C) = siY R C s cs := by
  unfold siK siY
  refine tab_cg fun j hj => ?_
  by_cases h : j < min R C
  · rw [if_pos h]
  · rw [if_neg h, show cs.getD j 0 = 0 by simp only [List.getD, List.getElem?_eq_none (show cs.length ≤ j by omega)]; rfl, Int.zero_tdiv]
theorem siK_skip {R C : Nat} {s : SS} {cs : List Int} {i : Nat} (h : dgF R C s.f i = 0) : siK R C s cs (i + 1) = siK R C s cs i := by
  unfold siK
  refine tab_cg fun j hj => ?_
  by_cases h1 : j < i
  · rw [if_pos h1, if_pos (by omega)]
  · by_cases h2 : j < i + 1
    · obtain rfl : j = i := by omega
      rw [if_neg h1, if_pos h2, h, Int.tdiv_zero]
    · rw [if_neg h1, if_neg h2]
theorem siK_set {R C : Nat} {s : SS} {cs : List Int} {i : Nat} (hi : i < C) : (siK R C s cs i).set i ((cs.getD i 0).tdiv (dgF R C s.f i)) = siK R C s cs (i + 1) := by
  unfold siK tab
  apply List.ext_getElem?
  intro j
  by_cases hj : j < C
  · by_cases hji : j = i
    · subst hji
      simp [hj]
    · rw [List.getElem?_set_ne (Ne.symm hji)]
      by_cases h1 : j < i
      · simp [hj, h1, show j < i + 1 by omega]
      · simp [hj, h1, show ¬ j < i + 1 by omega]
  · rw [List.getElem?_eq_none (by simp; omega), List.getElem?_eq_none (by simp; omega)]
theorem siK_len (R C : Nat) (s : SS) (cs : List Int) (i : Nat) : (siK R C s cs i).length = C := by simp [siK, tab]
set_option maxRecDepth 100000 in
set_option maxHeartbeats 8000000 in
theorem spec_SolveInteger (r c : Int) (A Ab : Option Addr) (n cap nb capb : Nat) (xs bs : List Int) (w : World) {B B' : Nat} (h : RI w B A n xs) (hb : RI w B' Ab nb bs) (hB : B ≤ w.heap.size) (hB' : B' ≤ w.heap.size) (hn : n ≤ 1048576) (hnb : nb ≤ 1048576) :
    Calls Try.prog 16 #[.agg #[.int .i64 r, .int .i64 c, .slice A n cap], .slice Ab nb capb] w (IIR (siR r c xs bs).1 (siR r c xs bs).2 w) := by
  have hlb := hb.len
  have hlb2 : bs.length ≤ nb ∧ nb ≤ bs.length := by omega
  have HLB := Lib.hid hlb
  have H2 := Lib.hid (h.more hB)
  have H3 := Lib.hid (hb.more hB')
  clear h hb hlb
  rcases hS : siS r c xs bs with _ | ⟨s, cs⟩
  · have HR := Lib.hid (siR_fail hS)
    have HS := Lib.hid hS
    clear hS
    go_enter Try.func16, Try.ntmps16
    go_wp2_with fail
    refine (spec_l14Ready r c A Ab n cap nb capb xs bs _ (B := w.heap.size) (B' := w.heap.size) (by (with_reducible (repeat (first | exact H2.out | refine RI.drew ?_ | refine RI.drewN ?_ _ | refine RI.a_ ?_ | refine RI.s_ ?_ | refine RI.b_ ?_)))) (by (with_reducible (repeat (first | exact H3.out | refine RI.drew ?_ | refine RI.drewN ?_ _ | refine RI.a_ ?_ | refine RI.s_ ?_ | refine RI.b_ ?_)))) (by first | omega | (simp; done) | (simp; omega)) (by first | omega | (simp; done) | (simp; omega)) hn hnb).mono ?_
    intro e w1 hk1
    obtain ⟨r1, c1, r2, c2, r3, c3, A1, A2, A3, A4, n1, k1, n2, k2, n3, k3, n4, k4, rfl, hb1⟩ := SFR.no HS.out hk1
    clear hk1
    have hs1 := hb1.size
    simp at hs1
    go_wp2_with fail
    go_ret2
    exact IIR.mk (by rw [HR.out]) (OR.empty' _ _ (by simp) (by first | omega | (simp; done) | (simp; omega))) (by (repeat (first | (with_reducible (first | exact Below.refl _ _ | assumption | refine below_drewN ?_ _ | refine Below.drew ?_ | refine Below.alloc ?_ ?_ _ | refine Below.setCell ?_ ?_ _ | refine below_i ?_)) | go_size)))
  · have hm : isMat r c xs = true := by
      rcases hm : isMat r c xs with _ | _
      · rw [siS_none (sfX_no hm)] at hS; cases hS
      · rfl
    have M := isMat_iff.1 hm
    obtain ⟨R, rfl⟩ := nat_of M.r0
    obtain ⟨C, rfl⟩ := nat_of M.c0
    have hR : R ≤ 24 := by have := M.r1; omega
    have hC : C ≤ 24 := by have := M.c1; omega
    obtain ⟨hX, hlen, hmul, hcs⟩ := siS_some hS
    have HOK : Hid (OKF R C s.f) := Lib.hid (sfX_gd hX).2.2.2.ok.f
    have hcl : cs.length = R := by rw [hcs, mulL_len]; omega
    have HCN : Hid (∀ k, Num (cs.getD k 0)) := Lib.hid (by
      unfold mulB at hmul
      rw [Bool.and_eq_true] at hmul
      have h2 := (isMat_iff.1 hmul.2).num
      simp only [Int.toNat_natCast] at h2
      rw [hcs]
      exact getD_num h2)
    have HS := Lib.hid hS
    have HCL := Lib.hid hcl
    have hcl2 : cs.length ≤ R ∧ R ≤ cs.length := by omega
    clear M hm hX hlen hmul hcs hcl hS
    go_enter Try.func16, Try.ntmps16
    go_wp2_with fail
    refine (spec_l14Ready R C A Ab n cap nb capb xs bs _ (B := w.heap.size) (B' := w.heap.size) (by (with_reducible (repeat (first | exact H2.out | refine RI.drew ?_ | refine RI.drewN ?_ _ | refine RI.a_ ?_ | refine RI.s_ ?_ | refine RI.b_ ?_)))) (by (with_reducible (repeat (first | exact H3.out | refine RI.drew ?_ | refine RI.drewN ?_ _ | refine RI.a_ ?_ | refine RI.s_ ?_ | refine RI.b_ ?_)))) (by first | omega | (simp; done) | (simp; omega)) (by first | omega | (simp; done) | (simp; omega)) hn hnb).mono ?_
    intro e w1 hk1
    obtain ⟨A1, n1, k1, A2, n2, k2, A3, n3, k3, A4, n4, k4, rfl, o1, o2, o3, o4, hb1⟩ := SFR.yes HS.out hk1
    clear hk1
    have hs1 := hb1.size
    simp at hs1
    have hMx : BM w1 w.heap.size R C A n cap := by (with_reducible (repeat (first | assumption | refine BX.n_ | refine BX.b_ ?_ | apply BX.drew | apply BX.drewN | refine BX.put ?_ | refine BX.put2 ?_ | refine BX.f_ ?_ | apply BX.alloc | refine B3.n_ | refine B3.of (by assumption) | refine B3.b_ ?_ | apply B3.drew | apply B3.drewN | refine B3.f_ ?_ | apply B3.alloc)))
    have hMx2 : BM (((w1.alloc (.cells #[.int .i64 (R : Int), .int .i64 (C : Int), .slice A1 n1 k1] 28)).alloc (.cells #[.int .i64 (R : Int), .int .i64 (R : Int), .slice A2 n2 k2] 28)).alloc (.cells #[.int .i64 (C : Int), .int .i64 (C : Int), .slice A3 n3 k3] 28)) w.heap.size R C A n cap := ((hMx.alloc _).alloc _).alloc _
    have hM1 : BM (((w1.alloc (.cells #[.int .i64 (R : Int), .int .i64 (C : Int), .slice A1 n1 k1] 28)).alloc (.cells #[.int .i64 (R : Int), .int .i64 (R : Int), .slice A2 n2 k2] 28)).alloc (.cells #[.int .i64 (C : Int), .int .i64 (C : Int), .slice A3 n3 k3] 28)) w1.heap.size (R : Int) (C : Int) A1 n1 k1 := by (with_reducible (repeat (first | assumption | refine BX.n_ | refine BX.b_ ?_ | apply BX.drew | apply BX.drewN | refine BX.put ?_ | refine BX.put2 ?_ | refine BX.f_ ?_ | apply BX.alloc | refine B3.n_ | refine B3.of (by assumption) | refine B3.b_ ?_ | apply B3.drew | apply B3.drewN | refine B3.f_ ?_ | apply B3.alloc)))
    have hM3 : BM (((w1.alloc (.cells #[.int .i64 (R : Int), .int .i64 (C : Int), .slice A1 n1 k1] 28)).alloc (.cells #[.int .i64 (R : Int), .int .i64 (R : Int), .slice A2 n2 k2] 28)).alloc (.cells #[.int .i64 (C : Int), .int .i64 (C : Int), .slice A3 n3 k3] 28)) (w1.heap.size + 1 + 1) (C : Int) (C : Int) A3 n3 k3 := by (with_reducible (repeat (first | assumption | refine BX.n_ | refine BX.b_ ?_ | apply BX.drew | apply BX.drewN | refine BX.put ?_ | refine BX.put2 ?_ | refine BX.f_ ?_ | apply BX.alloc | refine B3.n_ | refine B3.of (by assumption) | refine B3.b_ ?_ | apply B3.drew | apply B3.drewN | refine B3.f_ ?_ | apply B3.alloc)))
    have q1 : OR (((w1.alloc (.cells #[.int .i64 (R : Int), .int .i64 (C : Int), .slice A1 n1 k1] 28)).alloc (.cells #[.int .i64 (R : Int), .int .i64 (R : Int), .slice A2 n2 k2] 28)).alloc (.cells #[.int .i64 (C : Int), .int .i64 (C : Int), .slice A3 n3 k3] 28)) (w.heap.size + 1) (.slice A1 n1 k1) (tb R C s.f) := by have q := OR.mono (xs := tb R C s.f) (B' := (w.heap.size + 1)) o1 (by simp); (with_reducible (repeat (first | exact q | refine OR.drew ?_ | refine OR.drewN ?_ _ | refine OR.alloc ?_ _ | refine OR.b_ ?_ | refine OR.l_ ?_)))
    have q3 : OR (((w1.alloc (.cells #[.int .i64 (R : Int), .int .i64 (C : Int), .slice A1 n1 k1] 28)).alloc (.cells #[.int .i64 (R : Int), .int .i64 (R : Int), .slice A2 n2 k2] 28)).alloc (.cells #[.int .i64 (C : Int), .int .i64 (C : Int), .slice A3 n3 k3] 28)) (w.heap.size + 1) (.slice A3 n3 k3) (tb C C s.h) := by have q := OR.mono (xs := tb C C s.h) (B' := (w.heap.size + 1)) o3 (by simp); (with_reducible (repeat (first | exact q | refine OR.drew ?_ | refine OR.drewN ?_ _ | refine OR.alloc ?_ _ | refine OR.b_ ?_ | refine OR.l_ ?_)))
    have q4 : OR (((w1.alloc (.cells #[.int .i64 (R : Int), .int .i64 (C : Int), .slice A1 n1 k1] 28)).alloc (.cells #[.int .i64 (R : Int), .int .i64 (R : Int), .slice A2 n2 k2] 28)).alloc (.cells #[.int .i64 (C : Int), .int .i64 (C : Int), .slice A3 n3 k3] 28)) (w.heap.size + 1) (.slice A4 n4 k4) cs := by have q := OR.mono (xs := cs) (B' := (w.heap.size + 1)) o4 (by simp); (with_reducible (repeat (first | exact q | refine OR.drew ?_ | refine OR.drewN ?_ _ | refine OR.alloc ?_ _ | refine OR.b_ ?_ | refine OR.l_ ?_)))
    have hbw : Below w.heap.size w (((w1.alloc (.cells #[.int .i64 (R : Int), .int .i64 (C : Int), .slice A1 n1 k1] 28)).alloc (.cells #[.int .i64 (R : Int), .int .i64 (R : Int), .slice A2 n2 k2] 28)).alloc (.cells #[.int .i64 (C : Int), .int .i64 (C : Int), .slice A3 n3 k3] 28)) := by (repeat (first | (with_reducible (first | exact Below.refl _ _ | assumption | refine below_drewN ?_ _ | refine Below.drew ?_ | refine Below.alloc ?_ ?_ _ | refine Below.setCell ?_ ?_ _ | refine below_i ?_)) | go_size))
    have hsz2 : w1.heap.size + 1 + 1 + 1 ≤ ((((w1.alloc (.cells #[.int .i64 (R : Int), .int .i64 (C : Int), .slice A1 n1 k1] 28)).alloc (.cells #[.int .i64 (R : Int), .int .i64 (R : Int), .slice A2 n2 k2] 28)).alloc (.cells #[.int .i64 (C : Int), .int .i64 (C : Int), .slice A3 n3 k3] 28))).heap.size := by simp
    clear o1 o2 o3 o4 hb1
    go_wp2_with fail
    generalize (((w1.alloc (.cells #[.int .i64 (R : Int), .int .i64 (C : Int), .slice A1 n1 k1] 28)).alloc (.cells #[.int .i64 (R : Int), .int .i64 (R : Int), .slice A2 n2 k2] 28)).alloc (.cells #[.int .i64 (C : Int), .int .i64 (C : Int), .slice A3 n3 k3] 28)) = w2 at *
    generalize w1.heap.size = bH at *
    rcases hF : fwF (dgF R C s.f) 0 cs with _ | k
    · have HF := Lib.hid hF
      clear hF
      refine (spec_l14Blocked R C A1 A4 n1 k1 n4 k4 s.f cs _ (B := (w.heap.size + 1)) (B' := w2.heap.size) q1 q4.reads (Nat.le_refl _) HCL.out HOK.out hR hC).mono ?_
      rw [HF.out, show fwV none = (-1 : Int) from rfl]
      rintro e w3 ⟨rfl, hb3⟩
      have hs3 := hb3.size
      have nMx : BM w3 w.heap.size R C A n cap := hMx2.below hb3 (by have := hMx2.lt; omega)
      have nM1 : BM w3 bH (R : Int) (C : Int) A1 n1 k1 := hM1.below hb3 hM1.lt
      have nM3 : BM w3 (bH + 1 + 1) (C : Int) (C : Int) A3 n3 k3 := hM3.below hb3 hM3.lt
      have p1 : OR w3 (w.heap.size + 1) (.slice A1 n1 k1) (tb R C s.f) := by (with_reducible (repeat (first | exact q1 | refine OR.drew ?_ | refine OR.drewN ?_ _ | refine OR.alloc ?_ _ | refine OR.b_ ?_ | refine OR.l_ ?_)))
      have p3 : OR w3 (w.heap.size + 1) (.slice A3 n3 k3) (tb C C s.h) := by (with_reducible (repeat (first | exact q3 | refine OR.drew ?_ | refine OR.drewN ?_ _ | refine OR.alloc ?_ _ | refine OR.b_ ?_ | refine OR.l_ ?_)))
      have p4 : OR w3 (w.heap.size + 1) (.slice A4 n4 k4) cs := by (with_reducible (repeat (first | exact q4 | refine OR.drew ?_ | refine OR.drewN ?_ _ | refine OR.alloc ?_ _ | refine OR.b_ ?_ | refine OR.l_ ?_)))
      have HO4 := Lib.hid p4.own
      have HO1 := Lib.hid p1.own
      have HO3 := Lib.hid p3.own
      have hbw3 : Below w.heap.size w w3 := by (repeat (first | (with_reducible (first | exact Below.refl _ _ | assumption | refine below_drewN ?_ _ | refine Below.drew ?_ | refine Below.alloc ?_ ?_ _ | refine Below.setCell ?_ ?_ _ | refine below_i ?_)) | go_size))
      clear hMx2 hM1 hM3 q1 q3 q4 hbw hb3
      obtain ⟨ma, mb, mc, mf, ml⟩ := nMx.mx
      obtain ⟨i0, hi, hz0, hz1, hz2⟩ := info_parts int_info
      go_wp2_with (at_make; refine wpList_make_full _ rfl _ _ 22 rfl w3.heap.size 3 i0 (.int .i64 0) 1 Try.underlying22 hi hz0 hz1 _ _ _ _ C rfl rfl rfl rfl ?b2 ?b3 (Nat.le_refl _) ?_)
      case b2 => rw [hz2]; omega
      case b3 => unfold maxLen; omega
      intro w4 hown0 hgrow0
      have hy : OR w4 w3.heap.size (.slice (some ⟨w3.heap.size, 0, none⟩) C C) (siK R C s cs 0) := by rw [siK_zero]; exact OR.of_made hown0
      have hb4 : Below w3.heap.size w3 w4 := (Below.refl _ _).grown hgrow0 (Nat.le_refl _) (by simp)
      have nMx : BM w4 w.heap.size R C A n cap := nMx.below hb4 (by omega)
      have nM1 : BM w4 bH (R : Int) (C : Int) A1 n1 k1 := nM1.below hb4 nM1.lt
      have nM3 : BM w4 (bH + 1 + 1) (C : Int) (C : Int) A3 n3 k3 := nM3.below hb4 nM3.lt
      have p1 : OR w4 (w.heap.size + 1) (.slice A1 n1 k1) (tb R C s.f) := by (with_reducible (repeat (first | exact p1 | refine OR.drew ?_ | refine OR.drewN ?_ _ | refine OR.alloc ?_ _ | refine OR.b_ ?_ | refine OR.l_ ?_)))
      have p3 : OR w4 (w.heap.size + 1) (.slice A3 n3 k3) (tb C C s.h) := by (with_reducible (repeat (first | exact p3 | refine OR.drew ?_ | refine OR.drewN ?_ _ | refine OR.alloc ?_ _ | refine OR.b_ ?_ | refine OR.l_ ?_)))
      have p4 : OR w4 (w.heap.size + 1) (.slice A4 n4 k4) cs := by (with_reducible (repeat (first | exact p4 | refine OR.drew ?_ | refine OR.drewN ?_ _ | refine OR.alloc ?_ _ | refine OR.b_ ?_ | refine OR.l_ ?_)))
      have hbw4 : Below w.heap.size w w4 := by (repeat (first | (with_reducible (first | exact Below.refl _ _ | assumption | refine below_drewN ?_ _ | refine Below.drew ?_ | refine Below.alloc ?_ ?_ _ | refine Below.setCell ?_ ?_ _ | refine below_i ?_)) | go_size))
      clear hown0 hgrow0 ma mb mc mf ml hi hz0 hz1 hz2
      go_wp2_with fail
      go_loopg [12] (min R C + 1) (fun k v wr => ∃ i : Nat, v = .int .i64 i ∧ i ≤ min R C ∧ min R C - i < k ∧ OR wr w3.heap.size (.slice (some ⟨w3.heap.size, 0, none⟩) C C) (siK R C s cs i) ∧ BM wr w.heap.size R C A n cap ∧ BM wr bH (R : Int) (C : Int) A1 n1 k1 ∧ BM wr (bH + 1 + 1) (C : Int) (C : Int) A3 n3 k3 ∧ OR wr (w.heap.size + 1) (.slice A1 n1 k1) (tb R C s.f) ∧ OR wr (w.heap.size + 1) (.slice A3 n3 k3) (tb C C s.h) ∧ OR wr (w.heap.size + 1) (.slice A4 n4 k4) cs ∧ Below w.heap.size w wr ∧ w3.heap.size < wr.heap.size)
      case atStart => exact ⟨0, rfl, Nat.zero_le _, by omega, hy, nMx, nM1, nM3, p1, p3, p4, hbw4, by have := hy.own _ rfl; omega⟩
      case round =>
        clear hy hb4 nMx nM1 nM3 p1 p3 p4 hbw4 hbw3
        obtain ⟨i, rfl, hi, hk, hy, nMx, nM1, nM3, p1, p3, p4, hbw, hs4⟩ := hrel
        obtain ⟨ma, mb, mc, mf, ml⟩ := nMx.mx
        obtain ⟨ua, ub, uc, uf, ul⟩ := nM1.mx
        go_upto_region 8 with fail
        go_cut [41] from 35 to 60 (fun v wc => ∃ tb : Bool, v = .bool tb ∧ (tb = decide (i < min R C)) ∧ wc = wr)
        case first =>
          rcases Nat.lt_or_ge C R with hRC | hRC
          · go_wp2_with fail
            go_meet
            case rel => exact ⟨_, rfl, (by rw [Bool.eq_iff_iff]; (try simp only [decide_eq_true_eq]); omega), rfl⟩
          · go_wp2_with fail
            go_meet
            case rel => exact ⟨_, rfl, (by rw [Bool.eq_iff_iff]; (try simp only [decide_eq_true_eq]); omega), rfl⟩
        obtain ⟨tst, rfl, htst, rfl⟩ := hcut
        by_cases hiR : i < min R C
        · rw [decide_eq_true hiR] at htst
          subst htst
          have hd : dgF R C s.f i = s.f i i := dgF_in (by omega) (by omega)
          have HDE := Lib.hid hd
          clear hd
          by_cases hz : s.f i i = 0
          · have HE := Lib.hid (siK_skip (cs := cs) (HDE.out.trans hz))
            have HD := Lib.hid hz
            clear hz
            go_wp2_with fail
            refine (spec_l12Cell_tb R C i i A1 n1 k1 s.f 0 HD.out _ (B := (w.heap.size + 1)) (by (with_reducible (repeat (first | exact p1 | refine OR.drew ?_ | refine OR.drewN ?_ _ | refine OR.alloc ?_ _ | refine OR.b_ ?_ | refine OR.l_ ?_)))) (by omega) (by omega) (by omega) (by omega)).mono ?_
            rintro e w5 ⟨rfl, hb5⟩
            have hs5 := hb5.size
            (try simp at hs5)
            go_wp2_with fail
            go_roundg (gk - 1)
            case measure => omega
            case rel => exact ⟨i + 1, by go_num, by omega, by omega, by rw [HE.out]; (with_reducible (repeat (first | exact hy | refine OR.drew ?_ | refine OR.drewN ?_ _ | refine OR.alloc ?_ _ | refine OR.b_ ?_ | refine OR.l_ ?_))), by (with_reducible (repeat (first | exact nMx | refine BX.n_ | refine BX.b_ ?_ | apply BX.drew | apply BX.drewN | refine BX.put ?_ | refine BX.put2 ?_ | refine BX.f_ ?_ | apply BX.alloc | refine B3.n_ | exact B3.of nMx | refine B3.b_ ?_ | apply B3.drew | apply B3.drewN | refine B3.f_ ?_ | apply B3.alloc))), by (with_reducible (repeat (first | exact nM1 | refine BX.n_ | refine BX.b_ ?_ | apply BX.drew | apply BX.drewN | refine BX.put ?_ | refine BX.put2 ?_ | refine BX.f_ ?_ | apply BX.alloc | refine B3.n_ | exact B3.of nM1 | refine B3.b_ ?_ | apply B3.drew | apply B3.drewN | refine B3.f_ ?_ | apply B3.alloc))), by (with_reducible (repeat (first | exact nM3 | refine BX.n_ | refine BX.b_ ?_ | apply BX.drew | apply BX.drewN | refine BX.put ?_ | refine BX.put2 ?_ | refine BX.f_ ?_ | apply BX.alloc | refine B3.n_ | exact B3.of nM3 | refine B3.b_ ?_ | apply B3.drew | apply B3.drewN | refine B3.f_ ?_ | apply B3.alloc))), by (with_reducible (repeat (first | exact p1 | refine OR.drew ?_ | refine OR.drewN ?_ _ | refine OR.alloc ?_ _ | refine OR.b_ ?_ | refine OR.l_ ?_))), by (with_reducible (repeat (first | exact p3 | refine OR.drew ?_ | refine OR.drewN ?_ _ | refine OR.alloc ?_ _ | refine OR.b_ ?_ | refine OR.l_ ?_))), by (with_reducible (repeat (first | exact p4 | refine OR.drew ?_ | refine OR.drewN ?_ _ | refine OR.alloc ?_ _ | refine OR.b_ ?_ | refine OR.l_ ?_))), by (repeat (first | (with_reducible (first | exact Below.refl _ _ | assumption | refine below_drewN ?_ _ | refine Below.drew ?_ | refine Below.alloc ?_ ?_ _ | refine Below.setCell ?_ ?_ _ | refine below_i ?_)) | go_size)), (by first | omega | (simp; done) | (simp; omega))⟩
          · have hz0 : ¬ s.f i i = 0 := hz
            have hznb : (s.f i i != 0) = true := by simpa using hz
            have HE : Hid ((siK R C s cs i).set i ((cs.getD i 0).tdiv (s.f i i)) = siK R C s cs (i + 1)) := Lib.hid (by rw [← HDE.out]; exact siK_set (by omega))
            obtain ⟨x1, x2⟩ := HCN.out i
            have hqb : ((cs.getD i 0).tdiv (s.f i i)).natAbs ≤ (cs.getD i 0).natAbs := by rw [Int.natAbs_tdiv]; exact Nat.div_le_self _ _
            have hw1 : IntKind.i64.wrap ((cs.getD i 0).tdiv (s.f i i)) = (cs.getD i 0).tdiv (s.f i i) := IntWalk.i64_in _ (by omega)
            obtain ⟨g4, rfl, hg1, hg2⟩ := p4.begins (by omega)
            have hg3 := (HO4.out g4 rfl).2
            have c1 := p4.cell i (by omega)
            have hln4 := p4.lenEq
            have hi4 : i < n4 := by omega
            have hiC : i < C := by omega
            have c2 := hy.cell i (by rw [siK_len]; omega)
            have f2 := hy.frozen i
            have ne1 : ¬ g4 = w3.heap.size := by omega
            have ne2 : ¬ w3.heap.size = g4 := by omega
            have hbH : bH < w3.heap.size := by have := nM1; omega
            have ne3 : ¬ bH = w3.heap.size := by omega
            have ne4 : ¬ w3.heap.size = bH := by omega
            have HI4 : Hid (i < cs.length) := Lib.hid (by omega)
            have HI5 : Hid (i < (siK R C s cs i).length) := Lib.hid (by rw [siK_len]; omega)
            have HI6 : Hid (i < R ∧ i < C) := Lib.hid (by omega)
            generalize hxv : cs.getD i 0 = x at *
            generalize hzv : s.f i i = z at *
            have HXV := Lib.hid hxv
            have HZV := Lib.hid hzv
            clear hxv hzv hz hqb hln4
            go_wp2_with fail
            refine (spec_l12Cell_tb R C i i A1 n1 k1 s.f z HZV.out _ (B := (w.heap.size + 1)) (by (with_reducible (repeat (first | exact p1 | refine OR.drew ?_ | refine OR.drewN ?_ _ | refine OR.alloc ?_ _ | refine OR.b_ ?_ | refine OR.l_ ?_)))) (by omega) (by omega) HI6.out.1 HI6.out.2).mono ?_
            rintro e w5 ⟨rfl, hb5⟩
            (have hs5 := hb5.size); (try simp at hs5); (have hy_1 : OR w5 w3.heap.size (.slice (some ⟨w3.heap.size, 0, none⟩) C C) (siK R C s cs i) := (by (with_reducible (repeat (first | exact hy | refine OR.drew ?_ | refine OR.drewN ?_ _ | refine OR.alloc ?_ _ | refine OR.b_ ?_ | refine OR.l_ ?_))))); (have nMx_1 : BM w5 w.heap.size R C A n cap := (by (with_reducible (repeat (first | exact nMx | refine BX.n_ | refine BX.b_ ?_ | apply BX.drew | apply BX.drewN | refine BX.put ?_ | refine BX.put2 ?_ | refine BX.f_ ?_ | apply BX.alloc | refine B3.n_ | exact B3.of nMx | refine B3.b_ ?_ | apply B3.drew | apply B3.drewN | refine B3.f_ ?_ | apply B3.alloc))))); (have nM1_1 : BM w5 bH (R : Int) (C : Int) A1 n1 k1 := (by (with_reducible (repeat (first | exact nM1 | refine BX.n_ | refine BX.b_ ?_ | apply BX.drew | apply BX.drewN | refine BX.put ?_ | refine BX.put2 ?_ | refine BX.f_ ?_ | apply BX.alloc | refine B3.n_ | exact B3.of nM1 | refine B3.b_ ?_ | apply B3.drew | apply B3.drewN | refine B3.f_ ?_ | apply B3.alloc))))); (have nM3_1 : BM w5 (bH + 1 + 1) (C : Int) (C : Int) A3 n3 k3 := (by (with_reducible (repeat (first | exact nM3 | refine BX.n_ | refine BX.b_ ?_ | apply BX.drew | apply BX.drewN | refine BX.put ?_ | refine BX.put2 ?_ | refine BX.f_ ?_ | apply BX.alloc | refine B3.n_ | exact B3.of nM3 | refine B3.b_ ?_ | apply B3.drew | apply B3.drewN | refine B3.f_ ?_ | apply B3.alloc))))); (have p1_1 : OR w5 (w.heap.size + 1) (.slice A1 n1 k1) (tb R C s.f) := (by (with_reducible (repeat (first | exact p1 | refine OR.drew ?_ | refine OR.drewN ?_ _ | refine OR.alloc ?_ _ | refine OR.b_ ?_ | refine OR.l_ ?_))))); (have p3_1 : OR w5 (w.heap.size + 1) (.slice A3 n3 k3) (tb C C s.h) := (by (with_reducible (repeat (first | exact p3 | refine OR.drew ?_ | refine OR.drewN ?_ _ | refine OR.alloc ?_ _ | refine OR.b_ ?_ | refine OR.l_ ?_))))); (have p4_1 : OR w5 (w.heap.size + 1) (.slice (some ⟨g4, 0, none⟩) n4 k4) cs := (by (with_reducible (repeat (first | exact p4 | refine OR.drew ?_ | refine OR.drewN ?_ _ | refine OR.alloc ?_ _ | refine OR.b_ ?_ | refine OR.l_ ?_))))); (have hbw_1 : Below w.heap.size w w5 := (by (repeat (first | (with_reducible (first | exact Below.refl _ _ | assumption | refine below_drewN ?_ _ | refine Below.drew ?_ | refine Below.alloc ?_ ?_ _ | refine Below.setCell ?_ ?_ _ | refine below_i ?_)) | go_size)))); clear hy nMx nM1 nM3 p1 p3 p4 hbw hb5 ua ub uc uf ul ma mb mc mf ml c1 c2 f2; (have hy := hy_1); (have nMx := nMx_1); (have nM1 := nM1_1); (have nM3 := nM3_1); (have p1 := p1_1); (have p3 := p3_1); (have p4 := p4_1); (have hbw := hbw_1); clear hy_1 nMx_1 nM1_1 nM3_1 p1_1 p3_1 p4_1 hbw_1; obtain ⟨ua, ub, uc, uf, ul⟩ := nM1.mx; obtain ⟨ma, mb, mc, mf, ml⟩ := nMx.mx; (have c1 := p4.cell i HI4.out); (have c2 := hy.cell i HI5.out); (have f2 := hy.frozen i); rw [HXV.out] at c1
            go_wp2_with fail
            ((refine wp_region_held_drew (S := (fun w' => w'.cell? ⟨g4, i, none⟩ = some (.int .i64 x) ∧ w'.cell? ⟨bH, 0, none⟩ = some (.int .i64 R) ∧ w'.cell? ⟨bH, 1, none⟩ = some (.int .i64 C) ∧ w'.cell? ⟨bH, 2, none⟩ = some (.slice A1 n1 k1))) (by kernel_rfl) ?_ (fun hHeld => ?_)); ((focus ((try dsimp only); (go_keep)))); ((refine tk_ (i := 0) (v := ?_) (y := Or.inl ⟨by rfl, ?_⟩) (h := ?_); rotate_left; (focus (((intro w hSw; (try dsimp only at hSw); go_simp) <;> (try with_reducible rfl)); done)); (try simp only [Act.put, p1_, p2_, p3_]))); ((refine tk_ (i := 1) (v := ?_) (y := Or.inl ⟨by rfl, ?_⟩) (h := ?_); rotate_left; (focus (((intro w hSw; (try dsimp only at hSw); go_simp) <;> (try with_reducible rfl)); done)); (try simp only [Act.put, p1_, p2_, p3_]))); ((refine tk_ (i := 2) (v := ?_) (y := Or.inl ⟨by rfl, ?_⟩) (h := ?_); rotate_left; (focus (((intro w hSw; (try dsimp only at hSw); go_simp) <;> (try with_reducible rfl)); done)); (try simp only [Act.put, p1_, p2_, p3_]))); ((refine tk_ (i := 3) (v := ?_) (y := Or.inl ⟨by rfl, ?_⟩) (h := ?_); rotate_left; (focus (((intro w hSw; (try dsimp only at hSw); go_simp) <;> (try with_reducible rfl)); done)); (try simp only [Act.put, p1_, p2_, p3_]))); ((refine tk_ (i := 4) (v := ?_) (y := Or.inl ⟨by rfl, ?_⟩) (h := ?_); rotate_left; (focus (((intro w hSw; (try dsimp only at hSw); go_simp) <;> (try with_reducible rfl)); done)); (try simp only [Act.put, p1_, p2_, p3_]))); ((refine tk_ (i := 5) (v := ?_) (y := Or.inl ⟨by rfl, ?_⟩) (h := ?_); rotate_left; (focus (((intro w hSw; (try dsimp only at hSw); go_simp) <;> (try with_reducible rfl)); done)); (try simp only [Act.put, p1_, p2_, p3_]))); ((refine tk_ (i := 6) (v := ?_) (y := Or.inl ⟨by rfl, ?_⟩) (h := ?_); rotate_left; (focus (((intro w hSw; (try dsimp only at hSw); go_simp) <;> (try with_reducible rfl)); done)); (try simp only [Act.put, p1_, p2_, p3_]))); ((refine tk_ (i := 7) (v := ?_) (y := Or.inl ⟨by rfl, ?_⟩) (h := ?_); rotate_left; (focus (((intro w hSw; (try dsimp only at hSw); go_simp) <;> (try with_reducible rfl)); done)); (try simp only [Act.put, p1_, p2_, p3_]))); ((refine tk_ (i := 8) (v := ?_) (y := Or.inl ⟨by rfl, ?_⟩) (h := ?_); rotate_left; (focus (((intro w hSw; (try dsimp only at hSw); go_simp) <;> (try with_reducible rfl)); done)); (try simp only [Act.put, p1_, p2_, p3_]))); ((refine wpAnyH_ready (rs := [9]) (by kernel_rfl) (by simp) ?_; refine AllReadyH.cons (by simp only [e1_, e2_, e3_]; try rfl) (fun K hK => ?_) AllReadyH.nil; go_simp; (refine (spec_l12Cell_tb R C i i A1 n1 k1 s.f z HZV.out _ (B := (w.heap.size + 1)) (by (with_reducible (repeat (first | exact p1 | refine OR.drew ?_ | refine OR.drewN ?_ _ | refine OR.alloc ?_ _ | refine OR.b_ ?_ | refine OR.l_ ?_)))) (by omega) (by omega) HI6.out.1 HI6.out.2).mono ?_; rintro e w5 ⟨rfl, hb5⟩; (have hs5 := hb5.size); (try simp at hs5); (have hy_1 : OR w5 w3.heap.size (.slice (some ⟨w3.heap.size, 0, none⟩) C C) (siK R C s cs i) := (by (with_reducible (repeat (first | exact hy | refine OR.drew ?_ | refine OR.drewN ?_ _ | refine OR.alloc ?_ _ | refine OR.b_ ?_ | refine OR.l_ ?_))))); (have nMx_1 : BM w5 w.heap.size R C A n cap := (by (with_reducible (repeat (first | exact nMx | refine BX.n_ | refine BX.b_ ?_ | apply BX.drew | apply BX.drewN | refine BX.put ?_ | refine BX.put2 ?_ | refine BX.f_ ?_ | apply BX.alloc | refine B3.n_ | exact B3.of nMx | refine B3.b_ ?_ | apply B3.drew | apply B3.drewN | refine B3.f_ ?_ | apply B3.alloc))))); (have nM1_1 : BM w5 bH (R : Int) (C : Int) A1 n1 k1 := (by (with_reducible (repeat (first | exact nM1 | refine BX.n_ | refine BX.b_ ?_ | apply BX.drew | apply BX.drewN | refine BX.put ?_ | refine BX.put2 ?_ | refine BX.f_ ?_ | apply BX.alloc | refine B3.n_ | exact B3.of nM1 | refine B3.b_ ?_ | apply B3.drew | apply B3.drewN | refine B3.f_ ?_ | apply B3.alloc))))); (have nM3_1 : BM w5 (bH + 1 + 1) (C : Int) (C : Int) A3 n3 k3 := (by (with_reducible (repeat (first | exact nM3 | refine BX.n_ | refine BX.b_ ?_ | apply BX.drew | apply BX.drewN | refine BX.put ?_ | refine BX.put2 ?_ | refine BX.f_ ?_ | apply BX.alloc | refine B3.n_ | exact B3.of nM3 | refine B3.b_ ?_ | apply B3.drew | apply B3.drewN | refine B3.f_ ?_ | apply B3.alloc))))); (have p1_1 : OR w5 (w.heap.size + 1) (.slice A1 n1 k1) (tb R C s.f) := (by (with_reducible (repeat (first | exact p1 | refine OR.drew ?_ | refine OR.drewN ?_ _ | refine OR.alloc ?_ _ | refine OR.b_ ?_ | refine OR.l_ ?_))))); (have p3_1 : OR w5 (w.heap.size + 1) (.slice A3 n3 k3) (tb C C s.h) := (by (with_reducible (repeat (first | exact p3 | refine OR.drew ?_ | refine OR.drewN ?_ _ | refine OR.alloc ?_ _ | refine OR.b_ ?_ | refine OR.l_ ?_))))); (have p4_1 : OR w5 (w.heap.size + 1) (.slice (some ⟨g4, 0, none⟩) n4 k4) cs := (by (with_reducible (repeat (first | exact p4 | refine OR.drew ?_ | refine OR.drewN ?_ _ | refine OR.alloc ?_ _ | refine OR.b_ ?_ | refine OR.l_ ?_))))); (have hbw_1 : Below w.heap.size w w5 := (by (repeat (first | (with_reducible (first | exact Below.refl _ _ | assumption | refine below_drewN ?_ _ | refine Below.drew ?_ | refine Below.alloc ?_ ?_ _ | refine Below.setCell ?_ ?_ _ | refine below_i ?_)) | go_size)))); clear hy nMx nM1 nM3 p1 p3 p4 hbw hb5 ua ub uc uf ul ma mb mc mf ml c1 c2 f2; (have hy := hy_1); (have nMx := nMx_1); (have nM1 := nM1_1); (have nM3 := nM3_1); (have p1 := p1_1); (have p3 := p3_1); (have p4 := p4_1); (have hbw := hbw_1); clear hy_1 nMx_1 nM1_1 nM3_1 p1_1 p3_1 p4_1 hbw_1; obtain ⟨ua, ub, uc, uf, ul⟩ := nM1.mx; obtain ⟨ma, mb, mc, mf, ml⟩ := nMx.mx; (have c1 := p4.cell i HI4.out); (have c2 := hy.cell i HI5.out); (have f2 := hy.frozen i); rw [HXV.out] at c1); (try go_wp2_with fail); refine hK.out _ _ ?_ (fun hHeld => ?_); (focus ((try dsimp only); (go_keep))); clear hK K; (try simp only [Act.put, p1_, p2_, p3_]))); ((refine tk_ (i := 10) (v := ?_) (y := Or.inl ⟨by rfl, ?_⟩) (h := ?_); rotate_left; (focus (((intro w hSw; (try dsimp only at hSw); go_simp) <;> (try with_reducible rfl)); done)); (try simp only [Act.put, p1_, p2_, p3_]))); ((refine tk_ (i := 11) (v := ?_) (y := Or.inl ⟨by rfl, ?_⟩) (h := ?_); rotate_left; (focus (((intro w hSw; (try dsimp only at hSw); go_simp) <;> (try with_reducible rfl)); done)); (try simp only [Act.put, p1_, p2_, p3_]))); ((refine wpAnyH_ready (rs := [12]) (by kernel_rfl) (by simp) ?_; refine AllReadyH.cons (by simp only [e1_, e2_, e3_]; try rfl) (fun K hK => ?_) AllReadyH.nil; go_simp; (try go_wp2_with fail); refine hK.out _ _ ?_ (fun hHeld => ?_); (focus ((try dsimp only); (go_keep))); clear hK K; (try simp only [Act.put, p1_, p2_, p3_]))); (refine wpAnyH_done (by kernel_rfl) ?_ _))
            have hst := hy.set_ i (x.tdiv z)
            rw [HE.out] at hst
            go_wp2_with fail
            go_roundg (gk - 1)
            case measure => omega
            case rel => exact ⟨i + 1, by go_num, by omega, by omega, by first | exact hst | exact OR.drew hst, by (with_reducible (repeat (first | exact nMx | refine BX.n_ | refine BX.b_ ?_ | apply BX.drew | apply BX.drewN | refine BX.put ?_ | refine BX.put2 ?_ | refine BX.f_ ?_ | apply BX.alloc | refine B3.n_ | exact B3.of nMx | refine B3.b_ ?_ | apply B3.drew | apply B3.drewN | refine B3.f_ ?_ | apply B3.alloc))), by (with_reducible (repeat (first | exact nM1 | refine BX.n_ | refine BX.b_ ?_ | apply BX.drew | apply BX.drewN | refine BX.put ?_ | refine BX.put2 ?_ | refine BX.f_ ?_ | apply BX.alloc | refine B3.n_ | exact B3.of nM1 | refine B3.b_ ?_ | apply B3.drew | apply B3.drewN | refine B3.f_ ?_ | apply B3.alloc))), by (with_reducible (repeat (first | exact nM3 | refine BX.n_ | refine BX.b_ ?_ | apply BX.drew | apply BX.drewN | refine BX.put ?_ | refine BX.put2 ?_ | refine BX.f_ ?_ | apply BX.alloc | refine B3.n_ | exact B3.of nM3 | refine B3.b_ ?_ | apply B3.drew | apply B3.drewN | refine B3.f_ ?_ | apply B3.alloc))), OR.far (by (with_reducible (repeat (first | exact p1 | refine OR.drew ?_ | refine OR.drewN ?_ _ | refine OR.alloc ?_ _ | refine OR.b_ ?_ | refine OR.l_ ?_)))) (fun e => Nat.lt_irrefl _ (HO1.out w3.heap.size e).2) _, OR.far (by (with_reducible (repeat (first | exact p3 | refine OR.drew ?_ | refine OR.drewN ?_ _ | refine OR.alloc ?_ _ | refine OR.b_ ?_ | refine OR.l_ ?_)))) (fun e => Nat.lt_irrefl _ (HO3.out w3.heap.size e).2) _, OR.far (by (with_reducible (repeat (first | exact p4 | refine OR.drew ?_ | refine OR.drewN ?_ _ | refine OR.alloc ?_ _ | refine OR.b_ ?_ | refine OR.l_ ?_)))) (fun e => Nat.lt_irrefl _ (HO4.out w3.heap.size e).2) _, by (repeat (first | (with_reducible (first | exact Below.refl _ _ | assumption | refine below_drewN ?_ _ | refine Below.drew ?_ | refine Below.alloc ?_ ?_ _ | refine Below.setCell ?_ ?_ _ | refine below_i ?_)) | go_size)), (by first | omega | (simp; done) | (simp; omega))⟩
        · have hiE : i = min R C := by omega
          rw [hiE, siK_end HCL.out] at hy
          rw [decide_eq_false hiR] at htst
          subst htst
          clear hiE hiR
          have hn3 : n3 ≤ 1048576 := by have h8 := p3.lenEq; rw [tb_len] at h8; have := Nat.mul_le_mul hC hC; omega
          obtain ⟨za, zb, zc, zf, zl⟩ := nM3.mx
          go_wp2_with fail
          refine (spec_l14Times C C A3 (some ⟨w3.heap.size, 0, none⟩) n3 k3 C C (tb C C s.h) (siY R C s cs) _ p3.reads hy.reads (Nat.le_refl _) (Nat.le_refl _) hn3 (by omega)).mono ?_
          rcases hmb : mulB C C (tb C C s.h) C 1 (siY R C s cs) with _ | _
          · have HR := Lib.hid (siR_big HS.out HF.out hmb)
            clear hmb
            rintro e w5 ⟨A5, n5, k5, rfl, -, hb5⟩
            have hs5 := hb5.size
            have hs6 := hbw.size
            go_wp2_with fail
            go_ret2
            exact IIR.mk (by rw [HR.out]) (OR.empty' _ _ (by simp) (by first | omega | (simp; done) | (simp; omega))) (by (repeat (first | (with_reducible (first | exact Below.refl _ _ | assumption | refine below_drewN ?_ _ | refine Below.drew ?_ | refine Below.alloc ?_ ?_ _ | refine Below.setCell ?_ ?_ _ | refine below_i ?_)) | go_size)))
          · have HR := Lib.hid (siR_yes HS.out HF.out hmb)
            rw [mulM_yes hmb]
            clear hmb
            rintro e w5 ⟨A5, n5, k5, rfl, o5_, hb5⟩
            have o5 : OR w5 w.heap.size (.slice A5 n5 k5) (mulL (tb C C s.h) C C (siY R C s cs) 1) := OR.mono (xs := mulL (tb C C s.h) C C (siY R C s cs) 1) o5_ hbw.size
            clear o5_
            have hs5 := hb5.size
            have hs6 := hbw.size
            go_wp2_with fail
            go_ret2
            exact IIR.mk (by rw [HR.out]) (by (with_reducible (repeat (first | exact o5 | refine OR.drew ?_ | refine OR.drewN ?_ _ | refine OR.alloc ?_ _ | refine OR.b_ ?_ | refine OR.l_ ?_)))) (by (repeat (first | (with_reducible (first | exact Below.refl _ _ | assumption | refine below_drewN ?_ _ | refine Below.drew ?_ | refine Below.alloc ?_ ?_ _ | refine Below.setCell ?_ ?_ _ | refine below_i ?_)) | go_size)))
    · have HF := Lib.hid hF
      have HR := Lib.hid (siR_none HS.out hF)
      clear hF
      refine (spec_l14Blocked R C A1 A4 n1 k1 n4 k4 s.f cs _ (B := (w.heap.size + 1)) (B' := w2.heap.size) q1 q4.reads (Nat.le_refl _) HCL.out HOK.out hR hC).mono ?_
      rw [HF.out]
      rintro e w3 ⟨rfl, hb3⟩
      have hk0 : (0 : Int) ≤ fwV (some k) := by show (0 : Int) ≤ (k : Int); omega
      have hbw3 : Below w.heap.size w w3 := by (repeat (first | (with_reducible (first | exact Below.refl _ _ | assumption | refine below_drewN ?_ _ | refine Below.drew ?_ | refine Below.alloc ?_ ?_ _ | refine Below.setCell ?_ ?_ _ | refine below_i ?_)) | go_size))
      have hs3 := hb3.size
      have hs2 := hbw.size
      clear hb3 hbw
      go_wp2_with fail
      go_ret2
      exact IIR.mk (by rw [HR.out]) (OR.empty' _ _ (by simp) (by first | omega | (simp; done) | (simp; omega))) (by (repeat (first | (with_reducible (first | exact Below.refl _ _ | assumption | refine below_drewN ?_ _ | refine Below.drew ?_ | refine Below.alloc ?_ ?_ _ | refine Below.setCell ?_ ?_ _ | refine below_i ?_)) | go_size)))
end Go.Proofs.Ytmcbhpaajjlmmaa

/-
  DERIVED. SolveByDeterminants of the reference.
-/
import Derived.Test.YtlggfmfelakadaaU7
import Derived.Test.YtlggfmfelakadaaU6
namespace Go.Proofs.Ytlggfmfelakadaa
open Go.RowKit
set_option linter.unusedVariables false
set_option linter.unusedSimpArgs false
section
variable {r c : Int} {xs bs : List Int}
theorem sd_n1 (h : dtO r c xs = none) : sdO r c xs bs = none := by unfold sdO; rw [h]; split <;> rfl
theorem sd_n2 (h : dtO r c xs = some 0) : sdO r c xs bs = none := by unfold sdO; rw [h]; split <;> rfl
theorem sd_n3 (h : sysB r c xs bs = false) : sdO r c xs bs = none := by unfold sdO; rw [h]; rfl
theorem sd_y {d : Int} (h : sysB r c xs bs = true) (h2 : dtO r c xs = some d) (h3 : ¬ d = 0) : sdO r c xs bs = sdS d r.toNat (fun a k => cel xs c a k) bs r.toNat := by
  unfold sdO; rw [h, h2]
  show (if d = 0 then none else _) = _
  rw [if_neg h3]
theorem sd_sys (h : sysB r c xs bs = true) : ∃ R : Nat, r = R ∧ c = R ∧ R ≤ 6 ∧ xs.length = R * R ∧ bs.length = R := by
  unfold sysB at h
  rw [Bool.and_eq_true, Bool.and_eq_true] at h
  have S := isSq_iff.1 h.1.1
  obtain ⟨R, rfl⟩ := nat_of S.m.r0
  have hc := S.e
  have hl := S.m.len
  have h6 := S.le
  have hb := of_decide_eq_true h.1.2
  refine ⟨R, rfl, hc.symm, by omega, ?_, by omega⟩
  rw [← hc, ← Int.natCast_mul] at hl
  omega
theorem rpL_len (R : Nat) (f : Nat → Nat → Int) (bs : List Int) (j : Nat) : (rpL R f bs j).length = R * R := tb_len _ _ _
end
set_option maxRecDepth 100000 in
set_option maxHeartbeats 8000000 in
theorem spec_SolveByDeterminants (r c : Int) (A Ab : Option Addr) (n cap nb capb : Nat) (xs bs : List Int) (w : World) {B B' : Nat} (h : RI w B A n xs) (hb : RI w B' Ab nb bs) (hB : B ≤ w.heap.size) (hB' : B' ≤ w.heap.size) (hn : n ≤ 1048576) (hnb : nb ≤ 1048576) :
    Calls Try.prog 38 #[.agg #[.int .i64 r, .int .i64 c, .slice A n cap], .slice Ab nb capb] w (QBR (sdN r c xs bs) (sdV r c xs bs) (sdB r c xs bs) w) := by
  have H2 := Lib.hid (h.more hB)
  have H3 := Lib.hid (hb.more hB')
  clear h hb
  rcases hd : dtO r c xs with _ | d
  · skip
    obtain ⟨hv1, hv2, hv3⟩ := sd_no (sd_n1 hd (bs := bs))
    have HV1 := Lib.hid hv1
    have HV2 := Lib.hid hv2
    have HV3 := Lib.hid hv3
    clear hv1 hv2 hv3
    have HD := Lib.hid hd
    clear hd
    go_enter Try.func38, Try.ntmps38
    go_wp2_with fail
    refine (spec_DeterminantOf r c A n cap xs _ (B := w.heap.size) (Kr H2.out) Ks hn).mono ?_
    rw [HD.out]
    rintro e w1 ⟨rfl, hb1⟩
    have hsz1 := hb1.size
    (try simp at hsz1)
    have hM : BM w1 w.heap.size r c A n cap := Ka
    have hbw : Below w.heap.size w w1 := Kw
    have hri : RI w1 w.heap.size A n xs := Kr H2.out
    have hrb : RI w1 w.heap.size Ab nb bs := Kr H3.out
    clear hb1
    obtain ⟨ma, mb, mc, mf, ml⟩ := hM.mx
    go_wp2_with fail
    go_ret2; rw [HV1.out, HV2.out, HV3.out]; exact ⟨_, _, _, rfl, OF.empty _ _ (by simp) Ks, Kw⟩
  · by_cases hd0 : d = 0
    · subst hd0
      obtain ⟨hv1, hv2, hv3⟩ := sd_no (sd_n2 hd (bs := bs))
      have HV1 := Lib.hid hv1
      have HV2 := Lib.hid hv2
      have HV3 := Lib.hid hv3
      clear hv1 hv2 hv3
      have HD := Lib.hid hd
      clear hd
      go_enter Try.func38, Try.ntmps38
      go_wp2_with fail
      refine (spec_DeterminantOf r c A n cap xs _ (B := w.heap.size) (Kr H2.out) Ks hn).mono ?_
      rw [HD.out]
      rintro e w1 ⟨rfl, hb1⟩
      have hsz1 := hb1.size
      (try simp at hsz1)
      have hM : BM w1 w.heap.size r c A n cap := Ka
      have hbw : Below w.heap.size w w1 := Kw
      have hri : RI w1 w.heap.size A n xs := Kr H2.out
      have hrb : RI w1 w.heap.size Ab nb bs := Kr H3.out
      clear hb1
      obtain ⟨ma, mb, mc, mf, ml⟩ := hM.mx
      go_wp2_with fail
      go_ret2; rw [HV1.out, HV2.out, HV3.out]; exact ⟨_, _, _, rfl, OF.empty _ _ (by simp) Ks, Kw⟩
    · rcases hs : sysB r c xs bs with _ | _
      · skip
        obtain ⟨hv1, hv2, hv3⟩ := sd_no (sd_n3 hs)
        have HV1 := Lib.hid hv1
        have HV2 := Lib.hid hv2
        have HV3 := Lib.hid hv3
        clear hv1 hv2 hv3
        have HD := Lib.hid hd
        have HS := Lib.hid hs
        have hdb : (d == 0) = false := by simpa using hd0
        clear hd hs
        go_enter Try.func38, Try.ntmps38
        go_wp2_with fail
        refine (spec_DeterminantOf r c A n cap xs _ (B := w.heap.size) (Kr H2.out) Ks hn).mono ?_
        rw [HD.out]
        rintro e w1 ⟨rfl, hb1⟩
        have hsz1 := hb1.size
        (try simp at hsz1)
        have hM : BM w1 w.heap.size r c A n cap := Ka
        have hbw : Below w.heap.size w w1 := Kw
        have hri : RI w1 w.heap.size A n xs := Kr H2.out
        have hrb : RI w1 w.heap.size Ab nb bs := Kr H3.out
        clear hb1
        obtain ⟨ma, mb, mc, mf, ml⟩ := hM.mx
        go_wp2_with fail
        refine (spec_l11Right r c A Ab n cap nb capb xs bs _ (B := w.heap.size) (B' := w.heap.size) (Kr hri) (Kr hrb) Ks Ks hn hnb).mono ?_
        rw [HS.out]
        rintro e w2 ⟨rfl, hb2⟩
        have hsz2 := hb2.size
        (try simp at hsz2)
        have hM2 : BM w2 w.heap.size r c A n cap := Kb hM
        have hbw2 : Below w.heap.size w w2 := Kw
        clear ma mb mc mf ml
        clear hM hbw hri hrb hb2
        have hM := hM2
        have hbw := hbw2
        clear hM2 hbw2
        obtain ⟨ma, mb, mc, mf, ml⟩ := hM.mx
        go_wp2_with fail
        go_ret2; rw [HV1.out, HV2.out, HV3.out]; exact ⟨_, _, _, rfl, OF.empty _ _ (by simp) Ks, Kw⟩
      · skip
        obtain ⟨R, rfl, rfl, hR, hlx, hlb⟩ := sd_sys hs
        have hsd := sd_y hs hd hd0
        simp only [Int.toNat_natCast] at hsd
        have hNO : ∀ j, j ≤ R → sdS d R (fun a k => cel xs R a k) bs j = none → sdN R R xs bs = 0 ∧ sdV R R xs bs = [] ∧ sdB R R xs bs = false := fun j hj h => sd_no (by rw [hsd, sdS_up h R hj])
        have hYES : ∀ qs, sdS d R (fun a k => cel xs R a k) bs R = some qs → sdN R R xs bs = R ∧ sdV R R xs bs = qs ∧ sdB R R xs bs = true := fun qs h => by
          have := sd_yes (hsd.trans h)
          rw [Int.toNat_natCast] at this
          exact this
        have HNO := Lib.hid hNO
        have HYES := Lib.hid hYES
        have HD := Lib.hid hd
        have HS := Lib.hid hs
        have hdb : (d == 0) = false := by simpa using hd0
        have hRR := Nat.mul_le_mul hR hR
        have HLX := Lib.hid hlx
        have HLB := Lib.hid hlb
        have hnbR : nb ≤ R ∧ R ≤ nb := by have := H3.out.len; omega
        clear hs hd hsd hNO hYES hlx hlb
        generalize sdN (R : Int) (R : Int) xs bs = vn at *
        generalize sdV (R : Int) (R : Int) xs bs = vv at *
        generalize sdB (R : Int) (R : Int) xs bs = vb at *
        have HREP : Hid (∀ (j : Nat) w', j < R → RI w' w.heap.size A n xs → RI w' w.heap.size Ab nb bs → w.heap.size ≤ w'.heap.size → Calls Try.prog 84 #[.agg #[.int .i64 R, .int .i64 R, .slice A n cap], .int .i64 j, .slice Ab nb capb] w' (MR ⟨R, R, rpL R (fun a k => cel xs R a k) bs j⟩ w')) := Lib.hid (fun j w' hj k1 k2 k3 => spec_l11Replaced R j A Ab n cap nb capb xs bs w' k1 k2 k3 k3 HLX.out HLB.out hj hR)
        generalize hf : (fun (a k : Nat) => cel xs R a k) = f at *
        clear hf
        obtain ⟨r, hr⟩ : ∃ r : Int, Hid (r = R) := ⟨_, Lib.hid rfl⟩
        go_enter Try.func38, Try.ntmps38
        go_wp2_with fail
        refine (spec_DeterminantOf R R A n cap xs _ (B := w.heap.size) (Kr H2.out) Ks hn).mono ?_
        rw [HD.out]
        rintro e w1 ⟨rfl, hb1⟩
        have hsz1 := hb1.size
        (try simp at hsz1)
        have hM : BM w1 w.heap.size R R A n cap := Ka
        have hbw : Below w.heap.size w w1 := Kw
        have hri : RI w1 w.heap.size A n xs := Kr H2.out
        have hrb : RI w1 w.heap.size Ab nb bs := Kr H3.out
        clear hb1
        obtain ⟨ma, mb, mc, mf, ml⟩ := hM.mx
        go_wp2_with fail
        refine (spec_l11Right R R A Ab n cap nb capb xs bs _ (B := w.heap.size) (B' := w.heap.size) (Kr hri) (Kr hrb) Ks Ks hn hnb).mono ?_
        rw [HS.out]
        rintro e w2 ⟨rfl, hb2⟩
        have hsz2 := hb2.size
        (try simp at hsz2)
        have hM2 : BM w2 w.heap.size R R A n cap := Kb hM
        have hbw2 : Below w.heap.size w w2 := Kw
        clear ma mb mc mf ml
        clear hM hbw hri hrb hb2
        have hlm := hM2.lt
        obtain ⟨ma, mb, mc, mf, ml⟩ := hM2.mx
        go_wp2_with fail
        generalize hbq : w2.heap.size = bQ at *
        go_loopw [8, 9] (fun vo u wr => ∃ (j : Nat) (P : Option Addr) (pc : Nat) (qs : List Int), u = .int .i64 j ∧ vo = .slice P j pc ∧ j ≤ R ∧ Hid (sdS d R f bs j = some qs) ∧ BM wr w.heap.size R R A n cap ∧ OF wr bQ (.slice P j pc) j qs ∧ bQ ≤ wr.heap.size ∧ Below w.heap.size w wr) (fun _ u _ => R - (intOf u).toNat)
        case atStart => exact ⟨0, _, _, [], rfl, rfl, Nat.zero_le _, Lib.hid rfl, Kb hM2, OF.empty _ _ hbq.symm (by omega), by simp [hbq], Kw⟩
        case round =>
          clear ma mb mc mf ml
          clear hM2 hbw2
          obtain ⟨j, P, pc, qs, rfl, rfl, hj, HQS, hM, hof, hszq, hbw⟩ := hrel
          obtain ⟨ma, mb, mc, mf, ml⟩ := hM.mx
          have hszr := hbw.size
          have hlr := hM.lt
          by_cases hjR : j < R
          · have hri : RI wr w.heap.size A n xs := H2.out.below hbw (Nat.le_refl _)
            have hrb : RI wr w.heap.size Ab nb bs := H3.out.below hbw (Nat.le_refl _)
            have HL : Hid ((rpL R f bs j).length = R * R) := Lib.hid (rpL_len _ _ _ _)
            have HDT : Hid (∀ (A5 : Option Addr) (n5 c5 : Nat) w' B', RI w' B' A5 n5 (rpL R f bs j) → B' ≤ w'.heap.size → n5 ≤ 1048576 → Calls Try.prog 19 #[.agg #[.int .i64 R, .int .i64 R, .slice A5 n5 c5]] w' (ODV (dtO R R (rpL R f bs j)) w')) := Lib.hid (fun A5 n5 c5 w' B' k1 k2 k3 => spec_DeterminantOf R R A5 n5 c5 _ w' k1 k2 k3)
            rcases hd2 : dtO R R (rpL R f bs j) with _ | m
            · rw [hd2] at HDT
              obtain ⟨hv1, hv2, hv3⟩ := HNO.out (j + 1) (by omega) (sdS_bad hd2)
              have HV1 := Lib.hid hv1
              have HV2 := Lib.hid hv2
              have HV3 := Lib.hid hv3
              clear hv1 hv2 hv3 hd2
              go_wp2_with fail
              refine (HREP.out j _ hjR (Kr hri) (Kr hrb) Ks).mono ?_
              rintro e w3 ⟨A5, n5, c5, rfl, ho5, hb5⟩
              have hsz5 := hb5.size
              (try simp at hsz5)
              have hbw5 : Below w.heap.size w w3 := Kw
              have hn5 : n5 ≤ 1048576 := by have := OR.lenEq (xs := rpL R f bs j) ho5; have := HL.out; omega
              have HO5 := Lib.hid ho5
              clear ho5
              go_wp2_with fail
              refine (HDT.out A5 n5 c5 _ _ (OR.reads (xs := rpL R f bs j) HO5.out) (Nat.le_refl _) hn5).mono ?_
              rintro e w4 ⟨rfl, hb6⟩
              have hsz6 := hb6.size
              have hbw6 : Below w.heap.size w w4 := Kw
              go_wp2_with fail
              go_ret2; rw [HV1.out, HV2.out, HV3.out]; exact ⟨_, _, _, rfl, OF.empty _ _ (by simp) Ks, Kw⟩
            · have hdn := sdS_next HQS.out hd2
              have HDN := Lib.hid hdn
              rw [hd2] at HDT
              clear hd2 hdn
              go_wp2_with fail
              refine (HREP.out j _ hjR (Kr hri) (Kr hrb) Ks).mono ?_
              rintro e w3 ⟨A5, n5, c5, rfl, ho5, hb5⟩
              have hsz5 := hb5.size
              (try simp at hsz5)
              have hM5 : BM w3 w.heap.size R R A n cap := Kb hM
              have hof5 : OF w3 bQ (.slice P j pc) j qs := by (with_reducible (repeat (first | exact hof | refine OF.drew ?_ | refine OF.drewN ?_ _ | refine OF.alloc ?_ _ | refine OF.b_ ?_ | refine OF.l_ ?_)))
              have hbw5 : Below w.heap.size w w3 := Kw
              have hn5 : n5 ≤ 1048576 := by have := OR.lenEq (xs := rpL R f bs j) ho5; have := HL.out; omega
              have HO5 := Lib.hid ho5
              clear ho5
              go_wp2_with fail
              refine (HDT.out A5 n5 c5 _ _ (OR.reads (xs := rpL R f bs j) HO5.out) (Nat.le_refl _) hn5).mono ?_
              rintro e w4 ⟨rfl, hb6⟩
              have hsz6 := hb6.size
              have hM6 : BM w4 w.heap.size R R A n cap := Kb hM5
              have hof6 : OF w4 bQ (.slice P j pc) j qs := by (with_reducible (repeat (first | exact hof5 | refine OF.drew ?_ | refine OF.drewN ?_ _ | refine OF.alloc ?_ _ | refine OF.b_ ?_ | refine OF.l_ ?_)))
              have hbw6 : Below w.heap.size w w4 := Kw
              clear ma mb mc mf ml
              clear hM hof hbw hri hrb hb5 hb6 hM5 hof5 hbw5
              go_wp2_with fail
              refine (spec_MakeRatio m d _).mono ?_
              obtain ⟨q, hq⟩ : ∃ q, makR m d = q := ⟨_, rfl⟩
              rw [hq] at HDN ⊢
              clear hq
              rintro e w5 ⟨rfl, hb7⟩
              unfold rV
              have hsz7 := hb7.size
              have hM7 : BM w5 w.heap.size R R A n cap := Kb hM6
              have hof7 : OF w5 bQ (.slice P j pc) j qs := by (with_reducible (repeat (first | exact hof6 | refine OF.drew ?_ | refine OF.drewN ?_ _ | refine OF.alloc ?_ _ | refine OF.b_ ?_ | refine OF.l_ ?_)))
              have hbw7 : Below w.heap.size w w5 := Kw
              clear hM6 hof6 hbw6 hb7
              go_wp2_with (at_builtin; refine wpList_append_ratio _ rfl (.tmp 48) (.tmp 52) rfl bQ _ j qs rfl (hof7.alloc _) _ q.1 q.2 rfl ?f1 ?f2 ?f3 ?f4 ?_)
              case f1 => simp [go_sem]
              case f2 => simp [go_sem]
              case f3 => omega
              case f4 => simp; omega
              intro v1 w6 hown1 hgr hat
              have hM8 := (hM7.alloc (.cells #[.int .i64 q.1, .int .i64 q.2] 84)).grown hgr (hof7.ne_low (by omega))
              have hb8 := Below.trans (show Below w.heap.size w (w5.alloc (.cells #[.int .i64 q.1, .int .i64 q.2] 84)) from Kw) ((hof7.alloc (.cells #[.int .i64 q.1, .int .i64 q.2] 84)).below_grown hgr (by simp; omega) |>.mono (by omega))
              have hsz8 := hgr.size
              simp at hsz8
              obtain ⟨P', pc', rfl⟩ := hown1.shape
              clear hM7 hof7 hbw7 hgr hat
              go_wp2_with fail
              go_roundw
              case rel => exact ⟨j + 1, P', pc', qs ++ [q.1, q.2], by go_num, rfl, by omega, HDN, Kb hM8, by (with_reducible (repeat (first | exact hown1 | refine OF.drew ?_ | refine OF.drewN ?_ _ | refine OF.alloc ?_ _ | refine OF.b_ ?_ | refine OF.l_ ?_))), Ks, Kw⟩
              case measure => simp only [intOf]; omega
          · obtain rfl : j = R := by omega
            obtain ⟨hv1, hv2, hv3⟩ := HYES.out qs HQS.out
            have HV1 := Lib.hid hv1
            have HV2 := Lib.hid hv2
            have HV3 := Lib.hid hv3
            clear hv1 hv2 hv3
            go_wp2_with fail
            go_ret2
            rw [HV1.out, HV2.out, HV3.out]
            exact ⟨_, _, _, rfl, OF.mono (B := bQ) (by (with_reducible (repeat (first | exact hof | refine OF.drew ?_ | refine OF.drewN ?_ _ | refine OF.alloc ?_ _ | refine OF.b_ ?_ | refine OF.l_ ?_)))) (by omega), Kw⟩
end Go.Proofs.Ytlggfmfelakadaa

/-
  DERIVED. SolveByDeterminants of the program.
-/
import Derived.Test.YtlggfmfelakadaaGreatDoorc8
import Derived.Test.YtlggfmfelakadaaGreatDoorc2
namespace Go.Proofs.YtlggfmfelakadaaGreatDoor
open Go.RowKit
set_option linter.unusedVariables false
set_option linter.unusedSimpArgs false
set_option maxRecDepth 100000 in
set_option maxHeartbeats 8000000 in
theorem impl_SolveByDeterminants (r c : Int) (A Ab : Option Addr) (n cap nb capb : Nat) (xs bs : List Int) (w : World) {B B' : Nat} (h : RI w B A n xs) (hb : RI w B' Ab nb bs) (hB : B ≤ w.heap.size) (hB' : B' ≤ w.heap.size) (hn : n ≤ 1048576) (hnb : nb ≤ 1048576) :
    Calls Tryz.prog 11 #[.agg #[.int .i64 r, .int .i64 c, .slice A n cap], .slice Ab nb capb] w (QBR (sdN r c xs bs) (sdV r c xs bs) (sdB r c xs bs) w) := by
  have H2 := Lib.hid (h.more hB)
  have H3 := Lib.hid (hb.more hB')
  clear h hb
  rcases hd : dtO r c xs with _ | d
  · skip
    obtain ⟨hv1, hv2, hv3⟩ := sd_no (sd_n1 hd (bs := bs))
    have HV1 := Lib.hid hv1
    have HV2 := Lib.hid hv2
    have HV3 := Lib.hid hv3
    clear hv1 hv2 hv3
    rcases hs : sysB r c xs bs with _ | _
    all_goals
      have HD := Lib.hid hd
      have HS := Lib.hid hs
      clear hd hs
      go_enter Tryz.func11, Tryz.ntmps11
      go_wp2_with fail
      refine (impl_DeterminantOf r c A n cap xs _ (B := w.heap.size) (Kr H2.out) Ks hn).mono ?_
      rw [HD.out]
      rintro e w1 ⟨rfl, hb1⟩
      have hsz1 := hb1.size
      (try simp at hsz1)
      have hM : BM w1 w.heap.size r c A n cap := Ka
      have hbw : Below w.heap.size w w1 := Kw
      have hri : RI w1 w.heap.size A n xs := Kr H2.out
      have hrb : RI w1 w.heap.size Ab nb bs := Kr H3.out
      clear hb1
      obtain ⟨ma, mb, mc, mf, ml⟩ := hM.mx
      go_wp2_with fail
      refine (impl_isSystem r c A Ab n cap nb capb xs bs _ (B := w.heap.size) (B' := w.heap.size) (Kr hri) (Kr hrb) Ks Ks hn hnb).mono ?_
      rw [HS.out]
      rintro e w2 ⟨rfl, hb2⟩
      have hsz2 := hb2.size
      (try simp at hsz2)
      have hM2 : BM w2 w.heap.size r c A n cap := Kb hM
      have hbw2 : Below w.heap.size w w2 := Kw
      clear ma mb mc mf ml
      clear hM hbw hri hrb hb2
      have hM := hM2
      have hbw := hbw2
      clear hM2 hbw2
      obtain ⟨ma, mb, mc, mf, ml⟩ := hM.mx
      go_wp2_with fail
      go_ret2; rw [HV1.out, HV2.out, HV3.out]; exact ⟨_, _, _, rfl, OF.empty _ _ (by simp) Ks, Kw⟩
  · by_cases hd0 : d = 0
    · subst hd0
      obtain ⟨hv1, hv2, hv3⟩ := sd_no (sd_n2 hd (bs := bs))
      have HV1 := Lib.hid hv1
      have HV2 := Lib.hid hv2
      have HV3 := Lib.hid hv3
      clear hv1 hv2 hv3
      rcases hs : sysB r c xs bs with _ | _
      all_goals
        have HD := Lib.hid hd
        have HS := Lib.hid hs
        clear hd hs
        go_enter Tryz.func11, Tryz.ntmps11
        go_wp2_with fail
        refine (impl_DeterminantOf r c A n cap xs _ (B := w.heap.size) (Kr H2.out) Ks hn).mono ?_
        rw [HD.out]
        rintro e w1 ⟨rfl, hb1⟩
        have hsz1 := hb1.size
        (try simp at hsz1)
        have hM : BM w1 w.heap.size r c A n cap := Ka
        have hbw : Below w.heap.size w w1 := Kw
        have hri : RI w1 w.heap.size A n xs := Kr H2.out
        have hrb : RI w1 w.heap.size Ab nb bs := Kr H3.out
        clear hb1
        obtain ⟨ma, mb, mc, mf, ml⟩ := hM.mx
        go_wp2_with fail
        refine (impl_isSystem r c A Ab n cap nb capb xs bs _ (B := w.heap.size) (B' := w.heap.size) (Kr hri) (Kr hrb) Ks Ks hn hnb).mono ?_
        rw [HS.out]
        rintro e w2 ⟨rfl, hb2⟩
        have hsz2 := hb2.size
        (try simp at hsz2)
        have hM2 : BM w2 w.heap.size r c A n cap := Kb hM
        have hbw2 : Below w.heap.size w w2 := Kw
        clear ma mb mc mf ml
        clear hM hbw hri hrb hb2
        have hM := hM2
        have hbw := hbw2
        clear hM2 hbw2
        obtain ⟨ma, mb, mc, mf, ml⟩ := hM.mx
        go_wp2_with fail
        go_ret2; rw [HV1.out, HV2.out, HV3.out]; exact ⟨_, _, _, rfl, OF.empty _ _ (by simp) Ks, Kw⟩
    · rcases hs : sysB r c xs bs with _ | _
      · skip
        obtain ⟨hv1, hv2, hv3⟩ := sd_no (sd_n3 hs)
        have HV1 := Lib.hid hv1
        have HV2 := Lib.hid hv2
        have HV3 := Lib.hid hv3
        clear hv1 hv2 hv3
        have HD := Lib.hid hd
        have HS := Lib.hid hs
        have hdb : (d == 0) = false := by simpa using hd0
        clear hd hs
        go_enter Tryz.func11, Tryz.ntmps11
        go_wp2_with fail
        refine (impl_DeterminantOf r c A n cap xs _ (B := w.heap.size) (Kr H2.out) Ks hn).mono ?_
        rw [HD.out]
        rintro e w1 ⟨rfl, hb1⟩
        have hsz1 := hb1.size
        (try simp at hsz1)
        have hM : BM w1 w.heap.size r c A n cap := Ka
        have hbw : Below w.heap.size w w1 := Kw
        have hri : RI w1 w.heap.size A n xs := Kr H2.out
        have hrb : RI w1 w.heap.size Ab nb bs := Kr H3.out
        clear hb1
        obtain ⟨ma, mb, mc, mf, ml⟩ := hM.mx
        go_wp2_with fail
        refine (impl_isSystem r c A Ab n cap nb capb xs bs _ (B := w.heap.size) (B' := w.heap.size) (Kr hri) (Kr hrb) Ks Ks hn hnb).mono ?_
        rw [HS.out]
        rintro e w2 ⟨rfl, hb2⟩
        have hsz2 := hb2.size
        (try simp at hsz2)
        have hM2 : BM w2 w.heap.size r c A n cap := Kb hM
        have hbw2 : Below w.heap.size w w2 := Kw
        clear ma mb mc mf ml
        clear hM hbw hri hrb hb2
        have hM := hM2
        have hbw := hbw2
        clear hM2 hbw2
        obtain ⟨ma, mb, mc, mf, ml⟩ := hM.mx
        go_wp2_with fail
        go_ret2; rw [HV1.out, HV2.out, HV3.out]; exact ⟨_, _, _, rfl, OF.empty _ _ (by simp) Ks, Kw⟩
      · skip
        obtain ⟨R, rfl, rfl, hR, hlx, hlb⟩ := sd_sys hs
        have hsd := sd_y hs hd hd0
        simp only [Int.toNat_natCast] at hsd
        have hNO : ∀ j, j ≤ R → sdS d R (fun a k => cel xs R a k) bs j = none → sdN R R xs bs = 0 ∧ sdV R R xs bs = [] ∧ sdB R R xs bs = false := fun j hj h => sd_no (by rw [hsd, sdS_up h R hj])
        have hYES : ∀ qs, sdS d R (fun a k => cel xs R a k) bs R = some qs → sdN R R xs bs = R ∧ sdV R R xs bs = qs ∧ sdB R R xs bs = true := fun qs h => by
          have := sd_yes (hsd.trans h)
          rw [Int.toNat_natCast] at this
          exact this
        have HNO := Lib.hid hNO
        have HYES := Lib.hid hYES
        have HD := Lib.hid hd
        have HS := Lib.hid hs
        have hdb : (d == 0) = false := by simpa using hd0
        have hRR := Nat.mul_le_mul hR hR
        have HLX := Lib.hid hlx
        have HLB := Lib.hid hlb
        have hnbR : nb ≤ R ∧ R ≤ nb := by have := H3.out.len; omega
        clear hs hd hsd hNO hYES hlx hlb
        generalize sdN (R : Int) (R : Int) xs bs = vn at *
        generalize sdV (R : Int) (R : Int) xs bs = vv at *
        generalize sdB (R : Int) (R : Int) xs bs = vb at *
        have HTB : Hid (xs = tb R R (fun (a k : Nat) => cel xs R a k)) := Lib.hid (tb_of HLX.out)
        generalize hf : (fun (a k : Nat) => cel xs R a k) = f at *
        clear hf
        go_enter Tryz.func11, Tryz.ntmps11
        go_wp2_with fail
        refine (impl_DeterminantOf R R A n cap xs _ (B := w.heap.size) (Kr H2.out) Ks hn).mono ?_
        rw [HD.out]
        rintro e w1 ⟨rfl, hb1⟩
        have hsz1 := hb1.size
        (try simp at hsz1)
        have hM : BM w1 w.heap.size R R A n cap := Ka
        have hbw : Below w.heap.size w w1 := Kw
        have hri : RI w1 w.heap.size A n xs := Kr H2.out
        have hrb : RI w1 w.heap.size Ab nb bs := Kr H3.out
        clear hb1
        obtain ⟨ma, mb, mc, mf, ml⟩ := hM.mx
        go_wp2_with fail
        refine (impl_isSystem R R A Ab n cap nb capb xs bs _ (B := w.heap.size) (B' := w.heap.size) (Kr hri) (Kr hrb) Ks Ks hn hnb).mono ?_
        rw [HS.out]
        rintro e w2 ⟨rfl, hb2⟩
        have hsz2 := hb2.size
        (try simp at hsz2)
        have hM2 : BM w2 w.heap.size R R A n cap := Kb hM
        have hbw2 : Below w.heap.size w w2 := Kw
        clear ma mb mc mf ml
        clear hM hbw hri hrb hb2
        have hlm := hM2.lt
        obtain ⟨ma, mb, mc, mf, ml⟩ := hM2.mx
        go_wp2_with fail
        generalize hbq : w2.heap.size = bQ at *
        go_loopw [8, 9] (fun vo u wr => ∃ (j : Nat) (P : Option Addr) (pc : Nat) (qs : List Int), u = .int .i64 j ∧ vo = .slice P j pc ∧ j ≤ R ∧ Hid (sdS d R f bs j = some qs) ∧ BM wr w.heap.size R R A n cap ∧ OF wr bQ (.slice P j pc) j qs ∧ bQ ≤ wr.heap.size ∧ Below w.heap.size w wr) (fun _ u _ => R - (intOf u).toNat)
        case atStart => exact ⟨0, _, _, [], rfl, rfl, Nat.zero_le _, Lib.hid rfl, Kb hM2, OF.empty _ _ hbq.symm (by omega), by simp [hbq], Kw⟩
        case round =>
          clear ma mb mc mf ml
          clear hM2 hbw2
          obtain ⟨j, P, pc, qs, rfl, rfl, hj, HQS, hM, hof, hszq, hbw⟩ := hrel
          obtain ⟨ma, mb, mc, mf, ml⟩ := hM.mx
          have hszr := hbw.size
          have hlr := hM.lt
          by_cases hjR : j < R
          · have hri : RI wr w.heap.size A n xs := H2.out.below hbw (Nat.le_refl _)
            have HUO : Hid (Own (.slice P j pc) bQ wr.heap.size) := Lib.hid hof.own
            go_wp2_with fail
            refine (impl_copyMatrix R R A n cap xs _ (B := w.heap.size) (Kr hri) Ks hn).mono ?_
            rintro e w3 ⟨A5, n5, c5, rfl, -, ho5, hb5⟩
            rw [HTB.out] at ho5
            have hsz5 := hb5.size
            (try simp at hsz5)
            obtain ⟨bC, hbC, hbC2, hbC3⟩ : ∃ bC, Hid (bC = wr.heap.size) ∧ bQ ≤ bC ∧ w.heap.size < bC := ⟨_, Lib.hid rfl, hszq, hlr⟩
            have hbC4 : bC ≤ w3.heap.size := by have := hbC.out; omega
            rw [← hbC.out] at HUO
            have hob : OR w3 bC (.slice A5 n5 c5) (tb R R (rpF f bs j 0)) := by rw [rpF_zero, hbC.out]; exact OR.mono (xs := tb R R f) ho5 Ks
            have hM5 : BM w3 w.heap.size R R A n cap := Kb hM
            have hof5 : OF w3 bQ (.slice P j pc) j qs := by (with_reducible (repeat (first | exact hof | refine OF.drew ?_ | refine OF.drewN ?_ _ | refine OF.alloc ?_ _ | refine OF.b_ ?_ | refine OF.l_ ?_)))
            have hbw5 : Below w.heap.size w w3 := Kw
            have HUA : Hid (Own (.slice A5 n5 c5) bC w3.heap.size) := Lib.hid hob.own
            have hM6 : BM (w3.alloc (.cells #[.int .i64 R, .int .i64 R, .slice A5 n5 c5] 26)) w.heap.size R R A n cap := Kb hM5
            have hO6 : BM (w3.alloc (.cells #[.int .i64 R, .int .i64 R, .slice A5 n5 c5] 26)) w3.heap.size R R A5 n5 c5 := Ka
            have hof6 : OF (w3.alloc (.cells #[.int .i64 R, .int .i64 R, .slice A5 n5 c5] 26)) bQ (.slice P j pc) j qs := by (with_reducible (repeat (first | exact hof5 | refine OF.drew ?_ | refine OF.drewN ?_ _ | refine OF.alloc ?_ _ | refine OF.b_ ?_ | refine OF.l_ ?_)))
            have hob6 : OR (w3.alloc (.cells #[.int .i64 R, .int .i64 R, .slice A5 n5 c5] 26)) bC (.slice A5 n5 c5) (tb R R (rpF f bs j 0)) := Ko hob
            have hbw6 : Below w.heap.size w (w3.alloc (.cells #[.int .i64 R, .int .i64 R, .slice A5 n5 c5] 26)) := Kw
            have hsz6 : w3.heap.size + 1 ≤ (w3.alloc (.cells #[.int .i64 R, .int .i64 R, .slice A5 n5 c5] 26)).heap.size := by simp
            clear ma mb mc mf ml
            clear hM hof hbw hri hb5 ho5 hM5 hof5 hbw5 hob hszr hlr
            go_wp2_with fail
            generalize (w3.alloc (.cells #[.int .i64 R, .int .i64 R, .slice A5 n5 c5] 26)) = w4 at *
            generalize w3.heap.size = bA at *
            go_loopg [43] (nb + 1) (fun gn u wq => ∃ k : Nat, u = .int .i64 k ∧ k ≤ nb ∧ nb - k < gn ∧ BM wq w.heap.size R R A n cap ∧ BM wq bA R R A5 n5 c5 ∧ OF wq bQ (.slice P j pc) j qs ∧ OR wq bC (.slice A5 n5 c5) (tb R R (rpF f bs j k)) ∧ Below w.heap.size w wq)
            case atStart => exact ⟨0, rfl, Nat.zero_le _, by omega, hM6, hO6, hof6, hob6, hbw6⟩
            case round =>
              clear hM6 hO6 hof6 hob6 hbw6 hsz6
              obtain ⟨k, rfl, hk, hgk, hM, hO, hof, hob, hbw⟩ := hrel
              obtain ⟨ma, mb, mc, mf, ml⟩ := hM.mx
              obtain ⟨oa, ob, oc, of, ol⟩ := hO.mx
              have hszr := hbw.size
              have hlr := hM.lt
              have hlo := hO.lt
              by_cases hkb : k < nb
              · obtain ⟨b, o, rfl, hbb, hcells⟩ := (H3.out.below hbw (Nat.le_refl _)).2 (by omega)
                have cb := hcells k hkb
                have HCB : Hid (∀ w', Below w.heap.size w w' → w'.cell? ⟨b, o + k, none⟩ = some (.int .i64 (bs.getD k 0))) := Lib.hid (fun w' hb => by
                  obtain ⟨b2, o2, e2, hbb2, hc2⟩ := (H3.out.below hb (Nat.le_refl _)).2 (by omega)
                  injection e2 with e2
                  injection e2 with e3 e4 e5
                  subst e3; subst e4
                  exact hc2 k hkb)
                have HST := Lib.hid (rpF_step f bs j k)
                clear hcells
                generalize bs.getD k 0 = z at *
                go_wp2_with fail
                ((refine wp_region_held_drew (S := (fun w' => w'.cell? ⟨bA, 0, none⟩ = some (.int .i64 R) ∧ w'.cell? ⟨bA, 1, none⟩ = some (.int .i64 R) ∧ w'.cell? ⟨bA, 2, none⟩ = some (.slice A5 n5 c5) ∧ w'.cell? ⟨b, o + k, none⟩ = some (.int .i64 z))) (by kernel_rfl) ?_ (fun hHeld => ?_)); ((focus ((try dsimp only); (go_keep)))); ((refine tk_ (i := 0) (v := ?_) (y := Or.inl ⟨by rfl, ?_⟩) (h := ?_); rotate_left; (focus (((intro w hSw; (try dsimp only at hSw); go_simp) <;> (try with_reducible rfl)); done)); (try simp only [Act.put, p1_, p2_, p3_]))); ((refine tk_ (i := 1) (v := ?_) (y := Or.inl ⟨by rfl, ?_⟩) (h := ?_); rotate_left; (focus (((intro w hSw; (try dsimp only at hSw); go_simp) <;> (try with_reducible rfl)); done)); (try simp only [Act.put, p1_, p2_, p3_]))); ((refine tk_ (i := 2) (v := ?_) (y := Or.inl ⟨by rfl, ?_⟩) (h := ?_); rotate_left; (focus (((intro w hSw; (try dsimp only at hSw); go_simp) <;> (try with_reducible rfl)); done)); (try simp only [Act.put, p1_, p2_, p3_]))); ((refine tk_ (i := 3) (v := ?_) (y := Or.inl ⟨by rfl, ?_⟩) (h := ?_); rotate_left; (focus (((intro w hSw; (try dsimp only at hSw); go_simp) <;> (try with_reducible rfl)); done)); (try simp only [Act.put, p1_, p2_, p3_]))); ((refine tk_ (i := 4) (v := ?_) (y := Or.inl ⟨by rfl, ?_⟩) (h := ?_); rotate_left; (focus (((intro w hSw; (try dsimp only at hSw); go_simp) <;> (try with_reducible rfl)); done)); (try simp only [Act.put, p1_, p2_, p3_]))); ((refine tk_ (i := 5) (v := ?_) (y := Or.inl ⟨by rfl, ?_⟩) (h := ?_); rotate_left; (focus (((intro w hSw; (try dsimp only at hSw); go_simp) <;> (try with_reducible rfl)); done)); (try simp only [Act.put, p1_, p2_, p3_]))); ((refine tk_ (i := 6) (v := ?_) (y := Or.inl ⟨by rfl, ?_⟩) (h := ?_); rotate_left; (focus (((intro w hSw; (try dsimp only at hSw); go_simp) <;> (try with_reducible rfl)); done)); (try simp only [Act.put, p1_, p2_, p3_]))); ((refine wpAnyH_ready (rs := [7]) (by kernel_rfl) (by simp) ?_; refine AllReadyH.cons (by simp only [e1_, e2_, e3_]; try rfl) (fun K hK => ?_) AllReadyH.nil; go_simp; (go_at_call 37; refine (impl_set_tb R R k j z A5 n5 c5 (rpF f bs j k) (rpF f bs j (k + 1)) HST.out _ (B := bC) (Ko hob) (by omega) (by omega) (by omega) hjR).mono ?_; rintro e w6 ⟨rfl, hob6, hg6, hs6⟩; have hM6 : BM w6 w.heap.size R R A n cap := BX.keptOwn (Kb hM) hg6 HUA.out (by omega); have hO6 : BM w6 bA R R A5 n5 c5 := BX.keptOwn (Kb hO) hg6 HUA.out (by omega); have hof6 : OF w6 bQ (.slice P j pc) j qs := OF.keptOwn (by (with_reducible (repeat (first | exact hof | refine OF.drew ?_ | refine OF.drewN ?_ _ | refine OF.alloc ?_ _ | refine OF.b_ ?_ | refine OF.l_ ?_)))) hg6 HUO.out HUA.out (by omega); have hbw6 : Below w.heap.size w w6 := Below.trans Kw (below_keptOwn hg6 HUA.out (by omega) Ks); clear ma mb mc mf ml; clear oa ob oc of ol cb hM hO hof hob hbw hg6; have hM := hM6; have hO := hO6; have hof := hof6; have hob := hob6; have hbw := hbw6; clear hM6 hO6 hof6 hob6 hbw6; obtain ⟨ma, mb, mc, mf, ml⟩ := hM.mx; obtain ⟨oa, ob, oc, of, ol⟩ := hO.mx; have cb := HCB.out _ hbw); (try go_wp2_with fail); refine hK.out _ _ ?_ (fun hHeld => ?_); (focus ((try dsimp only); (go_keep))); clear hK K; (try simp only [Act.put, p1_, p2_, p3_]))); (refine wpAnyH_done (by kernel_rfl) ?_ _))
                go_wp2_with fail
                go_roundg (gk - 1)
                case measure => omega
                case rel => exact ⟨k + 1, by go_num, by omega, by omega, Kb hM, Kb hO, by (with_reducible (repeat (first | exact hof | refine OF.drew ?_ | refine OF.drewN ?_ _ | refine OF.alloc ?_ _ | refine OF.b_ ?_ | refine OF.l_ ?_))), Ko hob, Kw⟩
              · obtain rfl : k = R := by omega
                have HRP : Hid (tb k k (rpF f bs j k) = rpL k f bs j) := Lib.hid rfl
                rw [HRP.out] at hob
                have HL : Hid ((rpL k f bs j).length = k * k) := Lib.hid (rpL_len _ _ _ _)
                have HDT : Hid (∀ (A5 : Option Addr) (n5 c5 : Nat) w' B', RI w' B' A5 n5 (rpL k f bs j) → B' ≤ w'.heap.size → n5 ≤ 1048576 → Calls Tryz.prog 35 #[.agg #[.int .i64 k, .int .i64 k, .slice A5 n5 c5]] w' (ODV (dtO k k (rpL k f bs j)) w')) := Lib.hid (fun A5 n5 c5 w' B' k1 k2 k3 => impl_DeterminantOf k k A5 n5 c5 _ w' k1 k2 k3)
                have hn5 : n5 ≤ 1048576 := by have := OR.lenEq hob; have := HL.out; omega
                have HOB := Lib.hid hob
                clear hob
                rcases hd2 : dtO k k (rpL k f bs j) with _ | m
                · rw [hd2] at HDT
                  obtain ⟨hv1, hv2, hv3⟩ := HNO.out (j + 1) (by omega) (sdS_bad hd2)
                  have HV1 := Lib.hid hv1
                  have HV2 := Lib.hid hv2
                  have HV3 := Lib.hid hv3
                  clear hv1 hv2 hv3 hd2
                  go_wp2_with fail
                  refine (HDT.out A5 n5 c5 _ _ (OR.reads HOB.out) (Nat.le_refl _) hn5).mono ?_
                  rintro e w7 ⟨rfl, hb7⟩
                  have hsz7 := hb7.size
                  have hbw7 : Below w.heap.size w w7 := Kw
                  go_wp2_with fail
                  go_ret2; rw [HV1.out, HV2.out, HV3.out]; exact ⟨_, _, _, rfl, OF.empty _ _ (by simp) Ks, Kw⟩
                · have hdn := sdS_next HQS.out hd2
                  have HDN := Lib.hid hdn
                  rw [hd2] at HDT
                  clear hd2 hdn
                  go_wp2_with fail
                  refine (HDT.out A5 n5 c5 _ _ (OR.reads HOB.out) (Nat.le_refl _) hn5).mono ?_
                  rintro e w7 ⟨rfl, hb7⟩
                  have hsz7 := hb7.size
                  have hM7 : BM w7 w.heap.size k k A n cap := Kb hM
                  have hof7 : OF w7 bQ (.slice P j pc) j qs := by (with_reducible (repeat (first | exact hof | refine OF.drew ?_ | refine OF.drewN ?_ _ | refine OF.alloc ?_ _ | refine OF.b_ ?_ | refine OF.l_ ?_)))
                  have hbw7 : Below w.heap.size w w7 := Kw
                  clear ma mb mc mf ml
                  clear oa ob oc of ol hM hO hof hbw hb7 HOB
                  go_wp2_with fail
                  refine (impl_MakeRatio m d _).mono ?_
                  obtain ⟨q, hq⟩ : ∃ q, makR m d = q := ⟨_, rfl⟩
                  rw [hq] at HDN ⊢
                  clear hq
                  rintro e w5 ⟨rfl, hb8⟩
                  unfold rV
                  have hsz8 := hb8.size
                  have hM8 : BM w5 w.heap.size k k A n cap := Kb hM7
                  have hof8 : OF w5 bQ (.slice P j pc) j qs := by (with_reducible (repeat (first | exact hof7 | refine OF.drew ?_ | refine OF.drewN ?_ _ | refine OF.alloc ?_ _ | refine OF.b_ ?_ | refine OF.l_ ?_)))
                  have hbw8 : Below w.heap.size w w5 := Kw
                  clear hM7 hof7 hbw7 hb8
                  go_wp2_with (at_builtin; refine wpList_append_ratio _ rfl (.tmp 63) (.tmp 67) rfl bQ _ j qs rfl (hof8.alloc _) _ q.1 q.2 rfl ?f1 ?f2 ?f3 ?f4 ?_)
                  case f1 => simp [go_sem]
                  case f2 => simp [go_sem]
                  case f3 => omega
                  case f4 => simp; omega
                  intro v1 w6 hown1 hgr hat
                  have hM9 := (hM8.alloc (.cells #[.int .i64 q.1, .int .i64 q.2] 38)).grown hgr (hof8.ne_low (by omega))
                  have hb9 := Below.trans (show Below w.heap.size w (w5.alloc (.cells #[.int .i64 q.1, .int .i64 q.2] 38)) from Kw) ((hof8.alloc (.cells #[.int .i64 q.1, .int .i64 q.2] 38)).below_grown hgr (by simp; omega) |>.mono (by omega))
                  have hsz9 := hgr.size
                  simp at hsz9
                  obtain ⟨P', pc', rfl⟩ := hown1.shape
                  clear hM8 hof8 hbw8 hgr hat
                  go_wp2_with fail
                  go_roundw
                  case rel => exact ⟨j + 1, P', pc', qs ++ [q.1, q.2], by go_num, rfl, by omega, HDN, Kb hM9, by (with_reducible (repeat (first | exact hown1 | refine OF.drew ?_ | refine OF.drewN ?_ _ | refine OF.alloc ?_ _ | refine OF.b_ ?_ | refine OF.l_ ?_))), Ks, Kw⟩
                  case measure => simp only [intOf]; omega
          · obtain rfl : j = R := by omega
            obtain ⟨hv1, hv2, hv3⟩ := HYES.out qs HQS.out
            have HV1 := Lib.hid hv1
            have HV2 := Lib.hid hv2
            have HV3 := Lib.hid hv3
            clear hv1 hv2 hv3
            go_wp2_with fail
            go_ret2
            rw [HV1.out, HV2.out, HV3.out]
            exact ⟨_, _, _, rfl, OF.mono (B := bQ) (by (with_reducible (repeat (first | exact hof | refine OF.drew ?_ | refine OF.drewN ?_ _ | refine OF.alloc ?_ _ | refine OF.b_ ?_ | refine OF.l_ ?_)))) (by omega), Kw⟩
end Go.Proofs.YtlggfmfelakadaaGreatDoor

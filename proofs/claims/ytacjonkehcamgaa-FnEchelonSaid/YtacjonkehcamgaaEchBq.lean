/-
  DERIVED. IsEchelon of the program.
-/
import Derived.Test.YtacjonkehcamgaaZS
import Derived.Test.YtacjonkehcamgaaPlainI
import Derived.Test.YtacjonkehcamgaaPrim
import Derived.Test.YtacjonkehcamgaaMatOps
namespace Go.Proofs.Ytacjonkehcamgaa
open Go.RowKit
set_option linter.unusedVariables false
set_option linter.unusedSimpArgs false
set_option maxRecDepth 100000 in
set_option maxHeartbeats 8000000 in
theorem impl_IsEchelon (r c : Int) (A : Option Addr) (n cap : Nat) (xs : List Int) (w : World) {B : Nat} (h : RI w B A n xs) (hB : B ≤ w.heap.size) (hn : n ≤ 1048576) (hnc : n ≤ cap) (hcap : cap ≤ 9223372036854775807) :
    Calls Try.prog 80 #[.agg #[.int .i64 r, .int .i64 c, .slice A n cap]] w (BV (.bool (echB r c xs)) w) := by
  have hlen := h.len
  have H2 := Lib.hid (h.more hB)
  clear h
  unfold echB
  rcases hm : isMat r c xs with _ | _
  · rw [Bool.false_and]
    have HM := Lib.hid hm
    clear hm
    go_enter Try.func80, Try.ntmps80
    go_wp2_with (go_at_call 103; refine (impl_IsMatrix r c A n cap xs _ (C := w.heap.size) (Kr H2.out) Ks hn).mono ?_; rw [HM.out]; rintro e w1 ⟨rfl, hb⟩; have hz := hb.size; (try simp at hz); have kk := bkeep (w := w) hb Ks; obtain ⟨kc, kf⟩ := kk; (try (have kk := bkeepb (w.heap.size) hb Ks; obtain ⟨kc0, kf0, kl0⟩ := kk)); (try (have kk := bkeepb (w.heap.size + 1) hb Ks; obtain ⟨kc1, kf1, kl1⟩ := kk)); (try (have kk := bkeepb (w.heap.size + 1 + 1) hb Ks; obtain ⟨kc2, kf2, kl2⟩ := kk)); (try (have kk := bkeepb (w.heap.size + 1 + 1 + 1) hb Ks; obtain ⟨kc3, kf3, kl3⟩ := kk)); (try (have kk := bkeepb (wr.heap.size) hb Ks; obtain ⟨kr0, ks0, kt0⟩ := kk)); (try (have kk := bkeepb (wr.heap.size + 1) hb Ks; obtain ⟨kr1, ks1, kt1⟩ := kk)); (try (have kk := bkeepb (wr.heap.size + 1 + 1) hb Ks; obtain ⟨kr2, ks2, kt2⟩ := kk)))
    go_ret
    exact BV.mk rfl Kw
  · rw [Bool.true_and]
    have M := isMat_iff.1 hm
    have HM := Lib.hid hm
    obtain ⟨R, rfl⟩ := nat_of M.r0
    obtain ⟨C, rfl⟩ := nat_of M.c0
    have hR := M.r1
    have hC := M.c1
    have hl1 : (n : Int) ≤ (R : Int) * (C : Int) ∧ (R : Int) * (C : Int) ≤ n := by have := M.len; omega
    have HL : Hid (xs.length = R * C) := Lib.hid (by have := M.len; rw [← Int.natCast_mul] at this; omega)
    have hcb := Lib.hid (fun i j => M.cel_bd i j)
    have hnb := Lib.hid (fun k => M.nums k)
    clear hm M hlen
    simp only [Int.toNat_natCast]
    go_enter Try.func80, Try.ntmps80
    go_wp2_with (go_at_call 103; refine (impl_IsMatrix R C A n cap xs _ (C := w.heap.size) (Kr H2.out) Ks hn).mono ?_; rw [HM.out]; rintro e w1 ⟨rfl, hb⟩; have hz := hb.size; (try simp at hz); have kk := bkeep (w := w) hb Ks; obtain ⟨kc, kf⟩ := kk; (try (have kk := bkeepb (w.heap.size) hb Ks; obtain ⟨kc0, kf0, kl0⟩ := kk)); (try (have kk := bkeepb (w.heap.size + 1) hb Ks; obtain ⟨kc1, kf1, kl1⟩ := kk)); (try (have kk := bkeepb (w.heap.size + 1 + 1) hb Ks; obtain ⟨kc2, kf2, kl2⟩ := kk)); (try (have kk := bkeepb (w.heap.size + 1 + 1 + 1) hb Ks; obtain ⟨kc3, kf3, kl3⟩ := kk)); (try (have kk := bkeepb (wr.heap.size) hb Ks; obtain ⟨kr0, ks0, kt0⟩ := kk)); (try (have kk := bkeepb (wr.heap.size + 1) hb Ks; obtain ⟨kr1, ks1, kt1⟩ := kk)); (try (have kk := bkeepb (wr.heap.size + 1 + 1) hb Ks; obtain ⟨kr2, ks2, kt2⟩ := kk)))
    have hO : BM w1 (w.heap.size) R C A n cap := Ka
    have hbw : Below w.heap.size w w1 := Kw
    clear kc kf kc0 kf0 kl0 hz hb
    go_loopw [3, 4] (fun u v wr => ∃ i : Nat, v = .int .i64 i ∧ u = .int .i64 (lastP xs C i) ∧ i ≤ R ∧ (List.range i).all (erow xs R C) = true ∧ BM wr w.heap.size R C A n cap ∧ Below w.heap.size w wr) (fun _ v _ => R - (intOf v).toNat)
    case atStart => exact ⟨0, rfl, by rw [lastP_zero], Nat.zero_le _, by simp, hO, hbw⟩
    case round =>
      clear hO hbw
      obtain ⟨i, rfl, rfl, hi, hal0, hO, hbw⟩ := hrel
      have hal := Lib.hid hal0
      clear hal0
      obtain ⟨oa, ob, oc, of, ol⟩ := hO.mx
      have ol0 : w.heap.size < wr.heap.size := ol
      by_cases hiR : i < R
      · have hpl := pv_le HL.out hiR
        have hsu := range_all_succ (fun i => erow xs R C i) i
        have hno := fun h => range_all_false (p := fun i => erow xs R C i) hiR h
        rw [show (List.range i).all (fun i => erow xs R C i) = true from hal.out, Bool.true_and] at hsu
        have HSU := Lib.hid (lastP_succ xs C i)
        have HI : Hid (i * C + C ≤ n) := Lib.hid (by have h3 := Nat.mul_le_mul_right C (show i + 1 ≤ R by omega); rw [Nat.add_mul, Nat.one_mul] at h3; have h4 := HL.out; have := H2.out.len; omega)
        have hrl := rowL_len (xs := xs) (C := C) (i := i) (by have h4 := HI.out; have := H2.out.len; omega)
        have HRL := Lib.hid hrl
        have hfc : fcI (rowL xs C i) = if pv xs C i < C then (pv xs C i : Int) else -1 := by unfold fcI pv; rw [hrl]
        have HPY : Hid (eqB (primL (rowL xs C i)) (rowL xs C i) = true → pv xs C i < C → fcI (primL (rowL xs C i)) = (pv xs C i : Int) ∧ gcdL (rowL xs C i) = 1 ∧ 0 ≤ cel xs C i (pv xs C i)) := Lib.hid (fun he hp => by
          have e : primL (rowL xs C i) = rowL xs C i := by simpa [eqB] using he
          have e2 := (prim_row hrl hp).1 e
          rw [e, hfc, if_pos hp]
          exact ⟨rfl, e2⟩)
        have HPN : Hid (eqB (primL (rowL xs C i)) (rowL xs C i) = true → ¬ pv xs C i < C → fcI (primL (rowL xs C i)) = -1) := Lib.hid (fun he hp => by
          have e : primL (rowL xs C i) = rowL xs C i := by simpa [eqB] using he
          rw [e, hfc, if_neg hp])
        have HPF : Hid (eqB (primL (rowL xs C i)) (rowL xs C i) = false → erow xs R C i = false) := Lib.hid (fun he => by
          have e : ¬ primL (rowL xs C i) = rowL xs C i := by simpa [eqB] using he
          by_cases hp : pv xs C i < C
          · unfold erow
            rw [if_pos hp]
            have e2 := fun h => e ((prim_row hrl hp).2 h)
            by_cases hg : gcdL (rowL xs C i) = 1
            · have : ¬ 0 ≤ cel xs C i (pv xs C i) := fun hh => e2 ⟨hg, hh⟩
              simp [this]
            · simp [hg]
          · exact absurd (prim_row0 hrl hp) e)
        have hqb : -1 ≤ fcI (primL (rowL xs C i)) ∧ fcI (primL (rowL xs C i)) ≤ 24 := by
          have h1 := fcN_le (primL (rowL xs C i))
          rw [primL_len, hrl] at h1
          unfold fcI
          split <;> omega
        have hlb : -1 ≤ lastP xs C i ∧ lastP xs C i ≤ 24 := by
          rcases Nat.eq_zero_or_pos i with h0 | h0
          · subst h0; rw [lastP_zero]; omega
          · obtain ⟨j, rfl⟩ : ∃ j, i = j + 1 := ⟨i - 1, by omega⟩
            rw [lastP_succ]
            have := pv_le HL.out (show j < R by omega); omega
        have HRB : Hid (∀ k, -400000000 ≤ (rowL xs C i).getD k 0 ∧ (rowL xs C i).getD k 0 ≤ 400000000) := Lib.hid (fun k => by
          by_cases hk : k < C
          · rw [rowL_getD hk]; exact hcb.out i k
          · simp [List.getD, List.getElem?_eq_none (show (rowL xs C i).length ≤ k by rw [hrl]; omega)])
        have HS := Lib.hid hsu
        have HNO := Lib.hid hno
        clear hfc hrl hsu hno
        go_wp2_with fail
        refine (impl_row R C i A n cap xs _ (B := w.heap.size) (Kr H2.out) Ks hnc hcap (by omega) (by omega) HI.out).mono ?_
        rintro e w1 ⟨A', cap', rfl, hri, hb, hc1, hc2⟩
        have hsz1 := hb.size
        simp at hsz1
        have hown0 : OR w1 wr.heap.size (.slice (some ⟨wr.heap.size, 0, none⟩) 0 0) [] := OR.below (OR.empty' _ wr.heap.size (by simp) (by simp)) hb (by simp)
        have hO_1 : BM w1 (w.heap.size) R C A n cap := (Kb hO); have hbw_1 : Below w.heap.size w w1 := Kw; clear hO hbw; have hO := hO_1; have hbw := hbw_1; clear hO_1 hbw_1; clear oa ob oc of ol; obtain ⟨oa, ob, oc, of, ol⟩ := hO.mx
        have HRI := Lib.hid hri
        clear hri hb
        go_wp2_with (at_builtin; refine wpList_append_ints _ rfl (.tmp 17) (.tmp 20) rfl wr.heap.size _ [] rfl ?c1 w.heap.size A' C cap' (rowL xs C i) rfl ?c2 ?c3 ?c4 ?_)
        case c1 => exact hown0
        case c2 => exact HRI.out
        case c3 => simp; omega
        case c4 => omega
        intro v1 w2 hown hgr hat
        (try simp only [List.nil_append] at hown)
        obtain ⟨g, cap1, rfl, hg1, hg2⟩ := hown.notNil hat
        rw [HRL.out] at hown ⊢
        have hb2 : Below wr.heap.size w1 w2 := only_below hgr (by omega) (by intro g h; cases h; exact Nat.le_refl _)
        have hsz2 := hb2.size
        have hO2 : BM w2 w.heap.size R C A n cap := hO.below hb2 (by omega)
        have hbw2 : Below w.heap.size w w2 := hbw.trans (hb2.mono (by omega))
        clear hO hbw hgr hat hb2 oa ob oc of ol hown0
        obtain ⟨oa, ob, oc, of, ol⟩ := hO2.mx
        go_wp2_with fail
        refine (impl_makePrimitive g 0 C cap1 C cap1 (rowL xs C i) _ hown ?p1 ?p2 HRB.out).mono ?_
        case p1 => rw [HRL.out]; omega
        case p2 => omega
        rintro e w3 ⟨rfl, hown3, hgr3, hsz3⟩
        replace hown3 := hown3.as (spl_all HRL.out)
        have hO3 : BM w3 w.heap.size R C A n cap := hO2.grown hgr3 (by simp [Value.ownBlock]; omega)
        have hbw3 : Below w.heap.size w w3 := hbw2.trans (only_below hgr3 (by omega) (by intro g' h; simp [Value.ownBlock] at h; omega))
        clear hO2 hbw2 hgr3 hown oa ob oc of ol
        have hO := hO3
        have hbw := hbw3
        clear hO3 hbw3
        obtain ⟨oa, ob, oc, of, ol⟩ := hO.mx
        go_wp2_with fail
        refine (impl_firstCell (some ⟨g, 0, none⟩) C cap1 _ _ hown3.reads (by omega)).mono ?_
        rintro e w' ⟨rfl, rfl⟩
        go_wp2_with fail
        refine (impl_row R C i A n cap xs _ (B := w.heap.size) (Kr H2.out) Ks hnc hcap (by omega) (by omega) HI.out).mono ?_
        rintro e w1' ⟨A'', cap'', rfl, hri, hb, hc3, hc4⟩
        have hown4 : OR w1' wr.heap.size (.slice (some ⟨g, 0, none⟩) C cap1) (primL (rowL xs C i)) := Ko hown3
        have hO_1 : BM w1' (w.heap.size) R C A n cap := (Kb hO); have hbw_1 : Below w.heap.size w w1' := Kw; clear hO hbw; have hO := hO_1; have hbw := hbw_1; clear hO_1 hbw_1; clear oa ob oc of ol; obtain ⟨oa, ob, oc, of, ol⟩ := hO.mx
        go_wp2_with fail
        refine (slices_Equal (some ⟨g, 0, none⟩) A'' C C cap1 cap'' _ _ _ hown4.reads hri (by omega) (by omega)).mono ?_
        rintro e w' ⟨rfl, nd, rfl⟩
        have hpr := HPY.out
        have hpn := HPN.out
        have hpf := HPF.out
        clear hown4 hri hown3 HPY HPN HPF HRB hb
        generalize eqB (primL (rowL xs C i)) (rowL xs C i) = eb at *
        generalize fcI (primL (rowL xs C i)) = q at *
        cases eb
        · have hf := Lib.hid (HNO.out (hpf rfl))
          clear hpr hpn hpf
          go_wp2_with fail
          go_ret
          exact BV.mk (vbool hf.out.symm) Kw
        · clear hpf
          by_cases hp : pv xs C i < C
          · obtain ⟨hq, hg1', hge⟩ := hpr rfl hp
            clear hpr hpn
            have hrw : erow xs R C i = (decide (lastP xs C i < pv xs C i) && decide (0 ≤ cel xs C i (pv xs C i)) && decide (gcdL (rowL xs C i) = 1) && (List.range R).all (ezc xs C i)) := by unfold erow; rw [if_pos hp]
            have hn1 := HNO.out
            rw [hrw] at hn1
            have hs1 := HS.out
            rw [hrw] at hs1
            have HNO1 := Lib.hid hn1
            have HS1 := Lib.hid hs1
            have HG := Lib.hid hg1'
            have HP : Hid (∀ k, ezc xs C i k = (decide (k = i) || decide (cel xs C k (pv xs C i) = 0))) := Lib.hid (fun _ => rfl)
            clear hrw hn1 hs1 HNO HS hg1'
            generalize pv xs C i = p at *
            subst hq
            by_cases hlp : (p : Int) ≤ lastP xs C i
            · have hf := Lib.hid (HNO1.out (by simp; omega))
              generalize lastP xs C i = l at *
              go_wp2_with fail
              go_ret
              exact BV.mk (vbool hf.out.symm) Kw
            · have hlt1 : lastP xs C i < (p : Int) := by omega
              have HLP : Hid (decide (lastP xs C i < (p : Int)) = true) := Lib.hid (by simpa using hlt1)
              generalize lastP xs C i = l at *
              have hlp' : decide ((p : Int) ≤ l) = false := by simp; omega
              go_wp2_with fail
              obtain ⟨wo, rfl⟩ : ∃ wo : World, wo = wr := ⟨_, rfl⟩
              go_loopw [7] (fun v wr => ∃ k : Nat, v = .int .i64 k ∧ k ≤ R ∧ (List.range k).all (ezc xs C i) = true ∧ BM wr w.heap.size R C A n cap ∧ Below w.heap.size w wr) (fun v _ => R - (intOf v).toNat)
              case atStart => exact ⟨0, rfl, Nat.zero_le _, by simp, Kb hO, Kw⟩
              case round =>
                clear hO hbw
                obtain ⟨k, rfl, hk, hak0, hO, hbw⟩ := hrel
                have hak := Lib.hid hak0
                clear hak0
                clear oa ob oc of ol
                obtain ⟨oa, ob, oc, of, ol⟩ := hO.mx
                by_cases hkR : k < R
                · have hs := range_all_succ (ezc xs C i) k
                  rw [hak.out, Bool.true_and, HP.out k] at hs
                  have hno2 : ezc xs C i k = false → (List.range R).all (ezc xs C i) = false := fun hh => range_all_false (p := ezc xs C i) hkR hh
                  rw [HP.out k] at hno2
                  obtain ⟨z1, z2, z3, z4⟩ := idx_bd (r := R) (c := C) (i := k) (j := p) hR hC (by omega) (by omega) (by omega) (by omega)
                  obtain ⟨y3, y4⟩ := hcb.out k p
                  by_cases hki : k = i
                  · have hnx := Lib.hid (show (List.range (k + 1)).all (ezc xs C i) = true by rw [hs]; simp [hki])
                    have b1 : ((k : Int) != (i : Int)) = false := by simp [hki]
                    clear hs hno2 hki
                    go_wp2_with (go_at_call 117; refine (impl_at _ _ _ _ _ _ _ xs _ (C := w.heap.size) (Kr H2.out) Ks ⟨by omega, by omega⟩ ⟨by omega, by omega⟩ (by omega)).mono ?_; rintro e w1 ⟨rfl, hb⟩; have hO_1 : BM w1 (w.heap.size) R C A n cap := (Kb hO); have hbw_1 : Below w.heap.size w w1 := Kw; clear hO hbw; have hO := hO_1; have hbw := hbw_1; clear hO_1 hbw_1; clear oa ob oc of ol; obtain ⟨oa, ob, oc, of, ol⟩ := hO.mx)
                    go_roundw
                    case rel => exact ⟨k + 1, by go_num, by omega, hnx.out, Kb hO, Kw⟩
                    case measure => simp only [intOf]; omega
                  · have b1 : ((k : Int) != (i : Int)) = true := by simp; omega
                    by_cases hz : cel xs C k p = 0
                    · have hnx := Lib.hid (show (List.range (k + 1)).all (ezc xs C i) = true by rw [hs]; simp [hz])
                      have b3 : (cel xs C k p != 0) = false := by simpa using hz
                      clear hs hno2 hki hz
                      go_wp2_with (go_at_call 117; refine (impl_at _ _ _ _ _ _ _ xs _ (C := w.heap.size) (Kr H2.out) Ks ⟨by omega, by omega⟩ ⟨by omega, by omega⟩ (by omega)).mono ?_; rintro e w1 ⟨rfl, hb⟩; have hO_1 : BM w1 (w.heap.size) R C A n cap := (Kb hO); have hbw_1 : Below w.heap.size w w1 := Kw; clear hO hbw; have hO := hO_1; have hbw := hbw_1; clear hO_1 hbw_1; clear oa ob oc of ol; obtain ⟨oa, ob, oc, of, ol⟩ := hO.mx)
                      go_roundw
                      case rel => exact ⟨k + 1, by go_num, by omega, hnx.out, Kb hO, Kw⟩
                      case measure => simp only [intOf]; omega
                    · have hf := Lib.hid (HNO1.out (by rw [hno2 (by simp [hki, hz])]; simp))
                      have b3 : (cel xs C k p != 0) = true := by simpa using hz
                      clear hs hno2 hki hz
                      go_wp2_with (go_at_call 117; refine (impl_at _ _ _ _ _ _ _ xs _ (C := w.heap.size) (Kr H2.out) Ks ⟨by omega, by omega⟩ ⟨by omega, by omega⟩ (by omega)).mono ?_; rintro e w1 ⟨rfl, hb⟩; have hO_1 : BM w1 (w.heap.size) R C A n cap := (Kb hO); have hbw_1 : Below w.heap.size w w1 := Kw; clear hO hbw; have hO := hO_1; have hbw := hbw_1; clear hO_1 hbw_1; clear oa ob oc of ol; obtain ⟨oa, ob, oc, of, ol⟩ := hO.mx)
                      go_ret
                      exact BV.mk (vbool hf.out.symm) Kw
                · have hak2 : (List.range R).all (ezc xs C i) = true := by rw [show R = k by omega]; exact hak.out
                  have hnx := Lib.hid (show (List.range (i + 1)).all (fun i => erow xs R C i) = true by rw [HS1.out, hak2, HLP.out, HG.out]; simpa using hge)
                  clear hak2
                  go_wp2
                  go_roundw
                  case rel => exact ⟨i + 1, by go_num, by rw [HSU.out], by omega, hnx.out, Kb hO, Kw⟩
                  case measure => simp only [intOf]; omega
          · have hq := hpn rfl hp
            clear hpr hpn
            have hrw : erow xs R C i = true := by unfold erow; rw [if_neg hp]
            have hnx := Lib.hid (show (List.range (i + 1)).all (fun i => erow xs R C i) = true by rw [HS.out, hrw])
            have hpc : pv xs C i = C := by omega
            have HSU2 : Hid (lastP xs C (i + 1) = C) := Lib.hid (by rw [HSU.out, hpc])
            subst hq
            clear hrw hpc
            go_wp2_with fail
            go_roundw
            case rel => exact ⟨i + 1, by go_num, by rw [HSU2.out], by omega, hnx.out, Kb hO, Kw⟩
            case measure => simp only [intOf]; omega
      · obtain rfl : R = i := by omega
        have hres := Lib.hid (show (List.range R).all (erow xs R C) = true from hal.out)
        go_wp2
        go_ret
        exact BV.mk (vbool hres.out.symm) Kw
end Go.Proofs.Ytacjonkehcamgaa

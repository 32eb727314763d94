/-
  DERIVED. l13Least of the reference.
-/
import Derived.Test.YtmcbhpaajjlmmaaSm2q
import Derived.Test.YtmcbhpaajjlmmaaLeastSq
namespace Go.Proofs.Ytmcbhpaajjlmmaa
open Go.RowKit
set_option linter.unusedVariables false
set_option linter.unusedSimpArgs false
/-- Two numbers. -/
def P2 (o : Int × Int) (w : World) (e : Ending) (w' : World) : Prop := e = .returned (.tuple #[.int .i64 o.1, .int .i64 o.2]) ∧ Below w.heap.size w w'
set_option maxRecDepth 100000 in
set_option maxHeartbeats 4000000 in
theorem spec_l13Least (R C t : Nat) (A : Option Addr) (n cap : Nat) (f : Fn2) (w : World) {B : Nat} (h : OR w B (.slice A n cap) (tb R C f)) (ht : t ≤ R) (htC : t ≤ C) (hf : OKF R C f) (hC : C ≤ 24) (hR : R ≤ 24) :
    Calls Try.prog 210 #[.agg #[.int .i64 R, .int .i64 C, .slice A n cap], .int .i64 t] w (P2 (ls2 R C f t) w) := by
  have HF := Lib.hid hf
  clear hf
  go_enter Try.func210, Try.ntmps210
  go_wp2_with fail
  go_loopw [6, 7, 8] (fun u v x wr => ∃ (i : Nat) (o : Int × Int), x = .int .i64 i ∧ lsO f t (C - t) (i - t) = o ∧ u = .int .i64 o.1 ∧ v = .int .i64 o.2 ∧ t ≤ i ∧ i ≤ R ∧ BM wr w.heap.size R C A n cap ∧ OR wr B (.slice A n cap) (tb R C f) ∧ Below w.heap.size w wr) (fun _ _ x _ => R - (intOf x).toNat)
  case atStart => exact ⟨t, (-1, -1), rfl, by rw [Nat.sub_self]; rfl, rfl, rfl, Nat.le_refl _, ht, by (with_reducible (repeat (first | assumption | refine BX.n_ | refine BX.b_ ?_ | apply BX.drew | apply BX.drewN | refine BX.put ?_ | refine BX.put2 ?_ | refine BX.f_ ?_ | apply BX.alloc | refine B3.n_ | refine B3.of (by assumption) | refine B3.b_ ?_ | apply B3.drew | apply B3.drewN | refine B3.f_ ?_ | apply B3.alloc))), by (with_reducible (repeat (first | exact h | refine OR.drew ?_ | refine OR.drewN ?_ _ | refine OR.alloc ?_ _ | refine OR.b_ ?_ | refine OR.l_ ?_))), by (repeat (first | (with_reducible (first | exact Below.refl _ _ | assumption | refine below_drewN ?_ _ | refine Below.drew ?_ | refine Below.alloc ?_ ?_ _ | refine Below.setCell ?_ ?_ _ | refine below_i ?_)) | go_size))⟩
  case round =>
    clear h
    obtain ⟨i, o, rfl, hO', rfl, rfl, hti, hiR, hO, ho, hbw⟩ := hrel
    obtain ⟨oa, ob, oc, of, ol⟩ := hO.mx
    have hsz := hbw.size
    by_cases hlt : i < R
    · have HO0 : Hid (lsI f i t (lsO f t (C - t) (i - t)) (t - t) = o) := Lib.hid (by rw [Nat.sub_self]; exact hO')
      clear hO'
      go_wp2_with fail
      obtain ⟨wo2, rfl⟩ : ∃ wo : World, wo = wr := ⟨_, rfl⟩
      go_loopw [6, 7, 9] (fun u v x wr => ∃ (j : Nat) (o : Int × Int), x = .int .i64 j ∧ lsI f i t (lsO f t (C - t) (i - t)) (j - t) = o ∧ u = .int .i64 o.1 ∧ v = .int .i64 o.2 ∧ t ≤ j ∧ j ≤ C ∧ BM wr w.heap.size R C A n cap ∧ OR wr B (.slice A n cap) (tb R C f) ∧ Below w.heap.size w wr) (fun _ _ x _ => C - (intOf x).toNat)
      case atStart => exact ⟨t, o, rfl, HO0.out, rfl, rfl, Nat.le_refl _, htC, hO, ho, hbw⟩
      case round =>
        clear oa ob oc of ol
        clear hO ho hbw HO0 hsz
        obtain ⟨j, o2, rfl, hO', rfl, rfl, htj, hjC, hO, ho, hbw⟩ := hrel
        obtain ⟨oa, ob, oc, of, ol⟩ := hO.mx
        have hsz := hbw.size
        by_cases hjl : j < C
        · have hn := HF.out i j hlt hjl
          have hx := lsI_next (f := f) (i := i) (st := lsO f t (C - t) (i - t)) htj
          have hcs := lsI_form (f := f) (C := C) hti hlt htj (Nat.le_of_lt hjl)
          rw [hO'] at hx hcs
          by_cases hz : f i j = 0
          · rw [if_neg (by simp [hz])] at hx
            have HX := Lib.hid hx
            have hnz : ((((f i j).natAbs : Nat) : Int) != 0) = false := by simp [hz]
            obtain ⟨y1, y2⟩ := hn
            have hb : -1 ≤ o2.1 ∧ o2.1 ≤ 100 := by
              rcases hcs with rfl | ⟨p, q, rfl, h3, _⟩
              · decide
              · dsimp only; omega
            obtain ⟨b1, b2⟩ := hb
            clear hx hz hcs hO'
            generalize hv : f i j = v at *
            have HV := Lib.hid hv
            clear hv
            go_wp2_with fail
            (refine (spec_l12Cell_tb R C i j A n cap f v HV.out _ (B := B) (by (with_reducible (repeat (first | exact ho | refine OR.drew ?_ | refine OR.drewN ?_ _ | refine OR.alloc ?_ _ | refine OR.b_ ?_ | refine OR.l_ ?_)))) (by omega) (by omega) (by omega) (by omega)).mono ?_; rintro e w1 ⟨rfl, hb1⟩; (have hO_1 : BM w1 w.heap.size R C A n cap := (by (with_reducible (repeat (first | exact hO | refine BX.n_ | refine BX.b_ ?_ | apply BX.drew | apply BX.drewN | refine BX.put ?_ | refine BX.put2 ?_ | refine BX.f_ ?_ | apply BX.alloc | refine B3.n_ | exact B3.of hO | refine B3.b_ ?_ | apply B3.drew | apply B3.drewN | refine B3.f_ ?_ | apply B3.alloc))))); (have ho_1 : OR w1 B (.slice A n cap) (tb R C f) := (by (with_reducible (repeat (first | exact ho | refine OR.drew ?_ | refine OR.drewN ?_ _ | refine OR.alloc ?_ _ | refine OR.b_ ?_ | refine OR.l_ ?_))))); (have hbw_1 : Below w.heap.size w w1 := (by (repeat (first | (with_reducible (first | exact Below.refl _ _ | assumption | refine below_drewN ?_ _ | refine Below.drew ?_ | refine Below.alloc ?_ ?_ _ | refine Below.setCell ?_ ?_ _ | refine below_i ?_)) | go_size)))); (have hsz_1 := hbw_1.size); clear hO ho hbw hb1; clear oa ob oc of ol; (have hO := hO_1); (have ho := ho_1); (have hbw := hbw_1); clear hO_1 ho_1 hbw_1; obtain ⟨oa, ob, oc, of, ol⟩ := hO.mx)
            go_wp2_with (go_at_call 182; refine (spec_l1Abs _ _ (by omega) (by omega)).mono ?_; rintro e w' ⟨rfl, rfl⟩)
            go_wp2_with fail
            go_roundw
            case rel => exact ⟨j + 1, _, by go_num, HX.out, rfl, rfl, by omega, by omega, by (with_reducible (repeat (first | exact hO | refine BX.n_ | refine BX.b_ ?_ | apply BX.drew | apply BX.drewN | refine BX.put ?_ | refine BX.put2 ?_ | refine BX.f_ ?_ | apply BX.alloc | refine B3.n_ | exact B3.of hO | refine B3.b_ ?_ | apply B3.drew | apply B3.drewN | refine B3.f_ ?_ | apply B3.alloc))), by (with_reducible (repeat (first | exact ho | refine OR.drew ?_ | refine OR.drewN ?_ _ | refine OR.alloc ?_ _ | refine OR.b_ ?_ | refine OR.l_ ?_))), by (repeat (first | (with_reducible (first | exact Below.refl _ _ | assumption | refine below_drewN ?_ _ | refine Below.drew ?_ | refine Below.alloc ?_ ?_ _ | refine Below.setCell ?_ ?_ _ | refine below_i ?_)) | go_size))⟩
            case measure => simp only [intOf]; omega
          · rcases hcs with rfl | ⟨p, q, rfl, hpR, hqC, hpq⟩
            · rw [if_pos ⟨hz, .inl (by decide)⟩] at hx
              have HX := Lib.hid hx
              obtain ⟨y1, y2⟩ := hn
              have hnz : ((((f i j).natAbs : Nat) : Int) != 0) = true := by simp; omega
              clear hx hz hO'
              generalize hv : f i j = v at *
              have HV := Lib.hid hv
              clear hv
              go_wp2_with fail
              (refine (spec_l12Cell_tb R C i j A n cap f v HV.out _ (B := B) (by (with_reducible (repeat (first | exact ho | refine OR.drew ?_ | refine OR.drewN ?_ _ | refine OR.alloc ?_ _ | refine OR.b_ ?_ | refine OR.l_ ?_)))) (by omega) (by omega) (by omega) (by omega)).mono ?_; rintro e w1 ⟨rfl, hb1⟩; (have hO_1 : BM w1 w.heap.size R C A n cap := (by (with_reducible (repeat (first | exact hO | refine BX.n_ | refine BX.b_ ?_ | apply BX.drew | apply BX.drewN | refine BX.put ?_ | refine BX.put2 ?_ | refine BX.f_ ?_ | apply BX.alloc | refine B3.n_ | exact B3.of hO | refine B3.b_ ?_ | apply B3.drew | apply B3.drewN | refine B3.f_ ?_ | apply B3.alloc))))); (have ho_1 : OR w1 B (.slice A n cap) (tb R C f) := (by (with_reducible (repeat (first | exact ho | refine OR.drew ?_ | refine OR.drewN ?_ _ | refine OR.alloc ?_ _ | refine OR.b_ ?_ | refine OR.l_ ?_))))); (have hbw_1 : Below w.heap.size w w1 := (by (repeat (first | (with_reducible (first | exact Below.refl _ _ | assumption | refine below_drewN ?_ _ | refine Below.drew ?_ | refine Below.alloc ?_ ?_ _ | refine Below.setCell ?_ ?_ _ | refine below_i ?_)) | go_size)))); (have hsz_1 := hbw_1.size); clear hO ho hbw hb1; clear oa ob oc of ol; (have hO := hO_1); (have ho := ho_1); (have hbw := hbw_1); clear hO_1 ho_1 hbw_1; obtain ⟨oa, ob, oc, of, ol⟩ := hO.mx)
              go_wp2_with (go_at_call 182; refine (spec_l1Abs _ _ (by omega) (by omega)).mono ?_; rintro e w' ⟨rfl, rfl⟩)
              go_wp2_with fail
              go_roundw
              case rel => exact ⟨j + 1, _, by go_num, HX.out, rfl, rfl, by omega, by omega, by (with_reducible (repeat (first | exact hO | refine BX.n_ | refine BX.b_ ?_ | apply BX.drew | apply BX.drewN | refine BX.put ?_ | refine BX.put2 ?_ | refine BX.f_ ?_ | apply BX.alloc | refine B3.n_ | exact B3.of hO | refine B3.b_ ?_ | apply B3.drew | apply B3.drewN | refine B3.f_ ?_ | apply B3.alloc))), by (with_reducible (repeat (first | exact ho | refine OR.drew ?_ | refine OR.drewN ?_ _ | refine OR.alloc ?_ _ | refine OR.b_ ?_ | refine OR.l_ ?_))), by (repeat (first | (with_reducible (first | exact Below.refl _ _ | assumption | refine below_drewN ?_ _ | refine Below.drew ?_ | refine Below.alloc ?_ ?_ _ | refine Below.setCell ?_ ?_ _ | refine below_i ?_)) | go_size))⟩
              case measure => simp only [intOf]; omega
            · simp only [Int.toNat_natCast] at hx
              have hnp := HF.out p q hpR hqC
              obtain ⟨y1, y2⟩ := hn
              obtain ⟨y3, y4⟩ := hnp
              have hnz : ((((f i j).natAbs : Nat) : Int) != 0) = true := by simp; omega
              by_cases hc : (f i j).natAbs < (f p q).natAbs
              · rw [if_pos ⟨hz, .inr hc⟩] at hx
                have HX := Lib.hid hx
                clear hx hz hO' hpq
                generalize hv : f i j = v at *
                generalize hv2 : f p q = v2 at *
                have HV := Lib.hid hv
                have HV2 := Lib.hid hv2
                clear hv hv2
                go_wp2_with fail
                (refine (spec_l12Cell_tb R C i j A n cap f v HV.out _ (B := B) (by (with_reducible (repeat (first | exact ho | refine OR.drew ?_ | refine OR.drewN ?_ _ | refine OR.alloc ?_ _ | refine OR.b_ ?_ | refine OR.l_ ?_)))) (by omega) (by omega) (by omega) (by omega)).mono ?_; rintro e w1 ⟨rfl, hb1⟩; (have hO_1 : BM w1 w.heap.size R C A n cap := (by (with_reducible (repeat (first | exact hO | refine BX.n_ | refine BX.b_ ?_ | apply BX.drew | apply BX.drewN | refine BX.put ?_ | refine BX.put2 ?_ | refine BX.f_ ?_ | apply BX.alloc | refine B3.n_ | exact B3.of hO | refine B3.b_ ?_ | apply B3.drew | apply B3.drewN | refine B3.f_ ?_ | apply B3.alloc))))); (have ho_1 : OR w1 B (.slice A n cap) (tb R C f) := (by (with_reducible (repeat (first | exact ho | refine OR.drew ?_ | refine OR.drewN ?_ _ | refine OR.alloc ?_ _ | refine OR.b_ ?_ | refine OR.l_ ?_))))); (have hbw_1 : Below w.heap.size w w1 := (by (repeat (first | (with_reducible (first | exact Below.refl _ _ | assumption | refine below_drewN ?_ _ | refine Below.drew ?_ | refine Below.alloc ?_ ?_ _ | refine Below.setCell ?_ ?_ _ | refine below_i ?_)) | go_size)))); (have hsz_1 := hbw_1.size); clear hO ho hbw hb1; clear oa ob oc of ol; (have hO := hO_1); (have ho := ho_1); (have hbw := hbw_1); clear hO_1 ho_1 hbw_1; obtain ⟨oa, ob, oc, of, ol⟩ := hO.mx)
                go_wp2_with (go_at_call 182; refine (spec_l1Abs _ _ (by omega) (by omega)).mono ?_; rintro e w' ⟨rfl, rfl⟩)
                (refine (spec_l12Cell_tb R C p q A n cap f v2 HV2.out _ (B := B) (by (with_reducible (repeat (first | exact ho | refine OR.drew ?_ | refine OR.drewN ?_ _ | refine OR.alloc ?_ _ | refine OR.b_ ?_ | refine OR.l_ ?_)))) (by omega) (by omega) (by omega) (by omega)).mono ?_; rintro e w1 ⟨rfl, hb1⟩; (have hO_1 : BM w1 w.heap.size R C A n cap := (by (with_reducible (repeat (first | exact hO | refine BX.n_ | refine BX.b_ ?_ | apply BX.drew | apply BX.drewN | refine BX.put ?_ | refine BX.put2 ?_ | refine BX.f_ ?_ | apply BX.alloc | refine B3.n_ | exact B3.of hO | refine B3.b_ ?_ | apply B3.drew | apply B3.drewN | refine B3.f_ ?_ | apply B3.alloc))))); (have ho_1 : OR w1 B (.slice A n cap) (tb R C f) := (by (with_reducible (repeat (first | exact ho | refine OR.drew ?_ | refine OR.drewN ?_ _ | refine OR.alloc ?_ _ | refine OR.b_ ?_ | refine OR.l_ ?_))))); (have hbw_1 : Below w.heap.size w w1 := (by (repeat (first | (with_reducible (first | exact Below.refl _ _ | assumption | refine below_drewN ?_ _ | refine Below.drew ?_ | refine Below.alloc ?_ ?_ _ | refine Below.setCell ?_ ?_ _ | refine below_i ?_)) | go_size)))); (have hsz_1 := hbw_1.size); clear hO ho hbw hb1; clear oa ob oc of ol; (have hO := hO_1); (have ho := ho_1); (have hbw := hbw_1); clear hO_1 ho_1 hbw_1; obtain ⟨oa, ob, oc, of, ol⟩ := hO.mx)
                go_wp2_with (go_at_call 182; refine (spec_l1Abs _ _ (by omega) (by omega)).mono ?_; rintro e w' ⟨rfl, rfl⟩)
                go_wp2_with fail
                go_roundw
                case rel => exact ⟨j + 1, _, by go_num, HX.out, rfl, rfl, by omega, by omega, by (with_reducible (repeat (first | exact hO | refine BX.n_ | refine BX.b_ ?_ | apply BX.drew | apply BX.drewN | refine BX.put ?_ | refine BX.put2 ?_ | refine BX.f_ ?_ | apply BX.alloc | refine B3.n_ | exact B3.of hO | refine B3.b_ ?_ | apply B3.drew | apply B3.drewN | refine B3.f_ ?_ | apply B3.alloc))), by (with_reducible (repeat (first | exact ho | refine OR.drew ?_ | refine OR.drewN ?_ _ | refine OR.alloc ?_ _ | refine OR.b_ ?_ | refine OR.l_ ?_))), by (repeat (first | (with_reducible (first | exact Below.refl _ _ | assumption | refine below_drewN ?_ _ | refine Below.drew ?_ | refine Below.alloc ?_ ?_ _ | refine Below.setCell ?_ ?_ _ | refine below_i ?_)) | go_size))⟩
                case measure => simp only [intOf]; omega
              · rw [if_neg (by rintro ⟨_, h5⟩; omega)] at hx
                have HX := Lib.hid hx
                clear hx hz hO' hpq
                generalize hv : f i j = v at *
                generalize hv2 : f p q = v2 at *
                have HV := Lib.hid hv
                have HV2 := Lib.hid hv2
                clear hv hv2
                go_wp2_with fail
                (refine (spec_l12Cell_tb R C i j A n cap f v HV.out _ (B := B) (by (with_reducible (repeat (first | exact ho | refine OR.drew ?_ | refine OR.drewN ?_ _ | refine OR.alloc ?_ _ | refine OR.b_ ?_ | refine OR.l_ ?_)))) (by omega) (by omega) (by omega) (by omega)).mono ?_; rintro e w1 ⟨rfl, hb1⟩; (have hO_1 : BM w1 w.heap.size R C A n cap := (by (with_reducible (repeat (first | exact hO | refine BX.n_ | refine BX.b_ ?_ | apply BX.drew | apply BX.drewN | refine BX.put ?_ | refine BX.put2 ?_ | refine BX.f_ ?_ | apply BX.alloc | refine B3.n_ | exact B3.of hO | refine B3.b_ ?_ | apply B3.drew | apply B3.drewN | refine B3.f_ ?_ | apply B3.alloc))))); (have ho_1 : OR w1 B (.slice A n cap) (tb R C f) := (by (with_reducible (repeat (first | exact ho | refine OR.drew ?_ | refine OR.drewN ?_ _ | refine OR.alloc ?_ _ | refine OR.b_ ?_ | refine OR.l_ ?_))))); (have hbw_1 : Below w.heap.size w w1 := (by (repeat (first | (with_reducible (first | exact Below.refl _ _ | assumption | refine below_drewN ?_ _ | refine Below.drew ?_ | refine Below.alloc ?_ ?_ _ | refine Below.setCell ?_ ?_ _ | refine below_i ?_)) | go_size)))); (have hsz_1 := hbw_1.size); clear hO ho hbw hb1; clear oa ob oc of ol; (have hO := hO_1); (have ho := ho_1); (have hbw := hbw_1); clear hO_1 ho_1 hbw_1; obtain ⟨oa, ob, oc, of, ol⟩ := hO.mx)
                go_wp2_with (go_at_call 182; refine (spec_l1Abs _ _ (by omega) (by omega)).mono ?_; rintro e w' ⟨rfl, rfl⟩)
                (refine (spec_l12Cell_tb R C p q A n cap f v2 HV2.out _ (B := B) (by (with_reducible (repeat (first | exact ho | refine OR.drew ?_ | refine OR.drewN ?_ _ | refine OR.alloc ?_ _ | refine OR.b_ ?_ | refine OR.l_ ?_)))) (by omega) (by omega) (by omega) (by omega)).mono ?_; rintro e w1 ⟨rfl, hb1⟩; (have hO_1 : BM w1 w.heap.size R C A n cap := (by (with_reducible (repeat (first | exact hO | refine BX.n_ | refine BX.b_ ?_ | apply BX.drew | apply BX.drewN | refine BX.put ?_ | refine BX.put2 ?_ | refine BX.f_ ?_ | apply BX.alloc | refine B3.n_ | exact B3.of hO | refine B3.b_ ?_ | apply B3.drew | apply B3.drewN | refine B3.f_ ?_ | apply B3.alloc))))); (have ho_1 : OR w1 B (.slice A n cap) (tb R C f) := (by (with_reducible (repeat (first | exact ho | refine OR.drew ?_ | refine OR.drewN ?_ _ | refine OR.alloc ?_ _ | refine OR.b_ ?_ | refine OR.l_ ?_))))); (have hbw_1 : Below w.heap.size w w1 := (by (repeat (first | (with_reducible (first | exact Below.refl _ _ | assumption | refine below_drewN ?_ _ | refine Below.drew ?_ | refine Below.alloc ?_ ?_ _ | refine Below.setCell ?_ ?_ _ | refine below_i ?_)) | go_size)))); (have hsz_1 := hbw_1.size); clear hO ho hbw hb1; clear oa ob oc of ol; (have hO := hO_1); (have ho := ho_1); (have hbw := hbw_1); clear hO_1 ho_1 hbw_1; obtain ⟨oa, ob, oc, of, ol⟩ := hO.mx)
                go_wp2_with (go_at_call 182; refine (spec_l1Abs _ _ (by omega) (by omega)).mono ?_; rintro e w' ⟨rfl, rfl⟩)
                go_wp2_with fail
                go_roundw
                case rel => exact ⟨j + 1, _, by go_num, HX.out, rfl, rfl, by omega, by omega, by (with_reducible (repeat (first | exact hO | refine BX.n_ | refine BX.b_ ?_ | apply BX.drew | apply BX.drewN | refine BX.put ?_ | refine BX.put2 ?_ | refine BX.f_ ?_ | apply BX.alloc | refine B3.n_ | exact B3.of hO | refine B3.b_ ?_ | apply B3.drew | apply B3.drewN | refine B3.f_ ?_ | apply B3.alloc))), by (with_reducible (repeat (first | exact ho | refine OR.drew ?_ | refine OR.drewN ?_ _ | refine OR.alloc ?_ _ | refine OR.b_ ?_ | refine OR.l_ ?_))), by (repeat (first | (with_reducible (first | exact Below.refl _ _ | assumption | refine below_drewN ?_ _ | refine Below.drew ?_ | refine Below.alloc ?_ ?_ _ | refine Below.setCell ?_ ?_ _ | refine below_i ?_)) | go_size))⟩
                case measure => simp only [intOf]; omega
        · obtain rfl : j = C := by omega
          have HX : Hid (lsO f t (j - t) (i + 1 - t) = o2) := Lib.hid (by rw [lsO_next hti]; exact hO')
          clear hO'
          go_wp2_with fail
          go_roundw
          case rel => exact ⟨i + 1, o2, by go_num, HX.out, rfl, rfl, by omega, by omega, hO, ho, hbw⟩
          case measure => simp only [intOf]; omega
    · obtain rfl : i = R := by omega
      have HX : Hid (ls2 i C f t = o) := Lib.hid hO'
      have hb : -1 ≤ o.1 ∧ o.1 ≤ 100 := by
        rcases ls2_cases i C f t with ⟨e, _⟩ | ⟨p, q, e, h3, _⟩
        · rw [← HX.out, e]; decide
        · rw [← HX.out, e]; dsimp only; omega
      clear hO'
      go_wp2_with fail
      go_ret2
      rw [HX.out]
      exact ⟨rfl, by (repeat (first | (with_reducible (first | exact Below.refl _ _ | assumption | refine below_drewN ?_ _ | refine Below.drew ?_ | refine Below.alloc ?_ ?_ _ | refine Below.setCell ?_ ?_ _ | refine below_i ?_)) | go_size))⟩
end Go.Proofs.Ytmcbhpaajjlmmaa

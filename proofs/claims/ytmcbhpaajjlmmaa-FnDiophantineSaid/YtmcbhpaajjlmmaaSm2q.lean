/-
  DERIVED. leastFrom of a work.
-/
import Derived.Test.YtmcbhpaajjlmmaaSm0q
import Derived.Test.YtmcbhpaajjlmmaaWork2q
namespace Go.Proofs.Ytmcbhpaajjlmmaa
open Go.RowKit
set_option linter.unusedVariables false
set_option linter.unusedSimpArgs false
theorem lsI_next {f : Fn2} {i t j : Nat} {st : Int × Int} (h : t ≤ j) : lsI f i t st (j + 1 - t) = if f i j ≠ 0 ∧ ((lsI f i t st (j - t)).1 < 0 ∨ (f i j).natAbs < (f (lsI f i t st (j - t)).1.toNat (lsI f i t st (j - t)).2.toNat).natAbs) then (((i : Nat) : Int), ((j : Nat) : Int)) else lsI f i t st (j - t) := by
  rw [show j + 1 - t = (j - t) + 1 by omega, lsI_succ, show t + (j - t) = j by omega]
theorem lsO_next {f : Fn2} {i t D : Nat} (h : t ≤ i) : lsO f t D (i + 1 - t) = lsI f i t (lsO f t D (i - t)) D := by
  rw [show i + 1 - t = (i - t) + 1 by omega]
  show lsI f (t + (i - t)) t _ D = _
  rw [show t + (i - t) = i by omega]
theorem lsI_form {f : Fn2} {R C t i j : Nat} (hti : t ≤ i) (hiR : i < R) (htj : t ≤ j) (hj : j ≤ C) : lsI f i t (lsO f t (C - t) (i - t)) (j - t) = (-1, -1) ∨
    ∃ p q : Nat, lsI f i t (lsO f t (C - t) (i - t)) (j - t) = ((p : Int), (q : Int)) ∧ p < R ∧ q < C ∧ f p q ≠ 0 := by
  have h := lsI_P (f := f) (t := t) (D := C - t) (i := i) hti ((lsO_P f t (C - t) (i - t)).as fun a b => by omega) (j - t) (by omega)
  rcases h with ⟨h1, _⟩ | ⟨p, q, h1, h2, h3, _⟩
  · exact .inl h1
  · exact .inr ⟨p, q, h1, by omega, by omega, h3⟩
/-- Two numbers and a flag. -/
def P2V (o : Int × Int) (w : World) (e : Ending) (w' : World) : Prop := e = .returned (.tuple #[.int .i64 o.1, .int .i64 o.2, .bool (decide (0 ≤ o.1))]) ∧ Below w.heap.size w w'
set_option maxRecDepth 100000 in
set_option maxHeartbeats 4000000 in
theorem impl_leastFrom (B b R C t : Nat) (f g h : Fn2) (bd : Bool) (w : World) (hK : WK w B b R C f g h bd) (ht : t ≤ R) (htC : t ≤ C) (hf : OKF R C f) (hC : C ≤ 24) (hR : R ≤ 24) :
    Calls Try.prog 160 #[.pointer (some ⟨b, 0, none⟩), .int .i64 t] w (P2V (ls2 R C f t) w) := by
  obtain ⟨A, n, cap, A2, n2, cap2, A3, n3, cap3, hW0⟩ := hK
  have HF := Lib.hid hf
  clear hf
  go_enter Try.func160, Try.ntmps160
  go_wp2_with fail
  go_loopw [7, 8, 9] (fun u v x wr => ∃ (i : Nat) (o : Int × Int), x = .int .i64 i ∧ lsO f t (C - t) (i - t) = o ∧ u = .int .i64 o.1 ∧ v = .int .i64 o.2 ∧ t ≤ i ∧ i ≤ R ∧ WB wr B b R C f g h bd A n cap A2 n2 cap2 A3 n3 cap3 ∧ Below w.heap.size w wr) (fun _ _ x _ => R - (intOf x).toNat)
  case atStart => exact ⟨t, (-1, -1), rfl, by rw [Nat.sub_self]; rfl, rfl, rfl, Nat.le_refl _, ht, hW0, by (repeat (first | (with_reducible (first | exact Below.refl _ _ | assumption | refine below_drewN ?_ _ | refine Below.drew ?_ | refine Below.alloc ?_ ?_ _ | refine Below.setCell ?_ ?_ _ | refine below_i ?_)) | go_size))⟩
  case round =>
    clear hW0
    obtain ⟨i, o, rfl, hO, rfl, rfl, hti, hiR, hW, hbw⟩ := hrel
    obtain ⟨c0, c1, c2, c3, c4, c5, c6, c7, c8, c9, cf, cl⟩ := hW.cells
    have hsz := hbw.size
    by_cases hlt : i < R
    · have HO := Lib.hid hO
      have HO0 : Hid (lsI f i t (lsO f t (C - t) (i - t)) (t - t) = o) := Lib.hid (by rw [Nat.sub_self]; exact hO)
      clear hO
      go_wp2_with fail
      obtain ⟨wo2, rfl⟩ : ∃ wo : World, wo = wr := ⟨_, rfl⟩
      go_loopw [7, 8, 10] (fun u v x wr => ∃ (j : Nat) (o : Int × Int), x = .int .i64 j ∧ lsI f i t (lsO f t (C - t) (i - t)) (j - t) = o ∧ u = .int .i64 o.1 ∧ v = .int .i64 o.2 ∧ t ≤ j ∧ j ≤ C ∧ WB wr B b R C f g h bd A n cap A2 n2 cap2 A3 n3 cap3 ∧ Below w.heap.size w wr) (fun _ _ x _ => C - (intOf x).toNat)
      case atStart => exact ⟨t, o, rfl, HO0.out, rfl, rfl, Nat.le_refl _, htC, hW, hbw⟩
      case round =>
        clear c0 c1 c2 c3 c4 c5 c6 c7 c8 c9 cf cl
        clear hW hbw HO0 HO hsz
        obtain ⟨j, o2, rfl, hO, rfl, rfl, htj, hjC, hW, hbw⟩ := hrel
        obtain ⟨c0, c1, c2, c3, c4, c5, c6, c7, c8, c9, cf, cl⟩ := hW.cells
        have hsz := hbw.size
        by_cases hjl : j < C
        · have hn := HF.out i j hlt hjl
          have hx := lsI_next (f := f) (i := i) (st := lsO f t (C - t) (i - t)) htj
          have hcs := lsI_form (f := f) (C := C) hti hlt htj (Nat.le_of_lt hjl)
          rw [hO] at hx hcs
          by_cases hz : f i j = 0
          · rw [if_neg (by simp [hz])] at hx
            have HX := Lib.hid hx
            have hnz : ((((f i j).natAbs : Nat) : Int) != 0) = false := by simp [hz]
            obtain ⟨y1, y2⟩ := hn
            clear hx hz hcs hO
            generalize hv : f i j = v at *
            have HV := Lib.hid hv
            clear hv
            go_wp2_with fail
            (refine (impl_at_tb R C i j A n cap f (v) HV.out _ (B := B) (by have hm := hW.m; (with_reducible (repeat (first | exact hm | refine OR.drew ?_ | refine OR.drewN ?_ _ | refine OR.alloc ?_ _ | refine OR.b_ ?_ | refine OR.l_ ?_)))) (by omega) (by omega) (by omega) (by omega)).mono ?_; rintro e w1 ⟨rfl, hb1⟩; (have hW_1 : WB w1 B b R C f g h bd A n cap A2 n2 cap2 A3 n3 cap3 := by (with_reducible (repeat (first | exact hW | refine WB.b_ ?_ | refine WB.drew ?_ | refine WB.drewN ?_ _ | refine WB.alloc ?_ _)))); (have hbw_1 : Below w.heap.size w w1 := by (repeat (first | (with_reducible (first | exact Below.refl _ _ | assumption | refine below_drewN ?_ _ | refine Below.drew ?_ | refine Below.alloc ?_ ?_ _ | refine Below.setCell ?_ ?_ _ | refine below_i ?_)) | go_size))); (have hsz_1 := hbw_1.size); clear hW hbw hb1; clear c0 c1 c2 c3 c4 c5 c6 c7 c8 c9 cf cl; have hW := hW_1; have hbw := hbw_1; clear hW_1 hbw_1; obtain ⟨c0, c1, c2, c3, c4, c5, c6, c7, c8, c9, cf, cl⟩ := hW.cells)
            go_wp2_with (go_at_call 171; refine (impl_absInt _ _ (by omega) (by omega)).mono ?_; rintro e w' ⟨rfl, rfl⟩)
            go_roundw
            case rel => exact ⟨j + 1, _, by go_num, HX.out, rfl, rfl, by omega, by omega, hW, hbw⟩
            case measure => simp only [intOf]; omega
          · rcases hcs with rfl | ⟨p, q, rfl, hpR, hqC, hpq⟩
            · rw [if_pos ⟨hz, .inl (by decide)⟩] at hx
              have HX := Lib.hid hx
              obtain ⟨y1, y2⟩ := hn
              have hnz : ((((f i j).natAbs : Nat) : Int) != 0) = true := by simp; omega
              clear hx hz hO
              generalize hv : f i j = v at *
              have HV := Lib.hid hv
              clear hv
              go_wp2_with fail
              (refine (impl_at_tb R C i j A n cap f (v) HV.out _ (B := B) (by have hm := hW.m; (with_reducible (repeat (first | exact hm | refine OR.drew ?_ | refine OR.drewN ?_ _ | refine OR.alloc ?_ _ | refine OR.b_ ?_ | refine OR.l_ ?_)))) (by omega) (by omega) (by omega) (by omega)).mono ?_; rintro e w1 ⟨rfl, hb1⟩; (have hW_1 : WB w1 B b R C f g h bd A n cap A2 n2 cap2 A3 n3 cap3 := by (with_reducible (repeat (first | exact hW | refine WB.b_ ?_ | refine WB.drew ?_ | refine WB.drewN ?_ _ | refine WB.alloc ?_ _)))); (have hbw_1 : Below w.heap.size w w1 := by (repeat (first | (with_reducible (first | exact Below.refl _ _ | assumption | refine below_drewN ?_ _ | refine Below.drew ?_ | refine Below.alloc ?_ ?_ _ | refine Below.setCell ?_ ?_ _ | refine below_i ?_)) | go_size))); (have hsz_1 := hbw_1.size); clear hW hbw hb1; clear c0 c1 c2 c3 c4 c5 c6 c7 c8 c9 cf cl; have hW := hW_1; have hbw := hbw_1; clear hW_1 hbw_1; obtain ⟨c0, c1, c2, c3, c4, c5, c6, c7, c8, c9, cf, cl⟩ := hW.cells)
              go_wp2_with (go_at_call 171; refine (impl_absInt _ _ (by omega) (by omega)).mono ?_; rintro e w' ⟨rfl, rfl⟩)
              go_roundw
              case rel => exact ⟨j + 1, _, by go_num, HX.out, rfl, rfl, by omega, by omega, hW, hbw⟩
              case measure => simp only [intOf]; omega
            · simp only [Int.toNat_natCast] at hx
              have hnp := HF.out p q hpR hqC
              obtain ⟨y1, y2⟩ := hn
              obtain ⟨y3, y4⟩ := hnp
              have hnz : ((((f i j).natAbs : Nat) : Int) != 0) = true := by simp; omega
              by_cases hc : (f i j).natAbs < (f p q).natAbs
              · rw [if_pos ⟨hz, .inr hc⟩] at hx
                have HX := Lib.hid hx
                clear hx hz hO hpq
                generalize hv : f i j = v at *
                generalize hv2 : f p q = v2 at *
                have HV := Lib.hid hv
                have HV2 := Lib.hid hv2
                clear hv hv2
                go_wp2_with fail
                (refine (impl_at_tb R C i j A n cap f (v) HV.out _ (B := B) (by have hm := hW.m; (with_reducible (repeat (first | exact hm | refine OR.drew ?_ | refine OR.drewN ?_ _ | refine OR.alloc ?_ _ | refine OR.b_ ?_ | refine OR.l_ ?_)))) (by omega) (by omega) (by omega) (by omega)).mono ?_; rintro e w1 ⟨rfl, hb1⟩; (have hW_1 : WB w1 B b R C f g h bd A n cap A2 n2 cap2 A3 n3 cap3 := by (with_reducible (repeat (first | exact hW | refine WB.b_ ?_ | refine WB.drew ?_ | refine WB.drewN ?_ _ | refine WB.alloc ?_ _)))); (have hbw_1 : Below w.heap.size w w1 := by (repeat (first | (with_reducible (first | exact Below.refl _ _ | assumption | refine below_drewN ?_ _ | refine Below.drew ?_ | refine Below.alloc ?_ ?_ _ | refine Below.setCell ?_ ?_ _ | refine below_i ?_)) | go_size))); (have hsz_1 := hbw_1.size); clear hW hbw hb1; clear c0 c1 c2 c3 c4 c5 c6 c7 c8 c9 cf cl; have hW := hW_1; have hbw := hbw_1; clear hW_1 hbw_1; obtain ⟨c0, c1, c2, c3, c4, c5, c6, c7, c8, c9, cf, cl⟩ := hW.cells)
                go_wp2_with (go_at_call 171; refine (impl_absInt _ _ (by omega) (by omega)).mono ?_; rintro e w' ⟨rfl, rfl⟩)
                (refine (impl_at_tb R C p q A n cap f (v2) HV2.out _ (B := B) (by have hm := hW.m; (with_reducible (repeat (first | exact hm | refine OR.drew ?_ | refine OR.drewN ?_ _ | refine OR.alloc ?_ _ | refine OR.b_ ?_ | refine OR.l_ ?_)))) (by omega) (by omega) (by omega) (by omega)).mono ?_; rintro e w1 ⟨rfl, hb1⟩; (have hW_1 : WB w1 B b R C f g h bd A n cap A2 n2 cap2 A3 n3 cap3 := by (with_reducible (repeat (first | exact hW | refine WB.b_ ?_ | refine WB.drew ?_ | refine WB.drewN ?_ _ | refine WB.alloc ?_ _)))); (have hbw_1 : Below w.heap.size w w1 := by (repeat (first | (with_reducible (first | exact Below.refl _ _ | assumption | refine below_drewN ?_ _ | refine Below.drew ?_ | refine Below.alloc ?_ ?_ _ | refine Below.setCell ?_ ?_ _ | refine below_i ?_)) | go_size))); (have hsz_1 := hbw_1.size); clear hW hbw hb1; clear c0 c1 c2 c3 c4 c5 c6 c7 c8 c9 cf cl; have hW := hW_1; have hbw := hbw_1; clear hW_1 hbw_1; obtain ⟨c0, c1, c2, c3, c4, c5, c6, c7, c8, c9, cf, cl⟩ := hW.cells)
                go_wp2_with (go_at_call 171; refine (impl_absInt _ _ (by omega) (by omega)).mono ?_; rintro e w' ⟨rfl, rfl⟩)
                go_roundw
                case rel => exact ⟨j + 1, _, by go_num, HX.out, rfl, rfl, by omega, by omega, hW, hbw⟩
                case measure => simp only [intOf]; omega
              · rw [if_neg (by rintro ⟨_, h5⟩; omega)] at hx
                have HX := Lib.hid hx
                clear hx hz hO hpq
                generalize hv : f i j = v at *
                generalize hv2 : f p q = v2 at *
                have HV := Lib.hid hv
                have HV2 := Lib.hid hv2
                clear hv hv2
                go_wp2_with fail
                (refine (impl_at_tb R C i j A n cap f (v) HV.out _ (B := B) (by have hm := hW.m; (with_reducible (repeat (first | exact hm | refine OR.drew ?_ | refine OR.drewN ?_ _ | refine OR.alloc ?_ _ | refine OR.b_ ?_ | refine OR.l_ ?_)))) (by omega) (by omega) (by omega) (by omega)).mono ?_; rintro e w1 ⟨rfl, hb1⟩; (have hW_1 : WB w1 B b R C f g h bd A n cap A2 n2 cap2 A3 n3 cap3 := by (with_reducible (repeat (first | exact hW | refine WB.b_ ?_ | refine WB.drew ?_ | refine WB.drewN ?_ _ | refine WB.alloc ?_ _)))); (have hbw_1 : Below w.heap.size w w1 := by (repeat (first | (with_reducible (first | exact Below.refl _ _ | assumption | refine below_drewN ?_ _ | refine Below.drew ?_ | refine Below.alloc ?_ ?_ _ | refine Below.setCell ?_ ?_ _ | refine below_i ?_)) | go_size))); (have hsz_1 := hbw_1.size); clear hW hbw hb1; clear c0 c1 c2 c3 c4 c5 c6 c7 c8 c9 cf cl; have hW := hW_1; have hbw := hbw_1; clear hW_1 hbw_1; obtain ⟨c0, c1, c2, c3, c4, c5, c6, c7, c8, c9, cf, cl⟩ := hW.cells)
                go_wp2_with (go_at_call 171; refine (impl_absInt _ _ (by omega) (by omega)).mono ?_; rintro e w' ⟨rfl, rfl⟩)
                (refine (impl_at_tb R C p q A n cap f (v2) HV2.out _ (B := B) (by have hm := hW.m; (with_reducible (repeat (first | exact hm | refine OR.drew ?_ | refine OR.drewN ?_ _ | refine OR.alloc ?_ _ | refine OR.b_ ?_ | refine OR.l_ ?_)))) (by omega) (by omega) (by omega) (by omega)).mono ?_; rintro e w1 ⟨rfl, hb1⟩; (have hW_1 : WB w1 B b R C f g h bd A n cap A2 n2 cap2 A3 n3 cap3 := by (with_reducible (repeat (first | exact hW | refine WB.b_ ?_ | refine WB.drew ?_ | refine WB.drewN ?_ _ | refine WB.alloc ?_ _)))); (have hbw_1 : Below w.heap.size w w1 := by (repeat (first | (with_reducible (first | exact Below.refl _ _ | assumption | refine below_drewN ?_ _ | refine Below.drew ?_ | refine Below.alloc ?_ ?_ _ | refine Below.setCell ?_ ?_ _ | refine below_i ?_)) | go_size))); (have hsz_1 := hbw_1.size); clear hW hbw hb1; clear c0 c1 c2 c3 c4 c5 c6 c7 c8 c9 cf cl; have hW := hW_1; have hbw := hbw_1; clear hW_1 hbw_1; obtain ⟨c0, c1, c2, c3, c4, c5, c6, c7, c8, c9, cf, cl⟩ := hW.cells)
                go_wp2_with (go_at_call 171; refine (impl_absInt _ _ (by omega) (by omega)).mono ?_; rintro e w' ⟨rfl, rfl⟩)
                go_roundw
                case rel => exact ⟨j + 1, _, by go_num, HX.out, rfl, rfl, by omega, by omega, hW, hbw⟩
                case measure => simp only [intOf]; omega
        · obtain rfl : j = C := by omega
          have HX : Hid (lsO f t (j - t) (i + 1 - t) = o2) := Lib.hid (by rw [lsO_next hti]; exact hO)
          clear hO
          go_wp2_with fail
          go_roundw
          case rel => exact ⟨i + 1, o2, by go_num, HX.out, rfl, rfl, by omega, by omega, hW, hbw⟩
          case measure => simp only [intOf]; omega
    · obtain rfl : i = R := by omega
      have HX : Hid (ls2 i C f t = o) := Lib.hid hO
      have hb : -1 ≤ o.1 ∧ o.1 ≤ 100 := by
        rcases ls2_cases i C f t with ⟨e, _⟩ | ⟨p, q, e, h3, _⟩
        · rw [← HX.out, e]; decide
        · rw [← HX.out, e]; dsimp only; omega
      clear hO
      go_wp2_with fail
      go_ret3
      rw [HX.out]
      exact ⟨rfl, by (repeat (first | (with_reducible (first | exact Below.refl _ _ | assumption | refine below_drewN ?_ _ | refine Below.drew ?_ | refine Below.alloc ?_ ?_ _ | refine Below.setCell ?_ ?_ _ | refine below_i ?_)) | go_size))⟩
end Go.Proofs.Ytmcbhpaajjlmmaa

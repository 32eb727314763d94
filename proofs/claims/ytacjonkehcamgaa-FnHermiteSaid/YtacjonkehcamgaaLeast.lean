/-
  DERIVED. leastIn and others of a work.
-/
import Derived.Test.YtacjonkehcamgaaWork2
namespace Go.Proofs.Ytacjonkehcamgaa
open Go.RowKit
set_option linter.unusedVariables false
set_option linter.unusedSimpArgs false
theorem lst_succ {f : Fn2} {j t i : Nat} (h : t ≤ i) : lstK f j t (i + 1 - t) = if f i j ≠ 0 ∧ (lstK f j t (i - t) < 0 ∨ (f i j).natAbs < (f (lstK f j t (i - t)).toNat j).natAbs) then (i : Int) else lstK f j t (i - t) := by
  rw [show i + 1 - t = (i - t) + 1 by omega, lstK_succ, show t + (i - t) = i by omega]
set_option maxRecDepth 100000 in
set_option maxHeartbeats 4000000 in
theorem impl_leastIn (B b R C t j : Nat) (f g h : Fn2) (bd : Bool) (w : World) (hK : WK w B b R C f g h bd) (ht : t ≤ R) (hj : j < C) (hf : OKF R C f) (hC : C ≤ 24) (hR : R ≤ 24) :
    Calls Try.prog 145 #[.pointer (some ⟨b, 0, none⟩), .int .i64 t, .int .i64 j] w (BV (.int .i64 (lst R f j t)) w) := by
  obtain ⟨A, n, cap, A2, n2, cap2, A3, n3, cap3, hW0⟩ := hK
  have HF := Lib.hid hf
  clear hf
  go_enter Try.func145, Try.ntmps145
  go_wp2_with fail
  go_loopw [7, 8, 9] (fun u v _ wr => ∃ (i : Nat), v = .int .i64 i ∧ u = .int .i64 (lstK f j t (i - t)) ∧ t ≤ i ∧ i ≤ R ∧ WB wr B b R C f g h bd A n cap A2 n2 cap2 A3 n3 cap3 ∧ Below w.heap.size w wr) (fun _ v _ _ => R - (intOf v).toNat)
  case atStart => exact ⟨t, rfl, by rw [Nat.sub_self]; rfl, Nat.le_refl _, ht, hW0, by (repeat (first | (with_reducible exact Below.refl _ _) | (with_reducible assumption) | (with_reducible refine below_drewN ?_ _) | (with_reducible refine Below.drew ?_) | (with_reducible refine Below.alloc ?_ ?_ _) | (with_reducible refine Below.setCell ?_ ?_ _) | (with_reducible refine below_into ?_ (by assumption) (by first | omega | (simp; done) | (simp; omega))) | go_size))⟩
  case round =>
    clear hW0
    obtain ⟨i, rfl, rfl, hti, hiR, hW, hbw⟩ := hrel
    obtain ⟨c0, c1, c2, c3, c4, c5, c6, c7, c8, c9, cf, cl⟩ := hW.cells
    have hsz := hbw.size
    by_cases hlt : i < R
    · have hn := HF.out i j hlt hj
      have HS := Lib.hid (lst_succ (f := f) (j := j) hti)
      have hcs := lstK_cases f j t (i - t)
      by_cases hz : f i j = 0
      · have hx := HS.out
        rw [if_neg (by simp [hz])] at hx
        have HX := Lib.hid hx
        have hnz : ((((f i j).natAbs : Nat) : Int) != 0) = false := by simp [hz]
        obtain ⟨y1, y2⟩ := hn
        have hb : -1 ≤ lstK f j t (i - t) ∧ lstK f j t (i - t) ≤ 100 := by
          rcases hcs with ⟨e, _⟩ | ⟨p, e, _, h3, _⟩
          · omega
          · omega
        obtain ⟨b1, b2⟩ := hb
        clear hx hz hcs HS
        generalize lstK f j t (i - t) = q at *
        generalize hv : f i j = v at *
        have HV := Lib.hid hv
        clear hv
        go_wp2_with fail
        (refine (impl_at_tb R C i j A n cap f (v) HV.out _ (B := B) (by have hm := hW.m; (repeat (first | (with_reducible exact hm) | (with_reducible refine OR.drew ?_) | (with_reducible refine OR.drewN ?_ _) | (with_reducible refine OR.alloc ?_ _) | (with_reducible refine OR.below ?_ (by assumption) (by first | omega | (simp; done) | (simp; omega))) | (with_reducible refine OR.low ?_ (by first | omega | (simp only []; omega) | (simp; omega)) _)))) (by omega) (by omega) (by omega) (by omega)).mono ?_; rintro e w1 ⟨rfl, hb1⟩; (have hW_1 : WB w1 B b R C f g h bd A n cap A2 n2 cap2 A3 n3 cap3 := by (repeat (first | (with_reducible exact hW) | (with_reducible refine WB.below ?_ (by assumption) (by first | omega | (simp; done) | (simp; omega))) | (with_reducible refine WB.drew ?_) | (with_reducible refine WB.drewN ?_ _) | (with_reducible refine WB.alloc ?_ _)))); (have hbw_1 : Below w.heap.size w w1 := by (repeat (first | (with_reducible exact Below.refl _ _) | (with_reducible assumption) | (with_reducible refine below_drewN ?_ _) | (with_reducible refine Below.drew ?_) | (with_reducible refine Below.alloc ?_ ?_ _) | (with_reducible refine Below.setCell ?_ ?_ _) | (with_reducible refine below_into ?_ (by assumption) (by first | omega | (simp; done) | (simp; omega))) | go_size))); (have hsz_1 := hbw_1.size); clear hW hbw hb1; clear c0 c1 c2 c3 c4 c5 c6 c7 c8 c9 cf cl; have hW := hW_1; have hbw := hbw_1; clear hW_1 hbw_1; obtain ⟨c0, c1, c2, c3, c4, c5, c6, c7, c8, c9, cf, cl⟩ := hW.cells)
        go_wp2_with (go_at_call 169; refine (impl_absInt _ _ (by omega) (by omega)).mono ?_; rintro e w' ⟨rfl, rfl⟩)
        go_roundw
        case rel => exact ⟨i + 1, by go_num, by rw [HX.out], by omega, by omega, hW, hbw⟩
        case measure => simp only [intOf]; omega
      · rcases hcs with ⟨e, _⟩ | ⟨p, e, h2, h3, h4, _⟩
        · have hx := HS.out
          rw [if_pos ⟨hz, .inl (by omega)⟩] at hx
          have HX := Lib.hid hx
          rw [e]
          obtain ⟨y1, y2⟩ := hn
          have hnz : ((((f i j).natAbs : Nat) : Int) != 0) = true := by simp; omega
          clear hx hz HS e
          generalize hv : f i j = v at *
          have HV := Lib.hid hv
          clear hv
          go_wp2_with fail
          (refine (impl_at_tb R C i j A n cap f (v) HV.out _ (B := B) (by have hm := hW.m; (repeat (first | (with_reducible exact hm) | (with_reducible refine OR.drew ?_) | (with_reducible refine OR.drewN ?_ _) | (with_reducible refine OR.alloc ?_ _) | (with_reducible refine OR.below ?_ (by assumption) (by first | omega | (simp; done) | (simp; omega))) | (with_reducible refine OR.low ?_ (by first | omega | (simp only []; omega) | (simp; omega)) _)))) (by omega) (by omega) (by omega) (by omega)).mono ?_; rintro e w1 ⟨rfl, hb1⟩; (have hW_1 : WB w1 B b R C f g h bd A n cap A2 n2 cap2 A3 n3 cap3 := by (repeat (first | (with_reducible exact hW) | (with_reducible refine WB.below ?_ (by assumption) (by first | omega | (simp; done) | (simp; omega))) | (with_reducible refine WB.drew ?_) | (with_reducible refine WB.drewN ?_ _) | (with_reducible refine WB.alloc ?_ _)))); (have hbw_1 : Below w.heap.size w w1 := by (repeat (first | (with_reducible exact Below.refl _ _) | (with_reducible assumption) | (with_reducible refine below_drewN ?_ _) | (with_reducible refine Below.drew ?_) | (with_reducible refine Below.alloc ?_ ?_ _) | (with_reducible refine Below.setCell ?_ ?_ _) | (with_reducible refine below_into ?_ (by assumption) (by first | omega | (simp; done) | (simp; omega))) | go_size))); (have hsz_1 := hbw_1.size); clear hW hbw hb1; clear c0 c1 c2 c3 c4 c5 c6 c7 c8 c9 cf cl; have hW := hW_1; have hbw := hbw_1; clear hW_1 hbw_1; obtain ⟨c0, c1, c2, c3, c4, c5, c6, c7, c8, c9, cf, cl⟩ := hW.cells)
          go_wp2_with (go_at_call 169; refine (impl_absInt _ _ (by omega) (by omega)).mono ?_; rintro e w' ⟨rfl, rfl⟩)
          go_roundw
          case rel => exact ⟨i + 1, by go_num, by rw [HX.out], by omega, by omega, hW, hbw⟩
          case measure => simp only [intOf]; omega
        · have e2 : (lstK f j t (i - t)).toNat = p := by omega
          have hx := HS.out
          rw [e2] at hx
          have hnp := HF.out p j (by omega) hj
          obtain ⟨y1, y2⟩ := hn
          obtain ⟨y3, y4⟩ := hnp
          have hnz : ((((f i j).natAbs : Nat) : Int) != 0) = true := by simp; omega
          rw [e] at hx ⊢
          have hpR : p < R := by omega
          by_cases hc : (f i j).natAbs < (f p j).natAbs
          · rw [if_pos ⟨hz, .inr hc⟩] at hx
            have HX := Lib.hid hx
            clear hx hz HS e h4 e2
            generalize hv : f i j = v at *
            generalize hv2 : f p j = v2 at *
            have HV := Lib.hid hv
            have HV2 := Lib.hid hv2
            clear hv hv2
            go_wp2_with fail
            (refine (impl_at_tb R C i j A n cap f (v) HV.out _ (B := B) (by have hm := hW.m; (repeat (first | (with_reducible exact hm) | (with_reducible refine OR.drew ?_) | (with_reducible refine OR.drewN ?_ _) | (with_reducible refine OR.alloc ?_ _) | (with_reducible refine OR.below ?_ (by assumption) (by first | omega | (simp; done) | (simp; omega))) | (with_reducible refine OR.low ?_ (by first | omega | (simp only []; omega) | (simp; omega)) _)))) (by omega) (by omega) (by omega) (by omega)).mono ?_; rintro e w1 ⟨rfl, hb1⟩; (have hW_1 : WB w1 B b R C f g h bd A n cap A2 n2 cap2 A3 n3 cap3 := by (repeat (first | (with_reducible exact hW) | (with_reducible refine WB.below ?_ (by assumption) (by first | omega | (simp; done) | (simp; omega))) | (with_reducible refine WB.drew ?_) | (with_reducible refine WB.drewN ?_ _) | (with_reducible refine WB.alloc ?_ _)))); (have hbw_1 : Below w.heap.size w w1 := by (repeat (first | (with_reducible exact Below.refl _ _) | (with_reducible assumption) | (with_reducible refine below_drewN ?_ _) | (with_reducible refine Below.drew ?_) | (with_reducible refine Below.alloc ?_ ?_ _) | (with_reducible refine Below.setCell ?_ ?_ _) | (with_reducible refine below_into ?_ (by assumption) (by first | omega | (simp; done) | (simp; omega))) | go_size))); (have hsz_1 := hbw_1.size); clear hW hbw hb1; clear c0 c1 c2 c3 c4 c5 c6 c7 c8 c9 cf cl; have hW := hW_1; have hbw := hbw_1; clear hW_1 hbw_1; obtain ⟨c0, c1, c2, c3, c4, c5, c6, c7, c8, c9, cf, cl⟩ := hW.cells)
            go_wp2_with (go_at_call 169; refine (impl_absInt _ _ (by omega) (by omega)).mono ?_; rintro e w' ⟨rfl, rfl⟩)
            (refine (impl_at_tb R C p j A n cap f (v2) HV2.out _ (B := B) (by have hm := hW.m; (repeat (first | (with_reducible exact hm) | (with_reducible refine OR.drew ?_) | (with_reducible refine OR.drewN ?_ _) | (with_reducible refine OR.alloc ?_ _) | (with_reducible refine OR.below ?_ (by assumption) (by first | omega | (simp; done) | (simp; omega))) | (with_reducible refine OR.low ?_ (by first | omega | (simp only []; omega) | (simp; omega)) _)))) (by omega) (by omega) (by omega) (by omega)).mono ?_; rintro e w1 ⟨rfl, hb1⟩; (have hW_1 : WB w1 B b R C f g h bd A n cap A2 n2 cap2 A3 n3 cap3 := by (repeat (first | (with_reducible exact hW) | (with_reducible refine WB.below ?_ (by assumption) (by first | omega | (simp; done) | (simp; omega))) | (with_reducible refine WB.drew ?_) | (with_reducible refine WB.drewN ?_ _) | (with_reducible refine WB.alloc ?_ _)))); (have hbw_1 : Below w.heap.size w w1 := by (repeat (first | (with_reducible exact Below.refl _ _) | (with_reducible assumption) | (with_reducible refine below_drewN ?_ _) | (with_reducible refine Below.drew ?_) | (with_reducible refine Below.alloc ?_ ?_ _) | (with_reducible refine Below.setCell ?_ ?_ _) | (with_reducible refine below_into ?_ (by assumption) (by first | omega | (simp; done) | (simp; omega))) | go_size))); (have hsz_1 := hbw_1.size); clear hW hbw hb1; clear c0 c1 c2 c3 c4 c5 c6 c7 c8 c9 cf cl; have hW := hW_1; have hbw := hbw_1; clear hW_1 hbw_1; obtain ⟨c0, c1, c2, c3, c4, c5, c6, c7, c8, c9, cf, cl⟩ := hW.cells)
            go_wp2_with (go_at_call 169; refine (impl_absInt _ _ (by omega) (by omega)).mono ?_; rintro e w' ⟨rfl, rfl⟩)
            go_roundw
            case rel => exact ⟨i + 1, by go_num, by rw [HX.out], by omega, by omega, hW, hbw⟩
            case measure => simp only [intOf]; omega
          · rw [if_neg (by rintro ⟨_, h5⟩; omega)] at hx
            have HX := Lib.hid hx
            clear hx hz HS e h4 e2
            generalize hv : f i j = v at *
            generalize hv2 : f p j = v2 at *
            have HV := Lib.hid hv
            have HV2 := Lib.hid hv2
            clear hv hv2
            go_wp2_with fail
            (refine (impl_at_tb R C i j A n cap f (v) HV.out _ (B := B) (by have hm := hW.m; (repeat (first | (with_reducible exact hm) | (with_reducible refine OR.drew ?_) | (with_reducible refine OR.drewN ?_ _) | (with_reducible refine OR.alloc ?_ _) | (with_reducible refine OR.below ?_ (by assumption) (by first | omega | (simp; done) | (simp; omega))) | (with_reducible refine OR.low ?_ (by first | omega | (simp only []; omega) | (simp; omega)) _)))) (by omega) (by omega) (by omega) (by omega)).mono ?_; rintro e w1 ⟨rfl, hb1⟩; (have hW_1 : WB w1 B b R C f g h bd A n cap A2 n2 cap2 A3 n3 cap3 := by (repeat (first | (with_reducible exact hW) | (with_reducible refine WB.below ?_ (by assumption) (by first | omega | (simp; done) | (simp; omega))) | (with_reducible refine WB.drew ?_) | (with_reducible refine WB.drewN ?_ _) | (with_reducible refine WB.alloc ?_ _)))); (have hbw_1 : Below w.heap.size w w1 := by (repeat (first | (with_reducible exact Below.refl _ _) | (with_reducible assumption) | (with_reducible refine below_drewN ?_ _) | (with_reducible refine Below.drew ?_) | (with_reducible refine Below.alloc ?_ ?_ _) | (with_reducible refine Below.setCell ?_ ?_ _) | (with_reducible refine below_into ?_ (by assumption) (by first | omega | (simp; done) | (simp; omega))) | go_size))); (have hsz_1 := hbw_1.size); clear hW hbw hb1; clear c0 c1 c2 c3 c4 c5 c6 c7 c8 c9 cf cl; have hW := hW_1; have hbw := hbw_1; clear hW_1 hbw_1; obtain ⟨c0, c1, c2, c3, c4, c5, c6, c7, c8, c9, cf, cl⟩ := hW.cells)
            go_wp2_with (go_at_call 169; refine (impl_absInt _ _ (by omega) (by omega)).mono ?_; rintro e w' ⟨rfl, rfl⟩)
            (refine (impl_at_tb R C p j A n cap f (v2) HV2.out _ (B := B) (by have hm := hW.m; (repeat (first | (with_reducible exact hm) | (with_reducible refine OR.drew ?_) | (with_reducible refine OR.drewN ?_ _) | (with_reducible refine OR.alloc ?_ _) | (with_reducible refine OR.below ?_ (by assumption) (by first | omega | (simp; done) | (simp; omega))) | (with_reducible refine OR.low ?_ (by first | omega | (simp only []; omega) | (simp; omega)) _)))) (by omega) (by omega) (by omega) (by omega)).mono ?_; rintro e w1 ⟨rfl, hb1⟩; (have hW_1 : WB w1 B b R C f g h bd A n cap A2 n2 cap2 A3 n3 cap3 := by (repeat (first | (with_reducible exact hW) | (with_reducible refine WB.below ?_ (by assumption) (by first | omega | (simp; done) | (simp; omega))) | (with_reducible refine WB.drew ?_) | (with_reducible refine WB.drewN ?_ _) | (with_reducible refine WB.alloc ?_ _)))); (have hbw_1 : Below w.heap.size w w1 := by (repeat (first | (with_reducible exact Below.refl _ _) | (with_reducible assumption) | (with_reducible refine below_drewN ?_ _) | (with_reducible refine Below.drew ?_) | (with_reducible refine Below.alloc ?_ ?_ _) | (with_reducible refine Below.setCell ?_ ?_ _) | (with_reducible refine below_into ?_ (by assumption) (by first | omega | (simp; done) | (simp; omega))) | go_size))); (have hsz_1 := hbw_1.size); clear hW hbw hb1; clear c0 c1 c2 c3 c4 c5 c6 c7 c8 c9 cf cl; have hW := hW_1; have hbw := hbw_1; clear hW_1 hbw_1; obtain ⟨c0, c1, c2, c3, c4, c5, c6, c7, c8, c9, cf, cl⟩ := hW.cells)
            go_wp2_with (go_at_call 169; refine (impl_absInt _ _ (by omega) (by omega)).mono ?_; rintro e w' ⟨rfl, rfl⟩)
            go_roundw
            case rel => exact ⟨i + 1, by go_num, by rw [HX.out], by omega, by omega, hW, hbw⟩
            case measure => simp only [intOf]; omega
    · obtain rfl : i = R := by omega
      have hb : -1 ≤ lstK f j t (i - t) ∧ lstK f j t (i - t) ≤ 100 := by
        rcases lstK_cases f j t (i - t) with ⟨e, _⟩ | ⟨p, e, _, h3, _⟩
        · omega
        · omega
      obtain ⟨b1, b2⟩ := hb
      have HL : Hid (lst i f j t = lstK f j t (i - t)) := Lib.hid rfl
      generalize lstK f j t (i - t) = q at *
      go_wp2_with fail
      go_ret
      exact BV.mk (vint HL.out.symm) hbw
set_option maxRecDepth 100000 in
set_option maxHeartbeats 4000000 in
theorem impl_others (B b R C t p j : Nat) (f g h : Fn2) (bd : Bool) (w : World) (hK : WK w B b R C f g h bd) (ht : t ≤ R) (hj : j < C) (hp : p < R) (hC : C ≤ 24) (hR : R ≤ 24) :
    Calls Try.prog 146 #[.pointer (some ⟨b, 0, none⟩), .int .i64 t, .int .i64 p, .int .i64 j] w (BV (.bool (oth R f j t p)) w) := by
  obtain ⟨A, n, cap, A2, n2, cap2, A3, n3, cap3, hW0⟩ := hK
  have HNO := Lib.hid (oth_no (R := R) (f := f) (j := j) (t := t) (p := p))
  have HYES := Lib.hid (fun i h1 h2 h3 h4 => (oth_iff (R := R) (f := f) (j := j) (t := t) (p := p)).2 ⟨i, h1, h2, h3, h4⟩)
  generalize oth R f j t p = res at *
  go_enter Try.func146, Try.ntmps146
  go_wp2_with fail
  go_loopw [9] (fun v wr => ∃ (i : Nat), v = .int .i64 i ∧ t ≤ i ∧ i ≤ R ∧ (∀ k, t ≤ k → k < i → ¬ (k ≠ p ∧ f k j ≠ 0)) ∧ WB wr B b R C f g h bd A n cap A2 n2 cap2 A3 n3 cap3 ∧ Below w.heap.size w wr) (fun v _ => R - (intOf v).toNat)
  case atStart => exact ⟨t, rfl, Nat.le_refl _, ht, fun k h1 h2 => absurd h1 (by omega), hW0, by (repeat (first | (with_reducible exact Below.refl _ _) | (with_reducible assumption) | (with_reducible refine below_drewN ?_ _) | (with_reducible refine Below.drew ?_) | (with_reducible refine Below.alloc ?_ ?_ _) | (with_reducible refine Below.setCell ?_ ?_ _) | (with_reducible refine below_into ?_ (by assumption) (by first | omega | (simp; done) | (simp; omega))) | go_size))⟩
  case round =>
    clear hW0
    obtain ⟨i, rfl, hti, hiR, hno, hW, hbw⟩ := hrel
    obtain ⟨c0, c1, c2, c3, c4, c5, c6, c7, c8, c9, cf, cl⟩ := hW.cells
    have hsz := hbw.size
    have HN := Lib.hid hno
    clear hno
    by_cases hlt : i < R
    · by_cases hip : i = p
      · have hb : ((i : Int) != (p : Int)) = false := by simp [hip]
        have HS : Hid (∀ k, t ≤ k → k < i + 1 → ¬ (k ≠ p ∧ f k j ≠ 0)) := Lib.hid (fun k h1 h2 => by
          by_cases e : k = i
          · exact fun h3 => h3.1 (e.trans hip)
          · exact HN.out k h1 (by omega))
        clear hip
        go_wp2_with fail
        go_roundw
        case rel => exact ⟨i + 1, by go_num, by omega, by omega, HS.out, hW, hbw⟩
        case measure => simp only [intOf]; omega
      · have hb : ((i : Int) != (p : Int)) = true := by simp; omega
        have HIP := Lib.hid hip
        clear hip
        by_cases hz : f i j = 0
        · have HS : Hid (∀ k, t ≤ k → k < i + 1 → ¬ (k ≠ p ∧ f k j ≠ 0)) := Lib.hid (fun k h1 h2 => by
            by_cases e : k = i
            · exact fun h3 => h3.2 (by rw [e]; exact hz)
            · exact HN.out k h1 (by omega))
          have hnz : (f i j != 0) = false := by simp [hz]
          clear hz
          generalize hv : f i j = v at *
          have HV := Lib.hid hv
          clear hv
          go_wp2_with fail
          (refine (impl_at_tb R C i j A n cap f (v) HV.out _ (B := B) (by have hm := hW.m; (repeat (first | (with_reducible exact hm) | (with_reducible refine OR.drew ?_) | (with_reducible refine OR.drewN ?_ _) | (with_reducible refine OR.alloc ?_ _) | (with_reducible refine OR.below ?_ (by assumption) (by first | omega | (simp; done) | (simp; omega))) | (with_reducible refine OR.low ?_ (by first | omega | (simp only []; omega) | (simp; omega)) _)))) (by omega) (by omega) (by omega) (by omega)).mono ?_; rintro e w1 ⟨rfl, hb1⟩; (have hW_1 : WB w1 B b R C f g h bd A n cap A2 n2 cap2 A3 n3 cap3 := by (repeat (first | (with_reducible exact hW) | (with_reducible refine WB.below ?_ (by assumption) (by first | omega | (simp; done) | (simp; omega))) | (with_reducible refine WB.drew ?_) | (with_reducible refine WB.drewN ?_ _) | (with_reducible refine WB.alloc ?_ _)))); (have hbw_1 : Below w.heap.size w w1 := by (repeat (first | (with_reducible exact Below.refl _ _) | (with_reducible assumption) | (with_reducible refine below_drewN ?_ _) | (with_reducible refine Below.drew ?_) | (with_reducible refine Below.alloc ?_ ?_ _) | (with_reducible refine Below.setCell ?_ ?_ _) | (with_reducible refine below_into ?_ (by assumption) (by first | omega | (simp; done) | (simp; omega))) | go_size))); (have hsz_1 := hbw_1.size); clear hW hbw hb1; clear c0 c1 c2 c3 c4 c5 c6 c7 c8 c9 cf cl; have hW := hW_1; have hbw := hbw_1; clear hW_1 hbw_1; obtain ⟨c0, c1, c2, c3, c4, c5, c6, c7, c8, c9, cf, cl⟩ := hW.cells)
          go_wp2_with fail
          go_roundw
          case rel => exact ⟨i + 1, by go_num, by omega, by omega, HS.out, hW, hbw⟩
          case measure => simp only [intOf]; omega
        · have HR := Lib.hid (HYES.out i hti hlt HIP.out hz)
          have hnz : (f i j != 0) = true := by simpa using hz
          clear hz
          generalize hv : f i j = v at *
          have HV := Lib.hid hv
          clear hv
          go_wp2_with fail
          (refine (impl_at_tb R C i j A n cap f (v) HV.out _ (B := B) (by have hm := hW.m; (repeat (first | (with_reducible exact hm) | (with_reducible refine OR.drew ?_) | (with_reducible refine OR.drewN ?_ _) | (with_reducible refine OR.alloc ?_ _) | (with_reducible refine OR.below ?_ (by assumption) (by first | omega | (simp; done) | (simp; omega))) | (with_reducible refine OR.low ?_ (by first | omega | (simp only []; omega) | (simp; omega)) _)))) (by omega) (by omega) (by omega) (by omega)).mono ?_; rintro e w1 ⟨rfl, hb1⟩; (have hW_1 : WB w1 B b R C f g h bd A n cap A2 n2 cap2 A3 n3 cap3 := by (repeat (first | (with_reducible exact hW) | (with_reducible refine WB.below ?_ (by assumption) (by first | omega | (simp; done) | (simp; omega))) | (with_reducible refine WB.drew ?_) | (with_reducible refine WB.drewN ?_ _) | (with_reducible refine WB.alloc ?_ _)))); (have hbw_1 : Below w.heap.size w w1 := by (repeat (first | (with_reducible exact Below.refl _ _) | (with_reducible assumption) | (with_reducible refine below_drewN ?_ _) | (with_reducible refine Below.drew ?_) | (with_reducible refine Below.alloc ?_ ?_ _) | (with_reducible refine Below.setCell ?_ ?_ _) | (with_reducible refine below_into ?_ (by assumption) (by first | omega | (simp; done) | (simp; omega))) | go_size))); (have hsz_1 := hbw_1.size); clear hW hbw hb1; clear c0 c1 c2 c3 c4 c5 c6 c7 c8 c9 cf cl; have hW := hW_1; have hbw := hbw_1; clear hW_1 hbw_1; obtain ⟨c0, c1, c2, c3, c4, c5, c6, c7, c8, c9, cf, cl⟩ := hW.cells)
          go_wp2_with fail
          go_ret
          exact BV.mk (vbool HR.out.symm) hbw
    · obtain rfl : i = R := by omega
      have HR := Lib.hid (HNO.out HN.out)
      go_wp2_with fail
      go_ret
      exact BV.mk (vbool HR.out.symm) hbw
end Go.Proofs.Ytacjonkehcamgaa

/-
  DERIVED. l14Blocked of the reference.
-/
import Derived.Test.YtmcbhpaajjlmmaaSiSq
namespace Go.Proofs.Ytmcbhpaajjlmmaa
open Go.RowKit
set_option linter.unusedVariables false
set_option linter.unusedSimpArgs false
set_option maxRecDepth 100000 in
set_option maxHeartbeats 4000000 in
theorem spec_l14Blocked (R C : Nat) (A Ac : Option Addr) (n cap nc capc : Nat) (f : Fn2) (cs : List Int) (w : World) {B B' : Nat} (h : OR w B (.slice A n cap) (tb R C f)) (hc : RI w B' Ac nc cs) (hB' : B' ≤ w.heap.size) (hl : cs.length = R) (hf : OKF R C f) (hR : R ≤ 24) (hC : C ≤ 24) :
    Calls Try.prog 86 #[.agg #[.int .i64 R, .int .i64 C, .slice A n cap], .slice Ac nc capc] w (BV (.int .i64 (fwV (fwF (dgF R C f) 0 cs))) w) := by
  have hln := hc.len
  have hlx : cs.length ≤ R ∧ R ≤ cs.length ∧ nc ≤ R ∧ R ≤ nc := by omega
  have HOW : Hid (∀ w', Below w.heap.size w w' → OR w' B (.slice A n cap) (tb R C f)) := Lib.hid (fun w' hb => h.below hb (Nat.le_refl _))
  have HC := Lib.hid (hc.more hB')
  have HF := Lib.hid hf
  clear hc hl hln hf h
  obtain ⟨X, hX⟩ : ∃ X, fwF (dgF R C f) 0 cs = X := ⟨_, rfl⟩
  rw [hX]
  have HX0 := Lib.hid hX
  clear hX
  go_enter Try.func86, Try.ntmps86
  go_wp2_with fail
  go_loopw [5] (fun v wr => ∃ k : Nat, v = .int .i64 k ∧ k ≤ R ∧ fwF (dgF R C f) k (cs.drop k) = X ∧ BM wr w.heap.size R C A n cap ∧ Below w.heap.size w wr) (fun v _ => R - (intOf v).toNat)
  case atStart => exact ⟨0, rfl, Nat.zero_le _, HX0.out, by (with_reducible (repeat (first | assumption | refine BX.n_ | refine BX.b_ ?_ | apply BX.drew | apply BX.drewN | refine BX.put ?_ | refine BX.put2 ?_ | refine BX.f_ ?_ | apply BX.alloc | refine B3.n_ | refine B3.of (by assumption) | refine B3.b_ ?_ | apply B3.drew | apply B3.drewN | refine B3.f_ ?_ | apply B3.alloc))), by (repeat (first | (with_reducible (first | exact Below.refl _ _ | assumption | refine below_drewN ?_ _ | refine Below.drew ?_ | refine Below.alloc ?_ ?_ _ | refine Below.setCell ?_ ?_ _ | refine below_i ?_)) | go_size))⟩
  case round =>
    obtain ⟨k, rfl, hk, hfw, hM, hbw⟩ := hrel
    have HX := Lib.hid hfw
    clear hfw
    obtain ⟨ma, mb, mc, mf, ml⟩ := hM.mx
    have hsw := hbw.size
    by_cases hlt : k < R
    · obtain ⟨b, o, rfl, hbb, hcells⟩ := HC.out.2 (by omega)
      have c1 := (hbw.cell (p := ⟨b, o + k, none⟩) hbb).trans (hcells k (by omega))
      have hbl := Nat.lt_of_lt_of_le hbb hbw.size
      clear hcells
      have hknc : k < nc := by omega
      have ho := HOW.out _ hbw
      generalize hcv : cs.getD k 0 = c at *
      have HCV := Lib.hid hcv
      clear hcv
      by_cases hkC : k < C
      · have hdk : dgF R C f k = f k k := dgF_in hlt hkC
        generalize hv : f k k = z at *
        have HV := Lib.hid hv
        clear hv
        by_cases hz : z = 0
        · by_cases hc0 : c = 0
          · subst hz
            subst hc0
            have HNX : Hid (fwF (dgF R C f) (k + 1) (cs.drop (k + 1)) = X) := Lib.hid ((fwF_yes (k := k) (by omega) (by rw [hdk, HCV.out]; exact Int.dvd_refl _)).symm.trans HX.out)
            clear hdk
            go_wp2_with fail
            refine (spec_l12Cell_tb R C k k A n cap f 0 HV.out _ (B := B) (by (with_reducible (repeat (first | exact ho | refine OR.drew ?_ | refine OR.drewN ?_ _ | refine OR.alloc ?_ _ | refine OR.b_ ?_ | refine OR.l_ ?_)))) (by omega) (by omega) (by omega) (by omega)).mono ?_
            rintro e w1 ⟨rfl, hb1⟩
            have hs1 := hb1.size
            have hM_1 : BM w1 w.heap.size R C A n cap := by (with_reducible (repeat (first | exact hM | refine BX.n_ | refine BX.b_ ?_ | apply BX.drew | apply BX.drewN | refine BX.put ?_ | refine BX.put2 ?_ | refine BX.f_ ?_ | apply BX.alloc | refine B3.n_ | exact B3.of hM | refine B3.b_ ?_ | apply B3.drew | apply B3.drewN | refine B3.f_ ?_ | apply B3.alloc)))
            have hbw_1 : Below w.heap.size w w1 := by (repeat (first | (with_reducible (first | exact Below.refl _ _ | assumption | refine below_drewN ?_ _ | refine Below.drew ?_ | refine Below.alloc ?_ ?_ _ | refine Below.setCell ?_ ?_ _ | refine below_i ?_)) | go_size))
            have c2 := (hb1.cell (p := ⟨b, o + k, none⟩) (by simpa using hbl)).trans c1
            clear hM hbw c1 hb1 ma mb mc mf ml
            have hM := hM_1
            have hbw := hbw_1
            clear hM_1 hbw_1
            obtain ⟨ma, mb, mc, mf, ml⟩ := hM.mx
            go_wp2_with fail
            go_wp2_with fail
            go_roundw
            case rel => exact ⟨k + 1, by go_num, by omega, HNX.out, by (with_reducible (repeat (first | exact hM | refine BX.n_ | refine BX.b_ ?_ | apply BX.drew | apply BX.drewN | refine BX.put ?_ | refine BX.put2 ?_ | refine BX.f_ ?_ | apply BX.alloc | refine B3.n_ | exact B3.of hM | refine B3.b_ ?_ | apply B3.drew | apply B3.drewN | refine B3.f_ ?_ | apply B3.alloc))), by (repeat (first | (with_reducible (first | exact Below.refl _ _ | assumption | refine below_drewN ?_ _ | refine Below.drew ?_ | refine Below.alloc ?_ ?_ _ | refine Below.setCell ?_ ?_ _ | refine below_i ?_)) | go_size))⟩
            case measure => simp only [intOf]; omega
          · subst hz
            have HFD : Hid (X = some k) := Lib.hid (by rw [← HX.out, fwF_no (by omega) (by rw [hdk, HCV.out]; exact fun h => hc0 (Int.zero_dvd.1 h))])
            have hcb : (c != 0) = true := by simpa using hc0
            clear hdk hc0
            go_wp2_with fail
            refine (spec_l12Cell_tb R C k k A n cap f 0 HV.out _ (B := B) (by (with_reducible (repeat (first | exact ho | refine OR.drew ?_ | refine OR.drewN ?_ _ | refine OR.alloc ?_ _ | refine OR.b_ ?_ | refine OR.l_ ?_)))) (by omega) (by omega) (by omega) (by omega)).mono ?_
            rintro e w1 ⟨rfl, hb1⟩
            have hs1 := hb1.size
            have hM_1 : BM w1 w.heap.size R C A n cap := by (with_reducible (repeat (first | exact hM | refine BX.n_ | refine BX.b_ ?_ | apply BX.drew | apply BX.drewN | refine BX.put ?_ | refine BX.put2 ?_ | refine BX.f_ ?_ | apply BX.alloc | refine B3.n_ | exact B3.of hM | refine B3.b_ ?_ | apply B3.drew | apply B3.drewN | refine B3.f_ ?_ | apply B3.alloc)))
            have hbw_1 : Below w.heap.size w w1 := by (repeat (first | (with_reducible (first | exact Below.refl _ _ | assumption | refine below_drewN ?_ _ | refine Below.drew ?_ | refine Below.alloc ?_ ?_ _ | refine Below.setCell ?_ ?_ _ | refine below_i ?_)) | go_size))
            have c2 := (hb1.cell (p := ⟨b, o + k, none⟩) (by simpa using hbl)).trans c1
            clear hM hbw c1 hb1 ma mb mc mf ml
            have hM := hM_1
            have hbw := hbw_1
            clear hM_1 hbw_1
            obtain ⟨ma, mb, mc, mf, ml⟩ := hM.mx
            go_wp2_with fail
            go_wp2_with fail
            go_ret
            exact BV.mk (vint (show (k : Int) = _ by rw [HFD.out]; rfl)) (by (repeat (first | (with_reducible (first | exact Below.refl _ _ | assumption | refine below_drewN ?_ _ | refine Below.drew ?_ | refine Below.alloc ?_ ?_ _ | refine Below.setCell ?_ ?_ _ | refine below_i ?_)) | go_size)))
        · by_cases hc0 : c.tmod z = 0
          · skip
            have HNX : Hid (fwF (dgF R C f) (k + 1) (cs.drop (k + 1)) = X) := Lib.hid ((fwF_yes (k := k) (by omega) (by rw [hdk, HCV.out]; exact Int.dvd_of_tmod_eq_zero hc0)).symm.trans HX.out)
            have hzb : (z == 0) = false := by simpa using hz
            have hzb2 : (z != 0) = true := by simpa using hz
            have hcb : (c.tmod z != 0) = false := by simp [hc0]
            clear hdk hc0
            go_wp2_with fail
            refine (spec_l12Cell_tb R C k k A n cap f z HV.out _ (B := B) (by (with_reducible (repeat (first | exact ho | refine OR.drew ?_ | refine OR.drewN ?_ _ | refine OR.alloc ?_ _ | refine OR.b_ ?_ | refine OR.l_ ?_)))) (by omega) (by omega) (by omega) (by omega)).mono ?_
            rintro e w1 ⟨rfl, hb1⟩
            have hs1 := hb1.size
            have hM_1 : BM w1 w.heap.size R C A n cap := by (with_reducible (repeat (first | exact hM | refine BX.n_ | refine BX.b_ ?_ | apply BX.drew | apply BX.drewN | refine BX.put ?_ | refine BX.put2 ?_ | refine BX.f_ ?_ | apply BX.alloc | refine B3.n_ | exact B3.of hM | refine B3.b_ ?_ | apply B3.drew | apply B3.drewN | refine B3.f_ ?_ | apply B3.alloc)))
            have hbw_1 : Below w.heap.size w w1 := by (repeat (first | (with_reducible (first | exact Below.refl _ _ | assumption | refine below_drewN ?_ _ | refine Below.drew ?_ | refine Below.alloc ?_ ?_ _ | refine Below.setCell ?_ ?_ _ | refine below_i ?_)) | go_size))
            have c2 := (hb1.cell (p := ⟨b, o + k, none⟩) (by simpa using hbl)).trans c1
            clear hM hbw c1 hb1 ma mb mc mf ml
            have hM := hM_1
            have hbw := hbw_1
            clear hM_1 hbw_1
            obtain ⟨ma, mb, mc, mf, ml⟩ := hM.mx
            go_wp2_with fail
            go_wp2_with fail
            go_roundw
            case rel => exact ⟨k + 1, by go_num, by omega, HNX.out, by (with_reducible (repeat (first | exact hM | refine BX.n_ | refine BX.b_ ?_ | apply BX.drew | apply BX.drewN | refine BX.put ?_ | refine BX.put2 ?_ | refine BX.f_ ?_ | apply BX.alloc | refine B3.n_ | exact B3.of hM | refine B3.b_ ?_ | apply B3.drew | apply B3.drewN | refine B3.f_ ?_ | apply B3.alloc))), by (repeat (first | (with_reducible (first | exact Below.refl _ _ | assumption | refine below_drewN ?_ _ | refine Below.drew ?_ | refine Below.alloc ?_ ?_ _ | refine Below.setCell ?_ ?_ _ | refine below_i ?_)) | go_size))⟩
            case measure => simp only [intOf]; omega
          · skip
            have HFD : Hid (X = some k) := Lib.hid (by rw [← HX.out, fwF_no (by omega) (by rw [hdk, HCV.out]; exact fun h => hc0 (Int.tmod_eq_zero_of_dvd h))])
            have hzb : (z == 0) = false := by simpa using hz
            have hzb2 : (z != 0) = true := by simpa using hz
            have hcb : (c.tmod z != 0) = true := by simpa using hc0
            clear hdk hc0
            go_wp2_with fail
            refine (spec_l12Cell_tb R C k k A n cap f z HV.out _ (B := B) (by (with_reducible (repeat (first | exact ho | refine OR.drew ?_ | refine OR.drewN ?_ _ | refine OR.alloc ?_ _ | refine OR.b_ ?_ | refine OR.l_ ?_)))) (by omega) (by omega) (by omega) (by omega)).mono ?_
            rintro e w1 ⟨rfl, hb1⟩
            have hs1 := hb1.size
            have hM_1 : BM w1 w.heap.size R C A n cap := by (with_reducible (repeat (first | exact hM | refine BX.n_ | refine BX.b_ ?_ | apply BX.drew | apply BX.drewN | refine BX.put ?_ | refine BX.put2 ?_ | refine BX.f_ ?_ | apply BX.alloc | refine B3.n_ | exact B3.of hM | refine B3.b_ ?_ | apply B3.drew | apply B3.drewN | refine B3.f_ ?_ | apply B3.alloc)))
            have hbw_1 : Below w.heap.size w w1 := by (repeat (first | (with_reducible (first | exact Below.refl _ _ | assumption | refine below_drewN ?_ _ | refine Below.drew ?_ | refine Below.alloc ?_ ?_ _ | refine Below.setCell ?_ ?_ _ | refine below_i ?_)) | go_size))
            have c2 := (hb1.cell (p := ⟨b, o + k, none⟩) (by simpa using hbl)).trans c1
            clear hM hbw c1 hb1 ma mb mc mf ml
            have hM := hM_1
            have hbw := hbw_1
            clear hM_1 hbw_1
            obtain ⟨ma, mb, mc, mf, ml⟩ := hM.mx
            go_wp2_with fail
            go_wp2_with fail
            go_ret
            exact BV.mk (vint (show (k : Int) = _ by rw [HFD.out]; rfl)) (by (repeat (first | (with_reducible (first | exact Below.refl _ _ | assumption | refine below_drewN ?_ _ | refine Below.drew ?_ | refine Below.alloc ?_ ?_ _ | refine Below.setCell ?_ ?_ _ | refine below_i ?_)) | go_size)))
      · have hdk : dgF R C f k = 0 := dgF_out (by omega)
        by_cases hc0 : c = 0
        · subst hc0
          have HNX : Hid (fwF (dgF R C f) (k + 1) (cs.drop (k + 1)) = X) := Lib.hid ((fwF_yes (k := k) (by omega) (by rw [hdk, HCV.out]; exact Int.dvd_refl _)).symm.trans HX.out)
          clear hdk
          go_wp2_with fail
          go_roundw
          case rel => exact ⟨k + 1, by go_num, by omega, HNX.out, by (with_reducible (repeat (first | exact hM | refine BX.n_ | refine BX.b_ ?_ | apply BX.drew | apply BX.drewN | refine BX.put ?_ | refine BX.put2 ?_ | refine BX.f_ ?_ | apply BX.alloc | refine B3.n_ | exact B3.of hM | refine B3.b_ ?_ | apply B3.drew | apply B3.drewN | refine B3.f_ ?_ | apply B3.alloc))), by (repeat (first | (with_reducible (first | exact Below.refl _ _ | assumption | refine below_drewN ?_ _ | refine Below.drew ?_ | refine Below.alloc ?_ ?_ _ | refine Below.setCell ?_ ?_ _ | refine below_i ?_)) | go_size))⟩
          case measure => simp only [intOf]; omega
        · skip
          have HFD : Hid (X = some k) := Lib.hid (by rw [← HX.out, fwF_no (by omega) (by rw [hdk, HCV.out]; exact fun h => hc0 (Int.zero_dvd.1 h))])
          have hcb : (c != 0) = true := by simpa using hc0
          clear hdk hc0
          go_wp2_with fail
          go_ret
          exact BV.mk (vint (show (k : Int) = _ by rw [HFD.out]; rfl)) (by (repeat (first | (with_reducible (first | exact Below.refl _ _ | assumption | refine below_drewN ?_ _ | refine Below.drew ?_ | refine Below.alloc ?_ ?_ _ | refine Below.setCell ?_ ?_ _ | refine below_i ?_)) | go_size)))
    · have hkE : k = R := by omega
      have HE : Hid (X = none) := Lib.hid (by rw [← HX.out, fwF_end (by omega)])
      clear hkE
      go_wp2_with fail
      go_ret
      exact BV.mk (vint (show (-1 : Int) = _ by rw [HE.out]; rfl)) (by (repeat (first | (with_reducible (first | exact Below.refl _ _ | assumption | refine below_drewN ?_ _ | refine Below.drew ?_ | refine Below.alloc ?_ ?_ _ | refine Below.setCell ?_ ?_ _ | refine below_i ?_)) | go_size)))
end Go.Proofs.Ytmcbhpaajjlmmaa

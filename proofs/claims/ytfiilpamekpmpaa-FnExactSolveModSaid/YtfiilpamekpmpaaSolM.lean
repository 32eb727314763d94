/-
  DERIVED. SolveMod of the program.
-/
import Derived.Test.YtfiilpamekpmpaaTimM
namespace Go.Proofs.Ytfiilpamekpmpaa
open Go.RowKit
set_option linter.unusedVariables false
set_option linter.unusedSimpArgs false
theorem OR.empty2 (w : World) (g : Nat) (hg : g = w.heap.size) {B : Nat} (hB : B ≤ w.heap.size) : OR (w.alloc (.cells #[] 3)) B (.slice (some ⟨g, 0, none⟩) 0 0) [] := OR.empty' w g hg hB
set_option maxRecDepth 100000 in
set_option maxHeartbeats 8000000 in
theorem impl_SolveMod (r c p : Int) (A Ab : Option Addr) (n cap nb capb : Nat) (xs bs : List Int) (w : World) {B B' : Nat} (h : RI w B A n xs) (hb : RI w B' Ab nb bs) (hB : B ≤ w.heap.size) (hB' : B' ≤ w.heap.size) (hn : n ≤ 1048576) (hnb : nb ≤ 1048576) :
    Calls Try.prog 33 #[.agg #[.int .i64 r, .int .i64 c, .slice A n cap], .slice Ab nb capb, .int .i64 p] w (IBR (smV r c xs bs p) (smB r c xs bs p) w) := by
  have hlb := hb.len
  have H2 := Lib.hid (h.more hB)
  have H3 := Lib.hid (hb.more hB')
  clear h hb
  rcases sm_cases r c xs bs p with ⟨hi, hs⟩ | ⟨hi, hl, hs⟩ | ⟨hi, hl, ha, hs⟩ | ⟨hi, hl, ha, hs⟩
  · rw [smV_no hs, hs]
    have HB := Lib.hid hi
    have HX := Lib.hid (imM_no hi)
    clear hi hs hlb
    go_enter Try.func33, Try.ntmps33
    go_wp2_with fail
    refine (impl_InverseMod r c p A n cap xs _ (B := w.heap.size) (by (repeat (first | (with_reducible exact H2.out) | (with_reducible refine RI.drew ?_) | (with_reducible refine RI.drewN ?_ _) | (with_reducible refine RI.alloc ?_ (by first | omega | (simp; done) | (simp; omega)) _) | (with_reducible refine RI.setCell ?_ (by first | omega | (simp; done) | (simp; omega)) _) | (with_reducible refine RI.below ?_ (by assumption) (by first | omega | (simp; done) | (simp; omega)))))) (by first | omega | (simp; done) | (simp; omega)) hn).mono ?_; rw [HB.out, HX.out]; rintro e w1 ⟨Ai, ni, capi, rfl, ho1, hb1⟩; have hsz1 := hb1.size; simp at hsz1; have hM1 : BM w1 w.heap.size r c A n cap := (by (repeat (first | (with_reducible assumption) | (with_reducible refine BX.new _ _ _ _ _ _ _ _ (by first | omega | (simp; done) | (simp; omega))) | (with_reducible refine BX.below ?_ (by assumption) (by first | omega | (simp; done) | (simp; omega))) | (with_reducible apply BX.drew) | (with_reducible apply BX.drewN) | (with_reducible refine BX.put ?_) | (with_reducible refine BX.put2 ?_) | (with_reducible refine BX.far ?_ (by simp only [ne_eq]; omega) _) | (with_reducible apply BX.alloc) | (with_reducible refine B3.new _ _ _ _ _ _ (by first | omega | (simp; done) | (simp; omega))) | (with_reducible refine B3.of (by assumption)) | (with_reducible refine B3.below ?_ (by assumption) (by first | omega | (simp; done) | (simp; omega))) | (with_reducible apply B3.drew) | (with_reducible apply B3.drewN) | (with_reducible refine B3.far ?_ (by simp only [ne_eq]; omega) _) | (with_reducible apply B3.alloc)))); have hbw1 : Below w.heap.size w w1 := (by (repeat (first | (with_reducible exact Below.refl _ _) | (with_reducible assumption) | (with_reducible refine below_drewN ?_ _) | (with_reducible refine Below.drew ?_) | (with_reducible refine Below.alloc ?_ ?_ _) | (with_reducible refine Below.setCell ?_ ?_ _) | (with_reducible refine below_into ?_ (by assumption) (by first | omega | (simp; done) | (simp; omega))) | go_size))); obtain ⟨ma, mb, mc, mf, ml⟩ := hM1.mx
    go_wp2_with fail
    go_ret2
    exact ⟨_, _, _, rfl, OR.empty2 _ (w1.heap.size + 1) (by simp) (by simp; omega), by (repeat (first | (with_reducible exact Below.refl _ _) | (with_reducible assumption) | (with_reducible refine below_drewN ?_ _) | (with_reducible refine Below.drew ?_) | (with_reducible refine Below.alloc ?_ ?_ _) | (with_reducible refine Below.setCell ?_ ?_ _) | (with_reducible refine below_into ?_ (by assumption) (by first | omega | (simp; done) | (simp; omega))) | go_size))⟩
  · rw [smV_no hs, hs]
    have K := imOk_of hi
    have HB := Lib.hid hi
    have HX := Lib.hid (imM_yes hi)
    rw [hlb] at hl
    generalize (imS r c xs p).f = F at *
    clear hi hs K hlb
    go_enter Try.func33, Try.ntmps33
    go_wp2_with fail
    refine (impl_InverseMod r c p A n cap xs _ (B := w.heap.size) (by (repeat (first | (with_reducible exact H2.out) | (with_reducible refine RI.drew ?_) | (with_reducible refine RI.drewN ?_ _) | (with_reducible refine RI.alloc ?_ (by first | omega | (simp; done) | (simp; omega)) _) | (with_reducible refine RI.setCell ?_ (by first | omega | (simp; done) | (simp; omega)) _) | (with_reducible refine RI.below ?_ (by assumption) (by first | omega | (simp; done) | (simp; omega)))))) (by first | omega | (simp; done) | (simp; omega)) hn).mono ?_; rw [HB.out, HX.out]; rintro e w1 ⟨Ai, ni, capi, rfl, ho1, hb1⟩; have hsz1 := hb1.size; simp at hsz1; have hM1 : BM w1 w.heap.size r c A n cap := (by (repeat (first | (with_reducible assumption) | (with_reducible refine BX.new _ _ _ _ _ _ _ _ (by first | omega | (simp; done) | (simp; omega))) | (with_reducible refine BX.below ?_ (by assumption) (by first | omega | (simp; done) | (simp; omega))) | (with_reducible apply BX.drew) | (with_reducible apply BX.drewN) | (with_reducible refine BX.put ?_) | (with_reducible refine BX.put2 ?_) | (with_reducible refine BX.far ?_ (by simp only [ne_eq]; omega) _) | (with_reducible apply BX.alloc) | (with_reducible refine B3.new _ _ _ _ _ _ (by first | omega | (simp; done) | (simp; omega))) | (with_reducible refine B3.of (by assumption)) | (with_reducible refine B3.below ?_ (by assumption) (by first | omega | (simp; done) | (simp; omega))) | (with_reducible apply B3.drew) | (with_reducible apply B3.drewN) | (with_reducible refine B3.far ?_ (by simp only [ne_eq]; omega) _) | (with_reducible apply B3.alloc)))); have hbw1 : Below w.heap.size w w1 := (by (repeat (first | (with_reducible exact Below.refl _ _) | (with_reducible assumption) | (with_reducible refine below_drewN ?_ _) | (with_reducible refine Below.drew ?_) | (with_reducible refine Below.alloc ?_ ?_ _) | (with_reducible refine Below.setCell ?_ ?_ _) | (with_reducible refine below_into ?_ (by assumption) (by first | omega | (simp; done) | (simp; omega))) | go_size))); obtain ⟨ma, mb, mc, mf, ml⟩ := hM1.mx
    clear ho1
    go_wp2_with fail
    go_ret2
    exact ⟨_, _, _, rfl, OR.empty2 _ (w1.heap.size + 1) (by simp) (by simp; omega), by (repeat (first | (with_reducible exact Below.refl _ _) | (with_reducible assumption) | (with_reducible refine below_drewN ?_ _) | (with_reducible refine Below.drew ?_) | (with_reducible refine Below.alloc ?_ ?_ _) | (with_reducible refine Below.setCell ?_ ?_ _) | (with_reducible refine below_into ?_ (by assumption) (by first | omega | (simp; done) | (simp; omega))) | go_size))⟩
  · rw [smV_no hs, hs]
    have K := imOk_of hi
    have HB := Lib.hid hi
    have HX := Lib.hid (imM_yes hi)
    have HA := Lib.hid ha
    rw [hlb] at hl
    generalize (imS r c xs p).f = F at *
    clear hi hs K hlb ha
    go_enter Try.func33, Try.ntmps33
    go_wp2_with fail
    refine (impl_InverseMod r c p A n cap xs _ (B := w.heap.size) (by (repeat (first | (with_reducible exact H2.out) | (with_reducible refine RI.drew ?_) | (with_reducible refine RI.drewN ?_ _) | (with_reducible refine RI.alloc ?_ (by first | omega | (simp; done) | (simp; omega)) _) | (with_reducible refine RI.setCell ?_ (by first | omega | (simp; done) | (simp; omega)) _) | (with_reducible refine RI.below ?_ (by assumption) (by first | omega | (simp; done) | (simp; omega)))))) (by first | omega | (simp; done) | (simp; omega)) hn).mono ?_; rw [HB.out, HX.out]; rintro e w1 ⟨Ai, ni, capi, rfl, ho1, hb1⟩; have hsz1 := hb1.size; simp at hsz1; have hM1 : BM w1 w.heap.size r c A n cap := (by (repeat (first | (with_reducible assumption) | (with_reducible refine BX.new _ _ _ _ _ _ _ _ (by first | omega | (simp; done) | (simp; omega))) | (with_reducible refine BX.below ?_ (by assumption) (by first | omega | (simp; done) | (simp; omega))) | (with_reducible apply BX.drew) | (with_reducible apply BX.drewN) | (with_reducible refine BX.put ?_) | (with_reducible refine BX.put2 ?_) | (with_reducible refine BX.far ?_ (by simp only [ne_eq]; omega) _) | (with_reducible apply BX.alloc) | (with_reducible refine B3.new _ _ _ _ _ _ (by first | omega | (simp; done) | (simp; omega))) | (with_reducible refine B3.of (by assumption)) | (with_reducible refine B3.below ?_ (by assumption) (by first | omega | (simp; done) | (simp; omega))) | (with_reducible apply B3.drew) | (with_reducible apply B3.drewN) | (with_reducible refine B3.far ?_ (by simp only [ne_eq]; omega) _) | (with_reducible apply B3.alloc)))); have hbw1 : Below w.heap.size w w1 := (by (repeat (first | (with_reducible exact Below.refl _ _) | (with_reducible assumption) | (with_reducible refine below_drewN ?_ _) | (with_reducible refine Below.drew ?_) | (with_reducible refine Below.alloc ?_ ?_ _) | (with_reducible refine Below.setCell ?_ ?_ _) | (with_reducible refine below_into ?_ (by assumption) (by first | omega | (simp; done) | (simp; omega))) | go_size))); obtain ⟨ma, mb, mc, mf, ml⟩ := hM1.mx
    clear ho1
    go_wp2_with fail
    go_at_call 74; refine (impl_areNumbers Ab nb capb bs _ (C := w.heap.size) (by (repeat (first | (with_reducible exact H3.out) | (with_reducible refine RI.drew ?_) | (with_reducible refine RI.drewN ?_ _) | (with_reducible refine RI.alloc ?_ (by first | omega | (simp; done) | (simp; omega)) _) | (with_reducible refine RI.setCell ?_ (by first | omega | (simp; done) | (simp; omega)) _) | (with_reducible refine RI.below ?_ (by assumption) (by first | omega | (simp; done) | (simp; omega)))))) hnb).mono ?_; rw [HA.out]; rintro e w' ⟨rfl, rfl⟩
    go_wp2_with fail
    go_ret2
    exact ⟨_, _, _, rfl, OR.empty2 _ (w1.heap.size + 1) (by simp) (by simp; omega), by (repeat (first | (with_reducible exact Below.refl _ _) | (with_reducible assumption) | (with_reducible refine below_drewN ?_ _) | (with_reducible refine Below.drew ?_) | (with_reducible refine Below.alloc ?_ ?_ _) | (with_reducible refine Below.setCell ?_ ?_ _) | (with_reducible refine below_into ?_ (by assumption) (by first | omega | (simp; done) | (simp; omega))) | go_size))⟩
  · rw [smV_yes hs, hs]
    have K := imOk_of hi
    have HB := Lib.hid hi
    have HX := Lib.hid (imM_yes hi)
    have HA := Lib.hid ha
    have HF := Lib.hid K.f0
    have hp1 := K.p1
    have hp2 := K.p2
    have hr1 := K.r1
    obtain ⟨R, rfl⟩ := nat_of K.r0
    have hbd : ∀ k, -9223372036854775808 ≤ bs.getD k 0 ∧ bs.getD k 0 ≤ 9223372036854775807 := fun k => by
      by_cases hk : k < bs.length
      · have := (isNum_iff _).1 (List.all_eq_true.1 ha _ (mem_getD hk))
        omega
      · simp [List.getD, List.getElem?_eq_none (show bs.length ≤ k by omega)]
    have HBD := Lib.hid hbd
    rw [hlb] at hl
    have hnR : nb = R := by have := (bne_eq_false_iff_eq).1 hl; omega
    have HNR := Lib.hid hnR
    have hnR2 : nb ≤ R ∧ R ≤ nb := by omega
    simp only [Int.toNat_natCast] at HX ⊢
    generalize (imS (R : Int) c xs p).f = F at *
    clear hi hs K hlb ha hbd hnR
    go_enter Try.func33, Try.ntmps33
    go_wp2_with fail
    refine (impl_InverseMod R c p A n cap xs _ (B := w.heap.size) (by (repeat (first | (with_reducible exact H2.out) | (with_reducible refine RI.drew ?_) | (with_reducible refine RI.drewN ?_ _) | (with_reducible refine RI.alloc ?_ (by first | omega | (simp; done) | (simp; omega)) _) | (with_reducible refine RI.setCell ?_ (by first | omega | (simp; done) | (simp; omega)) _) | (with_reducible refine RI.below ?_ (by assumption) (by first | omega | (simp; done) | (simp; omega)))))) (by first | omega | (simp; done) | (simp; omega)) hn).mono ?_
    rw [HB.out, HX.out]
    rintro e w1 ⟨Ai, ni, capi, rfl, ho1, hb1⟩
    have hsz1 := hb1.size
    simp at hsz1
    have hM1 : BM w1 w.heap.size R c A n cap := by (repeat (first | (with_reducible assumption) | (with_reducible refine BX.new _ _ _ _ _ _ _ _ (by first | omega | (simp; done) | (simp; omega))) | (with_reducible refine BX.below ?_ (by assumption) (by first | omega | (simp; done) | (simp; omega))) | (with_reducible apply BX.drew) | (with_reducible apply BX.drewN) | (with_reducible refine BX.put ?_) | (with_reducible refine BX.put2 ?_) | (with_reducible refine BX.far ?_ (by simp only [ne_eq]; omega) _) | (with_reducible apply BX.alloc) | (with_reducible refine B3.new _ _ _ _ _ _ (by first | omega | (simp; done) | (simp; omega))) | (with_reducible refine B3.of (by assumption)) | (with_reducible refine B3.below ?_ (by assumption) (by first | omega | (simp; done) | (simp; omega))) | (with_reducible apply B3.drew) | (with_reducible apply B3.drewN) | (with_reducible refine B3.far ?_ (by simp only [ne_eq]; omega) _) | (with_reducible apply B3.alloc)))
    have hbw1 : Below w.heap.size w w1 := by (repeat (first | (with_reducible exact Below.refl _ _) | (with_reducible assumption) | (with_reducible refine below_drewN ?_ _) | (with_reducible refine Below.drew ?_) | (with_reducible refine Below.alloc ?_ ?_ _) | (with_reducible refine Below.setCell ?_ ?_ _) | (with_reducible refine below_into ?_ (by assumption) (by first | omega | (simp; done) | (simp; omega))) | go_size))
    obtain ⟨ma, mb, mc, mf, ml⟩ := hM1.mx
    have hni := ho1.lenEq
    simp only [tb_len] at hni
    have hRR : R * R ≤ 12 * 12 := Nat.mul_le_mul (by omega) (by omega)
    have hni2 : ni ≤ 1048576 := by omega
    have ho1' : OR w1 (w.heap.size + 1) (.slice Ai ni capi) (tb R R (fun i j => F i (R + j))) := OR.mono ho1 (by simp)
    have HNI := Lib.hid hni
    clear ho1 hni
    go_wp2_with fail
    go_at_call 74; refine (impl_areNumbers Ab nb capb bs _ (C := w.heap.size) (by (repeat (first | (with_reducible exact H3.out) | (with_reducible refine RI.drew ?_) | (with_reducible refine RI.drewN ?_ _) | (with_reducible refine RI.alloc ?_ (by first | omega | (simp; done) | (simp; omega)) _) | (with_reducible refine RI.setCell ?_ (by first | omega | (simp; done) | (simp; omega)) _) | (with_reducible refine RI.below ?_ (by assumption) (by first | omega | (simp; done) | (simp; omega)))))) hnb).mono ?_; rw [HA.out]; rintro e w' ⟨rfl, rfl⟩
    go_wp2_with fail
    refine (impl_timesMod R R p Ai Ab ni capi nb capb (fun i j => F i (R + j)) bs _ (B' := w.heap.size) (OR.reads (B := w.heap.size + 1) (cap := capi) (by (repeat (first | (with_reducible exact ho1') | (with_reducible refine OR.drew ?_) | (with_reducible refine OR.drewN ?_ _) | (with_reducible refine OR.alloc ?_ _) | (with_reducible refine OR.below ?_ (by assumption) (by first | omega | (simp; done) | (simp; omega))) | (with_reducible refine OR.low ?_ (by first | omega | (simp only []; omega) | (simp; omega)) _))))) (by (repeat (first | (with_reducible exact H3.out) | (with_reducible refine RI.drew ?_) | (with_reducible refine RI.drewN ?_ _) | (with_reducible refine RI.alloc ?_ (by first | omega | (simp; done) | (simp; omega)) _) | (with_reducible refine RI.setCell ?_ (by first | omega | (simp; done) | (simp; omega)) _) | (with_reducible refine RI.below ?_ (by assumption) (by first | omega | (simp; done) | (simp; omega)))))) (Nat.le_refl _) (by first | omega | (simp; done) | (simp; omega)) hni2 (by omega) (by omega) HNR.out ⟨hp1, hp2⟩ (fun i j => HF.out i (R + j)) HBD.out).mono ?_
    rintro e w2 ⟨At, nt, capt, rfl, ho2, hb2⟩
    have hsz2 := hb2.size
    simp at hsz2
    have hbw2 : Below w.heap.size w w2 := by (repeat (first | (with_reducible exact Below.refl _ _) | (with_reducible assumption) | (with_reducible refine below_drewN ?_ _) | (with_reducible refine Below.drew ?_) | (with_reducible refine Below.alloc ?_ ?_ _) | (with_reducible refine Below.setCell ?_ ?_ _) | (with_reducible refine below_into ?_ (by assumption) (by first | omega | (simp; done) | (simp; omega))) | go_size))
    go_wp2_with fail
    go_ret2
    exact ⟨_, _, _, rfl, OR.mono ho2 (by simp; omega), by (repeat (first | (with_reducible exact Below.refl _ _) | (with_reducible assumption) | (with_reducible refine below_drewN ?_ _) | (with_reducible refine Below.drew ?_) | (with_reducible refine Below.alloc ?_ ?_ _) | (with_reducible refine Below.setCell ?_ ?_ _) | (with_reducible refine below_into ?_ (by assumption) (by first | omega | (simp; done) | (simp; omega))) | go_size))⟩
end Go.Proofs.Ytfiilpamekpmpaa

/-
  DERIVED. SolveMod of the reference.
-/
import Derived.Test.YtfiilpamekpmpaaSolM
import Derived.Test.YtfiilpamekpmpaaInvS
namespace Go.Proofs.Ytfiilpamekpmpaa
open Go.RowKit
set_option linter.unusedVariables false
set_option linter.unusedSimpArgs false
theorem OR.shapeI {w : World} {B : Nat} {v : Value} {xs : List Int} (h : OR w B v xs) : ∃ A c, v = .slice A xs.length c := by
  rcases h.form with ⟨h1, h2⟩ | ⟨g, c, h1, _⟩
  · subst h2; exact ⟨_, _, h1⟩
  · exact ⟨_, _, h1⟩
set_option maxRecDepth 100000 in
set_option maxHeartbeats 8000000 in
theorem spec_SolveMod (r c p : Int) (A Ab : Option Addr) (n cap nb capb : Nat) (xs bs : List Int) (w : World) {B B' : Nat} (h : RI w B A n xs) (hb : RI w B' Ab nb bs) (hB : B ≤ w.heap.size) (hB' : B' ≤ w.heap.size) (hn : n ≤ 1048576) (hnb : nb ≤ 1048576) :
    Calls Try.prog 31 #[.agg #[.int .i64 r, .int .i64 c, .slice A n cap], .slice Ab nb capb, .int .i64 p] w (IBR (smV r c xs bs p) (smB r c xs bs p) w) := by
  have hlb := hb.len
  have H2 := Lib.hid (h.more hB)
  have H3 := Lib.hid (hb.more hB')
  clear h hb
  have hcs : (imB r c xs p = false ∧ smB r c xs bs p = false) ∨ (imB r c xs p = true ∧ ((bs.length : Int) != r) = true ∧ smB r c xs bs p = false) ∨ (imB r c xs p = true ∧ ((bs.length : Int) != r) = false) := by
    rcases sm_cases r c xs bs p with h | h | h | h
    · exact .inl h
    · exact .inr (.inl h)
    · exact .inr (.inr ⟨h.1, h.2.1⟩)
    · exact .inr (.inr ⟨h.1, h.2.1⟩)
  rcases hcs with ⟨hi, hs⟩ | ⟨hi, hl, hs⟩ | ⟨hi, hl⟩
  · rw [smV_no hs, hs]
    have HB := Lib.hid hi
    have HX := Lib.hid (imM_no hi)
    clear hi hs hlb
    go_enter Try.func31, Try.ntmps31
    go_wp2_with fail
    refine (spec_InverseMod r c p A n cap xs _ (B := w.heap.size) (by (repeat (first | (with_reducible exact H2.out) | (with_reducible refine RI.drew ?_) | (with_reducible refine RI.drewN ?_ _) | (with_reducible refine RI.alloc ?_ (by first | omega | (simp; done) | (simp; omega)) _) | (with_reducible refine RI.setCell ?_ (by first | omega | (simp; done) | (simp; omega)) _) | (with_reducible refine RI.below ?_ (by assumption) (by first | omega | (simp; done) | (simp; omega)))))) (by first | omega | (simp; done) | (simp; omega)) hn).mono ?_; rw [HB.out, HX.out]; rintro e w1 ⟨Ai, ni, capi, rfl, ho1, hb1⟩; have hsz1 := hb1.size; simp at hsz1; have hM1 : BM w1 w.heap.size r c A n cap := (by (repeat (first | (with_reducible assumption) | (with_reducible refine BX.new _ _ _ _ _ _ _ _ (by first | omega | (simp; done) | (simp; omega))) | (with_reducible refine BX.below ?_ (by assumption) (by first | omega | (simp; done) | (simp; omega))) | (with_reducible apply BX.drew) | (with_reducible apply BX.drewN) | (with_reducible refine BX.put ?_) | (with_reducible refine BX.put2 ?_) | (with_reducible refine BX.far ?_ (by simp only [ne_eq]; omega) _) | (with_reducible apply BX.alloc) | (with_reducible refine B3.new _ _ _ _ _ _ (by first | omega | (simp; done) | (simp; omega))) | (with_reducible refine B3.of (by assumption)) | (with_reducible refine B3.below ?_ (by assumption) (by first | omega | (simp; done) | (simp; omega))) | (with_reducible apply B3.drew) | (with_reducible apply B3.drewN) | (with_reducible refine B3.far ?_ (by simp only [ne_eq]; omega) _) | (with_reducible apply B3.alloc)))); have hbw1 : Below w.heap.size w w1 := (by (repeat (first | (with_reducible exact Below.refl _ _) | (with_reducible assumption) | (with_reducible refine below_drewN ?_ _) | (with_reducible refine Below.drew ?_) | (with_reducible refine Below.alloc ?_ ?_ _) | (with_reducible refine Below.setCell ?_ ?_ _) | (with_reducible refine below_into ?_ (by assumption) (by first | omega | (simp; done) | (simp; omega))) | go_size))); obtain ⟨ma, mb, mc, mf, ml⟩ := hM1.mx
    go_wp2_with fail
    go_ret2
    exact ⟨_, _, _, rfl, OR.empty2 _ (w1.heap.size + 1) (by simp) (by simp; omega), by (repeat (first | (with_reducible exact Below.refl _ _) | (with_reducible assumption) | (with_reducible refine below_drewN ?_ _) | (with_reducible refine Below.drew ?_) | (with_reducible refine Below.alloc ?_ ?_ _) | (with_reducible refine Below.setCell ?_ ?_ _) | (with_reducible refine below_into ?_ (by assumption) (by first | omega | (simp; done) | (simp; omega))) | go_size))⟩
  · rw [smV_no hs, hs]
    have K := imOk_of hi
    have HB := Lib.hid hi
    have HX := Lib.hid (imM_yes hi)
    rw [hlb] at hl
    generalize (imS r c xs p).f = F at *
    clear hi hs K hlb
    go_enter Try.func31, Try.ntmps31
    go_wp2_with fail
    refine (spec_InverseMod r c p A n cap xs _ (B := w.heap.size) (by (repeat (first | (with_reducible exact H2.out) | (with_reducible refine RI.drew ?_) | (with_reducible refine RI.drewN ?_ _) | (with_reducible refine RI.alloc ?_ (by first | omega | (simp; done) | (simp; omega)) _) | (with_reducible refine RI.setCell ?_ (by first | omega | (simp; done) | (simp; omega)) _) | (with_reducible refine RI.below ?_ (by assumption) (by first | omega | (simp; done) | (simp; omega)))))) (by first | omega | (simp; done) | (simp; omega)) hn).mono ?_; rw [HB.out, HX.out]; rintro e w1 ⟨Ai, ni, capi, rfl, ho1, hb1⟩; have hsz1 := hb1.size; simp at hsz1; have hM1 : BM w1 w.heap.size r c A n cap := (by (repeat (first | (with_reducible assumption) | (with_reducible refine BX.new _ _ _ _ _ _ _ _ (by first | omega | (simp; done) | (simp; omega))) | (with_reducible refine BX.below ?_ (by assumption) (by first | omega | (simp; done) | (simp; omega))) | (with_reducible apply BX.drew) | (with_reducible apply BX.drewN) | (with_reducible refine BX.put ?_) | (with_reducible refine BX.put2 ?_) | (with_reducible refine BX.far ?_ (by simp only [ne_eq]; omega) _) | (with_reducible apply BX.alloc) | (with_reducible refine B3.new _ _ _ _ _ _ (by first | omega | (simp; done) | (simp; omega))) | (with_reducible refine B3.of (by assumption)) | (with_reducible refine B3.below ?_ (by assumption) (by first | omega | (simp; done) | (simp; omega))) | (with_reducible apply B3.drew) | (with_reducible apply B3.drewN) | (with_reducible refine B3.far ?_ (by simp only [ne_eq]; omega) _) | (with_reducible apply B3.alloc)))); have hbw1 : Below w.heap.size w w1 := (by (repeat (first | (with_reducible exact Below.refl _ _) | (with_reducible assumption) | (with_reducible refine below_drewN ?_ _) | (with_reducible refine Below.drew ?_) | (with_reducible refine Below.alloc ?_ ?_ _) | (with_reducible refine Below.setCell ?_ ?_ _) | (with_reducible refine below_into ?_ (by assumption) (by first | omega | (simp; done) | (simp; omega))) | go_size))); obtain ⟨ma, mb, mc, mf, ml⟩ := hM1.mx
    clear ho1
    go_wp2_with fail
    go_ret2
    exact ⟨_, _, _, rfl, OR.empty2 _ (w1.heap.size + 1) (by simp) (by simp; omega), by (repeat (first | (with_reducible exact Below.refl _ _) | (with_reducible assumption) | (with_reducible refine below_drewN ?_ _) | (with_reducible refine Below.drew ?_) | (with_reducible refine Below.alloc ?_ ?_ _) | (with_reducible refine Below.setCell ?_ ?_ _) | (with_reducible refine below_into ?_ (by assumption) (by first | omega | (simp; done) | (simp; omega))) | go_size))⟩
  · have K := imOk_of hi
    have HB := Lib.hid hi
    have HX := Lib.hid (imM_yes hi)
    have HF0 := Lib.hid K.f0
    have hp1 := K.p1
    have hp2 := K.p2
    have hr1 := K.r1
    have hyes : bs.all isNum = true → smB r c xs bs p = true := fun e => by
      unfold smB; rw [hi, e]; simpa using hl
    have hno : bs.all isNum = false → smB r c xs bs p = false := fun e => by
      unfold smB; rw [e]; simp
    have HYES : Hid (bs.all isNum = true → smB r c xs bs p = true ∧ smV r c xs bs p = smL r.toNat r.toNat (fun i j => (imS r c xs p).f i (r.toNat + j)) bs p) := Lib.hid (fun e => ⟨hyes e, smV_yes (hyes e)⟩)
    have HNO : Hid (bs.all isNum = false → smB r c xs bs p = false ∧ smV r c xs bs p = []) := Lib.hid (fun e => ⟨hno e, smV_no (hno e)⟩)
    obtain ⟨R, rfl⟩ := nat_of K.r0
    rw [hlb] at hl
    have hnR : nb = R := by have := (bne_eq_false_iff_eq).1 hl; omega
    have HNR := Lib.hid hnR
    have hnR2 : nb ≤ R ∧ R ≤ nb := by omega
    have hlb2 : bs.length ≤ R ∧ R ≤ bs.length := by omega
    simp only [Int.toNat_natCast] at HX HYES
    have HF : Hid (∀ i j : Nat, 0 ≤ (fun i j => (imS (R : Int) c xs p).f i (R + j)) i j ∧ (fun i j => (imS (R : Int) c xs p).f i (R + j)) i j < p) := Lib.hid (fun i j => HF0.out i (R + j))
    generalize (fun i j : Nat => (imS (R : Int) c xs p).f i (R + j)) = F at *
    generalize smB (R : Int) c xs bs p = vb at *
    generalize smV (R : Int) c xs bs p = vv at *
    clear hi K hlb hnR HF0 hyes hno
    go_enter Try.func31, Try.ntmps31
    go_wp2_with fail
    refine (spec_InverseMod R c p A n cap xs _ (B := w.heap.size) (by (repeat (first | (with_reducible exact H2.out) | (with_reducible refine RI.drew ?_) | (with_reducible refine RI.drewN ?_ _) | (with_reducible refine RI.alloc ?_ (by first | omega | (simp; done) | (simp; omega)) _) | (with_reducible refine RI.setCell ?_ (by first | omega | (simp; done) | (simp; omega)) _) | (with_reducible refine RI.below ?_ (by assumption) (by first | omega | (simp; done) | (simp; omega)))))) (by first | omega | (simp; done) | (simp; omega)) hn).mono ?_
    rw [HB.out, HX.out]
    rintro e w1 ⟨Ai, ni, capi, rfl, ho1, hb1⟩
    have hsz1 := hb1.size
    simp at hsz1
    have hM1 : BM w1 w.heap.size R c A n cap := by (repeat (first | (with_reducible assumption) | (with_reducible refine BX.new _ _ _ _ _ _ _ _ (by first | omega | (simp; done) | (simp; omega))) | (with_reducible refine BX.below ?_ (by assumption) (by first | omega | (simp; done) | (simp; omega))) | (with_reducible apply BX.drew) | (with_reducible apply BX.drewN) | (with_reducible refine BX.put ?_) | (with_reducible refine BX.put2 ?_) | (with_reducible refine BX.far ?_ (by simp only [ne_eq]; omega) _) | (with_reducible apply BX.alloc) | (with_reducible refine B3.new _ _ _ _ _ _ (by first | omega | (simp; done) | (simp; omega))) | (with_reducible refine B3.of (by assumption)) | (with_reducible refine B3.below ?_ (by assumption) (by first | omega | (simp; done) | (simp; omega))) | (with_reducible apply B3.drew) | (with_reducible apply B3.drewN) | (with_reducible refine B3.far ?_ (by simp only [ne_eq]; omega) _) | (with_reducible apply B3.alloc)))
    have hbw1 : Below w.heap.size w w1 := by (repeat (first | (with_reducible exact Below.refl _ _) | (with_reducible assumption) | (with_reducible refine below_drewN ?_ _) | (with_reducible refine Below.drew ?_) | (with_reducible refine Below.alloc ?_ ?_ _) | (with_reducible refine Below.setCell ?_ ?_ _) | (with_reducible refine below_into ?_ (by assumption) (by first | omega | (simp; done) | (simp; omega))) | go_size))
    obtain ⟨ma, mb, mc, mf, ml⟩ := hM1.mx
    have hni := ho1.lenEq
    simp only [tb_len] at hni
    have hRR : R * R ≤ 12 * 12 := Nat.mul_le_mul (by omega) (by omega)
    have hni2 : ni ≤ R * R ∧ R * R ≤ ni := by omega
    have ho1' : OR w1 (w.heap.size + 1) (.slice Ai ni capi) (tb R R F) := OR.mono ho1 (by simp)
    clear ho1 hni
    go_wp2_with fail
    generalize hbI : w1.heap.size = bI at *
    have hM : BM ((w1.alloc (.cells #[.int .i64 R, .int .i64 R, .slice Ai ni capi] 28)).alloc (.cells #[] 3)) w.heap.size R c A n cap := by (repeat (first | (with_reducible exact hM1) | (with_reducible refine BX.new _ _ _ _ _ _ _ _ (by first | omega | (simp; done) | (simp; omega))) | (with_reducible refine BX.below ?_ (by assumption) (by first | omega | (simp; done) | (simp; omega))) | (with_reducible apply BX.drew) | (with_reducible apply BX.drewN) | (with_reducible refine BX.put ?_) | (with_reducible refine BX.put2 ?_) | (with_reducible refine BX.far ?_ (by simp only [ne_eq]; omega) _) | (with_reducible apply BX.alloc) | (with_reducible refine B3.new _ _ _ _ _ _ (by first | omega | (simp; done) | (simp; omega))) | (with_reducible exact B3.of hM1) | (with_reducible refine B3.below ?_ (by assumption) (by first | omega | (simp; done) | (simp; omega))) | (with_reducible apply B3.drew) | (with_reducible apply B3.drewN) | (with_reducible refine B3.far ?_ (by simp only [ne_eq]; omega) _) | (with_reducible apply B3.alloc)))
    have hI : BM ((w1.alloc (.cells #[.int .i64 R, .int .i64 R, .slice Ai ni capi] 28)).alloc (.cells #[] 3)) bI R R Ai ni capi := by (repeat (first | (with_reducible assumption) | (with_reducible refine BX.new _ _ _ _ _ _ _ _ (by first | omega | (simp; done) | (simp; omega))) | (with_reducible refine BX.below ?_ (by assumption) (by first | omega | (simp; done) | (simp; omega))) | (with_reducible apply BX.drew) | (with_reducible apply BX.drewN) | (with_reducible refine BX.put ?_) | (with_reducible refine BX.put2 ?_) | (with_reducible refine BX.far ?_ (by simp only [ne_eq]; omega) _) | (with_reducible apply BX.alloc) | (with_reducible refine B3.new _ _ _ _ _ _ (by first | omega | (simp; done) | (simp; omega))) | (with_reducible refine B3.of (by assumption)) | (with_reducible refine B3.below ?_ (by assumption) (by first | omega | (simp; done) | (simp; omega))) | (with_reducible apply B3.drew) | (with_reducible apply B3.drewN) | (with_reducible refine B3.far ?_ (by simp only [ne_eq]; omega) _) | (with_reducible apply B3.alloc)))
    have how : OR ((w1.alloc (.cells #[.int .i64 R, .int .i64 R, .slice Ai ni capi] 28)).alloc (.cells #[] 3)) (w.heap.size + 1) (.slice Ai ni capi) (tb R R F) := by (repeat (first | (with_reducible exact ho1') | (with_reducible refine OR.drew ?_) | (with_reducible refine OR.drewN ?_ _) | (with_reducible refine OR.alloc ?_ _) | (with_reducible refine OR.below ?_ (by assumption) (by first | omega | (simp; done) | (simp; omega))) | (with_reducible refine OR.low ?_ (by first | omega | (simp only []; omega) | (simp; omega)) _)))
    have hP : OR ((w1.alloc (.cells #[.int .i64 R, .int .i64 R, .slice Ai ni capi] 28)).alloc (.cells #[] 3)) (bI + 1) (.slice (some ⟨bI + 1, 0, none⟩) 0 0) ((smL R R F bs p).take 0) := OR.empty2 _ (bI + 1) (by simp; omega) (by simp; omega)
    have hbw : Below w.heap.size w ((w1.alloc (.cells #[.int .i64 R, .int .i64 R, .slice Ai ni capi] 28)).alloc (.cells #[] 3)) := by (repeat (first | (with_reducible exact Below.refl _ _) | (with_reducible assumption) | (with_reducible refine below_drewN ?_ _) | (with_reducible refine Below.drew ?_) | (with_reducible refine Below.alloc ?_ ?_ _) | (with_reducible refine Below.setCell ?_ ?_ _) | (with_reducible refine below_into ?_ (by assumption) (by first | omega | (simp; done) | (simp; omega))) | go_size))
    have HUI : Hid (Own (.slice Ai ni capi) (w.heap.size + 1) bI) := Lib.hid (by rw [← hbI]; exact ho1'.own)
    generalize hwo : (w1.alloc (.cells #[.int .i64 R, .int .i64 R, .slice Ai ni capi] 28)).alloc (.cells #[] 3) = wo at *
    clear hwo ma mb mc mf ml hM1 hbw1 ho1' hb1
    go_loopw [10, 11] (fun u v wr => ∃ (i : Nat) (P : Option Addr) (pc : Nat), v = .int .i64 i ∧ u = .slice P i pc ∧ i ≤ R ∧ (0 < i → bs.all isNum = true) ∧ BM wr w.heap.size R c A n cap ∧ BM wr bI R R Ai ni capi ∧ OR wr (w.heap.size + 1) (.slice Ai ni capi) (tb R R F) ∧ OR wr (bI + 1) (.slice P i pc) ((smL R R F bs p).take i) ∧ Below w.heap.size w wr) (fun _ v _ => R - (intOf v).toNat)
    case atStart => exact ⟨0, _, _, rfl, rfl, Nat.zero_le _, fun h => absurd h (by omega), hM, hI, how, hP, hbw⟩
    case round =>
      clear hM hI how hP hbw
      obtain ⟨i, P, pc, rfl, rfl, hi, hal0, hM, hI, how, hP, hbw⟩ := hrel
      have HAL := Lib.hid hal0
      clear hal0
      have hli := hI.lt
      by_cases hiR : i < R
      · obtain ⟨ma, mb, mc, mf, ml⟩ := hM.mx; obtain ⟨oa, ob, oc, of, ol⟩ := hI.mx
        go_wp2_with fail
        obtain ⟨wo2, rfl⟩ : ∃ wo : World, wo = wr := ⟨_, rfl⟩
        go_loopw [12, 13] (fun u v wr => ∃ k : Nat, v = .int .i64 k ∧ u = .int .i64 (smS F bs p i k) ∧ k ≤ R ∧ (bs.take k).all isNum = true ∧ BM wr w.heap.size R c A n cap ∧ BM wr bI R R Ai ni capi ∧ OR wr (w.heap.size + 1) (.slice Ai ni capi) (tb R R F) ∧ OR wr (bI + 1) (.slice P i pc) ((smL R R F bs p).take i) ∧ Below w.heap.size w wr) (fun _ v _ => R - (intOf v).toNat)
        case atStart => exact ⟨0, rfl, rfl, Nat.zero_le _, by simp, hM, hI, how, hP, hbw⟩
        case round =>
          clear ma mb mc mf ml oa ob oc of ol
          clear hM hI how hP hbw
          obtain ⟨k, rfl, rfl, hk, htk, hM, hI, how, hP, hbw⟩ := hrel
          have HTK := Lib.hid htk
          clear htk
          obtain ⟨ma, mb, mc, mf, ml⟩ := hM.mx; obtain ⟨oa, ob, oc, of, ol⟩ := hI.mx
          by_cases hkR : k < R
          · obtain ⟨bb, oo, rfl, hbb, _⟩ := H3.out.2 (by omega)
            have hbi : RI wr w.heap.size (some ⟨bb, oo, none⟩) nb bs := by (repeat (first | (with_reducible exact H3.out) | (with_reducible refine RI.drew ?_) | (with_reducible refine RI.drewN ?_ _) | (with_reducible refine RI.alloc ?_ (by first | omega | (simp; done) | (simp; omega)) _) | (with_reducible refine RI.setCell ?_ (by first | omega | (simp; done) | (simp; omega)) _) | (with_reducible refine RI.below ?_ (by assumption) (by first | omega | (simp; done) | (simp; omega)))))
            have c2 := hbi.at_ (k := k) (by omega)
            have hat := all_take (xs := bs) (p := isNum) (show k < bs.length by omega)
            have hfa := all_false (xs := bs) (p := isNum) (show k < bs.length by omega)
            rw [HTK.out, Bool.true_and] at hat
            obtain ⟨y1, y2⟩ := HF.out i k
            obtain ⟨s1, s2⟩ := smS_bd (f := F) (bs := bs) hp1 i k
            have hstep : smS F bs p i (k + 1) = (smS F bs p i k + F i k * (bs.getD k 0 % p)) % p := rfl
            obtain ⟨z, hz⟩ : ∃ z, bs.getD k 0 = z := ⟨_, rfl⟩
            rw [hz] at c2 hat hfa hstep
            clear hz
            by_cases hzn : -400000000 ≤ z ∧ z ≤ 400000000
            · obtain ⟨z1, z2⟩ := hzn
              have htk2 : (bs.take (k + 1)).all isNum = true := hat.trans ((isNum_iff z).2 ⟨z1, z2⟩)
              have HTK2 := Lib.hid htk2
              have HSTEP := Lib.hid hstep
              clear hat hfa htk2 hstep
              obtain ⟨gi, rfl, hgi1, hgi2⟩ := how.begins (by rw [tb_len]; exact Nat.mul_pos (by omega) (by omega))
              have hix := idx_nat hiR hkR
              have c1 := how.cell (i * R + k) (by rw [tb_len]; exact hix)
              rw [tb_at hiR hkR] at c1
              have i1 : (i : Int) * (R : Int) = ((i * R : Nat) : Int) := by rw [Int.natCast_mul]
              have e1 : ((i : Int) * (R : Int) + (k : Int)).toNat = i * R + k := by omega
              have g3 : IntKind.i64.wrap ((i : Int) * (R : Int)) = (i : Int) * (R : Int) := IntWalk.i64_in _ (by omega)
              have g4 : IntKind.i64.wrap ((i : Int) * (R : Int) + (k : Int)) = (i : Int) * (R : Int) + (k : Int) := IntWalk.i64_in _ (by omega)
              have g5 : 0 ≤ (i : Int) * (R : Int) + (k : Int) ∧ (i : Int) * (R : Int) + (k : Int) < (ni : Int) := by omega
              have m1 := Int.emod_nonneg z (show p ≠ 0 by omega)
              have m2 := Int.emod_lt_of_pos z (show 0 < p by omega)
              generalize F i k = y at *
              generalize smS F bs p i k = s at *
              obtain ⟨m3, m4⟩ := mul_bd y (z % p) 10000 10000 y1 (by omega) m1 (by omega)
              have g1 : IntKind.i64.wrap (y * (z % p)) = y * (z % p) := IntWalk.i64_in _ (by omega)
              have g2 : IntKind.i64.wrap (s + y * (z % p)) = s + y * (z % p) := IntWalk.i64_in _ (by omega)
              have g6 : (s + y * (z % p)).tmod p = (s + y * (z % p)) % p := Int.tmod_eq_emod_of_nonneg (by omega)
              have hp0 : ¬ p = 0 := by omega
              have hkn : k < nb := by omega
              rw [← e1] at c1
              have G6 := Lib.hid g6
              clear i1 e1 g6
              go_wp2_with (first | (go_at_call 72; (first | refine (spec_IsNumber_yes _ _ (by omega)).mono ?_ | refine (spec_IsNumber_no _ _ (by omega)).mono ?_ | refine (spec_IsNumber _ _).mono ?_); rintro e w' ⟨rfl, rfl⟩))
              ((refine wp_region_held_drew (S := (fun w' => w'.cell? ⟨w.heap.size, 0, none⟩ = some (.int .i64 R) ∧ w'.cell? ⟨bI, 2, none⟩ = some (.slice (some ⟨gi, 0, none⟩) ni capi) ∧ w'.cell? ⟨bb, oo + k, none⟩ = some (.int .i64 z) ∧ w'.cell? ⟨gi, ((i : Int) * (R : Int) + (k : Int)).toNat, none⟩ = some (.int .i64 y))) (by kernel_rfl) ?_ (fun hHeld => ?_)); ((focus ((try dsimp only); (go_keep)))); ((refine wpAnyH_take (i := 0) (v := ?_) (by (first | (simp only [List.getElem?_toArray, List.getElem?_cons_succ, List.getElem?_cons_zero]; done) | (simp only [List.getElem?_toArray, List.getElem?_cons_succ, List.getElem?_cons_zero]; rfl))) (by kernel_rfl) (by kernel_rfl) (by kernel_rfl) (by exact fun _ _ _ h => h) (Or.inl ⟨by rfl, ?_⟩) (by assumption) ?_; rotate_left; (focus (((intro w hSw; (try dsimp only at hSw); go_simp) <;> (try with_reducible rfl)); done)); (try simp only [Act.put, List.setIfInBounds_toArray, List.set_cons_zero, List.set_cons_succ]))); ((refine wpAnyH_take (i := 1) (v := ?_) (by (first | (simp only [List.getElem?_toArray, List.getElem?_cons_succ, List.getElem?_cons_zero]; done) | (simp only [List.getElem?_toArray, List.getElem?_cons_succ, List.getElem?_cons_zero]; rfl))) (by kernel_rfl) (by kernel_rfl) (by kernel_rfl) (by exact fun _ _ _ h => h) (Or.inl ⟨by rfl, ?_⟩) (by assumption) ?_; rotate_left; (focus (((intro w hSw; (try dsimp only at hSw); go_simp) <;> (try with_reducible rfl)); done)); (try simp only [Act.put, List.setIfInBounds_toArray, List.set_cons_zero, List.set_cons_succ]))); ((refine wpAnyH_take (i := 2) (v := ?_) (by (first | (simp only [List.getElem?_toArray, List.getElem?_cons_succ, List.getElem?_cons_zero]; done) | (simp only [List.getElem?_toArray, List.getElem?_cons_succ, List.getElem?_cons_zero]; rfl))) (by kernel_rfl) (by kernel_rfl) (by kernel_rfl) (by exact fun _ _ _ h => h) (Or.inl ⟨by rfl, ?_⟩) (by assumption) ?_; rotate_left; (focus (((intro w hSw; (try dsimp only at hSw); go_simp) <;> (try with_reducible rfl)); done)); (try simp only [Act.put, List.setIfInBounds_toArray, List.set_cons_zero, List.set_cons_succ]))); ((refine wpAnyH_take (i := 3) (v := ?_) (by (first | (simp only [List.getElem?_toArray, List.getElem?_cons_succ, List.getElem?_cons_zero]; done) | (simp only [List.getElem?_toArray, List.getElem?_cons_succ, List.getElem?_cons_zero]; rfl))) (by kernel_rfl) (by kernel_rfl) (by kernel_rfl) (by exact fun _ _ _ h => h) (Or.inl ⟨by rfl, ?_⟩) (by assumption) ?_; rotate_left; (focus (((intro w hSw; (try dsimp only at hSw); go_simp) <;> (try with_reducible rfl)); done)); (try simp only [Act.put, List.setIfInBounds_toArray, List.set_cons_zero, List.set_cons_succ]))); ((refine wpAnyH_take (i := 4) (v := ?_) (by (first | (simp only [List.getElem?_toArray, List.getElem?_cons_succ, List.getElem?_cons_zero]; done) | (simp only [List.getElem?_toArray, List.getElem?_cons_succ, List.getElem?_cons_zero]; rfl))) (by kernel_rfl) (by kernel_rfl) (by kernel_rfl) (by exact fun _ _ _ h => h) (Or.inl ⟨by rfl, ?_⟩) (by assumption) ?_; rotate_left; (focus (((intro w hSw; (try dsimp only at hSw); go_simp) <;> (try with_reducible rfl)); done)); (try simp only [Act.put, List.setIfInBounds_toArray, List.set_cons_zero, List.set_cons_succ]))); ((refine wpAnyH_take (i := 5) (v := ?_) (by (first | (simp only [List.getElem?_toArray, List.getElem?_cons_succ, List.getElem?_cons_zero]; done) | (simp only [List.getElem?_toArray, List.getElem?_cons_succ, List.getElem?_cons_zero]; rfl))) (by kernel_rfl) (by kernel_rfl) (by kernel_rfl) (by exact fun _ _ _ h => h) (Or.inl ⟨by rfl, ?_⟩) (by assumption) ?_; rotate_left; (focus (((intro w hSw; (try dsimp only at hSw); go_simp) <;> (try with_reducible rfl)); done)); (try simp only [Act.put, List.setIfInBounds_toArray, List.set_cons_zero, List.set_cons_succ]))); ((refine wpAnyH_take (i := 6) (v := ?_) (by (first | (simp only [List.getElem?_toArray, List.getElem?_cons_succ, List.getElem?_cons_zero]; done) | (simp only [List.getElem?_toArray, List.getElem?_cons_succ, List.getElem?_cons_zero]; rfl))) (by kernel_rfl) (by kernel_rfl) (by kernel_rfl) (by exact fun _ _ _ h => h) (Or.inl ⟨by rfl, ?_⟩) (by assumption) ?_; rotate_left; (focus (((intro w hSw; (try dsimp only at hSw); go_simp) <;> (try with_reducible rfl)); done)); (try simp only [Act.put, List.setIfInBounds_toArray, List.set_cons_zero, List.set_cons_succ]))); ((refine wpAnyH_take (i := 7) (v := ?_) (by (first | (simp only [List.getElem?_toArray, List.getElem?_cons_succ, List.getElem?_cons_zero]; done) | (simp only [List.getElem?_toArray, List.getElem?_cons_succ, List.getElem?_cons_zero]; rfl))) (by kernel_rfl) (by kernel_rfl) (by kernel_rfl) (by exact fun _ _ _ h => h) (Or.inl ⟨by rfl, ?_⟩) (by assumption) ?_; rotate_left; (focus (((intro w hSw; (try dsimp only at hSw); go_simp) <;> (try with_reducible rfl)); done)); (try simp only [Act.put, List.setIfInBounds_toArray, List.set_cons_zero, List.set_cons_succ]))); ((refine wpAnyH_take (i := 8) (v := ?_) (by (first | (simp only [List.getElem?_toArray, List.getElem?_cons_succ, List.getElem?_cons_zero]; done) | (simp only [List.getElem?_toArray, List.getElem?_cons_succ, List.getElem?_cons_zero]; rfl))) (by kernel_rfl) (by kernel_rfl) (by kernel_rfl) (by exact fun _ _ _ h => h) (Or.inl ⟨by rfl, ?_⟩) (by assumption) ?_; rotate_left; (focus (((intro w hSw; (try dsimp only at hSw); go_simp) <;> (try with_reducible rfl)); done)); (try simp only [Act.put, List.setIfInBounds_toArray, List.set_cons_zero, List.set_cons_succ]))); ((refine wpAnyH_take (i := 9) (v := ?_) (by (first | (simp only [List.getElem?_toArray, List.getElem?_cons_succ, List.getElem?_cons_zero]; done) | (simp only [List.getElem?_toArray, List.getElem?_cons_succ, List.getElem?_cons_zero]; rfl))) (by kernel_rfl) (by kernel_rfl) (by kernel_rfl) (by exact fun _ _ _ h => h) (Or.inl ⟨by rfl, ?_⟩) (by assumption) ?_; rotate_left; (focus (((intro w hSw; (try dsimp only at hSw); go_simp) <;> (try with_reducible rfl)); done)); (try simp only [Act.put, List.setIfInBounds_toArray, List.set_cons_zero, List.set_cons_succ]))); ((refine wpAnyH_take (i := 10) (v := ?_) (by (first | (simp only [List.getElem?_toArray, List.getElem?_cons_succ, List.getElem?_cons_zero]; done) | (simp only [List.getElem?_toArray, List.getElem?_cons_succ, List.getElem?_cons_zero]; rfl))) (by kernel_rfl) (by kernel_rfl) (by kernel_rfl) (by exact fun _ _ _ h => h) (Or.inl ⟨by rfl, ?_⟩) (by assumption) ?_; rotate_left; (focus (((intro w hSw; (try dsimp only at hSw); go_simp) <;> (try with_reducible rfl)); done)); (try simp only [Act.put, List.setIfInBounds_toArray, List.set_cons_zero, List.set_cons_succ]))); ((refine wpAnyH_take (i := 11) (v := ?_) (by (first | (simp only [List.getElem?_toArray, List.getElem?_cons_succ, List.getElem?_cons_zero]; done) | (simp only [List.getElem?_toArray, List.getElem?_cons_succ, List.getElem?_cons_zero]; rfl))) (by kernel_rfl) (by kernel_rfl) (by kernel_rfl) (by exact fun _ _ _ h => h) (Or.inl ⟨by rfl, ?_⟩) (by assumption) ?_; rotate_left; (focus (((intro w hSw; (try dsimp only at hSw); go_simp) <;> (try with_reducible rfl)); done)); (try simp only [Act.put, List.setIfInBounds_toArray, List.set_cons_zero, List.set_cons_succ]))); ((refine wpAnyH_take (i := 12) (v := ?_) (by (first | (simp only [List.getElem?_toArray, List.getElem?_cons_succ, List.getElem?_cons_zero]; done) | (simp only [List.getElem?_toArray, List.getElem?_cons_succ, List.getElem?_cons_zero]; rfl))) (by kernel_rfl) (by kernel_rfl) (by kernel_rfl) (by exact fun _ _ _ h => h) (Or.inl ⟨by rfl, ?_⟩) (by assumption) ?_; rotate_left; (focus (((intro w hSw; (try dsimp only at hSw); go_simp) <;> (try with_reducible rfl)); done)); (try simp only [Act.put, List.setIfInBounds_toArray, List.set_cons_zero, List.set_cons_succ]))); ((refine wpAnyH_take (i := 13) (v := ?_) (by (first | (simp only [List.getElem?_toArray, List.getElem?_cons_succ, List.getElem?_cons_zero]; done) | (simp only [List.getElem?_toArray, List.getElem?_cons_succ, List.getElem?_cons_zero]; rfl))) (by kernel_rfl) (by kernel_rfl) (by kernel_rfl) (by exact fun _ _ _ h => h) (Or.inl ⟨by rfl, ?_⟩) (by assumption) ?_; rotate_left; (focus (((intro w hSw; (try dsimp only at hSw); go_simp) <;> (try with_reducible rfl)); done)); (try simp only [Act.put, List.setIfInBounds_toArray, List.set_cons_zero, List.set_cons_succ]))); ((refine wpAnyH_take (i := 14) (v := ?_) (by (first | (simp only [List.getElem?_toArray, List.getElem?_cons_succ, List.getElem?_cons_zero]; done) | (simp only [List.getElem?_toArray, List.getElem?_cons_succ, List.getElem?_cons_zero]; rfl))) (by kernel_rfl) (by kernel_rfl) (by kernel_rfl) (by exact fun _ _ _ h => h) (Or.inl ⟨by rfl, ?_⟩) (by assumption) ?_; rotate_left; (focus (((intro w hSw; (try dsimp only at hSw); go_simp) <;> (try with_reducible rfl)); done)); (try simp only [Act.put, List.setIfInBounds_toArray, List.set_cons_zero, List.set_cons_succ]))); ((refine wpAnyH_take (i := 15) (v := ?_) (by (first | (simp only [List.getElem?_toArray, List.getElem?_cons_succ, List.getElem?_cons_zero]; done) | (simp only [List.getElem?_toArray, List.getElem?_cons_succ, List.getElem?_cons_zero]; rfl))) (by kernel_rfl) (by kernel_rfl) (by kernel_rfl) (by exact fun _ _ _ h => h) (Or.inl ⟨by rfl, ?_⟩) (by assumption) ?_; rotate_left; (focus (((intro w hSw; (try dsimp only at hSw); go_simp) <;> (try with_reducible rfl)); done)); (try simp only [Act.put, List.setIfInBounds_toArray, List.set_cons_zero, List.set_cons_succ]))); ((refine wpAnyH_take (i := 19) (v := ?_) (by (first | (simp only [List.getElem?_toArray, List.getElem?_cons_succ, List.getElem?_cons_zero]; done) | (simp only [List.getElem?_toArray, List.getElem?_cons_succ, List.getElem?_cons_zero]; rfl))) (by kernel_rfl) (by kernel_rfl) (by kernel_rfl) (by exact fun _ _ _ h => h) (Or.inl ⟨by rfl, ?_⟩) (by assumption) ?_; rotate_left; (focus (((intro w hSw; (try dsimp only at hSw); go_simp) <;> (try with_reducible rfl)); done)); (try simp only [Act.put, List.setIfInBounds_toArray, List.set_cons_zero, List.set_cons_succ]))); ((refine wpAnyH_ready (rs := [16]) (by kernel_rfl) (by simp) ?_; refine AllReadyH.cons (by (first | (simp only [List.getElem?_toArray, List.getElem?_cons_succ, List.getElem?_cons_zero]; done) | (simp only [List.getElem?_toArray, List.getElem?_cons_succ, List.getElem?_cons_zero]; rfl))) (fun K hK => ?_) AllReadyH.nil; go_simp; (go_at_call 73; refine (spec_l8Mod _ _ _ (by omega) (by omega) (by omega) (by omega)).mono ?_; rintro e w' ⟨rfl, rfl⟩); (try go_wp2_with fail); refine hK.out _ _ ?_ (fun hHeld => ?_); (focus ((try dsimp only); (go_keep))); clear hK K; (try simp only [Act.put, List.setIfInBounds_toArray, List.set_cons_zero, List.set_cons_succ]))); ((refine wpAnyH_take (i := 17) (v := ?_) (by (first | (simp only [List.getElem?_toArray, List.getElem?_cons_succ, List.getElem?_cons_zero]; done) | (simp only [List.getElem?_toArray, List.getElem?_cons_succ, List.getElem?_cons_zero]; rfl))) (by kernel_rfl) (by kernel_rfl) (by kernel_rfl) (by exact fun _ _ _ h => h) (Or.inl ⟨by rfl, ?_⟩) (by assumption) ?_; rotate_left; (focus (((intro w hSw; (try dsimp only at hSw); go_simp) <;> (try with_reducible rfl)); done)); (try simp only [Act.put, List.setIfInBounds_toArray, List.set_cons_zero, List.set_cons_succ]))); ((refine wpAnyH_take (i := 18) (v := ?_) (by (first | (simp only [List.getElem?_toArray, List.getElem?_cons_succ, List.getElem?_cons_zero]; done) | (simp only [List.getElem?_toArray, List.getElem?_cons_succ, List.getElem?_cons_zero]; rfl))) (by kernel_rfl) (by kernel_rfl) (by kernel_rfl) (by exact fun _ _ _ h => h) (Or.inl ⟨by rfl, ?_⟩) (by assumption) ?_; rotate_left; (focus (((intro w hSw; (try dsimp only at hSw); go_simp) <;> (try with_reducible rfl)); done)); (try simp only [Act.put, List.setIfInBounds_toArray, List.set_cons_zero, List.set_cons_succ]))); ((refine wpAnyH_take (i := 20) (v := ?_) (by (first | (simp only [List.getElem?_toArray, List.getElem?_cons_succ, List.getElem?_cons_zero]; done) | (simp only [List.getElem?_toArray, List.getElem?_cons_succ, List.getElem?_cons_zero]; rfl))) (by kernel_rfl) (by kernel_rfl) (by kernel_rfl) (by exact fun _ _ _ h => h) (Or.inl ⟨by rfl, ?_⟩) (by assumption) ?_; rotate_left; (focus (((intro w hSw; (try dsimp only at hSw); go_simp) <;> (try with_reducible rfl)); done)); (try simp only [Act.put, List.setIfInBounds_toArray, List.set_cons_zero, List.set_cons_succ]))); ((refine wpAnyH_take (i := 21) (v := ?_) (by (first | (simp only [List.getElem?_toArray, List.getElem?_cons_succ, List.getElem?_cons_zero]; done) | (simp only [List.getElem?_toArray, List.getElem?_cons_succ, List.getElem?_cons_zero]; rfl))) (by kernel_rfl) (by kernel_rfl) (by kernel_rfl) (by exact fun _ _ _ h => h) (Or.inl ⟨by rfl, ?_⟩) (by assumption) ?_; rotate_left; (focus (((intro w hSw; (try dsimp only at hSw); go_simp) <;> (try with_reducible rfl)); done)); (try simp only [Act.put, List.setIfInBounds_toArray, List.set_cons_zero, List.set_cons_succ]))); (refine wpAnyH_done (by kernel_rfl) ?_ _))
              go_wp2_with fail
              go_roundw
              case rel => exact ⟨k + 1, by go_num, by rw [HSTEP.out, ← G6.out], by omega, HTK2.out, by (repeat (first | (with_reducible exact hM) | (with_reducible refine BX.new _ _ _ _ _ _ _ _ (by first | omega | (simp; done) | (simp; omega))) | (with_reducible refine BX.below ?_ (by assumption) (by first | omega | (simp; done) | (simp; omega))) | (with_reducible apply BX.drew) | (with_reducible apply BX.drewN) | (with_reducible refine BX.put ?_) | (with_reducible refine BX.put2 ?_) | (with_reducible refine BX.far ?_ (by simp only [ne_eq]; omega) _) | (with_reducible apply BX.alloc) | (with_reducible refine B3.new _ _ _ _ _ _ (by first | omega | (simp; done) | (simp; omega))) | (with_reducible exact B3.of hM) | (with_reducible refine B3.below ?_ (by assumption) (by first | omega | (simp; done) | (simp; omega))) | (with_reducible apply B3.drew) | (with_reducible apply B3.drewN) | (with_reducible refine B3.far ?_ (by simp only [ne_eq]; omega) _) | (with_reducible apply B3.alloc))), by (repeat (first | (with_reducible exact hI) | (with_reducible refine BX.new _ _ _ _ _ _ _ _ (by first | omega | (simp; done) | (simp; omega))) | (with_reducible refine BX.below ?_ (by assumption) (by first | omega | (simp; done) | (simp; omega))) | (with_reducible apply BX.drew) | (with_reducible apply BX.drewN) | (with_reducible refine BX.put ?_) | (with_reducible refine BX.put2 ?_) | (with_reducible refine BX.far ?_ (by simp only [ne_eq]; omega) _) | (with_reducible apply BX.alloc) | (with_reducible refine B3.new _ _ _ _ _ _ (by first | omega | (simp; done) | (simp; omega))) | (with_reducible exact B3.of hI) | (with_reducible refine B3.below ?_ (by assumption) (by first | omega | (simp; done) | (simp; omega))) | (with_reducible apply B3.drew) | (with_reducible apply B3.drewN) | (with_reducible refine B3.far ?_ (by simp only [ne_eq]; omega) _) | (with_reducible apply B3.alloc))), by (repeat (first | (with_reducible exact how) | (with_reducible refine OR.drew ?_) | (with_reducible refine OR.drewN ?_ _) | (with_reducible refine OR.alloc ?_ _) | (with_reducible refine OR.below ?_ (by assumption) (by first | omega | (simp; done) | (simp; omega))) | (with_reducible refine OR.low ?_ (by first | omega | (simp only []; omega) | (simp; omega)) _))), by (repeat (first | (with_reducible exact hP) | (with_reducible refine OR.drew ?_) | (with_reducible refine OR.drewN ?_ _) | (with_reducible refine OR.alloc ?_ _) | (with_reducible refine OR.below ?_ (by assumption) (by first | omega | (simp; done) | (simp; omega))) | (with_reducible refine OR.low ?_ (by first | omega | (simp only []; omega) | (simp; omega)) _))), by (repeat (first | (with_reducible exact Below.refl _ _) | (with_reducible assumption) | (with_reducible refine below_drewN ?_ _) | (with_reducible refine Below.drew ?_) | (with_reducible refine Below.alloc ?_ ?_ _) | (with_reducible refine Below.setCell ?_ ?_ _) | (with_reducible refine below_into ?_ (by assumption) (by first | omega | (simp; done) | (simp; omega))) | go_size))⟩
              case measure => simp only [intOf]; omega
            · have hbad := hfa ((isNum_not z).2 (by omega))
              obtain ⟨hv1, hv2⟩ := HNO.out hbad
              have HV1 := Lib.hid hv1
              have HV2 := Lib.hid hv2
              have hz3 : z < -400000000 ∨ 400000000 < z := by omega
              clear hzn hfa hat hstep hbad hv1 hv2
              go_wp2_with (first | (go_at_call 72; (first | refine (spec_IsNumber_yes _ _ (by omega)).mono ?_ | refine (spec_IsNumber_no _ _ (by omega)).mono ?_ | refine (spec_IsNumber _ _).mono ?_); rintro e w' ⟨rfl, rfl⟩))
              go_ret2
              rw [HV1.out, HV2.out]
              exact ⟨_, _, _, rfl, OR.empty2 _ wr.heap.size (by simp) (by have := hbw.size; simp; omega), by (repeat (first | (with_reducible exact Below.refl _ _) | (with_reducible assumption) | (with_reducible refine below_drewN ?_ _) | (with_reducible refine Below.drew ?_) | (with_reducible refine Below.alloc ?_ ?_ _) | (with_reducible refine Below.setCell ?_ ?_ _) | (with_reducible refine below_into ?_ (by assumption) (by first | omega | (simp; done) | (simp; omega))) | go_size))⟩
          · obtain rfl : k = R := by omega
            have hall : bs.all isNum = true := by
              have := HTK.out
              rw [List.take_of_length_le (by omega)] at this
              exact this
            have HALL := Lib.hid hall
            have hPl := hP.lenEq
            have hnx : (smL k k F bs p).take i ++ [smS F bs p i k] = (smL k k F bs p).take (i + 1) := by
              rw [List.take_add_one, getD_some (by rw [smL_len]; exact hiR), show (smL k k F bs p).getD i 0 = smS F bs p i k from tab_getD hiR]; rfl
            have HNX := Lib.hid hnx
            have hl2 : ((smL k k F bs p).take i).length ≤ 100000000000 := by rw [List.length_take]; omega
            clear hall hPl hnx
            generalize smS F bs p i k = s at *
            go_wp2_with (at_builtin; refine wpList_append_one _ rfl (.tmp 71) (.tmp 73) rfl (bI + 1) _ _ rfl (hP.alloc _) _ s rfl ?f1 hl2 ?f3 ?_)
            case f1 => simp [go_sem]
            case f3 => simp; omega
            intro v1 w5 hown1 hgr hat
            have hM2 := (hM.alloc (.cells #[.int .i64 s] 3)).grown hgr (hP.ne_low (by omega))
            have hI2 := (hI.alloc (.cells #[.int .i64 s] 3)).grown hgr (hP.ne_low (by omega))
            have hK2 := (how.alloc (.cells #[.int .i64 s] 3)).keptOwn hgr HUI.out hP.own (.inl (by omega))
            have hb2 := Below.trans (show Below w.heap.size w (wr.alloc (.cells #[.int .i64 s] 3)) by (repeat (first | (with_reducible exact Below.refl _ _) | (with_reducible assumption) | (with_reducible refine below_drewN ?_ _) | (with_reducible refine Below.drew ?_) | (with_reducible refine Below.alloc ?_ ?_ _) | (with_reducible refine Below.setCell ?_ ?_ _) | (with_reducible refine below_into ?_ (by assumption) (by first | omega | (simp; done) | (simp; omega))) | go_size))) ((hP.alloc (.cells #[.int .i64 s] 3)).below_grown hgr (by simp; omega) |>.mono (by have := hM.lt; omega))
            rw [HNX.out] at hown1
            obtain ⟨P', pc', rfl⟩ := hown1.shapeI
            have hl1 : ((smL k k F bs p).take (i + 1)).length = i + 1 := by rw [List.length_take, smL_len]; omega
            rw [hl1] at hown1 ⊢
            have HL1 := Lib.hid hl1
            clear hgr hat hl1 hM hI how hP hbw
            clear ma mb mc mf ml oa ob oc of ol
            obtain ⟨ma, mb, mc, mf, ml⟩ := hM2.mx
            go_wp2_with fail
            go_roundw
            case rel => exact ⟨i + 1, P', pc', by go_num, rfl, by omega, fun _ => HALL.out, by (repeat (first | (with_reducible exact hM2) | (with_reducible refine BX.new _ _ _ _ _ _ _ _ (by first | omega | (simp; done) | (simp; omega))) | (with_reducible refine BX.below ?_ (by assumption) (by first | omega | (simp; done) | (simp; omega))) | (with_reducible apply BX.drew) | (with_reducible apply BX.drewN) | (with_reducible refine BX.put ?_) | (with_reducible refine BX.put2 ?_) | (with_reducible refine BX.far ?_ (by simp only [ne_eq]; omega) _) | (with_reducible apply BX.alloc) | (with_reducible refine B3.new _ _ _ _ _ _ (by first | omega | (simp; done) | (simp; omega))) | (with_reducible exact B3.of hM2) | (with_reducible refine B3.below ?_ (by assumption) (by first | omega | (simp; done) | (simp; omega))) | (with_reducible apply B3.drew) | (with_reducible apply B3.drewN) | (with_reducible refine B3.far ?_ (by simp only [ne_eq]; omega) _) | (with_reducible apply B3.alloc))), by (repeat (first | (with_reducible exact hI2) | (with_reducible refine BX.new _ _ _ _ _ _ _ _ (by first | omega | (simp; done) | (simp; omega))) | (with_reducible refine BX.below ?_ (by assumption) (by first | omega | (simp; done) | (simp; omega))) | (with_reducible apply BX.drew) | (with_reducible apply BX.drewN) | (with_reducible refine BX.put ?_) | (with_reducible refine BX.put2 ?_) | (with_reducible refine BX.far ?_ (by simp only [ne_eq]; omega) _) | (with_reducible apply BX.alloc) | (with_reducible refine B3.new _ _ _ _ _ _ (by first | omega | (simp; done) | (simp; omega))) | (with_reducible exact B3.of hI2) | (with_reducible refine B3.below ?_ (by assumption) (by first | omega | (simp; done) | (simp; omega))) | (with_reducible apply B3.drew) | (with_reducible apply B3.drewN) | (with_reducible refine B3.far ?_ (by simp only [ne_eq]; omega) _) | (with_reducible apply B3.alloc))), by (repeat (first | (with_reducible exact hK2) | (with_reducible refine OR.drew ?_) | (with_reducible refine OR.drewN ?_ _) | (with_reducible refine OR.alloc ?_ _) | (with_reducible refine OR.below ?_ (by assumption) (by first | omega | (simp; done) | (simp; omega))) | (with_reducible refine OR.low ?_ (by first | omega | (simp only []; omega) | (simp; omega)) _))), by (repeat (first | (with_reducible exact hown1) | (with_reducible refine OR.drew ?_) | (with_reducible refine OR.drewN ?_ _) | (with_reducible refine OR.alloc ?_ _) | (with_reducible refine OR.below ?_ (by assumption) (by first | omega | (simp; done) | (simp; omega))) | (with_reducible refine OR.low ?_ (by first | omega | (simp only []; omega) | (simp; omega)) _))), by (repeat (first | (with_reducible exact Below.refl _ _) | (with_reducible assumption) | (with_reducible refine below_drewN ?_ _) | (with_reducible refine Below.drew ?_) | (with_reducible refine Below.alloc ?_ ?_ _) | (with_reducible refine Below.setCell ?_ ?_ _) | (with_reducible refine below_into ?_ (by assumption) (by first | omega | (simp; done) | (simp; omega))) | go_size))⟩
            case measure => simp only [intOf]; omega
      · obtain rfl : i = R := by omega
        have hall : bs.all isNum = true := by
          rcases Nat.eq_zero_or_pos i with h0 | h0
          · have : bs = [] := List.eq_nil_of_length_eq_zero (by omega)
            rw [this]; rfl
          · exact HAL.out h0
        obtain ⟨hv1, hv2⟩ := HYES.out hall
        have HV1 := Lib.hid hv1
        have HV2 := Lib.hid hv2
        have hfin := hP.as (List.take_of_length_le (by rw [smL_len]; exact Nat.le_refl _))
        clear hall hv1 hv2 hP
        obtain ⟨ma, mb, mc, mf, ml⟩ := hM.mx; obtain ⟨oa, ob, oc, of, ol⟩ := hI.mx
        go_wp2_with fail
        go_ret2
        rw [HV1.out, HV2.out]
        exact ⟨_, _, _, rfl, OR.mono (B := bI + 1) (by (repeat (first | (with_reducible exact hfin) | (with_reducible refine OR.drew ?_) | (with_reducible refine OR.drewN ?_ _) | (with_reducible refine OR.alloc ?_ _) | (with_reducible refine OR.below ?_ (by assumption) (by first | omega | (simp; done) | (simp; omega))) | (with_reducible refine OR.low ?_ (by first | omega | (simp only []; omega) | (simp; omega)) _)))) (by omega), by (repeat (first | (with_reducible exact Below.refl _ _) | (with_reducible assumption) | (with_reducible refine below_drewN ?_ _) | (with_reducible refine Below.drew ?_) | (with_reducible refine Below.alloc ?_ ?_ _) | (with_reducible refine Below.setCell ?_ ?_ _) | (with_reducible refine below_into ?_ (by assumption) (by first | omega | (simp; done) | (simp; omega))) | go_size))⟩
end Go.Proofs.Ytfiilpamekpmpaa

/-
  DERIVED. FactorsOf of both.
-/
import Derived.Test.YtcpbaagnjofjfaaZ5
import Derived.Test.YtcpbaagnjofjfaaSm4q
import Derived.Test.YtcpbaagnjofjfaaSm7q
import Derived.Deep.CutBlock
namespace Go.Proofs.Ytcpbaagnjofjfaa
open Go.RowKit
set_option linter.unusedVariables false
set_option linter.unusedSimpArgs false
set_option maxRecDepth 100000 in
set_option maxHeartbeats 4000000 in
theorem impl_FactorsOf (r c : Int) (A : Option Addr) (n cap : Nat) (xs : List Int) (w : World) {B : Nat} (h : RI w B A n xs) (hB : B ≤ w.heap.size) (hn : n ≤ 1048576) :
    Calls Try.prog 34 #[.agg #[.int .i64 r, .int .i64 c, .slice A n cap]] w (IBR (facV r c xs) (sfX r c xs).isSome w) := by
  unfold facV
  have hlen := h.len
  have H2 := Lib.hid (h.more hB)
  clear h
  rcases hX : sfX r c xs with _ | s
  · have HX := Lib.hid hX
    clear hX
    go_enter Try.func34, Try.ntmps34
    go_wp2_with fail
    (refine (impl_SmithForm r c A n cap xs _ (B := w.heap.size) (by (repeat (first | (with_reducible exact H2.out) | (with_reducible refine RI.drew ?_) | (with_reducible refine RI.drewN ?_ _) | (with_reducible refine RI.alloc ?_ (by first | omega | (simp; done) | (simp; omega)) _) | (with_reducible refine RI.setCell ?_ (by first | omega | (simp; done) | (simp; omega)) _) | (with_reducible refine RI.below ?_ (by assumption) (by first | omega | (simp; done) | (simp; omega)))))) (by first | omega | (simp; done) | (simp; omega)) hn).mono ?_)
    rw [HX.out]
    rintro e w1 ⟨A1, n1, c1, A2, n2, c2, A3, n3, c3, rfl, -, -, -, -, -, -, hb1⟩
    have hs1 := hb1.size
    simp at hs1
    go_wp2_with fail
    go_ret2
    exact IBR.mk rfl (OR.empty' _ _ (by simp) (by first | omega | (simp; done) | (simp; omega))) (by (repeat (first | (with_reducible exact Below.refl _ _) | (with_reducible assumption) | (with_reducible refine below_drewN ?_ _) | (with_reducible refine Below.drew ?_) | (with_reducible refine Below.alloc ?_ ?_ _) | (with_reducible refine Below.setCell ?_ ?_ _) | (with_reducible refine below_into ?_ (by assumption) (by first | omega | (simp; done) | (simp; omega))) | go_size)))
  · obtain ⟨hm, hgd⟩ : isMat r c xs = true ∧ True := by
      rcases hm : isMat r c xs with _ | _
      · rw [sfX_no hm] at hX; cases hX
      · exact ⟨rfl, trivial⟩
    have M := isMat_iff.1 hm
    obtain ⟨R, rfl⟩ := nat_of M.r0
    obtain ⟨C, rfl⟩ := nat_of M.c0
    have hR : R ≤ 24 := by have := M.r1; omega
    have hC : C ≤ 24 := by have := M.c1; omega
    have hg := (sfX_gd hX).2.2.2
    have HOK := Lib.hid hg.ok.f
    have HX := Lib.hid hX
    clear M hm hgd hX hg
    go_enter Try.func34, Try.ntmps34
    go_wp2_with fail
    refine (impl_SmithForm R C A n cap xs _ (B := w.heap.size) (by (repeat (first | (with_reducible exact H2.out) | (with_reducible refine RI.drew ?_) | (with_reducible refine RI.drewN ?_ _) | (with_reducible refine RI.alloc ?_ (by first | omega | (simp; done) | (simp; omega)) _) | (with_reducible refine RI.setCell ?_ (by first | omega | (simp; done) | (simp; omega)) _) | (with_reducible refine RI.below ?_ (by assumption) (by first | omega | (simp; done) | (simp; omega)))))) (by first | omega | (simp; done) | (simp; omega)) hn).mono ?_
    rw [HX.out]
    rintro e w1 ⟨A1, n1, c1, A2, n2, c2, A3, n3, c3, rfl, ho1, ho2, ho3, -, -, -, hb1⟩
    have ho : OR w1 (w.heap.size + 1) (.slice A1 n1 c1) (tb R C s.f) := by have := OR.mono (B' := w.heap.size + 1) ho1 (by simp); exact this
    clear ho1 ho2 ho3
    have hs1 := hb1.size
    simp at hs1
    have HOA : Hid (Own (.slice A1 n1 c1) (w.heap.size + 1) w1.heap.size) := Lib.hid ho.own
    have hb0 : Below w.heap.size w w1 := by (repeat (first | (with_reducible exact Below.refl _ _) | (with_reducible assumption) | (with_reducible refine below_drewN ?_ _) | (with_reducible refine Below.drew ?_) | (with_reducible refine Below.alloc ?_ ?_ _) | (with_reducible refine Below.setCell ?_ ?_ _) | (with_reducible refine below_into ?_ (by assumption) (by first | omega | (simp; done) | (simp; omega))) | go_size))
    clear hb1
    go_wp2_with fail
    have hM : BM (((w1.alloc (.cells #[.int .i64 R, .int .i64 C, .slice A1 n1 c1] 45)).alloc (.cells #[.int .i64 R, .int .i64 R, .slice A2 n2 c2] 45)).alloc (.cells #[.int .i64 C, .int .i64 C, .slice A3 n3 c3] 45)) w1.heap.size R C A1 n1 c1 := by (repeat (first | (with_reducible assumption) | (with_reducible refine BX.new _ _ _ _ _ _ _ _ (by first | omega | (simp; done) | (simp; omega))) | (with_reducible refine BX.below ?_ (by assumption) (by first | omega | (simp; done) | (simp; omega))) | (with_reducible apply BX.drew) | (with_reducible apply BX.drewN) | (with_reducible refine BX.put ?_) | (with_reducible refine BX.put2 ?_) | (with_reducible refine BX.far ?_ (by simp only [ne_eq]; omega) _) | (with_reducible apply BX.alloc) | (with_reducible refine B3.new _ _ _ _ _ _ (by first | omega | (simp; done) | (simp; omega))) | (with_reducible refine B3.of (by assumption)) | (with_reducible refine B3.below ?_ (by assumption) (by first | omega | (simp; done) | (simp; omega))) | (with_reducible apply B3.drew) | (with_reducible apply B3.drewN) | (with_reducible refine B3.far ?_ (by simp only [ne_eq]; omega) _) | (with_reducible apply B3.alloc)))
    go_loopg [8, 9] (R + 1) (fun k v8 v9 wr => ∃ i : Nat, v9 = .int .i64 i ∧ i ≤ R ∧ R - i < k ∧ OR wr (w1.heap.size + 1 + 1 + 1) v8 (facK (dgF R C s.f) i) ∧ BM wr w1.heap.size R C A1 n1 c1 ∧ OR wr (w.heap.size + 1) (.slice A1 n1 c1) (tb R C s.f) ∧ Below w.heap.size w wr ∧ w1.heap.size + 1 + 1 + 1 ≤ wr.heap.size)
    case atStart => exact ⟨0, rfl, Nat.zero_le _, by omega, OR.empty' _ _ (by simp) (by first | omega | (simp; done) | (simp; omega)), hM.alloc _, by (repeat (first | (with_reducible exact ho) | (with_reducible refine OR.drew ?_) | (with_reducible refine OR.drewN ?_ _) | (with_reducible refine OR.alloc ?_ _) | (with_reducible refine OR.below ?_ (by assumption) (by first | omega | (simp; done) | (simp; omega))) | (with_reducible refine OR.low ?_ (by first | omega | (simp only []; omega) | (simp; omega)) _))), by (repeat (first | (with_reducible exact Below.refl _ _) | (with_reducible assumption) | (with_reducible refine below_drewN ?_ _) | (with_reducible refine Below.drew ?_) | (with_reducible refine Below.alloc ?_ ?_ _) | (with_reducible refine Below.setCell ?_ ?_ _) | (with_reducible refine below_into ?_ (by assumption) (by first | omega | (simp; done) | (simp; omega))) | go_size)), (by first | omega | (simp; done) | (simp; omega))⟩
    case round =>
      clear hM ho hb0
      obtain ⟨i, rfl, hi, hk, hl, hM, hoa, hbw, hs3⟩ := hrel
      obtain ⟨Al, cl, rfl⟩ := hl.shapeF
      have hnl2 : (facK (dgF R C s.f) i).length ≤ 24 := by have := facK_len (dgF R C s.f) i; omega
      obtain ⟨ma, mb, mc, mf, ml⟩ := hM.mx
      have hsr := hM.lt
      by_cases hiR : i < R
      · by_cases hz : dgF R C s.f i = 0
        · have HE := Lib.hid (facK_skip hz)
          have HD := Lib.hid hz
          clear hz
          go_wp2_with fail
          refine (impl_diagonal R C i A1 n1 c1 s.f _ (B := w.heap.size + 1) (by (repeat (first | (with_reducible exact hoa) | (with_reducible refine OR.drew ?_) | (with_reducible refine OR.drewN ?_ _) | (with_reducible refine OR.alloc ?_ _) | (with_reducible refine OR.below ?_ (by assumption) (by first | omega | (simp; done) | (simp; omega))) | (with_reducible refine OR.low ?_ (by first | omega | (simp only []; omega) | (simp; omega)) _)))) (by omega) hR hC).mono ?_
          rw [HD.out]
          rintro e w2 ⟨rfl, hb2⟩
          (have hM_1 : BM w2 w1.heap.size R C A1 n1 c1 := (by (repeat (first | (with_reducible exact hM) | (with_reducible refine BX.new _ _ _ _ _ _ _ _ (by first | omega | (simp; done) | (simp; omega))) | (with_reducible refine BX.below ?_ (by assumption) (by first | omega | (simp; done) | (simp; omega))) | (with_reducible apply BX.drew) | (with_reducible apply BX.drewN) | (with_reducible refine BX.put ?_) | (with_reducible refine BX.put2 ?_) | (with_reducible refine BX.far ?_ (by simp only [ne_eq]; omega) _) | (with_reducible apply BX.alloc) | (with_reducible refine B3.new _ _ _ _ _ _ (by first | omega | (simp; done) | (simp; omega))) | (with_reducible exact B3.of hM) | (with_reducible refine B3.below ?_ (by assumption) (by first | omega | (simp; done) | (simp; omega))) | (with_reducible apply B3.drew) | (with_reducible apply B3.drewN) | (with_reducible refine B3.far ?_ (by simp only [ne_eq]; omega) _) | (with_reducible apply B3.alloc))))); (have hoa_1 : OR w2 (w.heap.size + 1) (.slice A1 n1 c1) (tb R C s.f) := (by (repeat (first | (with_reducible exact hoa) | (with_reducible refine OR.drew ?_) | (with_reducible refine OR.drewN ?_ _) | (with_reducible refine OR.alloc ?_ _) | (with_reducible refine OR.below ?_ (by assumption) (by first | omega | (simp; done) | (simp; omega))) | (with_reducible refine OR.low ?_ (by first | omega | (simp only []; omega) | (simp; omega)) _))))); (have hl_1 : OR w2 (w1.heap.size + 1 + 1 + 1) (.slice Al (facK (dgF R C s.f) i).length cl) (facK (dgF R C s.f) i) := (by (repeat (first | (with_reducible exact hl) | (with_reducible refine OR.drew ?_) | (with_reducible refine OR.drewN ?_ _) | (with_reducible refine OR.alloc ?_ _) | (with_reducible refine OR.below ?_ (by assumption) (by first | omega | (simp; done) | (simp; omega))) | (with_reducible refine OR.low ?_ (by first | omega | (simp only []; omega) | (simp; omega)) _))))); (have hbw_1 : Below w.heap.size w w2 := (by (repeat (first | (with_reducible exact Below.refl _ _) | (with_reducible assumption) | (with_reducible refine below_drewN ?_ _) | (with_reducible refine Below.drew ?_) | (with_reducible refine Below.alloc ?_ ?_ _) | (with_reducible refine Below.setCell ?_ ?_ _) | (with_reducible refine below_into ?_ (by assumption) (by first | omega | (simp; done) | (simp; omega))) | go_size)))); (have hz2 := hb2.size); (try simp at hz2); (have hs3_1 : w1.heap.size + 1 + 1 + 1 ≤ w2.heap.size := (by omega)); clear hs3 hz2; (have hs3 := hs3_1); clear hs3_1; clear hM hoa hl hbw hb2 ma mb mc mf ml; (have hM := hM_1); (have hoa := hoa_1); (have hl := hl_1); (have hbw := hbw_1); clear hM_1 hoa_1 hl_1 hbw_1; obtain ⟨ma, mb, mc, mf, ml⟩ := hM.mx
          go_wp2_with fail
          go_roundg (gk - 1)
          case measure => omega
          case rel => exact ⟨i + 1, by go_num, by omega, by omega, by rw [HE.out]; (repeat (first | (with_reducible exact hl) | (with_reducible refine OR.drew ?_) | (with_reducible refine OR.drewN ?_ _) | (with_reducible refine OR.alloc ?_ _) | (with_reducible refine OR.below ?_ (by assumption) (by first | omega | (simp; done) | (simp; omega))) | (with_reducible refine OR.low ?_ (by first | omega | (simp only []; omega) | (simp; omega)) _))), by (repeat (first | (with_reducible exact hM) | (with_reducible refine BX.new _ _ _ _ _ _ _ _ (by first | omega | (simp; done) | (simp; omega))) | (with_reducible refine BX.below ?_ (by assumption) (by first | omega | (simp; done) | (simp; omega))) | (with_reducible apply BX.drew) | (with_reducible apply BX.drewN) | (with_reducible refine BX.put ?_) | (with_reducible refine BX.put2 ?_) | (with_reducible refine BX.far ?_ (by simp only [ne_eq]; omega) _) | (with_reducible apply BX.alloc) | (with_reducible refine B3.new _ _ _ _ _ _ (by first | omega | (simp; done) | (simp; omega))) | (with_reducible exact B3.of hM) | (with_reducible refine B3.below ?_ (by assumption) (by first | omega | (simp; done) | (simp; omega))) | (with_reducible apply B3.drew) | (with_reducible apply B3.drewN) | (with_reducible refine B3.far ?_ (by simp only [ne_eq]; omega) _) | (with_reducible apply B3.alloc))), by (repeat (first | (with_reducible exact hoa) | (with_reducible refine OR.drew ?_) | (with_reducible refine OR.drewN ?_ _) | (with_reducible refine OR.alloc ?_ _) | (with_reducible refine OR.below ?_ (by assumption) (by first | omega | (simp; done) | (simp; omega))) | (with_reducible refine OR.low ?_ (by first | omega | (simp only []; omega) | (simp; omega)) _))), by (repeat (first | (with_reducible exact Below.refl _ _) | (with_reducible assumption) | (with_reducible refine below_drewN ?_ _) | (with_reducible refine Below.drew ?_) | (with_reducible refine Below.alloc ?_ ?_ _) | (with_reducible refine Below.setCell ?_ ?_ _) | (with_reducible refine below_into ?_ (by assumption) (by first | omega | (simp; done) | (simp; omega))) | go_size)), (by first | omega | (simp; done) | (simp; omega))⟩
        · have HE := Lib.hid (facK_add hz)
          have hzb : (dgF R C s.f i != 0) = true := by simpa using hz
          have hdv := dgF_num (R := R) (C := C) (i := i) HOK.out
          generalize hv : dgF R C s.f i = z at *
          have HD := Lib.hid hv
          clear hv hz
          go_wp2_with fail
          refine (impl_diagonal R C i A1 n1 c1 s.f _ (B := w.heap.size + 1) (by (repeat (first | (with_reducible exact hoa) | (with_reducible refine OR.drew ?_) | (with_reducible refine OR.drewN ?_ _) | (with_reducible refine OR.alloc ?_ _) | (with_reducible refine OR.below ?_ (by assumption) (by first | omega | (simp; done) | (simp; omega))) | (with_reducible refine OR.low ?_ (by first | omega | (simp only []; omega) | (simp; omega)) _)))) (by omega) hR hC).mono ?_
          rw [HD.out]
          rintro e w2 ⟨rfl, hb2⟩
          (have hM_1 : BM w2 w1.heap.size R C A1 n1 c1 := (by (repeat (first | (with_reducible exact hM) | (with_reducible refine BX.new _ _ _ _ _ _ _ _ (by first | omega | (simp; done) | (simp; omega))) | (with_reducible refine BX.below ?_ (by assumption) (by first | omega | (simp; done) | (simp; omega))) | (with_reducible apply BX.drew) | (with_reducible apply BX.drewN) | (with_reducible refine BX.put ?_) | (with_reducible refine BX.put2 ?_) | (with_reducible refine BX.far ?_ (by simp only [ne_eq]; omega) _) | (with_reducible apply BX.alloc) | (with_reducible refine B3.new _ _ _ _ _ _ (by first | omega | (simp; done) | (simp; omega))) | (with_reducible exact B3.of hM) | (with_reducible refine B3.below ?_ (by assumption) (by first | omega | (simp; done) | (simp; omega))) | (with_reducible apply B3.drew) | (with_reducible apply B3.drewN) | (with_reducible refine B3.far ?_ (by simp only [ne_eq]; omega) _) | (with_reducible apply B3.alloc))))); (have hoa_1 : OR w2 (w.heap.size + 1) (.slice A1 n1 c1) (tb R C s.f) := (by (repeat (first | (with_reducible exact hoa) | (with_reducible refine OR.drew ?_) | (with_reducible refine OR.drewN ?_ _) | (with_reducible refine OR.alloc ?_ _) | (with_reducible refine OR.below ?_ (by assumption) (by first | omega | (simp; done) | (simp; omega))) | (with_reducible refine OR.low ?_ (by first | omega | (simp only []; omega) | (simp; omega)) _))))); (have hl_1 : OR w2 (w1.heap.size + 1 + 1 + 1) (.slice Al (facK (dgF R C s.f) i).length cl) (facK (dgF R C s.f) i) := (by (repeat (first | (with_reducible exact hl) | (with_reducible refine OR.drew ?_) | (with_reducible refine OR.drewN ?_ _) | (with_reducible refine OR.alloc ?_ _) | (with_reducible refine OR.below ?_ (by assumption) (by first | omega | (simp; done) | (simp; omega))) | (with_reducible refine OR.low ?_ (by first | omega | (simp only []; omega) | (simp; omega)) _))))); (have hbw_1 : Below w.heap.size w w2 := (by (repeat (first | (with_reducible exact Below.refl _ _) | (with_reducible assumption) | (with_reducible refine below_drewN ?_ _) | (with_reducible refine Below.drew ?_) | (with_reducible refine Below.alloc ?_ ?_ _) | (with_reducible refine Below.setCell ?_ ?_ _) | (with_reducible refine below_into ?_ (by assumption) (by first | omega | (simp; done) | (simp; omega))) | go_size)))); (have hz2 := hb2.size); (try simp at hz2); (have hs3_1 : w1.heap.size + 1 + 1 + 1 ≤ w2.heap.size := (by omega)); clear hs3 hz2; (have hs3 := hs3_1); clear hs3_1; clear hM hoa hl hbw hb2 ma mb mc mf ml; (have hM := hM_1); (have hoa := hoa_1); (have hl := hl_1); (have hbw := hbw_1); clear hM_1 hoa_1 hl_1 hbw_1; obtain ⟨ma, mb, mc, mf, ml⟩ := hM.mx
          go_wp2_with (at_builtin; refine wpList_append_one _ rfl (.tmp 33) (.tmp 35) rfl (w1.heap.size + 1 + 1 + 1) _ _ rfl (hl.alloc _) _ z rfl ?f1 ?f2 ?f3 ?_)
          case f1 => simp [go_sem]
          case f2 => omega
          case f3 => exact (by first | omega | (simp; done) | (simp; omega))
          intro v1 w3 hown1 hgr hat
          have HOL := (hl.alloc (.cells #[.int .i64 z] 3)).own
          have hz3 := hgr.size
          simp at hz3
          have hM_1 : BM w3 w1.heap.size R C A1 n1 c1 := BX.keptOwn (by (repeat (first | (with_reducible exact hM) | (with_reducible refine BX.new _ _ _ _ _ _ _ _ (by first | omega | (simp; done) | (simp; omega))) | (with_reducible refine BX.below ?_ (by assumption) (by first | omega | (simp; done) | (simp; omega))) | (with_reducible apply BX.drew) | (with_reducible apply BX.drewN) | (with_reducible refine BX.put ?_) | (with_reducible refine BX.put2 ?_) | (with_reducible refine BX.far ?_ (by simp only [ne_eq]; omega) _) | (with_reducible apply BX.alloc) | (with_reducible refine B3.new _ _ _ _ _ _ (by first | omega | (simp; done) | (simp; omega))) | (with_reducible exact B3.of hM) | (with_reducible refine B3.below ?_ (by assumption) (by first | omega | (simp; done) | (simp; omega))) | (with_reducible apply B3.drew) | (with_reducible apply B3.drewN) | (with_reducible refine B3.far ?_ (by simp only [ne_eq]; omega) _) | (with_reducible apply B3.alloc)))) hgr HOL (.inl (by omega)); have hoa_1 : OR w3 (w.heap.size + 1) (.slice A1 n1 c1) (tb R C s.f) := OR.keptOwn (by (repeat (first | (with_reducible exact hoa) | (with_reducible refine OR.drew ?_) | (with_reducible refine OR.drewN ?_ _) | (with_reducible refine OR.alloc ?_ _) | (with_reducible refine OR.below ?_ (by assumption) (by first | omega | (simp; done) | (simp; omega))) | (with_reducible refine OR.low ?_ (by first | omega | (simp only []; omega) | (simp; omega)) _)))) hgr HOA.out HOL (.inl (by omega)); have hbw_1 : Below w.heap.size w w3 := Below.trans (by (repeat (first | (with_reducible exact Below.refl _ _) | (with_reducible assumption) | (with_reducible refine below_drewN ?_ _) | (with_reducible refine Below.drew ?_) | (with_reducible refine Below.alloc ?_ ?_ _) | (with_reducible refine Below.setCell ?_ ?_ _) | (with_reducible refine below_into ?_ (by assumption) (by first | omega | (simp; done) | (simp; omega))) | go_size))) (below_keptOwn hgr HOL (by omega) (by first | omega | (simp; done) | (simp; omega)))
          clear hM hoa hl hbw hgr hat HOL ma mb mc mf ml
          go_wp2_with fail
          go_roundg (gk - 1)
          case measure => omega
          case rel => exact ⟨i + 1, by go_num, by omega, by omega, by rw [HE.out]; exact hown1, hM_1, hoa_1, hbw_1, (by first | omega | (simp; done) | (simp; omega))⟩
      · have hiE : i = R := by omega
        subst hiE
        go_wp2_with fail
        go_ret2
        exact IBR.mk (facO_rows _ _ _) (OR.mono (B := w1.heap.size + 1 + 1 + 1) (by (repeat (first | (with_reducible exact hl) | (with_reducible refine OR.drew ?_) | (with_reducible refine OR.drewN ?_ _) | (with_reducible refine OR.alloc ?_ _) | (with_reducible refine OR.below ?_ (by assumption) (by first | omega | (simp; done) | (simp; omega))) | (with_reducible refine OR.low ?_ (by first | omega | (simp only []; omega) | (simp; omega)) _)))) (by omega)) (by (repeat (first | (with_reducible exact Below.refl _ _) | (with_reducible assumption) | (with_reducible refine below_drewN ?_ _) | (with_reducible refine Below.drew ?_) | (with_reducible refine Below.alloc ?_ ?_ _) | (with_reducible refine Below.setCell ?_ ?_ _) | (with_reducible refine below_into ?_ (by assumption) (by first | omega | (simp; done) | (simp; omega))) | go_size)))
theorem facO_min (R C : Nat) (s : SS) : facO R C (some s) = facK (dgF R C s.f) (min R C) := rfl
set_option maxRecDepth 100000 in
set_option maxHeartbeats 4000000 in
theorem spec_FactorsOf (r c : Int) (A : Option Addr) (n cap : Nat) (xs : List Int) (w : World) {B : Nat} (h : RI w B A n xs) (hB : B ≤ w.heap.size) (hn : n ≤ 1048576) :
    Calls Try.prog 33 #[.agg #[.int .i64 r, .int .i64 c, .slice A n cap]] w (IBR (facV r c xs) (sfX r c xs).isSome w) := by
  unfold facV
  have hlen := h.len
  have H2 := Lib.hid (h.more hB)
  clear h
  rcases hX : sfX r c xs with _ | s
  · have HX := Lib.hid hX
    clear hX
    go_enter Try.func33, Try.ntmps33
    go_wp2_with fail
    (refine (spec_SmithForm r c A n cap xs _ (B := w.heap.size) (by (repeat (first | (with_reducible exact H2.out) | (with_reducible refine RI.drew ?_) | (with_reducible refine RI.drewN ?_ _) | (with_reducible refine RI.alloc ?_ (by first | omega | (simp; done) | (simp; omega)) _) | (with_reducible refine RI.setCell ?_ (by first | omega | (simp; done) | (simp; omega)) _) | (with_reducible refine RI.below ?_ (by assumption) (by first | omega | (simp; done) | (simp; omega)))))) (by first | omega | (simp; done) | (simp; omega)) hn).mono ?_)
    rw [HX.out]
    rintro e w1 ⟨A1, n1, c1, A2, n2, c2, A3, n3, c3, rfl, -, -, -, -, -, -, hb1⟩
    have hs1 := hb1.size
    simp at hs1
    go_wp2_with fail
    go_rounds 1
    go_ret2
    exact IBR.mk rfl (OR.empty' _ _ (by simp) (by first | omega | (simp; done) | (simp; omega))) (by (repeat (first | (with_reducible exact Below.refl _ _) | (with_reducible assumption) | (with_reducible refine below_drewN ?_ _) | (with_reducible refine Below.drew ?_) | (with_reducible refine Below.alloc ?_ ?_ _) | (with_reducible refine Below.setCell ?_ ?_ _) | (with_reducible refine below_into ?_ (by assumption) (by first | omega | (simp; done) | (simp; omega))) | go_size)))
  · obtain ⟨hm, hgd⟩ : isMat r c xs = true ∧ True := by
      rcases hm : isMat r c xs with _ | _
      · rw [sfX_no hm] at hX; cases hX
      · exact ⟨rfl, trivial⟩
    have M := isMat_iff.1 hm
    obtain ⟨R, rfl⟩ := nat_of M.r0
    obtain ⟨C, rfl⟩ := nat_of M.c0
    have hR : R ≤ 24 := by have := M.r1; omega
    have hC : C ≤ 24 := by have := M.c1; omega
    have hg := (sfX_gd hX).2.2.2
    have HOK := Lib.hid hg.ok.f
    have HX := Lib.hid hX
    clear M hm hgd hX hg
    go_enter Try.func33, Try.ntmps33
    go_wp2_with fail
    refine (spec_SmithForm R C A n cap xs _ (B := w.heap.size) (by (repeat (first | (with_reducible exact H2.out) | (with_reducible refine RI.drew ?_) | (with_reducible refine RI.drewN ?_ _) | (with_reducible refine RI.alloc ?_ (by first | omega | (simp; done) | (simp; omega)) _) | (with_reducible refine RI.setCell ?_ (by first | omega | (simp; done) | (simp; omega)) _) | (with_reducible refine RI.below ?_ (by assumption) (by first | omega | (simp; done) | (simp; omega)))))) (by first | omega | (simp; done) | (simp; omega)) hn).mono ?_
    rw [HX.out]
    rintro e w1 ⟨A1, n1, c1, A2, n2, c2, A3, n3, c3, rfl, ho1, ho2, ho3, -, -, -, hb1⟩
    have ho : OR w1 (w.heap.size + 1) (.slice A1 n1 c1) (tb R C s.f) := by have := OR.mono (B' := w.heap.size + 1) ho1 (by simp); exact this
    clear ho1 ho2 ho3
    have hs1 := hb1.size
    simp at hs1
    have HOA : Hid (Own (.slice A1 n1 c1) (w.heap.size + 1) w1.heap.size) := Lib.hid ho.own
    have hb0 : Below w.heap.size w w1 := by (repeat (first | (with_reducible exact Below.refl _ _) | (with_reducible assumption) | (with_reducible refine below_drewN ?_ _) | (with_reducible refine Below.drew ?_) | (with_reducible refine Below.alloc ?_ ?_ _) | (with_reducible refine Below.setCell ?_ ?_ _) | (with_reducible refine below_into ?_ (by assumption) (by first | omega | (simp; done) | (simp; omega))) | go_size))
    clear hb1
    go_wp2_with fail
    have hM : BM (((w1.alloc (.cells #[.int .i64 R, .int .i64 C, .slice A1 n1 c1] 45)).alloc (.cells #[.int .i64 R, .int .i64 R, .slice A2 n2 c2] 45)).alloc (.cells #[.int .i64 C, .int .i64 C, .slice A3 n3 c3] 45)) w1.heap.size R C A1 n1 c1 := by (repeat (first | (with_reducible assumption) | (with_reducible refine BX.new _ _ _ _ _ _ _ _ (by first | omega | (simp; done) | (simp; omega))) | (with_reducible refine BX.below ?_ (by assumption) (by first | omega | (simp; done) | (simp; omega))) | (with_reducible apply BX.drew) | (with_reducible apply BX.drewN) | (with_reducible refine BX.put ?_) | (with_reducible refine BX.put2 ?_) | (with_reducible refine BX.far ?_ (by simp only [ne_eq]; omega) _) | (with_reducible apply BX.alloc) | (with_reducible refine B3.new _ _ _ _ _ _ (by first | omega | (simp; done) | (simp; omega))) | (with_reducible refine B3.of (by assumption)) | (with_reducible refine B3.below ?_ (by assumption) (by first | omega | (simp; done) | (simp; omega))) | (with_reducible apply B3.drew) | (with_reducible apply B3.drewN) | (with_reducible refine B3.far ?_ (by simp only [ne_eq]; omega) _) | (with_reducible apply B3.alloc)))
    go_loopg [8, 9] (R + 1) (fun k v8 v9 wr => ∃ i : Nat, v9 = .int .i64 i ∧ i ≤ (min R C) ∧ (min R C) - i < k ∧ OR wr (w1.heap.size + 1 + 1 + 1) v8 (facK (dgF R C s.f) i) ∧ BM wr w1.heap.size R C A1 n1 c1 ∧ OR wr (w.heap.size + 1) (.slice A1 n1 c1) (tb R C s.f) ∧ Below w.heap.size w wr ∧ w1.heap.size + 1 + 1 + 1 ≤ wr.heap.size)
    case atStart => exact ⟨0, rfl, Nat.zero_le _, by omega, OR.empty' _ _ (by simp) (by first | omega | (simp; done) | (simp; omega)), hM.alloc _, by (repeat (first | (with_reducible exact ho) | (with_reducible refine OR.drew ?_) | (with_reducible refine OR.drewN ?_ _) | (with_reducible refine OR.alloc ?_ _) | (with_reducible refine OR.below ?_ (by assumption) (by first | omega | (simp; done) | (simp; omega))) | (with_reducible refine OR.low ?_ (by first | omega | (simp only []; omega) | (simp; omega)) _))), by (repeat (first | (with_reducible exact Below.refl _ _) | (with_reducible assumption) | (with_reducible refine below_drewN ?_ _) | (with_reducible refine Below.drew ?_) | (with_reducible refine Below.alloc ?_ ?_ _) | (with_reducible refine Below.setCell ?_ ?_ _) | (with_reducible refine below_into ?_ (by assumption) (by first | omega | (simp; done) | (simp; omega))) | go_size)), (by first | omega | (simp; done) | (simp; omega))⟩
    case round =>
      clear hM ho hb0
      obtain ⟨i, rfl, hi, hk, hl, hM, hoa, hbw, hs3⟩ := hrel
      obtain ⟨Al, cl, rfl⟩ := hl.shapeF
      have hnl2 : (facK (dgF R C s.f) i).length ≤ 24 := by have := facK_len (dgF R C s.f) i; omega
      obtain ⟨ma, mb, mc, mf, ml⟩ := hM.mx
      have hsr := hM.lt
      go_upto_region 4 with fail
      go_cut [24] from 18 to 38 (fun v wc => ∃ tb : Bool, v = .bool tb ∧ (tb = decide (i < min R C)) ∧ wc = wr)
      case first =>
        rcases Nat.lt_or_ge C R with hRC | hRC
        · go_wp2_with fail
          go_meet
          case rel => exact ⟨_, rfl, (by rw [Bool.eq_iff_iff]; (try simp only [decide_eq_true_eq]); omega), rfl⟩
        · go_wp2_with fail
          go_meet
          case rel => exact ⟨_, rfl, (by rw [Bool.eq_iff_iff]; (try simp only [decide_eq_true_eq]); omega), rfl⟩
      obtain ⟨tst, rfl, htst, rfl⟩ := hcut
      by_cases hiR : i < min R C
      · rw [decide_eq_true hiR] at htst
        subst htst
        have hd : dgF R C s.f i = s.f i i := dgF_in (by omega) (by omega)
        have HDE := Lib.hid hd
        clear hd
        by_cases hz : s.f i i = 0
        · have HE := Lib.hid (facK_skip (HDE.out.trans hz))
          have HD := Lib.hid hz
          clear hz
          go_wp2_with fail
          refine (spec_l12Cell_tb R C i i A1 n1 c1 s.f 0 HD.out _ (B := w.heap.size + 1) (by (repeat (first | (with_reducible exact hoa) | (with_reducible refine OR.drew ?_) | (with_reducible refine OR.drewN ?_ _) | (with_reducible refine OR.alloc ?_ _) | (with_reducible refine OR.below ?_ (by assumption) (by first | omega | (simp; done) | (simp; omega))) | (with_reducible refine OR.low ?_ (by first | omega | (simp only []; omega) | (simp; omega)) _)))) (by omega) (by omega) (by omega) (by omega)).mono ?_
          rintro e w2 ⟨rfl, hb2⟩
          (have hM_1 : BM w2 w1.heap.size R C A1 n1 c1 := (by (repeat (first | (with_reducible exact hM) | (with_reducible refine BX.new _ _ _ _ _ _ _ _ (by first | omega | (simp; done) | (simp; omega))) | (with_reducible refine BX.below ?_ (by assumption) (by first | omega | (simp; done) | (simp; omega))) | (with_reducible apply BX.drew) | (with_reducible apply BX.drewN) | (with_reducible refine BX.put ?_) | (with_reducible refine BX.put2 ?_) | (with_reducible refine BX.far ?_ (by simp only [ne_eq]; omega) _) | (with_reducible apply BX.alloc) | (with_reducible refine B3.new _ _ _ _ _ _ (by first | omega | (simp; done) | (simp; omega))) | (with_reducible exact B3.of hM) | (with_reducible refine B3.below ?_ (by assumption) (by first | omega | (simp; done) | (simp; omega))) | (with_reducible apply B3.drew) | (with_reducible apply B3.drewN) | (with_reducible refine B3.far ?_ (by simp only [ne_eq]; omega) _) | (with_reducible apply B3.alloc))))); (have hoa_1 : OR w2 (w.heap.size + 1) (.slice A1 n1 c1) (tb R C s.f) := (by (repeat (first | (with_reducible exact hoa) | (with_reducible refine OR.drew ?_) | (with_reducible refine OR.drewN ?_ _) | (with_reducible refine OR.alloc ?_ _) | (with_reducible refine OR.below ?_ (by assumption) (by first | omega | (simp; done) | (simp; omega))) | (with_reducible refine OR.low ?_ (by first | omega | (simp only []; omega) | (simp; omega)) _))))); (have hl_1 : OR w2 (w1.heap.size + 1 + 1 + 1) (.slice Al (facK (dgF R C s.f) i).length cl) (facK (dgF R C s.f) i) := (by (repeat (first | (with_reducible exact hl) | (with_reducible refine OR.drew ?_) | (with_reducible refine OR.drewN ?_ _) | (with_reducible refine OR.alloc ?_ _) | (with_reducible refine OR.below ?_ (by assumption) (by first | omega | (simp; done) | (simp; omega))) | (with_reducible refine OR.low ?_ (by first | omega | (simp only []; omega) | (simp; omega)) _))))); (have hbw_1 : Below w.heap.size w w2 := (by (repeat (first | (with_reducible exact Below.refl _ _) | (with_reducible assumption) | (with_reducible refine below_drewN ?_ _) | (with_reducible refine Below.drew ?_) | (with_reducible refine Below.alloc ?_ ?_ _) | (with_reducible refine Below.setCell ?_ ?_ _) | (with_reducible refine below_into ?_ (by assumption) (by first | omega | (simp; done) | (simp; omega))) | go_size)))); (have hz2 := hb2.size); (try simp at hz2); (have hs3_1 : w1.heap.size + 1 + 1 + 1 ≤ w2.heap.size := (by omega)); clear hs3 hz2; (have hs3 := hs3_1); clear hs3_1; clear hM hoa hl hbw hb2 ma mb mc mf ml; (have hM := hM_1); (have hoa := hoa_1); (have hl := hl_1); (have hbw := hbw_1); clear hM_1 hoa_1 hl_1 hbw_1; obtain ⟨ma, mb, mc, mf, ml⟩ := hM.mx
          go_wp2_with fail
          go_roundg (gk - 1)
          case measure => omega
          case rel => exact ⟨i + 1, by go_num, by omega, by omega, by rw [HE.out]; (repeat (first | (with_reducible exact hl) | (with_reducible refine OR.drew ?_) | (with_reducible refine OR.drewN ?_ _) | (with_reducible refine OR.alloc ?_ _) | (with_reducible refine OR.below ?_ (by assumption) (by first | omega | (simp; done) | (simp; omega))) | (with_reducible refine OR.low ?_ (by first | omega | (simp only []; omega) | (simp; omega)) _))), by (repeat (first | (with_reducible exact hM) | (with_reducible refine BX.new _ _ _ _ _ _ _ _ (by first | omega | (simp; done) | (simp; omega))) | (with_reducible refine BX.below ?_ (by assumption) (by first | omega | (simp; done) | (simp; omega))) | (with_reducible apply BX.drew) | (with_reducible apply BX.drewN) | (with_reducible refine BX.put ?_) | (with_reducible refine BX.put2 ?_) | (with_reducible refine BX.far ?_ (by simp only [ne_eq]; omega) _) | (with_reducible apply BX.alloc) | (with_reducible refine B3.new _ _ _ _ _ _ (by first | omega | (simp; done) | (simp; omega))) | (with_reducible exact B3.of hM) | (with_reducible refine B3.below ?_ (by assumption) (by first | omega | (simp; done) | (simp; omega))) | (with_reducible apply B3.drew) | (with_reducible apply B3.drewN) | (with_reducible refine B3.far ?_ (by simp only [ne_eq]; omega) _) | (with_reducible apply B3.alloc))), by (repeat (first | (with_reducible exact hoa) | (with_reducible refine OR.drew ?_) | (with_reducible refine OR.drewN ?_ _) | (with_reducible refine OR.alloc ?_ _) | (with_reducible refine OR.below ?_ (by assumption) (by first | omega | (simp; done) | (simp; omega))) | (with_reducible refine OR.low ?_ (by first | omega | (simp only []; omega) | (simp; omega)) _))), by (repeat (first | (with_reducible exact Below.refl _ _) | (with_reducible assumption) | (with_reducible refine below_drewN ?_ _) | (with_reducible refine Below.drew ?_) | (with_reducible refine Below.alloc ?_ ?_ _) | (with_reducible refine Below.setCell ?_ ?_ _) | (with_reducible refine below_into ?_ (by assumption) (by first | omega | (simp; done) | (simp; omega))) | go_size)), (by first | omega | (simp; done) | (simp; omega))⟩
        · have HE : Hid (facK (dgF R C s.f) (i + 1) = facK (dgF R C s.f) i ++ [s.f i i]) := Lib.hid (by rw [facK_add (by rw [HDE.out]; exact hz), HDE.out])
          have hzb : (s.f i i != 0) = true := by simpa using hz
          have hdv := HOK.out i i (by omega) (by omega)
          generalize hv : s.f i i = z at *
          have HD := Lib.hid hv
          clear hv hz
          go_wp2_with fail
          refine (spec_l12Cell_tb R C i i A1 n1 c1 s.f z HD.out _ (B := w.heap.size + 1) (by (repeat (first | (with_reducible exact hoa) | (with_reducible refine OR.drew ?_) | (with_reducible refine OR.drewN ?_ _) | (with_reducible refine OR.alloc ?_ _) | (with_reducible refine OR.below ?_ (by assumption) (by first | omega | (simp; done) | (simp; omega))) | (with_reducible refine OR.low ?_ (by first | omega | (simp only []; omega) | (simp; omega)) _)))) (by omega) (by omega) (by omega) (by omega)).mono ?_
          rintro e w2 ⟨rfl, hb2⟩
          (have hM_1 : BM w2 w1.heap.size R C A1 n1 c1 := (by (repeat (first | (with_reducible exact hM) | (with_reducible refine BX.new _ _ _ _ _ _ _ _ (by first | omega | (simp; done) | (simp; omega))) | (with_reducible refine BX.below ?_ (by assumption) (by first | omega | (simp; done) | (simp; omega))) | (with_reducible apply BX.drew) | (with_reducible apply BX.drewN) | (with_reducible refine BX.put ?_) | (with_reducible refine BX.put2 ?_) | (with_reducible refine BX.far ?_ (by simp only [ne_eq]; omega) _) | (with_reducible apply BX.alloc) | (with_reducible refine B3.new _ _ _ _ _ _ (by first | omega | (simp; done) | (simp; omega))) | (with_reducible exact B3.of hM) | (with_reducible refine B3.below ?_ (by assumption) (by first | omega | (simp; done) | (simp; omega))) | (with_reducible apply B3.drew) | (with_reducible apply B3.drewN) | (with_reducible refine B3.far ?_ (by simp only [ne_eq]; omega) _) | (with_reducible apply B3.alloc))))); (have hoa_1 : OR w2 (w.heap.size + 1) (.slice A1 n1 c1) (tb R C s.f) := (by (repeat (first | (with_reducible exact hoa) | (with_reducible refine OR.drew ?_) | (with_reducible refine OR.drewN ?_ _) | (with_reducible refine OR.alloc ?_ _) | (with_reducible refine OR.below ?_ (by assumption) (by first | omega | (simp; done) | (simp; omega))) | (with_reducible refine OR.low ?_ (by first | omega | (simp only []; omega) | (simp; omega)) _))))); (have hl_1 : OR w2 (w1.heap.size + 1 + 1 + 1) (.slice Al (facK (dgF R C s.f) i).length cl) (facK (dgF R C s.f) i) := (by (repeat (first | (with_reducible exact hl) | (with_reducible refine OR.drew ?_) | (with_reducible refine OR.drewN ?_ _) | (with_reducible refine OR.alloc ?_ _) | (with_reducible refine OR.below ?_ (by assumption) (by first | omega | (simp; done) | (simp; omega))) | (with_reducible refine OR.low ?_ (by first | omega | (simp only []; omega) | (simp; omega)) _))))); (have hbw_1 : Below w.heap.size w w2 := (by (repeat (first | (with_reducible exact Below.refl _ _) | (with_reducible assumption) | (with_reducible refine below_drewN ?_ _) | (with_reducible refine Below.drew ?_) | (with_reducible refine Below.alloc ?_ ?_ _) | (with_reducible refine Below.setCell ?_ ?_ _) | (with_reducible refine below_into ?_ (by assumption) (by first | omega | (simp; done) | (simp; omega))) | go_size)))); (have hz2 := hb2.size); (try simp at hz2); (have hs3_1 : w1.heap.size + 1 + 1 + 1 ≤ w2.heap.size := (by omega)); clear hs3 hz2; (have hs3 := hs3_1); clear hs3_1; clear hM hoa hl hbw hb2 ma mb mc mf ml; (have hM := hM_1); (have hoa := hoa_1); (have hl := hl_1); (have hbw := hbw_1); clear hM_1 hoa_1 hl_1 hbw_1; obtain ⟨ma, mb, mc, mf, ml⟩ := hM.mx
          go_wp2_with fail
          refine (spec_l12Cell_tb R C i i A1 n1 c1 s.f z HD.out _ (B := w.heap.size + 1) (by (repeat (first | (with_reducible exact hoa) | (with_reducible refine OR.drew ?_) | (with_reducible refine OR.drewN ?_ _) | (with_reducible refine OR.alloc ?_ _) | (with_reducible refine OR.below ?_ (by assumption) (by first | omega | (simp; done) | (simp; omega))) | (with_reducible refine OR.low ?_ (by first | omega | (simp only []; omega) | (simp; omega)) _)))) (by omega) (by omega) (by omega) (by omega)).mono ?_
          rintro e w2 ⟨rfl, hb2⟩
          (have hM_1 : BM w2 w1.heap.size R C A1 n1 c1 := (by (repeat (first | (with_reducible exact hM) | (with_reducible refine BX.new _ _ _ _ _ _ _ _ (by first | omega | (simp; done) | (simp; omega))) | (with_reducible refine BX.below ?_ (by assumption) (by first | omega | (simp; done) | (simp; omega))) | (with_reducible apply BX.drew) | (with_reducible apply BX.drewN) | (with_reducible refine BX.put ?_) | (with_reducible refine BX.put2 ?_) | (with_reducible refine BX.far ?_ (by simp only [ne_eq]; omega) _) | (with_reducible apply BX.alloc) | (with_reducible refine B3.new _ _ _ _ _ _ (by first | omega | (simp; done) | (simp; omega))) | (with_reducible exact B3.of hM) | (with_reducible refine B3.below ?_ (by assumption) (by first | omega | (simp; done) | (simp; omega))) | (with_reducible apply B3.drew) | (with_reducible apply B3.drewN) | (with_reducible refine B3.far ?_ (by simp only [ne_eq]; omega) _) | (with_reducible apply B3.alloc))))); (have hoa_1 : OR w2 (w.heap.size + 1) (.slice A1 n1 c1) (tb R C s.f) := (by (repeat (first | (with_reducible exact hoa) | (with_reducible refine OR.drew ?_) | (with_reducible refine OR.drewN ?_ _) | (with_reducible refine OR.alloc ?_ _) | (with_reducible refine OR.below ?_ (by assumption) (by first | omega | (simp; done) | (simp; omega))) | (with_reducible refine OR.low ?_ (by first | omega | (simp only []; omega) | (simp; omega)) _))))); (have hl_1 : OR w2 (w1.heap.size + 1 + 1 + 1) (.slice Al (facK (dgF R C s.f) i).length cl) (facK (dgF R C s.f) i) := (by (repeat (first | (with_reducible exact hl) | (with_reducible refine OR.drew ?_) | (with_reducible refine OR.drewN ?_ _) | (with_reducible refine OR.alloc ?_ _) | (with_reducible refine OR.below ?_ (by assumption) (by first | omega | (simp; done) | (simp; omega))) | (with_reducible refine OR.low ?_ (by first | omega | (simp only []; omega) | (simp; omega)) _))))); (have hbw_1 : Below w.heap.size w w2 := (by (repeat (first | (with_reducible exact Below.refl _ _) | (with_reducible assumption) | (with_reducible refine below_drewN ?_ _) | (with_reducible refine Below.drew ?_) | (with_reducible refine Below.alloc ?_ ?_ _) | (with_reducible refine Below.setCell ?_ ?_ _) | (with_reducible refine below_into ?_ (by assumption) (by first | omega | (simp; done) | (simp; omega))) | go_size)))); (have hz2 := hb2.size); (try simp at hz2); (have hs3_1 : w1.heap.size + 1 + 1 + 1 ≤ w2.heap.size := (by omega)); clear hs3 hz2; (have hs3 := hs3_1); clear hs3_1; clear hM hoa hl hbw hb2 ma mb mc mf ml; (have hM := hM_1); (have hoa := hoa_1); (have hl := hl_1); (have hbw := hbw_1); clear hM_1 hoa_1 hl_1 hbw_1; obtain ⟨ma, mb, mc, mf, ml⟩ := hM.mx
          go_wp2_with (at_builtin; refine wpList_append_one _ rfl (.tmp 32) (.tmp 37) rfl (w1.heap.size + 1 + 1 + 1) _ _ rfl (hl.alloc _) _ z rfl ?f1 ?f2 ?f3 ?_)
          case f1 => simp [go_sem]
          case f2 => omega
          case f3 => exact (by first | omega | (simp; done) | (simp; omega))
          intro v1 w3 hown1 hgr hat
          have HOL := (hl.alloc (.cells #[.int .i64 z] 3)).own
          have hz3 := hgr.size
          simp at hz3
          have hM_1 : BM w3 w1.heap.size R C A1 n1 c1 := BX.keptOwn (by (repeat (first | (with_reducible exact hM) | (with_reducible refine BX.new _ _ _ _ _ _ _ _ (by first | omega | (simp; done) | (simp; omega))) | (with_reducible refine BX.below ?_ (by assumption) (by first | omega | (simp; done) | (simp; omega))) | (with_reducible apply BX.drew) | (with_reducible apply BX.drewN) | (with_reducible refine BX.put ?_) | (with_reducible refine BX.put2 ?_) | (with_reducible refine BX.far ?_ (by simp only [ne_eq]; omega) _) | (with_reducible apply BX.alloc) | (with_reducible refine B3.new _ _ _ _ _ _ (by first | omega | (simp; done) | (simp; omega))) | (with_reducible exact B3.of hM) | (with_reducible refine B3.below ?_ (by assumption) (by first | omega | (simp; done) | (simp; omega))) | (with_reducible apply B3.drew) | (with_reducible apply B3.drewN) | (with_reducible refine B3.far ?_ (by simp only [ne_eq]; omega) _) | (with_reducible apply B3.alloc)))) hgr HOL (.inl (by omega)); have hoa_1 : OR w3 (w.heap.size + 1) (.slice A1 n1 c1) (tb R C s.f) := OR.keptOwn (by (repeat (first | (with_reducible exact hoa) | (with_reducible refine OR.drew ?_) | (with_reducible refine OR.drewN ?_ _) | (with_reducible refine OR.alloc ?_ _) | (with_reducible refine OR.below ?_ (by assumption) (by first | omega | (simp; done) | (simp; omega))) | (with_reducible refine OR.low ?_ (by first | omega | (simp only []; omega) | (simp; omega)) _)))) hgr HOA.out HOL (.inl (by omega)); have hbw_1 : Below w.heap.size w w3 := Below.trans (by (repeat (first | (with_reducible exact Below.refl _ _) | (with_reducible assumption) | (with_reducible refine below_drewN ?_ _) | (with_reducible refine Below.drew ?_) | (with_reducible refine Below.alloc ?_ ?_ _) | (with_reducible refine Below.setCell ?_ ?_ _) | (with_reducible refine below_into ?_ (by assumption) (by first | omega | (simp; done) | (simp; omega))) | go_size))) (below_keptOwn hgr HOL (by omega) (by first | omega | (simp; done) | (simp; omega)))
          clear hM hoa hl hbw hgr hat HOL ma mb mc mf ml
          go_wp2_with fail
          go_roundg (gk - 1)
          case measure => omega
          case rel => exact ⟨i + 1, by go_num, by omega, by omega, by rw [HE.out]; exact hown1, hM_1, hoa_1, hbw_1, (by first | omega | (simp; done) | (simp; omega))⟩
      · rw [decide_eq_false hiR] at htst
        subst htst
        have hiE : i = min R C := by omega
        subst hiE
        go_wp2_with fail
        go_ret2
        exact IBR.mk (facO_min _ _ _) (OR.mono (B := w1.heap.size + 1 + 1 + 1) (by (repeat (first | (with_reducible exact hl) | (with_reducible refine OR.drew ?_) | (with_reducible refine OR.drewN ?_ _) | (with_reducible refine OR.alloc ?_ _) | (with_reducible refine OR.below ?_ (by assumption) (by first | omega | (simp; done) | (simp; omega))) | (with_reducible refine OR.low ?_ (by first | omega | (simp only []; omega) | (simp; omega)) _)))) (by omega)) (by (repeat (first | (with_reducible exact Below.refl _ _) | (with_reducible assumption) | (with_reducible refine below_drewN ?_ _) | (with_reducible refine Below.drew ?_) | (with_reducible refine Below.alloc ?_ ?_ _) | (with_reducible refine Below.setCell ?_ ?_ _) | (with_reducible refine below_into ?_ (by assumption) (by first | omega | (simp; done) | (simp; omega))) | go_size)))
end Go.Proofs.Ytcpbaagnjofjfaa

/-
  DERIVED. The law FnDiophantine: equations in whole numbers have a solution or a refutation, and each is checked.
-/
import Derived.Test.YtmcbhpaajjlmmaaDrSq
import Derived.Test.YtmcbhpaajjlmmaaZ1
import Derived.Test.YtmcbhpaajjlmmaaZ5
import Derived.Test.YtmcbhpaajjlmmaaSiGq
import Derived.Test.YtmcbhpaajjlmmaaSiRiq
import Derived.Test.YtmcbhpaajjlmmaaZ4
import Derived.Test.YtmcbhpaajjlmmaaZ3
namespace Go.Proofs.Ytmcbhpaajjlmmaa
open Go.RowKit
set_option linter.unusedVariables false
set_option linter.unusedSimpArgs false
theorem si_mat {r c : Int} {xs bs : List Int} (h : (siR r c xs bs).2 = 0 ∨ (siR r c xs bs).2 = 1) : isMat r c xs = true := by
  rcases hm : isMat r c xs with _ | _
  · have : siR r c xs bs = ([], 2) := siR_fail (siS_none (sfX_no hm))
    rw [this] at h
    rcases h with h | h <;> cases h
  · rfl
theorem si_code (r c : Int) (xs bs : List Int) : (siR r c xs bs).2 = 0 ∨ (siR r c xs bs).2 = 1 ∨ (siR r c xs bs).2 = 2 := by
  unfold siR
  split
  · right; right; rfl
  · split
    · right; left; rfl
    · split
      · left; rfl
      · right; right; rfl
set_option maxRecDepth 100000 in
set_option maxHeartbeats 8000000 in
theorem law_FnDiophantine (w : World) (A : Option Addr) (n cap : Nat) (xs : List Int) (hnc : n ≤ cap) (hcm : cap ≤ maxLen) (hby : RB w w.heap.size A n xs) :
    Calls Try.prog 5 #[.slice A n cap] w fun e w' => e = .returned (.bool true) ∧ Below w.heap.size w w' := by
  by_cases hn : 1048576 < n
  · go_enter Try.func5, Try.ntmps5
    go_wp2_with (go_at_call 30; refine (laws_big A n cap _).mono ?_; rintro e w1 ⟨rfl, rfl⟩)
    go_ret
    exact ⟨rfl, Below.refl _ _⟩
  · go_enter Try.func5, Try.ntmps5
    go_wp2_with (go_at_call 30; refine (laws_big A n cap _).mono ?_; rintro e w1 ⟨rfl, rfl⟩)
    refine (spec_DrawSolveInteger n cap A xs _ hby (by omega)).mono ?_
    rintro e w1 ⟨r, c, A1, n1, c1, ys, A2, n2, c2, bs, rfl, ho1, ho2, hl1, hl2, hbw0⟩
    have hsz := hbw0.size
    have e1 := ho1.lenEq
    have e2 := ho2.lenEq
    have H1 : Hid (RI (w1.alloc (.cells #[.int .i64 r, .int .i64 c, .slice A1 n1 c1] 28)) (w1.alloc (.cells #[.int .i64 r, .int .i64 c, .slice A1 n1 c1] 28)).heap.size A1 n1 ys) := Lib.hid ((ho1.alloc _).reads)
    have H2 : Hid (RI (w1.alloc (.cells #[.int .i64 r, .int .i64 c, .slice A1 n1 c1] 28)) (w1.alloc (.cells #[.int .i64 r, .int .i64 c, .slice A1 n1 c1] 28)).heap.size A2 n2 bs) := Lib.hid ((ho2.alloc _).reads)
    have hM : BM (w1.alloc (.cells #[.int .i64 r, .int .i64 c, .slice A1 n1 c1] 28)) w1.heap.size r c A1 n1 c1 := by (with_reducible (repeat (first | assumption | refine BX.n_ | refine BX.b_ ?_ | apply BX.drew | apply BX.drewN | refine BX.put ?_ | refine BX.put2 ?_ | refine BX.f_ ?_ | apply BX.alloc | refine B3.n_ | refine B3.of (by assumption) | refine B3.b_ ?_ | apply B3.drew | apply B3.drewN | refine B3.f_ ?_ | apply B3.alloc)))
    have n1x : n1 ≤ 17 := by omega
    have n2x : n2 ≤ 1001 ∧ n2 ≤ bs.length ∧ bs.length ≤ n2 := by omega
    have HB0 : Hid (Below w.heap.size w (w1.alloc (.cells #[.int .i64 r, .int .i64 c, .slice A1 n1 c1] 28))) := Lib.hid (hbw0.alloc hsz _)
    clear hbw0 ho1 ho2 e1 e2 hby
    obtain ⟨ma, mb, mc, mf, ml⟩ := hM.mx
    go_wp2_with fail
    generalize (w1.alloc (.cells #[.int .i64 r, .int .i64 c, .slice A1 n1 c1] 28)) = w0 at *
    generalize w1.heap.size = bM at *
    have hbw : Below w0.heap.size w0 w0 := Below.refl _ _
    have hs0 : w.heap.size ≤ w0.heap.size := by have := HB0.out.size; omega
    have hlM := hM.lt
    clear hsz
    have hcode := si_code r c ys bs
    have HNE := Lib.hid (fun h => si_else (r := r) (c := c) (xs := ys) (bs := bs) h)
    have HM0 := Lib.hid (fun h => si_mat (r := r) (c := c) (xs := ys) (bs := bs) h)
    have HRF := Lib.hid (fun h => ri_found (r := r) (c := c) (xs := ys) (bs := bs) h)
    refine (impl_SolveInteger r c A1 A2 n1 c1 n2 c2 ys bs _ (B := w0.heap.size) (B' := w0.heap.size) H1.out H2.out (Nat.le_refl _) (Nat.le_refl _) (by omega) (by omega)).mono ?_
    rintro e w2 ⟨A3, n3, c3, rfl, ho3, hb2⟩
    have e3 := ho3.lenEq
    have H3 := Lib.hid ho3.reads
    clear ho3
    have hszw2 := hb2.size; (try simp at hszw2); have hM_1 : BM w2 bM (r) (c) A1 n1 c1 := (by (with_reducible (repeat (first | exact hM | refine BX.n_ | refine BX.b_ ?_ | apply BX.drew | apply BX.drewN | refine BX.put ?_ | refine BX.put2 ?_ | refine BX.f_ ?_ | apply BX.alloc | refine B3.n_ | exact B3.of hM | refine B3.b_ ?_ | apply B3.drew | apply B3.drewN | refine B3.f_ ?_ | apply B3.alloc)))); have hbw_1 : Below w0.heap.size w0 w2 := (by (repeat (first | (with_reducible (first | exact Below.refl _ _ | assumption | refine below_drewN ?_ _ | refine Below.drew ?_ | refine Below.alloc ?_ ?_ _ | refine Below.setCell ?_ ?_ _ | refine below_i ?_)) | go_size))); clear hM hbw ma mb mc mf ml hb2; have hM := hM_1; have hbw := hbw_1; clear hM_1 hbw_1; obtain ⟨ma, mb, mc, mf, ml⟩ := hM.mx
    obtain ⟨⟨x, k⟩, hxk⟩ : ∃ q, siR r c ys bs = q := ⟨_, rfl⟩
    rw [hxk] at hcode HNE HM0 HRF H3 e3
    rw [hxk]
    have HXK := Lib.hid hxk
    clear hxk
    simp only at hcode e3
    have n3x : n3 ≤ x.length ∧ x.length ≤ n3 := by omega
    have hx1 : x.length ≤ 1048576 := by have := siR_len r c ys bs; rw [HXK.out] at this; exact this
    have H3' : Hid (RI w2 w2.heap.size A3 n3 x) := H3
    clear H3 e3
    go_wp2_with fail
    refine (impl_RefuteInteger r c A1 A2 n1 c1 n2 c2 ys bs _ (B := w0.heap.size) (B' := w0.heap.size) (by (with_reducible (repeat (first | exact H1.out | refine RI.drew ?_ | refine RI.drewN ?_ _ | refine RI.a_ ?_ | refine RI.s_ ?_ | refine RI.b_ ?_)))) (by (with_reducible (repeat (first | exact H2.out | refine RI.drew ?_ | refine RI.drewN ?_ _ | refine RI.a_ ?_ | refine RI.s_ ?_ | refine RI.b_ ?_)))) (by first | omega | (simp; done) | (simp; omega)) (by first | omega | (simp; done) | (simp; omega)) (by omega) (by omega)).mono ?_
    rintro e w3 ⟨A4, n4, c4, rfl, ho4, hb3⟩
    have e4 := ho4.lenEq
    have h4c := riR_cnt r c ys bs
    have H4 := Lib.hid ho4.reads
    clear ho4
    have H3_1 : Hid (RI w3 w2.heap.size A3 n3 x) := Lib.hid (by (with_reducible (repeat (first | exact H3'.out | refine RI.drew ?_ | refine RI.drewN ?_ _ | refine RI.a_ ?_ | refine RI.s_ ?_ | refine RI.b_ ?_)))); clear H3'; have H3' := H3_1; clear H3_1; have hszw3 := hb3.size; (try simp at hszw3); have hM_1 : BM w3 bM ((r)) ((c)) A1 n1 c1 := (by (with_reducible (repeat (first | exact hM | refine BX.n_ | refine BX.b_ ?_ | apply BX.drew | apply BX.drewN | refine BX.put ?_ | refine BX.put2 ?_ | refine BX.f_ ?_ | apply BX.alloc | refine B3.n_ | exact B3.of hM | refine B3.b_ ?_ | apply B3.drew | apply B3.drewN | refine B3.f_ ?_ | apply B3.alloc)))); have hbw_1 : Below w0.heap.size w0 w3 := (by (repeat (first | (with_reducible (first | exact Below.refl _ _ | assumption | refine below_drewN ?_ _ | refine Below.drew ?_ | refine Below.alloc ?_ ?_ _ | refine Below.setCell ?_ ?_ _ | refine below_i ?_)) | go_size))); clear hM hbw ma mb mc mf ml hb3; have hM := hM_1; have hbw := hbw_1; clear hM_1 hbw_1; obtain ⟨ma, mb, mc, mf, ml⟩ := hM.mx
    rcases hcode with hk | hk | hk
    · subst hk
      have hri := HRF.out rfl
      rw [hri] at H4 e4
      rw [hri]
      have hm := HM0.out (.inl rfl)
      have M := isMat_iff.1 hm
      obtain ⟨R, rfl⟩ := nat_of M.r0
      obtain ⟨C, rfl⟩ := nat_of M.c0
      have HN3 : Hid (x.length = n3) := Lib.hid (by omega)
      obtain ⟨hs1, hs2, -⟩ := si_solves HXK.out
      have h40 : n4 = 0 := by simpa using e4
      subst h40
      have hbR : n2 ≤ R ∧ R ≤ n2 := by omega
      have HBR : Hid (bs.length = R) := Lib.hid hs1
      clear hri hm M hs1 hs2 e4 h4c H4 HM0 HRF HNE
      go_wp2_with fail
      refine (impl_MultiplyMatrices R C n3 1 A1 A3 n1 c1 n3 c3 ys x _ (B := w0.heap.size) (B' := w2.heap.size) (by (with_reducible (repeat (first | exact H1.out | refine RI.drew ?_ | refine RI.drewN ?_ _ | refine RI.a_ ?_ | refine RI.s_ ?_ | refine RI.b_ ?_)))) (by (with_reducible (repeat (first | exact H3'.out | refine RI.drew ?_ | refine RI.drewN ?_ _ | refine RI.a_ ?_ | refine RI.s_ ?_ | refine RI.b_ ?_)))) (by first | omega | (simp; done) | (simp; omega)) (by first | omega | (simp; done) | (simp; omega)) (by omega) (by omega)).mono ?_
      rcases hmb : mulB R C ys n3 1 x with _ | _
      · rw [mulM_no hmb]
        clear hmb
        rintro e w4 ⟨A5, n5, c5, rfl, -, hb4⟩
        have H3_1 : Hid (RI w4 w2.heap.size A3 n3 x) := Lib.hid (by (with_reducible (repeat (first | exact H3'.out | refine RI.drew ?_ | refine RI.drewN ?_ _ | refine RI.a_ ?_ | refine RI.s_ ?_ | refine RI.b_ ?_)))); clear H3'; have H3' := H3_1; clear H3_1; have hszw4 := hb4.size; (try simp at hszw4); have hM_1 : BM w4 bM ((R)) ((C)) A1 n1 c1 := (by (with_reducible (repeat (first | exact hM | refine BX.n_ | refine BX.b_ ?_ | apply BX.drew | apply BX.drewN | refine BX.put ?_ | refine BX.put2 ?_ | refine BX.f_ ?_ | apply BX.alloc | refine B3.n_ | exact B3.of hM | refine B3.b_ ?_ | apply B3.drew | apply B3.drewN | refine B3.f_ ?_ | apply B3.alloc)))); have hbw_1 : Below w0.heap.size w0 w4 := (by (repeat (first | (with_reducible (first | exact Below.refl _ _ | assumption | refine below_drewN ?_ _ | refine Below.drew ?_ | refine Below.alloc ?_ ?_ _ | refine Below.setCell ?_ ?_ _ | refine below_i ?_)) | go_size))); clear hM hbw ma mb mc mf ml hb4; have hM := hM_1; have hbw := hbw_1; clear hM_1 hbw_1; obtain ⟨ma, mb, mc, mf, ml⟩ := hM.mx
        go_wp2_with fail
        go_ret
        exact ⟨rfl, HB0.out.trans (Below.mono (B := w0.heap.size) (by (repeat (first | (with_reducible (first | exact Below.refl _ _ | assumption | refine below_drewN ?_ _ | refine Below.drew ?_ | refine Below.alloc ?_ ?_ _ | refine Below.setCell ?_ ?_ _ | refine below_i ?_)) | go_size))) hs0)⟩
      · have hpr := si_prod HXK.out (by rw [HN3.out]; exact hmb)
        rw [HN3.out] at hpr
        have hsol : solB R C ys bs x = true := by unfold solB; rw [HN3.out, hmb, hpr]; simp [eqB]
        have hsm : smB R 1 bs n2 1 bs = true := by unfold smB; simp [eqB]; omega
        have HSOL := Lib.hid hsol
        have HSM := Lib.hid hsm
        rw [hpr]
        clear hmb hpr hsol hsm
        rintro e w4 ⟨A5, n5, c5, rfl, ho5, hb4⟩
        have e5 := OR.lenEq (xs := bs) ho5
        have H5 := Lib.hid (OR.reads (xs := bs) ho5)
        have hn5 : n5 ≤ 1048576 := by omega
        clear ho5 e5
        have H3_1 : Hid (RI w4 w2.heap.size A3 n3 x) := Lib.hid (by (with_reducible (repeat (first | exact H3'.out | refine RI.drew ?_ | refine RI.drewN ?_ _ | refine RI.a_ ?_ | refine RI.s_ ?_ | refine RI.b_ ?_)))); clear H3'; have H3' := H3_1; clear H3_1; have hszw4 := hb4.size; (try simp at hszw4); have hM_1 : BM w4 bM ((R)) ((C)) A1 n1 c1 := (by (with_reducible (repeat (first | exact hM | refine BX.n_ | refine BX.b_ ?_ | apply BX.drew | apply BX.drewN | refine BX.put ?_ | refine BX.put2 ?_ | refine BX.f_ ?_ | apply BX.alloc | refine B3.n_ | exact B3.of hM | refine B3.b_ ?_ | apply B3.drew | apply B3.drewN | refine B3.f_ ?_ | apply B3.alloc)))); have hbw_1 : Below w0.heap.size w0 w4 := (by (repeat (first | (with_reducible (first | exact Below.refl _ _ | assumption | refine below_drewN ?_ _ | refine Below.drew ?_ | refine Below.alloc ?_ ?_ _ | refine Below.setCell ?_ ?_ _ | refine below_i ?_)) | go_size))); clear hM hbw ma mb mc mf ml hb4; have hM := hM_1; have hbw := hbw_1; clear hM_1 hbw_1; obtain ⟨ma, mb, mc, mf, ml⟩ := hM.mx
        go_wp2_with fail
        refine (impl_SameMatrix R 1 n2 1 A5 A2 n5 c5 n2 c2 bs bs _ (B := w4.heap.size) (B' := w0.heap.size) (by (with_reducible (repeat (first | exact H5.out | refine RI.drew ?_ | refine RI.drewN ?_ _ | refine RI.a_ ?_ | refine RI.s_ ?_ | refine RI.b_ ?_)))) (by (with_reducible (repeat (first | exact H2.out | refine RI.drew ?_ | refine RI.drewN ?_ _ | refine RI.a_ ?_ | refine RI.s_ ?_ | refine RI.b_ ?_)))) (by first | omega | (simp; done) | (simp; omega)) (by first | omega | (simp; done) | (simp; omega)) hn5 (by omega)).mono ?_
        rw [HSM.out]
        rintro e w5 ⟨rfl, hb5⟩
        have H3_1 : Hid (RI w5 w2.heap.size A3 n3 x) := Lib.hid (by (with_reducible (repeat (first | exact H3'.out | refine RI.drew ?_ | refine RI.drewN ?_ _ | refine RI.a_ ?_ | refine RI.s_ ?_ | refine RI.b_ ?_)))); clear H3'; have H3' := H3_1; clear H3_1; have hszw5 := hb5.size; (try simp at hszw5); have hM_1 : BM w5 bM ((R)) ((C)) A1 n1 c1 := (by (with_reducible (repeat (first | exact hM | refine BX.n_ | refine BX.b_ ?_ | apply BX.drew | apply BX.drewN | refine BX.put ?_ | refine BX.put2 ?_ | refine BX.f_ ?_ | apply BX.alloc | refine B3.n_ | exact B3.of hM | refine B3.b_ ?_ | apply B3.drew | apply B3.drewN | refine B3.f_ ?_ | apply B3.alloc)))); have hbw_1 : Below w0.heap.size w0 w5 := (by (repeat (first | (with_reducible (first | exact Below.refl _ _ | assumption | refine below_drewN ?_ _ | refine Below.drew ?_ | refine Below.alloc ?_ ?_ _ | refine Below.setCell ?_ ?_ _ | refine below_i ?_)) | go_size))); clear hM hbw ma mb mc mf ml hb5; have hM := hM_1; have hbw := hbw_1; clear hM_1 hbw_1; obtain ⟨ma, mb, mc, mf, ml⟩ := hM.mx
        go_wp2_with fail
        refine (impl_IsSolution R C A1 A2 A3 n1 c1 n2 c2 n3 c3 ys bs x _ (B := w0.heap.size) (B2 := w0.heap.size) (B3' := w2.heap.size) (by (with_reducible (repeat (first | exact H1.out | refine RI.drew ?_ | refine RI.drewN ?_ _ | refine RI.a_ ?_ | refine RI.s_ ?_ | refine RI.b_ ?_)))) (by (with_reducible (repeat (first | exact H2.out | refine RI.drew ?_ | refine RI.drewN ?_ _ | refine RI.a_ ?_ | refine RI.s_ ?_ | refine RI.b_ ?_)))) (by (with_reducible (repeat (first | exact H3'.out | refine RI.drew ?_ | refine RI.drewN ?_ _ | refine RI.a_ ?_ | refine RI.s_ ?_ | refine RI.b_ ?_)))) (by first | omega | (simp; done) | (simp; omega)) (by first | omega | (simp; done) | (simp; omega)) (by first | omega | (simp; done) | (simp; omega)) (by omega) (by omega) (by omega)).mono ?_
        rw [HSOL.out]
        rintro e w6 ⟨rfl, hb6⟩
        have H3_1 : Hid (RI w6 w2.heap.size A3 n3 x) := Lib.hid (by (with_reducible (repeat (first | exact H3'.out | refine RI.drew ?_ | refine RI.drewN ?_ _ | refine RI.a_ ?_ | refine RI.s_ ?_ | refine RI.b_ ?_)))); clear H3'; have H3' := H3_1; clear H3_1; have hszw6 := hb6.size; (try simp at hszw6); have hM_1 : BM w6 bM ((R)) ((C)) A1 n1 c1 := (by (with_reducible (repeat (first | exact hM | refine BX.n_ | refine BX.b_ ?_ | apply BX.drew | apply BX.drewN | refine BX.put ?_ | refine BX.put2 ?_ | refine BX.f_ ?_ | apply BX.alloc | refine B3.n_ | exact B3.of hM | refine B3.b_ ?_ | apply B3.drew | apply B3.drewN | refine B3.f_ ?_ | apply B3.alloc)))); have hbw_1 : Below w0.heap.size w0 w6 := (by (repeat (first | (with_reducible (first | exact Below.refl _ _ | assumption | refine below_drewN ?_ _ | refine Below.drew ?_ | refine Below.alloc ?_ ?_ _ | refine Below.setCell ?_ ?_ _ | refine below_i ?_)) | go_size))); clear hM hbw ma mb mc mf ml hb6; have hM := hM_1; have hbw := hbw_1; clear hM_1 hbw_1; obtain ⟨ma, mb, mc, mf, ml⟩ := hM.mx
        go_wp2_with fail
        go_ret
        exact ⟨rfl, HB0.out.trans (Below.mono (B := w0.heap.size) (by (repeat (first | (with_reducible (first | exact Below.refl _ _ | assumption | refine below_drewN ?_ _ | refine Below.drew ?_ | refine Below.alloc ?_ ?_ _ | refine Below.setCell ?_ ?_ _ | refine below_i ?_)) | go_size))) hs0)⟩
    · subst hk
      have hx0 : x = [] := HNE.out (by decide)
      subst hx0
      have h30 : n3 = 0 := by simpa using n3x
      subst h30
      have hm := HM0.out (.inr rfl)
      have M := isMat_iff.1 hm
      obtain ⟨R, rfl⟩ := nat_of M.r0
      obtain ⟨C, rfl⟩ := nat_of M.c0
      have hR24 : R ≤ 24 := by have := M.r1; omega
      have hrn := ri_none (R := R) (C := C) (xs := ys) (bs := bs) (by rw [HXK.out])
      clear hm M HM0 HRF HNE n3x hx1
      obtain ⟨⟨m, qs, kk⟩, hq⟩ : ∃ q, riR R C ys bs = q := ⟨_, rfl⟩
      rw [hq] at hrn H4 e4 h4c
      rw [hq]
      clear hq
      have H4' : Hid (RI w3 w3.heap.size A4 (n4 * 2) qs) := H4
      have e4' : n4 = m := e4
      clear H4 e4 h4c
      rcases hrn with hrn | ⟨h1, h2, h3, h4⟩
      · injection hrn with h1 h2
        injection h2 with h2 h3
        subst h1 h2 h3
        subst e4'
        go_wp2_with fail
        go_loopw [13, 12] (fun u v wr => u = .int .i64 0 ∧ v = .bool true ∧ wr = w3) (fun _ _ _ => 0)
        case atStart => exact ⟨rfl, rfl, rfl⟩
        case round =>
          obtain ⟨rfl, rfl, rfl⟩ := hrel
          go_wp2_with fail
          go_ret
          exact ⟨rfl, HB0.out.trans (Below.mono (B := w0.heap.size) (by (repeat (first | (with_reducible (first | exact Below.refl _ _ | assumption | refine below_drewN ?_ _ | refine Below.drew ?_ | refine Below.alloc ?_ ?_ _ | refine Below.setCell ?_ ?_ _ | refine below_i ?_)) | go_size))) hs0)⟩
      · have h1' : m = R := h1
        have h2' : kk = 0 := h2
        subst h2'
        have hn4 : n4 ≤ R ∧ R ≤ n4 := by omega
        have hn4b : ((n4 : Int) == (R : Int)) = true := by simp; omega
        have HQ : Hid (∀ j, j < R → ratOk (fl qs j).1 (fl qs j).2 = true) := Lib.hid h4
        clear h1 h1' h2 h3 h4 e4'
        go_wp2_with fail
        go_loopw [13, 12] (fun u v wr => ∃ j : Nat, u = .int .i64 j ∧ v = .bool true ∧ j ≤ n4 ∧ BM wr bM R C A1 n1 c1 ∧ Below w0.heap.size w0 wr ∧ RI wr w3.heap.size A4 (n4 * 2) qs ∧ w3.heap.size ≤ wr.heap.size) (fun u _ _ => n4 - (intOf u).toNat)
        case atStart => exact ⟨0, rfl, rfl, Nat.zero_le _, by (with_reducible (repeat (first | exact hM | refine BX.n_ | refine BX.b_ ?_ | apply BX.drew | apply BX.drewN | refine BX.put ?_ | refine BX.put2 ?_ | refine BX.f_ ?_ | apply BX.alloc | refine B3.n_ | exact B3.of hM | refine B3.b_ ?_ | apply B3.drew | apply B3.drewN | refine B3.f_ ?_ | apply B3.alloc))), by (repeat (first | (with_reducible (first | exact Below.refl _ _ | assumption | refine below_drewN ?_ _ | refine Below.drew ?_ | refine Below.alloc ?_ ?_ _ | refine Below.setCell ?_ ?_ _ | refine below_i ?_)) | go_size)), by (with_reducible (repeat (first | exact H4'.out | refine RI.drew ?_ | refine RI.drewN ?_ _ | refine RI.a_ ?_ | refine RI.s_ ?_ | refine RI.b_ ?_))), by simp⟩
        case round =>
          clear hM hbw ma mb mc mf ml
          obtain ⟨j, rfl, rfl, hj, hM, hbw, hri, hs3r⟩ := hrel
          obtain ⟨ma, mb, mc, mf, ml⟩ := hM.mx
          have hszr := hbw.size
          by_cases hlt : j < n4
          · obtain ⟨b4, o4, rfl, hb4, -⟩ := hri.2 (by omega)
            have q1 := RI.at_ hri (k := j * 2) (by omega)
            have q2 := RI.at_ hri (k := j * 2 + 1) (by omega)
            have HOKJ : Hid (ratOk (qs.getD (j * 2) 0) (qs.getD (j * 2 + 1) 0) = true) := Lib.hid (HQ.out j (by omega))
            rw [← Nat.add_assoc] at q2
            generalize qs.getD (j * 2) 0 = qn at *
            generalize qs.getD (j * 2 + 1) 0 = qd at *
            have HRI := Lib.hid hri
            clear hri
            go_wp2_with fail
            refine (spec_IsRatio qn qd _).mono ?_
            rw [HOKJ.out]
            rintro e w5 ⟨rfl, hb5⟩
            have hM_1 : BM w5 bM R C A1 n1 c1 := (by (with_reducible (repeat (first | exact hM | refine BX.n_ | refine BX.b_ ?_ | apply BX.drew | apply BX.drewN | refine BX.put ?_ | refine BX.put2 ?_ | refine BX.f_ ?_ | apply BX.alloc | refine B3.n_ | exact B3.of hM | refine B3.b_ ?_ | apply B3.drew | apply B3.drewN | refine B3.f_ ?_ | apply B3.alloc))))
            have hri_1 : RI w5 w3.heap.size (some ⟨b4, o4, none⟩) (n4 * 2) qs := by (with_reducible (repeat (first | exact HRI.out | refine RI.drew ?_ | refine RI.drewN ?_ _ | refine RI.a_ ?_ | refine RI.s_ ?_ | refine RI.b_ ?_)))
            have hbw_1 : Below w0.heap.size w0 w5 := (by (repeat (first | (with_reducible (first | exact Below.refl _ _ | assumption | refine below_drewN ?_ _ | refine Below.drew ?_ | refine Below.alloc ?_ ?_ _ | refine Below.setCell ?_ ?_ _ | refine below_i ?_)) | go_size)))
            clear hM hbw ma mb mc mf ml q1 q2
            go_wp2_with fail
            go_roundw
            case rel => exact ⟨j + 1, by go_num, rfl, by omega, hM_1, hbw_1, hri_1, by have := hb5.size; omega⟩
            case measure => simp only [intOf]; omega
          · clear hri
            go_wp2_with fail
            go_ret
            exact ⟨rfl, HB0.out.trans (Below.mono (B := w0.heap.size) (by (repeat (first | (with_reducible (first | exact Below.refl _ _ | assumption | refine below_drewN ?_ _ | refine Below.drew ?_ | refine Below.alloc ?_ ?_ _ | refine Below.setCell ?_ ?_ _ | refine below_i ?_)) | go_size))) hs0)⟩
    · subst hk
      have hx0 : x = [] := HNE.out (by decide)
      subst hx0
      have h30 : n3 = 0 := by simpa using n3x
      subst h30
      go_wp2_with fail
      go_ret
      exact ⟨rfl, HB0.out.trans (Below.mono (B := w0.heap.size) (by (repeat (first | (with_reducible (first | exact Below.refl _ _ | assumption | refine below_drewN ?_ _ | refine Below.drew ?_ | refine Below.alloc ?_ ?_ _ | refine Below.setCell ?_ ?_ _ | refine below_i ?_)) | go_size))) hs0)⟩
end Go.Proofs.Ytmcbhpaajjlmmaa

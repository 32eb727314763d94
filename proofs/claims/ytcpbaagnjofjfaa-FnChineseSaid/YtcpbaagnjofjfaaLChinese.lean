/-
  DERIVED. The law FnChinese: the number has all residues and is less than the product.
-/
import Derived.Test.YtcpbaagnjofjfaaDrL
import Derived.Test.YtcpbaagnjofjfaaLawB
import Derived.Test.YtcpbaagnjofjfaaPlCh
import Derived.Test.YtcpbaagnjofjfaaChin
import Derived.Test.YtcpbaagnjofjfaaRat
namespace Go.Proofs.Ytcpbaagnjofjfaa
open Go.RowKit
set_option linter.unusedVariables false
set_option linter.unusedSimpArgs false
theorem foldl_take {ms : List Int} {k : Nat} (h : k < ms.length) : (ms.take (k + 1)).foldl (· * ·) (1 : Int) = (ms.take k).foldl (· * ·) 1 * ms.getD k 0 := by
  rw [List.take_add_one, List.foldl_append, getD_some h]; rfl
theorem laws_product (A : Option Addr) (n cap : Nat) (ms : List Int) (w : World) {C : Nat} (h : RI w C A n ms) (hs : spF 1 ms = true) (hn : n ≤ 1048576) :
    Calls Try.prog 25 #[.slice A n cap] w (EV (.int .i64 (ms.foldl (· * ·) 1)) w) := by
  have hl := h.len
  have hlx : ms.length ≤ n ∧ n ≤ ms.length := by omega
  have H := Lib.hid h
  have HS := Lib.hid hs
  clear h hs hl
  go_enter Try.func25, Try.ntmps25
  go_wp2_with fail
  go_loopw [3, 4] (fun u v wr => ∃ k : Nat, v = .int .i64 k ∧ u = .int .i64 ((ms.take k).foldl (· * ·) 1) ∧ k ≤ n ∧ wr = w) (fun _ v _ => n - (intOf v).toNat)
  case atStart => exact ⟨0, rfl, rfl, Nat.zero_le _, rfl⟩
  case round =>
    obtain ⟨k, rfl, rfl, hk, rfl⟩ := hrel
    obtain ⟨p1, p2⟩ := spF_take ms 1 k (by omega) (by omega) HS.out
    by_cases hlt : k < n
    · obtain ⟨b, o, rfl, hbb, hcells⟩ := H.out.2 (by omega)
      have c1 := hcells k (by omega)
      clear hcells
      have HF := Lib.hid (foldl_take (ms := ms) (k := k) (by omega))
      obtain ⟨q1, q2⟩ := spF_take ms 1 (k + 1) (by omega) (by omega) HS.out
      rw [HF.out] at q1 q2
      generalize ms.getD k 0 = m at *
      generalize (ms.take k).foldl (· * ·) (1 : Int) = p at *
      have ha : ((p.natAbs : Nat) : Int) = p := by omega
      have HA := Lib.hid ha
      clear ha
      go_wp2_with (go_at_call 18; refine (laws_abs p (by omega) (by omega) _).mono ?_; rw [HA.out]; rintro e w' ⟨rfl, rfl⟩)
      go_roundw
      case rel => exact ⟨k + 1, by go_num, by rw [HF.out], by omega, trivial⟩
      case measure => simp only [intOf]; omega
    · have HE : Hid ((ms.take k).foldl (· * ·) (1 : Int) = ms.foldl (· * ·) 1) := Lib.hid (by rw [List.take_of_length_le (by omega)])
      go_wp2
      go_ret
      exact EV.mk (vint HE.out)
set_option maxRecDepth 100000 in
set_option maxHeartbeats 8000000 in
theorem law_FnChinese (w : World) (A : Option Addr) (n cap : Nat) (xs : List Int) (hnc : n ≤ cap) (hcm : cap ≤ maxLen) (hby : RB w w.heap.size A n xs) :
    Calls Try.prog 4 #[.slice A n cap] w fun e w' => e = .returned (.bool true) ∧ Below w.heap.size w w' := by
  by_cases hn : 1048576 < n
  · go_enter Try.func4, Try.ntmps4
    go_wp2_with (go_at_call 13; refine (laws_big A n cap _).mono ?_; rintro e w1 ⟨rfl, rfl⟩)
    go_ret
    exact ⟨rfl, Below.refl _ _⟩
  · go_enter Try.func4, Try.ntmps4
    go_wp2_with (go_at_call 13; refine (laws_big A n cap _).mono ?_; rintro e w1 ⟨rfl, rfl⟩)
    refine (spec_DrawChineseOf n cap A xs _ hby (by omega)).mono ?_
    rintro e w1 ⟨A1, n1, c1, rs, A2, n2, c2, ms, rfl, ho1, ho2, hl1, hl2, hbw0⟩
    have hsz := hbw0.size
    have HB0 := Lib.hid hbw0
    have H1 := Lib.hid ho1.reads
    have H2 := Lib.hid ho2.reads
    have e1 := ho1.lenEq
    have e2 := ho2.lenEq
    have hnc2 := ho2.caps.1
    have n1x : n1 ≤ 5 ∧ n1 ≤ rs.length ∧ rs.length ≤ n1 := by omega
    have n2x : n2 ≤ 4 ∧ n2 ≤ ms.length ∧ ms.length ≤ n2 := by omega
    clear hbw0 ho1 ho2 e1 e2 hby
    have hbw : Below w1.heap.size w1 w1 := Below.refl _ _
    rcases hr : chB rs ms with _ | _
    · have HV := Lib.hid (ch_no hr)
      have HR := Lib.hid hr
      clear hr
      go_wp2_with (first | (go_at_call 21; refine (impl_ChineseOf A1 A2 n1 n2 c1 c2 rs ms _ (B := w1.heap.size) (B' := w1.heap.size) (by (repeat (first | (with_reducible exact H1.out) | (with_reducible refine RI.drew ?_) | (with_reducible refine RI.drewN ?_ _) | (with_reducible refine RI.alloc ?_ (by first | omega | (simp; done) | (simp; omega)) _) | (with_reducible refine RI.setCell ?_ (by first | omega | (simp; done) | (simp; omega)) _) | (with_reducible refine RI.below ?_ (by assumption) (by first | omega | (simp; done) | (simp; omega)))))) (by (repeat (first | (with_reducible exact H2.out) | (with_reducible refine RI.drew ?_) | (with_reducible refine RI.drewN ?_ _) | (with_reducible refine RI.alloc ?_ (by first | omega | (simp; done) | (simp; omega)) _) | (with_reducible refine RI.setCell ?_ (by first | omega | (simp; done) | (simp; omega)) _) | (with_reducible refine RI.below ?_ (by assumption) (by first | omega | (simp; done) | (simp; omega)))))) (by first | omega | (simp; done) | (simp; omega)) (by first | omega | (simp; done) | (simp; omega)) (by omega) (by omega) hnc2).mono ?_; rw [HR.out, HV.out]; rintro e w2 ⟨rfl, hb2⟩; (have hz := hb2.size; (try simp at hz); (have hbw_1 : Below w1.heap.size w1 w2 := (by (repeat (first | (with_reducible exact Below.refl _ _) | (with_reducible assumption) | (with_reducible refine below_drewN ?_ _) | (with_reducible refine Below.drew ?_) | (with_reducible refine Below.alloc ?_ ?_ _) | (with_reducible refine Below.setCell ?_ ?_ _) | (with_reducible refine below_into ?_ (by assumption) (by first | omega | (simp; done) | (simp; omega))) | go_size)))); clear hbw hb2; have hbw := hbw_1; clear hbw_1)) | (go_at_call 22; refine (spec_ChineseOf A1 A2 n1 n2 c1 c2 rs ms _ (B := w1.heap.size) (B' := w1.heap.size) (by (repeat (first | (with_reducible exact H1.out) | (with_reducible refine RI.drew ?_) | (with_reducible refine RI.drewN ?_ _) | (with_reducible refine RI.alloc ?_ (by first | omega | (simp; done) | (simp; omega)) _) | (with_reducible refine RI.setCell ?_ (by first | omega | (simp; done) | (simp; omega)) _) | (with_reducible refine RI.below ?_ (by assumption) (by first | omega | (simp; done) | (simp; omega)))))) (by (repeat (first | (with_reducible exact H2.out) | (with_reducible refine RI.drew ?_) | (with_reducible refine RI.drewN ?_ _) | (with_reducible refine RI.alloc ?_ (by first | omega | (simp; done) | (simp; omega)) _) | (with_reducible refine RI.setCell ?_ (by first | omega | (simp; done) | (simp; omega)) _) | (with_reducible refine RI.below ?_ (by assumption) (by first | omega | (simp; done) | (simp; omega)))))) (by first | omega | (simp; done) | (simp; omega)) (by first | omega | (simp; done) | (simp; omega)) (by omega) (by omega)).mono ?_; rw [HR.out, HV.out]; rintro e w2 ⟨rfl, hb2⟩; (have hz := hb2.size; (try simp at hz); (have hbw_1 : Below w1.heap.size w1 w2 := (by (repeat (first | (with_reducible exact Below.refl _ _) | (with_reducible assumption) | (with_reducible refine below_drewN ?_ _) | (with_reducible refine Below.drew ?_) | (with_reducible refine Below.alloc ?_ ?_ _) | (with_reducible refine Below.setCell ?_ ?_ _) | (with_reducible refine below_into ?_ (by assumption) (by first | omega | (simp; done) | (simp; omega))) | go_size)))); clear hbw hb2; have hbw := hbw_1; clear hbw_1)))
      go_ret
      exact ⟨rfl, HB0.out.trans (Below.mono (B := w1.heap.size) (by (repeat (first | (with_reducible exact Below.refl _ _) | (with_reducible assumption) | (with_reducible refine below_drewN ?_ _) | (with_reducible refine Below.drew ?_) | (with_reducible refine Below.alloc ?_ ?_ _) | (with_reducible refine Below.setCell ?_ ?_ _) | (with_reducible refine below_into ?_ (by assumption) (by first | omega | (simp; done) | (simp; omega))) | go_size))) hsz)⟩
    · obtain ⟨v1, v2, v3, v4⟩ := chV_spec hr
      obtain ⟨g1, g2, g3, g4⟩ := chB_iff.1 hr
      have hlr : rs.length ≤ ms.length ∧ ms.length ≤ rs.length := by omega
      obtain ⟨⟨f1, f2⟩, f3⟩ := spF_prod ms 1 (by omega) (by omega) g1
      have hm : modsOk ms = true := by unfold modsOk; rw [g1]; simp; omega
      have HS := Lib.hid g1
      have HM := Lib.hid hm
      have HR := Lib.hid hr
      have HG := Lib.hid (fun i => all_getD g4 i)
      rw [← v1] at f1 f2
      have HP := Lib.hid v1
      have HD := Lib.hid v4
      have HF := Lib.hid f3
      clear g1 hm hr g3 g4 v1 v4 f3
      generalize hq : chV rs ms = q at *
      have HV := Lib.hid hq
      clear hq
      obtain ⟨x, N⟩ := q
      simp only at v2 v3 f1 f2
      go_wp2_with (first | (go_at_call 21; refine (impl_ChineseOf A1 A2 n1 n2 c1 c2 rs ms _ (B := w1.heap.size) (B' := w1.heap.size) (by (repeat (first | (with_reducible exact H1.out) | (with_reducible refine RI.drew ?_) | (with_reducible refine RI.drewN ?_ _) | (with_reducible refine RI.alloc ?_ (by first | omega | (simp; done) | (simp; omega)) _) | (with_reducible refine RI.setCell ?_ (by first | omega | (simp; done) | (simp; omega)) _) | (with_reducible refine RI.below ?_ (by assumption) (by first | omega | (simp; done) | (simp; omega)))))) (by (repeat (first | (with_reducible exact H2.out) | (with_reducible refine RI.drew ?_) | (with_reducible refine RI.drewN ?_ _) | (with_reducible refine RI.alloc ?_ (by first | omega | (simp; done) | (simp; omega)) _) | (with_reducible refine RI.setCell ?_ (by first | omega | (simp; done) | (simp; omega)) _) | (with_reducible refine RI.below ?_ (by assumption) (by first | omega | (simp; done) | (simp; omega)))))) (by first | omega | (simp; done) | (simp; omega)) (by first | omega | (simp; done) | (simp; omega)) (by omega) (by omega) hnc2).mono ?_; rw [HR.out, HV.out]; rintro e w2 ⟨rfl, hb2⟩; (have hz := hb2.size; (try simp at hz); (have hbw_1 : Below w1.heap.size w1 w2 := (by (repeat (first | (with_reducible exact Below.refl _ _) | (with_reducible assumption) | (with_reducible refine below_drewN ?_ _) | (with_reducible refine Below.drew ?_) | (with_reducible refine Below.alloc ?_ ?_ _) | (with_reducible refine Below.setCell ?_ ?_ _) | (with_reducible refine below_into ?_ (by assumption) (by first | omega | (simp; done) | (simp; omega))) | go_size)))); clear hbw hb2; have hbw := hbw_1; clear hbw_1)) | (go_at_call 22; refine (spec_ChineseOf A1 A2 n1 n2 c1 c2 rs ms _ (B := w1.heap.size) (B' := w1.heap.size) (by (repeat (first | (with_reducible exact H1.out) | (with_reducible refine RI.drew ?_) | (with_reducible refine RI.drewN ?_ _) | (with_reducible refine RI.alloc ?_ (by first | omega | (simp; done) | (simp; omega)) _) | (with_reducible refine RI.setCell ?_ (by first | omega | (simp; done) | (simp; omega)) _) | (with_reducible refine RI.below ?_ (by assumption) (by first | omega | (simp; done) | (simp; omega)))))) (by (repeat (first | (with_reducible exact H2.out) | (with_reducible refine RI.drew ?_) | (with_reducible refine RI.drewN ?_ _) | (with_reducible refine RI.alloc ?_ (by first | omega | (simp; done) | (simp; omega)) _) | (with_reducible refine RI.setCell ?_ (by first | omega | (simp; done) | (simp; omega)) _) | (with_reducible refine RI.below ?_ (by assumption) (by first | omega | (simp; done) | (simp; omega)))))) (by first | omega | (simp; done) | (simp; omega)) (by first | omega | (simp; done) | (simp; omega)) (by omega) (by omega)).mono ?_; rw [HR.out, HV.out]; rintro e w2 ⟨rfl, hb2⟩; (have hz := hb2.size; (try simp at hz); (have hbw_1 : Below w1.heap.size w1 w2 := (by (repeat (first | (with_reducible exact Below.refl _ _) | (with_reducible assumption) | (with_reducible refine below_drewN ?_ _) | (with_reducible refine Below.drew ?_) | (with_reducible refine Below.alloc ?_ ?_ _) | (with_reducible refine Below.setCell ?_ ?_ _) | (with_reducible refine below_into ?_ (by assumption) (by first | omega | (simp; done) | (simp; omega))) | go_size)))); clear hbw hb2; have hbw := hbw_1; clear hbw_1)))
      rename_i wz _
      have hbz := hbw
      clear hbw
      go_loopw [11] (fun v wr => ∃ k : Nat, v = .int .i64 k ∧ k ≤ n2 ∧ Below w1.heap.size w1 wr) (fun v _ => n2 - (intOf v).toNat)
      case atStart => exact ⟨0, rfl, Nat.zero_le _, hbz⟩
      case round =>
        clear hbz
        obtain ⟨k, rfl, hk, hbw⟩ := hrel
        have hsw := hbw.size
        by_cases hlt : k < n2
        · obtain ⟨b, o, rfl, hbb, hcells⟩ := H1.out.2 (by omega)
          have c1 := (hbw.cell (p := ⟨b, o + k, none⟩) hbb).trans (hcells k (by omega))
          obtain ⟨b', o', rfl, hbb', hcells'⟩ := H2.out.2 (by omega)
          have c2 := (hbw.cell (p := ⟨b', o' + k, none⟩) hbb').trans (hcells' k (by omega))
          obtain ⟨r1, r2⟩ := HG.out k
          obtain ⟨m1, m2⟩ := HF.out k (by omega)
          have hd := HD.out k (by omega)
          clear hcells hcells'
          generalize rs.getD k 0 = r at *
          generalize ms.getD k 0 = m at *
          have hd2 : (x - r).tmod m = 0 := Int.tmod_eq_zero_of_dvd hd
          have hm0 : ¬ m = 0 := by omega
          have hk1 : k < n1 := by omega
          have hw1 : IntKind.i64.wrap (x - r) = x - r := IntWalk.i64_in _ (by omega)
          have HD2 := Lib.hid hd2
          clear hd hd2
          go_wp2_with fail
          go_quiet (fail)
          rw [HD2.out]
          go_wp2_with fail
          go_roundw
          case rel => exact ⟨k + 1, by go_num, by omega, by (repeat (first | (with_reducible exact Below.refl _ _) | (with_reducible assumption) | (with_reducible refine below_drewN ?_ _) | (with_reducible refine Below.drew ?_) | (with_reducible refine Below.alloc ?_ ?_ _) | (with_reducible refine Below.setCell ?_ ?_ _) | (with_reducible refine below_into ?_ (by assumption) (by first | omega | (simp; done) | (simp; omega))) | go_size))⟩
          case measure => simp only [intOf]; omega
        · have hso : symOk x N = true := by simp [symOk, isNum_iff]; omega
          have HSO := Lib.hid hso
          have HSR : Hid (symRes x N = symOf x N) := Lib.hid (by unfold symRes; rw [hso]; rfl)
          obtain ⟨y1, y2, y3⟩ := symOf_spec (x := x) (show 1 ≤ N by omega)
          clear hso
          generalize symOf x N = y at *
          have hyt : (x - y).tmod N = 0 := Int.tmod_eq_zero_of_dvd y1
          have HY := Lib.hid hyt
          have hN0 : ¬ N = 0 := by omega
          have hnn : (N == N) = true := by simp
          clear y1 hyt
          go_wp2_with (first | (go_at_call 23; refine (impl_SymmetricOf x N (by omega) _).mono ?_; rw [HSR.out, HSO.out]; rintro e w' ⟨rfl, rfl⟩) | (go_at_call 24; refine (impl_AreModuli A2 n2 c2 ms _ (C := w1.heap.size) (by (repeat (first | (with_reducible exact H2.out) | (with_reducible refine RI.drew ?_) | (with_reducible refine RI.drewN ?_ _) | (with_reducible refine RI.alloc ?_ (by first | omega | (simp; done) | (simp; omega)) _) | (with_reducible refine RI.setCell ?_ (by first | omega | (simp; done) | (simp; omega)) _) | (with_reducible refine RI.below ?_ (by assumption) (by first | omega | (simp; done) | (simp; omega)))))) (by omega) hnc2).mono ?_; rw [HM.out]; rintro e w' ⟨rfl, nd, rfl⟩) | (go_at_call 25; refine (laws_product A2 n2 c2 ms _ (C := w1.heap.size) (by (repeat (first | (with_reducible exact H2.out) | (with_reducible refine RI.drew ?_) | (with_reducible refine RI.drewN ?_ _) | (with_reducible refine RI.alloc ?_ (by first | omega | (simp; done) | (simp; omega)) _) | (with_reducible refine RI.setCell ?_ (by first | omega | (simp; done) | (simp; omega)) _) | (with_reducible refine RI.below ?_ (by assumption) (by first | omega | (simp; done) | (simp; omega)))))) HS.out (by omega)).mono ?_; rw [← HP.out]; rintro e w' ⟨rfl, rfl⟩))
          go_ret
          exact ⟨rfl, HB0.out.trans (Below.mono (B := w1.heap.size) (by (repeat (first | (with_reducible exact Below.refl _ _) | (with_reducible assumption) | (with_reducible refine below_drewN ?_ _) | (with_reducible refine Below.drew ?_) | (with_reducible refine Below.alloc ?_ ?_ _) | (with_reducible refine Below.setCell ?_ ?_ _) | (with_reducible refine below_into ?_ (by assumption) (by first | omega | (simp; done) | (simp; omega))) | go_size))) hsz)⟩
end Go.Proofs.Ytcpbaagnjofjfaa

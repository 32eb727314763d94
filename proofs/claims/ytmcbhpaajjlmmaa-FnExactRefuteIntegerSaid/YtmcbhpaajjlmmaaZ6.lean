/-
  DERIVED. Several small texts in one: SiT, SiW.
-/
import Derived.Test.YtmcbhpaajjlmmaaZ5
import Derived.Test.YtmcbhpaajjlmmaaSm7q
/-
  DERIVED. What smithFor of the program and l14Ready of the reference answer.
-/
namespace Go.Proofs.Ytmcbhpaajjlmmaa
open Go.RowKit
set_option linter.unusedVariables false
set_option linter.unusedSimpArgs false
/-- Something failed: three matrices, a slice, and the flag false. -/
def SFN (w : World) (e : Ending) (w' : World) : Prop :=
  ∃ (r1 c1 r2 c2 r3 c3 : Int) (A1 A2 A3 A4 : Option Addr) (n1 k1 n2 k2 n3 k3 n4 k4 : Nat), e = .returned (.tuple #[.agg #[.int .i64 r1, .int .i64 c1, .slice A1 n1 k1], .agg #[.int .i64 r2, .int .i64 c2, .slice A2 n2 k2], .agg #[.int .i64 r3, .int .i64 c3, .slice A3 n3 k3], .slice A4 n4 k4, .bool false]) ∧ Below w.heap.size w w'
/-- The Smith form, the right side that belongs to it, and the flag true. -/
def SFY (R C : Nat) (s : SS) (cs : List Int) (w : World) (e : Ending) (w' : World) : Prop :=
  ∃ A1 n1 k1 A2 n2 k2 A3 n3 k3 A4 n4 k4, e = .returned (.tuple #[.agg #[.int .i64 R, .int .i64 C, .slice A1 n1 k1], .agg #[.int .i64 R, .int .i64 R, .slice A2 n2 k2], .agg #[.int .i64 C, .int .i64 C, .slice A3 n3 k3], .slice A4 n4 k4, .bool true]) ∧
    OR w' w.heap.size (.slice A1 n1 k1) (tb R C s.f) ∧ OR w' w.heap.size (.slice A2 n2 k2) (tb R R s.g) ∧ OR w' w.heap.size (.slice A3 n3 k3) (tb C C s.h) ∧ OR w' w.heap.size (.slice A4 n4 k4) cs ∧ Below w.heap.size w w'
theorem ret_M3C {fn : Func} {R : Ending → World → Prop} {a : Act} {w : World} {t t' t'' s s2 : Tmp} {b n cap b' n' cap' b'' n'' cap'' : Nat} {r c r' c' r'' c'' : Int} {A A' A'' : Option Addr} (hr : fn.results = #[.cell t 28, .cell t' 28, .cell t'' 28, .tmp s, .tmp s2])
    (ht : a.tmps.getD t undef = .pointer (some ⟨b, 0, none⟩)) (ht' : a.tmps.getD t' undef = .pointer (some ⟨b', 0, none⟩)) (ht'' : a.tmps.getD t'' undef = .pointer (some ⟨b'', 0, none⟩)) (h : BM w b r c A n cap) (h' : BM w b' r' c' A' n' cap') (h'' : BM w b'' r'' c'' A'' n'' cap'') (hd : a.defers = [])
    (hR : R (.returned (.tuple #[.agg #[.int .i64 r, .int .i64 c, .slice A n cap], .agg #[.int .i64 r', .int .i64 c', .slice A' n' cap'], .agg #[.int .i64 r'', .int .i64 c'', .slice A'' n'' cap''], a.tmps.getD s undef, a.tmps.getD s2 undef])) w) : bodyPost Try.prog fn R .ret a w :=
  bodyPost_ret (v := .tuple #[.agg #[.int .i64 r, .int .i64 c, .slice A n cap], .agg #[.int .i64 r', .int .i64 c', .slice A' n' cap'], .agg #[.int .i64 r'', .int .i64 c'', .slice A'' n'' cap''], a.tmps.getD s undef, a.tmps.getD s2 undef]) (by
    obtain ⟨r0, r1, r2, rf, rl⟩ := h.mx
    obtain ⟨s0, s1, s2, sf, sl⟩ := h'.mx
    obtain ⟨t0, t1, t2, tf, tl⟩ := h''.mx
    simp only [Array.getD_eq_getD_getElem?] at ht ht' ht''
    simp [results, hr, ht, ht', ht'', go_sem, r0, r1, r2, s0, s1, s2, t0, t1, t2]) hd hR
theorem siS_none {r c : Int} {xs bs : List Int} (h : sfX r c xs = none) : siS r c xs bs = none := by unfold siS; rw [h]; rfl
theorem siS_len {R C : Nat} {xs bs : List Int} {s : SS} (h : sfX R C xs = some s) (hl : bs.length ≠ R) : siS R C xs bs = none := by
  unfold siS
  rw [h]
  show (if _ then _ else _) = _
  rw [if_neg (fun k => hl (by have := k.1; omega))]
theorem siS_mul {R C : Nat} {xs bs : List Int} {s : SS} (h : sfX R C xs = some s) (hl : bs.length = R) (hm : mulB R R (tb R R s.g) bs.length 1 bs = false) : siS R C xs bs = none := by
  unfold siS
  rw [h]
  show (if _ then _ else _) = _
  rw [if_neg (fun k => by have := k.2; rw [Int.toNat_natCast, hm] at this; cases this)]
theorem siS_yes {R C : Nat} {xs bs : List Int} {s : SS} (h : sfX R C xs = some s) (hl : bs.length = R) (hm : mulB R R (tb R R s.g) bs.length 1 bs = true) : siS R C xs bs = some (s, mulL (tb R R s.g) R R bs 1) := by
  unfold siS
  rw [h]
  show (if _ then _ else _) = _
  rw [if_pos ⟨by omega, by rw [Int.toNat_natCast]; exact hm⟩, Int.toNat_natCast]
end Go.Proofs.Ytmcbhpaajjlmmaa

/-
  DERIVED. firstWrong of the program.
-/
namespace Go.Proofs.Ytmcbhpaajjlmmaa
open Go.RowKit
set_option linter.unusedVariables false
set_option linter.unusedSimpArgs false
set_option maxRecDepth 100000 in
set_option maxHeartbeats 4000000 in
theorem impl_firstWrong (R C : Nat) (A Ac : Option Addr) (n cap nc capc : Nat) (f : Fn2) (cs : List Int) (w : World) {B B' : Nat} (h : OR w B (.slice A n cap) (tb R C f)) (hc : RI w B' Ac nc cs) (hB' : B' ≤ w.heap.size) (hl : cs.length = R) (hf : OKF R C f) (hcn : ∀ k, Num (cs.getD k 0)) (hR : R ≤ 24) (hC : C ≤ 24) :
    Calls Try.prog 90 #[.agg #[.int .i64 R, .int .i64 C, .slice A n cap], .slice Ac nc capc] w (BV (.int .i64 (fwV (fwF (dgF R C f) 0 cs))) w) := by
  have hln := hc.len
  have hlx : cs.length ≤ R ∧ R ≤ cs.length ∧ nc ≤ R ∧ R ≤ nc := by omega
  have HOW : Hid (∀ w', Below w.heap.size w w' → OR w' B (.slice A n cap) (tb R C f)) := Lib.hid (fun w' hb => h.below hb (Nat.le_refl _))
  have HC := Lib.hid (hc.more hB')
  have HF := Lib.hid hf
  have HCN := Lib.hid hcn
  clear hc hl hln hf h hcn
  obtain ⟨X, hX⟩ : ∃ X, fwF (dgF R C f) 0 cs = X := ⟨_, rfl⟩
  rw [hX]
  have HX0 := Lib.hid hX
  clear hX
  go_enter Try.func90, Try.ntmps90
  go_wp2_with fail
  go_loopw [8] (fun v wr => ∃ k : Nat, v = .int .i64 k ∧ k ≤ R ∧ fwF (dgF R C f) k (cs.drop k) = X ∧ BM wr w.heap.size R C A n cap ∧ Below w.heap.size w wr) (fun v _ => R - (intOf v).toNat)
  case atStart => exact ⟨0, rfl, Nat.zero_le _, HX0.out, by (with_reducible (repeat (first | assumption | refine BX.n_ | refine BX.b_ ?_ | apply BX.drew | apply BX.drewN | refine BX.put ?_ | refine BX.put2 ?_ | refine BX.f_ ?_ | apply BX.alloc | refine B3.n_ | refine B3.of (by assumption) | refine B3.b_ ?_ | apply B3.drew | apply B3.drewN | refine B3.f_ ?_ | apply B3.alloc))), by (repeat (first | (with_reducible (first | exact Below.refl _ _ | assumption | refine below_drewN ?_ _ | refine Below.drew ?_ | refine Below.alloc ?_ ?_ _ | refine Below.setCell ?_ ?_ _ | refine below_i ?_)) | go_size))⟩
  case round =>
    obtain ⟨k, rfl, hk, hfw, hM, hbw⟩ := hrel
    have HX := Lib.hid hfw
    clear hfw
    obtain ⟨ma, mb, mc, mf, ml⟩ := hM.mx
    have hsw := hbw.size
    by_cases hlt : k < R
    · obtain ⟨b, o, rfl, hbb, hcells⟩ := HC.out.2 (by omega)
      have c1 := (hbw.cell (p := ⟨b, o + k, none⟩) hbb).trans (hcells k (by omega))
      have hbl := Nat.lt_of_lt_of_le hbb hbw.size
      clear hcells
      have hknc : k < nc := by omega
      have ho := HOW.out _ hbw
      obtain ⟨d1, d2⟩ := dgF_num (i := k) HF.out
      obtain ⟨x1, x2⟩ := HCN.out k
      by_cases hdv : dgF R C f k ∣ cs.getD k 0
      · have HNX : Hid (fwF (dgF R C f) (k + 1) (cs.drop (k + 1)) = X) := Lib.hid ((fwF_yes (k := k) (by omega) hdv).symm.trans HX.out)
        have HT : Hid (decide (dgF R C f k ∣ cs.getD k 0) = true) := Lib.hid (decide_eq_true hdv)
        clear hdv
        generalize cs.getD k 0 = x at *
        obtain ⟨z, hz⟩ : ∃ z, dgF R C f k = z := ⟨_, rfl⟩
        rw [hz] at d1 d2 HT
        have HZ := Lib.hid hz
        clear hz
        go_wp2_with fail
        ((refine wp_region_held_drew (S := (fun w' => w'.cell? ⟨b, o + k, none⟩ = some (.int .i64 x) ∧ w'.cell? ⟨w.heap.size, 0, none⟩ = some (.int .i64 R) ∧ w'.cell? ⟨w.heap.size, 1, none⟩ = some (.int .i64 C) ∧ w'.cell? ⟨w.heap.size, 2, none⟩ = some (.slice A n cap))) (by kernel_rfl) ?_ (fun hHeld => ?_)); ((focus ((try dsimp only); ((first | (go_keep; done) | exact ⟨c1, ma, mb, mc⟩))))); ((refine tk_ (i := 0) (v := ?_) (y := Or.inl ⟨by rfl, ?_⟩) (h := ?_); rotate_left; (focus (((intro w hSw; (try dsimp only at hSw); go_simp) <;> (try with_reducible rfl)); done)); (try simp only [Act.put, p1_, p2_, p3_]))); ((refine tk_ (i := 1) (v := ?_) (y := Or.inl ⟨by rfl, ?_⟩) (h := ?_); rotate_left; (focus (((intro w hSw; (try dsimp only at hSw); go_simp) <;> (try with_reducible rfl)); done)); (try simp only [Act.put, p1_, p2_, p3_]))); ((refine tk_ (i := 2) (v := ?_) (y := Or.inl ⟨by rfl, ?_⟩) (h := ?_); rotate_left; (focus (((intro w hSw; (try dsimp only at hSw); go_simp) <;> (try with_reducible rfl)); done)); (try simp only [Act.put, p1_, p2_, p3_]))); ((refine tk_ (i := 3) (v := ?_) (y := Or.inl ⟨by rfl, ?_⟩) (h := ?_); rotate_left; (focus (((intro w hSw; (try dsimp only at hSw); go_simp) <;> (try with_reducible rfl)); done)); (try simp only [Act.put, p1_, p2_, p3_]))); ((refine tk_ (i := 4) (v := ?_) (y := Or.inl ⟨by rfl, ?_⟩) (h := ?_); rotate_left; (focus (((intro w hSw; (try dsimp only at hSw); go_simp) <;> (try with_reducible rfl)); done)); (try simp only [Act.put, p1_, p2_, p3_]))); ((refine tk_ (i := 5) (v := ?_) (y := Or.inl ⟨by rfl, ?_⟩) (h := ?_); rotate_left; (focus (((intro w hSw; (try dsimp only at hSw); go_simp) <;> (try with_reducible rfl)); done)); (try simp only [Act.put, p1_, p2_, p3_]))); ((refine wpAnyH_ready (rs := [6]) (by kernel_rfl) (by simp) ?_; refine AllReadyH.cons (by simp only [e1_, e2_, e3_]; try rfl) (fun K hK => ?_) AllReadyH.nil; go_simp; (refine (impl_diagonal R C k A n cap f _ (B := B) (by (with_reducible (repeat (first | exact ho | refine OR.drew ?_ | refine OR.drewN ?_ _ | refine OR.alloc ?_ _ | refine OR.b_ ?_ | refine OR.l_ ?_)))) (by omega) hR hC).mono ?_; rw [HZ.out]; rintro e w5 ⟨rfl, hb5⟩; have hs5 := hb5.size; (try simp at hs5); (have hM_1 : BM w5 w.heap.size R C A n cap := (by (with_reducible (repeat (first | exact hM | refine BX.n_ | refine BX.b_ ?_ | apply BX.drew | apply BX.drewN | refine BX.put ?_ | refine BX.put2 ?_ | refine BX.f_ ?_ | apply BX.alloc | refine B3.n_ | exact B3.of hM | refine B3.b_ ?_ | apply B3.drew | apply B3.drewN | refine B3.f_ ?_ | apply B3.alloc))))); (have hbw_1 : Below w.heap.size w w5 := (by (repeat (first | (with_reducible (first | exact Below.refl _ _ | assumption | refine below_drewN ?_ _ | refine Below.drew ?_ | refine Below.alloc ?_ ?_ _ | refine Below.setCell ?_ ?_ _ | refine below_i ?_)) | go_size)))); (have c2 := (hb5.cell (p := ⟨b, o + k, none⟩) (by simpa using hbl)).trans c1); clear hM hbw c1 hb5 ma mb mc mf ml; have hM := hM_1; have hbw := hbw_1; have c1 := c2; clear hM_1 hbw_1 c2; obtain ⟨ma, mb, mc, mf, ml⟩ := hM.mx); (try go_wp2_with fail); refine hK.out _ _ ?_ (fun hHeld => ?_); (focus ((try dsimp only); ((first | (go_keep; done) | exact ⟨c1, ma, mb, mc⟩)))); clear hK K; (try simp only [Act.put, p1_, p2_, p3_]))); ((refine wpAnyH_ready (rs := [7]) (by kernel_rfl) (by simp) ?_; refine AllReadyH.cons (by simp only [e1_, e2_, e3_]; try rfl) (fun K hK => ?_) AllReadyH.nil; go_simp; (refine (impl_isMultiple x z _ ⟨x1, x2⟩ ⟨d1, d2⟩).mono ?_; rw [HT.out]; rintro e w' ⟨rfl, rfl⟩); (try go_wp2_with fail); refine hK.out _ _ ?_ (fun hHeld => ?_); (focus ((try dsimp only); ((first | (go_keep; done) | exact ⟨c1, ma, mb, mc⟩)))); clear hK K; (try simp only [Act.put, p1_, p2_, p3_]))); ((refine tk_ (i := 8) (v := ?_) (y := Or.inl ⟨by rfl, ?_⟩) (h := ?_); rotate_left; (focus (((intro w hSw; (try dsimp only at hSw); go_simp) <;> (try with_reducible rfl)); done)); (try simp only [Act.put, p1_, p2_, p3_]))); (refine wpAnyH_done (by kernel_rfl) ?_ _))
        go_wp2_with fail
        go_roundw
        case rel => exact ⟨k + 1, by go_num, by omega, HNX.out, by (with_reducible (repeat (first | exact hM | refine BX.n_ | refine BX.b_ ?_ | apply BX.drew | apply BX.drewN | refine BX.put ?_ | refine BX.put2 ?_ | refine BX.f_ ?_ | apply BX.alloc | refine B3.n_ | exact B3.of hM | refine B3.b_ ?_ | apply B3.drew | apply B3.drewN | refine B3.f_ ?_ | apply B3.alloc))), by (repeat (first | (with_reducible (first | exact Below.refl _ _ | assumption | refine below_drewN ?_ _ | refine Below.drew ?_ | refine Below.alloc ?_ ?_ _ | refine Below.setCell ?_ ?_ _ | refine below_i ?_)) | go_size))⟩
        case measure => simp only [intOf]; omega
      · have HFD : Hid (X = some k) := Lib.hid (by rw [← HX.out, fwF_no (by omega) hdv])
        have HT : Hid (decide (dgF R C f k ∣ cs.getD k 0) = false) := Lib.hid (decide_eq_false hdv)
        clear hdv
        generalize cs.getD k 0 = x at *
        obtain ⟨z, hz⟩ : ∃ z, dgF R C f k = z := ⟨_, rfl⟩
        rw [hz] at d1 d2 HT
        have HZ := Lib.hid hz
        clear hz
        go_wp2_with fail
        ((refine wp_region_held_drew (S := (fun w' => w'.cell? ⟨b, o + k, none⟩ = some (.int .i64 x) ∧ w'.cell? ⟨w.heap.size, 0, none⟩ = some (.int .i64 R) ∧ w'.cell? ⟨w.heap.size, 1, none⟩ = some (.int .i64 C) ∧ w'.cell? ⟨w.heap.size, 2, none⟩ = some (.slice A n cap))) (by kernel_rfl) ?_ (fun hHeld => ?_)); ((focus ((try dsimp only); ((first | (go_keep; done) | exact ⟨c1, ma, mb, mc⟩))))); ((refine tk_ (i := 0) (v := ?_) (y := Or.inl ⟨by rfl, ?_⟩) (h := ?_); rotate_left; (focus (((intro w hSw; (try dsimp only at hSw); go_simp) <;> (try with_reducible rfl)); done)); (try simp only [Act.put, p1_, p2_, p3_]))); ((refine tk_ (i := 1) (v := ?_) (y := Or.inl ⟨by rfl, ?_⟩) (h := ?_); rotate_left; (focus (((intro w hSw; (try dsimp only at hSw); go_simp) <;> (try with_reducible rfl)); done)); (try simp only [Act.put, p1_, p2_, p3_]))); ((refine tk_ (i := 2) (v := ?_) (y := Or.inl ⟨by rfl, ?_⟩) (h := ?_); rotate_left; (focus (((intro w hSw; (try dsimp only at hSw); go_simp) <;> (try with_reducible rfl)); done)); (try simp only [Act.put, p1_, p2_, p3_]))); ((refine tk_ (i := 3) (v := ?_) (y := Or.inl ⟨by rfl, ?_⟩) (h := ?_); rotate_left; (focus (((intro w hSw; (try dsimp only at hSw); go_simp) <;> (try with_reducible rfl)); done)); (try simp only [Act.put, p1_, p2_, p3_]))); ((refine tk_ (i := 4) (v := ?_) (y := Or.inl ⟨by rfl, ?_⟩) (h := ?_); rotate_left; (focus (((intro w hSw; (try dsimp only at hSw); go_simp) <;> (try with_reducible rfl)); done)); (try simp only [Act.put, p1_, p2_, p3_]))); ((refine tk_ (i := 5) (v := ?_) (y := Or.inl ⟨by rfl, ?_⟩) (h := ?_); rotate_left; (focus (((intro w hSw; (try dsimp only at hSw); go_simp) <;> (try with_reducible rfl)); done)); (try simp only [Act.put, p1_, p2_, p3_]))); ((refine wpAnyH_ready (rs := [6]) (by kernel_rfl) (by simp) ?_; refine AllReadyH.cons (by simp only [e1_, e2_, e3_]; try rfl) (fun K hK => ?_) AllReadyH.nil; go_simp; (refine (impl_diagonal R C k A n cap f _ (B := B) (by (with_reducible (repeat (first | exact ho | refine OR.drew ?_ | refine OR.drewN ?_ _ | refine OR.alloc ?_ _ | refine OR.b_ ?_ | refine OR.l_ ?_)))) (by omega) hR hC).mono ?_; rw [HZ.out]; rintro e w5 ⟨rfl, hb5⟩; have hs5 := hb5.size; (try simp at hs5); (have hM_1 : BM w5 w.heap.size R C A n cap := (by (with_reducible (repeat (first | exact hM | refine BX.n_ | refine BX.b_ ?_ | apply BX.drew | apply BX.drewN | refine BX.put ?_ | refine BX.put2 ?_ | refine BX.f_ ?_ | apply BX.alloc | refine B3.n_ | exact B3.of hM | refine B3.b_ ?_ | apply B3.drew | apply B3.drewN | refine B3.f_ ?_ | apply B3.alloc))))); (have hbw_1 : Below w.heap.size w w5 := (by (repeat (first | (with_reducible (first | exact Below.refl _ _ | assumption | refine below_drewN ?_ _ | refine Below.drew ?_ | refine Below.alloc ?_ ?_ _ | refine Below.setCell ?_ ?_ _ | refine below_i ?_)) | go_size)))); (have c2 := (hb5.cell (p := ⟨b, o + k, none⟩) (by simpa using hbl)).trans c1); clear hM hbw c1 hb5 ma mb mc mf ml; have hM := hM_1; have hbw := hbw_1; have c1 := c2; clear hM_1 hbw_1 c2; obtain ⟨ma, mb, mc, mf, ml⟩ := hM.mx); (try go_wp2_with fail); refine hK.out _ _ ?_ (fun hHeld => ?_); (focus ((try dsimp only); ((first | (go_keep; done) | exact ⟨c1, ma, mb, mc⟩)))); clear hK K; (try simp only [Act.put, p1_, p2_, p3_]))); ((refine wpAnyH_ready (rs := [7]) (by kernel_rfl) (by simp) ?_; refine AllReadyH.cons (by simp only [e1_, e2_, e3_]; try rfl) (fun K hK => ?_) AllReadyH.nil; go_simp; (refine (impl_isMultiple x z _ ⟨x1, x2⟩ ⟨d1, d2⟩).mono ?_; rw [HT.out]; rintro e w' ⟨rfl, rfl⟩); (try go_wp2_with fail); refine hK.out _ _ ?_ (fun hHeld => ?_); (focus ((try dsimp only); ((first | (go_keep; done) | exact ⟨c1, ma, mb, mc⟩)))); clear hK K; (try simp only [Act.put, p1_, p2_, p3_]))); ((refine tk_ (i := 8) (v := ?_) (y := Or.inl ⟨by rfl, ?_⟩) (h := ?_); rotate_left; (focus (((intro w hSw; (try dsimp only at hSw); go_simp) <;> (try with_reducible rfl)); done)); (try simp only [Act.put, p1_, p2_, p3_]))); (refine wpAnyH_done (by kernel_rfl) ?_ _))
        go_wp2_with fail
        go_ret
        exact BV.mk (vint (show (k : Int) = _ by rw [HFD.out]; rfl)) (by (repeat (first | (with_reducible (first | exact Below.refl _ _ | assumption | refine below_drewN ?_ _ | refine Below.drew ?_ | refine Below.alloc ?_ ?_ _ | refine Below.setCell ?_ ?_ _ | refine below_i ?_)) | go_size)))
    · have hkE : k = R := by omega
      have HE : Hid (X = none) := Lib.hid (by rw [← HX.out, fwF_end (by omega)])
      clear hkE
      go_wp2_with fail
      go_ret
      exact BV.mk (vint (show (-1 : Int) = _ by rw [HE.out]; rfl)) (by (repeat (first | (with_reducible (first | exact Below.refl _ _ | assumption | refine below_drewN ?_ _ | refine Below.drew ?_ | refine Below.alloc ?_ ?_ _ | refine Below.setCell ?_ ?_ _ | refine below_i ?_)) | go_size)))
end Go.Proofs.Ytmcbhpaajjlmmaa

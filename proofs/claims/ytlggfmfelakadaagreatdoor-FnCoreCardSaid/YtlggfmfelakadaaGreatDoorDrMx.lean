/-
  DERIVED. Matrices that are drawn: l3Draw, l3Spoil, l3Any.
-/
import Derived.Test.YtlggfmfelakadaaGreatDoorc7
namespace Go.Proofs.YtlggfmfelakadaaGreatDoor
open Go.RowKit
set_option linter.unusedVariables false
set_option linter.unusedSimpArgs false
/-- A drawn matrix, its cells its own from block B0 on. -/
def MDr (B0 R C : Nat) (most : Int) (w' : World) (v : Value) : Prop := ∃ Am nm cm ys, v = .agg #[.int .i64 R, .int .i64 C, .slice Am nm cm] ∧ OR w' B0 (.slice Am nm cm) ys ∧ ys.length = R * C ∧ ∀ k, -most ≤ ys.getD k 0 ∧ ys.getD k 0 ≤ most
theorem getD_rep (n k : Nat) : (List.replicate n (0 : Int)).getD k 0 = 0 := by
  simp only [List.getD, List.getElem?_replicate]
  split <;> rfl
theorem getD_set_bd {ys : List Int} {lo hi v : Int} (h : ∀ k, lo ≤ ys.getD k 0 ∧ ys.getD k 0 ≤ hi) (hv : lo ≤ v ∧ v ≤ hi) (i k : Nat) : lo ≤ (ys.set i v).getD k 0 ∧ (ys.set i v).getD k 0 ≤ hi := by
  by_cases e : k = i
  · subst e
    by_cases hk : k < ys.length
    · simpa [List.getD, hk] using hv
    · have := h k
      rw [List.set_eq_of_length_le (by omega)]; exact this
  · have := h k
    simpa [List.getD, List.getElem?_set_ne (Ne.symm e)] using this
set_option maxRecDepth 100000 in
set_option maxHeartbeats 4000000 in
theorem spec_l3Draw (b n cap : Nat) (A : Option Addr) (xs : List Int) (R C : Nat) (most : Int) (w : World) {B : Nat} (hct : CT w w B b n cap A xs) (hR : R ≤ 24) (hC : C ≤ 24) (hm : 0 ≤ most ∧ most ≤ 100) :
    Calls Tryz.prog 73 #[.pointer (some ⟨b, 0, none⟩), .int .i64 R, .int .i64 C, .int .i64 most] w (DRV (MDr w.heap.size R C most) B b n cap A xs w) := by
  obtain ⟨m1, m2⟩ := hm
  have hRC := Nat.mul_le_mul hR hC
  have hb := hct.hb
  go_enter Tryz.func73, Tryz.ntmps73
  go_wp2_with fail
  refine (spec_l3New R C _ (by omega) (by omega) (by omega)).mono ?_
  rintro e w1 ⟨A1, n1, c1, rfl, ho, hb1⟩
  have hs1 := hb1.size
  simp at hs1
  have hl1 := ho.lenEq
  have hR0 : BM (w1.alloc (.cells #[.int .i64 R, .int .i64 C, .slice A1 n1 c1] 26)) w.heap.size 0 0 none 0 0 := Ka
  have hO0 : BM (w1.alloc (.cells #[.int .i64 R, .int .i64 C, .slice A1 n1 c1] 26)) w1.heap.size R C A1 n1 c1 := Ka
  have ho0 : OR (w1.alloc (.cells #[.int .i64 R, .int .i64 C, .slice A1 n1 c1] 26)) (w.heap.size + 1) (.slice A1 n1 c1) (List.replicate (R * C) 0) := (OR.mono ho Ks).alloc _
  have hct1 : CT w (w1.alloc (.cells #[.int .i64 R, .int .i64 C, .slice A1 n1 c1] 26)) B b n cap A xs := by (with_reducible (repeat (first | exact hct | refine CT.drew ?_ | refine CT.drewN ?_ _ | refine CT.alloc ?_ _ | refine CT.far ?_ Ks _ | refine CT.below ?_ (by assumption) Ks)))
  have hown := ho.own
  have hl2 : n1 ≤ R * C ∧ R * C ≤ n1 := by simp at hl1; omega
  have hbeg : Hid (0 < R * C → ∃ g, A1 = some ⟨g, 0, none⟩ ∧ w.heap.size + 1 ≤ g ∧ g < w1.heap.size) := Lib.hid (fun hp => by have := ho.begins (by simpa using hp); simpa using this)
  clear hl1 hb1 ho hown hct
  go_wp2_with fail
  generalize hbM : w1.heap.size = bM at *
  have HBM := Lib.hid hbM
  clear hbM
  go_loopw [10] (fun v wr => ∃ (i : Nat) (ys : List Int), v = .int .i64 i ∧ i ≤ R * C ∧ CT w wr B b n cap A xs ∧ BM wr w.heap.size 0 0 none 0 0 ∧ BM wr bM R C A1 n1 c1 ∧ OR wr (w.heap.size + 1) (.slice A1 n1 c1) ys ∧ Hid (ys.length = R * C) ∧ Hid (∀ k, -most ≤ ys.getD k 0 ∧ ys.getD k 0 ≤ most)) (fun v _ => R * C - (intOf v).toNat)
  case atStart => exact ⟨0, _, rfl, Nat.zero_le _, hct1, hR0, hO0, ho0, Lib.hid (by simp), Lib.hid (fun k => by rw [getD_rep]; omega)⟩
  case round =>
    clear hct1 hR0 hO0 ho0
    obtain ⟨i, ys, rfl, hi, hct, hR0, hO, ho, HL, HB⟩ := hrel
    have hsz := hct.size
    have hlO := hO.lt
    obtain ⟨oa, ob, oc, of, ol⟩ := hO.mx
    by_cases hlt : i < R * C
    · obtain ⟨g1, rfl, hg1, hg2⟩ := hbeg.out (by omega)
      have c0 := ho.cell i (by have := HL.out; omega)
      have f0 := ho.frozen i
      have hin : i < n1 := by omega
      have hw1 : IntKind.i64.wrap (2 * most) = 2 * most := IntWalk.i64_in _ (by omega)
      have hw2 : IntKind.i64.wrap (2 * most + 1) = 2 * most + 1 := IntWalk.i64_in _ (by omega)
      have HI : Hid (i < ys.length) := Lib.hid (by have := HL.out; omega)
      have ne1 : ¬ bM = g1 := by omega
      have ne2 : ¬ g1 = bM := by omega
      have ne3 : ¬ bM = b := by omega
      have ne4 : ¬ b = bM := by omega
      have ne5 : ¬ g1 = b := by omega
      have ne6 : ¬ b = g1 := by omega
      generalize ys.getD i 0 = y0 at c0
      go_wp2_with fail
      ((refine wp_region_held_drew (S := (fun w' => w'.cell? ⟨bM, 2, none⟩ = some (.slice (some ⟨g1, 0, none⟩) n1 c1))) (by kernel_rfl) ?_ (fun hHeld => ?_)); ((focus ((try dsimp only); (go_keep)))); ((refine tk_ (i := 0) (v := ?_) (y := Or.inl ⟨by rfl, ?_⟩) (h := ?_); rotate_left; (focus (((intro w hSw; (try dsimp only at hSw); go_simp) <;> (try with_reducible rfl)); done)); (try simp only [Act.put, p1_, p2_, p3_]))); ((refine tk_ (i := 1) (v := ?_) (y := Or.inl ⟨by rfl, ?_⟩) (h := ?_); rotate_left; (focus (((intro w hSw; (try dsimp only at hSw); go_simp) <;> (try with_reducible rfl)); done)); (try simp only [Act.put, p1_, p2_, p3_]))); ((refine tk_ (i := 2) (v := ?_) (y := Or.inl ⟨by rfl, ?_⟩) (h := ?_); rotate_left; (focus (((intro w hSw; (try dsimp only at hSw); go_simp) <;> (try with_reducible rfl)); done)); (try simp only [Act.put, p1_, p2_, p3_]))); ((refine tk_ (i := 3) (v := ?_) (y := Or.inl ⟨by rfl, ?_⟩) (h := ?_); rotate_left; (focus (((intro w hSw; (try dsimp only at hSw); go_simp) <;> (try with_reducible rfl)); done)); (try simp only [Act.put, p1_, p2_, p3_]))); ((refine tk_ (i := 4) (v := ?_) (y := Or.inl ⟨by rfl, ?_⟩) (h := ?_); rotate_left; (focus (((intro w hSw; (try dsimp only at hSw); go_simp) <;> (try with_reducible rfl)); done)); (try simp only [Act.put, p1_, p2_, p3_]))); ((refine tk_ (i := 5) (v := ?_) (y := Or.inl ⟨by rfl, ?_⟩) (h := ?_); rotate_left; (focus (((intro w hSw; (try dsimp only at hSw); go_simp) <;> (try with_reducible rfl)); done)); (try simp only [Act.put, p1_, p2_, p3_]))); ((refine tk_ (i := 6) (v := ?_) (y := Or.inl ⟨by rfl, ?_⟩) (h := ?_); rotate_left; (focus (((intro w hSw; (try dsimp only at hSw); go_simp) <;> (try with_reducible rfl)); done)); (try simp only [Act.put, p1_, p2_, p3_]))); ((refine tk_ (i := 8) (v := ?_) (y := Or.inl ⟨by rfl, ?_⟩) (h := ?_); rotate_left; (focus (((intro w hSw; (try dsimp only at hSw); go_simp) <;> (try with_reducible rfl)); done)); (try simp only [Act.put, p1_, p2_, p3_]))); ((refine wpAnyH_ready (rs := [7]) (by kernel_rfl) (by simp) ?_; refine AllReadyH.cons (by simp only [e1_, e2_, e3_]; try rfl) (fun K hK => ?_) AllReadyH.nil; go_simp; (go_at_call 72; refine (spec_l1Below b n cap A xs (2 * most + 1) _ (CT.self (w0 := w) (B := B) (by (with_reducible (repeat (first | exact hct | refine CT.drew ?_ | refine CT.drewN ?_ _ | refine CT.alloc ?_ _ | refine CT.far ?_ Ks _ | refine CT.below ?_ (by assumption) Ks)))))).mono ?_; rintro e w2 ⟨v, rfl, ⟨x, rfl, hx0, hx1⟩, hc1⟩; have hsz2 := hc1.size; (try simp at hsz2); have hct_1 : CT w w2 B b n cap A xs := CT.trans (by (with_reducible (repeat (first | exact hct | refine CT.drew ?_ | refine CT.drewN ?_ _ | refine CT.alloc ?_ _ | refine CT.far ?_ Ks _ | refine CT.below ?_ (by assumption) Ks)))) hc1; have hR0_1 : BM w2 w.heap.size 0 0 none 0 0 := BX.grown (Kb hR0) hc1.gr (by simp; omega); have hO_1 : BM w2 bM R C (some ⟨g1, 0, none⟩) n1 c1 := BX.grown (Kb hO) hc1.gr (by simp; omega); have ho_1 : OR w2 (w.heap.size + 1) (.slice (some ⟨g1, 0, none⟩) n1 c1) ys := OR.turned (Ko ho) hc1 (by omega); clear hct hR0 hO ho hc1 oa ob oc of ol c0 f0; have hct := hct_1; have hR0 := hR0_1; have hO := hO_1; have ho := ho_1; clear hct_1 hR0_1 hO_1 ho_1; obtain ⟨oa, ob, oc, of, ol⟩ := hO.mx; have c0 := ho.cell i HI.out; have f0 := ho.frozen i; have hw3 : IntKind.i64.wrap (x - most) = x - most := IntWalk.i64_in _ (by omega); generalize ys.getD i 0 = y0 at c0); (try go_wp2_with fail); refine hK.out _ _ ?_ (fun hHeld => ?_); (focus ((try dsimp only); (go_keep))); clear hK K; (try simp only [Act.put, p1_, p2_, p3_]))); ((refine tk_ (i := 9) (v := ?_) (y := Or.inl ⟨by rfl, ?_⟩) (h := ?_); rotate_left; (focus (((intro w hSw; (try dsimp only at hSw); go_simp) <;> (try with_reducible rfl)); done)); (try simp only [Act.put, p1_, p2_, p3_]))); ((refine tk_ (i := 10) (v := ?_) (y := Or.inl ⟨by rfl, ?_⟩) (h := ?_); rotate_left; (focus (((intro w hSw; (try dsimp only at hSw); go_simp) <;> (try with_reducible rfl)); done)); (try simp only [Act.put, p1_, p2_, p3_]))); ((refine wpAnyH_ready (rs := [11]) (by kernel_rfl) (by simp) ?_; refine AllReadyH.cons (by simp only [e1_, e2_, e3_]; try rfl) (fun K hK => ?_) AllReadyH.nil; go_simp; (try go_wp2_with fail); refine hK.out _ _ ?_ (fun hHeld => ?_); (focus ((try dsimp only); (go_keep))); clear hK K; (try simp only [Act.put, p1_, p2_, p3_]))); (refine wpAnyH_done (by kernel_rfl) ?_ _))
      have hst := ho.set_ i (x - most)
      have HB2 : Hid (∀ k, -most ≤ (ys.set i (x - most)).getD k 0 ∧ (ys.set i (x - most)).getD k 0 ≤ most) := Lib.hid (getD_set_bd HB.out (by omega) i)
      have HL2 : Hid ((ys.set i (x - most)).length = R * C) := Lib.hid (by rw [List.length_set]; exact HL.out)
      clear hw1 hw2 hw3
      go_wp2_with fail
      go_roundw
      case rel => exact ⟨i + 1, _, by go_num, by omega, by (with_reducible (repeat (first | exact hct | refine CT.drew ?_ | refine CT.drewN ?_ _ | refine CT.alloc ?_ _ | refine CT.far ?_ Ks _ | refine CT.below ?_ (by assumption) Ks))), Kb hR0, Kb hO, by first | exact hst | exact OR.drew hst, HL2, HB2⟩
      case measure => simp only [intOf]; omega
    · obtain ⟨ra, rb, rc, rf, rl⟩ := hR0.mx
      have hvr := B3.of hR0
      have ne7 : ¬ bM = w.heap.size := by have := HBM.out; omega
      have ne8 : ¬ w.heap.size = bM := by omega
      go_wp2_with fail
      refine ret_M (b := w.heap.size) Tryz.results73 rfl (Kb hvr) rfl ?_
      exact ⟨_, rfl, ⟨A1, n1, c1, ys, rfl, OR.mono (B := w.heap.size + 1) (Ko ho) (by omega), HL.out, HB.out⟩, by (with_reducible (repeat (first | exact hct | refine CT.drew ?_ | refine CT.drewN ?_ _ | refine CT.alloc ?_ _ | refine CT.far ?_ Ks _ | refine CT.below ?_ (by assumption) Ks)))⟩
/-- Any matrix value, its cells its own from block B0 on. -/
def MAny (B0 lim : Nat) (w' : World) (v : Value) : Prop := ∃ (r c : Int) (Am : Option Addr) (nm cm : Nat) (ys : List Int), v = .agg #[.int .i64 r, .int .i64 c, .slice Am nm cm] ∧ OR w' B0 (.slice Am nm cm) ys ∧ ys.length ≤ lim ∧ (-1 ≤ r ∧ r ≤ 12) ∧ (0 ≤ c ∧ c ≤ 24)
/-- A call that, since world w0, turned just the cursor, and returned what P says. -/
def DR0 (P : World → Value → Prop) (B b n cap : Nat) (A : Option Addr) (xs : List Int) (w0 : World) (e : Ending) (w' : World) : Prop :=
  ∃ v, e = .returned v ∧ P w' v ∧ CT w0 w' B b n cap A xs
set_option maxRecDepth 100000 in
set_option maxHeartbeats 8000000 in
theorem spec_l3Spoil (b n cap : Nat) (A : Option Addr) (xs : List Int) (r c : Int) (Am : Option Addr) (nm cm : Nat) (ys : List Int) (w0 w : World) {B B1 : Nat} (hct : CT w0 w B b n cap A xs) (ho : OR w B1 (.slice Am nm cm) ys) (h0 : w0.heap.size ≤ B1) (h1 : B1 ≤ w.heap.size) (hr : 0 ≤ r ∧ r ≤ 11) (hc : 0 ≤ c ∧ c ≤ 24) (hl : ys.length ≤ 1000) :
    Calls Tryz.prog 76 #[.pointer (some ⟨b, 0, none⟩), .agg #[.int .i64 r, .int .i64 c, .slice Am nm cm]] w (DR0 (MAny B1 (ys.length + 1)) B b n cap A xs w0) := by
  have hb := hct.hb
  have hsz0 := hct.size
  obtain ⟨r1, r2⟩ := hr
  have hlen := ho.lenEq
  have howx := ho.own
  have hlen2 : nm ≤ ys.length ∧ ys.length ≤ nm := by omega
  clear hlen
  have hw1 : IntKind.i64.wrap (r + 1) = r + 1 := IntWalk.i64_in _ (by omega)
  have HC := Lib.hid hc
  clear hc
  go_enter Tryz.func76, Tryz.ntmps76
  have hM : BM ((w.alloc (.cells #[.int .i64 r, .int .i64 c, .slice Am nm cm] 26)).alloc (.cells #[.int .i64 0, .int .i64 0, .slice none 0 0] 26)) w.heap.size r c Am nm cm := Ka
  have hR : BM ((w.alloc (.cells #[.int .i64 r, .int .i64 c, .slice Am nm cm] 26)).alloc (.cells #[.int .i64 0, .int .i64 0, .slice none 0 0] 26)) (w.heap.size + 1) 0 0 none 0 0 := Ka
  obtain ⟨oa, ob, oc, of, ol⟩ := hM.mx; obtain ⟨ra, rb, rc, rf, rl⟩ := hR.mx
  go_wp2_with fail
  refine (spec_l1Below b n cap A xs 40 _ (CT.self (w0 := w0) (B := B) (by (with_reducible (repeat (first | exact hct | refine CT.drew ?_ | refine CT.drewN ?_ _ | refine CT.alloc ?_ _ | refine CT.far ?_ Ks _ | refine CT.below ?_ (by assumption) Ks)))))).mono ?_
  rintro e w2 ⟨v, rfl, ⟨x, rfl, hx0, hx1⟩, hc1⟩
  have hszw2 := hc1.size; (try simp at hszw2); have hct_1 : CT w0 w2 B b n cap A xs := CT.trans (by (with_reducible (repeat (first | exact hct | refine CT.drew ?_ | refine CT.drewN ?_ _ | refine CT.alloc ?_ _ | refine CT.far ?_ Ks _ | refine CT.below ?_ (by assumption) Ks)))) hc1; have hM_1 : BM w2 (w.heap.size) r c Am nm cm := BX.grown (Kb hM) hc1.gr (by simp; omega); have hR_1 : BM w2 (w.heap.size + 1) 0 0 none 0 0 := BX.grown (Kb hR) hc1.gr (by simp; omega); have ho_1 : OR w2 B1 (.slice Am nm cm) ys := OR.turned (Ko ho) hc1 (by omega); clear oa ob oc of ol ra rb rc rf rl; clear hct hM hR ho hc1; have hct := hct_1; have hM := hM_1; have hR := hR_1; have ho := ho_1; clear hct_1 hM_1 hR_1 ho_1; obtain ⟨oa, ob, oc, of, ol⟩ := hM.mx; obtain ⟨ra, rb, rc, rf, rl⟩ := hR.mx
  have hlM := hM.lt
  have hlR := hR.lt
  have HOW := Lib.hid howx
  clear howx
  generalize hbm : w.heap.size = bM at *
  have HBM := Lib.hid hbm
  clear hbm
  have K1 : Hid (¬ Value.ownBlock (.slice Am nm cm) = some bM) := Lib.hid (fun e => by have := HOW.out _ e; omega)
  have K2 : Hid (¬ Value.ownBlock (.slice Am nm cm) = some (bM + 1)) := Lib.hid (fun e => by have := HOW.out _ e; omega)
  by_cases e0 : x = 0
  · have t0 : (x == 0) = true := by simpa using e0
    clear e0
    go_wp2_with fail
    refine (spec_l1PickInt b n cap A xs (some ⟨w2.heap.size, 0, none⟩) _ _ [-1, 0, 7, r + 1] _ (B2 := w2.heap.size + 1) (CT.self (w0 := w0) (B := B) (by (with_reducible (repeat (first | exact hct | refine CT.drew ?_ | refine CT.drewN ?_ _ | refine CT.alloc ?_ _ | refine CT.far ?_ Ks _ | refine CT.below ?_ (by assumption) Ks))))) ?h2 ?h3 ?h4 ?h5 ?h6).mono ?h7
    case h2 => exact RI.lit (Blk.new _ _ _)
    case h3 => exact Ks
    case h4 => exact not_at Ks
    case h5 => decide
    case h6 => decide
    rintro e w3 ⟨v, rfl, ⟨y, rfl, hy⟩, hc1⟩
    have hszw3 := hc1.size; (try simp at hszw3); have hct_1 : CT w0 w3 B b n cap A xs := CT.trans (by (with_reducible (repeat (first | exact hct | refine CT.drew ?_ | refine CT.drewN ?_ _ | refine CT.alloc ?_ _ | refine CT.far ?_ Ks _ | refine CT.below ?_ (by assumption) Ks)))) hc1; have hM_1 : BM w3 (bM) r c Am nm cm := BX.grown (Kb hM) hc1.gr (by simp; omega); have hR_1 : BM w3 (bM + 1) 0 0 none 0 0 := BX.grown (Kb hR) hc1.gr (by simp; omega); have ho_1 : OR w3 B1 (.slice Am nm cm) ys := OR.turned (Ko ho) hc1 (by omega); clear oa ob oc of ol ra rb rc rf rl; clear hct hM hR ho hc1; have hct := hct_1; have hM := hM_1; have hR := hR_1; have ho := ho_1; clear hct_1 hM_1 hR_1 ho_1; obtain ⟨oa, ob, oc, of, ol⟩ := hM.mx; obtain ⟨ra, rb, rc, rf, rl⟩ := hR.mx
    have hy2 : -1 ≤ y ∧ y ≤ 12 := by
      simp only [List.mem_cons, List.not_mem_nil, or_false] at hy
      omega
    have hM2 : BM (w3.setCell ⟨bM, 0, none⟩ (.int .i64 y)) bM y c Am nm cm := (Blk.set_ hM 0 (.int .i64 y)).as rfl
    have hR2 : BM (w3.setCell ⟨bM, 0, none⟩ (.int .i64 y)) (bM + 1) 0 0 none 0 0 := hR.far (by simp) _
    have hvr := B3.of hR2
    have ne7 : ¬ bM = bM + 1 := by omega
    clear hy
    go_wp2_with fail
    clear oa ob oc of ol ra rb rc rf rl
    obtain ⟨oa, ob, oc, of, ol⟩ := hM2.mx
    obtain ⟨ra, rb, rc, rf, rl⟩ := hR2.mx
    go_wp2_with fail
    refine ret_M (b := bM + 1) Tryz.results76 rfl (Kb hvr) rfl ?_
    exact ⟨_, rfl, ⟨y, c, Am, nm, cm, ys, rfl, by (repeat (first | (with_reducible exact ho) | (with_reducible refine OR.drew ?_) | (with_reducible refine OR.drewN ?_ _) | (with_reducible refine OR.alloc ?_ _) | (refine OR.far ?_ K1.out _) | (refine OR.far ?_ K2.out _))), by omega, hy2, HC.out⟩, by (with_reducible (repeat (first | exact hct | refine CT.drew ?_ | refine CT.drewN ?_ _ | refine CT.alloc ?_ _ | refine CT.far ?_ Ks _ | refine CT.below ?_ (by assumption) Ks)))⟩
  · have t0 : (x == 0) = false := by simpa using e0
    clear e0
    by_cases e1 : x = 1
    · have t1 : (x == 1) = true := by simpa using e1
      clear e1
      by_cases hn0 : 0 < nm
      · obtain ⟨g, rfl, hg1, hg2⟩ := ho.begins (by omega)
        have hgo := (HOW.out g rfl).2
        have c0 := ho.cell 0 (by omega)
        have f0 := ho.frozen 0
        have ne1 : ¬ bM = g := by omega
        have ne2 : ¬ g = bM := by omega
        have ne3 : ¬ bM + 1 = g := by omega
        have ne4 : ¬ g = bM + 1 := by omega
        have ne7 : ¬ bM = bM + 1 := by omega
        generalize ys.getD 0 0 = y0 at c0
        go_wp2_with fail
        ((refine wp_region_held_drew (S := (fun w' => w'.cell? ⟨bM, 2, none⟩ = some (.slice (some ⟨g, 0, none⟩) nm cm))) (by kernel_rfl) ?_ (fun hHeld => ?_)); ((focus ((try dsimp only); (go_keep)))); ((refine tk_ (i := 0) (v := ?_) (y := Or.inl ⟨by rfl, ?_⟩) (h := ?_); rotate_left; (focus (((intro w hSw; (try dsimp only at hSw); go_simp) <;> (try with_reducible rfl)); done)); (try simp only [Act.put, p1_, p2_, p3_]))); ((refine tk_ (i := 1) (v := ?_) (y := Or.inl ⟨by rfl, ?_⟩) (h := ?_); rotate_left; (focus (((intro w hSw; (try dsimp only at hSw); go_simp) <;> (try with_reducible rfl)); done)); (try simp only [Act.put, p1_, p2_, p3_]))); ((refine tk_ (i := 2) (v := ?_) (y := Or.inl ⟨by rfl, ?_⟩) (h := ?_); rotate_left; (focus (((intro w hSw; (try dsimp only at hSw); go_simp) <;> (try with_reducible rfl)); done)); (try simp only [Act.put, p1_, p2_, p3_]))); ((refine wpAnyH_ready (rs := [3]) (by kernel_rfl) (by simp) ?_; refine AllReadyH.cons (by simp only [e1_, e2_, e3_]; try rfl) (fun K hK => ?_) AllReadyH.nil; go_simp; (go_at_call 89; refine (spec_l1Odd b n cap A xs _ (CT.self (w0 := w0) (B := B) (by (with_reducible (repeat (first | exact hct | refine CT.drew ?_ | refine CT.drewN ?_ _ | refine CT.alloc ?_ _ | refine CT.far ?_ Ks _ | refine CT.below ?_ (by assumption) Ks)))))).mono ?_; rintro e w3 ⟨v, rfl, ⟨x, rfl, hx0, hx1⟩, hc1⟩; have hsz3 := hc1.size; (try simp at hsz3); have hct_1 : CT w0 w3 B b n cap A xs := CT.trans (by (with_reducible (repeat (first | exact hct | refine CT.drew ?_ | refine CT.drewN ?_ _ | refine CT.alloc ?_ _ | refine CT.far ?_ Ks _ | refine CT.below ?_ (by assumption) Ks)))) hc1; have hM_1 : BM w3 bM r c (some ⟨g, 0, none⟩) nm cm := BX.grown (Kb hM) hc1.gr (by simp; omega); have hR_1 : BM w3 (bM + 1) 0 0 none 0 0 := BX.grown (Kb hR) hc1.gr (by simp; omega); have ho_1 : OR w3 B1 (.slice (some ⟨g, 0, none⟩) nm cm) ys := OR.turned (Ko ho) hc1 (by omega); clear oa ob oc of ol ra rb rc rf rl; clear hct hM hR ho hc1 c0 f0; have hct := hct_1; have hM := hM_1; have hR := hR_1; have ho := ho_1; clear hct_1 hM_1 hR_1 ho_1; obtain ⟨oa, ob, oc, of, ol⟩ := hM.mx; obtain ⟨ra, rb, rc, rf, rl⟩ := hR.mx; have c0 := ho.cell 0 (by omega); have f0 := ho.frozen 0; generalize ys.getD 0 0 = y0 at c0); (try go_wp2_with fail); refine hK.out _ _ ?_ (fun hHeld => ?_); (focus ((try dsimp only); (go_keep))); clear hK K; (try simp only [Act.put, p1_, p2_, p3_]))); ((refine tk_ (i := 4) (v := ?_) (y := Or.inl ⟨by rfl, ?_⟩) (h := ?_); rotate_left; (focus (((intro w hSw; (try dsimp only at hSw); go_simp) <;> (try with_reducible rfl)); done)); (try simp only [Act.put, p1_, p2_, p3_]))); ((refine wpAnyH_ready (rs := [5]) (by kernel_rfl) (by simp) ?_; refine AllReadyH.cons (by simp only [e1_, e2_, e3_]; try rfl) (fun K hK => ?_) AllReadyH.nil; go_simp; (try go_wp2_with fail); refine hK.out _ _ ?_ (fun hHeld => ?_); (focus ((try dsimp only); (go_keep))); clear hK K; (try simp only [Act.put, p1_, p2_, p3_]))); (refine wpAnyH_done (by kernel_rfl) ?_ _))
        have hst := ho.set_ 0 x
        have hvr := B3.of hR
        go_wp2_with fail
        refine ret_M (b := bM + 1) Tryz.results76 rfl (Kb hvr) rfl ?_
        exact ⟨_, rfl, ⟨r, c, some ⟨g, 0, none⟩, nm, cm, ys.set 0 x, rfl, by (repeat (first | (with_reducible exact hst) | (with_reducible refine OR.drew ?_) | (with_reducible refine OR.drewN ?_ _) | (with_reducible refine OR.alloc ?_ _) | (refine OR.far ?_ K1.out _) | (refine OR.far ?_ K2.out _))), by rw [List.length_set]; omega, by omega, HC.out⟩, by (with_reducible (repeat (first | exact hct | refine CT.drew ?_ | refine CT.drewN ?_ _ | refine CT.alloc ?_ _ | refine CT.far ?_ Ks _ | refine CT.below ?_ (by assumption) Ks)))⟩
      · have hvr := B3.of hR
        have ne7 : ¬ bM = bM + 1 := by omega
        go_wp2_with fail
        refine ret_M (b := bM + 1) Tryz.results76 rfl (Kb hvr) rfl ?_
        exact ⟨_, rfl, ⟨r, c, Am, nm, cm, ys, rfl, by (repeat (first | (with_reducible exact ho) | (with_reducible refine OR.drew ?_) | (with_reducible refine OR.drewN ?_ _) | (with_reducible refine OR.alloc ?_ _) | (refine OR.far ?_ K1.out _) | (refine OR.far ?_ K2.out _))), by omega, by omega, HC.out⟩, by (with_reducible (repeat (first | exact hct | refine CT.drew ?_ | refine CT.drewN ?_ _ | refine CT.alloc ?_ _ | refine CT.far ?_ Ks _ | refine CT.below ?_ (by assumption) Ks)))⟩
    · have t1 : (x == 1) = false := by simpa using e1
      clear e1
      by_cases e2 : x = 2
      · have t2 : (x == 2) = true := by simpa using e2
        clear e2
        have hvr := B3.of hR
        have ne7 : ¬ bM = bM + 1 := by omega
        go_wp2_with (at_builtin; refine wpList_append_one _ rfl (.tmp 30) (.tmp 31) rfl B1 (.slice Am nm cm) _ rfl (ho.alloc _) _ 1 rfl ?f1 ?f2 ?f3 ?_)
        case f1 => simp [go_sem]
        case f2 => omega
        case f3 => simp; omega
        intro v1 w3 hown1 hgr hat
        have hsz3 := hgr.size
        simp at hsz3
        have hM3 := (hM.alloc (.cells #[.int .i64 1] 3)).grown hgr (fun e => K1.out e.symm)
        have hR3 := (hR.alloc (.cells #[.int .i64 1] 3)).grown hgr (fun e => K2.out e.symm)
        have hct3 : CT w0 w3 B b n cap A xs := CT.own (by (with_reducible (repeat (first | exact hct | refine CT.drew ?_ | refine CT.drewN ?_ _ | refine CT.alloc ?_ _ | refine CT.far ?_ Ks _ | refine CT.below ?_ (by assumption) Ks)))) hgr (ho.alloc _) h0
        have k1 : ¬ v1.ownBlock = some bM := fun e => by
          rcases hat with h | h
          · exact K1.out (h.symm.trans e)
          · rw [h] at e; injection e with e; first | omega | (simp at e; omega)
        have k2 : ¬ v1.ownBlock = some (bM + 1) := fun e => by
          rcases hat with h | h
          · exact K2.out (h.symm.trans e)
          · rw [h] at e; injection e with e; first | omega | (simp at e; omega)
        have KK1 := Lib.hid k1
        have KK2 := Lib.hid k2
        have hlen3 : (ys ++ [(1 : Int)]).length ≤ ys.length + 1 := by simp
        rcases hown1.form with ⟨he, hnil⟩ | ⟨g3, c3, he, hg1, hg2, -⟩
        · simp at hnil
        · subst he
          clear oa ob oc of ol ra rb rc rf rl
          clear hM hR hct ho hgr hat k1 k2
          obtain ⟨oa, ob, oc, of, ol⟩ := hM3.mx
          obtain ⟨ra, rb, rc, rf, rl⟩ := hR3.mx
          generalize hys : ys ++ [(1 : Int)] = zs at *
          have HL3 := Lib.hid hlen3
          clear hlen3 hys
          have hM4 : BM (w3.setCell ⟨bM, 2, none⟩ (.slice (some ⟨g3, 0, none⟩) zs.length c3)) bM r c (some ⟨g3, 0, none⟩) zs.length c3 := (Blk.set_ hM3 2 _).as rfl
          have hR4 : BM (w3.setCell ⟨bM, 2, none⟩ (.slice (some ⟨g3, 0, none⟩) zs.length c3)) (bM + 1) 0 0 none 0 0 := hR3.far (by simp) _
          clear hvr
          have hvr := B3.of hR4
          have hct := hct3
          go_wp2_with fail
          clear oa ob oc of ol ra rb rc rf rl
          obtain ⟨oa, ob, oc, of, ol⟩ := hM4.mx
          obtain ⟨ra, rb, rc, rf, rl⟩ := hR4.mx
          go_wp2_with fail
          refine ret_M (b := bM + 1) Tryz.results76 rfl (Kb hvr) rfl ?_
          exact ⟨_, rfl, ⟨r, c, some ⟨g3, 0, none⟩, _, c3, zs, rfl, by (repeat (first | (with_reducible exact hown1) | (with_reducible refine OR.drew ?_) | (with_reducible refine OR.drewN ?_ _) | (with_reducible refine OR.alloc ?_ _) | (refine OR.far ?_ KK1.out _) | (refine OR.far ?_ KK2.out _))), HL3.out, by omega, HC.out⟩, by (with_reducible (repeat (first | exact hct | refine CT.drew ?_ | refine CT.drewN ?_ _ | refine CT.alloc ?_ _ | refine CT.far ?_ Ks _ | refine CT.below ?_ (by assumption) Ks)))⟩
      · have t2 : (x == 2) = false := by simpa using e2
        clear e2
        have hvr := B3.of hR
        have ne7 : ¬ bM = bM + 1 := by omega
        go_wp2_with fail
        refine ret_M (b := bM + 1) Tryz.results76 rfl (Kb hvr) rfl ?_
        exact ⟨_, rfl, ⟨r, c, Am, nm, cm, ys, rfl, by (repeat (first | (with_reducible exact ho) | (with_reducible refine OR.drew ?_) | (with_reducible refine OR.drewN ?_ _) | (with_reducible refine OR.alloc ?_ _) | (refine OR.far ?_ K1.out _) | (refine OR.far ?_ K2.out _))), by omega, by omega, HC.out⟩, by (with_reducible (repeat (first | exact hct | refine CT.drew ?_ | refine CT.drewN ?_ _ | refine CT.alloc ?_ _ | refine CT.far ?_ Ks _ | refine CT.below ?_ (by assumption) Ks)))⟩
end Go.Proofs.YtlggfmfelakadaaGreatDoor

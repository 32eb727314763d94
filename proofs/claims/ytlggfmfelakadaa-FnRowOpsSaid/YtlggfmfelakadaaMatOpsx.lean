/-
  DERIVED. newMatrix, l3New, set, checked, l3Done, columnOf, slices.Equal, sameInts.
-/
import Derived.Test.YtlggfmfelakadaaX2
import Derived.Test.YtlggfmfelakadaaX1
namespace Go.Proofs.Ytlggfmfelakadaa
open Go.RowKit
set_option linter.unusedVariables false
set_option linter.unusedSimpArgs false
set_option maxRecDepth 100000 in
theorem impl_newMatrix (R C : Nat) (w : World) (hb : R * C ≤ 100000) (hR : R ≤ 100000) (hC : C ≤ 100000) :
    Calls Try.prog 52 #[.int .i64 R, .int .i64 C] w (MR ⟨R, C, List.replicate (R * C) 0⟩ w) := by
  obtain ⟨i0, hi, hz0, hz1, hz2⟩ := info_parts int_info
  have e : (R : Int) * (C : Int) = ((R * C : Nat) : Int) := by rw [Int.natCast_mul]
  generalize R * C = N at *
  have e1 : 0 ≤ (R : Int) * (C : Int) ∧ (R : Int) * (C : Int) ≤ 100000 := by omega
  obtain ⟨e2, e3⟩ := e1
  go_enter Try.func52, Try.ntmps52
  go_wp2_with (at_make; go_loud (refine wpList_make_full _ rfl _ _ 24 rfl (w.heap.size + 1) 3 i0 (.int .i64 0) 1 Try.underlying24 hi hz0 hz1 _ _ _ _ N rfl rfl rfl rfl ?b2 ?b3 ?b4 ?_))
  case b2 => rw [hz2]; omega
  case b3 => unfold maxLen; omega
  case b4 => simp
  intro w0 hown0 hgrow0
  have h0 := OR.of_made hown0
  have hb0 : Below (w.heap.size + 1) (w.alloc (.cells #[.int .i64 0, .int .i64 0, .slice none 0 0] 26)) w0 := (Below.refl _ _).grown hgrow0 (by simp) (by simp)
  have hR0 : B3 26 w0 w.heap.size := Ka
  have hbw : Below w.heap.size w w0 := Below.trans (show Below w.heap.size w (w.alloc (.cells #[.int .i64 0, .int .i64 0, .slice none 0 0] 26)) from Kw) (hb0.mono (by omega))
  have hsz := hb0.size
  simp at hsz
  obtain ⟨x0, x1, x2, hx⟩ := hR0
  have k0 := hx.cell 0
  have k1 := hx.cell 1
  have k2 := hx.cell 2
  have kf := hx.frozen
  have kl := hx.lt
  simp at k0 k1 k2
  clear hown0 hgrow0
  go_wp2
  refine ret_M (b := w.heap.size) Try.results52 rfl (by refine BX.put ?_; exact ⟨_, _, _, hx⟩) rfl ?_
  refine MR.mk rfl (OR.mono (B := w.heap.size + 1) (Ko h0) (by omega)) Kw
set_option maxRecDepth 100000 in
theorem spec_l3New (R C : Nat) (w : World) (hb : R * C ≤ 100000) (hR : R ≤ 100000) (hC : C ≤ 100000) :
    Calls Try.prog 102 #[.int .i64 R, .int .i64 C] w (MR ⟨R, C, List.replicate (R * C) 0⟩ w) := by
  obtain ⟨i0, hi, hz0, hz1, hz2⟩ := info_parts int_info
  have e : (R : Int) * (C : Int) = ((R * C : Nat) : Int) := by rw [Int.natCast_mul]
  generalize R * C = N at *
  have e1 : 0 ≤ (R : Int) * (C : Int) ∧ (R : Int) * (C : Int) ≤ 100000 := by omega
  obtain ⟨e2, e3⟩ := e1
  go_enter Try.func102, Try.ntmps102
  go_wp2_with (at_make; go_loud (refine wpList_make_full _ rfl _ _ 24 rfl (w.heap.size + 1) 3 i0 (.int .i64 0) 1 Try.underlying24 hi hz0 hz1 _ _ _ _ N rfl rfl rfl rfl ?b2 ?b3 ?b4 ?_))
  case b2 => rw [hz2]; omega
  case b3 => unfold maxLen; omega
  case b4 => simp
  intro w0 hown0 hgrow0
  have h0 := OR.of_made hown0
  have hb0 : Below (w.heap.size + 1) (w.alloc (.cells #[.int .i64 0, .int .i64 0, .slice none 0 0] 26)) w0 := (Below.refl _ _).grown hgrow0 (by simp) (by simp)
  have hR0 : B3 26 w0 w.heap.size := Ka
  have hbw : Below w.heap.size w w0 := Below.trans (show Below w.heap.size w (w.alloc (.cells #[.int .i64 0, .int .i64 0, .slice none 0 0] 26)) from Kw) (hb0.mono (by omega))
  have hsz := hb0.size
  simp at hsz
  obtain ⟨x0, x1, x2, hx⟩ := hR0
  have k0 := hx.cell 0
  have k1 := hx.cell 1
  have k2 := hx.cell 2
  have kf := hx.frozen
  have kl := hx.lt
  simp at k0 k1 k2
  clear hown0 hgrow0
  go_wp2
  refine ret_M (b := w.heap.size) Try.results102 rfl (by refine BX.put ?_; exact ⟨_, _, _, hx⟩) rfl ?_
  refine MR.mk rfl (OR.mono (B := w.heap.size + 1) (Ko h0) (by omega)) Kw
/-- The call returned nothing, having written just the block of an own slice, which now holds ys. -/
def WU (sv : Value) (B : Nat) (ys : List Int) (w : World) (e : Ending) (w' : World) : Prop :=
  e = .returned (.tuple #[]) ∧ OR w' B sv ys ∧ w.grownBy w' sv.ownBlock ∧ w.heap.size ≤ w'.heap.size
theorem impl_set (r c i j v : Int) (A : Option Addr) (n cap : Nat) (xs : List Int) (w : World) {B : Nat} (h : OR w B (.slice A n cap) xs) (hi : 0 ≤ i * c ∧ i * c ≤ 10000) (hj : 0 ≤ j ∧ j ≤ 10000) (hk : i * c + j < n) :
    Calls Try.prog 54 #[.agg #[.int .i64 r, .int .i64 c, .slice A n cap], .int .i64 i, .int .i64 j, .int .i64 v] w (WU (.slice A n cap) B (xs.set (i * c + j).toNat v) w) := by
  have hn := h.lenEq
  have hc := h.caps
  obtain ⟨g, rfl, hg1, hg2⟩ := h.begins (by omega)
  obtain ⟨hi1, hi2⟩ := hi
  obtain ⟨hj1, hj2⟩ := hj
  have c1 := h.cell (i * c + j).toNat (by omega)
  have f1 := h.frozen (i * c + j).toNat
  have hset := (h.set_ (i * c + j).toNat v).alloc (.cells #[.int .i64 r, .int .i64 c, .slice (some ⟨g, 0, none⟩) n cap] 26)
  have hgr := only_alloc (only_set (g := g) (World.grownBy.refl w _) (i * c + j).toNat (.int .i64 v)) (.cells #[.int .i64 r, .int .i64 c, .slice (some ⟨g, 0, none⟩) n cap] 26)
  have hne : g ≠ w.heap.size := by omega
  clear hn h
  go_enter Try.func54, Try.ntmps54
  go_wp2
  go_end0
  exact ⟨rfl, hset, hgr, by simp⟩
/-- What is handed on of a matrix, if it is one. -/
def chkV (b : Bool) (r c : Int) (A : Option Addr) (n cap : Nat) : Value :=
  if b then .tuple #[.agg #[.int .i64 r, .int .i64 c, .slice A n cap], .bool true] else .tuple #[.agg #[.int .i64 0, .int .i64 0, .slice none 0 0], .bool false]
theorem chkV_t (r c : Int) (A : Option Addr) (n cap : Nat) : chkV true r c A n cap = .tuple #[.agg #[.int .i64 r, .int .i64 c, .slice A n cap], .bool true] := rfl
theorem chkV_f (r c : Int) (A : Option Addr) (n cap : Nat) : chkV false r c A n cap = .tuple #[.agg #[.int .i64 0, .int .i64 0, .slice none 0 0], .bool false] := rfl
set_option maxHeartbeats 1000000 in
theorem impl_checked (r c : Int) (A : Option Addr) (n cap : Nat) (xs : List Int) (w : World) {B : Nat} (h : RI w B A n xs) (hB : B ≤ w.heap.size) (hn : n ≤ 1048576) :
    Calls Try.prog 55 #[.agg #[.int .i64 r, .int .i64 c, .slice A n cap]] w (BV (chkV (isMat r c xs) r c A n cap) w) := by
  have H2 := Lib.hid (h.more hB)
  clear h
  rcases hm : isMat r c xs with _ | _
  all_goals
    have HM := Lib.hid hm
    clear hm
    go_enter Try.func55, Try.ntmps55
    go_wp2_with fail
    refine (impl_IsMatrix r c A n cap xs _ (C := w.heap.size) (Kr H2.out) Ks hn).mono ?_
    rw [HM.out]
    rintro e w1 ⟨rfl, hb⟩
    have hsz := hb.size
    simp at hsz
    have hO : BM w1 w.heap.size r c A n cap := Ka
    have hR : BM w1 (w.heap.size + 1) 0 0 none 0 0 := Ka
    have hbw : Below w.heap.size w w1 := Kw
    obtain ⟨oa, ob, oc, of, ol⟩ := hO.mx
    obtain ⟨ra, rb, rc, rf, rl⟩ := hR.mx
    clear hb
    go_wp2_with fail
  · refine ret_MB (r := 0) (c := 0) (A := none) (n := 0) (cap := 0) Try.results55 rfl (Kb hR) rfl ?_
    exact BV.mk rfl Kw
  · refine ret_MB (r := r) (c := c) (A := A) (n := n) (cap := cap) Try.results55 rfl (Kb hR) rfl ?_
    exact BV.mk rfl Kw
set_option maxHeartbeats 400000 in
theorem slices_Equal (A B : Option Addr) (n m c d : Nat) (xs ys : List Int) (w : World) {C C' : Nat} (h : RI w C A n xs) (h' : RI w C' B m ys) (hn : n ≤ 9223372036854775807) (hm : m ≤ 9223372036854775807) :
    Calls Try.prog 49 #[.slice A n c, .slice B m d] w (DV (.bool (eqB xs ys)) w) := by
  have hlx := h.len
  have hly := h'.len
  by_cases hnm : n = m
  · subst hnm
    have H := Lib.hid h
    have H' := Lib.hid h'
    clear h h'
    have hb : ((n : Int) != (n : Int)) = false := by simp
    go_enter Try.func49, Try.ntmps49
    go_wp2
    go_loopw [5, 13] (fun _ v wr => ∃ k nd : Nat, v = .int .i64 k ∧ k ≤ n ∧ xs.take k = ys.take k ∧ wr = w.drewN nd) (fun _ v _ => n - (intOf v).toNat)
    case atStart => exact ⟨0, 0, rfl, Nat.zero_le _, by simp, rfl⟩
    case round =>
      obtain ⟨k, nd, rfl, hk, heq0, rfl⟩ := hrel
      have heq := Lib.hid heq0
      clear heq0
      by_cases hlt : k < n
      · obtain ⟨b, o, rfl, hbb, hcells⟩ := H.out.2 (by omega)
        obtain ⟨b', o', rfl, hbb', hcells'⟩ := H'.out.2 (by omega)
        have c1 := hcells k hlt
        have c2 := hcells' k hlt
        clear hcells hcells'
        have hkx : k < xs.length := by omega
        have hky : k < ys.length := by omega
        by_cases he : xs.getD k 0 = ys.getD k 0
        · have hnext := Lib.hid (take_next hkx hky heq.out he)
          have heb : (xs.getD k 0 != ys.getD k 0) = false := by simp only [bne_eq_false_iff_eq]; exact he
          clear he
          generalize xs.getD k 0 = x at c1 heb
          generalize ys.getD k 0 = y at c2 heb
          go_wp2
          go_region
          all_goals go_wp2
          go_roundw
          case rel => exact ⟨k + 1, nd + 1, by go_num, by omega, hnext.out, rfl⟩
          case measure => simp only [intOf]; omega
        · have hne : eqB xs ys = false := by
            unfold eqB
            rw [decide_eq_false_iff_not]
            intro e
            exact he (by rw [e])
          have heb : (xs.getD k 0 != ys.getD k 0) = true := by simp only [bne_iff_ne, ne_eq]; exact he
          clear he
          generalize xs.getD k 0 = x at c1 heb
          generalize ys.getD k 0 = y at c2 heb
          go_wp2
          go_region
          all_goals go_wp2
          go_ret
          exact DV.mk (nd + 1) (vbool hne.symm)
      · have hall : eqB xs ys = true := by
          unfold eqB
          have := heq.out
          rw [List.take_of_length_le (by omega), List.take_of_length_le (by omega)] at this
          simpa using this
        go_wp2
        go_ret
        exact DV.mk nd (vbool hall.symm)
  · have hb : ((n : Int) != (m : Int)) = true := by simp; omega
    have hne : eqB xs ys = false := by
      unfold eqB
      rw [decide_eq_false_iff_not]
      intro e
      rw [e] at hlx
      omega
    go_enter Try.func49, Try.ntmps49
    go_wp2
    go_ret
    exact DV.mk0 (vbool hne.symm)
end Go.Proofs.Ytlggfmfelakadaa

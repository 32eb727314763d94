/-
  DERIVED. The exchange of two rows in place, both; a row as a window.
-/
import Derived.Test.YtlggfmfelakadaaGreatDoorc3
import Derived.Test.YtlggfmfelakadaaGreatDoorc4
namespace Go.Proofs.YtlggfmfelakadaaGreatDoor
open Go.RowKit
set_option linter.unusedVariables false
set_option linter.unusedSimpArgs false
/-- The call returned r, having written just the block of an own slice, which now holds ys. -/
def WW (r : Value) (sv : Value) (B : Nat) (ys : List Int) (w : World) (e : Ending) (w' : World) : Prop :=
  e = .returned r ∧ OR w' B sv ys ∧ w.grownBy w' sv.ownBlock ∧ w.heap.size ≤ w'.heap.size
theorem WW.mk {r r' : Value} {sv : Value} {B : Nat} {ys : List Int} {w w' : World} (e : r' = r) (h : OR w' B sv ys) (hg : w.grownBy w' sv.ownBlock) (hs : w.heap.size ≤ w'.heap.size) : WW r sv B ys w (.returned r') w' := by
  subst e; exact ⟨rfl, h, hg, hs⟩
theorem Blk.new_at (w : World) (t : TypeId) (cs : Array Value) (b : Nat) (hb : b = w.heap.size) : Blk (w.alloc (.cells cs t)) b t cs := by
  subst hb; exact Blk.new w t cs
theorem grown_far {a w : World} {row : Option Nat} {p : Addr} (h : a.grownBy w row) (hp : a.heap.size ≤ p.block) (u : Value) : a.grownBy (w.setCell p u) row :=
  ⟨h.os, h.tape, h.output, by simpa [World.setCell] using h.size, fun i hi hne => (Below.heap_setCell w _ u i (by omega)).trans (h.block i hi hne)⟩
theorem impl_row_own (r : Int) (C i g : Nat) (n cap : Nat) (w : World) (hg : g < w.heap.size) (hnc : n ≤ cap) (hcap : cap ≤ 9223372036854775807) (hC0 : 0 < C) (hC : C ≤ 1000) (hi : i ≤ 1000) (hk : i * C + C ≤ n) :
    Calls Tryz.prog 20 #[.agg #[.int .i64 r, .int .i64 C, .slice (some ⟨g, 0, none⟩) n cap], .int .i64 i] w (BV (.slice (some ⟨g, i * C, none⟩) C (cap - i * C)) w) := by
  have e1 : (i : Int) * (C : Int) = ((i * C : Nat) : Int) := by rw [Int.natCast_mul]
  have e2 : ((i : Int) + 1) * (C : Int) = ((i * C + C : Nat) : Int) := by rw [Int.add_mul, e1, Int.one_mul, ← Int.natCast_add]
  have hm : i * C ≤ 1000 * 1000 := Nat.mul_le_mul hi hC
  have b1 : 0 ≤ (i : Int) * (C : Int) := by omega
  have b2 : (i : Int) * (C : Int) ≤ 1000000 := by omega
  have b3 : 0 ≤ ((i : Int) + 1) * (C : Int) := by omega
  have b4 : ((i : Int) + 1) * (C : Int) ≤ 1001000 := by omega
  have b5 : (i : Int) * (C : Int) ≤ ((i : Int) + 1) * (C : Int) := by omega
  have b6 : ((i : Int) + 1) * (C : Int) ≤ cap := by omega
  have E1 := Lib.hid e1
  have E2 := Lib.hid e2
  clear e1 e2
  go_enter Tryz.func20, Tryz.ntmps20
  go_wp2_with fail
  go_ret
  refine BV.mk ?_ Kw
  show Value.slice (some ⟨g, i * C, none⟩) ((i + 1) * C - i * C) (cap - i * C) = _
  rw [sub_mul_row]
set_option maxRecDepth 100000 in
set_option maxHeartbeats 4000000 in
theorem impl_rowOp_swap (R C p t : Nat) (ti : Int) (A : Option Addr) (n cap : Nat) (f : Nat → Nat → Int) (w : World) {B : Nat} (h : OR w B (.slice A n cap) (tb R C f)) (hp : p < R) (ht : t < R) (hpt : p ≠ t) (hC0 : 0 < C) (hC : C ≤ 48) (hR : R ≤ 24) :
    Calls Tryz.prog 84 #[.agg #[.int .i64 R, .int .i64 C, .slice A n cap], .agg #[.int .i64 0, .int .i64 p, .int .i64 t, .int .i64 ti]] w (WW (.bool true) (.slice A n cap) B (tb R C (swF f p t)) w) := by
  have hn := h.lenEq
  rw [tb_len] at hn
  have hcaps := h.caps
  have hP := idx_nat hp (show C - 1 < C by omega)
  have hT := idx_nat ht (show C - 1 < C by omega)
  obtain ⟨g, rfl, hg1, hg2⟩ := h.begins (by rw [tb_len]; omega)
  have hP2 : p * C + C ≤ n := by omega
  have hT2 : t * C + C ≤ n := by omega
  have hne : ∀ k, k < C → p * C + k ≠ t * C + k := fun k hk e => hpt (by
    have : p * C = t * C := by omega
    exact Nat.eq_of_mul_eq_mul_right hC0 this)
  have HN := Lib.hid hn
  have HPT := Lib.hid hpt
  have HNE := Lib.hid hne
  clear hn hpt hne hP hT
  go_enter Tryz.func84, Tryz.ntmps84
  go_wp2_with fail
  refine (impl_row_own R C p g n cap _ Ks (by omega) (by omega) hC0 (by omega) (by omega) hP2).mono ?_
  rintro e w1 ⟨rfl, hb1⟩
  have hsz1 := hb1.size
  simp at hsz1
  have hO1 : Blk w1 (w.heap.size + 1) 108 #[.int .i64 0, .int .i64 p, .int .i64 t, .int .i64 ti] := by (with_reducible (repeat (first | assumption | refine Blk.new_at _ _ _ _ Ks | refine Blk.below ?_ (by assumption) Ks | apply Blk.drew | apply Blk.drewN | refine Blk.far ?_ (by simp only [ne_eq]; omega) _ | apply Blk.alloc)))
  have hM1 : BM w1 w.heap.size R C (some ⟨g, 0, none⟩) n cap := Ka
  have hown1 : OR w1 B (.slice (some ⟨g, 0, none⟩) n cap) (tb R C f) := Ko h
  have hgr1 : w.grownBy w1 (some g) := by (with_reducible (repeat (first | assumption | exact World.grownBy.refl _ _ | refine only_alloc ?_ _ | refine only_drewN ?_ _ | refine only_drew ?_ | refine only_set ?_ _ _ | refine grown_far ?_ Ks _ | refine only_trans ?_ (only_of_below (by assumption) _) | refine only_trans ?_ (by assumption))))
  obtain ⟨oa, ob, oc, of, ol⟩ := hM1.mx
  have x0 := hO1.cell 0
  have x1 := hO1.cell 1
  have x2 := hO1.cell 2
  have x3 := hO1.cell 3
  simp at x0 x1 x2 x3
  clear hb1
  go_wp2_with fail
  refine (impl_row_own R C t g n cap _ Ks (by omega) (by omega) hC0 (by omega) (by omega) hT2).mono ?_
  rintro e w2 ⟨rfl, hb2⟩
  have hsz2 := hb2.size
  have hO2 : Blk w2 (w.heap.size + 1) 108 #[.int .i64 0, .int .i64 p, .int .i64 t, .int .i64 ti] := by (with_reducible (repeat (first | exact hO1 | refine Blk.new_at _ _ _ _ Ks | refine Blk.below ?_ (by assumption) Ks | apply Blk.drew | apply Blk.drewN | refine Blk.far ?_ (by simp only [ne_eq]; omega) _ | apply Blk.alloc)))
  have hown2 : OR w2 B (.slice (some ⟨g, 0, none⟩) n cap) (tb R C f) := Ko hown1
  have hgr2 : w.grownBy w2 (some g) := by (with_reducible (repeat (first | assumption | exact World.grownBy.refl _ _ | refine only_alloc ?_ _ | refine only_drewN ?_ _ | refine only_drew ?_ | refine only_set ?_ _ _ | refine grown_far ?_ Ks _ | refine only_trans ?_ (only_of_below (by assumption) _) | refine only_trans ?_ (by assumption))))
  clear hb2 hown1 hgr1 hO1 hM1 x0 x1 x2 x3 oa ob oc of ol
  go_wp2_with fail
  go_loopw [7, 19] (fun _ u wr => ∃ k : Nat, u = .int .i64 k ∧ k ≤ C ∧ OR wr B (.slice (some ⟨g, 0, none⟩) n cap) (tb R C (swK f p t k)) ∧ Blk wr (w.heap.size + 1) 108 #[.int .i64 0, .int .i64 p, .int .i64 t, .int .i64 ti] ∧ w.grownBy wr (some g) ∧ w.heap.size ≤ wr.heap.size) (fun _ v _ => C - (intOf v).toNat)
  case atStart => exact ⟨0, rfl, Nat.zero_le _, by rw [swK_zero]; exact hown2, hO2, hgr2, by omega⟩
  case round =>
    clear hown2 hO2 hgr2 h
    obtain ⟨k, rfl, hk, hown, hO, hgr, hsz⟩ := hrel
    have x0 := hO.cell 0
    have x1 := hO.cell 1
    have x2 := hO.cell 2
    have x3 := hO.cell 3
    have hl := hO.lt
    simp at x0 x1 x2 x3
    by_cases hkC : k < C
    · have c1 := hown.cell (p * C + k) (by rw [tb_len]; exact idx_nat hp hkC)
      have c2 := hown.cell (t * C + k) (by rw [tb_len]; exact idx_nat ht hkC)
      rw [tb_at hp hkC] at c1
      rw [tb_at ht hkC] at c2
      have e1 : swK f p t k p k = f p k := by simp [swK]
      have e2 : swK f p t k t k = f t k := by simp [swK]
      rw [e1] at c1
      rw [e2] at c2
      clear e1 e2
      have f1 := hown.frozen (p * C + k)
      have f2 := hown.frozen (t * C + k)
      have hs1 := (hown.set_ (p * C + k) (f t k)).set_ (t * C + k) (f p k)
      rw [tb_set hp hkC, tb_set ht hkC, swK_step HPT.out] at hs1
      have hne1 := HNE.out k hkC
      have hne2 : ¬ g = w.heap.size + 1 := by omega
      generalize f t k = y at *
      generalize f p k = x at *
      go_wp2
      go_region
      all_goals go_wp2
      go_roundw
      case rel => exact ⟨k + 1, by go_num, by omega, OR.drew hs1, by (with_reducible (repeat (first | exact hO | refine Blk.new_at _ _ _ _ Ks | refine Blk.below ?_ (by assumption) Ks | apply Blk.drew | apply Blk.drewN | refine Blk.far ?_ (by simp only [ne_eq]; omega) _ | apply Blk.alloc))), by (with_reducible (repeat (first | assumption | exact World.grownBy.refl _ _ | refine only_alloc ?_ _ | refine only_drewN ?_ _ | refine only_drew ?_ | refine only_set ?_ _ _ | refine grown_far ?_ Ks _ | refine only_trans ?_ (only_of_below (by assumption) _) | refine only_trans ?_ (by assumption)))), by simpa [World.setCell] using hsz⟩
      case measure => simp only [intOf]; omega
    · have hfin := hown.as (show _ = tb R C (swF f p t) by rw [show k = C by omega]; exact swK_end f p t)
      clear hown
      go_wp2
      go_ret
      exact WW.mk rfl hfin hgr hsz
end Go.Proofs.YtlggfmfelakadaaGreatDoor

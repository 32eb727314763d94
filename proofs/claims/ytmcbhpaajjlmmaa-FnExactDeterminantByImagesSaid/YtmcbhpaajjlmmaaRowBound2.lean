/-
  DERIVED. The contract of spec.RowBound; the law FnExactRowBound.
-/
import Derived.Test.YtmcbhpaajjlmmaaRowBound
import Derived.Test.YtmcbhpaajjlmmaaMat
namespace Go.Proofs.Ytmcbhpaajjlmmaa
open Go.RowKit
set_option linter.unusedVariables false
/-- The product of the sums, with the mark. -/
def bS (p : Int) : List Int → Int
  | [] => p
  | s :: l => bS (mulF p (fit s)) l
theorem mulF_bad (b : Int) : mulF bad b = bad := by simp [mulF]
theorem mulF_bad' (a : Int) : mulF a bad = bad := by simp [mulF]
theorem bS_bad : ∀ l : List Int, bS bad l = bad
  | [] => rfl
  | s :: l => by rw [bS, mulF_bad]; exact bS_bad l
theorem num_ne_bad {p : Int} (h : -400000000 ≤ p ∧ p ≤ 400000000) : p ≠ bad := by unfold bad; omega
theorem bndI_bS : ∀ (l : List Int) (p : Int), (-400000000 ≤ p ∧ p ≤ 400000000) → bndI p l = if bS p l = bad then none else some (bS p l)
  | [], p, h => by rw [bndI, bS, if_neg (num_ne_bad h)]
  | s :: l, p, h => by
    rw [bndI, bS]
    by_cases hs : isNum s = true
    · have hs' := (isNum_iff s).1 hs
      rw [fit_in hs', mulF_num h hs']
      by_cases hps : isNum (p * s) = true
      · have hps' := (isNum_iff _).1 hps
        rw [if_pos ⟨hs, hps⟩, fit_in hps']
        exact bndI_bS l _ hps'
      · rw [if_neg (fun h => hps h.2), fit_out ((isNum_not _).1 (by simpa using hps)), bS_bad, if_pos rfl]
    · rw [if_neg (fun h => hs h.1), fit_out ((isNum_not s).1 (by simpa using hs)), mulF_bad', bS_bad, if_pos rfl]
theorem NB.mulF (a b : Int) : NB (mulF a b) := by
  unfold Go.Proofs.Ytmcbhpaajjlmmaa.mulF
  split
  · exact .inl rfl
  · exact NB.fit _
theorem addB_fit {S x : Int} (hS : 0 ≤ S) (h0 : 0 ≤ x) (h1 : x ≤ 400000000) : addB (fit S) x = fit (S + x) := by
  by_cases h : S ≤ 400000000
  · rw [fit_in (by omega), addB_num (by omega) (by omega)]
  · rw [fit_out (.inr (by omega)), fit_out (.inr (by omega))]; simp [addB]
set_option maxHeartbeats 2000000 in
theorem spec_RowBound (r c : Int) (A : Option Addr) (n cap : Nat) (xs : List Int) (w : World) {B : Nat} (h : RI w B A n xs) (hB : B ≤ w.heap.size) (hn : n ≤ 1048576) :
    Calls Try.prog 115 #[.agg #[.int .i64 r, .int .i64 c, .slice A n cap]] w (BV (optV (bndRes r c xs)) w) := by
  have hlen := h.len
  have H2 := Lib.hid (h.more hB)
  clear h
  unfold bndRes
  rcases hm : isSq r c xs with _ | _
  · rw [if_neg (by simp)]
    have HM := Lib.hid hm
    clear hm hlen
    go_enter Try.func115, Try.ntmps115
    go_wp2_with (go_at_call 168; refine (spec_IsSquare r c A n cap xs _ (B := w.heap.size) (by (repeat (first | (with_reducible exact H2.out) | (with_reducible refine RI.drew ?_) | (with_reducible refine RI.drewN ?_ _) | (with_reducible refine RI.alloc ?_ (by first | omega | (simp; done) | (simp; omega)) _) | (with_reducible refine RI.setCell ?_ (by first | omega | (simp; done) | (simp; omega)) _) | (with_reducible refine RI.below ?_ (by assumption) (by first | omega | (simp; done) | (simp; omega)))))) (by simp) hn).mono ?_; rw [HM.out]; rintro e w1 ⟨rfl, hb⟩; have hz := hb.size; (try simp at hz); have kk := bkeep (w := w) hb (by first | omega | (simp; done) | (simp; omega)); obtain ⟨kc, kf⟩ := kk; (try (have kk := bkeepb (w.heap.size) hb (by first | omega | (simp; done) | (simp; omega)); obtain ⟨kc0, kf0, kl0⟩ := kk)); (try (have kk := bkeepb (w.heap.size + 1) hb (by first | omega | (simp; done) | (simp; omega)); obtain ⟨kc1, kf1, kl1⟩ := kk)); (try (have kk := bkeepb (w.heap.size + 1 + 1) hb (by first | omega | (simp; done) | (simp; omega)); obtain ⟨kc2, kf2, kl2⟩ := kk)); (try (have kk := bkeepb (w.heap.size + 1 + 1 + 1) hb (by first | omega | (simp; done) | (simp; omega)); obtain ⟨kc3, kf3, kl3⟩ := kk)); (try (have kk := bkeepb (wr.heap.size) hb (by first | omega | (simp; done) | (simp; omega)); obtain ⟨kr0, ks0, kt0⟩ := kk)); (try (have kk := bkeepb (wr.heap.size + 1) hb (by first | omega | (simp; done) | (simp; omega)); obtain ⟨kr1, ks1, kt1⟩ := kk)); (try (have kk := bkeepb (wr.heap.size + 1 + 1) hb (by first | omega | (simp; done) | (simp; omega)); obtain ⟨kr2, ks2, kt2⟩ := kk)))
    go_ret2
    exact BV.mk rfl (by (repeat (first | (with_reducible exact Below.refl _ _) | (with_reducible assumption) | (with_reducible refine below_drewN ?_ _) | (with_reducible refine Below.drew ?_) | (with_reducible refine Below.alloc ?_ ?_ _) | (with_reducible refine Below.setCell ?_ ?_ _) | (with_reducible refine below_into ?_ (by assumption) (by first | omega | (simp; done) | (simp; omega))) | go_size)))
  · rw [if_pos rfl]
    have S := isSq_iff.1 hm
    have HM := Lib.hid hm
    obtain ⟨R, rfl⟩ := nat_of S.m.r0
    obtain rfl := S.e
    have hR : R ≤ 6 := by have := S.le; omega
    have hl1 : (n : Int) ≤ (R : Int) * (R : Int) ∧ (R : Int) * (R : Int) ≤ n := by have := S.m.len; omega
    have hrb := Lib.hid (fun i => S.m.row_bd R i)
    clear hm hlen S
    simp only [Int.toNat_natCast]
    have HE := Lib.hid (bndI_bS (rowSums xs R R) 1 (by omega))
    go_enter Try.func115, Try.ntmps115
    go_wp2_with (go_at_call 168; refine (spec_IsSquare R R A n cap xs _ (B := w.heap.size) (by (repeat (first | (with_reducible exact H2.out) | (with_reducible refine RI.drew ?_) | (with_reducible refine RI.drewN ?_ _) | (with_reducible refine RI.alloc ?_ (by first | omega | (simp; done) | (simp; omega)) _) | (with_reducible refine RI.setCell ?_ (by first | omega | (simp; done) | (simp; omega)) _) | (with_reducible refine RI.below ?_ (by assumption) (by first | omega | (simp; done) | (simp; omega)))))) (by simp) hn).mono ?_; rw [HM.out]; rintro e w1 ⟨rfl, hb⟩; have hz := hb.size; (try simp at hz); have kk := bkeep (w := w) hb (by first | omega | (simp; done) | (simp; omega)); obtain ⟨kc, kf⟩ := kk; (try (have kk := bkeepb (w.heap.size) hb (by first | omega | (simp; done) | (simp; omega)); obtain ⟨kc0, kf0, kl0⟩ := kk)); (try (have kk := bkeepb (w.heap.size + 1) hb (by first | omega | (simp; done) | (simp; omega)); obtain ⟨kc1, kf1, kl1⟩ := kk)); (try (have kk := bkeepb (w.heap.size + 1 + 1) hb (by first | omega | (simp; done) | (simp; omega)); obtain ⟨kc2, kf2, kl2⟩ := kk)); (try (have kk := bkeepb (w.heap.size + 1 + 1 + 1) hb (by first | omega | (simp; done) | (simp; omega)); obtain ⟨kc3, kf3, kl3⟩ := kk)); (try (have kk := bkeepb (wr.heap.size) hb (by first | omega | (simp; done) | (simp; omega)); obtain ⟨kr0, ks0, kt0⟩ := kk)); (try (have kk := bkeepb (wr.heap.size + 1) hb (by first | omega | (simp; done) | (simp; omega)); obtain ⟨kr1, ks1, kt1⟩ := kk)); (try (have kk := bkeepb (wr.heap.size + 1 + 1) hb (by first | omega | (simp; done) | (simp; omega)); obtain ⟨kr2, ks2, kt2⟩ := kk)))
    have hB1 : Blk w1 w.heap.size 28 #[Value.int .i64 R, Value.int .i64 R, Value.slice A n cap] := (Blk.new _ _ _).below hb (by simp)
    have hbw0 : Below w.heap.size w w1 := by (repeat (first | (with_reducible exact Below.refl _ _) | (with_reducible assumption) | (with_reducible refine below_drewN ?_ _) | (with_reducible refine Below.drew ?_) | (with_reducible refine Below.alloc ?_ ?_ _) | (with_reducible refine Below.setCell ?_ ?_ _) | (with_reducible refine below_into ?_ (by assumption) (by first | omega | (simp; done) | (simp; omega))) | go_size))
    have H3 : Hid (RI w1 w.heap.size A n xs) := Lib.hid (by (repeat (first | (with_reducible exact H2.out) | (with_reducible refine RI.drew ?_) | (with_reducible refine RI.drewN ?_ _) | (with_reducible refine RI.alloc ?_ (by first | omega | (simp; done) | (simp; omega)) _) | (with_reducible refine RI.setCell ?_ (by first | omega | (simp; done) | (simp; omega)) _) | (with_reducible refine RI.below ?_ (by assumption) (by first | omega | (simp; done) | (simp; omega))))))
    have hc0 := hB1.cell 0
    have hc1 := hB1.cell 1
    have hc2 := hB1.cell 2
    simp at hc0 hc1 hc2
    clear hb kc kf kc0 kf0 kl0 hB1
    go_loop [4, 5] (fun u v => ∃ (i : Nat) (p : Int), v = .int .i64 i ∧ u = .int .i64 p ∧ NB p ∧ i ≤ R ∧ bS p ((rowSums xs R R).drop i) = bS 1 (rowSums xs R R)) (fun _ v => R - (intOf v).toNat)
    case atStart => exact ⟨0, 1, rfl, rfl, .inr (by omega), Nat.zero_le _, rfl⟩
    case round =>
      obtain ⟨i, p, rfl, rfl, hp, hi, hs0⟩ := hrel
      have HP := Lib.hid hp
      clear hp
      by_cases hiR : i < R
      · rw [rowSums_drop hiR, bS] at hs0
        have HS := Lib.hid hs0
        clear hs0
        have hlb := Lib.hid (hrb.out i)
        have hge := Lib.hid (fun j (hj : j < R) => rowL_getD (xs := xs) (C := R) (i := i) (j := j) hj)
        generalize rowL xs R i = l at HS hlb hge
        have hbd := Lib.hid (absSum_bd hlb.out)
        go_wp2
        go_loop [6, 7] (fun u v => ∃ j : Nat, v = .int .i64 j ∧ u = .int .i64 (fit (absSum l j)) ∧ j ≤ R) (fun _ v => R - (intOf v).toNat)
        case atStart => exact ⟨0, rfl, rfl, Nat.zero_le _⟩
        case round =>
          obtain ⟨j, rfl, rfl, hj⟩ := hrel
          obtain ⟨t1, t2⟩ := hbd.out j
          by_cases hjR : j < R
          · obtain ⟨x1, x2, x3, x4⟩ := idx_bd (r := R) (c := R) (i := i) (j := j) (by omega) (by omega) (by omega) (by omega) (by omega) (by omega)
            obtain ⟨b, o, rfl, hbb, hcells⟩ := H3.out.2 (by omega)
            have hcast : (((i * R + j : Nat) : Nat) : Int) = (i : Int) * R + j := by rw [Int.natCast_add, Int.natCast_mul]
            have c1 := hcells (i * R + j) (by omega)
            obtain ⟨e1, e2⟩ := hlb.out j
            have hgj := hge.out j hjR
            unfold cel at hgj
            rw [← hcast, Int.toNat_natCast] at hgj
            rw [← hgj] at c1
            clear hcells hgj hcast
            have hsx := Lib.hid (show absSum l (j + 1) = absSum l j + (l.getD j 0).natAbs from rfl)
            generalize l.getD j 0 = x at c1 e1 e2 hsx
            have haf := addB_fit (S := absSum l j) (x := x.natAbs) t1 (by omega) (by omega)
            have HA := Lib.hid haf
            clear haf
            go_wp2_with (first | (first | (go_at_call 182; refine (spec_l1Abs _ _ (by omega) (by omega)).mono ?_; rintro e w' ⟨rfl, rfl⟩)) | (go_at_call 186; refine (spec_l1Add _ _ _ (NB.fit _) (.inr (by omega))).mono ?_; rw [HA.out]; rintro e w' ⟨rfl, rfl⟩))
            go_round
            case rel => exact ⟨j + 1, by go_num, by rw [hsx.out], by omega⟩
            case measure => simp only [intOf]; omega
          · obtain rfl : R = j := by omega
            go_wp2_with (go_at_call 93; refine (spec_l1Mul _ _ _ HP.out (NB.fit _)).mono ?_; rintro e w' ⟨rfl, rfl⟩)
            go_round
            case rel => exact ⟨i + 1, mulF p (fit (absSum l R)), by go_num, rfl, NB.mulF _ _, by omega, HS.out⟩
            case measure => simp only [intOf]; omega
      · obtain rfl : R = i := by omega
        rw [rowSums_end, bS] at hs0
        by_cases hpb : p = bad
        · have hb1 : (p == -4611686018427387904) = true := by rw [beq_bad]; simpa using hpb
          have hf := Lib.hid (show bndI 1 (rowSums xs R R) = none by rw [HE.out, ← hs0, if_pos hpb])
          clear hs0 hpb
          go_wp2
          go_ret2
          exact BV.mk (by rw [hf.out]; rfl) (by (repeat (first | (with_reducible exact Below.refl _ _) | (with_reducible assumption) | (with_reducible refine below_drewN ?_ _) | (with_reducible refine Below.drew ?_) | (with_reducible refine Below.alloc ?_ ?_ _) | (with_reducible refine Below.setCell ?_ ?_ _) | (with_reducible refine below_into ?_ (by assumption) (by first | omega | (simp; done) | (simp; omega))) | go_size)))
        · have hb1 : (p == -4611686018427387904) = false := by rw [beq_bad]; simpa using hpb
          have hf := Lib.hid (show bndI 1 (rowSums xs R R) = some p by rw [HE.out, ← hs0, if_neg hpb])
          clear hs0 hpb
          go_wp2
          go_ret2
          exact BV.mk (by rw [hf.out]; rfl) (by (repeat (first | (with_reducible exact Below.refl _ _) | (with_reducible assumption) | (with_reducible refine below_drewN ?_ _) | (with_reducible refine Below.drew ?_) | (with_reducible refine Below.alloc ?_ ?_ _) | (with_reducible refine Below.setCell ?_ ?_ _) | (with_reducible refine below_into ?_ (by assumption) (by first | omega | (simp; done) | (simp; omega))) | go_size)))
end Go.Proofs.Ytmcbhpaajjlmmaa

/-
  DERIVED. IsSmith of the reference.
-/
import Derived.Test.YtdnooamnjkibgaaSmithB
namespace Go.Proofs.Ytdnooamnjkibgaa
open Go.RowKit
set_option linter.unusedVariables false
/-- The number before the diagonal's number i. -/
def lastOf (xs : List Int) (c i : Int) : Int := if i = 0 then 1 else cel xs c (i - 1) (i - 1)
theorem lastOf_zero (xs : List Int) (c : Int) : lastOf xs c 0 = 1 := by simp [lastOf]
theorem lastOf_succ (xs : List Int) (c : Int) (i : Nat) : lastOf xs c ((i : Int) + 1) = cel xs c i i := by
  unfold lastOf; rw [if_neg (by omega)]; simp
/-- Off the diagonal. -/
theorem smC_off {xs : List Int} {c i j : Int} (h : i ≠ j) : smC xs c i j = (decide (cel xs c i j = 0)) := by
  rw [Bool.eq_iff_iff]
  simp only [smC, Bool.and_eq_true, decide_eq_true_eq]
  constructor
  · rintro ⟨⟨h1, _⟩, _⟩; exact h1 h
  · intro h1; exact ⟨⟨fun _ => h1, by omega⟩, fun h2 => absurd h2 h⟩
theorem smC_on {xs : List Int} {c : Int} {i : Nat} : smC xs c i i = (decide (0 ≤ cel xs c i i) && decide (lastOf xs c i ∣ cel xs c i i)) := by
  rw [Bool.eq_iff_iff]
  simp only [smC, Bool.and_eq_true, decide_eq_true_eq]
  unfold lastOf
  constructor
  · rintro ⟨⟨_, h1⟩, h2⟩
    refine ⟨h1, ?_⟩
    split
    · exact ⟨_, (Int.one_mul _).symm⟩
    · exact h2 trivial (by omega)
  · rintro ⟨h1, h2⟩
    refine ⟨⟨fun h => absurd rfl h, h1⟩, fun _ h3 => ?_⟩
    rw [if_neg (by omega)] at h2
    exact h2
theorem lastOf_bd {xs : List Int} {r c : Int} (h : IsM r c xs) (i : Int) : -400000000 ≤ lastOf xs c i ∧ lastOf xs c i ≤ 400000000 := by
  unfold lastOf
  split
  · omega
  · exact h.cel_bd _ _
set_option maxHeartbeats 4000000 in
theorem spec_IsSmith (r c : Int) (A : Option Addr) (n cap : Nat) (xs : List Int) (w : World) {B : Nat} (h : RI w B A n xs) (hB : B ≤ w.heap.size) (hn : n ≤ 1048576) :
    Calls Try.prog 34 #[.agg #[.int .i64 r, .int .i64 c, .slice A n cap]] w (BV (.bool (isSmithV r c xs)) w) := by
  have hlen := h.len
  have H := Lib.hid h
  have H2 := Lib.hid (h.more hB)
  clear h
  unfold isSmithV
  rcases hm : isMat r c xs with _ | _
  · rw [Bool.false_and]
    have HM := Lib.hid hm
    clear hm
    by_cases hr0 : 0 < r
    · go_enter Try.func34, Try.ntmps34
      go_wp2_with fail
      refine wp_loop_rounds 1 ?_
      rw [rounds_succ]
      go_wp2_with (first | (go_at_call 62; refine (spec_IsMatrix r c A n cap xs _ (C := w.heap.size) (by (repeat (first | (with_reducible exact H2.out) | (with_reducible refine RI.drew ?_) | (with_reducible refine RI.drewN ?_ _) | (with_reducible refine RI.alloc ?_ (by first | omega | (simp; done) | (simp; omega)) _) | (with_reducible refine RI.setCell ?_ (by first | omega | (simp; done) | (simp; omega)) _) | (with_reducible refine RI.below ?_ (by assumption) (by first | omega | (simp; done) | (simp; omega)))))) (by first | omega | (simp; done) | (simp; omega)) hn).mono ?_; rw [HM.out]; rintro e w1 ⟨rfl, hb⟩; have hz := hb.size; (try simp at hz); have kk := bkeep (w := w) hb (by first | omega | (simp; done) | (simp; omega)); obtain ⟨kc, kf⟩ := kk; (try (have kk := bkeepb (w.heap.size) hb (by first | omega | (simp; done) | (simp; omega)); obtain ⟨kc0, kf0, kl0⟩ := kk)); (try (have kk := bkeepb (w.heap.size + 1) hb (by first | omega | (simp; done) | (simp; omega)); obtain ⟨kc1, kf1, kl1⟩ := kk)); (try (have kk := bkeepb (w.heap.size + 1 + 1) hb (by first | omega | (simp; done) | (simp; omega)); obtain ⟨kc2, kf2, kl2⟩ := kk)); (try (have kk := bkeepb (w.heap.size + 1 + 1 + 1) hb (by first | omega | (simp; done) | (simp; omega)); obtain ⟨kc3, kf3, kl3⟩ := kk)); (try (have kk := bkeepb (wr.heap.size) hb (by first | omega | (simp; done) | (simp; omega)); obtain ⟨kr0, ks0, kt0⟩ := kk)); (try (have kk := bkeepb (wr.heap.size + 1) hb (by first | omega | (simp; done) | (simp; omega)); obtain ⟨kr1, ks1, kt1⟩ := kk)); (try (have kk := bkeepb (wr.heap.size + 1 + 1) hb (by first | omega | (simp; done) | (simp; omega)); obtain ⟨kr2, ks2, kt2⟩ := kk))))
      go_ret
      exact BV.mk rfl (by (repeat (first | (with_reducible exact Below.refl _ _) | (with_reducible assumption) | (with_reducible refine below_drewN ?_ _) | (with_reducible refine Below.drew ?_) | (with_reducible refine Below.alloc ?_ ?_ _) | (with_reducible refine Below.setCell ?_ ?_ _) | (with_reducible refine below_into ?_ (by assumption) ?_) | go_size)))
    · go_enter Try.func34, Try.ntmps34
      go_wp2_with fail
      refine wp_loop_rounds 1 ?_
      rw [rounds_succ]
      go_wp2_with (first | (go_at_call 62; refine (spec_IsMatrix r c A n cap xs _ (C := w.heap.size) (by (repeat (first | (with_reducible exact H2.out) | (with_reducible refine RI.drew ?_) | (with_reducible refine RI.drewN ?_ _) | (with_reducible refine RI.alloc ?_ (by first | omega | (simp; done) | (simp; omega)) _) | (with_reducible refine RI.setCell ?_ (by first | omega | (simp; done) | (simp; omega)) _) | (with_reducible refine RI.below ?_ (by assumption) (by first | omega | (simp; done) | (simp; omega)))))) (by first | omega | (simp; done) | (simp; omega)) hn).mono ?_; rw [HM.out]; rintro e w1 ⟨rfl, hb⟩; have hz := hb.size; (try simp at hz); have kk := bkeep (w := w) hb (by first | omega | (simp; done) | (simp; omega)); obtain ⟨kc, kf⟩ := kk; (try (have kk := bkeepb (w.heap.size) hb (by first | omega | (simp; done) | (simp; omega)); obtain ⟨kc0, kf0, kl0⟩ := kk)); (try (have kk := bkeepb (w.heap.size + 1) hb (by first | omega | (simp; done) | (simp; omega)); obtain ⟨kc1, kf1, kl1⟩ := kk)); (try (have kk := bkeepb (w.heap.size + 1 + 1) hb (by first | omega | (simp; done) | (simp; omega)); obtain ⟨kc2, kf2, kl2⟩ := kk)); (try (have kk := bkeepb (w.heap.size + 1 + 1 + 1) hb (by first | omega | (simp; done) | (simp; omega)); obtain ⟨kc3, kf3, kl3⟩ := kk)); (try (have kk := bkeepb (wr.heap.size) hb (by first | omega | (simp; done) | (simp; omega)); obtain ⟨kr0, ks0, kt0⟩ := kk)); (try (have kk := bkeepb (wr.heap.size + 1) hb (by first | omega | (simp; done) | (simp; omega)); obtain ⟨kr1, ks1, kt1⟩ := kk)); (try (have kk := bkeepb (wr.heap.size + 1 + 1) hb (by first | omega | (simp; done) | (simp; omega)); obtain ⟨kr2, ks2, kt2⟩ := kk))))
      go_ret
      exact BV.mk rfl (by (repeat (first | (with_reducible exact Below.refl _ _) | (with_reducible assumption) | (with_reducible refine below_drewN ?_ _) | (with_reducible refine Below.drew ?_) | (with_reducible refine Below.alloc ?_ ?_ _) | (with_reducible refine Below.setCell ?_ ?_ _) | (with_reducible refine below_into ?_ (by assumption) ?_) | go_size)))
  · rw [Bool.true_and]
    have M := isMat_iff.1 hm
    have HM := Lib.hid hm
    obtain ⟨R, rfl⟩ := nat_of M.r0
    obtain ⟨C, rfl⟩ := nat_of M.c0
    have hR := M.r1
    have hC := M.c1
    have hl1 : (n : Int) ≤ (R : Int) * (C : Int) ∧ (R : Int) * (C : Int) ≤ n := by have := M.len; omega
    have hcb := Lib.hid (fun i j => M.cel_bd i j)
    have hlb := Lib.hid (fun i => lastOf_bd M i)
    clear hm M hlen
    simp only [Int.toNat_natCast]
    go_enter Try.func34, Try.ntmps34
    go_wp2_with fail
    go_loopw [3, 4] (fun u v wr => ∃ (i : Nat) (l : Int), v = .int .i64 i ∧ u = .int .i64 l ∧ (i ≤ C → l = lastOf xs C i) ∧ i ≤ R ∧ (List.range i).all (fun i => smRow xs C i) = true ∧ Blk wr w.heap.size 46 #[Value.int .i64 R, Value.int .i64 C, Value.slice A n cap] ∧ Below w.heap.size w wr) (fun _ v _ => R - (intOf v).toNat)
    case atStart => exact ⟨0, 1, rfl, rfl, fun _ => (lastOf_zero _ _).symm, Nat.zero_le _, by simp, Blk.new _ _ _, by (repeat (first | (with_reducible exact Below.refl _ _) | (with_reducible assumption) | (with_reducible refine below_drewN ?_ _) | (with_reducible refine Below.drew ?_) | (with_reducible refine Below.alloc ?_ ?_ _) | (with_reducible refine Below.setCell ?_ ?_ _) | (with_reducible refine below_into ?_ (by assumption) ?_) | go_size))⟩
    case round =>
      obtain ⟨i, l, rfl, rfl, hl0, hi, hal0, hblk, hbw⟩ := hrel
      have hal := Lib.hid hal0
      have hl := Lib.hid hl0
      clear hal0 hl0
      have hc0 := hblk.cell 0
      have hc1 := hblk.cell 1
      have hc2 := hblk.cell 2
      simp at hc0 hc1 hc2
      have hlt := hblk.lt
      by_cases hiR : i < R
      · go_wp2_with (first | (go_at_call 62; refine (spec_IsMatrix R C A n cap xs _ (C := w.heap.size) (by (repeat (first | (with_reducible exact H2.out) | (with_reducible refine RI.drew ?_) | (with_reducible refine RI.drewN ?_ _) | (with_reducible refine RI.alloc ?_ (by first | omega | (simp; done) | (simp; omega)) _) | (with_reducible refine RI.setCell ?_ (by first | omega | (simp; done) | (simp; omega)) _) | (with_reducible refine RI.below ?_ (by assumption) (by first | omega | (simp; done) | (simp; omega)))))) (by first | omega | (simp; done) | (simp; omega)) hn).mono ?_; rw [HM.out]; rintro e w1 ⟨rfl, hb⟩; have hz := hb.size; (try simp at hz); have kk := bkeep (w := w) hb (by first | omega | (simp; done) | (simp; omega)); obtain ⟨kc, kf⟩ := kk; (try (have kk := bkeepb (w.heap.size) hb (by first | omega | (simp; done) | (simp; omega)); obtain ⟨kc0, kf0, kl0⟩ := kk)); (try (have kk := bkeepb (w.heap.size + 1) hb (by first | omega | (simp; done) | (simp; omega)); obtain ⟨kc1, kf1, kl1⟩ := kk)); (try (have kk := bkeepb (w.heap.size + 1 + 1) hb (by first | omega | (simp; done) | (simp; omega)); obtain ⟨kc2, kf2, kl2⟩ := kk)); (try (have kk := bkeepb (w.heap.size + 1 + 1 + 1) hb (by first | omega | (simp; done) | (simp; omega)); obtain ⟨kc3, kf3, kl3⟩ := kk)); (try (have kk := bkeepb (wr.heap.size) hb (by first | omega | (simp; done) | (simp; omega)); obtain ⟨kr0, ks0, kt0⟩ := kk)); (try (have kk := bkeepb (wr.heap.size + 1) hb (by first | omega | (simp; done) | (simp; omega)); obtain ⟨kr1, ks1, kt1⟩ := kk)); (try (have kk := bkeepb (wr.heap.size + 1 + 1) hb (by first | omega | (simp; done) | (simp; omega)); obtain ⟨kr2, ks2, kt2⟩ := kk))))
        have hblk1 : Blk w1 w.heap.size 46 #[Value.int .i64 R, Value.int .i64 C, Value.slice A n cap] := by (repeat (first | (with_reducible exact hblk) | (with_reducible refine Blk.below ?_ (by assumption) (by first | omega | (simp; done) | (simp; omega))) | (with_reducible apply Blk.drew) | (with_reducible apply Blk.drewN) | (with_reducible apply Blk.alloc) | (with_reducible apply Blk.set_) | (with_reducible apply Blk.far; rotate_left; (simp only [ne_eq]; omega); rotate_right)))
        have hbw1 : Below w.heap.size w w1 := by (repeat (first | (with_reducible exact Below.refl _ _) | (with_reducible assumption) | (with_reducible refine below_drewN ?_ _) | (with_reducible refine Below.drew ?_) | (with_reducible refine Below.alloc ?_ ?_ _) | (with_reducible refine Below.setCell ?_ ?_ _) | (with_reducible refine below_into ?_ (by assumption) ?_) | go_size))
        clear hblk hbw hc0 hc1 hc2 hlt hb hz kc kf kc0 kf0 kl0
        try clear kr0 ks0 kt0
        obtain ⟨wo, rfl⟩ : ∃ wo : World, wo = wr := ⟨_, rfl⟩
        go_loopw [3, 5] (fun u v wr => ∃ (j : Nat) (l : Int), v = .int .i64 j ∧ u = .int .i64 l ∧ (j ≤ i → i ≤ C → l = lastOf xs C i) ∧ (i < j → l = cel xs C i i) ∧ j ≤ C ∧ (List.range j).all (fun j => smC xs C i j) = true ∧ Blk wr w.heap.size 46 #[Value.int .i64 R, Value.int .i64 C, Value.slice A n cap] ∧ Below w.heap.size w wr) (fun _ v _ => C - (intOf v).toNat)
        case atStart => exact ⟨0, l, rfl, rfl, fun _ => hl.out, fun h => absurd h (by omega), Nat.zero_le _, by simp, hblk1, hbw1⟩
        case round =>
          clear hblk1 hbw1
          obtain ⟨j, l', rfl, rfl, hla, hlb', hj, hcl0, hblk, hbw⟩ := hrel
          have hcl := Lib.hid hcl0
          have HLA := Lib.hid hla
          have HLB := Lib.hid hlb'
          clear hcl0 hla hlb'
          have hc0 := hblk.cell 0
          have hc1 := hblk.cell 1
          have hc2 := hblk.cell 2
          simp at hc0 hc1 hc2
          have hlt := hblk.lt
          by_cases hjC : j < C
          · obtain ⟨x1, x2, x3, x4⟩ := idx_bd (r := R) (c := C) (i := i) (j := j) hR hC (by omega) (by omega) (by omega) (by omega)
            obtain ⟨y1, y2⟩ := hcb.out i j
            have hs := range_all_succ (fun j => smC xs C i j) j
            rw [hcl.out, Bool.true_and] at hs
            have hno := fun h => smAll_no (xs := xs) hiR hjC h
            by_cases hij : i = j
            · subst hij
              obtain rfl : l' = lastOf xs C i := HLA.out (Nat.le_refl _) (by omega)
              obtain ⟨y3, y4⟩ := hlb.out (i : Int)
              rw [smC_on] at hs hno
              have hsu := Lib.hid (lastOf_succ xs C i)
              generalize lastOf xs C i = l at *
              have b1 : ((i : Int) != (i : Int)) = false := by simp
              have b2 : ((i : Int) == (i : Int)) = true := by simp
              by_cases hneg : cel xs C i i < 0
              · have hf := Lib.hid (hno (by simp; omega))
                clear hs hno
                go_wp2_with (first | (go_at_call 63; refine (spec_l12Cell _ _ _ _ _ _ _ xs _ (C := w.heap.size) (by (repeat (first | (with_reducible exact H2.out) | (with_reducible refine RI.drew ?_) | (with_reducible refine RI.drewN ?_ _) | (with_reducible refine RI.alloc ?_ (by first | omega | (simp; done) | (simp; omega)) _) | (with_reducible refine RI.setCell ?_ (by first | omega | (simp; done) | (simp; omega)) _) | (with_reducible refine RI.below ?_ (by assumption) (by first | omega | (simp; done) | (simp; omega)))))) (by omega) ⟨by omega, by omega⟩ ⟨by omega, by omega⟩ (by omega)).mono ?_; rintro e w1 ⟨rfl, hb⟩; have hz := hb.size; (try simp at hz); have kk := bkeep (w := w) hb (by first | omega | (simp; done) | (simp; omega)); obtain ⟨kc, kf⟩ := kk; (try (have kk := bkeepb (w.heap.size) hb (by first | omega | (simp; done) | (simp; omega)); obtain ⟨kc0, kf0, kl0⟩ := kk)); (try (have kk := bkeepb (w.heap.size + 1) hb (by first | omega | (simp; done) | (simp; omega)); obtain ⟨kc1, kf1, kl1⟩ := kk)); (try (have kk := bkeepb (w.heap.size + 1 + 1) hb (by first | omega | (simp; done) | (simp; omega)); obtain ⟨kc2, kf2, kl2⟩ := kk)); (try (have kk := bkeepb (w.heap.size + 1 + 1 + 1) hb (by first | omega | (simp; done) | (simp; omega)); obtain ⟨kc3, kf3, kl3⟩ := kk)); (try (have kk := bkeepb (wr.heap.size) hb (by first | omega | (simp; done) | (simp; omega)); obtain ⟨kr0, ks0, kt0⟩ := kk)); (try (have kk := bkeepb (wr.heap.size + 1) hb (by first | omega | (simp; done) | (simp; omega)); obtain ⟨kr1, ks1, kt1⟩ := kk)); (try (have kk := bkeepb (wr.heap.size + 1 + 1) hb (by first | omega | (simp; done) | (simp; omega)); obtain ⟨kr2, ks2, kt2⟩ := kk))))
                go_ret
                exact BV.mk (vbool hf.out.symm) (by (repeat (first | (with_reducible exact Below.refl _ _) | (with_reducible assumption) | (with_reducible refine below_drewN ?_ _) | (with_reducible refine Below.drew ?_) | (with_reducible refine Below.alloc ?_ ?_ _) | (with_reducible refine Below.setCell ?_ ?_ _) | (with_reducible refine below_into ?_ (by assumption) ?_) | go_size)))
              · by_cases hl0 : l = 0
                · have b3 : (l == 0) = true := by simpa using hl0
                  have b4 : (l != 0) = false := by simpa using hl0
                  by_cases hx0 : cel xs C i i = 0
                  · have b5 : (cel xs C i i != 0) = false := by simpa using hx0
                    have hnx := Lib.hid (show (List.range (i + 1)).all (fun j => smC xs C i j) = true by rw [hs]; simp [hx0, hl0])
                    clear hs hno hl0 hx0
                    go_wp2_with (first | (go_at_call 63; refine (spec_l12Cell _ _ _ _ _ _ _ xs _ (C := w.heap.size) (by (repeat (first | (with_reducible exact H2.out) | (with_reducible refine RI.drew ?_) | (with_reducible refine RI.drewN ?_ _) | (with_reducible refine RI.alloc ?_ (by first | omega | (simp; done) | (simp; omega)) _) | (with_reducible refine RI.setCell ?_ (by first | omega | (simp; done) | (simp; omega)) _) | (with_reducible refine RI.below ?_ (by assumption) (by first | omega | (simp; done) | (simp; omega)))))) (by omega) ⟨by omega, by omega⟩ ⟨by omega, by omega⟩ (by omega)).mono ?_; rintro e w1 ⟨rfl, hb⟩; have hz := hb.size; (try simp at hz); have kk := bkeep (w := w) hb (by first | omega | (simp; done) | (simp; omega)); obtain ⟨kc, kf⟩ := kk; (try (have kk := bkeepb (w.heap.size) hb (by first | omega | (simp; done) | (simp; omega)); obtain ⟨kc0, kf0, kl0⟩ := kk)); (try (have kk := bkeepb (w.heap.size + 1) hb (by first | omega | (simp; done) | (simp; omega)); obtain ⟨kc1, kf1, kl1⟩ := kk)); (try (have kk := bkeepb (w.heap.size + 1 + 1) hb (by first | omega | (simp; done) | (simp; omega)); obtain ⟨kc2, kf2, kl2⟩ := kk)); (try (have kk := bkeepb (w.heap.size + 1 + 1 + 1) hb (by first | omega | (simp; done) | (simp; omega)); obtain ⟨kc3, kf3, kl3⟩ := kk)); (try (have kk := bkeepb (wr.heap.size) hb (by first | omega | (simp; done) | (simp; omega)); obtain ⟨kr0, ks0, kt0⟩ := kk)); (try (have kk := bkeepb (wr.heap.size + 1) hb (by first | omega | (simp; done) | (simp; omega)); obtain ⟨kr1, ks1, kt1⟩ := kk)); (try (have kk := bkeepb (wr.heap.size + 1 + 1) hb (by first | omega | (simp; done) | (simp; omega)); obtain ⟨kr2, ks2, kt2⟩ := kk))))
                    go_roundw
                    case rel => exact ⟨i + 1, cel xs C i i, by go_num, rfl, fun h => absurd h (by omega), fun _ => rfl, by omega, hnx.out, by (repeat (first | (with_reducible exact hblk) | (with_reducible refine Blk.below ?_ (by assumption) (by first | omega | (simp; done) | (simp; omega))) | (with_reducible apply Blk.drew) | (with_reducible apply Blk.drewN) | (with_reducible apply Blk.alloc) | (with_reducible apply Blk.set_) | (with_reducible apply Blk.far; rotate_left; (simp only [ne_eq]; omega); rotate_right))), by (repeat (first | (with_reducible exact Below.refl _ _) | (with_reducible assumption) | (with_reducible refine below_drewN ?_ _) | (with_reducible refine Below.drew ?_) | (with_reducible refine Below.alloc ?_ ?_ _) | (with_reducible refine Below.setCell ?_ ?_ _) | (with_reducible refine below_into ?_ (by assumption) ?_) | go_size))⟩
                    case measure => simp only [intOf]; omega
                  · have b5 : (cel xs C i i != 0) = true := by simpa using hx0
                    have hf := Lib.hid (hno (by rw [hl0]; simp; omega))
                    clear hs hno hl0 hx0
                    go_wp2_with (first | (go_at_call 63; refine (spec_l12Cell _ _ _ _ _ _ _ xs _ (C := w.heap.size) (by (repeat (first | (with_reducible exact H2.out) | (with_reducible refine RI.drew ?_) | (with_reducible refine RI.drewN ?_ _) | (with_reducible refine RI.alloc ?_ (by first | omega | (simp; done) | (simp; omega)) _) | (with_reducible refine RI.setCell ?_ (by first | omega | (simp; done) | (simp; omega)) _) | (with_reducible refine RI.below ?_ (by assumption) (by first | omega | (simp; done) | (simp; omega)))))) (by omega) ⟨by omega, by omega⟩ ⟨by omega, by omega⟩ (by omega)).mono ?_; rintro e w1 ⟨rfl, hb⟩; have hz := hb.size; (try simp at hz); have kk := bkeep (w := w) hb (by first | omega | (simp; done) | (simp; omega)); obtain ⟨kc, kf⟩ := kk; (try (have kk := bkeepb (w.heap.size) hb (by first | omega | (simp; done) | (simp; omega)); obtain ⟨kc0, kf0, kl0⟩ := kk)); (try (have kk := bkeepb (w.heap.size + 1) hb (by first | omega | (simp; done) | (simp; omega)); obtain ⟨kc1, kf1, kl1⟩ := kk)); (try (have kk := bkeepb (w.heap.size + 1 + 1) hb (by first | omega | (simp; done) | (simp; omega)); obtain ⟨kc2, kf2, kl2⟩ := kk)); (try (have kk := bkeepb (w.heap.size + 1 + 1 + 1) hb (by first | omega | (simp; done) | (simp; omega)); obtain ⟨kc3, kf3, kl3⟩ := kk)); (try (have kk := bkeepb (wr.heap.size) hb (by first | omega | (simp; done) | (simp; omega)); obtain ⟨kr0, ks0, kt0⟩ := kk)); (try (have kk := bkeepb (wr.heap.size + 1) hb (by first | omega | (simp; done) | (simp; omega)); obtain ⟨kr1, ks1, kt1⟩ := kk)); (try (have kk := bkeepb (wr.heap.size + 1 + 1) hb (by first | omega | (simp; done) | (simp; omega)); obtain ⟨kr2, ks2, kt2⟩ := kk))))
                    go_ret
                    exact BV.mk (vbool hf.out.symm) (by (repeat (first | (with_reducible exact Below.refl _ _) | (with_reducible assumption) | (with_reducible refine below_drewN ?_ _) | (with_reducible refine Below.drew ?_) | (with_reducible refine Below.alloc ?_ ?_ _) | (with_reducible refine Below.setCell ?_ ?_ _) | (with_reducible refine below_into ?_ (by assumption) ?_) | go_size)))
                · have b3 : (l == 0) = false := by simpa using hl0
                  have b4 : (l != 0) = true := by simpa using hl0
                  by_cases hdv : l ∣ cel xs C i i
                  · have b5 : (cel xs C i i % l != 0) = false := by simpa using Int.emod_eq_zero_of_dvd hdv
                    have hnx := Lib.hid (show (List.range (i + 1)).all (fun j => smC xs C i j) = true by rw [hs]; simp [hdv]; omega)
                    clear hs hno hdv
                    go_wp2_with (first | (go_at_call 63; refine (spec_l12Cell _ _ _ _ _ _ _ xs _ (C := w.heap.size) (by (repeat (first | (with_reducible exact H2.out) | (with_reducible refine RI.drew ?_) | (with_reducible refine RI.drewN ?_ _) | (with_reducible refine RI.alloc ?_ (by first | omega | (simp; done) | (simp; omega)) _) | (with_reducible refine RI.setCell ?_ (by first | omega | (simp; done) | (simp; omega)) _) | (with_reducible refine RI.below ?_ (by assumption) (by first | omega | (simp; done) | (simp; omega)))))) (by omega) ⟨by omega, by omega⟩ ⟨by omega, by omega⟩ (by omega)).mono ?_; rintro e w1 ⟨rfl, hb⟩; have hz := hb.size; (try simp at hz); have kk := bkeep (w := w) hb (by first | omega | (simp; done) | (simp; omega)); obtain ⟨kc, kf⟩ := kk; (try (have kk := bkeepb (w.heap.size) hb (by first | omega | (simp; done) | (simp; omega)); obtain ⟨kc0, kf0, kl0⟩ := kk)); (try (have kk := bkeepb (w.heap.size + 1) hb (by first | omega | (simp; done) | (simp; omega)); obtain ⟨kc1, kf1, kl1⟩ := kk)); (try (have kk := bkeepb (w.heap.size + 1 + 1) hb (by first | omega | (simp; done) | (simp; omega)); obtain ⟨kc2, kf2, kl2⟩ := kk)); (try (have kk := bkeepb (w.heap.size + 1 + 1 + 1) hb (by first | omega | (simp; done) | (simp; omega)); obtain ⟨kc3, kf3, kl3⟩ := kk)); (try (have kk := bkeepb (wr.heap.size) hb (by first | omega | (simp; done) | (simp; omega)); obtain ⟨kr0, ks0, kt0⟩ := kk)); (try (have kk := bkeepb (wr.heap.size + 1) hb (by first | omega | (simp; done) | (simp; omega)); obtain ⟨kr1, ks1, kt1⟩ := kk)); (try (have kk := bkeepb (wr.heap.size + 1 + 1) hb (by first | omega | (simp; done) | (simp; omega)); obtain ⟨kr2, ks2, kt2⟩ := kk))))
                    go_roundw
                    case rel => exact ⟨i + 1, cel xs C i i, by go_num, rfl, fun h => absurd h (by omega), fun _ => rfl, by omega, hnx.out, by (repeat (first | (with_reducible exact hblk) | (with_reducible refine Blk.below ?_ (by assumption) (by first | omega | (simp; done) | (simp; omega))) | (with_reducible apply Blk.drew) | (with_reducible apply Blk.drewN) | (with_reducible apply Blk.alloc) | (with_reducible apply Blk.set_) | (with_reducible apply Blk.far; rotate_left; (simp only [ne_eq]; omega); rotate_right))), by (repeat (first | (with_reducible exact Below.refl _ _) | (with_reducible assumption) | (with_reducible refine below_drewN ?_ _) | (with_reducible refine Below.drew ?_) | (with_reducible refine Below.alloc ?_ ?_ _) | (with_reducible refine Below.setCell ?_ ?_ _) | (with_reducible refine below_into ?_ (by assumption) ?_) | go_size))⟩
                    case measure => simp only [intOf]; omega
                  · have b5 : (cel xs C i i % l != 0) = true := by
                      rw [bne_iff_ne]
                      exact fun h => hdv (Int.dvd_of_emod_eq_zero h)
                    have hf := Lib.hid (hno (by simp [hdv]))
                    clear hs hno hdv
                    go_wp2_with (first | (go_at_call 63; refine (spec_l12Cell _ _ _ _ _ _ _ xs _ (C := w.heap.size) (by (repeat (first | (with_reducible exact H2.out) | (with_reducible refine RI.drew ?_) | (with_reducible refine RI.drewN ?_ _) | (with_reducible refine RI.alloc ?_ (by first | omega | (simp; done) | (simp; omega)) _) | (with_reducible refine RI.setCell ?_ (by first | omega | (simp; done) | (simp; omega)) _) | (with_reducible refine RI.below ?_ (by assumption) (by first | omega | (simp; done) | (simp; omega)))))) (by omega) ⟨by omega, by omega⟩ ⟨by omega, by omega⟩ (by omega)).mono ?_; rintro e w1 ⟨rfl, hb⟩; have hz := hb.size; (try simp at hz); have kk := bkeep (w := w) hb (by first | omega | (simp; done) | (simp; omega)); obtain ⟨kc, kf⟩ := kk; (try (have kk := bkeepb (w.heap.size) hb (by first | omega | (simp; done) | (simp; omega)); obtain ⟨kc0, kf0, kl0⟩ := kk)); (try (have kk := bkeepb (w.heap.size + 1) hb (by first | omega | (simp; done) | (simp; omega)); obtain ⟨kc1, kf1, kl1⟩ := kk)); (try (have kk := bkeepb (w.heap.size + 1 + 1) hb (by first | omega | (simp; done) | (simp; omega)); obtain ⟨kc2, kf2, kl2⟩ := kk)); (try (have kk := bkeepb (w.heap.size + 1 + 1 + 1) hb (by first | omega | (simp; done) | (simp; omega)); obtain ⟨kc3, kf3, kl3⟩ := kk)); (try (have kk := bkeepb (wr.heap.size) hb (by first | omega | (simp; done) | (simp; omega)); obtain ⟨kr0, ks0, kt0⟩ := kk)); (try (have kk := bkeepb (wr.heap.size + 1) hb (by first | omega | (simp; done) | (simp; omega)); obtain ⟨kr1, ks1, kt1⟩ := kk)); (try (have kk := bkeepb (wr.heap.size + 1 + 1) hb (by first | omega | (simp; done) | (simp; omega)); obtain ⟨kr2, ks2, kt2⟩ := kk))))
                    go_ret
                    exact BV.mk (vbool hf.out.symm) (by (repeat (first | (with_reducible exact Below.refl _ _) | (with_reducible assumption) | (with_reducible refine below_drewN ?_ _) | (with_reducible refine Below.drew ?_) | (with_reducible refine Below.alloc ?_ ?_ _) | (with_reducible refine Below.setCell ?_ ?_ _) | (with_reducible refine below_into ?_ (by assumption) ?_) | go_size)))
            · have hij' : (i : Int) ≠ (j : Int) := by omega
              rw [smC_off hij'] at hs hno
              have b1 : ((i : Int) != (j : Int)) = true := by simp; omega
              have b2 : ((i : Int) == (j : Int)) = false := by simp; omega
              by_cases hx0 : cel xs C i j = 0
              · have b3 : (cel xs C i j != 0) = false := by simpa using hx0
                have b4 : 0 ≤ cel xs C i j := by omega
                have hnx := Lib.hid (show (List.range (j + 1)).all (fun j => smC xs C i j) = true by rw [hs]; simp [hx0])
                clear hs hno hx0 hij'
                go_wp2_with (first | (go_at_call 63; refine (spec_l12Cell _ _ _ _ _ _ _ xs _ (C := w.heap.size) (by (repeat (first | (with_reducible exact H2.out) | (with_reducible refine RI.drew ?_) | (with_reducible refine RI.drewN ?_ _) | (with_reducible refine RI.alloc ?_ (by first | omega | (simp; done) | (simp; omega)) _) | (with_reducible refine RI.setCell ?_ (by first | omega | (simp; done) | (simp; omega)) _) | (with_reducible refine RI.below ?_ (by assumption) (by first | omega | (simp; done) | (simp; omega)))))) (by omega) ⟨by omega, by omega⟩ ⟨by omega, by omega⟩ (by omega)).mono ?_; rintro e w1 ⟨rfl, hb⟩; have hz := hb.size; (try simp at hz); have kk := bkeep (w := w) hb (by first | omega | (simp; done) | (simp; omega)); obtain ⟨kc, kf⟩ := kk; (try (have kk := bkeepb (w.heap.size) hb (by first | omega | (simp; done) | (simp; omega)); obtain ⟨kc0, kf0, kl0⟩ := kk)); (try (have kk := bkeepb (w.heap.size + 1) hb (by first | omega | (simp; done) | (simp; omega)); obtain ⟨kc1, kf1, kl1⟩ := kk)); (try (have kk := bkeepb (w.heap.size + 1 + 1) hb (by first | omega | (simp; done) | (simp; omega)); obtain ⟨kc2, kf2, kl2⟩ := kk)); (try (have kk := bkeepb (w.heap.size + 1 + 1 + 1) hb (by first | omega | (simp; done) | (simp; omega)); obtain ⟨kc3, kf3, kl3⟩ := kk)); (try (have kk := bkeepb (wr.heap.size) hb (by first | omega | (simp; done) | (simp; omega)); obtain ⟨kr0, ks0, kt0⟩ := kk)); (try (have kk := bkeepb (wr.heap.size + 1) hb (by first | omega | (simp; done) | (simp; omega)); obtain ⟨kr1, ks1, kt1⟩ := kk)); (try (have kk := bkeepb (wr.heap.size + 1 + 1) hb (by first | omega | (simp; done) | (simp; omega)); obtain ⟨kr2, ks2, kt2⟩ := kk))))
                go_roundw
                case rel => exact ⟨j + 1, l', by go_num, rfl, fun h => HLA.out (by omega), fun h => HLB.out (by omega), by omega, hnx.out, by (repeat (first | (with_reducible exact hblk) | (with_reducible refine Blk.below ?_ (by assumption) (by first | omega | (simp; done) | (simp; omega))) | (with_reducible apply Blk.drew) | (with_reducible apply Blk.drewN) | (with_reducible apply Blk.alloc) | (with_reducible apply Blk.set_) | (with_reducible apply Blk.far; rotate_left; (simp only [ne_eq]; omega); rotate_right))), by (repeat (first | (with_reducible exact Below.refl _ _) | (with_reducible assumption) | (with_reducible refine below_drewN ?_ _) | (with_reducible refine Below.drew ?_) | (with_reducible refine Below.alloc ?_ ?_ _) | (with_reducible refine Below.setCell ?_ ?_ _) | (with_reducible refine below_into ?_ (by assumption) ?_) | go_size))⟩
                case measure => simp only [intOf]; omega
              · have b3 : (cel xs C i j != 0) = true := by simpa using hx0
                have hf := Lib.hid (hno (by simp [hx0]))
                clear hs hno hx0 hij'
                go_wp2_with (first | (go_at_call 63; refine (spec_l12Cell _ _ _ _ _ _ _ xs _ (C := w.heap.size) (by (repeat (first | (with_reducible exact H2.out) | (with_reducible refine RI.drew ?_) | (with_reducible refine RI.drewN ?_ _) | (with_reducible refine RI.alloc ?_ (by first | omega | (simp; done) | (simp; omega)) _) | (with_reducible refine RI.setCell ?_ (by first | omega | (simp; done) | (simp; omega)) _) | (with_reducible refine RI.below ?_ (by assumption) (by first | omega | (simp; done) | (simp; omega)))))) (by omega) ⟨by omega, by omega⟩ ⟨by omega, by omega⟩ (by omega)).mono ?_; rintro e w1 ⟨rfl, hb⟩; have hz := hb.size; (try simp at hz); have kk := bkeep (w := w) hb (by first | omega | (simp; done) | (simp; omega)); obtain ⟨kc, kf⟩ := kk; (try (have kk := bkeepb (w.heap.size) hb (by first | omega | (simp; done) | (simp; omega)); obtain ⟨kc0, kf0, kl0⟩ := kk)); (try (have kk := bkeepb (w.heap.size + 1) hb (by first | omega | (simp; done) | (simp; omega)); obtain ⟨kc1, kf1, kl1⟩ := kk)); (try (have kk := bkeepb (w.heap.size + 1 + 1) hb (by first | omega | (simp; done) | (simp; omega)); obtain ⟨kc2, kf2, kl2⟩ := kk)); (try (have kk := bkeepb (w.heap.size + 1 + 1 + 1) hb (by first | omega | (simp; done) | (simp; omega)); obtain ⟨kc3, kf3, kl3⟩ := kk)); (try (have kk := bkeepb (wr.heap.size) hb (by first | omega | (simp; done) | (simp; omega)); obtain ⟨kr0, ks0, kt0⟩ := kk)); (try (have kk := bkeepb (wr.heap.size + 1) hb (by first | omega | (simp; done) | (simp; omega)); obtain ⟨kr1, ks1, kt1⟩ := kk)); (try (have kk := bkeepb (wr.heap.size + 1 + 1) hb (by first | omega | (simp; done) | (simp; omega)); obtain ⟨kr2, ks2, kt2⟩ := kk))))
                go_ret
                exact BV.mk (vbool hf.out.symm) (by (repeat (first | (with_reducible exact Below.refl _ _) | (with_reducible assumption) | (with_reducible refine below_drewN ?_ _) | (with_reducible refine Below.drew ?_) | (with_reducible refine Below.alloc ?_ ?_ _) | (with_reducible refine Below.setCell ?_ ?_ _) | (with_reducible refine below_into ?_ (by assumption) ?_) | go_size)))
          · obtain rfl : j = C := by omega
            have hnx := Lib.hid (show (List.range (i + 1)).all (fun i => smRow xs j i) = true by
              rw [range_all_succ, hal.out, Bool.true_and]; exact hcl.out)
            go_wp2
            go_roundw
            case rel => exact ⟨i + 1, l', by go_num, rfl, fun h => by rw [HLB.out (by omega)]; exact (lastOf_succ xs j i).symm, by omega, hnx.out, hblk, hbw⟩
            case measure => simp only [intOf]; omega
      · obtain rfl : R = i := by omega
        have hres := Lib.hid (show smAll xs R C = true from hal.out)
        go_wp2_with (first | (go_at_call 62; refine (spec_IsMatrix R C A n cap xs _ (C := w.heap.size) (by (repeat (first | (with_reducible exact H2.out) | (with_reducible refine RI.drew ?_) | (with_reducible refine RI.drewN ?_ _) | (with_reducible refine RI.alloc ?_ (by first | omega | (simp; done) | (simp; omega)) _) | (with_reducible refine RI.setCell ?_ (by first | omega | (simp; done) | (simp; omega)) _) | (with_reducible refine RI.below ?_ (by assumption) (by first | omega | (simp; done) | (simp; omega)))))) (by first | omega | (simp; done) | (simp; omega)) hn).mono ?_; rw [HM.out]; rintro e w1 ⟨rfl, hb⟩; have hz := hb.size; (try simp at hz); have kk := bkeep (w := w) hb (by first | omega | (simp; done) | (simp; omega)); obtain ⟨kc, kf⟩ := kk; (try (have kk := bkeepb (w.heap.size) hb (by first | omega | (simp; done) | (simp; omega)); obtain ⟨kc0, kf0, kl0⟩ := kk)); (try (have kk := bkeepb (w.heap.size + 1) hb (by first | omega | (simp; done) | (simp; omega)); obtain ⟨kc1, kf1, kl1⟩ := kk)); (try (have kk := bkeepb (w.heap.size + 1 + 1) hb (by first | omega | (simp; done) | (simp; omega)); obtain ⟨kc2, kf2, kl2⟩ := kk)); (try (have kk := bkeepb (w.heap.size + 1 + 1 + 1) hb (by first | omega | (simp; done) | (simp; omega)); obtain ⟨kc3, kf3, kl3⟩ := kk)); (try (have kk := bkeepb (wr.heap.size) hb (by first | omega | (simp; done) | (simp; omega)); obtain ⟨kr0, ks0, kt0⟩ := kk)); (try (have kk := bkeepb (wr.heap.size + 1) hb (by first | omega | (simp; done) | (simp; omega)); obtain ⟨kr1, ks1, kt1⟩ := kk)); (try (have kk := bkeepb (wr.heap.size + 1 + 1) hb (by first | omega | (simp; done) | (simp; omega)); obtain ⟨kr2, ks2, kt2⟩ := kk))))
        go_ret
        exact BV.mk (vbool hres.out.symm) (by (repeat (first | (with_reducible exact Below.refl _ _) | (with_reducible assumption) | (with_reducible refine below_drewN ?_ _) | (with_reducible refine Below.drew ?_) | (with_reducible refine Below.alloc ?_ ?_ _) | (with_reducible refine Below.setCell ?_ ?_ _) | (with_reducible refine below_into ?_ (by assumption) ?_) | go_size)))
end Go.Proofs.Ytdnooamnjkibgaa

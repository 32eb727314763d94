/-
  DERIVED. IsSmith, both.
-/
import Derived.Test.YtdnooamnjkibgaaMx2
namespace Go.Proofs.Ytdnooamnjkibgaa
open Go.RowKit
set_option linter.unusedVariables false
theorem range_all_succ (p : Nat → Bool) (k : Nat) : (List.range (k + 1)).all p = ((List.range k).all p && p k) := by
  rw [List.range_succ, List.all_append]; simp
theorem range_all_false {p : Nat → Bool} {k j : Nat} (hj : j < k) (hp : p j = false) : (List.range k).all p = false := by
  rw [List.all_eq_false]
  exact ⟨j, by simpa using hj, by simp [hp]⟩
/-- What a Smith form asks of cell (i, j). -/
def smC (xs : List Int) (c i j : Int) : Bool := decide (i ≠ j → cel xs c i j = 0) && decide (0 ≤ cel xs c i j) && decide (i = j → 0 < i → cel xs c (i - 1) (i - 1) ∣ cel xs c i j)
def smRow (xs : List Int) (C i : Nat) : Bool := (List.range C).all fun j => smC xs C i j
def smAll (xs : List Int) (R C : Nat) : Bool := (List.range R).all fun i => smRow xs C i
def isSmithV (r c : Int) (xs : List Int) : Bool := isMat r c xs && smAll xs r.toNat c.toNat
theorem smAll_no {xs : List Int} {R C i j : Nat} (hi : i < R) (hj : j < C) (h : smC xs C i j = false) : smAll xs R C = false :=
  range_all_false (p := fun i => smRow xs C i) hi (range_all_false (p := fun j => smC xs C i j) hj h)
theorem nat_of {r : Int} (h : 0 ≤ r) : ∃ R : Nat, r = R := ⟨r.toNat, by omega⟩

set_option maxHeartbeats 2000000 in
theorem impl_IsSmith (r c : Int) (A : Option Addr) (n cap : Nat) (xs : List Int) (w : World) {B : Nat} (h : RI w B A n xs) (hB : B ≤ w.heap.size) (hn : n ≤ 1048576) :
    Calls Try.prog 36 #[.agg #[.int .i64 r, .int .i64 c, .slice A n cap]] w (BV (.bool (isSmithV r c xs)) w) := by
  have hlen := h.len
  have H := Lib.hid h
  clear h
  unfold isSmithV
  rcases hm : isMat r c xs with _ | _
  · rw [Bool.false_and]
    have HM := Lib.hid hm
    clear hm
    go_enter Try.func36, Try.ntmps36
    go_wp2_with (go_at_call 64; refine (impl_IsMatrix r c A n cap xs _ (H.out.alloc hB _) (by simp; omega) hn).mono ?_; rw [HM.out]; rintro e w1 ⟨rfl, hb⟩; have hz := hb.size; (try simp at hz); have kk := bkeep (w := w) hb (by first | omega | (simp; done) | (simp; omega)); obtain ⟨kc, kf⟩ := kk; (try (have kk := bkeepb (w.heap.size) hb (by first | omega | (simp; done) | (simp; omega)); obtain ⟨kc0, kf0, kl0⟩ := kk)); (try (have kk := bkeepb (w.heap.size + 1) hb (by first | omega | (simp; done) | (simp; omega)); obtain ⟨kc1, kf1, kl1⟩ := kk)); (try (have kk := bkeepb (w.heap.size + 1 + 1) hb (by first | omega | (simp; done) | (simp; omega)); obtain ⟨kc2, kf2, kl2⟩ := kk)); (try (have kk := bkeepb (w.heap.size + 1 + 1 + 1) hb (by first | omega | (simp; done) | (simp; omega)); obtain ⟨kc3, kf3, kl3⟩ := kk)); (try (have kk := bkeepb (wr.heap.size) hb (by first | omega | (simp; done) | (simp; omega)); obtain ⟨kr0, ks0, kt0⟩ := kk)); (try (have kk := bkeepb (wr.heap.size + 1) hb (by first | omega | (simp; done) | (simp; omega)); obtain ⟨kr1, ks1, kt1⟩ := kk)); (try (have kk := bkeepb (wr.heap.size + 1 + 1) hb (by first | omega | (simp; done) | (simp; omega)); obtain ⟨kr2, ks2, kt2⟩ := kk)))
    go_ret
    exact BV.mk rfl (by (repeat (first | (with_reducible exact Below.refl _ _) | (with_reducible assumption) | (with_reducible refine below_drewN ?_ _) | (with_reducible refine Below.drew ?_) | (with_reducible refine Below.alloc ?_ ?_ _) | (with_reducible refine Below.setCell ?_ ?_ _) | (with_reducible refine below_into ?_ (by assumption) ?_) | go_size)))
  · rw [Bool.true_and]
    have M := isMat_iff.1 hm
    have HM := Lib.hid hm
    obtain ⟨R, rfl⟩ := nat_of M.r0
    obtain ⟨C, rfl⟩ := nat_of M.c0
    have hR := M.r1
    have hC := M.c1
    have hl1 : (n : Int) ≤ (R : Int) * (C : Int) ∧ (R : Int) * (C : Int) ≤ n := by have := M.len; omega
    have hcb := Lib.hid (fun i j => M.cel_bd i j)
    clear hm M hlen
    simp only [Int.toNat_natCast]
    go_enter Try.func36, Try.ntmps36
    go_wp2_with (go_at_call 64; refine (impl_IsMatrix R C A n cap xs _ (H.out.alloc hB _) (by simp; omega) hn).mono ?_; rw [HM.out]; rintro e w1 ⟨rfl, hb⟩; have hz := hb.size; (try simp at hz); have kk := bkeep (w := w) hb (by first | omega | (simp; done) | (simp; omega)); obtain ⟨kc, kf⟩ := kk; (try (have kk := bkeepb (w.heap.size) hb (by first | omega | (simp; done) | (simp; omega)); obtain ⟨kc0, kf0, kl0⟩ := kk)); (try (have kk := bkeepb (w.heap.size + 1) hb (by first | omega | (simp; done) | (simp; omega)); obtain ⟨kc1, kf1, kl1⟩ := kk)); (try (have kk := bkeepb (w.heap.size + 1 + 1) hb (by first | omega | (simp; done) | (simp; omega)); obtain ⟨kc2, kf2, kl2⟩ := kk)); (try (have kk := bkeepb (w.heap.size + 1 + 1 + 1) hb (by first | omega | (simp; done) | (simp; omega)); obtain ⟨kc3, kf3, kl3⟩ := kk)); (try (have kk := bkeepb (wr.heap.size) hb (by first | omega | (simp; done) | (simp; omega)); obtain ⟨kr0, ks0, kt0⟩ := kk)); (try (have kk := bkeepb (wr.heap.size + 1) hb (by first | omega | (simp; done) | (simp; omega)); obtain ⟨kr1, ks1, kt1⟩ := kk)); (try (have kk := bkeepb (wr.heap.size + 1 + 1) hb (by first | omega | (simp; done) | (simp; omega)); obtain ⟨kr2, ks2, kt2⟩ := kk)))
    have H2 := Lib.hid (H.out.more hB)
    have hB0 : Blk (w.alloc (Obj.cells #[Value.int .i64 R, Value.int .i64 C, Value.slice A n cap] 46)) w.heap.size 46 #[Value.int .i64 R, Value.int .i64 C, Value.slice A n cap] := Blk.new _ _ _
    have hB1 := hB0.below hb (by simp)
    have hbw0 : Below w.heap.size w w1 := by (repeat (first | (with_reducible exact Below.refl _ _) | (with_reducible assumption) | (with_reducible refine below_drewN ?_ _) | (with_reducible refine Below.drew ?_) | (with_reducible refine Below.alloc ?_ ?_ _) | (with_reducible refine Below.setCell ?_ ?_ _) | (with_reducible refine below_into ?_ (by assumption) ?_) | go_size))
    clear hb hB0 kc kf kc0 kf0 kl0
    go_loopw [3] (fun v wr => ∃ i : Nat, v = .int .i64 i ∧ i ≤ R ∧ (List.range i).all (fun i => smRow xs C i) = true ∧ Blk wr w.heap.size 46 #[Value.int .i64 R, Value.int .i64 C, Value.slice A n cap] ∧ Below w.heap.size w wr) (fun v _ => R - (intOf v).toNat)
    case atStart => exact ⟨0, rfl, Nat.zero_le _, by simp, hB1, hbw0⟩
    case round =>
      obtain ⟨i, rfl, hi, hal0, hblk, hbw⟩ := hrel
      have hal := Lib.hid hal0
      clear hal0 hB1 hbw0 hz
      have hc0 := hblk.cell 0
      have hc1 := hblk.cell 1
      have hc2 := hblk.cell 2
      simp at hc0 hc1 hc2
      have hlt := hblk.lt
      by_cases hiR : i < R
      · go_wp2_with fail
        obtain ⟨wo, rfl⟩ : ∃ wo : World, wo = wr := ⟨_, rfl⟩
        go_loopw [4] (fun v wr => ∃ j : Nat, v = .int .i64 j ∧ j ≤ C ∧ (List.range j).all (fun j => smC xs C i j) = true ∧ Blk wr w.heap.size 46 #[Value.int .i64 R, Value.int .i64 C, Value.slice A n cap] ∧ Below w.heap.size w wr) (fun v _ => C - (intOf v).toNat)
        case atStart => exact ⟨0, rfl, Nat.zero_le _, by simp, hblk, hbw⟩
        case round =>
          clear hblk hbw hc0 hc1 hc2 hlt
          obtain ⟨j, rfl, hj, hcl0, hblk, hbw⟩ := hrel
          have hcl := Lib.hid hcl0
          clear hcl0
          have hc0 := hblk.cell 0
          have hc1 := hblk.cell 1
          have hc2 := hblk.cell 2
          simp at hc0 hc1 hc2
          have hlt := hblk.lt
          by_cases hjC : j < C
          · obtain ⟨x1, x2, x3, x4⟩ := idx_bd (r := R) (c := C) (i := i) (j := j) hR hC (by omega) (by omega) (by omega) (by omega)
            obtain ⟨y1, y2⟩ := hcb.out i j
            have hs := range_all_succ (fun j => smC xs C i j) j
            rw [hcl.out, Bool.true_and] at hs
            have hno := fun h => smAll_no (xs := xs) hiR hjC h
            rcases hsm : smC xs C i j with _ | _
            · have hf := Lib.hid (hno hsm)
              clear hs hno
              by_cases hij : i = j
              · subst hij
                have b1 : ((i : Int) != (i : Int)) = false := by simp
                have b2 : ((i : Int) == (i : Int)) = true := by simp
                by_cases hneg : cel xs C i i < 0
                · go_wp2_with (first | (go_at_call 65; refine (impl_at _ _ _ _ _ _ _ xs _ (C := w.heap.size) (by (repeat (first | (with_reducible exact H2.out) | (with_reducible refine RI.drew ?_) | (with_reducible refine RI.drewN ?_ _) | (with_reducible refine RI.alloc ?_ (by first | omega | (simp; done) | (simp; omega)) _) | (with_reducible refine RI.setCell ?_ (by first | omega | (simp; done) | (simp; omega)) _) | (with_reducible refine RI.below ?_ (by assumption) (by first | omega | (simp; done) | (simp; omega)))))) (by omega) ⟨by omega, by omega⟩ ⟨by omega, by omega⟩ (by omega)).mono ?_; rintro e w1 ⟨rfl, hb⟩; have hz := hb.size; (try simp at hz); have kk := bkeep (w := w) hb (by first | omega | (simp; done) | (simp; omega)); obtain ⟨kc, kf⟩ := kk; (try (have kk := bkeepb (w.heap.size) hb (by first | omega | (simp; done) | (simp; omega)); obtain ⟨kc0, kf0, kl0⟩ := kk)); (try (have kk := bkeepb (w.heap.size + 1) hb (by first | omega | (simp; done) | (simp; omega)); obtain ⟨kc1, kf1, kl1⟩ := kk)); (try (have kk := bkeepb (w.heap.size + 1 + 1) hb (by first | omega | (simp; done) | (simp; omega)); obtain ⟨kc2, kf2, kl2⟩ := kk)); (try (have kk := bkeepb (w.heap.size + 1 + 1 + 1) hb (by first | omega | (simp; done) | (simp; omega)); obtain ⟨kc3, kf3, kl3⟩ := kk)); (try (have kk := bkeepb (wr.heap.size) hb (by first | omega | (simp; done) | (simp; omega)); obtain ⟨kr0, ks0, kt0⟩ := kk)); (try (have kk := bkeepb (wr.heap.size + 1) hb (by first | omega | (simp; done) | (simp; omega)); obtain ⟨kr1, ks1, kt1⟩ := kk)); (try (have kk := bkeepb (wr.heap.size + 1 + 1) hb (by first | omega | (simp; done) | (simp; omega)); obtain ⟨kr2, ks2, kt2⟩ := kk))) | (go_at_call 66; refine (impl_isMultiple _ _ _ (by omega) (by omega)).mono ?_; rintro e w' ⟨rfl, rfl⟩))
                  go_ret
                  exact BV.mk (vbool hf.out.symm) (by (repeat (first | (with_reducible exact Below.refl _ _) | (with_reducible assumption) | (with_reducible refine below_drewN ?_ _) | (with_reducible refine Below.drew ?_) | (with_reducible refine Below.alloc ?_ ?_ _) | (with_reducible refine Below.setCell ?_ ?_ _) | (with_reducible refine below_into ?_ (by assumption) ?_) | go_size)))
                · have hi0 : 0 < i := by
                    rcases Nat.eq_zero_or_pos i with h0 | h0
                    · exfalso
                      have : smC xs C i i = true := by
                        simp only [smC, Bool.and_eq_true, decide_eq_true_eq]
                        exact ⟨⟨fun h => absurd rfl h, by omega⟩, fun _ h => absurd h (by omega)⟩
                      rw [this] at hsm; cases hsm
                    · exact h0
                  have hdv : decide (cel xs C ((i : Int) - 1) ((i : Int) - 1) ∣ cel xs C i i) = false := by
                    rw [decide_eq_false_iff_not]
                    intro hd
                    have : smC xs C i i = true := by simp [smC, hd]; omega
                    rw [this] at hsm; cases hsm
                  obtain ⟨z1, z2, z3, z4⟩ := idx_bd (r := R) (c := C) (i := (i : Int) - 1) (j := (i : Int) - 1) hR hC (by omega) (by omega) (by omega) (by omega)
                  obtain ⟨y3, y4⟩ := hcb.out ((i : Int) - 1) ((i : Int) - 1)
                  clear hsm
                  go_wp2_with (first | (go_at_call 65; refine (impl_at _ _ _ _ _ _ _ xs _ (C := w.heap.size) (by (repeat (first | (with_reducible exact H2.out) | (with_reducible refine RI.drew ?_) | (with_reducible refine RI.drewN ?_ _) | (with_reducible refine RI.alloc ?_ (by first | omega | (simp; done) | (simp; omega)) _) | (with_reducible refine RI.setCell ?_ (by first | omega | (simp; done) | (simp; omega)) _) | (with_reducible refine RI.below ?_ (by assumption) (by first | omega | (simp; done) | (simp; omega)))))) (by omega) ⟨by omega, by omega⟩ ⟨by omega, by omega⟩ (by omega)).mono ?_; rintro e w1 ⟨rfl, hb⟩; have hz := hb.size; (try simp at hz); have kk := bkeep (w := w) hb (by first | omega | (simp; done) | (simp; omega)); obtain ⟨kc, kf⟩ := kk; (try (have kk := bkeepb (w.heap.size) hb (by first | omega | (simp; done) | (simp; omega)); obtain ⟨kc0, kf0, kl0⟩ := kk)); (try (have kk := bkeepb (w.heap.size + 1) hb (by first | omega | (simp; done) | (simp; omega)); obtain ⟨kc1, kf1, kl1⟩ := kk)); (try (have kk := bkeepb (w.heap.size + 1 + 1) hb (by first | omega | (simp; done) | (simp; omega)); obtain ⟨kc2, kf2, kl2⟩ := kk)); (try (have kk := bkeepb (w.heap.size + 1 + 1 + 1) hb (by first | omega | (simp; done) | (simp; omega)); obtain ⟨kc3, kf3, kl3⟩ := kk)); (try (have kk := bkeepb (wr.heap.size) hb (by first | omega | (simp; done) | (simp; omega)); obtain ⟨kr0, ks0, kt0⟩ := kk)); (try (have kk := bkeepb (wr.heap.size + 1) hb (by first | omega | (simp; done) | (simp; omega)); obtain ⟨kr1, ks1, kt1⟩ := kk)); (try (have kk := bkeepb (wr.heap.size + 1 + 1) hb (by first | omega | (simp; done) | (simp; omega)); obtain ⟨kr2, ks2, kt2⟩ := kk))) | (go_at_call 66; refine (impl_isMultiple _ _ _ (by omega) (by omega)).mono ?_; rintro e w' ⟨rfl, rfl⟩))
                  go_ret
                  exact BV.mk (vbool hf.out.symm) (by (repeat (first | (with_reducible exact Below.refl _ _) | (with_reducible assumption) | (with_reducible refine below_drewN ?_ _) | (with_reducible refine Below.drew ?_) | (with_reducible refine Below.alloc ?_ ?_ _) | (with_reducible refine Below.setCell ?_ ?_ _) | (with_reducible refine below_into ?_ (by assumption) ?_) | go_size)))
              · have b1 : ((i : Int) != (j : Int)) = true := by simp; omega
                by_cases hz : cel xs C i j = 0
                · exfalso
                  have : smC xs C i j = true := by
                    simp only [smC, Bool.and_eq_true, decide_eq_true_eq]
                    exact ⟨⟨fun _ => hz, by omega⟩, fun h => absurd h (by omega)⟩
                  rw [this] at hsm; cases hsm
                · have b3 : (cel xs C i j != 0) = true := by simpa using hz
                  clear hsm
                  go_wp2_with (first | (go_at_call 65; refine (impl_at _ _ _ _ _ _ _ xs _ (C := w.heap.size) (by (repeat (first | (with_reducible exact H2.out) | (with_reducible refine RI.drew ?_) | (with_reducible refine RI.drewN ?_ _) | (with_reducible refine RI.alloc ?_ (by first | omega | (simp; done) | (simp; omega)) _) | (with_reducible refine RI.setCell ?_ (by first | omega | (simp; done) | (simp; omega)) _) | (with_reducible refine RI.below ?_ (by assumption) (by first | omega | (simp; done) | (simp; omega)))))) (by omega) ⟨by omega, by omega⟩ ⟨by omega, by omega⟩ (by omega)).mono ?_; rintro e w1 ⟨rfl, hb⟩; have hz := hb.size; (try simp at hz); have kk := bkeep (w := w) hb (by first | omega | (simp; done) | (simp; omega)); obtain ⟨kc, kf⟩ := kk; (try (have kk := bkeepb (w.heap.size) hb (by first | omega | (simp; done) | (simp; omega)); obtain ⟨kc0, kf0, kl0⟩ := kk)); (try (have kk := bkeepb (w.heap.size + 1) hb (by first | omega | (simp; done) | (simp; omega)); obtain ⟨kc1, kf1, kl1⟩ := kk)); (try (have kk := bkeepb (w.heap.size + 1 + 1) hb (by first | omega | (simp; done) | (simp; omega)); obtain ⟨kc2, kf2, kl2⟩ := kk)); (try (have kk := bkeepb (w.heap.size + 1 + 1 + 1) hb (by first | omega | (simp; done) | (simp; omega)); obtain ⟨kc3, kf3, kl3⟩ := kk)); (try (have kk := bkeepb (wr.heap.size) hb (by first | omega | (simp; done) | (simp; omega)); obtain ⟨kr0, ks0, kt0⟩ := kk)); (try (have kk := bkeepb (wr.heap.size + 1) hb (by first | omega | (simp; done) | (simp; omega)); obtain ⟨kr1, ks1, kt1⟩ := kk)); (try (have kk := bkeepb (wr.heap.size + 1 + 1) hb (by first | omega | (simp; done) | (simp; omega)); obtain ⟨kr2, ks2, kt2⟩ := kk))) | (go_at_call 66; refine (impl_isMultiple _ _ _ (by omega) (by omega)).mono ?_; rintro e w' ⟨rfl, rfl⟩))
                  go_ret
                  exact BV.mk (vbool hf.out.symm) (by (repeat (first | (with_reducible exact Below.refl _ _) | (with_reducible assumption) | (with_reducible refine below_drewN ?_ _) | (with_reducible refine Below.drew ?_) | (with_reducible refine Below.alloc ?_ ?_ _) | (with_reducible refine Below.setCell ?_ ?_ _) | (with_reducible refine below_into ?_ (by assumption) ?_) | go_size)))
            · have hnx := Lib.hid (hs.trans hsm)
              clear hs hno
              simp only [smC, Bool.and_eq_true, decide_eq_true_eq] at hsm
              obtain ⟨⟨p1, p2⟩, p3⟩ := hsm
              by_cases hij : i = j
              · subst hij
                have b1 : ((i : Int) != (i : Int)) = false := by simp
                have b2 : ((i : Int) == (i : Int)) = true := by simp
                by_cases hi0 : i = 0
                · have hi1 : i ≤ 0 := by omega
                  clear p1 p3 hi0
                  go_wp2_with (first | (go_at_call 65; refine (impl_at _ _ _ _ _ _ _ xs _ (C := w.heap.size) (by (repeat (first | (with_reducible exact H2.out) | (with_reducible refine RI.drew ?_) | (with_reducible refine RI.drewN ?_ _) | (with_reducible refine RI.alloc ?_ (by first | omega | (simp; done) | (simp; omega)) _) | (with_reducible refine RI.setCell ?_ (by first | omega | (simp; done) | (simp; omega)) _) | (with_reducible refine RI.below ?_ (by assumption) (by first | omega | (simp; done) | (simp; omega)))))) (by omega) ⟨by omega, by omega⟩ ⟨by omega, by omega⟩ (by omega)).mono ?_; rintro e w1 ⟨rfl, hb⟩; have hz := hb.size; (try simp at hz); have kk := bkeep (w := w) hb (by first | omega | (simp; done) | (simp; omega)); obtain ⟨kc, kf⟩ := kk; (try (have kk := bkeepb (w.heap.size) hb (by first | omega | (simp; done) | (simp; omega)); obtain ⟨kc0, kf0, kl0⟩ := kk)); (try (have kk := bkeepb (w.heap.size + 1) hb (by first | omega | (simp; done) | (simp; omega)); obtain ⟨kc1, kf1, kl1⟩ := kk)); (try (have kk := bkeepb (w.heap.size + 1 + 1) hb (by first | omega | (simp; done) | (simp; omega)); obtain ⟨kc2, kf2, kl2⟩ := kk)); (try (have kk := bkeepb (w.heap.size + 1 + 1 + 1) hb (by first | omega | (simp; done) | (simp; omega)); obtain ⟨kc3, kf3, kl3⟩ := kk)); (try (have kk := bkeepb (wr.heap.size) hb (by first | omega | (simp; done) | (simp; omega)); obtain ⟨kr0, ks0, kt0⟩ := kk)); (try (have kk := bkeepb (wr.heap.size + 1) hb (by first | omega | (simp; done) | (simp; omega)); obtain ⟨kr1, ks1, kt1⟩ := kk)); (try (have kk := bkeepb (wr.heap.size + 1 + 1) hb (by first | omega | (simp; done) | (simp; omega)); obtain ⟨kr2, ks2, kt2⟩ := kk))) | (go_at_call 66; refine (impl_isMultiple _ _ _ (by omega) (by omega)).mono ?_; rintro e w' ⟨rfl, rfl⟩))
                  go_roundw
                  case rel => exact ⟨i + 1, by go_num, by omega, hnx.out, by (repeat (first | (with_reducible exact hblk) | (with_reducible refine Blk.below ?_ (by assumption) (by first | omega | (simp; done) | (simp; omega))) | (with_reducible apply Blk.drew) | (with_reducible apply Blk.drewN) | (with_reducible apply Blk.alloc) | (with_reducible apply Blk.set_) | (with_reducible apply Blk.far; rotate_left; (simp only [ne_eq]; omega); rotate_right))), by (repeat (first | (with_reducible exact Below.refl _ _) | (with_reducible assumption) | (with_reducible refine below_drewN ?_ _) | (with_reducible refine Below.drew ?_) | (with_reducible refine Below.alloc ?_ ?_ _) | (with_reducible refine Below.setCell ?_ ?_ _) | (with_reducible refine below_into ?_ (by assumption) ?_) | go_size))⟩
                  case measure => simp only [intOf]; omega
                · have p4 := p3 rfl (by omega)
                  have hdv : decide (cel xs C ((i : Int) - 1) ((i : Int) - 1) ∣ cel xs C i i) = true := by simpa using p4
                  obtain ⟨z1, z2, z3, z4⟩ := idx_bd (r := R) (c := C) (i := (i : Int) - 1) (j := (i : Int) - 1) hR hC (by omega) (by omega) (by omega) (by omega)
                  obtain ⟨y3, y4⟩ := hcb.out ((i : Int) - 1) ((i : Int) - 1)
                  clear p1 p3 p4
                  go_wp2_with (first | (go_at_call 65; refine (impl_at _ _ _ _ _ _ _ xs _ (C := w.heap.size) (by (repeat (first | (with_reducible exact H2.out) | (with_reducible refine RI.drew ?_) | (with_reducible refine RI.drewN ?_ _) | (with_reducible refine RI.alloc ?_ (by first | omega | (simp; done) | (simp; omega)) _) | (with_reducible refine RI.setCell ?_ (by first | omega | (simp; done) | (simp; omega)) _) | (with_reducible refine RI.below ?_ (by assumption) (by first | omega | (simp; done) | (simp; omega)))))) (by omega) ⟨by omega, by omega⟩ ⟨by omega, by omega⟩ (by omega)).mono ?_; rintro e w1 ⟨rfl, hb⟩; have hz := hb.size; (try simp at hz); have kk := bkeep (w := w) hb (by first | omega | (simp; done) | (simp; omega)); obtain ⟨kc, kf⟩ := kk; (try (have kk := bkeepb (w.heap.size) hb (by first | omega | (simp; done) | (simp; omega)); obtain ⟨kc0, kf0, kl0⟩ := kk)); (try (have kk := bkeepb (w.heap.size + 1) hb (by first | omega | (simp; done) | (simp; omega)); obtain ⟨kc1, kf1, kl1⟩ := kk)); (try (have kk := bkeepb (w.heap.size + 1 + 1) hb (by first | omega | (simp; done) | (simp; omega)); obtain ⟨kc2, kf2, kl2⟩ := kk)); (try (have kk := bkeepb (w.heap.size + 1 + 1 + 1) hb (by first | omega | (simp; done) | (simp; omega)); obtain ⟨kc3, kf3, kl3⟩ := kk)); (try (have kk := bkeepb (wr.heap.size) hb (by first | omega | (simp; done) | (simp; omega)); obtain ⟨kr0, ks0, kt0⟩ := kk)); (try (have kk := bkeepb (wr.heap.size + 1) hb (by first | omega | (simp; done) | (simp; omega)); obtain ⟨kr1, ks1, kt1⟩ := kk)); (try (have kk := bkeepb (wr.heap.size + 1 + 1) hb (by first | omega | (simp; done) | (simp; omega)); obtain ⟨kr2, ks2, kt2⟩ := kk))) | (go_at_call 66; refine (impl_isMultiple _ _ _ (by omega) (by omega)).mono ?_; rintro e w' ⟨rfl, rfl⟩))
                  go_roundw
                  case rel => exact ⟨i + 1, by go_num, by omega, hnx.out, by (repeat (first | (with_reducible exact hblk) | (with_reducible refine Blk.below ?_ (by assumption) (by first | omega | (simp; done) | (simp; omega))) | (with_reducible apply Blk.drew) | (with_reducible apply Blk.drewN) | (with_reducible apply Blk.alloc) | (with_reducible apply Blk.set_) | (with_reducible apply Blk.far; rotate_left; (simp only [ne_eq]; omega); rotate_right))), by (repeat (first | (with_reducible exact Below.refl _ _) | (with_reducible assumption) | (with_reducible refine below_drewN ?_ _) | (with_reducible refine Below.drew ?_) | (with_reducible refine Below.alloc ?_ ?_ _) | (with_reducible refine Below.setCell ?_ ?_ _) | (with_reducible refine below_into ?_ (by assumption) ?_) | go_size))⟩
                  case measure => simp only [intOf]; omega
              · have b1 : ((i : Int) != (j : Int)) = true := by simp; omega
                have b2 : ((i : Int) == (j : Int)) = false := by simp; omega
                have b3 : (cel xs C i j != 0) = false := by simpa using p1 (by omega)
                clear p1 p3
                go_wp2_with (first | (go_at_call 65; refine (impl_at _ _ _ _ _ _ _ xs _ (C := w.heap.size) (by (repeat (first | (with_reducible exact H2.out) | (with_reducible refine RI.drew ?_) | (with_reducible refine RI.drewN ?_ _) | (with_reducible refine RI.alloc ?_ (by first | omega | (simp; done) | (simp; omega)) _) | (with_reducible refine RI.setCell ?_ (by first | omega | (simp; done) | (simp; omega)) _) | (with_reducible refine RI.below ?_ (by assumption) (by first | omega | (simp; done) | (simp; omega)))))) (by omega) ⟨by omega, by omega⟩ ⟨by omega, by omega⟩ (by omega)).mono ?_; rintro e w1 ⟨rfl, hb⟩; have hz := hb.size; (try simp at hz); have kk := bkeep (w := w) hb (by first | omega | (simp; done) | (simp; omega)); obtain ⟨kc, kf⟩ := kk; (try (have kk := bkeepb (w.heap.size) hb (by first | omega | (simp; done) | (simp; omega)); obtain ⟨kc0, kf0, kl0⟩ := kk)); (try (have kk := bkeepb (w.heap.size + 1) hb (by first | omega | (simp; done) | (simp; omega)); obtain ⟨kc1, kf1, kl1⟩ := kk)); (try (have kk := bkeepb (w.heap.size + 1 + 1) hb (by first | omega | (simp; done) | (simp; omega)); obtain ⟨kc2, kf2, kl2⟩ := kk)); (try (have kk := bkeepb (w.heap.size + 1 + 1 + 1) hb (by first | omega | (simp; done) | (simp; omega)); obtain ⟨kc3, kf3, kl3⟩ := kk)); (try (have kk := bkeepb (wr.heap.size) hb (by first | omega | (simp; done) | (simp; omega)); obtain ⟨kr0, ks0, kt0⟩ := kk)); (try (have kk := bkeepb (wr.heap.size + 1) hb (by first | omega | (simp; done) | (simp; omega)); obtain ⟨kr1, ks1, kt1⟩ := kk)); (try (have kk := bkeepb (wr.heap.size + 1 + 1) hb (by first | omega | (simp; done) | (simp; omega)); obtain ⟨kr2, ks2, kt2⟩ := kk))) | (go_at_call 66; refine (impl_isMultiple _ _ _ (by omega) (by omega)).mono ?_; rintro e w' ⟨rfl, rfl⟩))
                go_roundw
                case rel => exact ⟨j + 1, by go_num, by omega, hnx.out, by (repeat (first | (with_reducible exact hblk) | (with_reducible refine Blk.below ?_ (by assumption) (by first | omega | (simp; done) | (simp; omega))) | (with_reducible apply Blk.drew) | (with_reducible apply Blk.drewN) | (with_reducible apply Blk.alloc) | (with_reducible apply Blk.set_) | (with_reducible apply Blk.far; rotate_left; (simp only [ne_eq]; omega); rotate_right))), by (repeat (first | (with_reducible exact Below.refl _ _) | (with_reducible assumption) | (with_reducible refine below_drewN ?_ _) | (with_reducible refine Below.drew ?_) | (with_reducible refine Below.alloc ?_ ?_ _) | (with_reducible refine Below.setCell ?_ ?_ _) | (with_reducible refine below_into ?_ (by assumption) ?_) | go_size))⟩
                case measure => simp only [intOf]; omega
          · obtain rfl : j = C := by omega
            have hnx := Lib.hid (show (List.range (i + 1)).all (fun i => smRow xs j i) = true by
              rw [range_all_succ, hal.out, Bool.true_and]; exact hcl.out)
            go_wp2
            go_roundw
            case rel => exact ⟨i + 1, by go_num, by omega, hnx.out, hblk, hbw⟩
            case measure => simp only [intOf]; omega
      · obtain rfl : i = R := by omega
        have hres := Lib.hid (show smAll xs i C = true from hal.out)
        go_wp2
        go_ret
        exact BV.mk (vbool hres.out.symm) (by (repeat (first | (with_reducible exact Below.refl _ _) | (with_reducible assumption) | (with_reducible refine below_drewN ?_ _) | (with_reducible refine Below.drew ?_) | (with_reducible refine Below.alloc ?_ ?_ _) | (with_reducible refine Below.setCell ?_ ?_ _) | (with_reducible refine below_into ?_ (by assumption) ?_) | go_size)))
end Go.Proofs.Ytdnooamnjkibgaa

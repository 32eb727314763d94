/-
  DERIVED. Several small texts in one: Mx2, PlainA, Img, Law2, Row1, PlainB, Row2, Sq, PlainH, Inv, PlainE, Recon, RowBound, Ts, Sys, PlainC, PlainW, PlainM, PlainT.
-/
import Derived.Test.YtlggfmfelakadaaGreatDoorMxx
import Derived.Test.YtlggfmfelakadaaGreatDoorRatx
import Derived.Test.YtlggfmfelakadaaGreatDoorc1
import Derived.Test.YtlggfmfelakadaaGreatDoorEuclidx
import Derived.Test.YtlggfmfelakadaaGreatDoorc2
/-
  DERIVED. The contracts of spec.IsMatrix, l12Cell, isMultiple, IsSquare (both).
-/
namespace Go.Proofs.YtlggfmfelakadaaGreatDoor
open Go.RowKit
set_option linter.unusedVariables false
set_option maxHeartbeats 1000000 in
theorem spec_IsMatrix (r c : Int) (A : Option Addr) (n cap : Nat) (xs : List Int) (w : World) {C : Nat} (h : RI w C A n xs) (hC : C ≤ w.heap.size) (hn : n ≤ 1048576) :
    Calls Tryz.prog 9 #[.agg #[.int .i64 r, .int .i64 c, .slice A n cap]] w (BV (.bool (isMat r c xs)) w) := by
  have hcs := mat_cases r c xs n h.len
  have hlen := h.len
  have hlx : xs.length ≤ n ∧ n ≤ xs.length := by omega
  have H := Lib.hid h
  clear h hlen
  rcases hcs with ⟨hr, h1⟩ | ⟨hr, h1, h2⟩ | ⟨hr, h1, h2⟩ | ⟨hr, h1, h2, h3⟩ | ⟨hr, ⟨h1, h2⟩, ⟨h3, h4⟩, h5⟩ | ⟨hr, ⟨h1, h2⟩, ⟨h3, h4⟩, h5⟩
  iterate 4
    · rw [hr]
      clear hr
      go_enter Tryz.func9, Tryz.ntmps9
      go_wp2_with (first | (go_at_call 28; (first | refine (spec_l1In_yes _ _ _ _ (by omega)).mono ?_ | refine (spec_l1In_no _ _ _ _ (by omega)).mono ?_ | refine (spec_l1In _ _ _ _).mono ?_); rintro e w' ⟨rfl, rfl⟩))
      go_ret
      exact BV.mk rfl Kw
  · rw [hr]
    clear hr
    obtain ⟨m1, m2⟩ := mul24 h1 h2 h3 h4
    have h6 : ((n : Int) != r * c) = true := by rw [bne, h5]; rfl
    go_enter Tryz.func9, Tryz.ntmps9
    go_wp2_with (first | (go_at_call 28; (first | refine (spec_l1In_yes _ _ _ _ (by omega)).mono ?_ | refine (spec_l1In_no _ _ _ _ (by omega)).mono ?_ | refine (spec_l1In _ _ _ _).mono ?_); rintro e w' ⟨rfl, rfl⟩))
    go_ret
    exact BV.mk rfl Kw
  · rw [hr]
    clear hr
    obtain ⟨m1, m2⟩ := mul24 h1 h2 h3 h4
    have h6 : ((n : Int) != r * c) = false := by rw [bne, h5]; rfl
    go_enter Tryz.func9, Tryz.ntmps9
    go_wp2_with (first | (go_at_call 28; (first | refine (spec_l1In_yes _ _ _ _ (by omega)).mono ?_ | refine (spec_l1In_no _ _ _ _ (by omega)).mono ?_ | refine (spec_l1In _ _ _ _).mono ?_); rintro e w' ⟨rfl, rfl⟩))
    go_loop [3] (fun v => ∃ k : Nat, v = .int .i64 k ∧ k ≤ n ∧ (xs.take k).all isNum = true) (fun v => n - (intOf v).toNat)
    case atStart => exact ⟨0, rfl, Nat.zero_le _, by simp⟩
    case round =>
      obtain ⟨k, rfl, hk, hall0⟩ := hrel
      have hall := Lib.hid hall0
      clear hall0
      by_cases hlt : k < n
      · obtain ⟨b, o, rfl, hbb, hcells⟩ := H.out.2 (by omega)
        have c1 := hcells k hlt
        have hbs : b < w.heap.size := by omega
        clear hcells
        have hat := all_take (xs := xs) (p := isNum) (show k < xs.length by omega)
        have hfa := all_false (xs := xs) (p := isNum) (show k < xs.length by omega)
        rw [hall.out, Bool.true_and] at hat
        generalize xs.getD k 0 = x at c1 hat hfa
        rcases hx : isNum x with _ | _
        · have hres := Lib.hid (hfa hx)
          clear hat hfa
          go_wp2_with (first | (go_at_call 29; (first | refine (spec_IsNumber_yes _ _ (by omega)).mono ?_ | refine (spec_IsNumber_no _ _ (by omega)).mono ?_ | refine (spec_IsNumber _ _).mono ?_); rintro e w' ⟨rfl, rfl⟩))
          go_ret
          exact BV.mk (vbool hres.out.symm) Kw
        · have hnx := Lib.hid (hat.trans hx)
          clear hat hfa
          go_wp2_with (first | (go_at_call 29; (first | refine (spec_IsNumber_yes _ _ (by omega)).mono ?_ | refine (spec_IsNumber_no _ _ (by omega)).mono ?_ | refine (spec_IsNumber _ _).mono ?_); rintro e w' ⟨rfl, rfl⟩))
          go_round
          case rel => exact ⟨k + 1, by go_num, by omega, hnx.out⟩
          case measure => simp only [intOf]; omega
      · have hres := Lib.hid (show xs.all isNum = true by rw [← hall.out, List.take_of_length_le (by omega)])
        go_wp2
        go_ret
        exact BV.mk (vbool hres.out.symm) Kw

def isSq (r c : Int) (xs : List Int) : Bool := isMat r c xs && decide (r = c) && decide (r ≤ 6)
end Go.Proofs.YtlggfmfelakadaaGreatDoor

/-
  DERIVED. Ratios: lowest terms, sums, products. No program in sight.
-/
namespace Go.Proofs.YtlggfmfelakadaaGreatDoor
set_option linter.unusedVariables false
/-- n / d in lowest terms; zeros if it is no ratio. -/
def lowR (n d : Int) : Int × Int :=
  let g : Int := ((Int.gcd n d : Nat) : Int)
  let s := if d < 0 then -g else g
  if ratOk (n.tdiv s) (d.tdiv s) then (n.tdiv s, d.tdiv s) else (0, 0)
def addR (a b : Int × Int) : Int × Int := if ratOk a.1 a.2 && ratOk b.1 b.2 then lowR (a.1 * b.2 + b.1 * a.2) (a.2 * b.2) else (0, 0)
def mulR (a b : Int × Int) : Int × Int := if ratOk a.1 a.2 && ratOk b.1 b.2 then lowR (a.1 * b.1) (a.2 * b.2) else (0, 0)
def makR (n d : Int) : Int × Int := if isNum n && isNum d && decide (d ≠ 0) then lowR n d else (0, 0)
theorem tdiv_abs (a b : Int) : (a.tdiv b).natAbs ≤ a.natAbs := by
  rw [Int.natAbs_tdiv]; exact Nat.div_le_self _ _
/-- The gcd of a number and one that is not 0. -/
theorem gcd_pos2 {n d : Int} (hd : d ≠ 0) : 1 ≤ Int.gcd n d ∧ Int.gcd n d ≤ d.natAbs :=
  ⟨Int.gcd_pos_of_ne_zero_right _ hd, Nat.le_of_dvd (by omega) (Int.gcd_dvd_natAbs_right ..)⟩
theorem lowR_pos {n d : Int} (hd : 0 < d) : lowR n d = if ratOk (n.tdiv (Int.gcd n d : Nat)) (d.tdiv (Int.gcd n d : Nat)) then (n.tdiv (Int.gcd n d : Nat), d.tdiv (Int.gcd n d : Nat)) else (0, 0) := by
  unfold lowR
  simp only [if_neg (show ¬ d < 0 by omega)]
theorem lowR_neg {n d : Int} (hd : d < 0) : lowR n d = if ratOk (n.tdiv (-(Int.gcd n d : Nat))) (d.tdiv (-(Int.gcd n d : Nat))) then (n.tdiv (-(Int.gcd n d : Nat)), d.tdiv (-(Int.gcd n d : Nat))) else (0, 0) := by
  unfold lowR
  simp only [if_pos hd]
theorem lowR_neg' {n d : Int} (hd : d < 0) : lowR n d = if ratOk (-n.tdiv (Int.gcd n d : Nat)) (-d.tdiv (Int.gcd n d : Nat)) then (-n.tdiv (Int.gcd n d : Nat), -d.tdiv (Int.gcd n d : Nat)) else (0, 0) := by
  rw [lowR_neg hd]
  simp only [Int.tdiv_neg]
theorem lowR_flip {n d : Int} (hd : d < 0) : lowR n d = lowR (-n) (-d) := by
  rw [lowR_neg hd, lowR_pos (show 0 < -d by omega), Int.neg_gcd, Int.gcd_neg]
  simp only [Int.tdiv_neg, Int.neg_tdiv]
theorem lowR_ok (n d : Int) : (ratOk (lowR n d).1 (lowR n d).2 = true) ∨ lowR n d = (0, 0) := by
  unfold lowR
  simp only
  generalize (if d < 0 then -((Int.gcd n d : Nat) : Int) else ((Int.gcd n d : Nat) : Int)) = s
  by_cases h : ratOk (n.tdiv s) (d.tdiv s) = true
  · rw [if_pos h]; exact .inl h
  · rw [if_neg h]; exact .inr rfl
theorem addR_ok (a b : Int × Int) : (ratOk (addR a b).1 (addR a b).2 = true) ∨ addR a b = (0, 0) := by
  unfold addR
  split
  · exact lowR_ok _ _
  · exact .inr rfl
theorem mulR_ok (a b : Int × Int) : (ratOk (mulR a b).1 (mulR a b).2 = true) ∨ mulR a b = (0, 0) := by
  unfold mulR
  split
  · exact lowR_ok _ _
  · exact .inr rfl
theorem ratOk_zero : ratOk 0 0 = false := rfl
theorem ratOk_whole {n : Int} (h : isNum n = true) : ratOk n 1 = true := by
  rw [ratOk_iff]
  exact ⟨by omega, (isNum_iff n).1 h, by simp⟩
theorem mulR_comm (a b : Int × Int) : mulR a b = mulR b a := by
  unfold mulR
  rw [Bool.and_comm, Int.mul_comm a.1, Int.mul_comm a.2]
/-- Bounds of what is added and multiplied. -/
theorem rat_bd {a b : Int × Int} (h : ratOk a.1 a.2 = true) (h' : ratOk b.1 b.2 = true) :
    (-160000000000000000 ≤ a.1 * b.2 ∧ a.1 * b.2 ≤ 160000000000000000) ∧ (-160000000000000000 ≤ b.1 * a.2 ∧ b.1 * a.2 ≤ 160000000000000000) ∧ (1 ≤ a.2 * b.2 ∧ a.2 * b.2 ≤ 160000000000000000) ∧ (-160000000000000000 ≤ a.1 * b.1 ∧ a.1 * b.1 ≤ 160000000000000000) := by
  obtain ⟨⟨h1, h2⟩, ⟨h3, h4⟩, _⟩ := (ratOk_iff _ _).1 h
  obtain ⟨⟨k1, k2⟩, ⟨k3, k4⟩, _⟩ := (ratOk_iff _ _).1 h'
  have m1 := mul_bd2 a.1 b.2 400000000 400000000 h3 h4 (by omega) k2
  have m2 := mul_bd2 b.1 a.2 400000000 400000000 k3 k4 (by omega) h2
  have m3 := mul_bd a.2 b.2 400000000 400000000 (by omega) h2 (by omega) k2
  have m4 := mul_bd4 a.1 b.1 400000000 400000000 h3 h4 k3 k4
  have m5 : 1 * 1 ≤ a.2 * b.2 := Int.mul_le_mul h1 k1 (by omega) (by omega)
  omega
end Go.Proofs.YtlggfmfelakadaaGreatDoor

/-
  DERIVED. The contracts of IsImage, both.
-/
namespace Go.Proofs.YtlggfmfelakadaaGreatDoor
open Go.RowKit
set_option linter.unusedVariables false
def imgOk (n d a m : Int) : Bool := ratOk n d && isNum a && decide (1 ≤ m) && decide (m ≤ 400000000) && decide (Int.gcd d m = 1) && decide ((a * d - n) % m = 0)
theorem imgOk_iff (n d a m : Int) : imgOk n d a m = true ↔ ratOk n d = true ∧ (-400000000 ≤ a ∧ a ≤ 400000000) ∧ (1 ≤ m ∧ m ≤ 400000000) ∧ Int.gcd d m = 1 ∧ (a * d - n) % m = 0 := by
  simp [imgOk, isNum, and_assoc]
theorem imgOk_not (n d a m : Int) (h : ¬ (ratOk n d = true ∧ (-400000000 ≤ a ∧ a ≤ 400000000) ∧ (1 ≤ m ∧ m ≤ 400000000) ∧ Int.gcd d m = 1 ∧ (a * d - n) % m = 0)) : imgOk n d a m = false := by
  rw [← Bool.not_eq_true, imgOk_iff]; exact h
/-- The bounds that a ratio brings. -/
theorem ratOk_bds {n d : Int} (h : ratOk n d = true) : 1 ≤ d ∧ d ≤ 400000000 ∧ -400000000 ≤ n ∧ n ≤ 400000000 := by
  have := (ratOk_iff n d).1 h; omega
theorem beq1 {x : Nat} : ((x : Int) == 1) = decide (x = 1) := by
  rw [Bool.eq_iff_iff]; simp; omega
theorem img_cases (n d a m : Int) : (imgOk n d a m = false ∧ ratOk n d = false) ∨ (imgOk n d a m = false ∧ ratOk n d = true ∧ (a < -400000000 ∨ 400000000 < a)) ∨
    (imgOk n d a m = false ∧ ratOk n d = true ∧ (-400000000 ≤ a ∧ a ≤ 400000000) ∧ m < 1) ∨ (imgOk n d a m = false ∧ ratOk n d = true ∧ (-400000000 ≤ a ∧ a ≤ 400000000) ∧ 1 ≤ m ∧ 400000000 < m) ∨
    (imgOk n d a m = false ∧ ratOk n d = true ∧ (-400000000 ≤ a ∧ a ≤ 400000000) ∧ (1 ≤ m ∧ m ≤ 400000000) ∧ (((Int.gcd d m : Nat) : Int) == 1) = false) ∨
    (imgOk n d a m = false ∧ ratOk n d = true ∧ (-400000000 ≤ a ∧ a ≤ 400000000) ∧ (1 ≤ m ∧ m ≤ 400000000) ∧ (((Int.gcd d m : Nat) : Int) == 1) = true ∧ ((a * d - n) % m == 0) = false ∧ ((a * d - n).tmod m == 0) = false) ∨
    (imgOk n d a m = true ∧ ratOk n d = true ∧ (-400000000 ≤ a ∧ a ≤ 400000000) ∧ (1 ≤ m ∧ m ≤ 400000000) ∧ (((Int.gcd d m : Nat) : Int) == 1) = true ∧ ((a * d - n) % m == 0) = true ∧ ((a * d - n).tmod m == 0) = true) := by
  have ht := tmod_zero_iff (a * d - n) m
  have hi := imgOk_iff n d a m
  have hn := imgOk_not n d a m
  rw [beq1]
  simp only [beq_iff_eq, beq_eq_false_iff_ne, decide_eq_true_eq, decide_eq_false_iff_not, ne_eq]
  generalize (a * d - n) % m = u at *
  generalize (a * d - n).tmod m = t at *
  generalize Int.gcd d m = g at *
  rcases hr : ratOk n d with _ | _
  · exact .inl ⟨hn (by simp [hr]), rfl⟩
  · simp only [hr, true_and] at hi hn
    by_cases h1 : -400000000 ≤ a ∧ a ≤ 400000000
    · by_cases h2 : m < 1
      · exact .inr (.inr (.inl ⟨hn (by omega), rfl, h1, h2⟩))
      · by_cases h3 : 400000000 < m
        · exact .inr (.inr (.inr (.inl ⟨hn (by omega), rfl, h1, by omega, h3⟩)))
        · by_cases h4 : g = 1
          · by_cases h5 : u = 0
            · exact .inr (.inr (.inr (.inr (.inr (.inr ⟨hi.2 (by omega), rfl, h1, by omega, h4, h5, by omega⟩)))))
            · exact .inr (.inr (.inr (.inr (.inr (.inl ⟨hn (by omega), rfl, h1, by omega, h4, h5, by omega⟩)))))
          · exact .inr (.inr (.inr (.inr (.inl ⟨hn (by omega), rfl, h1, by omega, h4⟩))))
    · exact .inr (.inl ⟨hn (by omega), rfl, by omega⟩)

set_option maxHeartbeats 1000000 in
theorem impl_IsImage (n d a m : Int) (w : World) : Calls Tryz.prog 66 #[.agg #[.int .i64 n, .int .i64 d], .int .i64 a, .int .i64 m] w (BV (.bool (imgOk n d a m)) w) := by
  rcases img_cases n d a m with ⟨hr, h0⟩ | ⟨hr, h0, h1⟩ | ⟨hr, h0, h1, h2⟩ | ⟨hr, h0, h1, h2, h3⟩ | ⟨hr, h0, h1, h2, h3⟩ | ⟨hr, h0, ⟨h1, h1'⟩, ⟨h2, h2'⟩, h3, h4, h5⟩ | ⟨hr, h0, ⟨h1, h1'⟩, ⟨h2, h2'⟩, h3, h4, h5⟩
  · rw [hr]
    clear hr
    go_enter Tryz.func66, Tryz.ntmps66
    go_wp2_with (first | (go_at_call 39; refine (impl_IsRatio _ _ _).mono ?_; rintro e w1 ⟨rfl, hb⟩; have hz := hb.size; (try simp at hz); have kk := bkeep (w := w) hb Ks; obtain ⟨kc, kf⟩ := kk; (try (have kk := bkeepb (w.heap.size) hb Ks; obtain ⟨kc0, kf0, kl0⟩ := kk)); (try (have kk := bkeepb (w.heap.size + 1) hb Ks; obtain ⟨kc1, kf1, kl1⟩ := kk)); (try (have kk := bkeepb (w.heap.size + 1 + 1) hb Ks; obtain ⟨kc2, kf2, kl2⟩ := kk)); (try (have kk := bkeepb (w.heap.size + 1 + 1 + 1) hb Ks; obtain ⟨kc3, kf3, kl3⟩ := kk)); (try (have kk := bkeepb (wr.heap.size) hb Ks; obtain ⟨kr0, ks0, kt0⟩ := kk)); (try (have kk := bkeepb (wr.heap.size + 1) hb Ks; obtain ⟨kr1, ks1, kt1⟩ := kk)); (try (have kk := bkeepb (wr.heap.size + 1 + 1) hb Ks; obtain ⟨kr2, ks2, kt2⟩ := kk))))
    go_ret
    exact BV.mk rfl Kw
  iterate 3
    · rw [hr]
      clear hr
      obtain ⟨b1, b2, b3, b4⟩ := ratOk_bds h0
      go_enter Tryz.func66, Tryz.ntmps66
      go_wp2_with (first | (go_at_call 39; refine (impl_IsRatio _ _ _).mono ?_; rintro e w1 ⟨rfl, hb⟩; have hz := hb.size; (try simp at hz); have kk := bkeep (w := w) hb Ks; obtain ⟨kc, kf⟩ := kk; (try (have kk := bkeepb (w.heap.size) hb Ks; obtain ⟨kc0, kf0, kl0⟩ := kk)); (try (have kk := bkeepb (w.heap.size + 1) hb Ks; obtain ⟨kc1, kf1, kl1⟩ := kk)); (try (have kk := bkeepb (w.heap.size + 1 + 1) hb Ks; obtain ⟨kc2, kf2, kl2⟩ := kk)); (try (have kk := bkeepb (w.heap.size + 1 + 1 + 1) hb Ks; obtain ⟨kc3, kf3, kl3⟩ := kk)); (try (have kk := bkeepb (wr.heap.size) hb Ks; obtain ⟨kr0, ks0, kt0⟩ := kk)); (try (have kk := bkeepb (wr.heap.size + 1) hb Ks; obtain ⟨kr1, ks1, kt1⟩ := kk)); (try (have kk := bkeepb (wr.heap.size + 1 + 1) hb Ks; obtain ⟨kr2, ks2, kt2⟩ := kk))) | (go_at_call 42; (first | refine (impl_IsNumber_yes _ _ (by omega)).mono ?_ | refine (impl_IsNumber_no _ _ (by omega)).mono ?_ | refine (impl_IsNumber _ _).mono ?_); rintro e w' ⟨rfl, rfl⟩) | (go_at_call 69; refine (impl_gcd _ _ _ (by omega) (by omega) (by omega) (by omega)).mono ?_; rintro e w' ⟨rfl, nd, rfl⟩))
      go_ret
      exact BV.mk rfl Kw
  · rw [hr]
    clear hr
    obtain ⟨b1, b2, b3, b4⟩ := ratOk_bds h0
    have h3' : (((Int.gcd d m : Nat) : Int) != 1) = true := by rw [bne, h3]; rfl
    go_enter Tryz.func66, Tryz.ntmps66
    go_wp2_with (first | (go_at_call 39; refine (impl_IsRatio _ _ _).mono ?_; rintro e w1 ⟨rfl, hb⟩; have hz := hb.size; (try simp at hz); have kk := bkeep (w := w) hb Ks; obtain ⟨kc, kf⟩ := kk; (try (have kk := bkeepb (w.heap.size) hb Ks; obtain ⟨kc0, kf0, kl0⟩ := kk)); (try (have kk := bkeepb (w.heap.size + 1) hb Ks; obtain ⟨kc1, kf1, kl1⟩ := kk)); (try (have kk := bkeepb (w.heap.size + 1 + 1) hb Ks; obtain ⟨kc2, kf2, kl2⟩ := kk)); (try (have kk := bkeepb (w.heap.size + 1 + 1 + 1) hb Ks; obtain ⟨kc3, kf3, kl3⟩ := kk)); (try (have kk := bkeepb (wr.heap.size) hb Ks; obtain ⟨kr0, ks0, kt0⟩ := kk)); (try (have kk := bkeepb (wr.heap.size + 1) hb Ks; obtain ⟨kr1, ks1, kt1⟩ := kk)); (try (have kk := bkeepb (wr.heap.size + 1 + 1) hb Ks; obtain ⟨kr2, ks2, kt2⟩ := kk))) | (go_at_call 42; (first | refine (impl_IsNumber_yes _ _ (by omega)).mono ?_ | refine (impl_IsNumber_no _ _ (by omega)).mono ?_ | refine (impl_IsNumber _ _).mono ?_); rintro e w' ⟨rfl, rfl⟩) | (go_at_call 69; refine (impl_gcd _ _ _ (by omega) (by omega) (by omega) (by omega)).mono ?_; rintro e w' ⟨rfl, nd, rfl⟩))
    go_ret
    exact BV.mk rfl Kw
  all_goals
    rw [hr]
    clear hr
    obtain ⟨b1, b2, b3, b4⟩ := ratOk_bds h0
    obtain ⟨c1, c2⟩ := mul_bd2 a d 400000000 400000000 h1 h1' (by omega) b2
    have h3' : (((Int.gcd d m : Nat) : Int) != 1) = false := by rw [bne, h3]; rfl
    have h6 := mod_mul_sub a d n m
    rw [← h6] at h4
    clear h6
    have e1 := Int.emod_nonneg a (show m ≠ 0 by omega)
    have e2 := Int.emod_lt_of_pos a (show 0 < m by omega)
    have e3 := Int.emod_nonneg d (show m ≠ 0 by omega)
    have e4 := Int.emod_lt_of_pos d (show 0 < m by omega)
    obtain ⟨e5, e6⟩ := mul_bd (a % m) (d % m) 400000000 400000000 e1 (by omega) e3 (by omega)
    go_enter Tryz.func66, Tryz.ntmps66
    go_wp2_with (first | (go_at_call 39; refine (impl_IsRatio _ _ _).mono ?_; rintro e w1 ⟨rfl, hb⟩; have hz := hb.size; (try simp at hz); have kk := bkeep (w := w) hb Ks; obtain ⟨kc, kf⟩ := kk; (try (have kk := bkeepb (w.heap.size) hb Ks; obtain ⟨kc0, kf0, kl0⟩ := kk)); (try (have kk := bkeepb (w.heap.size + 1) hb Ks; obtain ⟨kc1, kf1, kl1⟩ := kk)); (try (have kk := bkeepb (w.heap.size + 1 + 1) hb Ks; obtain ⟨kc2, kf2, kl2⟩ := kk)); (try (have kk := bkeepb (w.heap.size + 1 + 1 + 1) hb Ks; obtain ⟨kc3, kf3, kl3⟩ := kk)); (try (have kk := bkeepb (wr.heap.size) hb Ks; obtain ⟨kr0, ks0, kt0⟩ := kk)); (try (have kk := bkeepb (wr.heap.size + 1) hb Ks; obtain ⟨kr1, ks1, kt1⟩ := kk)); (try (have kk := bkeepb (wr.heap.size + 1 + 1) hb Ks; obtain ⟨kr2, ks2, kt2⟩ := kk))) | (go_at_call 42; (first | refine (impl_IsNumber_yes _ _ (by omega)).mono ?_ | refine (impl_IsNumber_no _ _ (by omega)).mono ?_ | refine (impl_IsNumber _ _).mono ?_); rintro e w' ⟨rfl, rfl⟩) | (go_at_call 69; refine (impl_gcd _ _ _ (by omega) (by omega) (by omega) (by omega)).mono ?_; rintro e w' ⟨rfl, nd, rfl⟩))
    go_ret
    exact BV.mk rfl Kw

end Go.Proofs.YtlggfmfelakadaaGreatDoor

/-
  DERIVED. The contracts of the laws FnExactSymmetricOf, FnExactIsImage.
-/
namespace Go.Proofs.YtlggfmfelakadaaGreatDoor
open Go.RowKit
set_option linter.unusedVariables false
end Go.Proofs.YtlggfmfelakadaaGreatDoor

/-
  DERIVED. The contracts of firstCell, isZeroRow, row.
-/
namespace Go.Proofs.YtlggfmfelakadaaGreatDoor
open Go.RowKit
set_option linter.unusedVariables false
/-- The first place that is not 0; the length if there is none. -/
def fcN : List Int → Nat
  | [] => 0
  | x :: l => if x = 0 then fcN l + 1 else 0
def fcI (xs : List Int) : Int := if fcN xs < xs.length then (fcN xs : Int) else -1
theorem fcN_le : ∀ xs : List Int, fcN xs ≤ xs.length
  | [] => Nat.le_refl _
  | x :: l => by unfold fcN; have := fcN_le l; split <;> simp <;> omega
theorem fcN_zero : ∀ (xs : List Int) (j : Nat), j < fcN xs → xs.getD j 0 = 0
  | [], j, h => by simp [fcN] at h
  | x :: l, j, h => by
    unfold fcN at h
    split at h
    · rename_i h0
      match j, h with
      | 0, _ => simp [h0]
      | j + 1, h => simpa using fcN_zero l j (by omega)
    · omega
theorem fcN_ne : ∀ (xs : List Int), fcN xs < xs.length → xs.getD (fcN xs) 0 ≠ 0
  | [], h => by simp [fcN] at h
  | x :: l, h => by
    unfold fcN at h ⊢
    split
    · rename_i h0
      rw [if_pos h0] at h
      simpa using fcN_ne l (by simpa using h)
    · rename_i h0
      simpa using h0
theorem fcN_eq {xs : List Int} {k : Nat} (hk : k ≤ xs.length) (h0 : ∀ j, j < k → xs.getD j 0 = 0) (h1 : k < xs.length → xs.getD k 0 ≠ 0) : fcN xs = k := by
  rcases Nat.lt_trichotomy (fcN xs) k with h | h | h
  · exact absurd (h0 _ h) (fcN_ne xs (by omega))
  · exact h
  · have := fcN_le xs
    exact absurd (fcN_zero xs k h) (h1 (by omega))
/-- The first k are zeros. -/
def Zs (xs : List Int) (k : Nat) : Prop := ∀ j, j < k → xs.getD j 0 = 0
theorem Zs.succ {xs : List Int} {k : Nat} (h : Zs xs k) (h0 : xs.getD k 0 = 0) : Zs xs (k + 1) := fun j hj => by
  rcases Nat.lt_or_ge j k with h1 | h1
  · exact h j h1
  · obtain rfl : j = k := by omega
    exact h0

end Go.Proofs.YtlggfmfelakadaaGreatDoor

/-
  DERIVED. Sums of products of ratios. No program in sight.
-/
namespace Go.Proofs.YtlggfmfelakadaaGreatDoor
set_option linter.unusedVariables false
/-- Ratio k of the flat list. -/
def fl (qs : List Int) (k : Nat) : Int × Int := (qs.getD (k * 2) 0, qs.getD (k * 2 + 1) 0)
def rsum (f g : Nat → Int × Int) : Nat → Int × Int
  | 0 => (0, 1)
  | k + 1 => addR (rsum f g k) (mulR (f k) (g k))
theorem rsum_ok (f g : Nat → Int × Int) : ∀ k, (ratOk (rsum f g k).1 (rsum f g k).2 = true) ∨ rsum f g k = (0, 0)
  | 0 => .inl (by show ratOk 0 1 = true; decide +kernel)
  | k + 1 => addR_ok _ _
def ratRow (xs : List Int) (C : Nat) (qs : List Int) (i : Nat) : Int × Int := rsum (fun k => (cel xs C i k, 1)) (fl qs) C
def ratRows (xs : List Int) (R C : Nat) (bs qs : List Int) : Bool := (List.range R).all fun i => decide (ratRow xs C qs i = (bs.getD i 0, 1))
def irB (r c : Int) (xs bs qs : List Int) : Bool := isMat r c xs && decide ((bs.length : Int) = r) && decide ((qs.length : Int) = c * 2) && ratRows xs r.toNat c.toNat bs qs
theorem ir_cases (r c : Int) (xs bs qs : List Int) : (isMat r c xs = false ∧ irB r c xs bs qs = false) ∨ (isMat r c xs = true ∧ ((bs.length : Int) != r) = true ∧ irB r c xs bs qs = false) ∨
    (isMat r c xs = true ∧ ((bs.length : Int) != r) = false ∧ ¬ (qs.length : Int) = c * 2 ∧ irB r c xs bs qs = false) ∨ (isMat r c xs = true ∧ ((bs.length : Int) != r) = false ∧ (qs.length : Int) = c * 2 ∧ irB r c xs bs qs = ratRows xs r.toNat c.toNat bs qs) := by
  unfold irB
  rcases isMat r c xs with _ | _
  · left; simp
  · right
    by_cases h : (bs.length : Int) = r
    · right
      by_cases h2 : (qs.length : Int) = c * 2
      · right; exact ⟨rfl, by simp [h], h2, by simp [h, h2]⟩
      · left; exact ⟨rfl, by simp [h], h2, by simp [h2]⟩
    · left; simp [h]
theorem ratRows_no {xs : List Int} {R C : Nat} {bs qs : List Int} {i : Nat} (hi : i < R) (h : ¬ ratRow xs C qs i = (bs.getD i 0, 1)) : ratRows xs R C bs qs = false := by
  unfold ratRows
  rw [List.all_eq_false]
  exact ⟨i, List.mem_range.2 hi, by rw [decide_eq_false h]; simp⟩
theorem ratRows_yes {xs : List Int} {R C : Nat} {bs qs : List Int} (h : ∀ i, i < R → ratRow xs C qs i = (bs.getD i 0, 1)) : ratRows xs R C bs qs = true := by
  unfold ratRows
  rw [List.all_eq_true]
  intro i hi
  exact decide_eq_true (h i (List.mem_range.1 hi))
end Go.Proofs.YtlggfmfelakadaaGreatDoor

/-
  DERIVED. The contract of row; rows as lists.
-/
namespace Go.Proofs.YtlggfmfelakadaaGreatDoor
open Go.RowKit
set_option linter.unusedVariables false
/-- Row i of rows of C cells. -/
def rowL (xs : List Int) (C i : Nat) : List Int := (xs.drop (i * C)).take C
theorem rowL_len {xs : List Int} {C i : Nat} (h : i * C + C ≤ xs.length) : (rowL xs C i).length = C := by
  simp [rowL]; omega
theorem rowL_getD {xs : List Int} {C i j : Nat} (hj : j < C) : (rowL xs C i).getD j 0 = cel xs C i j := by
  unfold rowL cel
  have e : ((i : Int) * (C : Int) + (j : Int)).toNat = i * C + j := by
    rw [← Int.natCast_mul, ← Int.natCast_add, Int.toNat_natCast]
  rw [e]
  simp [List.getD, hj, List.getElem?_drop]
/-- The call returned a slice that lies below block B and reads as ys. -/
def RowV (B C : Nat) (ys : List Int) (w : World) (e : Ending) (w' : World) : Prop := ∃ A' cap', e = .returned (.slice A' C cap') ∧ RI w' B A' C ys ∧ Below w.heap.size w w' ∧ C ≤ cap' ∧ cap' ≤ 9223372036854775807
theorem addr_add (b o k : Nat) : (⟨b, o, none⟩ : Addr).add k = ⟨b, o + k, none⟩ := by
  unfold Addr.add; split <;> simp_all
theorem RI.row {w : World} {B n C i : Nat} {A : Option Addr} {xs : List Int} (h : RI w B A n xs) (hk : i * C + C ≤ n) : RI w B (A.map fun x => x.add (i * C)) C (rowL xs C i) := by
  refine ⟨rowL_len (by rw [h.len]; exact hk), fun hC => ?_⟩
  obtain ⟨b, o, rfl, hb, hc⟩ := h.2 (by omega)
  refine ⟨b, o + i * C, by simp [addr_add], hb, fun k hk2 => ?_⟩
  rw [Nat.add_assoc, hc (i * C + k) (by omega), rowL_getD hk2]
  unfold cel
  rw [show ((i : Int) * (C : Int) + (k : Int)).toNat = i * C + k by rw [← Int.natCast_mul, ← Int.natCast_add, Int.toNat_natCast]]
theorem sub_mul_row (i C : Nat) : (i + 1) * C - i * C = C := by rw [Nat.add_mul, Nat.one_mul]; omega
theorem impl_row (r : Int) (C i : Nat) (A : Option Addr) (n cap : Nat) (xs : List Int) (w : World) {B : Nat} (h : RI w B A n xs) (hB : B ≤ w.heap.size) (hnc : n ≤ cap) (hcap : cap ≤ 9223372036854775807) (hC : C ≤ 1000) (hi : i ≤ 1000) (hk : i * C + C ≤ n) :
    Calls Tryz.prog 20 #[.agg #[.int .i64 r, .int .i64 C, .slice A n cap], .int .i64 i] w
      (RowV B C (rowL xs C i) w) := by
  have hlen := h.len
  have e1 : (i : Int) * (C : Int) = ((i * C : Nat) : Int) := by rw [Int.natCast_mul]
  have e2 : ((i : Int) + 1) * (C : Int) = ((i * C + C : Nat) : Int) := by rw [Int.add_mul, e1, Int.one_mul, ← Int.natCast_add]
  have hm : i * C ≤ 1000 * 1000 := Nat.mul_le_mul hi hC
  have E1 := Lib.hid e1
  have E2 := Lib.hid e2
  have b1 : 0 ≤ (i : Int) * (C : Int) := by omega
  have b2 : (i : Int) * (C : Int) ≤ 1000000 := by omega
  have b3 : 0 ≤ ((i : Int) + 1) * (C : Int) := by omega
  have b4 : ((i : Int) + 1) * (C : Int) ≤ 1001000 := by omega
  have b5 : (i : Int) * (C : Int) ≤ ((i : Int) + 1) * (C : Int) := by omega
  have b6 : ((i : Int) + 1) * (C : Int) ≤ cap := by omega
  have H := Lib.hid h
  clear h e1 e2 hlen
  go_enter Tryz.func20, Tryz.ntmps20
  go_wp2_with fail
  · go_ret
    have h0 : C = 0 := by omega
    refine ⟨A, 0, ?_, ?_, Kw, by omega, by omega⟩
    · show Ending.returned (.slice A ((i + 1) * C - i * C) 0) = _
      rw [sub_mul_row]
    · subst h0
      exact ⟨by simp [rowL], fun h => absurd h (by omega)⟩
  · go_ret
    refine ⟨A.map fun x => x.add (i * C), cap - i * C, ?_, (H.out.row hk).alloc hB _, Kw, by omega, by omega⟩
    show Ending.returned (.slice (A.map fun x => x.add (i * C)) ((i + 1) * C - i * C) (cap - i * C)) = _
    rw [sub_mul_row]
end Go.Proofs.YtlggfmfelakadaaGreatDoor

/-
  DERIVED. The contracts of IsSquare, both; sums of rows.
-/
namespace Go.Proofs.YtlggfmfelakadaaGreatDoor
open Go.RowKit
set_option linter.unusedVariables false
theorem sq_cases (r c : Int) (xs : List Int) : (isMat r c xs = false ∧ isSq r c xs = false) ∨ (isMat r c xs = true ∧ (r == c) = false ∧ isSq r c xs = false) ∨
    (isMat r c xs = true ∧ (r == c) = true ∧ 6 < r ∧ isSq r c xs = false) ∨ (isMat r c xs = true ∧ (r == c) = true ∧ r ≤ 6 ∧ isSq r c xs = true) := by
  unfold isSq
  rcases hm : isMat r c xs with _ | _
  · left; simp
  · right
    by_cases hrc : r = c
    · right
      by_cases h6 : 6 < r
      · left; simp [hrc] at *; omega
      · right; simp [hrc] at *; omega
    · left; simp [hrc]
theorem impl_IsSquare (r c : Int) (A : Option Addr) (n cap : Nat) (xs : List Int) (w : World) {B : Nat} (h : RI w B A n xs) (hB : B ≤ w.heap.size) (hn : n ≤ 1048576) :
    Calls Tryz.prog 60 #[.agg #[.int .i64 r, .int .i64 c, .slice A n cap]] w (BV (.bool (isSq r c xs)) w) := by
  have H2 := Lib.hid (h.more hB)
  clear h
  rcases sq_cases r c xs with ⟨hm, hr⟩ | ⟨hm, h1, hr⟩ | ⟨hm, h1, h2, hr⟩ | ⟨hm, h1, h2, hr⟩
  all_goals
    rw [hr]
    have HM := Lib.hid hm
    clear hm hr
    go_enter Tryz.func60, Tryz.ntmps60
    go_wp2_with (first | (go_at_call 18; refine (impl_IsMatrix r c A n cap xs _ (C := w.heap.size) (Kr H2.out) Ks hn).mono ?_; rw [HM.out]; rintro e w1 ⟨rfl, hb⟩; have hz := hb.size; (try simp at hz); have kk := bkeep (w := w) hb Ks; obtain ⟨kc, kf⟩ := kk; (try (have kk := bkeepb (w.heap.size) hb Ks; obtain ⟨kc0, kf0, kl0⟩ := kk)); (try (have kk := bkeepb (w.heap.size + 1) hb Ks; obtain ⟨kc1, kf1, kl1⟩ := kk)); (try (have kk := bkeepb (w.heap.size + 1 + 1) hb Ks; obtain ⟨kc2, kf2, kl2⟩ := kk)); (try (have kk := bkeepb (w.heap.size + 1 + 1 + 1) hb Ks; obtain ⟨kc3, kf3, kl3⟩ := kk)); (try (have kk := bkeepb (wr.heap.size) hb Ks; obtain ⟨kr0, ks0, kt0⟩ := kk)); (try (have kk := bkeepb (wr.heap.size + 1) hb Ks; obtain ⟨kr1, ks1, kt1⟩ := kk)); (try (have kk := bkeepb (wr.heap.size + 1 + 1) hb Ks; obtain ⟨kr2, ks2, kt2⟩ := kk))))
    go_ret
    first | exact BV.mk rfl Kw | exact BV.mk (vbool (show decide (r ≤ 6) = _ by simp; omega)) Kw
structure IsS (r c : Int) (xs : List Int) : Prop where
  m : IsM r c xs
  e : r = c
  le : r ≤ 6
theorem isSq_iff {r c : Int} {xs : List Int} : isSq r c xs = true ↔ IsS r c xs := by
  simp only [isSq, Bool.and_eq_true, decide_eq_true_eq, isMat_iff]
  exact ⟨fun ⟨⟨h1, h2⟩, h3⟩ => ⟨h1, h2, h3⟩, fun ⟨h1, h2, h3⟩ => ⟨⟨h1, h2⟩, h3⟩⟩
/-- The sum of the absolute values of the first j numbers. -/
def absSum (l : List Int) : Nat → Int
  | 0 => 0
  | j + 1 => absSum l j + (l.getD j 0).natAbs
theorem absSum_bd {l : List Int} (h : ∀ k, -400000000 ≤ l.getD k 0 ∧ l.getD k 0 ≤ 400000000) : ∀ j : Nat, 0 ≤ absSum l j ∧ absSum l j ≤ 400000000 * j
  | 0 => by simp [absSum]
  | j + 1 => by
    have h1 := absSum_bd h j
    have h2 := h j
    unfold absSum
    omega
theorem absSum_mono {l : List Int} (h : ∀ k, -400000000 ≤ l.getD k 0 ∧ l.getD k 0 ≤ 400000000) (j : Nat) : absSum l j ≤ absSum l (j + 1) := by
  show _ ≤ absSum l j + _
  omega
/-- The product of the sums, while all stays within the limit. -/
def bndI (p : Int) : List Int → Option Int
  | [] => some p
  | s :: l => if isNum s = true ∧ isNum (p * s) = true then bndI (p * s) l else none
def rowSums (xs : List Int) (C : Nat) (R : Nat) : List Int := (List.range R).map fun i => absSum (rowL xs C i) C
def bndRes (r c : Int) (xs : List Int) : Option Int := if isSq r c xs then bndI 1 (rowSums xs c.toNat r.toNat) else none
def optV : Option Int → Value
  | none => .tuple #[.int .i64 0, .bool false]
  | some n => .tuple #[.int .i64 n, .bool true]
theorem rowSums_drop {xs : List Int} {C R i : Nat} (h : i < R) : (rowSums xs C R).drop i = absSum (rowL xs C i) C :: (rowSums xs C R).drop (i + 1) := by
  rw [List.drop_eq_getElem_cons (by simp [rowSums]; exact h)]
  simp [rowSums]
theorem rowSums_end (xs : List Int) (C R : Nat) : (rowSums xs C R).drop R = [] := by
  apply List.drop_of_length_le; simp [rowSums]
end Go.Proofs.YtlggfmfelakadaaGreatDoor

/-
  DERIVED. What a Hermite form asks, row by row: no program in sight.
-/
namespace Go.Proofs.YtlggfmfelakadaaGreatDoor
set_option linter.unusedVariables false
/-- The pivot of row i: the first column that is not 0, or the number of columns. -/
def pv (xs : List Int) (C i : Nat) : Nat := fcN (rowL xs C i)
def lastP (xs : List Int) (C i : Nat) : Int := if i = 0 then -1 else pv xs C (i - 1)
def hcA (xs : List Int) (C i k : Nat) : Bool := decide (0 ≤ cel xs C k (pv xs C i)) && decide (cel xs C k (pv xs C i) < cel xs C i (pv xs C i))
def hrow (xs : List Int) (C i : Nat) : Bool :=
  if pv xs C i < C then decide (lastP xs C i < pv xs C i) && decide (0 ≤ cel xs C i (pv xs C i)) && (List.range i).all (hcA xs C i) else true
def hcS (xs : List Int) (C i k : Nat) : Bool := if k < i then hcA xs C i k else if k = i then true else decide (cel xs C k (pv xs C i) = 0)
def hrowS (xs : List Int) (R C i : Nat) : Bool :=
  if pv xs C i < C then decide (lastP xs C i < pv xs C i) && decide (0 ≤ cel xs C i (pv xs C i)) && (List.range R).all (hcS xs C i) else true
def hermB (r c : Int) (xs : List Int) : Bool := isMat r c xs && (List.range r.toNat).all (hrow xs c.toNat)
theorem pv_le {xs : List Int} {R C i : Nat} (hl : xs.length = R * C) (hi : i < R) : pv xs C i ≤ C := by
  have h := fcN_le (rowL xs C i)
  rw [rowL_len (by rw [hl]; have := Nat.mul_le_mul_right C (show i + 1 ≤ R by omega); rw [Nat.add_mul, Nat.one_mul] at this; exact this)] at h
  exact h
theorem lastP_zero (xs : List Int) (C : Nat) : lastP xs C 0 = -1 := by simp [lastP]
theorem lastP_succ (xs : List Int) (C i : Nat) : lastP xs C (i + 1) = pv xs C i := by simp [lastP]
theorem pv_zero {xs : List Int} {C i j : Nat} (h : j < pv xs C i) (hj : j < C) : cel xs C i j = 0 := by
  rw [← rowL_getD hj]; exact fcN_zero _ _ h
theorem pv_inc {xs : List Int} {R C : Nat} (hl : xs.length = R * C) (h : (List.range R).all (hrow xs C) = true) {i : Nat} : ∀ k, i < k → k < R → pv xs C k < C → pv xs C i < pv xs C k := by
  intro k
  induction k with
  | zero => intro h1; omega
  | succ k ih =>
    intro h1 h2 h3
    have hk : hrow xs C (k + 1) = true := List.all_eq_true.1 h _ (List.mem_range.2 h2)
    unfold hrow at hk
    rw [if_pos h3, lastP_succ] at hk
    simp only [Bool.and_eq_true, decide_eq_true_eq] at hk
    have h4 := hk.1.1
    by_cases hik : i = k
    · subst hik; omega
    · have := ih (by omega) (by omega) (by omega); omega
theorem herm_iff {xs : List Int} {R C : Nat} (hl : xs.length = R * C) : (List.range R).all (hrow xs C) = (List.range R).all (hrowS xs R C) := by
  rw [Bool.eq_iff_iff]
  constructor
  · intro h
    rw [List.all_eq_true]
    intro i hi
    have hi' := List.mem_range.1 hi
    have h1 : hrow xs C i = true := List.all_eq_true.1 h _ hi
    unfold hrow at h1
    unfold hrowS
    split
    · rename_i hp
      rw [if_pos hp] at h1
      simp only [Bool.and_eq_true] at h1 ⊢
      refine ⟨h1.1, ?_⟩
      rw [List.all_eq_true]
      intro k hk
      have hk' := List.mem_range.1 hk
      unfold hcS
      split
      · rename_i hki
        exact List.all_eq_true.1 h1.2 k (List.mem_range.2 hki)
      · split
        · rfl
        · rw [decide_eq_true_eq]
          apply pv_zero _ hp
          by_cases hc : pv xs C k < C
          · exact pv_inc hl h k (by omega) hk' hc
          · have := pv_le hl hk'; omega
    · rfl
  · intro h
    rw [List.all_eq_true]
    intro i hi
    have hi' := List.mem_range.1 hi
    have h1 : hrowS xs R C i = true := List.all_eq_true.1 h _ hi
    unfold hrowS at h1
    unfold hrow
    split
    · rename_i hp
      rw [if_pos hp] at h1
      simp only [Bool.and_eq_true] at h1 ⊢
      refine ⟨h1.1, ?_⟩
      rw [List.all_eq_true]
      intro k hk
      have hk' := List.mem_range.1 hk
      have h2 : hcS xs C i k = true := List.all_eq_true.1 h1.2 k (List.mem_range.2 (by omega))
      unfold hcS at h2
      rw [if_pos hk'] at h2
      exact h2
    · rfl
theorem hermB_S (r c : Int) (xs : List Int) : hermB r c xs = (isMat r c xs && (List.range r.toNat).all (hrowS xs r.toNat c.toNat)) := by
  unfold hermB
  rcases hm : isMat r c xs with _ | _
  · rfl
  · have M := isMat_iff.1 hm
    rw [herm_iff]
    have h1 := M.len; have h2 := M.r0; have h3 := M.c0
    obtain ⟨R, rfl⟩ := nat_of h2
    obtain ⟨C, rfl⟩ := nat_of h3
    simp only [Int.toNat_natCast]
    rw [← Int.natCast_mul] at h1; omega
end Go.Proofs.YtlggfmfelakadaaGreatDoor

/-
  DERIVED. The contracts of inverseAny, InverseModulo and ResidueOf.
-/
namespace Go.Proofs.YtlggfmfelakadaaGreatDoor
open Go.RowKit
set_option linter.unusedVariables false
/-- The inverse that Euclid's algorithm finds. -/
def invOf (a m : Int) : Int := (egRes (a % m) m).2.1 % m
theorem emod_bds (a m : Int) (hm : 1 ≤ m) : 0 ≤ a % m ∧ a % m < m := ⟨Int.emod_nonneg a (by omega), Int.emod_lt_of_pos a (by omega)⟩
theorem egRes_bds {a b : Int} (ha : -400000000 ≤ a ∧ a ≤ 400000000) (hb : -400000000 ≤ b ∧ b ≤ 400000000) :
    (-400000000 ≤ (egRes a b).1 ∧ (egRes a b).1 ≤ 400000000) ∧ (-400000000 ≤ (egRes a b).2.1 ∧ (egRes a b).2.1 ≤ 400000000) ∧ (-400000000 ≤ (egRes a b).2.2 ∧ (egRes a b).2.2 ≤ 400000000) := by
  obtain ⟨G, X, Y, U, V, hr, i⟩ := egL_spec (a := a) (b := b) (by omega) (by omega) _ _ _ _ _ _ _ (Nat.le_refl _) (EgInv.start ha hb)
  have g1 := i.g1
  have x1 := i.x1
  have y1 := i.y1
  unfold egRes
  rw [hr]
  dsimp only
  split
  · exact ⟨by dsimp only; omega, by dsimp only; omega, by dsimp only; omega⟩
  · exact ⟨by dsimp only; omega, by dsimp only; omega, by dsimp only; omega⟩

theorem impl_inverseAny (a m : Int) (ha : -9223372036854775808 ≤ a ∧ a ≤ 9223372036854775807) (hm : 1 ≤ m ∧ m ≤ 400000000) (w : World) :
    Calls Tryz.prog 71 #[.int .i64 a, .int .i64 m] w (BV (.int .i64 (invOf a m)) w) := by
  obtain ⟨m1, m2⟩ := emod_bds a m hm.1
  obtain ⟨_, ⟨x1, x2⟩, _⟩ := egRes_bds (a := a % m) (b := m) (by omega) (by omega)
  go_enter Tryz.func71, Tryz.ntmps71
  go_wp2_with (first | (go_at_call 64; refine (impl_mod _ _ _ (by omega) (by omega) (by omega) (by omega)).mono ?_; rintro e w' ⟨rfl, rfl⟩) | (go_at_call 86; refine (impl_ExtendedGcd _ _ (by omega) (by omega) _).mono ?_; rintro e w1 ⟨rfl, hb⟩; simp only [egV]; have hz := hb.size; (try simp at hz); have kk := bkeep (w := w) hb Ks; obtain ⟨kc, kf⟩ := kk; (try (have kk := bkeepb (w.heap.size) hb Ks; obtain ⟨kc0, kf0, kl0⟩ := kk)); (try (have kk := bkeepb (w.heap.size + 1) hb Ks; obtain ⟨kc1, kf1, kl1⟩ := kk)); (try (have kk := bkeepb (w.heap.size + 1 + 1) hb Ks; obtain ⟨kc2, kf2, kl2⟩ := kk)); (try (have kk := bkeepb (w.heap.size + 1 + 1 + 1) hb Ks; obtain ⟨kc3, kf3, kl3⟩ := kk)); (try (have kk := bkeepb (wr.heap.size) hb Ks; obtain ⟨kr0, ks0, kt0⟩ := kk)); (try (have kk := bkeepb (wr.heap.size + 1) hb Ks; obtain ⟨kr1, ks1, kt1⟩ := kk)); (try (have kk := bkeepb (wr.heap.size + 1 + 1) hb Ks; obtain ⟨kr2, ks2, kt2⟩ := kk))))
  go_ret
  exact BV.mk rfl Kw

def invOk (a p : Int) : Bool := isPr p && isNum a && decide (a % p ≠ 0)
def invRes (a p : Int) : Int := if invOk a p then invOf a p else 0
theorem isPr_bds {p : Int} (h : isPr p = true) : 2 ≤ p ∧ p ≤ 10000 := by
  simp only [isPr, Bool.and_eq_true, decide_eq_true_eq] at h
  exact h.1
theorem inv_cases (a p : Int) : (isPr p = false ∧ invOk a p = false ∧ invRes a p = 0) ∨ (isPr p = true ∧ isNum a = false ∧ invOk a p = false ∧ invRes a p = 0) ∨
    (isPr p = true ∧ isNum a = true ∧ (a % p == 0) = true ∧ (a.tmod p == 0) = true ∧ invOk a p = false ∧ invRes a p = 0) ∨
    (isPr p = true ∧ isNum a = true ∧ (a % p == 0) = false ∧ (a.tmod p == 0) = false ∧ invOk a p = true ∧ invRes a p = invOf a p) := by
  unfold invRes
  rcases hp : isPr p with _ | _
  · left; simp [invOk, hp]
  · rcases hn : isNum a with _ | _
    · right; left; simp [invOk, hp, hn]
    · right; right
      have ht := tmod_zero_iff a p
      by_cases h0 : a % p = 0
      · left; simp [invOk, hp, hn, h0]; omega
      · right; simp [invOk, hp, hn, h0]; omega

def resOk (n d m : Int) : Bool := ratOk n d && decide (1 ≤ m) && decide (m ≤ 400000000) && decide (Int.gcd d m = 1)
def resVal (n d m : Int) : Int := if resOk n d m then (n % m * invOf d m) % m else 0
theorem res_cases (n d m : Int) : (ratOk n d = false ∧ resOk n d m = false ∧ resVal n d m = 0) ∨ (ratOk n d = true ∧ m < 1 ∧ resOk n d m = false ∧ resVal n d m = 0) ∨
    (ratOk n d = true ∧ 1 ≤ m ∧ 400000000 < m ∧ resOk n d m = false ∧ resVal n d m = 0) ∨
    (ratOk n d = true ∧ 1 ≤ m ∧ m ≤ 400000000 ∧ (((Int.gcd d m : Nat) : Int) != 1) = true ∧ resOk n d m = false ∧ resVal n d m = 0) ∨
    (ratOk n d = true ∧ 1 ≤ m ∧ m ≤ 400000000 ∧ (((Int.gcd d m : Nat) : Int) != 1) = false ∧ resOk n d m = true ∧ resVal n d m = (n % m * invOf d m) % m) := by
  unfold resVal
  rcases hr : ratOk n d with _ | _
  · left; simp [resOk, hr]
  · right
    by_cases h1 : m < 1
    · left
      have : ¬ 1 ≤ m := by omega
      simp [resOk, hr, h1, this]
    · right
      by_cases h2 : 400000000 < m
      · left
        have : ¬ m ≤ 400000000 := by omega
        simp [resOk, hr, h2, this]; omega
      · right
        have a1 : 1 ≤ m := by omega
        have a2 : m ≤ 400000000 := by omega
        by_cases h3 : Int.gcd d m = 1
        · right; simp [resOk, hr, h3, a1, a2]
        · left
          simp [resOk, hr, h3, a1, a2]; omega
theorem ret_prod (a b m : Int) : a * b % m = b * a % m := by rw [Int.mul_comm]

end Go.Proofs.YtlggfmfelakadaaGreatDoor

/-
  DERIVED. Primitive rows: no program in sight.
-/
namespace Go.Proofs.YtlggfmfelakadaaGreatDoor
set_option linter.unusedVariables false
/-- The greatest common divisor of a list. -/
def gcdL (l : List Int) : Nat := l.foldl (fun (g : Nat) (x : Int) => Int.gcd g x) 0
theorem gcdL_nil : gcdL [] = 0 := rfl
theorem gcdL_take {l : List Int} {k : Nat} (h : k < l.length) : gcdL (l.take (k + 1)) = Int.gcd (gcdL (l.take k)) (l.getD k 0) := by
  have e : l[k]? = some (l.getD k 0) := by simp [List.getD, h]
  rw [List.take_add_one, e]
  simp [gcdL, List.foldl_append]
theorem gcdF_dvd (l : List Int) : ∀ a : Nat, (l.foldl (fun (g : Nat) (x : Int) => Int.gcd g x) a) ∣ a ∧ ∀ x ∈ l, ((l.foldl (fun (g : Nat) (x : Int) => Int.gcd g x) a : Nat) : Int) ∣ x := by
  induction l with
  | nil => intro a; simp
  | cons y l ih =>
    intro a
    obtain ⟨h1, h2⟩ := ih (Int.gcd a y)
    have h3 : Int.gcd a y ∣ a := by
      have := Int.gcd_dvd_left (a := (a : Int)) (b := y); exact Int.natCast_dvd_natCast.1 this
    have h4 : ((Int.gcd a y : Nat) : Int) ∣ y := Int.gcd_dvd_right ..
    refine ⟨Nat.dvd_trans h1 h3, fun x hx => ?_⟩
    rcases List.mem_cons.1 hx with rfl | hx
    · exact Int.dvd_trans (Int.natCast_dvd_natCast.2 h1) h4
    · exact h2 x hx
theorem gcdL_dvd {l : List Int} {x : Int} (h : x ∈ l) : (gcdL l : Int) ∣ x := (gcdF_dvd l 0).2 x h
theorem gcdF_greatest (l : List Int) : ∀ (a d : Nat), d ∣ a → (∀ x ∈ l, (d : Int) ∣ x) → d ∣ l.foldl (fun (g : Nat) (x : Int) => Int.gcd g x) a := by
  induction l with
  | nil => intro a d h _; simpa using h
  | cons y l ih =>
    intro a d h h2
    refine ih _ d ?_ (fun x hx => h2 x (List.mem_cons_of_mem _ hx))
    exact Int.natCast_dvd_natCast.1 (Int.dvd_coe_gcd (Int.natCast_dvd_natCast.2 h) (h2 y (List.mem_cons_self ..)))
theorem dvd_gcdL {l : List Int} {d : Nat} (h : ∀ x ∈ l, (d : Int) ∣ x) : d ∣ gcdL l := gcdF_greatest l 0 d (Nat.dvd_zero _) h
theorem gcdL_zero {l : List Int} : gcdL l = 0 ↔ ∀ x ∈ l, x = 0 := by
  constructor
  · intro h x hx
    have := gcdL_dvd hx
    rw [h] at this
    simpa using this
  · intro h
    have : (0 : Nat) ∣ gcdL l := dvd_gcdL fun x hx => by rw [h x hx]; exact Int.dvd_zero _
    simpa using this
theorem mem_getD {l : List Int} {k : Nat} (h : k < l.length) : l.getD k 0 ∈ l := by
  have : l.getD k 0 = l[k] := by simp [List.getD, h]
  rw [this]; exact List.getElem_mem h
theorem fcN_lt_iff {l : List Int} : fcN l < l.length ↔ gcdL l ≠ 0 := by
  constructor
  · intro h h0
    exact fcN_ne l h (gcdL_zero.1 h0 _ (mem_getD h))
  · intro h
    apply Classical.byContradiction
    intro h1
    apply h
    rw [gcdL_zero]
    intro x hx
    obtain ⟨i, hi, rfl⟩ := List.mem_iff_getElem.1 hx
    have := fcN_zero l i (by have := fcN_le l; omega)
    simpa [List.getD, hi] using this
/-- The divisor of a row: its cells' greatest common divisor, with the sign of the first cell that is not 0. -/
def divL (l : List Int) : Int := if l.getD (fcN l) 0 < 0 then -(gcdL l : Int) else gcdL l
/-- The primitive row. -/
def primL (l : List Int) : List Int := if gcdL l = 0 then l else l.map (·.tdiv (divL l))
theorem primL_len (l : List Int) : (primL l).length = l.length := by unfold primL; split <;> simp
theorem divL_dvd {l : List Int} {x : Int} (h : x ∈ l) : divL l ∣ x := by
  unfold divL
  split
  · exact Int.neg_dvd.2 (gcdL_dvd h)
  · exact gcdL_dvd h
theorem divL_abs (l : List Int) : (divL l).natAbs = gcdL l := by unfold divL; split <;> omega
theorem map_tdiv_one {l : List Int} : l.map (·.tdiv 1) = l := by simp
/-- A row is primitive exactly if it is zeros or has no common divisor and begins with a positive number. -/
theorem primL_eq_iff (l : List Int) : primL l = l ↔ gcdL l = 0 ∨ (gcdL l = 1 ∧ 0 ≤ l.getD (fcN l) 0) := by
  unfold primL
  by_cases h0 : gcdL l = 0
  · simp [h0]
  · rw [if_neg h0]
    have hlt := fcN_lt_iff.2 h0
    have hm := mem_getD hlt
    have hne := fcN_ne l hlt
    constructor
    · intro h
      right
      have h1 : (l.map (·.tdiv (divL l))).getD (fcN l) 0 = l.getD (fcN l) 0 := by rw [h]
      have h2 : (l.map (·.tdiv (divL l))).getD (fcN l) 0 = (l.getD (fcN l) 0).tdiv (divL l) := by simp [List.getD, hlt]
      rw [h2] at h1
      obtain ⟨q, hq⟩ := divL_dvd hm
      have hd0 : divL l ≠ 0 := by
        intro e; have := divL_abs l; rw [e] at this; simp at this; omega
      have h3 : (l.getD (fcN l) 0).tdiv (divL l) = q := by rw [hq]; exact Int.mul_tdiv_cancel_left q hd0
      rw [h3] at h1
      have h4 : divL l = 1 := by
        have hq0 : q ≠ 0 := by rw [h1]; exact hne
        have : divL l * q = 1 * q := by rw [Int.one_mul, ← hq, h1]
        exact Int.eq_of_mul_eq_mul_right hq0 this
      have h5 := divL_abs l
      rw [h4] at h5
      refine ⟨by simpa using h5.symm, ?_⟩
      rcases Int.lt_or_le (l.getD (fcN l) 0) 0 with h6 | h6
      · unfold divL at h4; rw [if_pos h6] at h4; omega
      · exact h6
    · rintro (h | ⟨h1, h2⟩)
      · exact absurd h h0
      · have h3 : divL l = 1 := by unfold divL; rw [if_neg (by omega), h1]; rfl
        rw [h3, map_tdiv_one]
end Go.Proofs.YtlggfmfelakadaaGreatDoor

/-
  DERIVED. RatioFrom: the search of the program and the algorithm of the reference come to one ratio.
-/
namespace Go.Proofs.YtlggfmfelakadaaGreatDoor
open Go.RowKit
set_option linter.unusedVariables false
/-- The search over the denominators from d on. -/
def rfI (a m b : Int) : Nat → Int → Option (Int × Int)
  | 0, _ => none
  | k + 1, d => if (symOf (a * d % m) m).natAbs ≤ b ∧ imgOk (symOf (a * d % m) m) d a m = true then some (symOf (a * d % m) m, d) else rfI a m b k (d + 1)
/-- What the reference makes of the algorithm's end. -/
def rfEnd (a m b : Int) (r : Int × Int) : Option (Int × Int) :=
  if r.2 < 0 then (if b < -r.2 ∨ imgOk (-r.1) (-r.2) a m = false then none else some (-r.1, -r.2)) else (if b < r.2 ∨ imgOk r.1 r.2 a m = false then none else some r)
structure RfOk (a m b : Int) : Prop where
  a1 : -400000000 ≤ a
  a2 : a ≤ 400000000
  m1 : 1 ≤ m
  m2 : m ≤ 400000000
  b1 : 1 ≤ b
  b2 : b ≤ 20000
  bm : 2 * b * b < m
theorem good_iff {a m b : Int} (g : RfOk a m b) (n d : Int) : Good a m b n d ↔ (1 ≤ d ∧ d ≤ b) ∧ (n.natAbs : Int) ≤ b ∧ imgOk n d a m = true := by
  rw [imgOk_iff, ratOk_iff]
  have hb := g.b2
  constructor
  · intro h
    have h1 := h.d1
    have h2 := h.d2
    have h3 := h.n1
    have h4 := h.n2
    exact ⟨⟨h1, h2⟩, by omega, ⟨⟨h1, by omega⟩, ⟨by omega, by omega⟩, h.co⟩, ⟨g.a1, g.a2⟩, ⟨g.m1, g.m2⟩, h.cm, Int.emod_eq_zero_of_dvd h.im⟩
  · rintro ⟨⟨h1, h2⟩, h3, ⟨_, _, h4⟩, _, _, h5, h6⟩
    exact ⟨h1, h2, by omega, by omega, h4, h5, Int.dvd_of_emod_eq_zero h6⟩
theorem symOf_of {m b n y : Int} (hm : 1 ≤ m) (hb : 2 * b < m) (h1 : -b ≤ n) (h2 : n ≤ b) (hd : m ∣ y - n) : symOf (y % m) m = n := by
  unfold symOf
  rw [Int.emod_emod]
  have e0 := Int.emod_nonneg y (show m ≠ 0 by omega)
  have e1 := Int.emod_lt_of_pos y (show 0 < m by omega)
  have e2 := Int.mul_ediv_add_emod y m
  have e3 : m ∣ y % m - n := by
    have : y % m - n = (y - n) - m * (y / m) := by omega
    rw [this]
    exact Int.dvd_sub hd ⟨_, rfl⟩
  rcases Int.lt_or_le n 0 with hn | hn
  · have e4 : m ∣ y % m - n - m := Int.dvd_sub e3 (Int.dvd_refl m)
    have := small_of_dvd e4 (by omega) (by omega)
    rw [if_pos (by omega)]; omega
  · have := small_of_dvd e3 (by omega) (by omega)
    rw [if_neg (by omega)]; omega
theorem two_b {a m b : Int} (g : RfOk a m b) : 2 * b < m := by
  have h1 := g.b1
  have h2 := g.bm
  have h3 : b * 1 ≤ b * b := Int.mul_le_mul_of_nonneg_left h1 (by omega)
  have h4 : 2 * b * b = 2 * (b * b) := by rw [Int.mul_assoc]
  omega
theorem Good.cond {a m b n d : Int} (g : RfOk a m b) (h : Good a m b n d) : symOf (a * d % m) m = n := symOf_of g.m1 (two_b g) h.n1 h.n2 h.im
theorem rfI_some {a m b : Int} (g : RfOk a m b) : ∀ (k : Nat) (d0 : Int) (r : Int × Int), 1 ≤ d0 → d0 + k ≤ b + 1 → rfI a m b k d0 = some r → Good a m b r.1 r.2
  | 0, d0, r, _, _, h => by simp [rfI] at h
  | k + 1, d0, r, h0, h1, h => by
    unfold rfI at h
    split at h
    · rename_i hc
      injection h with h
      subst h
      exact (good_iff g _ _).2 ⟨⟨h0, by omega⟩, hc.1, hc.2⟩
    · exact rfI_some g k (d0 + 1) r (by omega) (by omega) h
theorem rfI_none {a m b : Int} (g : RfOk a m b) : ∀ (k : Nat) (d0 : Int), rfI a m b k d0 = none → ∀ n d, Good a m b n d → d0 ≤ d → d < d0 + k → False
  | 0, d0, _, n, d, _, h1, h2 => by omega
  | k + 1, d0, h, n, d, hg, h1, h2 => by
    unfold rfI at h
    split at h
    · cases h
    · rename_i hc
      by_cases he : d = d0
      · subst he
        apply hc
        rw [hg.cond g]
        exact ((good_iff g _ _).1 hg).2
      · exact rfI_none g k (d0 + 1) h n d hg (by omega) (by omega)
theorem rf_eq {a m b : Int} (g : RfOk a m b) : rfEnd a m b (rfS b m 0 (a % m) 1) = rfI a m b b.toNat 1 := by
  obtain ⟨G, X, H, U, S, hr, i, hb⟩ := rfS_spec (a := a) (m := m) (b := b) (by have := g.b1; omega) _ _ _ _ _ _ (Nat.le_refl _) (RfInv.start g.m1 (by have := two_b g; have := g.b1; omega))
  rw [hr]
  have hb1 := g.b1
  rcases hI : rfI a m b b.toNat 1 with _ | r
  · -- none is good
    have hno := fun n d (hg : Good a m b n d) => rfI_none g _ _ hI n d hg hg.d1 (by have := hg.d2; omega)
    unfold rfEnd
    have key : ∀ n d : Int, (n.natAbs : Int) ≤ b → ¬ (1 ≤ d ∧ d ≤ b ∧ imgOk n d a m = true) := fun n d hn hd => hno n d ((good_iff g n d).2 ⟨⟨hd.1, hd.2.1⟩, hn, hd.2.2⟩)
    have pos : ∀ n d : Int, imgOk n d a m = true → 1 ≤ d := fun n d h => (ratOk_bds ((imgOk_iff _ _ _ _).1 h).1).1
    have hh0 := i.h0
    dsimp only
    split
    · rw [if_pos]
      rcases hi : imgOk (-H) (-U) a m with _ | _
      · exact .inr rfl
      · left
        have k1 := key (-H) (-U) (by omega)
        have k2 := pos _ _ hi
        rcases Int.lt_or_le b (-U) with k3 | k3
        · exact k3
        · exact absurd ⟨k2, k3, hi⟩ k1
    · rw [if_pos]
      rcases hi : imgOk H U a m with _ | _
      · exact .inr rfl
      · left
        have k1 := key H U (by omega)
        have k2 := pos _ _ hi
        rcases Int.lt_or_le b U with k3 | k3
        · exact k3
        · exact absurd ⟨k2, k3, hi⟩ k1
  · have hg := rfI_some g _ _ r (by omega) (by omega) hI
    obtain ⟨e1, e2⟩ := hg.found g.m1 g.b1 g.bm i hb
    obtain ⟨n, d⟩ := r
    dsimp only at e1 e2 hg
    have hi := ((good_iff g n d).1 hg).2.2
    have h1 := hg.d1
    have h2 := hg.d2
    unfold rfEnd
    dsimp only
    rcases i.sg with rfl | rfl
    · have e1' : n = H := by omega
      have e2' : d = U := by omega
      clear e1 e2
      subst e1'; subst e2'
      have hc : ¬ (b < d ∨ imgOk n d a m = false) := by
        rw [hi]; simp; omega
      rw [if_neg (by omega), if_neg hc]
    · have e1' : n = -H := by omega
      have e2' : d = -U := by omega
      clear e1 e2
      subst e1'; subst e2'
      have hc : ¬ (b < -U ∨ imgOk (-H) (-U) a m = false) := by
        rw [hi]; simp; omega
      rw [if_pos (by omega), if_neg hc]
end Go.Proofs.YtlggfmfelakadaaGreatDoor

/-
  DERIVED. The contract of impl.RowBound.
-/
namespace Go.Proofs.YtlggfmfelakadaaGreatDoor
open Go.RowKit
set_option linter.unusedVariables false
/-- The numbers of a row are within the limit. -/
theorem IsM.row_bd {r c : Int} {xs : List Int} (h : IsM r c xs) (C i : Nat) (k : Nat) : -400000000 ≤ (rowL xs C i).getD k 0 ∧ (rowL xs C i).getD k 0 ≤ 400000000 := by
  by_cases hk : k < C
  · rw [rowL_getD hk]; exact h.nums _
  · have : (rowL xs C i).getD k 0 = 0 := by
      simp only [rowL, List.getD]
      rw [List.getElem?_eq_none (by simp; omega)]; rfl
    rw [this]; omega
set_option maxHeartbeats 2000000 in
theorem impl_RowBound (r c : Int) (A : Option Addr) (n cap : Nat) (xs : List Int) (w : World) {B : Nat} (h : RI w B A n xs) (hB : B ≤ w.heap.size) (hn : n ≤ 1048576) (hnc : n ≤ cap) (hcap : cap ≤ 9223372036854775807) :
    Calls Tryz.prog 40 #[.agg #[.int .i64 r, .int .i64 c, .slice A n cap]] w (BV (optV (bndRes r c xs)) w) := by
  have hlen := h.len
  have H2 := Lib.hid (h.more hB)
  clear h
  unfold bndRes
  rcases hm : isSq r c xs with _ | _
  · rw [if_neg (by simp)]
    have HM := Lib.hid hm
    clear hm hlen
    go_enter Tryz.func40, Tryz.ntmps40
    go_wp2_with (go_at_call 60; refine (impl_IsSquare r c A n cap xs _ (B := w.heap.size) (Kr H2.out) (by simp) hn).mono ?_; rw [HM.out]; rintro e w1 ⟨rfl, hb⟩; have hz := hb.size; (try simp at hz); have kk := bkeep (w := w) hb Ks; obtain ⟨kc, kf⟩ := kk; (try (have kk := bkeepb (w.heap.size) hb Ks; obtain ⟨kc0, kf0, kl0⟩ := kk)); (try (have kk := bkeepb (w.heap.size + 1) hb Ks; obtain ⟨kc1, kf1, kl1⟩ := kk)); (try (have kk := bkeepb (w.heap.size + 1 + 1) hb Ks; obtain ⟨kc2, kf2, kl2⟩ := kk)); (try (have kk := bkeepb (w.heap.size + 1 + 1 + 1) hb Ks; obtain ⟨kc3, kf3, kl3⟩ := kk)); (try (have kk := bkeepb (wr.heap.size) hb Ks; obtain ⟨kr0, ks0, kt0⟩ := kk)); (try (have kk := bkeepb (wr.heap.size + 1) hb Ks; obtain ⟨kr1, ks1, kt1⟩ := kk)); (try (have kk := bkeepb (wr.heap.size + 1 + 1) hb Ks; obtain ⟨kr2, ks2, kt2⟩ := kk)))
    go_ret2
    exact BV.mk rfl Kw
  · rw [if_pos rfl]
    have S := isSq_iff.1 hm
    have HM := Lib.hid hm
    obtain ⟨R, rfl⟩ := nat_of S.m.r0
    obtain rfl := S.e
    have hR : R ≤ 6 := by have := S.le; omega
    have hl1 : n = R * R := by have := S.m.len; rw [← Int.natCast_mul] at this; omega
    have hrb := Lib.hid (fun i => S.m.row_bd R i)
    clear hm hlen S
    simp only [Int.toNat_natCast]
    have HL := Lib.hid hl1
    clear hl1
    go_enter Tryz.func40, Tryz.ntmps40
    go_wp2_with (go_at_call 60; refine (impl_IsSquare R R A n cap xs _ (B := w.heap.size) (Kr H2.out) (by simp) hn).mono ?_; rw [HM.out]; rintro e w1 ⟨rfl, hb⟩; have hz := hb.size; (try simp at hz); have kk := bkeep (w := w) hb Ks; obtain ⟨kc, kf⟩ := kk; (try (have kk := bkeepb (w.heap.size) hb Ks; obtain ⟨kc0, kf0, kl0⟩ := kk)); (try (have kk := bkeepb (w.heap.size + 1) hb Ks; obtain ⟨kc1, kf1, kl1⟩ := kk)); (try (have kk := bkeepb (w.heap.size + 1 + 1) hb Ks; obtain ⟨kc2, kf2, kl2⟩ := kk)); (try (have kk := bkeepb (w.heap.size + 1 + 1 + 1) hb Ks; obtain ⟨kc3, kf3, kl3⟩ := kk)); (try (have kk := bkeepb (wr.heap.size) hb Ks; obtain ⟨kr0, ks0, kt0⟩ := kk)); (try (have kk := bkeepb (wr.heap.size + 1) hb Ks; obtain ⟨kr1, ks1, kt1⟩ := kk)); (try (have kk := bkeepb (wr.heap.size + 1 + 1) hb Ks; obtain ⟨kr2, ks2, kt2⟩ := kk)))
    have hB1 : Blk w1 w.heap.size 26 #[Value.int .i64 R, Value.int .i64 R, Value.slice A n cap] := (Blk.new _ _ _).below hb (by simp)
    have hbw0 : Below w.heap.size w w1 := Kw
    clear hb kc kf kc0 kf0 kl0
    go_loopw [4, 5] (fun u v wr => ∃ (i : Nat) (p : Int), v = .int .i64 i ∧ u = .int .i64 p ∧ (-400000000 ≤ p ∧ p ≤ 400000000) ∧ i ≤ R ∧ bndI p ((rowSums xs R R).drop i) = bndI 1 (rowSums xs R R) ∧ Blk wr w.heap.size 26 #[Value.int .i64 R, Value.int .i64 R, Value.slice A n cap] ∧ Below w.heap.size w wr) (fun _ v _ => R - (intOf v).toNat)
    case atStart => exact ⟨0, 1, rfl, rfl, by omega, Nat.zero_le _, rfl, hB1, hbw0⟩
    case round =>
      obtain ⟨i, p, rfl, rfl, ⟨hp1, hp2⟩, hi, hs0, hblk, hbw⟩ := hrel
      clear hB1 hbw0 hz
      have hc0 := hblk.cell 0
      have hc1 := hblk.cell 1
      have hc2 := hblk.cell 2
      simp at hc0 hc1 hc2
      have hlt := hblk.lt
      by_cases hiR : i < R
      · rw [rowSums_drop hiR, bndI] at hs0
        have HS := Lib.hid hs0
        clear hs0
        have hidx : i * R + R ≤ n := by
          rw [HL.out]
          have := Nat.mul_le_mul_right R (show i + 1 ≤ R by omega)
          rw [Nat.add_mul, Nat.one_mul] at this
          exact this
        have HI := Lib.hid hidx
        clear hidx
        go_wp2_with fail
        refine (impl_row R R i A n cap xs _ (B := w.heap.size) (Kr H2.out) Ks hnc hcap (by omega) (by omega) HI.out).mono ?_
        rintro e w2 ⟨A', cap', rfl, hri, hb2, hcc, hcm⟩
        have HR := Lib.hid hri
        clear hri
        have hz2 := hb2.size; (try simp at hz2); have kk := bkeep (w := w) hb2 Ks; obtain ⟨kc2_, kf2_⟩ := kk; have kk := bkeepb (w.heap.size) hb2 Ks; obtain ⟨kc2_0, kf2_0, kl2_0⟩ := kk
        have hblk2 : Blk w2 w.heap.size 26 #[Value.int .i64 R, Value.int .i64 R, Value.slice A n cap] := by (with_reducible (repeat (first | exact hblk | refine Blk.new_at _ _ _ _ Ks | refine Blk.below ?_ (by assumption) Ks | apply Blk.drew | apply Blk.drewN | refine Blk.far ?_ (by simp only [ne_eq]; omega) _ | apply Blk.alloc)))
        have hbw2 : Below w.heap.size w w2 := Kw
        have hbd := absSum_bd (hrb.out i)
        go_wp2_with fail
        have hlb := Lib.hid (hrb.out i)
        generalize rowL xs R i = l at *
        obtain ⟨wo, rfl⟩ : ∃ wo : World, wo = wr := ⟨_, rfl⟩
        clear hblk hbw hb2 hlt hc0 hc1 hc2 kc2_ kf2_ kc2_0 kf2_0
        have hlt2 := hblk2.lt
        go_loop [6, 22] (fun u v => ∃ j : Nat, v = .int .i64 j ∧ u = .int .i64 (absSum l j) ∧ j ≤ R) (fun _ v => R - (intOf v).toNat)
        case atStart => exact ⟨0, rfl, rfl, Nat.zero_le _⟩
        case round =>
          obtain ⟨j, rfl, rfl, hj⟩ := hrel
          obtain ⟨t1, t2⟩ := hbd j
          by_cases hjR : j < R
          · obtain ⟨b, o, rfl, hbb, hcells⟩ := HR.out.2 (by omega)
            have c1 := hcells j hjR
            obtain ⟨e1, e2⟩ := hlb.out j
            clear hcells
            have hsx := Lib.hid (show absSum l (j + 1) = absSum l j + (l.getD j 0).natAbs from rfl)
            generalize l.getD j 0 = x at c1 e1 e2 hsx
            go_wp2_with (first | (go_at_call 65; refine (impl_absInt _ _ (by omega) (by omega)).mono ?_; rintro e w' ⟨rfl, rfl⟩))
            go_round
            case rel => exact ⟨j + 1, by go_num, by rw [hsx.out], by omega⟩
            case measure => simp only [intOf]; omega
          · obtain rfl : R = j := by omega
            obtain ⟨q1, q2⟩ := mul_bd2 p (absSum l R) 400000000 2400000000 (by omega) (by omega) t1 (by omega)
            generalize absSum l R = s at *
            by_cases hs : isNum s = true
            · have hs' := (isNum_iff s).1 hs
              by_cases hps : isNum (p * s) = true
              · have hnx := Lib.hid (show bndI (p * s) ((rowSums xs R R).drop (i + 1)) = bndI 1 (rowSums xs R R) by rw [← HS.out, if_pos ⟨hs, hps⟩])
                have hps' := (isNum_iff _).1 hps
                clear hs hps
                go_wp2_with (first | (go_at_call 42; (first | refine (impl_IsNumber_yes _ _ (by omega)).mono ?_ | refine (impl_IsNumber_no _ _ (by omega)).mono ?_ | refine (impl_IsNumber _ _).mono ?_); rintro e w' ⟨rfl, rfl⟩))
                go_roundw
                case rel => exact ⟨i + 1, p * s, by go_num, rfl, by omega, by omega, hnx.out, hblk2, hbw2⟩
                case measure => simp only [intOf]; omega
              · have hf := Lib.hid (show none = bndI 1 (rowSums xs R R) by rw [← HS.out, if_neg (fun h => hps h.2)])
                have hps' := (isNum_not _).1 (by simpa using hps)
                clear hs hps
                go_wp2_with (first | (go_at_call 42; (first | refine (impl_IsNumber_yes _ _ (by omega)).mono ?_ | refine (impl_IsNumber_no _ _ (by omega)).mono ?_ | refine (impl_IsNumber _ _).mono ?_); rintro e w' ⟨rfl, rfl⟩))
                go_ret2
                exact BV.mk (by rw [← hf.out]; rfl) Kw
            · have hf := Lib.hid (show none = bndI 1 (rowSums xs R R) by rw [← HS.out, if_neg (fun h => hs h.1)])
              have hs' := (isNum_not s).1 (by simpa using hs)
              clear hs
              go_wp2_with (first | (go_at_call 42; (first | refine (impl_IsNumber_yes _ _ (by omega)).mono ?_ | refine (impl_IsNumber_no _ _ (by omega)).mono ?_ | refine (impl_IsNumber _ _).mono ?_); rintro e w' ⟨rfl, rfl⟩))
              go_ret2
              exact BV.mk (by rw [← hf.out]; rfl) Kw
      · obtain rfl : R = i := by omega
        rw [rowSums_end] at hs0
        have hf := Lib.hid (show some p = bndI 1 (rowSums xs R R) from hs0)
        clear hs0
        go_wp2
        go_ret2
        exact BV.mk (by rw [← hf.out]; rfl) Kw
end Go.Proofs.YtlggfmfelakadaaGreatDoor

/-
  DERIVED. Slices of texts: append, Join; FormatInts.
-/
namespace Go.Proofs.YtlggfmfelakadaaGreatDoor
open Go.RowKit
set_option linter.unusedVariables false
set_option linter.unusedSimpArgs false
/-- From block B on, the slice value v owns the texts ts. -/
def OT (w : World) (B : Nat) (v : Value) (ts : List Bs) : Prop := w.ownsRow B 9 1 v ts.length (ts.map fun t => Value.string (bs t))
section
variable {w w' : World} {B : Nat} {v : Value} {ts : List Bs}
theorem OT.form (h : OT w B v ts) : (v = .slice none 0 0 ∧ ts.length = 0) ∨ ∃ g cap, v = .slice (some ⟨g, 0, none⟩) ts.length cap ∧ B ≤ g ∧ g < w.heap.size ∧ ts.length ≤ cap ∧ cap ≤ maxLen := by
  rcases h.2 with ⟨h1, h2⟩ | ⟨g, cap, cur, h1, h2, h3, h4, h5, _⟩
  · exact .inl ⟨h1, h2⟩
  · refine .inr ⟨g, cap, h1, h2, ?_, h4, h5⟩
    rcases Nat.lt_or_ge g w.heap.size with hlt | hge
    · exact hlt
    · rw [Array.getElem?_eq_none hge] at h3; cases h3
theorem OT.kept {row : Option Nat} (h : OT w B v ts) (hg : w.grownBy w' row) (hne : v.ownBlock = none ∨ v.ownBlock ≠ row) : OT w' B v ts := World.ownsRow.kept h hg hne
theorem OT.alloc (h : OT w B v ts) (o : Obj) : OT (w.alloc o) B v ts := World.ownsRow.alloc h o
theorem OT.drew (h : OT w B v ts) : OT w.drew B v ts := h
theorem OT.drewN (h : OT w B v ts) (k : Nat) : OT (w.drewN k) B v ts := h
theorem OT.below {C : Nat} (h : OT w B v ts) (hb : Below C w w') (hC : w.heap.size ≤ C) : OT w' B v ts :=
  h.kept (row := none) ⟨hb.os, hb.tape, hb.output, hb.size, fun k hk _ => hb.block k (by omega)⟩ (by cases v.ownBlock <;> simp)
theorem OT.far (h : OT w B v ts) {p : Addr} (hp : v.ownBlock ≠ some p.block) (u : Value) : OT (w.setCell p u) B v ts :=
  h.kept (row := some p.block) ⟨rfl, rfl, rfl, by simp [World.setCell], fun k hk hne => Below.heap_setCell w p u k (fun e => hne (by rw [e]))⟩ (.inr hp)
theorem OT.low (h : OT w B v ts) {p : Addr} (hp : p.block < B) (u : Value) : OT (w.setCell p u) B v ts := ownsRow_setCell_below h hp u
theorem OT.own (h : OT w B v ts) : Own v B w.heap.size := by
  intro g hg
  rcases h.form with ⟨h1, h2⟩ | ⟨g', cap', h1, h2, h3, _⟩
  · subst h1; cases hg
  · subst h1
    have e : g' = g := by simpa [Value.ownBlock] using hg
    subst e; exact ⟨h2, h3⟩
theorem OT.shape (h : OT w B v ts) : ∃ A c, v = .slice A ts.length c := by
  rcases h.form with ⟨h1, h2⟩ | ⟨g, c, h1, _⟩
  · rw [h2]; exact ⟨_, _, h1⟩
  · exact ⟨_, _, h1⟩
theorem OT.below_grown (h : OT w B v ts) (hg : w.grownBy w' v.ownBlock) (hB : B ≤ w.heap.size) : Below B w w' :=
  only_below hg hB fun g e => (h.own g e).1
theorem OT.cell {g m cap : Nat} (h : OT w B (.slice (some ⟨g, 0, none⟩) m cap) ts) (k : Nat) (hk : k < ts.length) : w.cell? ⟨g, k, none⟩ = some (.string (bs (ts.getD k []))) := by
  rcases h.form with ⟨h1, h2⟩ | ⟨g', cap', h1, h2, h3, _⟩
  · injection h1 with e1 e2 e3; cases e1
  · injection h1 with e1 e2 e3
    subst e2
    have := World.ownsRow.cellAt h k (by omega)
    rw [this]
    simp [hk]
end
theorem OT.empty (w : World) (g : Nat) (hg : g = w.heap.size) {B : Nat} (hB : B ≤ w.heap.size) : OT (w.alloc (.cells #[] 9)) B (.slice (some ⟨g, 0, none⟩) 0 0) [] := by
  subst hg
  exact World.ownsRow_made (base := B) (e := 9) (size := 1) w #[] 0 hB (by unfold maxLen; omega) rfl
theorem txt_info : (Tryz.prog.info? 9).map (fun i => (i.zero, i.size, i.bytes)) = some (some (.string ⟨#[]⟩), 1, 16) := by kernel_rfl
theorem run_append_txt (w : World) (B : Nat) (ty : TypeId) (v : Value) (ts : List Bs) (hown : OT w B v ts) (g : Nat) (t : Bs) (c0 : w.cell? ⟨g, 0, none⟩ = some (.string (bs t))) (h63 : ts.length ≤ 1000000000) (hbase : B ≤ w.heap.size) :
    ∃ v' w', (Builtin.append_ #[46, 46] ty #[v, .slice (some ⟨g, 0, none⟩) 1 1]).run Tryz.prog w = .ok v' w' ∧ OT w' B v' (ts ++ [t]) ∧ w.grownBy w' v.ownBlock ∧ (v'.ownBlock = v.ownBlock ∨ v'.ownBlock = some w.heap.size) := by
  obtain ⟨i0, hi, hz0, hz1, hz2⟩ := info_parts txt_info
  have hcells : ∀ j u, ([Value.string (bs t)] : List Value)[j]? = some u → w.cell? ((⟨g, 0, none⟩ : Addr).add j) = some u := by
    intro j u hu
    rw [addr_add, Nat.zero_add]
    match j, hu with
    | 0, hu => simp at hu; subst hu; exact c0
    | j + 1, hu => simp at hu
  obtain ⟨v', w', hrun, h2, h3, _, h5⟩ := run_append_own_at (P := Tryz.prog) w B 46 ty 9 i0 (.string ⟨#[]⟩) 1 16 Tryz.underlying46 hi hz0 hz1 hz2 rfl (by omega) v ts.length (ts.map fun t => Value.string (bs t)) hown ⟨g, 0, none⟩ 1 1 [.string (bs t)] rfl hcells (by
    intro u hu
    simp at hu
    subst hu; rfl) (by unfold maxLen; omega) (by omega) hbase
  refine ⟨v', w', hrun, ?_, h3, h5⟩
  unfold OT
  rw [List.map_append, List.length_append]
  exact h2
theorem wpList_append_txt (w : World) {ops : Array Oper} {rest : List Oper} {o : Oper} {a : Act} {Q : Exit → Act → World → Prop} (hgd : o.guard = none) (s z : Operand)
    (ho : o.op = .call { callee := .builtin .append, args := #[s, z], argTypes := #[46, 46] })
    (B : Nat) (v : Value) (ts : List Bs) (hs : a.eval s = v) (hown : OT w B v ts) (g : Nat) (t : Bs) (hz : a.eval z = .slice (some ⟨g, 0, none⟩) 1 1) (c0 : w.cell? ⟨g, 0, none⟩ = some (.string (bs t))) (h63 : ts.length ≤ 1000000000) (hbase : B ≤ w.heap.size)
    (h : ∀ v' w', OT w' B v' (ts ++ [t]) → w.grownBy w' v.ownBlock → (v'.ownBlock = v.ownBlock ∨ v'.ownBlock = some w.heap.size) → wpList Tryz.prog ops Q rest (a.put o.dst v') w') : wpList Tryz.prog ops Q (o :: rest) a w :=
  wpList_plain hgd fun _ hK => by
    obtain ⟨v', w', hrun, h2, h3, h4⟩ := run_append_txt w B o.type v ts hown g t c0 h63 hbase
    unfold Oper.wp execOp
    simp only [ho, resolve, invoke, builtin, Sem.run_bind, Sem.run_pure, Result.andThen_ok, List.map_toArray, List.map_cons, List.map_nil, hs, hz, hrun]
    exact hK _ _ (h v' w' h2 h3 h4)
theorem c_Join (A : Option Addr) (m cap : Nat) (ts : List Bs) (sep : Bs) (w : World) {B : Nat} (h : OT w B (.slice A m cap) ts) (hl : (Lib.join ts sep).length ≤ 1000000) (hn : ts.length ≤ 1000000) :
    Calls Tryz.prog 22 #[.slice A m cap, .string (bs sep)] w (GV (.string (bs (Lib.join ts sep))) w) := by
  rcases h.form with ⟨h1, h2⟩ | ⟨g, c, h1, h2, h3, h4, h5⟩
  · injection h1 with e1 e2 e3
    subst e1; subst e2; subst e3
    have ht : ts = [] := List.eq_nil_of_length_eq_zero h2
    subst ht
    refine (Tryz.strings_Join_none none 0 (bs sep) w).mono ?_
    rintro e w' ⟨rfl, rfl⟩
    exact ⟨rfl, Below.refl _ _⟩
  · injection h1 with e1 e2 e3
    subst e1; subst e2; subst e3
    have hm : (ts.map bs).map (·.data.toList) = ts := by
      rw [List.map_map]
      exact List.map_id _
    have hj := Tryz.strings_Join g 0 cap (ts.map bs) (bs sep) w (by
      intro j x hx
      rw [List.getElem?_map] at hx
      rw [Nat.zero_add]
      have hjl : j < ts.length := by
        rcases Nat.lt_or_ge j ts.length with hlt | hge
        · exact hlt
        · rw [List.getElem?_eq_none hge] at hx; cases hx
      rw [h.cell j hjl]
      rw [List.getElem?_eq_getElem hjl] at hx
      simp at hx
      simp [hjl, hx]) h3 (by rw [List.length_map]; omega) (by rw [List.length_map]; omega) (by rw [hm]; exact Nat.le_trans hl (by omega))
    rw [hm, List.length_map] at hj
    exact hj
set_option maxRecDepth 100000 in
set_option maxHeartbeats 4000000 in
theorem impl_FormatInts (A : Option Addr) (n cap : Nat) (xs : List Int) (w : World) {B : Nat} (h : RI w B A n xs) (hB : B ≤ w.heap.size) (hn : n ≤ 1000) (hx : ∀ x ∈ xs, -400000000 ≤ x ∧ x ≤ 400000000) (hv : LV w) :
    Calls Tryz.prog 19 #[.slice A n cap] w (GV (.string (bs (rowT xs))) w) := by
  have H := Lib.hid (h.more hB)
  have HL := Lib.hid h.1
  clear h
  go_enter Tryz.func19, Tryz.ntmps19
  go_wp2_with fail
  have ho : OT (w.alloc (.cells #[] 9)) w.heap.size (.slice (some ⟨w.heap.size, 0, none⟩) 0 0) [] := OT.empty _ _ rfl (Nat.le_refl _)
  go_loopw [3, 9] (fun u v wr => ∃ (k : Nat) (P : Option Addr) (pc : Nat), v = .int .i64 k ∧ u = .slice P k pc ∧ k ≤ n ∧ OT wr w.heap.size (.slice P k pc) ((xs.map Lib.itoa).take k) ∧ Below w.heap.size w wr) (fun _ v _ => n - (intOf v).toNat)
  case atStart => exact ⟨0, _, _, rfl, rfl, Nat.zero_le _, by rw [List.take_zero]; exact ho, Kw⟩
  case round =>
    clear ho
    obtain ⟨k, P, pc, rfl, rfl, hk, ho, hbw⟩ := hrel
    have hszw := hbw.size
    by_cases hlt : k < n
    · obtain ⟨b, o, rfl, hbb, hcells⟩ := H.out.2 (by omega)
      have hc := (hbw.cell (p := ⟨b, o + k, none⟩) hbb).trans (hcells k (by omega))
      have hkx : k < xs.length := by rw [HL.out]; exact hlt
      have hxk := hx (xs.getD k 0) (by
        rw [List.getD_eq_getElem?_getD, List.getElem?_eq_getElem hkx]
        exact List.getElem_mem hkx)
      have happ : (xs.map Lib.itoa).take k ++ [Lib.itoa (xs.getD k 0)] = (xs.map Lib.itoa).take (k + 1) := by
        rw [List.take_add_one, List.getElem?_map, List.getD_eq_getElem?_getD, List.getElem?_eq_getElem hkx]
        rfl
      have hlk : ((xs.map Lib.itoa).take k).length = k := by rw [List.length_take, List.length_map]; omega
      have HA := Lib.hid happ
      have HK := Lib.hid hlk
      clear hcells happ hlk hkx
      generalize xs.getD k 0 = x at *
      go_wp2_with fail
      refine (impl_FormatInt x hxk _ (LV.below hv (C := w.heap.size) Kw hv.lo)).mono ?_
      rintro e w2 ⟨rfl, hb2⟩
      have ho2 : OT w2 w.heap.size (.slice P k pc) ((xs.map Lib.itoa).take k) := ho.below hb2 (by simp)
      have hbw2 : Below w.heap.size w w2 := Kw
      have hs2 := hb2.size
      (try simp at hs2)
      clear ho hb2 hc hbw
      go_wp2_with (at_builtin; refine wpList_append_txt _ rfl (.tmp 13) (.tmp 16) rfl w.heap.size _ _ rfl (ho2.alloc _) _ (Lib.itoa x) rfl ?f1 ?f5 ?f6 ?_)
      case f1 => simp [go_sem]
      case f5 => rw [HK.out]; omega
      case f6 => simp; omega
      intro v1 w6 hown1 hgr hat
      rw [HA.out] at hown1
      have hb6 : Below w.heap.size w w6 := (hbw2.alloc (by omega) _).trans ((ho2.alloc _).below_grown hgr (by simp; omega))
      obtain ⟨P', pc', rfl⟩ := hown1.shape
      have hl6 : ((xs.map Lib.itoa).take (k + 1)).length = k + 1 := by rw [List.length_take, List.length_map, HL.out]; omega
      rw [hl6] at hown1 ⊢
      clear hl6 hgr hat ho2 hbw2
      go_wp2_with fail
      go_roundw
      case rel => exact ⟨k + 1, P', pc', by go_num, by first | rfl | (simp; done), by omega, hown1, hb6⟩
      case measure => simp only [intOf]; omega
    · have hkn : k = n := by omega
      subst hkn
      have ht : (xs.map Lib.itoa).take k = xs.map Lib.itoa := List.take_of_length_le (by rw [List.length_map, HL.out]; exact Nat.le_refl _)
      rw [ht] at ho
      go_wp2_with fail
      have hj := lens_rows xs hx
      refine (c_Join P k pc (xs.map Lib.itoa) [32] _ ho (by show (rowT xs).length ≤ _; rw [HL.out] at hj; omega) (by rw [List.length_map, HL.out]; omega)).mono ?_
      rintro e w2 ⟨rfl, hb2⟩
      go_wp2_with fail
      go_ret
      exact ⟨rfl, Kw⟩
end Go.Proofs.YtlggfmfelakadaaGreatDoor

/-
  DERIVED. isSystem, l11Right.
-/
namespace Go.Proofs.YtlggfmfelakadaaGreatDoor
open Go.RowKit
set_option linter.unusedVariables false
set_option linter.unusedSimpArgs false
/-- Whether there is a system. -/
def sysB (r c : Int) (xs bs : List Int) : Bool := isSq r c xs && decide ((bs.length : Int) = r) && bs.all isNum
theorem sys_cases (r c : Int) (xs bs : List Int) : (isSq r c xs = false ∧ sysB r c xs bs = false) ∨ (isSq r c xs = true ∧ ((bs.length : Int) == r) = false ∧ sysB r c xs bs = false) ∨ (isSq r c xs = true ∧ ((bs.length : Int) == r) = true ∧ sysB r c xs bs = bs.all isNum) := by
  unfold sysB
  rcases isSq r c xs with _ | _
  · left; simp
  · right
    by_cases h : (bs.length : Int) = r
    · right; simp [h]
    · left; simp [h]
set_option maxHeartbeats 4000000 in
theorem impl_isSystem (r c : Int) (A Ab : Option Addr) (n cap nb capb : Nat) (xs bs : List Int) (w : World) {B B' : Nat} (h : RI w B A n xs) (hb : RI w B' Ab nb bs) (hB : B ≤ w.heap.size) (hB' : B' ≤ w.heap.size) (hn : n ≤ 1048576) (hnb : nb ≤ 1048576) :
    Calls Tryz.prog 30 #[.agg #[.int .i64 r, .int .i64 c, .slice A n cap], .slice Ab nb capb] w (BV (.bool (sysB r c xs bs)) w) := by
  have hlb := hb.len
  have H2 := Lib.hid (h.more hB)
  have H3 := Lib.hid (hb.more hB')
  clear h hb
  rcases sys_cases r c xs bs with ⟨hm, hv⟩ | ⟨hm, hl, hv⟩ | ⟨hm, hl, hv⟩
  all_goals
    have HM := Lib.hid hm
    have HV := Lib.hid hv
    try rw [hlb] at hl
    clear hm hv hlb
    go_enter Tryz.func30, Tryz.ntmps30
    go_wp2_with fail
    refine (impl_IsSquare r c A n cap xs _ (B := w.heap.size) (Kr H2.out) Ks hn).mono ?_
    rw [HM.out]
    rintro e w1 ⟨rfl, hb1⟩
    have hsz1 := hb1.size
    simp at hsz1
    have hM : BM w1 w.heap.size r c A n cap := Ka
    have hbw : Below w.heap.size w w1 := Kw
    obtain ⟨ma, mb, mc, mf, ml⟩ := hM.mx
    go_wp2_with fail
  · go_ret
    exact BV.mk (vbool HV.out.symm) Kw
  · go_ret
    exact BV.mk (vbool HV.out.symm) Kw
  · refine (impl_areNumbers Ab nb capb bs _ (C := w.heap.size) (Kr H3.out) hnb).mono ?_
    rintro e w' ⟨rfl, rfl⟩
    go_wp2_with fail
    go_ret
    exact BV.mk (vbool HV.out.symm) Kw
/-- What holds of a system. -/
structure SysOk (r c : Int) (xs bs : List Int) : Prop where
  m : IsM r c xs
  rc : r = c
  r6 : r ≤ 6
  bl : (bs.length : Int) = r
  bn : bs.all isNum = true
theorem sysOk {r c : Int} {xs bs : List Int} (h : sysB r c xs bs = true) : SysOk r c xs bs := by
  unfold sysB at h
  rw [Bool.and_eq_true, Bool.and_eq_true] at h
  obtain ⟨⟨h1, h2⟩, h3⟩ := h
  unfold isSq at h1
  rw [Bool.and_eq_true, Bool.and_eq_true] at h1
  obtain ⟨⟨h4, h5⟩, h6⟩ := h1
  exact ⟨isMat_iff.1 h4, of_decide_eq_true h5, of_decide_eq_true h6, of_decide_eq_true h2, h3⟩
end Go.Proofs.YtlggfmfelakadaaGreatDoor

/-
  DERIVED. The number with given residues, step by step: no program in sight.
-/
namespace Go.Proofs.YtlggfmfelakadaaGreatDoor
set_option linter.unusedVariables false
def chK (x p r n : Int) : Int := ((r - x) * invOf p n) % n
def chF (x p : Int) : List Int → List Int → Int × Int
  | r :: rs, n :: ms => chF (x + p * chK x p r n) (p * n) rs ms
  | _, _ => (x, p)
def chB (rs ms : List Int) : Bool := modsOk ms && decide (rs.length = ms.length) && rs.all isNum
def chV (rs ms : List Int) : Int × Int := if chB rs ms then chF 0 1 rs ms else (0, 0)
theorem invOf_bds (a m : Int) (hm : 1 ≤ m) : 0 ≤ invOf a m ∧ invOf a m < m := emod_bds _ _ hm
theorem chK_bds (x p r n : Int) (hn : 1 ≤ n) : 0 ≤ chK x p r n ∧ chK x p r n < n := emod_bds _ _ hn
theorem tmod_emod (a n : Int) (hn : 0 < n) : a.tmod n % n = a % n := by
  have h := Int.tmod_add_mul_tdiv a n
  conv => rhs; rw [← h]
  rw [Int.add_mul_emod_self_left]
theorem chK_impl (x p r n : Int) (hn : 0 < n) : ((r - x).tmod n * invOf p n) % n = chK x p r n := by
  unfold chK
  rw [Int.mul_emod, tmod_emod _ _ hn, ← Int.mul_emod]
theorem chK_spec (x p r n : Int) : ((r - x) % n * invOf p n) % n = chK x p r n := by
  unfold chK
  rw [Int.mul_emod, Int.emod_emod, ← Int.mul_emod]
/-- One step: the new number is less than the new product, which is within the limit. -/
theorem ch_step {x p r n : Int} (hx : 0 ≤ x) (hxp : x < p) (hn : 2 ≤ n) (hpn : p * n ≤ 400000000) :
    0 ≤ p * chK x p r n ∧ p * chK x p r n ≤ 400000000 ∧ 0 ≤ x + p * chK x p r n ∧ x + p * chK x p r n < p * n := by
  obtain ⟨h1, h2⟩ := chK_bds x p r n (by omega)
  have h3 : 0 ≤ p * chK x p r n := Int.mul_nonneg (by omega) h1
  have h4 : p * (chK x p r n + 1) ≤ p * n := Int.mul_le_mul_of_nonneg_left (by omega) (by omega)
  rw [Int.mul_add, Int.mul_one] at h4
  omega
theorem spF_cons {p n : Int} {ms : List Int} (h : spF p (n :: ms) = true) (hp : 1 ≤ p) : 2 ≤ n ∧ n ≤ 400000000 ∧ p * n ≤ 400000000 ∧ 2 ≤ p * n ∧ spF (p * n) ms = true := by
  unfold spF at h
  split at h
  · cases h
  · rename_i h1
    split at h
    · cases h
    · split at h
      · cases h
      · rename_i h3
        have h4 := (isNum_iff (p * n)).1 (by simpa using h3)
        have h5 : 1 * n ≤ p * n := Int.mul_le_mul_of_nonneg_right hp (by omega)
        exact ⟨by omega, by omega, by omega, by omega, h⟩
theorem chB_iff {rs ms : List Int} : chB rs ms = true ↔ spF 1 ms = true ∧ ms.length ≤ 8 ∧ rs.length = ms.length ∧ rs.all isNum = true := by
  simp only [chB, modsOk, Bool.and_eq_true, decide_eq_true_eq]
  constructor
  · rintro ⟨⟨⟨h1, h2⟩, h3⟩, h4⟩; exact ⟨h2, h1, h3, h4⟩
  · rintro ⟨h2, h1, h3, h4⟩; exact ⟨⟨⟨h1, h2⟩, h3⟩, h4⟩
theorem all_getD {xs : List Int} (h : xs.all isNum = true) (k : Nat) : -400000000 ≤ xs.getD k 0 ∧ xs.getD k 0 ≤ 400000000 := by
  by_cases hk : k < xs.length
  · have h1 : xs.getD k 0 = xs[k] := by simp [List.getD, hk]
    rw [h1]
    exact (isNum_iff _).1 (List.all_eq_true.1 h xs[k] (List.getElem_mem hk))
  · have h1 : xs.getD k 0 = 0 := by simp [List.getD, List.getElem?_eq_none (show xs.length ≤ k by omega)]
    rw [h1]; omega
end Go.Proofs.YtlggfmfelakadaaGreatDoor

/-
  DERIVED. A window of a list: what lies from off on, m of them; the window put back. No program in sight.
-/
namespace Go.Proofs.YtlggfmfelakadaaGreatDoor
set_option linter.unusedVariables false
def winL (xs : List Int) (off m : Nat) : List Int := (xs.drop off).take m
/-- xs with ys from off on. -/
def splL (xs : List Int) (off : Nat) (ys : List Int) : List Int := xs.take off ++ ys ++ xs.drop (off + ys.length)
theorem winL_len {xs : List Int} {off m : Nat} (h : off + m ≤ xs.length) : (winL xs off m).length = m := by simp [winL]; omega
theorem winL_getD {xs : List Int} {off m k : Nat} (hk : k < m) : (winL xs off m).getD k 0 = xs.getD (off + k) 0 := by
  simp [winL, List.getD, hk, List.getElem?_drop]
theorem splL_len {xs ys : List Int} {off : Nat} (h : off + ys.length ≤ xs.length) : (splL xs off ys).length = xs.length := by
  simp [splL]; omega
theorem splL_win {xs : List Int} {off m : Nat} (h : off + m ≤ xs.length) : splL xs off (winL xs off m) = xs := by
  unfold splL
  rw [winL_len h]
  unfold winL
  rw [List.append_assoc, ← List.drop_drop, List.take_append_drop, List.take_append_drop]
theorem splL_getD {xs ys : List Int} {off k : Nat} (h : off + ys.length ≤ xs.length) (hk : k < ys.length) : (splL xs off ys).getD (off + k) 0 = ys.getD k 0 := by
  unfold splL
  simp only [List.getD]
  rw [List.append_assoc, List.getElem?_append_right (by simp; omega)]
  rw [List.getElem?_append_left (by simp; omega)]
  congr 2
  simp; omega
theorem splL_set {xs ys : List Int} {off k : Nat} {v : Int} (h : off + ys.length ≤ xs.length) (hk : k < ys.length) : (splL xs off ys).set (off + k) v = splL xs off (ys.set k v) := by
  unfold splL
  rw [List.length_set, List.append_assoc, List.append_assoc, List.set_append_right _ _ (by simp; omega)]
  congr 1
  have e : off + k - (xs.take off).length = k := by simp; omega
  rw [e, List.set_append_left _ _ hk]
/-- The first k of ys, then the rest of zs. -/
def mixL (ys zs : List Int) (k : Nat) : List Int := ys.take k ++ zs.drop k
theorem mixL_len {ys zs : List Int} {k : Nat} (h : ys.length = zs.length) (hk : k ≤ zs.length) : (mixL ys zs k).length = zs.length := by simp [mixL]; omega
theorem mixL_zero (ys zs : List Int) : mixL ys zs 0 = zs := by simp [mixL]
theorem mixL_all {ys zs : List Int} {k : Nat} (h : ys.length = zs.length) (hk : zs.length ≤ k) : mixL ys zs k = ys := by
  simp [mixL, List.drop_of_length_le hk, List.take_of_length_le (show ys.length ≤ k by omega)]
theorem mixL_at {ys zs : List Int} {k : Nat} (h : ys.length = zs.length) (hk : k < zs.length) : (mixL ys zs k).getD k 0 = zs.getD k 0 := by
  simp only [mixL, List.getD]
  rw [List.getElem?_append_right (by simp; omega)]
  simp [Nat.min_eq_left (show k ≤ ys.length by omega)]
theorem mixL_set {ys zs : List Int} {k : Nat} (h : ys.length = zs.length) (hk : k < zs.length) : (mixL ys zs k).set k (ys.getD k 0) = mixL ys zs (k + 1) := by
  unfold mixL
  apply List.ext_getElem?
  intro i
  grind
theorem primL_getD {l : List Int} {k : Nat} (hk : k < l.length) (hg : gcdL l ≠ 0) : (primL l).getD k 0 = (l.getD k 0).tdiv (divL l) := by
  unfold primL
  rw [if_neg hg]
  simp [List.getD, hk]
end Go.Proofs.YtlggfmfelakadaaGreatDoor

/-
  DERIVED. Products of matrices, turned matrices, as lists of cells: no program in sight.
-/
namespace Go.Proofs.YtlggfmfelakadaaGreatDoor
set_option linter.unusedVariables false
/-- The sum of f from 0 on, k of them. -/
def sumTo (f : Nat → Int) : Nat → Int
  | 0 => 0
  | k + 1 => sumTo f k + f k
/-- A list of n numbers, place by place. -/
def tab (n : Nat) (f : Nat → Int) : List Int := (List.range n).map f
theorem tab_len (n : Nat) (f : Nat → Int) : (tab n f).length = n := by simp [tab]
theorem tab_getD {n : Nat} {f : Nat → Int} {k : Nat} (h : k < n) : (tab n f).getD k 0 = f k := by simp [tab, List.getD, h]
def prodAt (xs : List Int) (c : Nat) (ys : List Int) (c2 i j : Nat) : Int := sumTo (fun k => cel xs c i k * cel ys c2 k j) c
/-- The product of r rows of c cells and c rows of c2 cells. -/
def mulL (xs : List Int) (r c : Nat) (ys : List Int) (c2 : Nat) : List Int := tab (r * c2) fun q => prodAt xs c ys c2 (q / c2) (q % c2)
theorem mulL_len (xs : List Int) (r c : Nat) (ys : List Int) (c2 : Nat) : (mulL xs r c ys c2).length = r * c2 := tab_len _ _
theorem idx_nat {r c i j : Nat} (hi : i < r) (hj : j < c) : i * c + j < r * c := by
  have h3 := Nat.mul_le_mul_right c (show i + 1 ≤ r by omega)
  rw [Nat.add_mul, Nat.one_mul] at h3; omega
theorem idx_div {c i j : Nat} (hj : j < c) : (i * c + j) / c = i ∧ (i * c + j) % c = j := by
  have hc : 0 < c := by omega
  rw [Nat.mul_comm]
  exact ⟨by rw [Nat.mul_add_div hc, Nat.div_eq_of_lt hj, Nat.add_zero], by rw [Nat.mul_add_mod, Nat.mod_eq_of_lt hj]⟩
theorem mulL_at {xs ys : List Int} {r c c2 i j : Nat} (hi : i < r) (hj : j < c2) : (mulL xs r c ys c2).getD (i * c2 + j) 0 = prodAt xs c ys c2 i j := by
  unfold mulL
  rw [tab_getD (idx_nat hi hj), (idx_div hj).1, (idx_div hj).2]
theorem sumTo_bd {f : Nat → Int} {b : Int} (hb : 0 ≤ b) : ∀ k, (∀ i, i < k → -b ≤ f i ∧ f i ≤ b) → -(b * k) ≤ sumTo f k ∧ sumTo f k ≤ b * k
  | 0, _ => by simp [sumTo]
  | k + 1, h => by
    obtain ⟨h1, h2⟩ := sumTo_bd hb k (fun i hi => h i (by omega))
    obtain ⟨h3, h4⟩ := h k (by omega)
    have e : b * ((k + 1 : Nat) : Int) = b * k + b := by
      rw [show ((k + 1 : Nat) : Int) = (k : Int) + 1 by omega, Int.mul_add, Int.mul_one]
    simp only [sumTo]
    omega
/-- Rows and columns exchanged. -/
def turnL (xs : List Int) (r c : Nat) : List Int := tab (c * r) fun q => cel xs c (q % r : Nat) (q / r : Nat)
theorem turnL_len (xs : List Int) (r c : Nat) : (turnL xs r c).length = c * r := tab_len _ _
theorem turnL_at {xs : List Int} {r c i j : Nat} (hi : i < r) (hj : j < c) : (turnL xs r c).getD (j * r + i) 0 = cel xs c i j := by
  unfold turnL
  rw [tab_getD (idx_nat hj hi), (idx_div hi).1, (idx_div hi).2]
/-- The product, if both are matrices that fit, and it is one. -/
def mulB (r c : Int) (xs : List Int) (r2 c2 : Int) (ys : List Int) : Bool :=
  isMat r c xs && isMat r2 c2 ys && decide (c = r2) && isMat r c2 (mulL xs r.toNat c.toNat ys c2.toNat)
def mulM (r c : Int) (xs : List Int) (r2 c2 : Int) (ys : List Int) : Mx := if mulB r c xs r2 c2 ys then ⟨r, c2, mulL xs r.toNat c.toNat ys c2.toNat⟩ else .none
theorem cel_nat (xs : List Int) (C i j : Nat) : cel xs C i j = xs.getD (i * C + j) 0 := by
  unfold cel
  rw [show ((i : Int) * (C : Int) + (j : Int)).toNat = i * C + j by rw [← Int.natCast_mul, ← Int.natCast_add, Int.toNat_natCast]]
end Go.Proofs.YtlggfmfelakadaaGreatDoor

/-
  DERIVED. A matrix as a function of row and column: no program in sight.
-/
namespace Go.Proofs.YtlggfmfelakadaaGreatDoor
set_option linter.unusedVariables false
/-- R rows of C cells. -/
def tb (R C : Nat) (f : Nat → Nat → Int) : List Int := tab (R * C) fun q => f (q / C) (q % C)
theorem tb_len (R C : Nat) (f : Nat → Nat → Int) : (tb R C f).length = R * C := tab_len _ _
theorem tb_at {R C i j : Nat} {f : Nat → Nat → Int} (hi : i < R) (hj : j < C) : (tb R C f).getD (i * C + j) 0 = f i j := by
  unfold tb
  rw [tab_getD (idx_nat hi hj), (idx_div hj).1, (idx_div hj).2]
theorem cel_tb {R C i j : Nat} {f : Nat → Nat → Int} (hi : i < R) (hj : j < C) : cel (tb R C f) C i j = f i j := by
  rw [cel_nat, tb_at hi hj]
theorem tb_ext {R C : Nat} {f g : Nat → Nat → Int} (h : ∀ i j, i < R → j < C → f i j = g i j) : tb R C f = tb R C g := by
  unfold tb tab
  apply List.map_congr_left
  intro q hq
  have hq' := List.mem_range.1 hq
  have hC : 0 < C := by
    rcases Nat.eq_zero_or_pos C with h0 | h0
    · subst h0; simp at hq'
    · exact h0
  exact h _ _ (Nat.div_lt_of_lt_mul (by rw [Nat.mul_comm]; exact hq')) (Nat.mod_lt _ hC)
/-- One cell anew. -/
def upd (f : Nat → Nat → Int) (i j : Nat) (v : Int) : Nat → Nat → Int := fun a b => if a = i ∧ b = j then v else f a b
theorem tb_set {R C i j : Nat} {f : Nat → Nat → Int} {v : Int} (hi : i < R) (hj : j < C) : (tb R C f).set (i * C + j) v = tb R C (upd f i j v) := by
  unfold tb tab
  apply List.ext_getElem?
  intro q
  rw [List.getElem?_set]
  have hC : 0 < C := by omega
  have hd := idx_div (i := i) hj
  have hlt := idx_nat hi hj
  by_cases hq : i * C + j = q
  · subst hq
    simp [hlt, upd, hd.1, hd.2]
  · rw [if_neg hq]
    by_cases hqs : q < R * C
    · have e : ¬ (q / C = i ∧ q % C = j) := by
        rintro ⟨rfl, rfl⟩
        exact hq (by rw [Nat.mul_comm]; exact Nat.div_add_mod q C)
      simp [hqs, upd, e]
    · simp [hqs]
theorem tb_of {xs : List Int} {R C : Nat} (h : xs.length = R * C) : xs = tb R C (fun i j => cel xs C i j) := by
  apply List.ext_getElem?
  intro q
  by_cases hq : q < R * C
  · have hC : 0 < C := by
      rcases Nat.eq_zero_or_pos C with h0 | h0
      · subst h0; simp at hq
      · exact h0
    have e1 : q / C * C + q % C = q := by rw [Nat.mul_comm]; exact Nat.div_add_mod q C
    unfold tb tab
    simp only [List.getElem?_map, List.getElem?_range hq, Option.map_some, cel_nat, e1]
    simp [List.getD, show q < xs.length by omega]
  · rw [List.getElem?_eq_none (by omega), List.getElem?_eq_none (by rw [tb_len]; omega)]
theorem tb_mem {R C : Nat} {f : Nat → Nat → Int} {P : Int → Prop} (h : ∀ i j, i < R → j < C → P (f i j)) : ∀ x ∈ tb R C f, P x := by
  intro x hx
  unfold tb tab at hx
  obtain ⟨q, hq, rfl⟩ := List.mem_map.1 hx
  have hq' := List.mem_range.1 hq
  have hC : 0 < C := by
    rcases Nat.eq_zero_or_pos C with h0 | h0
    · subst h0; simp at hq'
    · exact h0
  exact h _ _ (Nat.div_lt_of_lt_mul (by rw [Nat.mul_comm]; exact hq')) (Nat.mod_lt _ hC)
/-- Rows p and t exchanged. -/
def swF (f : Nat → Nat → Int) (p t : Nat) : Nat → Nat → Int := fun i k => f (if i = p then t else if i = t then p else i) k
theorem swF_same (f : Nat → Nat → Int) (t : Nat) : swF f t t = f := by
  funext i k
  unfold swF
  split
  · rename_i h; rw [h]
  · rfl
theorem swF_t (f : Nat → Nat → Int) (k t c : Nat) : swF f k t t c = f k c := by
  unfold swF
  split
  · rename_i h; rw [h]
  · rw [if_pos rfl]
/-- Exchanged in the first k columns. -/
def swK (f : Nat → Nat → Int) (p t k : Nat) : Nat → Nat → Int := fun i c => if c < k then swF f p t i c else f i c
theorem swK_zero (f : Nat → Nat → Int) (p t : Nat) : swK f p t 0 = f := by funext i c; simp [swK]
theorem swK_step {f : Nat → Nat → Int} {p t k : Nat} (h : p ≠ t) : upd (upd (swK f p t k) p k (f t k)) t k (f p k) = swK f p t (k + 1) := by
  funext i c
  unfold upd swK swF
  grind
theorem swK_end {R C : Nat} (f : Nat → Nat → Int) (p t : Nat) : tb R C (swK f p t C) = tb R C (swF f p t) := tb_ext fun i j hi hj => by unfold swK; rw [if_pos hj]
/-- The first row from k on, n of them, that has something in column j. -/
def fnd (f : Nat → Nat → Int) (j : Nat) : Nat → Nat → Nat
  | 0, k => k
  | n + 1, k => if f k j = 0 then fnd f j n (k + 1) else k
theorem fnd_le (f : Nat → Nat → Int) (j : Nat) : ∀ n k, k ≤ fnd f j n k ∧ fnd f j n k ≤ k + n
  | 0, k => ⟨Nat.le_refl _, Nat.le_refl _⟩
  | n + 1, k => by
    unfold fnd
    have := fnd_le f j n (k + 1)
    split <;> omega
theorem fnd_ne (f : Nat → Nat → Int) (j : Nat) : ∀ n k, fnd f j n k < k + n → f (fnd f j n k) j ≠ 0
  | 0, k, h => by simp [fnd] at h
  | n + 1, k, h => by
    unfold fnd at h ⊢
    split
    · rename_i h0
      rw [if_pos h0] at h
      exact fnd_ne f j n (k + 1) (by omega)
    · rename_i h0
      exact h0
theorem fnd_next {f : Nat → Nat → Int} {j R k : Nat} (hk : k < R) (h0 : f k j = 0) : fnd f j (R - k) k = fnd f j (R - (k + 1)) (k + 1) := by
  rw [show R - k = (R - (k + 1)) + 1 by omega]
  conv => lhs; unfold fnd
  rw [if_pos h0]
theorem fnd_here {f : Nat → Nat → Int} {j R k : Nat} (hk : k < R) (h0 : f k j ≠ 0) : fnd f j (R - k) k = k := by
  rw [show R - k = (R - (k + 1)) + 1 by omega]
  unfold fnd
  rw [if_neg h0]
theorem fnd_end (f : Nat → Nat → Int) (j R : Nat) : fnd f j (R - R) R = R := by rw [Nat.sub_self]; rfl
end Go.Proofs.YtlggfmfelakadaaGreatDoor

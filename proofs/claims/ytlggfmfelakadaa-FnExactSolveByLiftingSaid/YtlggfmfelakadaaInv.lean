/-
  DERIVED. The contracts of inverseAny, InverseModulo and ResidueOf.
-/
import Derived.Test.YtlggfmfelakadaaEuclid
import Derived.Test.YtlggfmfelakadaaImg
namespace Go.Proofs.Ytlggfmfelakadaa
open Go.RowKit
set_option linter.unusedVariables false
/-- The inverse that Euclid's algorithm finds. -/
def invOf (a m : Int) : Int := (egRes (a % m) m).2.1 % m
theorem emod_bds (a m : Int) (hm : 1 ≤ m) : 0 ≤ a % m ∧ a % m < m := ⟨Int.emod_nonneg a (by omega), Int.emod_lt_of_pos a (by omega)⟩
theorem egRes_bds {a b : Int} (ha : -400000000 ≤ a ∧ a ≤ 400000000) (hb : -400000000 ≤ b ∧ b ≤ 400000000) :
    (-400000000 ≤ (egRes a b).1 ∧ (egRes a b).1 ≤ 400000000) ∧ (-400000000 ≤ (egRes a b).2.1 ∧ (egRes a b).2.1 ≤ 400000000) ∧ (-400000000 ≤ (egRes a b).2.2 ∧ (egRes a b).2.2 ≤ 400000000) := by
  obtain ⟨G, X, Y, U, V, hr, i⟩ := egL_spec (a := a) (b := b) (by omega) (by omega) _ _ _ _ _ _ _ (Nat.le_refl _) (EgInv.start ha hb)
  have g1 := i.g1
  have x1 := i.x1
  have y1 := i.y1
  unfold egRes
  rw [hr]
  dsimp only
  split
  · exact ⟨by dsimp only; omega, by dsimp only; omega, by dsimp only; omega⟩
  · exact ⟨by dsimp only; omega, by dsimp only; omega, by dsimp only; omega⟩

theorem impl_inverseAny (a m : Int) (ha : -9223372036854775808 ≤ a ∧ a ≤ 9223372036854775807) (hm : 1 ≤ m ∧ m ≤ 400000000) (w : World) :
    Calls Try.prog 110 #[.int .i64 a, .int .i64 m] w (BV (.int .i64 (invOf a m)) w) := by
  obtain ⟨m1, m2⟩ := emod_bds a m hm.1
  obtain ⟨_, ⟨x1, x2⟩, _⟩ := egRes_bds (a := a % m) (b := m) (by omega) (by omega)
  go_enter Try.func110, Try.ntmps110
  go_wp2_with (first | (go_at_call 108; refine (impl_mod _ _ _ (by omega) (by omega) (by omega) (by omega)).mono ?_; rintro e w' ⟨rfl, rfl⟩) | (go_at_call 126; refine (impl_ExtendedGcd _ _ (by omega) (by omega) _).mono ?_; rintro e w1 ⟨rfl, hb⟩; simp only [egV]; have hz := hb.size; (try simp at hz); have kk := bkeep (w := w) hb (by first | omega | (simp; done) | (simp; omega)); obtain ⟨kc, kf⟩ := kk; (try (have kk := bkeepb (w.heap.size) hb (by first | omega | (simp; done) | (simp; omega)); obtain ⟨kc0, kf0, kl0⟩ := kk)); (try (have kk := bkeepb (w.heap.size + 1) hb (by first | omega | (simp; done) | (simp; omega)); obtain ⟨kc1, kf1, kl1⟩ := kk)); (try (have kk := bkeepb (w.heap.size + 1 + 1) hb (by first | omega | (simp; done) | (simp; omega)); obtain ⟨kc2, kf2, kl2⟩ := kk)); (try (have kk := bkeepb (w.heap.size + 1 + 1 + 1) hb (by first | omega | (simp; done) | (simp; omega)); obtain ⟨kc3, kf3, kl3⟩ := kk)); (try (have kk := bkeepb (wr.heap.size) hb (by first | omega | (simp; done) | (simp; omega)); obtain ⟨kr0, ks0, kt0⟩ := kk)); (try (have kk := bkeepb (wr.heap.size + 1) hb (by first | omega | (simp; done) | (simp; omega)); obtain ⟨kr1, ks1, kt1⟩ := kk)); (try (have kk := bkeepb (wr.heap.size + 1 + 1) hb (by first | omega | (simp; done) | (simp; omega)); obtain ⟨kr2, ks2, kt2⟩ := kk))))
  go_ret
  exact BV.mk rfl (by (repeat (first | (with_reducible exact Below.refl _ _) | (with_reducible assumption) | (with_reducible refine below_drewN ?_ _) | (with_reducible refine Below.drew ?_) | (with_reducible refine Below.alloc ?_ ?_ _) | (with_reducible refine Below.setCell ?_ ?_ _) | (with_reducible refine below_into ?_ (by assumption) (by first | omega | (simp; done) | (simp; omega))) | go_size)))

def invOk (a p : Int) : Bool := isPr p && isNum a && decide (a % p ≠ 0)
def invRes (a p : Int) : Int := if invOk a p then invOf a p else 0
theorem isPr_bds {p : Int} (h : isPr p = true) : 2 ≤ p ∧ p ≤ 10000 := by
  simp only [isPr, Bool.and_eq_true, decide_eq_true_eq] at h
  exact h.1
theorem inv_cases (a p : Int) : (isPr p = false ∧ invOk a p = false ∧ invRes a p = 0) ∨ (isPr p = true ∧ isNum a = false ∧ invOk a p = false ∧ invRes a p = 0) ∨
    (isPr p = true ∧ isNum a = true ∧ (a % p == 0) = true ∧ (a.tmod p == 0) = true ∧ invOk a p = false ∧ invRes a p = 0) ∨
    (isPr p = true ∧ isNum a = true ∧ (a % p == 0) = false ∧ (a.tmod p == 0) = false ∧ invOk a p = true ∧ invRes a p = invOf a p) := by
  unfold invRes
  rcases hp : isPr p with _ | _
  · left; simp [invOk, hp]
  · rcases hn : isNum a with _ | _
    · right; left; simp [invOk, hp, hn]
    · right; right
      have ht := tmod_zero_iff a p
      by_cases h0 : a % p = 0
      · left; simp [invOk, hp, hn, h0]; omega
      · right; simp [invOk, hp, hn, h0]; omega

theorem spec_InverseModulo (a p : Int) (ha : -9223372036854775808 ≤ a ∧ a ≤ 9223372036854775807) (w : World) :
    Calls Try.prog 129 #[.int .i64 a, .int .i64 p] w (BV (.tuple #[.int .i64 (invRes a p), .bool (invOk a p)]) w) := by
  rcases inv_cases a p with ⟨hp, h1, h2⟩ | ⟨hp, hn, h1, h2⟩ | ⟨hp, hn, h3, h4, h1, h2⟩ | ⟨hp, hn, h3, h4, h1, h2⟩
  · rw [h1, h2]
    clear h1 h2
    go_enter Try.func129, Try.ntmps129
    go_wp2_with (first | (go_at_call 127; refine (spec_IsPrime _ _).mono ?_; rintro e w' ⟨rfl, rfl⟩))
    go_ret2
    exact BV.mk rfl (by (repeat (first | (with_reducible exact Below.refl _ _) | (with_reducible assumption) | (with_reducible refine below_drewN ?_ _) | (with_reducible refine Below.drew ?_) | (with_reducible refine Below.alloc ?_ ?_ _) | (with_reducible refine Below.setCell ?_ ?_ _) | (with_reducible refine below_into ?_ (by assumption) (by first | omega | (simp; done) | (simp; omega))) | go_size)))
  all_goals
    rw [h1, h2]
    clear h1 h2
    obtain ⟨p1, p2⟩ := isPr_bds hp
    obtain ⟨m1, m2⟩ := emod_bds a p (by omega)
    obtain ⟨_, ⟨x1, x2⟩, _⟩ := egRes_bds (a := a % p) (b := p) (by omega) (by omega)
    go_enter Try.func129, Try.ntmps129
    go_wp2_with (first | (go_at_call 127; refine (spec_IsPrime _ _).mono ?_; rintro e w' ⟨rfl, rfl⟩) | (go_at_call 111; (first | refine (spec_IsNumber_yes _ _ (by omega)).mono ?_ | refine (spec_IsNumber_no _ _ (by omega)).mono ?_ | refine (spec_IsNumber _ _).mono ?_); rintro e w' ⟨rfl, rfl⟩) | (go_at_call 75; refine (spec_l8Mod _ _ _ (by omega) (by omega) (by omega) (by omega)).mono ?_; rintro e w' ⟨rfl, rfl⟩) | (go_at_call 135; refine (spec_ExtendedGcd _ _ (by omega) (by omega) _).mono ?_; rintro e w1 ⟨rfl, hb⟩; simp only [egV]; have hz := hb.size; (try simp at hz); have kk := bkeep (w := w) hb (by first | omega | (simp; done) | (simp; omega)); obtain ⟨kc, kf⟩ := kk; (try (have kk := bkeepb (w.heap.size) hb (by first | omega | (simp; done) | (simp; omega)); obtain ⟨kc0, kf0, kl0⟩ := kk)); (try (have kk := bkeepb (w.heap.size + 1) hb (by first | omega | (simp; done) | (simp; omega)); obtain ⟨kc1, kf1, kl1⟩ := kk)); (try (have kk := bkeepb (w.heap.size + 1 + 1) hb (by first | omega | (simp; done) | (simp; omega)); obtain ⟨kc2, kf2, kl2⟩ := kk)); (try (have kk := bkeepb (w.heap.size + 1 + 1 + 1) hb (by first | omega | (simp; done) | (simp; omega)); obtain ⟨kc3, kf3, kl3⟩ := kk)); (try (have kk := bkeepb (wr.heap.size) hb (by first | omega | (simp; done) | (simp; omega)); obtain ⟨kr0, ks0, kt0⟩ := kk)); (try (have kk := bkeepb (wr.heap.size + 1) hb (by first | omega | (simp; done) | (simp; omega)); obtain ⟨kr1, ks1, kt1⟩ := kk)); (try (have kk := bkeepb (wr.heap.size + 1 + 1) hb (by first | omega | (simp; done) | (simp; omega)); obtain ⟨kr2, ks2, kt2⟩ := kk))))
    go_ret2
    exact BV.mk rfl (by (repeat (first | (with_reducible exact Below.refl _ _) | (with_reducible assumption) | (with_reducible refine below_drewN ?_ _) | (with_reducible refine Below.drew ?_) | (with_reducible refine Below.alloc ?_ ?_ _) | (with_reducible refine Below.setCell ?_ ?_ _) | (with_reducible refine below_into ?_ (by assumption) (by first | omega | (simp; done) | (simp; omega))) | go_size)))

def resOk (n d m : Int) : Bool := ratOk n d && decide (1 ≤ m) && decide (m ≤ 400000000) && decide (Int.gcd d m = 1)
def resVal (n d m : Int) : Int := if resOk n d m then (n % m * invOf d m) % m else 0
theorem res_cases (n d m : Int) : (ratOk n d = false ∧ resOk n d m = false ∧ resVal n d m = 0) ∨ (ratOk n d = true ∧ m < 1 ∧ resOk n d m = false ∧ resVal n d m = 0) ∨
    (ratOk n d = true ∧ 1 ≤ m ∧ 400000000 < m ∧ resOk n d m = false ∧ resVal n d m = 0) ∨
    (ratOk n d = true ∧ 1 ≤ m ∧ m ≤ 400000000 ∧ (((Int.gcd d m : Nat) : Int) != 1) = true ∧ resOk n d m = false ∧ resVal n d m = 0) ∨
    (ratOk n d = true ∧ 1 ≤ m ∧ m ≤ 400000000 ∧ (((Int.gcd d m : Nat) : Int) != 1) = false ∧ resOk n d m = true ∧ resVal n d m = (n % m * invOf d m) % m) := by
  unfold resVal
  rcases hr : ratOk n d with _ | _
  · left; simp [resOk, hr]
  · right
    by_cases h1 : m < 1
    · left
      have : ¬ 1 ≤ m := by omega
      simp [resOk, hr, h1, this]
    · right
      by_cases h2 : 400000000 < m
      · left
        have : ¬ m ≤ 400000000 := by omega
        simp [resOk, hr, h2, this]; omega
      · right
        have a1 : 1 ≤ m := by omega
        have a2 : m ≤ 400000000 := by omega
        by_cases h3 : Int.gcd d m = 1
        · right; simp [resOk, hr, h3, a1, a2]
        · left
          simp [resOk, hr, h3, a1, a2]; omega
theorem ret_prod (a b m : Int) : a * b % m = b * a % m := by rw [Int.mul_comm]

end Go.Proofs.Ytlggfmfelakadaa

/-
  DERIVED. Euclid's algorithm with its two combinations: no program in sight.
-/
import Derived.Test.YtlggfmfelakadaaPlain1
namespace Go.Proofs.Ytlggfmfelakadaa
set_option linter.unusedVariables false
/-- The rounds of the algorithm. -/
def egL (g h x u y v : Int) : Int × Int × Int :=
  if hh : h = 0 then (g, x, y) else egL h (g.tmod h) u (x - g.tdiv h * u) v (y - g.tdiv h * v)
termination_by h.natAbs
decreasing_by exact natAbs_tmod_lt g h hh
theorem egL_zero (g x u y v : Int) : egL g 0 x u y v = (g, x, y) := by rw [egL]; simp
theorem egL_step (g h x u y v : Int) (hh : h ≠ 0) : egL g h x u y v = egL h (g.tmod h) u (x - g.tdiv h * u) v (y - g.tdiv h * v) := by
  conv => lhs; rw [egL]
  simp [hh]
def egRes (a b : Int) : Int × Int × Int :=
  if (egL a b 1 0 0 1).1 < 0 then (-(egL a b 1 0 0 1).1, -(egL a b 1 0 0 1).2.1, -(egL a b 1 0 0 1).2.2) else egL a b 1 0 0 1

theorem tdiv_mul (g h : Int) : g.tdiv h * h = g - g.tmod h := by
  have := Int.tmod_add_mul_tdiv g h
  rw [Int.mul_comm] at this
  omega
/-- Where the combinations stay: the two sums of products never grow. -/
structure EgInv (a b g h x u y v : Int) : Prop where
  g1 : g.natAbs ≤ 400000000
  h1 : h.natAbs ≤ 400000000
  x1 : x.natAbs ≤ 400000000
  u1 : u.natAbs ≤ 400000000
  y1 : y.natAbs ≤ 400000000
  v1 : v.natAbs ≤ 400000000
  s1 : u.natAbs * g.natAbs + x.natAbs * h.natAbs ≤ b.natAbs
  s2 : v.natAbs * g.natAbs + y.natAbs * h.natAbs ≤ a.natAbs
  e1 : a * x + b * y = g
  e2 : a * u + b * v = h
  d : Int.gcd g h = Int.gcd a b
theorem EgInv.start {a b : Int} (ha : -400000000 ≤ a ∧ a ≤ 400000000) (hb : -400000000 ≤ b ∧ b ≤ 400000000) : EgInv a b a b 1 0 0 1 := by
  refine ⟨by omega, by omega, by omega, by omega, by omega, by omega, by simp, by simp, by simp, by simp, rfl⟩
theorem natAbs_div_add (g h : Int) : g.natAbs = (g.tdiv h).natAbs * h.natAbs + (g.tmod h).natAbs := by
  rw [Int.natAbs_tdiv, Int.natAbs_tmod]
  exact (Nat.div_add_mod' g.natAbs h.natAbs).symm
theorem sum_step (x u g h : Int) (hh : h ≠ 0) : (x - g.tdiv h * u).natAbs * h.natAbs + u.natAbs * (g.tmod h).natAbs ≤ u.natAbs * g.natAbs + x.natAbs * h.natAbs := by
  have h1 : (x - g.tdiv h * u).natAbs ≤ x.natAbs + (g.tdiv h).natAbs * u.natAbs := by
    have := Int.natAbs_sub_le x (g.tdiv h * u)
    rwa [Int.natAbs_mul] at this
  have h2 := Nat.mul_le_mul_right h.natAbs h1
  have h3 := natAbs_div_add g h
  rw [h3]
  rw [Nat.add_mul] at h2
  rw [Nat.mul_add]
  have h4 : (g.tdiv h).natAbs * u.natAbs * h.natAbs = u.natAbs * ((g.tdiv h).natAbs * h.natAbs) := by
    rw [Nat.mul_comm (g.tdiv h).natAbs u.natAbs, Nat.mul_assoc]
  omega
theorem EgInv.step {a b g h x u y v : Int} (ha : a.natAbs ≤ 400000000) (hb : b.natAbs ≤ 400000000) (i : EgInv a b g h x u y v) (hh : h ≠ 0) :
    EgInv a b h (g.tmod h) u (x - g.tdiv h * u) v (y - g.tdiv h * v) := by
  have k1 := sum_step x u g h hh
  have k2 := sum_step y v g h hh
  have m1 := i.s1
  have m2 := i.s2
  have hp : 1 ≤ h.natAbs := by omega
  have q1 := Nat.mul_le_mul_left (x - g.tdiv h * u).natAbs hp
  have q2 := Nat.mul_le_mul_left (y - g.tdiv h * v).natAbs hp
  have hlt := natAbs_tmod_lt g h hh
  have hh1 := i.h1
  refine ⟨i.h1, by omega, i.u1, by omega, i.v1, by omega, by omega, by omega, i.e2, ?_, by rw [gcd_tmod]; exact i.d⟩
  have t := tdiv_mul g h
  have e1 := i.e1
  have e2 := i.e2
  have p1 : a * (x - g.tdiv h * u) + b * (y - g.tdiv h * v) = (a * x + b * y) - g.tdiv h * (a * u + b * v) := by grind
  rw [p1, e1, e2, t]
  omega
/-- The quotient times a number within the limit stays small. -/
theorem quo_bd (g h u : Int) (hg : g.natAbs ≤ 400000000) (hu : u.natAbs ≤ 400000000) : (g.tdiv h).natAbs ≤ 400000000 ∧ -160000000000000000 ≤ g.tdiv h * u ∧ g.tdiv h * u ≤ 160000000000000000 := by
  have h1 : (g.tdiv h).natAbs ≤ 400000000 := by
    rw [Int.natAbs_tdiv]
    exact Nat.le_trans (Nat.div_le_self _ _) hg
  have := mul_bd4 (g.tdiv h) u 400000000 400000000 (by omega) (by omega) (by omega) (by omega)
  omega
/-- What the algorithm ends with. -/
theorem egL_spec {a b : Int} (ha : a.natAbs ≤ 400000000) (hb : b.natAbs ≤ 400000000) : ∀ (n : Nat) (g h x u y v : Int), h.natAbs ≤ n → EgInv a b g h x u y v →
    ∃ G X Y U V : Int, egL g h x u y v = (G, X, Y) ∧ EgInv a b G 0 X U Y V
  | 0, g, h, x, u, y, v, hn, i => by
    have : h = 0 := by omega
    subst this
    exact ⟨g, x, y, u, v, egL_zero _ _ _ _ _, i⟩
  | n + 1, g, h, x, u, y, v, hn, i => by
    by_cases hh : h = 0
    · subst hh
      exact ⟨g, x, y, u, v, egL_zero _ _ _ _ _, i⟩
    · have hlt := natAbs_tmod_lt g h hh
      rw [egL_step _ _ _ _ _ _ hh]
      exact egL_spec ha hb n _ _ _ _ _ _ (by omega) (i.step ha hb hh)
theorem egRes_spec {a b : Int} (ha : -400000000 ≤ a ∧ a ≤ 400000000) (hb : -400000000 ≤ b ∧ b ≤ 400000000) :
    (egRes a b).1 = Int.gcd a b ∧ a * (egRes a b).2.1 + b * (egRes a b).2.2 = Int.gcd a b ∧ (egRes a b).2.1.natAbs ≤ 400000000 ∧ (egRes a b).2.2.natAbs ≤ 400000000 := by
  obtain ⟨G, X, Y, U, V, hr, i⟩ := egL_spec (a := a) (b := b) (by omega) (by omega) _ _ _ _ _ _ _ (Nat.le_refl _) (EgInv.start ha hb)
  have hd := i.d
  have e1 := i.e1
  have x1 := i.x1
  have y1 := i.y1
  unfold egRes
  rw [hr]
  simp only [Int.gcd_zero_right] at hd
  split
  · rename_i hneg
    simp only at hneg ⊢
    refine ⟨by omega, ?_, by omega, by omega⟩
    rw [Int.mul_neg, Int.mul_neg]; omega
  · rename_i hneg
    simp only at hneg ⊢
    exact ⟨by omega, by omega, x1, y1⟩
end Go.Proofs.Ytlggfmfelakadaa

/-
  DERIVED. RatioFrom: the search of the program and the algorithm of the reference come to one ratio.
-/
import Derived.Test.YtmcbhpaajjlmmaaPlain4
import Derived.Test.YtmcbhpaajjlmmaaLaw2
namespace Go.Proofs.Ytmcbhpaajjlmmaa
open Go.RowKit
set_option linter.unusedVariables false
/-- The search over the denominators from d on. -/
def rfI (a m b : Int) : Nat → Int → Option (Int × Int)
  | 0, _ => none
  | k + 1, d => if (symOf (a * d % m) m).natAbs ≤ b ∧ imgOk (symOf (a * d % m) m) d a m = true then some (symOf (a * d % m) m, d) else rfI a m b k (d + 1)
/-- What the reference makes of the algorithm's end. -/
def rfEnd (a m b : Int) (r : Int × Int) : Option (Int × Int) :=
  if r.2 < 0 then (if b < -r.2 ∨ imgOk (-r.1) (-r.2) a m = false then none else some (-r.1, -r.2)) else (if b < r.2 ∨ imgOk r.1 r.2 a m = false then none else some r)
structure RfOk (a m b : Int) : Prop where
  a1 : -400000000 ≤ a
  a2 : a ≤ 400000000
  m1 : 1 ≤ m
  m2 : m ≤ 400000000
  b1 : 1 ≤ b
  b2 : b ≤ 20000
  bm : 2 * b * b < m
theorem good_iff {a m b : Int} (g : RfOk a m b) (n d : Int) : Good a m b n d ↔ (1 ≤ d ∧ d ≤ b) ∧ (n.natAbs : Int) ≤ b ∧ imgOk n d a m = true := by
  rw [imgOk_iff, ratOk_iff]
  have hb := g.b2
  constructor
  · intro h
    have h1 := h.d1
    have h2 := h.d2
    have h3 := h.n1
    have h4 := h.n2
    exact ⟨⟨h1, h2⟩, by omega, ⟨⟨h1, by omega⟩, ⟨by omega, by omega⟩, h.co⟩, ⟨g.a1, g.a2⟩, ⟨g.m1, g.m2⟩, h.cm, Int.emod_eq_zero_of_dvd h.im⟩
  · rintro ⟨⟨h1, h2⟩, h3, ⟨_, _, h4⟩, _, _, h5, h6⟩
    exact ⟨h1, h2, by omega, by omega, h4, h5, Int.dvd_of_emod_eq_zero h6⟩
theorem symOf_of {m b n y : Int} (hm : 1 ≤ m) (hb : 2 * b < m) (h1 : -b ≤ n) (h2 : n ≤ b) (hd : m ∣ y - n) : symOf (y % m) m = n := by
  unfold symOf
  rw [Int.emod_emod]
  have e0 := Int.emod_nonneg y (show m ≠ 0 by omega)
  have e1 := Int.emod_lt_of_pos y (show 0 < m by omega)
  have e2 := Int.mul_ediv_add_emod y m
  have e3 : m ∣ y % m - n := by
    have : y % m - n = (y - n) - m * (y / m) := by omega
    rw [this]
    exact Int.dvd_sub hd ⟨_, rfl⟩
  rcases Int.lt_or_le n 0 with hn | hn
  · have e4 : m ∣ y % m - n - m := Int.dvd_sub e3 (Int.dvd_refl m)
    have := small_of_dvd e4 (by omega) (by omega)
    rw [if_pos (by omega)]; omega
  · have := small_of_dvd e3 (by omega) (by omega)
    rw [if_neg (by omega)]; omega
theorem two_b {a m b : Int} (g : RfOk a m b) : 2 * b < m := by
  have h1 := g.b1
  have h2 := g.bm
  have h3 : b * 1 ≤ b * b := Int.mul_le_mul_of_nonneg_left h1 (by omega)
  have h4 : 2 * b * b = 2 * (b * b) := by rw [Int.mul_assoc]
  omega
theorem Good.cond {a m b n d : Int} (g : RfOk a m b) (h : Good a m b n d) : symOf (a * d % m) m = n := symOf_of g.m1 (two_b g) h.n1 h.n2 h.im
theorem rfI_some {a m b : Int} (g : RfOk a m b) : ∀ (k : Nat) (d0 : Int) (r : Int × Int), 1 ≤ d0 → d0 + k ≤ b + 1 → rfI a m b k d0 = some r → Good a m b r.1 r.2
  | 0, d0, r, _, _, h => by simp [rfI] at h
  | k + 1, d0, r, h0, h1, h => by
    unfold rfI at h
    split at h
    · rename_i hc
      injection h with h
      subst h
      exact (good_iff g _ _).2 ⟨⟨h0, by omega⟩, hc.1, hc.2⟩
    · exact rfI_some g k (d0 + 1) r (by omega) (by omega) h
theorem rfI_none {a m b : Int} (g : RfOk a m b) : ∀ (k : Nat) (d0 : Int), rfI a m b k d0 = none → ∀ n d, Good a m b n d → d0 ≤ d → d < d0 + k → False
  | 0, d0, _, n, d, _, h1, h2 => by omega
  | k + 1, d0, h, n, d, hg, h1, h2 => by
    unfold rfI at h
    split at h
    · cases h
    · rename_i hc
      by_cases he : d = d0
      · subst he
        apply hc
        rw [hg.cond g]
        exact ((good_iff g _ _).1 hg).2
      · exact rfI_none g k (d0 + 1) h n d hg (by omega) (by omega)
theorem rf_eq {a m b : Int} (g : RfOk a m b) : rfEnd a m b (rfS b m 0 (a % m) 1) = rfI a m b b.toNat 1 := by
  obtain ⟨G, X, H, U, S, hr, i, hb⟩ := rfS_spec (a := a) (m := m) (b := b) (by have := g.b1; omega) _ _ _ _ _ _ (Nat.le_refl _) (RfInv.start g.m1 (by have := two_b g; have := g.b1; omega))
  rw [hr]
  have hb1 := g.b1
  rcases hI : rfI a m b b.toNat 1 with _ | r
  · -- none is good
    have hno := fun n d (hg : Good a m b n d) => rfI_none g _ _ hI n d hg hg.d1 (by have := hg.d2; omega)
    unfold rfEnd
    have key : ∀ n d : Int, (n.natAbs : Int) ≤ b → ¬ (1 ≤ d ∧ d ≤ b ∧ imgOk n d a m = true) := fun n d hn hd => hno n d ((good_iff g n d).2 ⟨⟨hd.1, hd.2.1⟩, hn, hd.2.2⟩)
    have pos : ∀ n d : Int, imgOk n d a m = true → 1 ≤ d := fun n d h => (ratOk_bds ((imgOk_iff _ _ _ _).1 h).1).1
    have hh0 := i.h0
    dsimp only
    split
    · rw [if_pos]
      rcases hi : imgOk (-H) (-U) a m with _ | _
      · exact .inr rfl
      · left
        have k1 := key (-H) (-U) (by omega)
        have k2 := pos _ _ hi
        rcases Int.lt_or_le b (-U) with k3 | k3
        · exact k3
        · exact absurd ⟨k2, k3, hi⟩ k1
    · rw [if_pos]
      rcases hi : imgOk H U a m with _ | _
      · exact .inr rfl
      · left
        have k1 := key H U (by omega)
        have k2 := pos _ _ hi
        rcases Int.lt_or_le b U with k3 | k3
        · exact k3
        · exact absurd ⟨k2, k3, hi⟩ k1
  · have hg := rfI_some g _ _ r (by omega) (by omega) hI
    obtain ⟨e1, e2⟩ := hg.found g.m1 g.b1 g.bm i hb
    obtain ⟨n, d⟩ := r
    dsimp only at e1 e2 hg
    have hi := ((good_iff g n d).1 hg).2.2
    have h1 := hg.d1
    have h2 := hg.d2
    unfold rfEnd
    dsimp only
    rcases i.sg with rfl | rfl
    · have e1' : n = H := by omega
      have e2' : d = U := by omega
      clear e1 e2
      subst e1'; subst e2'
      have hc : ¬ (b < d ∨ imgOk n d a m = false) := by
        rw [hi]; simp; omega
      rw [if_neg (by omega), if_neg hc]
    · have e1' : n = -H := by omega
      have e2' : d = -U := by omega
      clear e1 e2
      subst e1'; subst e2'
      have hc : ¬ (b < -U ∨ imgOk (-H) (-U) a m = false) := by
        rw [hi]; simp; omega
      rw [if_pos (by omega), if_neg hc]
end Go.Proofs.Ytmcbhpaajjlmmaa

/-
  DERIVED. A ratio with small parts from its residue: the search over all denominators and Euclid's algorithm find the same. No program in sight.
-/
import Derived.Test.YtmcbhpaajjlmmaaPlain2
namespace Go.Proofs.Ytmcbhpaajjlmmaa
set_option linter.unusedVariables false
/-- A ratio with small parts that has the residue a. -/
structure Good (a m b n d : Int) : Prop where
  d1 : 1 ≤ d
  d2 : d ≤ b
  n1 : -b ≤ n
  n2 : n ≤ b
  co : Int.gcd n d = 1
  cm : Int.gcd d m = 1
  im : m ∣ a * d - n
theorem small_of_dvd {m x : Int} (h : m ∣ x) (h1 : -m < x) (h2 : x < m) : x = 0 := by
  obtain ⟨k, rfl⟩ := h
  have hm : 0 < m := by omega
  rcases Int.lt_trichotomy k 0 with hk | hk | hk
  · have := Int.mul_le_mul_of_nonneg_left (show k ≤ -1 by omega) (show 0 ≤ m by omega)
    omega
  · simp [hk]
  · have := Int.mul_le_mul_of_nonneg_left (show 1 ≤ k by omega) (show 0 ≤ m by omega)
    omega
theorem dvd_of_gcd_one {k m n : Int} (h : k ∣ m * n) (hg : Int.gcd k m = 1) : k ∣ n := by
  rw [← Int.natAbs_dvd_natAbs] at h ⊢
  rw [Int.natAbs_mul] at h
  exact Nat.Coprime.dvd_of_dvd_mul_left hg h
theorem Good.uniq {a m b n d n' d' : Int} (hb : 2 * b * b < m) (h : Good a m b n d) (h' : Good a m b n' d') : n = n' ∧ d = d' := by
  have p1 := mul_bd2 n d' b b h.n1 h.n2 (by have := h'.d1; omega) h'.d2
  have p2 := mul_bd2 n' d b b h'.n1 h'.n2 (by have := h.d1; omega) h.d2
  have hd : m ∣ n * d' - n' * d := by
    have e : n * d' - n' * d = (a * d' - n') * d - (a * d - n) * d' := by grind
    rw [e]
    exact Int.dvd_sub (Int.dvd_trans h'.im ⟨d, rfl⟩) (Int.dvd_trans h.im ⟨d', rfl⟩)
  have hbb : 2 * b * b = 2 * (b * b) := by rw [Int.mul_assoc]
  have h0 := small_of_dvd hd (by omega) (by omega)
  have e1 : n * d' = n' * d := by omega
  have g1 : d ∣ d' := by
    have : d ∣ n * d' := ⟨n', by rw [e1, Int.mul_comm]⟩
    exact dvd_of_gcd_one this (by rw [Int.gcd_comm]; exact h.co)
  have g2 : d' ∣ d := by
    have : d' ∣ n' * d := ⟨n, by rw [← e1, Int.mul_comm]⟩
    exact dvd_of_gcd_one this (by rw [Int.gcd_comm]; exact h'.co)
  have e2 : d = d' := Int.dvd_antisymm (by have := h.d1; omega) (by have := h'.d1; omega) g1 g2
  subst e2
  refine ⟨?_, rfl⟩
  exact Int.eq_of_mul_eq_mul_right (by have := h.d1; omega) e1

/-- Euclid's algorithm on the modulus and the residue, till the remainder is small. -/
def rfS (b g x h u : Int) : Int × Int :=
  if hh : b < h ∧ 0 < h then rfS b h u (g - g / h * h) (x - g / h * u) else (h, u)
termination_by h.natAbs
decreasing_by
  have h1 := Int.emod_lt_of_pos g hh.2
  have h2 := Int.emod_nonneg g (show h ≠ 0 by omega)
  have h3 := Int.mul_ediv_add_emod g h
  rw [Int.mul_comm] at h3
  omega
/-- What stays in the rounds; s is the sign of u. -/
structure RfInv (a m b g x h u s : Int) : Prop where
  sg : s = 1 ∨ s = -1
  u0 : 0 ≤ s * u
  x0 : s * x ≤ 0
  e : g * (s * u) - h * (s * x) = m
  h0 : 0 ≤ h
  hg : h < g
  bg : b < g
  gm : g ≤ m
  cg : m ∣ g - x * a
  ch : m ∣ h - u * a
theorem RfInv.start {a m b : Int} (hm : 1 ≤ m) (hb : b < m) : RfInv a m b m 0 (a % m) 1 1 := by
  refine ⟨.inl rfl, by omega, by omega, by omega, Int.emod_nonneg a (by omega), Int.emod_lt_of_pos a (by omega), hb, Int.le_refl _, by simp, ?_⟩
  refine ⟨-(a / m), ?_⟩
  have := Int.mul_ediv_add_emod a m
  rw [Int.mul_neg]; omega
theorem RfInv.bounds {a m b g x h u s : Int} (i : RfInv a m b g x h u s) (hb : 0 ≤ b) : -m ≤ u ∧ u ≤ m ∧ (s * u) * g ≤ m := by
  have hu := i.u0
  have hx := i.x0
  have h1 : 0 ≤ h * -(s * x) := Int.mul_nonneg i.h0 (by omega)
  rw [Int.mul_neg] at h1
  have e := i.e
  have h2 : (s * u) * g ≤ m := by rw [Int.mul_comm]; omega
  have hg : 1 ≤ g := by have := i.bg; omega
  have h3 := Int.mul_le_mul_of_nonneg_left hg hu
  rcases i.sg with rfl | rfl
  · exact ⟨by omega, by omega, h2⟩
  · exact ⟨by omega, by omega, h2⟩
theorem RfInv.step {a m b g x h u s : Int} (i : RfInv a m b g x h u s) (hb : 0 ≤ b) (hh : b < h) : RfInv a m b h u (g - g / h * h) (x - g / h * u) (-s) := by
  have hp : 0 < h := by omega
  have q0 : 0 ≤ g / h := Int.ediv_nonneg (by have := i.bg; omega) (by omega)
  have r0 := Int.emod_nonneg g (show h ≠ 0 by omega)
  have r1 := Int.emod_lt_of_pos g hp
  have r2 := Int.mul_ediv_add_emod g h
  rw [Int.mul_comm] at r2
  have hu := i.u0
  have hx := i.x0
  have qu : 0 ≤ g / h * (s * u) := Int.mul_nonneg q0 hu
  have e := i.e
  refine ⟨by rcases i.sg with h | h <;> omega, ?_, ?_, ?_, by omega, by omega, hh, by have := i.hg; have := i.gm; omega, i.ch, ?_⟩
  · have : -s * (x - g / h * u) = -(s * x) + g / h * (s * u) := by grind
    omega
  · have : -s * u = -(s * u) := by grind
    omega
  · rw [← e]; grind
  · have e1 : g - g / h * h - (x - g / h * u) * a = (g - x * a) - g / h * (h - u * a) := by grind
    rw [e1]
    exact Int.dvd_sub i.cg (Int.dvd_trans i.ch ⟨g / h, by rw [Int.mul_comm]⟩)
theorem rfS_step (b g x h u : Int) (hh : b < h ∧ 0 < h) : rfS b g x h u = rfS b h u (g - g / h * h) (x - g / h * u) := by
  conv => lhs; rw [rfS]
  simp [hh]
theorem rfS_stop (b g x h u : Int) (hh : ¬ (b < h ∧ 0 < h)) : rfS b g x h u = (h, u) := by
  rw [rfS]; simp only [hh, dite_false]
theorem rfS_spec {a m b : Int} (hb : 0 ≤ b) : ∀ (n : Nat) (g x h u s : Int), h.natAbs ≤ n → RfInv a m b g x h u s → ∃ G X H U S : Int, rfS b g x h u = (H, U) ∧ RfInv a m b G X H U S ∧ H ≤ b
  | n, g, x, h, u, s, hn, i => by
    by_cases hh : b < h
    · match n, hn with
      | 0, hn => omega
      | n + 1, hn =>
        rw [rfS_step _ _ _ _ _ ⟨hh, by omega⟩]
        have j := i.step hb hh
        have k1 := j.hg
        have k2 := j.h0
        exact rfS_spec hb n _ _ _ _ _ (by omega) j
    · exact ⟨g, x, h, u, s, rfS_stop _ _ _ _ _ (by omega), i, by omega⟩

/-- A good ratio is what Euclid's algorithm stops at, but for the sign. -/
theorem Good.found {a m b n d g x h u s : Int} (hm : 1 ≤ m) (hb1 : 1 ≤ b) (hb : 2 * b * b < m) (r : Good a m b n d) (i : RfInv a m b g x h u s) (hh : h ≤ b) : n = s * h ∧ d = s * u := by
  have A1 : m ∣ g * d - x * n := by
    have e1 : g * d - x * n = (g - x * a) * d + x * (a * d - n) := by grind
    rw [e1]
    exact Int.dvd_add (Int.dvd_trans i.cg ⟨d, rfl⟩) (Int.dvd_trans r.im ⟨x, by rw [Int.mul_comm]⟩)
  have B1 : m ∣ u * n - h * d := by
    have e1 : u * n - h * d = -(u * (a * d - n)) - (h - u * a) * d := by grind
    rw [e1]
    exact Int.dvd_sub (Int.dvd_neg.2 (Int.dvd_trans r.im ⟨u, by rw [Int.mul_comm]⟩)) (Int.dvd_trans i.ch ⟨d, rfl⟩)
  obtain ⟨al, ha⟩ := A1
  obtain ⟨be, hbe⟩ := B1
  have ss : s * s = 1 := by rcases i.sg with rfl | rfl <;> rfl
  have e := i.e
  have en : n = s * (g * be + h * al) := by
    have k1 : m * (s * (g * be + h * al)) = m * n := by
      have k2 : g * (u * n - h * d) + h * (g * d - x * n) = n * (g * u - h * x) := by grind
      rw [ha, hbe] at k2
      have k3 : g * u - h * x = s * m := by rw [← e]; grind
      rw [k3] at k2
      grind
    exact (Int.eq_of_mul_eq_mul_left (by omega) k1).symm
  have ed : d = s * (x * be + u * al) := by
    have k1 : m * (s * (x * be + u * al)) = m * d := by
      have k2 : x * (u * n - h * d) + u * (g * d - x * n) = d * (g * u - h * x) := by grind
      rw [ha, hbe] at k2
      have k3 : g * u - h * x = s * m := by rw [← e]; grind
      rw [k3] at k2
      grind
    exact (Int.eq_of_mul_eq_mul_left (by omega) k1).symm
  have hS := i.u0
  have hX := i.x0
  have hg1 := i.bg
  have hh0 := i.h0
  have d1 := r.d1
  have d2 := r.d2
  have n1 := r.n1
  have n2 := r.n2
  -- d = S p + X q with S = s u, X = -(s x), p = al, q = -be; n = s (h p - g q)
  have ed2 : d = (s * u) * al + -(s * x) * -be := by rw [ed]; grind
  have en2 : s * n = h * al - g * -be := by rw [en]; grind
  have em : g * (s * u) + h * -(s * x) = m := by rw [← e]; grind
  have sn : -b ≤ s * n ∧ s * n ≤ b := by rcases i.sg with rfl | rfl <;> omega
  generalize s * u = S at *
  have hX' : 0 ≤ -(s * x) := by omega
  generalize -(s * x) = X at *
  generalize -be = q at *
  have hq : q = 0 := by
    rcases Int.lt_trichotomy q 0 with hq | hq | hq
    · exfalso
      have gq : g * 1 ≤ g * -q := Int.mul_le_mul_of_nonneg_left (by omega) (by omega)
      rw [Int.mul_neg] at gq
      rcases Int.lt_or_le al 0 with hp | hp
      · have k1 : 0 ≤ S * -al := Int.mul_nonneg hS (by omega)
        have k2 : 0 ≤ X * -q := Int.mul_nonneg hX' (by omega)
        rw [Int.mul_neg] at k1 k2
        omega
      · have k1 : 0 ≤ h * al := Int.mul_nonneg hh0 hp
        omega
    · exact hq
    · exfalso
      have gq : g * 1 ≤ g * q := Int.mul_le_mul_of_nonneg_left (by omega) (by omega)
      rcases Int.lt_or_le 0 al with hp | hp
      · have k1 : S * 1 ≤ S * al := Int.mul_le_mul_of_nonneg_left (by omega) hS
        have k2 : 0 ≤ X * q := Int.mul_nonneg hX' (by omega)
        have k3 : S ≤ b := by omega
        have k4 : S * (g * q - h * al) + h * d = q * m := by rw [ed2, ← em]; grind
        have k5 : S * (g * q - h * al) ≤ S * b := Int.mul_le_mul_of_nonneg_left (by omega) hS
        have k6 : S * b ≤ b * b := Int.mul_le_mul_of_nonneg_right k3 (by omega)
        have k7 : h * d ≤ b * b := Int.mul_le_mul hh d2 (by omega) (by omega)
        have k8 : 1 * m ≤ q * m := Int.mul_le_mul_of_nonneg_right (by omega) (by omega)
        have k9 : 2 * b * b = 2 * (b * b) := by rw [Int.mul_assoc]
        omega
      · have k1 : 0 ≤ h * -al := Int.mul_nonneg hh0 (by omega)
        rw [Int.mul_neg] at k1
        omega
  subst hq
  have ed3 : d = S * al := by omega
  have en3 : s * n = h * al := by omega
  have hal : al ∣ 1 := by
    have k1 : al ∣ d := ⟨S, by rw [ed3, Int.mul_comm]⟩
    have k2 : al ∣ n := by
      have : n = s * (s * n) := by rw [← Int.mul_assoc, ss, Int.one_mul]
      rw [this, en3]
      exact ⟨s * h, by grind⟩
    have := Int.dvd_coe_gcd k2 k1
    rw [r.co] at this
    exact this
  have hpos : 0 < al := by
    rcases Int.lt_or_le 0 al with hp | hp
    · exact hp
    · have k1 : 0 ≤ S * -al := Int.mul_nonneg hS (by omega)
      rw [Int.mul_neg] at k1
      omega
  have hal1 : al = 1 := by
    have := Int.le_of_dvd (by omega) hal
    omega
  subst hal1
  refine ⟨?_, by omega⟩
  have : n = s * (s * n) := by rw [← Int.mul_assoc, ss, Int.one_mul]
  rw [this, en3, Int.mul_one]
end Go.Proofs.Ytmcbhpaajjlmmaa

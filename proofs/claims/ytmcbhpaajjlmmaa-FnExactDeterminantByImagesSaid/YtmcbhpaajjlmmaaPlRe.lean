/-
  DERIVED. A ratio with small parts comes back from its residue: no program in sight.
-/
import Derived.Test.YtmcbhpaajjlmmaaRatioFrom
import Derived.Test.YtmcbhpaajjlmmaaPlainC
namespace Go.Proofs.Ytmcbhpaajjlmmaa
set_option linter.unusedVariables false
theorem invOf_spec {a m : Int} (hm : 1 ≤ m) (hm2 : m ≤ 400000000) (hg : Int.gcd a m = 1) : m ∣ a * invOf a m - 1 := by
  obtain ⟨b1, b2⟩ := emod_bds a m hm
  have hs := egRes_spec (a := a % m) (b := m) (by omega) (by omega)
  have e1 := Int.emod_add_mul_ediv a m
  have hg2 : Int.gcd (a % m) m = 1 := by
    have : Int.gcd (a % m + m * (a / m)) m = Int.gcd (a % m) m := Int.gcd_add_mul_left_left _ _ _
    rw [e1] at this
    omega
  obtain ⟨-, hc, -, -⟩ := hs
  rw [hg2] at hc
  unfold invOf
  generalize (egRes (a % m) m).2.1 = x at *
  generalize (egRes (a % m) m).2.2 = y at *
  have e2 := Int.emod_add_mul_ediv x m
  refine ⟨a / m * (x % m) - a % m * (x / m) - y, ?_⟩
  have h1 : a * (x % m) = a % m * (x % m) + m * (a / m * (x % m)) := by
    conv => lhs; rw [← e1]
    grind
  have h2 : a % m * x = a % m * (x % m) + m * (a % m * (x / m)) := by
    conv => lhs; rw [← e2]
    grind
  rw [Int.mul_sub, Int.mul_sub]
  generalize m * (a / m * (x % m)) = P at *
  generalize m * (a % m * (x / m)) = Q at *
  generalize a % m * (x % m) = S at *
  generalize a % m * x = T at *
  omega
theorem resVal_yes {n d m : Int} (h : resOk n d m = true) : (1 ≤ m ∧ m ≤ 400000000) ∧ ratOk n d = true ∧ 0 ≤ resVal n d m ∧ resVal n d m < m ∧ m ∣ resVal n d m * d - n ∧ Int.gcd d m = 1 := by
  have hv : resVal n d m = (n % m * invOf d m) % m := by unfold resVal; rw [h]; rfl
  simp only [resOk, Bool.and_eq_true, decide_eq_true_eq] at h
  obtain ⟨⟨⟨h1, h2⟩, h3⟩, h4⟩ := h
  obtain ⟨b1, b2⟩ := emod_bds (n % m * invOf d m) m h2
  obtain ⟨k, hk⟩ := invOf_spec h2 h3 h4
  have e1 := Int.emod_add_mul_ediv n m
  have e2 := Int.emod_add_mul_ediv (n % m * invOf d m) m
  rw [hv]
  refine ⟨⟨h2, h3⟩, h1, b1, b2, ⟨n % m * k - (n % m * invOf d m) / m * d - n / m, ?_⟩, h4⟩
  generalize (n % m * invOf d m) / m = q at *
  have e3 : (n % m * invOf d m) % m = n % m * invOf d m - m * q := by omega
  rw [e3]
  have e4 : invOf d m * d = m * k + 1 := by rw [Int.mul_comm]; omega
  have e5 : (n % m * invOf d m - m * q) * d = n % m * (invOf d m * d) - m * (q * d) := by grind
  rw [e5, e4, Int.mul_sub, Int.mul_sub, Int.mul_add]
  have e6 : n % m * (m * k) = m * (n % m * k) := by grind
  rw [e6]
  omega
theorem resVal_img {n d m : Int} (h : resOk n d m = true) : imgOk n d (resVal n d m) m = true := by
  obtain ⟨⟨h1, h2⟩, h3, h4, h5, h6, h7⟩ := resVal_yes h
  exact (imgOk_iff _ _ _ _).2 ⟨h3, ⟨by omega, by omega⟩, ⟨h1, h2⟩, h7, Int.emod_eq_zero_of_dvd h6⟩
/-- The bound that a ratio needs. -/
def rbd (n d : Int) : Int := max 1 (max (n.natAbs : Int) d)
theorem rf_back {n d m : Int} (h : resOk n d m = true) (hb : rbd n d ≤ 20000) (h2 : 2 * rbd n d * rbd n d < m) : rfRes (resVal n d m) m (rbd n d) = some (n, d) := by
  obtain ⟨⟨k1, k2⟩, k3, k4, k5, k6, k7⟩ := resVal_yes h
  obtain ⟨j1, j2, j3, j4⟩ := ratOk_bds k3
  have r1 : 1 ≤ rbd n d ∧ (n.natAbs : Int) ≤ rbd n d ∧ d ≤ rbd n d := by unfold rbd; omega
  generalize rbd n d = b at *
  have g : RfOk (resVal n d m) m b := ⟨by omega, by omega, k1, k2, by omega, hb, h2⟩
  have hG : Good (resVal n d m) m b n d := (good_iff g n d).2 ⟨⟨j1, by omega⟩, by omega, resVal_img h⟩
  have hk : rfOkB (resVal n d m) m b = true := by
    simp only [rfOkB, Bool.and_eq_true, decide_eq_true_eq]
    exact ⟨⟨⟨⟨⟨(isNum_iff _).2 ⟨by omega, by omega⟩, k1⟩, k2⟩, by omega⟩, hb⟩, h2⟩
  unfold rfRes
  rw [if_pos hk]
  rcases hI : rfI (resVal n d m) m b b.toNat 1 with _ | r
  · exact (rfI_none g _ _ hI n d hG hG.d1 (by have := hG.d2; have := hG.d1; omega)).elim
  · have hg := rfI_some g _ _ r (by omega) (by omega) hI
    obtain ⟨e1, e2⟩ := Good.uniq g.bm hG hg
    obtain ⟨a, b⟩ := r
    dsimp only at e1 e2
    rw [e1, e2]
end Go.Proofs.Ytmcbhpaajjlmmaa

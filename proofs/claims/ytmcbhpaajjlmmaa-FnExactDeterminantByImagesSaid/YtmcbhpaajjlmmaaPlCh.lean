/-
  DERIVED. The number with given residues has them, and is less than the product: no program in sight.
-/
import Derived.Test.YtmcbhpaajjlmmaaPlRe
namespace Go.Proofs.Ytmcbhpaajjlmmaa
set_option linter.unusedVariables false
theorem spF_gcd {p n : Int} {ms : List Int} (h : spF p (n :: ms) = true) : Int.gcd p n = 1 := by
  unfold spF at h
  split at h
  · cases h
  · split at h
    · cases h
    · rename_i h2
      exact Decidable.of_not_not h2
theorem chK_dvd {x p r n : Int} (hn : 2 ≤ n) (hn2 : n ≤ 400000000) (hg : Int.gcd p n = 1) : n ∣ x + p * chK x p r n - r := by
  obtain ⟨k, hk⟩ := invOf_spec (show 1 ≤ n by omega) hn2 hg
  unfold chK
  have e1 := Int.emod_add_mul_ediv ((r - x) * invOf p n) n
  generalize ((r - x) * invOf p n) / n = q at *
  have e2 : ((r - x) * invOf p n) % n = (r - x) * invOf p n - n * q := by omega
  rw [e2]
  refine ⟨(r - x) * k - p * q, ?_⟩
  have e3 : p * invOf p n = n * k + 1 := by omega
  have e4 : x + p * ((r - x) * invOf p n - n * q) - r = (r - x) * (p * invOf p n) - n * (p * q) - (r - x) := by grind
  rw [e4, e3]
  grind
theorem chF_spec : ∀ (ms rs : List Int) (x p : Int), 0 ≤ x → x < p → rs.length = ms.length → spF p ms = true →
    (chF x p rs ms).2 = ms.foldl (· * ·) p ∧ 0 ≤ (chF x p rs ms).1 ∧ (chF x p rs ms).1 < (chF x p rs ms).2 ∧ p ∣ (chF x p rs ms).1 - x ∧ ∀ i, i < ms.length → ms.getD i 0 ∣ (chF x p rs ms).1 - rs.getD i 0
  | [], rs, x, p, h0, h1, hl, hs => by
    have : rs = [] := List.length_eq_zero_iff.1 hl
    subst this
    exact ⟨rfl, h0, h1, by show p ∣ x - x; rw [Int.sub_self]; exact Int.dvd_zero _, fun i hi => absurd hi (Nat.not_lt_zero _)⟩
  | n :: ms, [], x, p, h0, h1, hl, hs => by simp at hl
  | n :: ms, r :: rs, x, p, h0, h1, hl, hs => by
    have hp : 1 ≤ p := by omega
    obtain ⟨s1, s2, s3, s4, s5⟩ := spF_cons hs hp
    obtain ⟨t1, t2, t3, t4⟩ := ch_step (r := r) h0 h1 s1 s3
    have hd := chK_dvd (x := x) (r := r) s1 s2 (spF_gcd hs)
    obtain ⟨i1, i2, i3, i4, i5⟩ := chF_spec ms rs (x + p * chK x p r n) (p * n) t3 t4 (by simpa using hl) s5
    show (chF (x + p * chK x p r n) (p * n) rs ms).2 = _ ∧ 0 ≤ (chF (x + p * chK x p r n) (p * n) rs ms).1 ∧ (chF (x + p * chK x p r n) (p * n) rs ms).1 < (chF (x + p * chK x p r n) (p * n) rs ms).2 ∧ p ∣ (chF (x + p * chK x p r n) (p * n) rs ms).1 - x ∧ ∀ i, i < (n :: ms).length → (n :: ms).getD i 0 ∣ (chF (x + p * chK x p r n) (p * n) rs ms).1 - (r :: rs).getD i 0
    generalize chF (x + p * chK x p r n) (p * n) rs ms = q at *
    generalize chK x p r n = k at *
    refine ⟨i1, i2, i3, ?_, fun i hi => ?_⟩
    · have e : q.1 - x = (q.1 - (x + p * k)) + p * k := by omega
      rw [e]
      exact Int.dvd_add (Int.dvd_trans ⟨n, rfl⟩ i4) ⟨k, rfl⟩
    · match i, hi with
      | 0, _ =>
        show n ∣ q.1 - r
        have e : q.1 - r = (q.1 - (x + p * k)) + (x + p * k - r) := by omega
        rw [e]
        exact Int.dvd_add (Int.dvd_trans ⟨p, by rw [Int.mul_comm]⟩ i4) hd
      | i + 1, hi =>
        have := i5 i (by simpa using hi)
        simpa using this
/-- What the number with given residues is. -/
theorem chV_spec {rs ms : List Int} (h : chB rs ms = true) : (chV rs ms).2 = ms.foldl (· * ·) 1 ∧ 0 ≤ (chV rs ms).1 ∧ (chV rs ms).1 < (chV rs ms).2 ∧ ∀ i, i < ms.length → ms.getD i 0 ∣ (chV rs ms).1 - rs.getD i 0 := by
  obtain ⟨h1, h2, h3, h4⟩ := chB_iff.1 h
  obtain ⟨i1, i2, i3, i4, i5⟩ := chF_spec ms rs 0 1 (by omega) (by omega) h3 h1
  unfold chV
  rw [if_pos h]
  exact ⟨i1, i2, i3, i5⟩
/-- The products are within the limit all along. -/
theorem spF_prod : ∀ (ms : List Int) (p : Int), 1 ≤ p → p ≤ 400000000 → spF p ms = true → (1 ≤ ms.foldl (· * ·) p ∧ ms.foldl (· * ·) p ≤ 400000000) ∧ ∀ i, i < ms.length → 2 ≤ ms.getD i 0 ∧ ms.getD i 0 ≤ 400000000
  | [], p, h1, h2, _ => ⟨⟨h1, h2⟩, fun i hi => absurd hi (Nat.not_lt_zero _)⟩
  | n :: ms, p, h1, h2, hs => by
    obtain ⟨s1, s2, s3, s4, s5⟩ := spF_cons hs h1
    obtain ⟨k1, k2⟩ := spF_prod ms (p * n) (by omega) s3 s5
    refine ⟨k1, fun i hi => ?_⟩
    match i, hi with
    | 0, _ => exact ⟨s1, s2⟩
    | i + 1, hi =>
      have := k2 i (by simpa using hi)
      simpa using this
theorem spF_take : ∀ (ms : List Int) (p : Int) (k : Nat), 1 ≤ p → p ≤ 400000000 → spF p ms = true → 1 ≤ (ms.take k).foldl (· * ·) p ∧ (ms.take k).foldl (· * ·) p ≤ 400000000
  | ms, p, 0, h1, h2, _ => by simpa using ⟨h1, h2⟩
  | [], p, k + 1, h1, h2, _ => by simpa using ⟨h1, h2⟩
  | n :: ms, p, k + 1, h1, h2, hs => by
    obtain ⟨s1, s2, s3, s4, s5⟩ := spF_cons hs h1
    exact spF_take ms (p * n) k (by omega) s3 s5
theorem symOf_spec {x m : Int} (hm : 1 ≤ m) : m ∣ x - symOf x m ∧ 2 * symOf x m ≤ m ∧ -m < 2 * symOf x m := by
  obtain ⟨b1, b2⟩ := emod_bds x m hm
  have e1 := Int.emod_add_mul_ediv x m
  unfold symOf
  split
  · rename_i h
    refine ⟨⟨x / m + 1, ?_⟩, by omega, by omega⟩
    rw [Int.mul_add, Int.mul_one]
    omega
  · rename_i h
    exact ⟨⟨x / m, by omega⟩, by omega, by omega⟩
end Go.Proofs.Ytmcbhpaajjlmmaa

/-
  DERIVED. The number with given residues, step by step: no program in sight.
-/
import Derived.Test.YtmcbhpaajjlmmaaInv
import Derived.Test.YtmcbhpaajjlmmaaPlain3
namespace Go.Proofs.Ytmcbhpaajjlmmaa
set_option linter.unusedVariables false
def chK (x p r n : Int) : Int := ((r - x) * invOf p n) % n
def chF (x p : Int) : List Int → List Int → Int × Int
  | r :: rs, n :: ms => chF (x + p * chK x p r n) (p * n) rs ms
  | _, _ => (x, p)
def chB (rs ms : List Int) : Bool := modsOk ms && decide (rs.length = ms.length) && rs.all isNum
def chV (rs ms : List Int) : Int × Int := if chB rs ms then chF 0 1 rs ms else (0, 0)
theorem invOf_bds (a m : Int) (hm : 1 ≤ m) : 0 ≤ invOf a m ∧ invOf a m < m := emod_bds _ _ hm
theorem chK_bds (x p r n : Int) (hn : 1 ≤ n) : 0 ≤ chK x p r n ∧ chK x p r n < n := emod_bds _ _ hn
theorem tmod_emod (a n : Int) (hn : 0 < n) : a.tmod n % n = a % n := by
  have h := Int.tmod_add_mul_tdiv a n
  conv => rhs; rw [← h]
  rw [Int.add_mul_emod_self_left]
theorem chK_impl (x p r n : Int) (hn : 0 < n) : ((r - x).tmod n * invOf p n) % n = chK x p r n := by
  unfold chK
  rw [Int.mul_emod, tmod_emod _ _ hn, ← Int.mul_emod]
theorem chK_spec (x p r n : Int) : ((r - x) % n * invOf p n) % n = chK x p r n := by
  unfold chK
  rw [Int.mul_emod, Int.emod_emod, ← Int.mul_emod]
/-- One step: the new number is less than the new product, which is within the limit. -/
theorem ch_step {x p r n : Int} (hx : 0 ≤ x) (hxp : x < p) (hn : 2 ≤ n) (hpn : p * n ≤ 400000000) :
    0 ≤ p * chK x p r n ∧ p * chK x p r n ≤ 400000000 ∧ 0 ≤ x + p * chK x p r n ∧ x + p * chK x p r n < p * n := by
  obtain ⟨h1, h2⟩ := chK_bds x p r n (by omega)
  have h3 : 0 ≤ p * chK x p r n := Int.mul_nonneg (by omega) h1
  have h4 : p * (chK x p r n + 1) ≤ p * n := Int.mul_le_mul_of_nonneg_left (by omega) (by omega)
  rw [Int.mul_add, Int.mul_one] at h4
  omega
theorem spF_cons {p n : Int} {ms : List Int} (h : spF p (n :: ms) = true) (hp : 1 ≤ p) : 2 ≤ n ∧ n ≤ 400000000 ∧ p * n ≤ 400000000 ∧ 2 ≤ p * n ∧ spF (p * n) ms = true := by
  unfold spF at h
  split at h
  · cases h
  · rename_i h1
    split at h
    · cases h
    · split at h
      · cases h
      · rename_i h3
        have h4 := (isNum_iff (p * n)).1 (by simpa using h3)
        have h5 : 1 * n ≤ p * n := Int.mul_le_mul_of_nonneg_right hp (by omega)
        exact ⟨by omega, by omega, by omega, by omega, h⟩
theorem chB_iff {rs ms : List Int} : chB rs ms = true ↔ spF 1 ms = true ∧ ms.length ≤ 8 ∧ rs.length = ms.length ∧ rs.all isNum = true := by
  simp only [chB, modsOk, Bool.and_eq_true, decide_eq_true_eq]
  constructor
  · rintro ⟨⟨⟨h1, h2⟩, h3⟩, h4⟩; exact ⟨h2, h1, h3, h4⟩
  · rintro ⟨h2, h1, h3, h4⟩; exact ⟨⟨⟨h1, h2⟩, h3⟩, h4⟩
theorem all_getD {xs : List Int} (h : xs.all isNum = true) (k : Nat) : -400000000 ≤ xs.getD k 0 ∧ xs.getD k 0 ≤ 400000000 := by
  by_cases hk : k < xs.length
  · have h1 : xs.getD k 0 = xs[k] := by simp [List.getD, hk]
    rw [h1]
    exact (isNum_iff _).1 (List.all_eq_true.1 h xs[k] (List.getElem_mem hk))
  · have h1 : xs.getD k 0 = 0 := by simp [List.getD, List.getElem?_eq_none (show xs.length ≤ k by omega)]
    rw [h1]; omega
end Go.Proofs.Ytmcbhpaajjlmmaa

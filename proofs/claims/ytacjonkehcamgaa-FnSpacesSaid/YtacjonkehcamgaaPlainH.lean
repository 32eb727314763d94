/-
  DERIVED. What a Hermite form asks, row by row: no program in sight.
-/
import Derived.Test.YtacjonkehcamgaaRow2
namespace Go.Proofs.Ytacjonkehcamgaa
set_option linter.unusedVariables false
/-- The pivot of row i: the first column that is not 0, or the number of columns. -/
def pv (xs : List Int) (C i : Nat) : Nat := fcN (rowL xs C i)
def lastP (xs : List Int) (C i : Nat) : Int := if i = 0 then -1 else pv xs C (i - 1)
def hcA (xs : List Int) (C i k : Nat) : Bool := decide (0 ≤ cel xs C k (pv xs C i)) && decide (cel xs C k (pv xs C i) < cel xs C i (pv xs C i))
def hrow (xs : List Int) (C i : Nat) : Bool :=
  if pv xs C i < C then decide (lastP xs C i < pv xs C i) && decide (0 ≤ cel xs C i (pv xs C i)) && (List.range i).all (hcA xs C i) else true
def hcS (xs : List Int) (C i k : Nat) : Bool := if k < i then hcA xs C i k else if k = i then true else decide (cel xs C k (pv xs C i) = 0)
def hrowS (xs : List Int) (R C i : Nat) : Bool :=
  if pv xs C i < C then decide (lastP xs C i < pv xs C i) && decide (0 ≤ cel xs C i (pv xs C i)) && (List.range R).all (hcS xs C i) else true
def hermB (r c : Int) (xs : List Int) : Bool := isMat r c xs && (List.range r.toNat).all (hrow xs c.toNat)
theorem pv_le {xs : List Int} {R C i : Nat} (hl : xs.length = R * C) (hi : i < R) : pv xs C i ≤ C := by
  have h := fcN_le (rowL xs C i)
  rw [rowL_len (by rw [hl]; have := Nat.mul_le_mul_right C (show i + 1 ≤ R by omega); rw [Nat.add_mul, Nat.one_mul] at this; exact this)] at h
  exact h
theorem lastP_zero (xs : List Int) (C : Nat) : lastP xs C 0 = -1 := by simp [lastP]
theorem lastP_succ (xs : List Int) (C i : Nat) : lastP xs C (i + 1) = pv xs C i := by simp [lastP]
theorem pv_zero {xs : List Int} {C i j : Nat} (h : j < pv xs C i) (hj : j < C) : cel xs C i j = 0 := by
  rw [← rowL_getD hj]; exact fcN_zero _ _ h
theorem pv_inc {xs : List Int} {R C : Nat} (hl : xs.length = R * C) (h : (List.range R).all (hrow xs C) = true) {i : Nat} : ∀ k, i < k → k < R → pv xs C k < C → pv xs C i < pv xs C k := by
  intro k
  induction k with
  | zero => intro h1; omega
  | succ k ih =>
    intro h1 h2 h3
    have hk : hrow xs C (k + 1) = true := List.all_eq_true.1 h _ (List.mem_range.2 h2)
    unfold hrow at hk
    rw [if_pos h3, lastP_succ] at hk
    simp only [Bool.and_eq_true, decide_eq_true_eq] at hk
    have h4 := hk.1.1
    by_cases hik : i = k
    · subst hik; omega
    · have := ih (by omega) (by omega) (by omega); omega
theorem herm_iff {xs : List Int} {R C : Nat} (hl : xs.length = R * C) : (List.range R).all (hrow xs C) = (List.range R).all (hrowS xs R C) := by
  rw [Bool.eq_iff_iff]
  constructor
  · intro h
    rw [List.all_eq_true]
    intro i hi
    have hi' := List.mem_range.1 hi
    have h1 : hrow xs C i = true := List.all_eq_true.1 h _ hi
    unfold hrow at h1
    unfold hrowS
    split
    · rename_i hp
      rw [if_pos hp] at h1
      simp only [Bool.and_eq_true] at h1 ⊢
      refine ⟨h1.1, ?_⟩
      rw [List.all_eq_true]
      intro k hk
      have hk' := List.mem_range.1 hk
      unfold hcS
      split
      · rename_i hki
        exact List.all_eq_true.1 h1.2 k (List.mem_range.2 hki)
      · split
        · rfl
        · rw [decide_eq_true_eq]
          apply pv_zero _ hp
          by_cases hc : pv xs C k < C
          · exact pv_inc hl h k (by omega) hk' hc
          · have := pv_le hl hk'; omega
    · rfl
  · intro h
    rw [List.all_eq_true]
    intro i hi
    have hi' := List.mem_range.1 hi
    have h1 : hrowS xs R C i = true := List.all_eq_true.1 h _ hi
    unfold hrowS at h1
    unfold hrow
    split
    · rename_i hp
      rw [if_pos hp] at h1
      simp only [Bool.and_eq_true] at h1 ⊢
      refine ⟨h1.1, ?_⟩
      rw [List.all_eq_true]
      intro k hk
      have hk' := List.mem_range.1 hk
      have h2 : hcS xs C i k = true := List.all_eq_true.1 h1.2 k (List.mem_range.2 (by omega))
      unfold hcS at h2
      rw [if_pos hk'] at h2
      exact h2
    · rfl
theorem hermB_S (r c : Int) (xs : List Int) : hermB r c xs = (isMat r c xs && (List.range r.toNat).all (hrowS xs r.toNat c.toNat)) := by
  unfold hermB
  rcases hm : isMat r c xs with _ | _
  · rfl
  · have M := isMat_iff.1 hm
    rw [herm_iff]
    have h1 := M.len; have h2 := M.r0; have h3 := M.c0
    obtain ⟨R, rfl⟩ := nat_of h2
    obtain ⟨C, rfl⟩ := nat_of h3
    simp only [Int.toNat_natCast]
    rw [← Int.natCast_mul] at h1; omega
end Go.Proofs.Ytacjonkehcamgaa

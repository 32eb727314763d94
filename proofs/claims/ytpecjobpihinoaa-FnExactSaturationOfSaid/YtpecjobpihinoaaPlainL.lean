/-
  DERIVED. Rows of zeros: no program in sight.
-/
import Derived.Test.YtpecjobpihinoaaPlainH
namespace Go.Proofs.Ytpecjobpihinoaa
set_option linter.unusedVariables false
def fullTo (xs : List Int) (C k : Nat) : List Int := ((List.range k).filter fun i => decide (pv xs C i < C)).map Int.ofNat
def zeroTo (xs : List Int) (C k : Nat) : List Int := ((List.range k).filter fun i => !decide (pv xs C i < C)).map Int.ofNat
theorem fullTo_zero (xs : List Int) (C : Nat) : fullTo xs C 0 = [] := by simp [fullTo]
theorem zeroTo_zero (xs : List Int) (C : Nat) : zeroTo xs C 0 = [] := by simp [zeroTo]
theorem fullTo_yes {xs : List Int} {C k : Nat} (h : pv xs C k < C) : fullTo xs C (k + 1) = fullTo xs C k ++ [(k : Int)] := by
  simp [fullTo, List.range_succ, List.filter_append, h]
theorem fullTo_no {xs : List Int} {C k : Nat} (h : ¬ pv xs C k < C) : fullTo xs C (k + 1) = fullTo xs C k := by
  simp [fullTo, List.range_succ, List.filter_append, h]
theorem zeroTo_no {xs : List Int} {C k : Nat} (h : ¬ pv xs C k < C) : zeroTo xs C (k + 1) = zeroTo xs C k ++ [(k : Int)] := by
  have h' : decide (pv xs C k < C) = false := by simpa using h
  simp [zeroTo, List.range_succ, List.filter_append, h']
theorem zeroTo_yes {xs : List Int} {C k : Nat} (h : pv xs C k < C) : zeroTo xs C (k + 1) = zeroTo xs C k := by
  simp [zeroTo, List.range_succ, List.filter_append, h]
theorem fullTo_len (xs : List Int) (C k : Nat) : (fullTo xs C k).length ≤ k := by
  have := List.length_filter_le (fun i => decide (pv xs C i < C)) (List.range k)
  simpa [fullTo] using this
theorem zeroTo_len (xs : List Int) (C k : Nat) : (zeroTo xs C k).length ≤ k := by
  have := List.length_filter_le (fun i => !decide (pv xs C i < C)) (List.range k)
  simpa [zeroTo] using this
theorem pv_ne {xs : List Int} {R C i : Nat} (hl : xs.length = R * C) (hi : i < R) (hp : pv xs C i < C) : cel xs C i (pv xs C i) ≠ 0 := by
  have h5 := fcN_ne (rowL xs C i) (by
    rw [rowL_len (by have h3 := Nat.mul_le_mul_right C (show i + 1 ≤ R by omega); rw [Nat.add_mul, Nat.one_mul] at h3; omega)]; exact hp)
  rw [← rowL_getD hp]; exact h5
/-- One more than the last row that is not zeros. -/
def lastR (xs : List Int) (C : Nat) : Nat → Nat
  | 0 => 0
  | k + 1 => if pv xs C k < C then k + 1 else lastR xs C k
theorem lastR_le (xs : List Int) (C : Nat) : ∀ k, lastR xs C k ≤ k
  | 0 => Nat.le_refl _
  | k + 1 => by unfold lastR; have := lastR_le xs C k; split <;> omega
/-- In a Hermite form rows of zeros are below. -/
theorem pv_down {xs : List Int} {R C : Nat} (hl : xs.length = R * C) (h : (List.range R).all (hrow xs C) = true) {i k : Nat} (hik : i < k) (hk : k < R) (hp : pv xs C k < C) : pv xs C i < C := by
  have := pv_inc hl h k hik hk hp; omega
theorem lastR_full {xs : List Int} {R C : Nat} (hl : xs.length = R * C) (h : (List.range R).all (hrow xs C) = true) : ∀ k, k ≤ R → lastR xs C k = (fullTo xs C k).length ∧ (∀ i, i < lastR xs C k → pv xs C i < C) ∧ fullTo xs C k = (List.range (lastR xs C k)).map Int.ofNat
  | 0, _ => by simp [lastR, fullTo]
  | k + 1, hk => by
    obtain ⟨h1, h2, h3⟩ := lastR_full hl h k (by omega)
    unfold lastR
    by_cases hp : pv xs C k < C
    · rw [if_pos hp, fullTo_yes hp]
      have hall : ∀ i, i < k → pv xs C i < C := fun i hi => pv_down hl h hi (by omega) hp
      have he : lastR xs C k = k := by
        cases k with
        | zero => rfl
        | succ j => unfold lastR; rw [if_pos (hall j (by omega))]
      rw [he] at h1 h3
      refine ⟨by rw [List.length_append, ← h1]; simp, fun i hi => ?_, ?_⟩
      · by_cases hik : i = k
        · rw [hik]; exact hp
        · exact hall i (by omega)
      · rw [h3, List.range_succ, List.map_append]; rfl
    · rw [if_neg hp, fullTo_no hp]
      exact ⟨h1, h2, h3⟩
theorem len_add (xs : List Int) (C k : Nat) : (fullTo xs C k).length + (zeroTo xs C k).length = k := by
  induction k with
  | zero => simp [fullTo, zeroTo]
  | succ k ih =>
    by_cases hp : pv xs C k < C
    · rw [fullTo_yes hp, zeroTo_yes hp, List.length_append]; simp; omega
    · rw [fullTo_no hp, zeroTo_no hp, List.length_append]; simp; omega
def latB (r c : Int) (xs : List Int) : Bool := hermB r c xs && decide ((zeroTo xs c.toNat r.toNat).length = 0)
theorem latB_S (r c : Int) (xs : List Int) : latB r c xs = (hermB r c xs && decide (lastR xs c.toNat r.toNat = r.toNat)) := by
  unfold latB
  rcases hh : hermB r c xs with _ | _
  · rfl
  · have hh' := hh
    unfold hermB at hh'
    rw [Bool.and_eq_true] at hh'
    have M := isMat_iff.1 hh'.1
    have h1 := M.len; have h2 := M.r0; have h3 := M.c0
    obtain ⟨R, rfl⟩ := nat_of h2
    obtain ⟨C, rfl⟩ := nat_of h3
    simp only [Int.toNat_natCast] at hh' ⊢
    have hl : xs.length = R * C := by rw [← Int.natCast_mul] at h1; omega
    have a := (lastR_full hl hh'.2 R (Nat.le_refl _)).1
    have b := len_add xs C R
    rw [Bool.true_and, Bool.true_and, Bool.eq_iff_iff, decide_eq_true_eq, decide_eq_true_eq]
    omega
end Go.Proofs.Ytpecjobpihinoaa

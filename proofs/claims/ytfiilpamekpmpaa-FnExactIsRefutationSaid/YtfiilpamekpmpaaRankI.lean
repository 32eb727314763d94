/-
  DERIVED. RankMod and DeterminantMod of the program.
-/
import Derived.Test.YtfiilpamekpmpaaElim
import Derived.Test.YtfiilpamekpmpaaRed
import Derived.Test.YtfiilpamekpmpaaAppend2
namespace Go.Proofs.Ytfiilpamekpmpaa
open Go.RowKit
set_option linter.unusedVariables false
set_option linter.unusedSimpArgs false
/-- The end of the elimination over residues. -/
def rmF (c : Int) (xs : List Int) (p : Int) : Nat → Nat → Int := fun i j => cel (redL xs p) c.toNat i j
def rmS (r c : Int) (xs : List Int) (p : Int) : ESt := runE r.toNat c.toNat p (rmF c xs p)
def rankM (r c : Int) (xs : List Int) (p : Int) : Int := if redB r c xs p then ((rmS r c xs p).t : Int) else 0
def detMB (r c : Int) (xs : List Int) (p : Int) : Bool := redB r c xs p && decide (r = c)
def detM (r c : Int) (xs : List Int) (p : Int) : Int := if detMB r c xs p then (if ((rmS r c xs p).t : Int) < r then 0 else (rmS r c xs p).d) else 0
theorem redL_at (xs : List Int) (p : Int) (hp : 2 ≤ p) (k : Nat) : 0 ≤ (redL xs p).getD k 0 ∧ (redL xs p).getD k 0 < p := by
  unfold redL
  by_cases hk : k < xs.length
  · have : (xs.map (· % p)).getD k 0 = xs[k] % p := by simp [List.getD, hk]
    rw [this]
    exact emod_bds _ _ (by omega)
  · have : (xs.map (· % p)).getD k 0 = 0 := by simp [List.getD, List.getElem?_eq_none (show xs.length ≤ k by omega)]
    rw [this]; omega
structure RedOk (r c : Int) (xs : List Int) (p : Int) : Prop where
  m : IsM r c xs
  pr : isPr p = true
  pb : 2 ≤ p ∧ p ≤ 10000
  mx : redM r c xs p = ⟨r, c, redL xs p⟩
  tb_ : redL xs p = tb r.toNat c.toNat (rmF c xs p)
  f0 : ∀ i j : Nat, 0 ≤ rmF c xs p i j ∧ rmF c xs p i j < p
  ok : EOk r.toNat p (rmS r c xs p)
theorem redOk {r c : Int} {xs : List Int} {p : Int} (h : redB r c xs p = true) : RedOk r c xs p := by
  have h0 := h
  unfold redB at h0
  rw [Bool.and_eq_true] at h0
  have M := isMat_iff.1 h0.1
  have hp := isPr_bds h0.2
  have hf : ∀ i j : Nat, 0 ≤ rmF c xs p i j ∧ rmF c xs p i j < p := fun i j => redL_at xs p hp.1 _
  refine ⟨M, h0.2, hp, ?_, ?_, hf, ?_⟩
  · unfold redM; rw [if_pos h]
  · unfold rmF
    apply tb_of
    have h1 := M.len; have h2 := M.r0; have h3 := M.c0
    obtain ⟨R, rfl⟩ := nat_of h2
    obtain ⟨C, rfl⟩ := nat_of h3
    simp only [Int.toNat_natCast]
    rw [← Int.natCast_mul] at h1
    simp [redL]; omega
  · exact colsE_ok hp.1 _ _ _ ⟨hf, Nat.zero_le _, by show (0 : Int) ≤ 1 ∧ (1 : Int) < p; omega⟩
theorem redM_no {r c : Int} {xs : List Int} {p : Int} (h : redB r c xs p = false) : redM r c xs p = .none := by
  unfold redM; rw [h]; rfl
theorem det_cases (r c : Int) (xs : List Int) (p : Int) : (redB r c xs p = false ∧ detMB r c xs p = false) ∨ (redB r c xs p = true ∧ (r != c) = true ∧ detMB r c xs p = false) ∨ (redB r c xs p = true ∧ r = c ∧ detMB r c xs p = true) := by
  unfold detMB
  rcases redB r c xs p with _ | _
  · left; simp
  · right
    by_cases h : r = c
    · right; simp [h]
    · left; simp [h]
theorem detM_no {r c : Int} {xs : List Int} {p : Int} (h : detMB r c xs p = false) : detM r c xs p = 0 := by unfold detM; rw [h]; rfl
end Go.Proofs.Ytfiilpamekpmpaa

/-
  DERIVED. How long the results of EchelonOf are: no program in sight.
-/
import Derived.Test.YtfiilpamekpmpaaEchT
namespace Go.Proofs.Ytfiilpamekpmpaa
open Go.RowKit
set_option linter.unusedVariables false
theorem colsQ_len {R C : Nat} : ∀ (n j : Nat) (s s' : QSt), colsQ R C n j s = some s' → s'.ps.length ≤ s.ps.length + n
  | 0, j, s, s', h => by
    unfold colsQ at h
    injection h with h
    subst h; omega
  | n + 1, j, s, s', h => by
    unfold colsQ at h
    split at h
    · have := colsQ_len n (j + 1) s s' h; omega
    · split at h
      · cases h
      · have := colsQ_len n (j + 1) _ s' h
        simp at this
        omega
theorem colsQ_le {R C : Nat} : ∀ (n j : Nat) (s s' : QSt), s.ps.length ≤ R → colsQ R C n j s = some s' → s'.ps.length ≤ R
  | 0, j, s, s', hs, h => by
    unfold colsQ at h
    injection h with h
    subst h; exact hs
  | n + 1, j, s, s', hs, h => by
    unfold colsQ at h
    split at h
    · exact colsQ_le n (j + 1) s s' hs h
    · rename_i hk
      split at h
      · cases h
      · refine colsQ_le n (j + 1) _ s' ?_ h
        have := fnd_le s.f j (R - s.ps.length) s.ps.length
        simp
        omega
theorem eoX_len (r c : Int) (xs : List Int) : (mxQ r c (eoX r c xs)).xs.length ≤ 1048576 ∧ (psQ (eoX r c xs)).length ≤ 1048576 := by
  unfold eoX
  by_cases hm : isMat r c xs = true
  · rw [if_pos hm]
    have M := isMat_iff.1 hm
    have h1 := M.r0; have h2 := M.r1; have h3 := M.c0; have h4 := M.c1
    obtain ⟨R, rfl⟩ := nat_of h1
    obtain ⟨C, rfl⟩ := nat_of h3
    simp only [Int.toNat_natCast]
    have h5 : R * C ≤ 24 * 24 := Nat.mul_le_mul (by omega) (by omega)
    cases hx : echQ R C (fun i j : Nat => cel xs C i j) with
    | none => exact ⟨Nat.zero_le _, Nat.zero_le _⟩
    | some s =>
      have h6 := colsQ_len _ _ _ _ hx
      simp at h6
      refine ⟨?_, ?_⟩
      · show (tb (R : Int).toNat (C : Int).toNat s.f).length ≤ 1048576
        rw [tb_len]
        simp only [Int.toNat_natCast]
        omega
      · show s.ps.length ≤ 1048576
        omega
  · rw [if_neg hm]; exact ⟨Nat.zero_le _, Nat.zero_le _⟩
end Go.Proofs.Ytfiilpamekpmpaa

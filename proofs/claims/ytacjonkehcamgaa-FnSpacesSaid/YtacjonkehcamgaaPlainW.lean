/-
  DERIVED. A window of a list: what lies from off on, m of them; the window put back. No program in sight.
-/
import Derived.Test.YtacjonkehcamgaaPlainE
namespace Go.Proofs.Ytacjonkehcamgaa
set_option linter.unusedVariables false
def winL (xs : List Int) (off m : Nat) : List Int := (xs.drop off).take m
/-- xs with ys from off on. -/
def splL (xs : List Int) (off : Nat) (ys : List Int) : List Int := xs.take off ++ ys ++ xs.drop (off + ys.length)
theorem winL_len {xs : List Int} {off m : Nat} (h : off + m ≤ xs.length) : (winL xs off m).length = m := by simp [winL]; omega
theorem winL_getD {xs : List Int} {off m k : Nat} (hk : k < m) : (winL xs off m).getD k 0 = xs.getD (off + k) 0 := by
  simp [winL, List.getD, hk, List.getElem?_drop]
theorem splL_len {xs ys : List Int} {off : Nat} (h : off + ys.length ≤ xs.length) : (splL xs off ys).length = xs.length := by
  simp [splL]; omega
theorem splL_win {xs : List Int} {off m : Nat} (h : off + m ≤ xs.length) : splL xs off (winL xs off m) = xs := by
  unfold splL
  rw [winL_len h]
  unfold winL
  rw [List.append_assoc, ← List.drop_drop, List.take_append_drop, List.take_append_drop]
theorem splL_getD {xs ys : List Int} {off k : Nat} (h : off + ys.length ≤ xs.length) (hk : k < ys.length) : (splL xs off ys).getD (off + k) 0 = ys.getD k 0 := by
  unfold splL
  simp only [List.getD]
  rw [List.append_assoc, List.getElem?_append_right (by simp; omega)]
  rw [List.getElem?_append_left (by simp; omega)]
  congr 2
  simp; omega
theorem splL_set {xs ys : List Int} {off k : Nat} {v : Int} (h : off + ys.length ≤ xs.length) (hk : k < ys.length) : (splL xs off ys).set (off + k) v = splL xs off (ys.set k v) := by
  unfold splL
  rw [List.length_set, List.append_assoc, List.append_assoc, List.set_append_right _ _ (by simp; omega)]
  congr 1
  have e : off + k - (xs.take off).length = k := by simp; omega
  rw [e, List.set_append_left _ _ hk]
/-- The first k of ys, then the rest of zs. -/
def mixL (ys zs : List Int) (k : Nat) : List Int := ys.take k ++ zs.drop k
theorem mixL_len {ys zs : List Int} {k : Nat} (h : ys.length = zs.length) (hk : k ≤ zs.length) : (mixL ys zs k).length = zs.length := by simp [mixL]; omega
theorem mixL_zero (ys zs : List Int) : mixL ys zs 0 = zs := by simp [mixL]
theorem mixL_all {ys zs : List Int} {k : Nat} (h : ys.length = zs.length) (hk : zs.length ≤ k) : mixL ys zs k = ys := by
  simp [mixL, List.drop_of_length_le hk, List.take_of_length_le (show ys.length ≤ k by omega)]
theorem mixL_at {ys zs : List Int} {k : Nat} (h : ys.length = zs.length) (hk : k < zs.length) : (mixL ys zs k).getD k 0 = zs.getD k 0 := by
  simp only [mixL, List.getD]
  rw [List.getElem?_append_right (by simp; omega)]
  simp [Nat.min_eq_left (show k ≤ ys.length by omega)]
theorem mixL_set {ys zs : List Int} {k : Nat} (h : ys.length = zs.length) (hk : k < zs.length) : (mixL ys zs k).set k (ys.getD k 0) = mixL ys zs (k + 1) := by
  unfold mixL
  apply List.ext_getElem?
  intro i
  grind
theorem primL_getD {l : List Int} {k : Nat} (hk : k < l.length) (hg : gcdL l ≠ 0) : (primL l).getD k 0 = (l.getD k 0).tdiv (divL l) := by
  unfold primL
  rw [if_neg hg]
  simp [List.getD, hk]
end Go.Proofs.Ytacjonkehcamgaa

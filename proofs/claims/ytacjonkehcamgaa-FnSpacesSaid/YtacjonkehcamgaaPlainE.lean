/-
  DERIVED. Primitive rows: no program in sight.
-/
import Derived.Test.YtacjonkehcamgaaPlainH
namespace Go.Proofs.Ytacjonkehcamgaa
set_option linter.unusedVariables false
/-- The greatest common divisor of a list. -/
def gcdL (l : List Int) : Nat := l.foldl (fun (g : Nat) (x : Int) => Int.gcd g x) 0
theorem gcdL_nil : gcdL [] = 0 := rfl
theorem gcdL_take {l : List Int} {k : Nat} (h : k < l.length) : gcdL (l.take (k + 1)) = Int.gcd (gcdL (l.take k)) (l.getD k 0) := by
  have e : l[k]? = some (l.getD k 0) := by simp [List.getD, h]
  rw [List.take_add_one, e]
  simp [gcdL, List.foldl_append]
theorem gcdF_dvd (l : List Int) : ∀ a : Nat, (l.foldl (fun (g : Nat) (x : Int) => Int.gcd g x) a) ∣ a ∧ ∀ x ∈ l, ((l.foldl (fun (g : Nat) (x : Int) => Int.gcd g x) a : Nat) : Int) ∣ x := by
  induction l with
  | nil => intro a; simp
  | cons y l ih =>
    intro a
    obtain ⟨h1, h2⟩ := ih (Int.gcd a y)
    have h3 : Int.gcd a y ∣ a := by
      have := Int.gcd_dvd_left (a := (a : Int)) (b := y); exact Int.natCast_dvd_natCast.1 this
    have h4 : ((Int.gcd a y : Nat) : Int) ∣ y := Int.gcd_dvd_right ..
    refine ⟨Nat.dvd_trans h1 h3, fun x hx => ?_⟩
    rcases List.mem_cons.1 hx with rfl | hx
    · exact Int.dvd_trans (Int.natCast_dvd_natCast.2 h1) h4
    · exact h2 x hx
theorem gcdL_dvd {l : List Int} {x : Int} (h : x ∈ l) : (gcdL l : Int) ∣ x := (gcdF_dvd l 0).2 x h
theorem gcdF_greatest (l : List Int) : ∀ (a d : Nat), d ∣ a → (∀ x ∈ l, (d : Int) ∣ x) → d ∣ l.foldl (fun (g : Nat) (x : Int) => Int.gcd g x) a := by
  induction l with
  | nil => intro a d h _; simpa using h
  | cons y l ih =>
    intro a d h h2
    refine ih _ d ?_ (fun x hx => h2 x (List.mem_cons_of_mem _ hx))
    exact Int.natCast_dvd_natCast.1 (Int.dvd_coe_gcd (Int.natCast_dvd_natCast.2 h) (h2 y (List.mem_cons_self ..)))
theorem dvd_gcdL {l : List Int} {d : Nat} (h : ∀ x ∈ l, (d : Int) ∣ x) : d ∣ gcdL l := gcdF_greatest l 0 d (Nat.dvd_zero _) h
theorem gcdL_zero {l : List Int} : gcdL l = 0 ↔ ∀ x ∈ l, x = 0 := by
  constructor
  · intro h x hx
    have := gcdL_dvd hx
    rw [h] at this
    simpa using this
  · intro h
    have : (0 : Nat) ∣ gcdL l := dvd_gcdL fun x hx => by rw [h x hx]; exact Int.dvd_zero _
    simpa using this
theorem mem_getD {l : List Int} {k : Nat} (h : k < l.length) : l.getD k 0 ∈ l := by
  have : l.getD k 0 = l[k] := by simp [List.getD, h]
  rw [this]; exact List.getElem_mem h
theorem fcN_lt_iff {l : List Int} : fcN l < l.length ↔ gcdL l ≠ 0 := by
  constructor
  · intro h h0
    exact fcN_ne l h (gcdL_zero.1 h0 _ (mem_getD h))
  · intro h
    apply Classical.byContradiction
    intro h1
    apply h
    rw [gcdL_zero]
    intro x hx
    obtain ⟨i, hi, rfl⟩ := List.mem_iff_getElem.1 hx
    have := fcN_zero l i (by have := fcN_le l; omega)
    simpa [List.getD, hi] using this
/-- The divisor of a row: its cells' greatest common divisor, with the sign of the first cell that is not 0. -/
def divL (l : List Int) : Int := if l.getD (fcN l) 0 < 0 then -(gcdL l : Int) else gcdL l
/-- The primitive row. -/
def primL (l : List Int) : List Int := if gcdL l = 0 then l else l.map (·.tdiv (divL l))
theorem primL_len (l : List Int) : (primL l).length = l.length := by unfold primL; split <;> simp
theorem divL_dvd {l : List Int} {x : Int} (h : x ∈ l) : divL l ∣ x := by
  unfold divL
  split
  · exact Int.neg_dvd.2 (gcdL_dvd h)
  · exact gcdL_dvd h
theorem divL_abs (l : List Int) : (divL l).natAbs = gcdL l := by unfold divL; split <;> omega
theorem map_tdiv_one {l : List Int} : l.map (·.tdiv 1) = l := by simp
/-- A row is primitive exactly if it is zeros or has no common divisor and begins with a positive number. -/
theorem primL_eq_iff (l : List Int) : primL l = l ↔ gcdL l = 0 ∨ (gcdL l = 1 ∧ 0 ≤ l.getD (fcN l) 0) := by
  unfold primL
  by_cases h0 : gcdL l = 0
  · simp [h0]
  · rw [if_neg h0]
    have hlt := fcN_lt_iff.2 h0
    have hm := mem_getD hlt
    have hne := fcN_ne l hlt
    constructor
    · intro h
      right
      have h1 : (l.map (·.tdiv (divL l))).getD (fcN l) 0 = l.getD (fcN l) 0 := by rw [h]
      have h2 : (l.map (·.tdiv (divL l))).getD (fcN l) 0 = (l.getD (fcN l) 0).tdiv (divL l) := by simp [List.getD, hlt]
      rw [h2] at h1
      obtain ⟨q, hq⟩ := divL_dvd hm
      have hd0 : divL l ≠ 0 := by
        intro e; have := divL_abs l; rw [e] at this; simp at this; omega
      have h3 : (l.getD (fcN l) 0).tdiv (divL l) = q := by rw [hq]; exact Int.mul_tdiv_cancel_left q hd0
      rw [h3] at h1
      have h4 : divL l = 1 := by
        have hq0 : q ≠ 0 := by rw [h1]; exact hne
        have : divL l * q = 1 * q := by rw [Int.one_mul, ← hq, h1]
        exact Int.eq_of_mul_eq_mul_right hq0 this
      have h5 := divL_abs l
      rw [h4] at h5
      refine ⟨by simpa using h5.symm, ?_⟩
      rcases Int.lt_or_le (l.getD (fcN l) 0) 0 with h6 | h6
      · unfold divL at h4; rw [if_pos h6] at h4; omega
      · exact h6
    · rintro (h | ⟨h1, h2⟩)
      · exact absurd h h0
      · have h3 : divL l = 1 := by unfold divL; rw [if_neg (by omega), h1]; rfl
        rw [h3, map_tdiv_one]
end Go.Proofs.Ytacjonkehcamgaa

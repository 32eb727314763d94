/-
  DERIVED. DeterminantByImages: which primes it takes: no program in sight.
-/
import Derived.Test.YtmcbhpaajjlmmaaPlCh
import Derived.Test.YtmcbhpaajjlmmaaRankI
import Derived.Test.YtmcbhpaajjlmmaaSq
namespace Go.Proofs.Ytmcbhpaajjlmmaa
set_option linter.unusedVariables false
/-- The primes among the n numbers from 101 on; their product. -/
def plK : Nat → List Int
  | 0 => []
  | n + 1 => if isPr (101 + (n : Int)) then plK n ++ [101 + (n : Int)] else plK n
def ppK : Nat → Int
  | 0 => 1
  | n + 1 => if isPr (101 + (n : Int)) then ppK n * (101 + (n : Int)) else ppK n
theorem plK_yes {n : Nat} (h : isPr (101 + (n : Int)) = true) : plK (n + 1) = plK n ++ [101 + (n : Int)] := by
  show (if _ then _ else _) = _
  rw [if_pos h]
theorem plK_no {n : Nat} (h : isPr (101 + (n : Int)) = false) : plK (n + 1) = plK n := by
  show (if _ then _ else _) = _
  rw [if_neg (by rw [h]; exact Bool.false_ne_true)]
theorem ppK_yes {n : Nat} (h : isPr (101 + (n : Int)) = true) : ppK (n + 1) = ppK n * (101 + (n : Int)) := by
  show (if _ then _ else _) = _
  rw [if_pos h]
theorem ppK_no {n : Nat} (h : isPr (101 + (n : Int)) = false) : ppK (n + 1) = ppK n := by
  show (if _ then _ else _) = _
  rw [if_neg (by rw [h]; exact Bool.false_ne_true)]
theorem pl_bds : ∀ n : Nat, n ≤ 12 → (1 ≤ ppK n ∧ ppK n ≤ 121330189) ∧ (plK n).length ≤ 4 ∧ modsOk (plK n) = true ∧ (plK n).foldl (· * ·) 1 = ppK n := by
  set_option maxRecDepth 100000 in decide
theorem pl_last : isPr (101 + ((12 : Nat) : Int)) = true ∧ isNum (ppK 12 * (101 + ((12 : Nat) : Int))) = false := by
  set_option maxRecDepth 100000 in decide
/-- How many numbers from 101 on are taken till the product is beyond twice the bound. -/
def dbG (bound : Int) : Nat → Nat → Option Nat
  | 0, n => none
  | k + 1, n => if 2 * bound < ppK n then some n else if isPr (101 + (n : Int)) then (if isNum (ppK n * (101 + (n : Int))) then dbG bound k (n + 1) else none) else dbG bound k (n + 1)
def dbN (r c : Int) (xs : List Int) : Option Nat := (bndRes r c xs).bind fun b => dbG b 13 0
def dbR (r c : Int) (xs : List Int) (n : Nat) : List Int := (plK n).map (detM r c xs)
def dbV (r c : Int) (xs : List Int) : Option Int := (dbN r c xs).map fun n => symOf (chV (dbR r c xs n) (plK n)).1 (chV (dbR r c xs n) (plK n)).2
theorem dbG_stop {b : Int} {k n : Nat} (h : 2 * b < ppK n) : dbG b (k + 1) n = some n := by
  show (if _ then _ else _) = _
  rw [if_pos h]
theorem dbG_bad {b : Int} {k n : Nat} (h : ¬ 2 * b < ppK n) (h1 : isPr (101 + (n : Int)) = true) (h2 : isNum (ppK n * (101 + (n : Int))) = false) : dbG b (k + 1) n = none := by
  show (if _ then _ else _) = _
  rw [if_neg h, if_pos h1, if_neg (by rw [h2]; exact Bool.false_ne_true)]
theorem dbG_yes {b : Int} {k n : Nat} (h : ¬ 2 * b < ppK n) (h1 : isPr (101 + (n : Int)) = true) (h2 : isNum (ppK n * (101 + (n : Int))) = true) : dbG b (k + 1) n = dbG b k (n + 1) := by
  show (if _ then _ else _) = _
  rw [if_neg h, if_pos h1, if_pos h2]
theorem dbG_no {b : Int} {k n : Nat} (h : ¬ 2 * b < ppK n) (h1 : isPr (101 + (n : Int)) = false) : dbG b (k + 1) n = dbG b k (n + 1) := by
  show (if _ then _ else _) = _
  rw [if_neg h, if_neg (by rw [h1]; exact Bool.false_ne_true)]
theorem detM_bds (r c : Int) (xs : List Int) {p : Int} (hp : 2 ≤ p) : 0 ≤ detM r c xs p ∧ detM r c xs p < p := by
  unfold detM
  split
  · rename_i h
    have h2 : redB r c xs p = true := by
      unfold detMB at h
      rw [Bool.and_eq_true] at h
      exact h.1
    have ho := (redOk h2).ok.d0
    split
    · omega
    · exact ho
  · omega
theorem plK_mem : ∀ (n : Nat) (x : Int), x ∈ plK n → 101 ≤ x ∧ x < 101 + (n : Int)
  | 0, x, h => by cases h
  | n + 1, x, h => by
    rcases hp : isPr (101 + (n : Int)) with _ | _
    · rw [plK_no hp] at h
      have := plK_mem n x h
      omega
    · rw [plK_yes hp] at h
      rcases List.mem_append.1 h with h | h
      · have := plK_mem n x h
        omega
      · have := List.mem_singleton.1 h
        omega
theorem dbR_ok {r c : Int} {xs : List Int} {n : Nat} (hn : n ≤ 12) : chB (dbR r c xs n) (plK n) = true := by
  have hm := (pl_bds n hn).2.2.1
  have hm' := hm
  unfold modsOk at hm'
  rw [Bool.and_eq_true, decide_eq_true_eq] at hm'
  refine chB_iff.2 ⟨hm'.2, hm'.1, by simp [dbR], ?_⟩
  rw [List.all_eq_true]
  intro y hy
  obtain ⟨x, hx, rfl⟩ := List.mem_map.1 hy
  obtain ⟨h1, h2⟩ := plK_mem n x hx
  obtain ⟨h3, h4⟩ := detM_bds r c xs (p := x) (by omega)
  exact (isNum_iff _).2 ⟨by omega, by omega⟩
theorem dbX_bds {r c : Int} {xs : List Int} {n : Nat} (hn : n ≤ 12) : (0 ≤ (chV (dbR r c xs n) (plK n)).1 ∧ (chV (dbR r c xs n) (plK n)).1 ≤ 400000000) ∧ (1 ≤ (chV (dbR r c xs n) (plK n)).2 ∧ (chV (dbR r c xs n) (plK n)).2 ≤ 400000000) := by
  obtain ⟨h1, h2, h3, -⟩ := chV_spec (dbR_ok (r := r) (c := c) (xs := xs) hn)
  rw [(pl_bds n hn).2.2.2] at h1
  have h4 := (pl_bds n hn).1
  omega
end Go.Proofs.Ytmcbhpaajjlmmaa

/-
  DERIVED. A matrix as a function of row and column: no program in sight.
-/
import Derived.Test.YtlggfmfelakadaaPlainM
namespace Go.Proofs.Ytlggfmfelakadaa
set_option linter.unusedVariables false
/-- R rows of C cells. -/
def tb (R C : Nat) (f : Nat → Nat → Int) : List Int := tab (R * C) fun q => f (q / C) (q % C)
theorem tb_len (R C : Nat) (f : Nat → Nat → Int) : (tb R C f).length = R * C := tab_len _ _
theorem tb_at {R C i j : Nat} {f : Nat → Nat → Int} (hi : i < R) (hj : j < C) : (tb R C f).getD (i * C + j) 0 = f i j := by
  unfold tb
  rw [tab_getD (idx_nat hi hj), (idx_div hj).1, (idx_div hj).2]
theorem cel_tb {R C i j : Nat} {f : Nat → Nat → Int} (hi : i < R) (hj : j < C) : cel (tb R C f) C i j = f i j := by
  rw [cel_nat, tb_at hi hj]
theorem tb_ext {R C : Nat} {f g : Nat → Nat → Int} (h : ∀ i j, i < R → j < C → f i j = g i j) : tb R C f = tb R C g := by
  unfold tb tab
  apply List.map_congr_left
  intro q hq
  have hq' := List.mem_range.1 hq
  have hC : 0 < C := by
    rcases Nat.eq_zero_or_pos C with h0 | h0
    · subst h0; simp at hq'
    · exact h0
  exact h _ _ (Nat.div_lt_of_lt_mul (by rw [Nat.mul_comm]; exact hq')) (Nat.mod_lt _ hC)
/-- One cell anew. -/
def upd (f : Nat → Nat → Int) (i j : Nat) (v : Int) : Nat → Nat → Int := fun a b => if a = i ∧ b = j then v else f a b
theorem tb_set {R C i j : Nat} {f : Nat → Nat → Int} {v : Int} (hi : i < R) (hj : j < C) : (tb R C f).set (i * C + j) v = tb R C (upd f i j v) := by
  unfold tb tab
  apply List.ext_getElem?
  intro q
  rw [List.getElem?_set]
  have hC : 0 < C := by omega
  have hd := idx_div (i := i) hj
  have hlt := idx_nat hi hj
  by_cases hq : i * C + j = q
  · subst hq
    simp [hlt, upd, hd.1, hd.2]
  · rw [if_neg hq]
    by_cases hqs : q < R * C
    · have e : ¬ (q / C = i ∧ q % C = j) := by
        rintro ⟨rfl, rfl⟩
        exact hq (by rw [Nat.mul_comm]; exact Nat.div_add_mod q C)
      simp [hqs, upd, e]
    · simp [hqs]
theorem tb_of {xs : List Int} {R C : Nat} (h : xs.length = R * C) : xs = tb R C (fun i j => cel xs C i j) := by
  apply List.ext_getElem?
  intro q
  by_cases hq : q < R * C
  · have hC : 0 < C := by
      rcases Nat.eq_zero_or_pos C with h0 | h0
      · subst h0; simp at hq
      · exact h0
    have e1 : q / C * C + q % C = q := by rw [Nat.mul_comm]; exact Nat.div_add_mod q C
    unfold tb tab
    simp only [List.getElem?_map, List.getElem?_range hq, Option.map_some, cel_nat, e1]
    simp [List.getD, show q < xs.length by omega]
  · rw [List.getElem?_eq_none (by omega), List.getElem?_eq_none (by rw [tb_len]; omega)]
theorem tb_mem {R C : Nat} {f : Nat → Nat → Int} {P : Int → Prop} (h : ∀ i j, i < R → j < C → P (f i j)) : ∀ x ∈ tb R C f, P x := by
  intro x hx
  unfold tb tab at hx
  obtain ⟨q, hq, rfl⟩ := List.mem_map.1 hx
  have hq' := List.mem_range.1 hq
  have hC : 0 < C := by
    rcases Nat.eq_zero_or_pos C with h0 | h0
    · subst h0; simp at hq'
    · exact h0
  exact h _ _ (Nat.div_lt_of_lt_mul (by rw [Nat.mul_comm]; exact hq')) (Nat.mod_lt _ hC)
/-- Rows p and t exchanged. -/
def swF (f : Nat → Nat → Int) (p t : Nat) : Nat → Nat → Int := fun i k => f (if i = p then t else if i = t then p else i) k
theorem swF_same (f : Nat → Nat → Int) (t : Nat) : swF f t t = f := by
  funext i k
  unfold swF
  split
  · rename_i h; rw [h]
  · rfl
theorem swF_t (f : Nat → Nat → Int) (k t c : Nat) : swF f k t t c = f k c := by
  unfold swF
  split
  · rename_i h; rw [h]
  · rw [if_pos rfl]
/-- Exchanged in the first k columns. -/
def swK (f : Nat → Nat → Int) (p t k : Nat) : Nat → Nat → Int := fun i c => if c < k then swF f p t i c else f i c
theorem swK_zero (f : Nat → Nat → Int) (p t : Nat) : swK f p t 0 = f := by funext i c; simp [swK]
theorem swK_step {f : Nat → Nat → Int} {p t k : Nat} (h : p ≠ t) : upd (upd (swK f p t k) p k (f t k)) t k (f p k) = swK f p t (k + 1) := by
  funext i c
  unfold upd swK swF
  grind
theorem swK_end {R C : Nat} (f : Nat → Nat → Int) (p t : Nat) : tb R C (swK f p t C) = tb R C (swF f p t) := tb_ext fun i j hi hj => by unfold swK; rw [if_pos hj]
/-- The first row from k on, n of them, that has something in column j. -/
def fnd (f : Nat → Nat → Int) (j : Nat) : Nat → Nat → Nat
  | 0, k => k
  | n + 1, k => if f k j = 0 then fnd f j n (k + 1) else k
theorem fnd_le (f : Nat → Nat → Int) (j : Nat) : ∀ n k, k ≤ fnd f j n k ∧ fnd f j n k ≤ k + n
  | 0, k => ⟨Nat.le_refl _, Nat.le_refl _⟩
  | n + 1, k => by
    unfold fnd
    have := fnd_le f j n (k + 1)
    split <;> omega
theorem fnd_ne (f : Nat → Nat → Int) (j : Nat) : ∀ n k, fnd f j n k < k + n → f (fnd f j n k) j ≠ 0
  | 0, k, h => by simp [fnd] at h
  | n + 1, k, h => by
    unfold fnd at h ⊢
    split
    · rename_i h0
      rw [if_pos h0] at h
      exact fnd_ne f j n (k + 1) (by omega)
    · rename_i h0
      exact h0
theorem fnd_next {f : Nat → Nat → Int} {j R k : Nat} (hk : k < R) (h0 : f k j = 0) : fnd f j (R - k) k = fnd f j (R - (k + 1)) (k + 1) := by
  rw [show R - k = (R - (k + 1)) + 1 by omega]
  conv => lhs; unfold fnd
  rw [if_pos h0]
theorem fnd_here {f : Nat → Nat → Int} {j R k : Nat} (hk : k < R) (h0 : f k j ≠ 0) : fnd f j (R - k) k = k := by
  rw [show R - k = (R - (k + 1)) + 1 by omega]
  unfold fnd
  rw [if_neg h0]
theorem fnd_end (f : Nat → Nat → Int) (j R : Nat) : fnd f j (R - R) R = R := by rw [Nat.sub_self]; rfl
end Go.Proofs.Ytlggfmfelakadaa

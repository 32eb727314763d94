/-
  DERIVED. Elimination over residues: no program in sight.
-/
import Derived.Test.YtlggfmfelakadaaPlainT
import Derived.Test.YtlggfmfelakadaaInv
namespace Go.Proofs.Ytlggfmfelakadaa
set_option linter.unusedVariables false
/-- Row t times x, over residues, in the first k columns. -/
def scK (f : Nat → Nat → Int) (t : Nat) (x p : Int) (k : Nat) : Nat → Nat → Int := fun i c => if i = t ∧ c < k then f t c * x % p else f i c
def scF (f : Nat → Nat → Int) (t : Nat) (x p : Int) : Nat → Nat → Int := fun i c => if i = t then f t c * x % p else f i c
theorem scK_zero (f : Nat → Nat → Int) (t : Nat) (x p : Int) : scK f t x p 0 = f := by funext i c; simp [scK]
theorem scK_at (f : Nat → Nat → Int) (t : Nat) (x p : Int) (k : Nat) : scK f t x p k t k = f t k := by simp [scK]
theorem scK_step (f : Nat → Nat → Int) (t : Nat) (x p : Int) (k : Nat) : upd (scK f t x p k) t k (f t k * x % p) = scK f t x p (k + 1) := by
  funext i c
  unfold upd scK
  grind
theorem scK_end {R C : Nat} (f : Nat → Nat → Int) (t : Nat) (x p : Int) : tb R C (scK f t x p C) = tb R C (scF f t x p) := tb_ext fun i j hi hj => by unfold scK scF; grind
/-- Row t taken from row i, so often as row i has it in column j, over residues. -/
def elAt (f : Nat → Nat → Int) (t j : Nat) (p : Int) (i c : Nat) : Int := (f i c - f i j * f t c) % p
/-- The first m rows done, and of row m the first k columns. -/
def elK (f : Nat → Nat → Int) (t j : Nat) (p : Int) (m k : Nat) : Nat → Nat → Int := fun i c => if i ≠ t ∧ (i < m ∨ i = m ∧ c < k) then elAt f t j p i c else f i c
def elF (f : Nat → Nat → Int) (t j : Nat) (p : Int) : Nat → Nat → Int := fun i c => if i ≠ t then elAt f t j p i c else f i c
theorem elK_zero (f : Nat → Nat → Int) (t j : Nat) (p : Int) : elK f t j p 0 0 = f := by funext i c; unfold elK; grind
theorem elK_at (f : Nat → Nat → Int) (t j : Nat) (p : Int) (m k c : Nat) (h : k ≤ c) : elK f t j p m k m c = f m c := by unfold elK; grind
theorem elK_t (f : Nat → Nat → Int) (t j : Nat) (p : Int) (m k c : Nat) : elK f t j p m k t c = f t c := by unfold elK; grind
theorem elK_step {f : Nat → Nat → Int} {t j m : Nat} (p : Int) (k : Nat) (h : m ≠ t) : upd (elK f t j p m k) m k (elAt f t j p m k) = elK f t j p m (k + 1) := by
  funext i c
  unfold upd elK
  grind
theorem elK_row {R C : Nat} (f : Nat → Nat → Int) (t j : Nat) (p : Int) (m : Nat) : tb R C (elK f t j p m C) = tb R C (elK f t j p (m + 1) 0) := tb_ext fun i c hi hc => by unfold elK; grind
theorem elK_skip {R C : Nat} (f : Nat → Nat → Int) (t j : Nat) (p : Int) : tb R C (elK f t j p t 0) = tb R C (elK f t j p (t + 1) 0) := tb_ext fun i c hi hc => by unfold elK; grind
theorem elK_skip' {R C : Nat} (f : Nat → Nat → Int) {t m : Nat} (j : Nat) (p : Int) (h : m = t) : tb R C (elK f t j p m 0) = tb R C (elK f t j p (m + 1) 0) := by subst h; exact elK_skip f m j p
theorem elK_none {R C : Nat} {f : Nat → Nat → Int} {t j m : Nat} {p : Int} (h0 : f m j = 0) (hf : ∀ i c, 0 ≤ f i c ∧ f i c < p) : tb R C (elK f t j p m 0) = tb R C (elK f t j p (m + 1) 0) := tb_ext fun i c hi hc => by
  unfold elK
  by_cases him : i = m
  · subst him
    have e : elAt f t j p i c = f i c := by unfold elAt; rw [h0, Int.zero_mul, Int.sub_zero]; exact Int.emod_eq_of_lt (hf i c).1 (hf i c).2
    rw [e]; grind
  · grind
theorem elK_end {R C : Nat} (f : Nat → Nat → Int) (t j : Nat) (p : Int) : tb R C (elK f t j p R 0) = tb R C (elF f t j p) := tb_ext fun i c hi hc => by unfold elK elF; grind
structure ESt where
  f : Nat → Nat → Int
  t : Nat
  d : Int
/-- One column. -/
def colE (R : Nat) (p : Int) (s : ESt) (j : Nat) : ESt :=
  let k := fnd s.f j (R - s.t) s.t
  if R ≤ k then s else
    let f1 := swF s.f k s.t
    let d1 := if k = s.t then s.d else (-s.d) % p
    ⟨elF (scF f1 s.t (invOf (f1 s.t j) p) p) s.t j p, s.t + 1, d1 * f1 s.t j % p⟩
/-- n columns from j on. -/
def colsE (R : Nat) (p : Int) : Nat → Nat → ESt → ESt
  | 0, _, s => s
  | n + 1, j, s => colsE R p n (j + 1) (colE R p s j)
def runE (R cols : Nat) (p : Int) (f : Nat → Nat → Int) : ESt := colsE R p cols 0 ⟨f, 0, 1⟩
theorem colE_full {R : Nat} {p : Int} {s : ESt} (h : R ≤ s.t) (j : Nat) : colE R p s j = s := by
  unfold colE
  have := fnd_le s.f j (R - s.t) s.t
  simp only
  rw [if_pos (by omega)]
theorem colsE_full {R : Nat} {p : Int} {s : ESt} (h : R ≤ s.t) : ∀ n j, colsE R p n j s = s
  | 0, _ => rfl
  | n + 1, j => by unfold colsE; rw [colE_full h]; exact colsE_full h n (j + 1)
theorem colsE_next {R cols j : Nat} {p : Int} {s : ESt} (hj : j < cols) : colsE R p (cols - j) j s = colsE R p (cols - (j + 1)) (j + 1) (colE R p s j) := by
  rw [show cols - j = (cols - (j + 1)) + 1 by omega]
  rfl
theorem colsE_end (R cols : Nat) (p : Int) (s : ESt) : colsE R p (cols - cols) cols s = s := by rw [Nat.sub_self]; rfl
theorem colE_yes {R k t j : Nat} {p d : Int} {f : Nat → Nat → Int} (hP : fnd f j (R - t) t = k) (hk : k < R) :
    colE R p ⟨f, t, d⟩ j = ⟨elF (scF (swF f k t) t (invOf (swF f k t t j) p) p) t j p, t + 1, (if k = t then d else (-d) % p) * swF f k t t j % p⟩ := by
  unfold colE
  simp only [hP]
  rw [if_neg (by omega)]
theorem colE_no {R t j : Nat} {p d : Int} {f : Nat → Nat → Int} (hP : fnd f j (R - t) t = R) : colE R p ⟨f, t, d⟩ j = ⟨f, t, d⟩ := by
  unfold colE
  simp only [hP]
  rw [if_pos (Nat.le_refl _)]
/-- What holds of a state. -/
structure EOk (R : Nat) (p : Int) (s : ESt) : Prop where
  f0 : ∀ i c, 0 ≤ s.f i c ∧ s.f i c < p
  t0 : s.t ≤ R
  d0 : 0 ≤ s.d ∧ s.d < p
theorem colE_ok {R : Nat} {p : Int} {s : ESt} (hp : 2 ≤ p) (h : EOk R p s) (j : Nat) : EOk R p (colE R p s j) := by
  unfold colE
  have hk := fnd_le s.f j (R - s.t) s.t
  simp only
  split
  · exact h
  · rename_i h1
    have hf1 : ∀ i c, 0 ≤ swF s.f (fnd s.f j (R - s.t) s.t) s.t i c ∧ swF s.f (fnd s.f j (R - s.t) s.t) s.t i c < p := fun i c => h.f0 _ _
    refine ⟨fun i c => ?_, ?_, ?_⟩
    · show 0 ≤ elF _ _ _ _ i c ∧ elF _ _ _ _ i c < p
      unfold elF elAt scF
      split
      · exact emod_bds _ _ (by omega)
      · split
        · exact emod_bds _ _ (by omega)
        · exact hf1 _ _
    · show s.t + 1 ≤ R
      omega
    · exact emod_bds _ _ (by omega)
theorem colsE_ok {R : Nat} {p : Int} (hp : 2 ≤ p) : ∀ n j s, EOk R p s → EOk R p (colsE R p n j s)
  | 0, _, _, h => h
  | n + 1, j, s, h => colsE_ok hp n (j + 1) _ (colE_ok hp h j)
end Go.Proofs.Ytlggfmfelakadaa

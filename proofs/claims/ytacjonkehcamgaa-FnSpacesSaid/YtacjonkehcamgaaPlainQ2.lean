/-
  DERIVED. Elimination with primitive rows, step by step: no program in sight.
-/
import Derived.Test.YtacjonkehcamgaaPlainQ
namespace Go.Proofs.Ytacjonkehcamgaa
set_option linter.unusedVariables false
def cbV (f : Nat → Nat → Int) (t j i k : Nat) : Int := (f t j).tdiv (Int.gcd (f i j) (f t j) : Nat) * f i k - (f i j).tdiv (Int.gcd (f i j) (f t j) : Nat) * f t k
def cbK (f : Nat → Nat → Int) (t j i k : Nat) : Nat → Nat → Int := fun a c => if a = i ∧ c < k then cbV f t j i c else f a c
theorem cbK_zero (f : Nat → Nat → Int) (t j i : Nat) : cbK f t j i 0 = f := by funext a c; simp [cbK]
theorem cbK_at (f : Nat → Nat → Int) (t j i k c : Nat) (h : k ≤ c) : cbK f t j i k i c = f i c := by unfold cbK; rw [if_neg (by omega)]
theorem cbK_t (f : Nat → Nat → Int) (t j i k c : Nat) (h : i ≠ t) : cbK f t j i k t c = f t c := by unfold cbK; rw [if_neg (by omega)]
theorem cbK_step (f : Nat → Nat → Int) (t j i k : Nat) : upd (cbK f t j i k) i k (cbV f t j i k) = cbK f t j i (k + 1) := by
  funext a c
  unfold upd cbK
  grind
def okQ (C : Nat) (f : Nat → Nat → Int) (t j i : Nat) : Bool := (List.range C).all fun k => isNum (cbV f t j i k)
def stQ (C : Nat) (f : Nat → Nat → Int) (t j i : Nat) : Nat → Nat → Int := prF C (cbK f t j i C) i
def rowsQ (C t j : Nat) : Nat → Nat → (Nat → Nat → Int) → Option (Nat → Nat → Int)
  | 0, _, f => some f
  | n + 1, i, f => if i = t ∨ f i j = 0 then rowsQ C t j n (i + 1) f else if okQ C f t j i = true then rowsQ C t j n (i + 1) (stQ C f t j i) else none
theorem rowsQ_skip {C t j R i : Nat} {f : Nat → Nat → Int} (hi : i < R) (h : i = t ∨ f i j = 0) : rowsQ C t j (R - i) i f = rowsQ C t j (R - (i + 1)) (i + 1) f := by
  rw [show R - i = (R - (i + 1)) + 1 by omega]
  conv => lhs; unfold rowsQ
  rw [if_pos h]
theorem rowsQ_do {C t j R i : Nat} {f : Nat → Nat → Int} (hi : i < R) (h : i ≠ t) (h0 : f i j ≠ 0) (hk : okQ C f t j i = true) : rowsQ C t j (R - i) i f = rowsQ C t j (R - (i + 1)) (i + 1) (stQ C f t j i) := by
  rw [show R - i = (R - (i + 1)) + 1 by omega]
  conv => lhs; unfold rowsQ
  rw [if_neg (by rintro (e | e); exact h e; exact h0 e), if_pos hk]
theorem rowsQ_bad {C t j R i : Nat} {f : Nat → Nat → Int} (hi : i < R) (h : i ≠ t) (h0 : f i j ≠ 0) (hk : okQ C f t j i = false) : rowsQ C t j (R - i) i f = none := by
  rw [show R - i = (R - (i + 1)) + 1 by omega]
  unfold rowsQ
  rw [if_neg (by rintro (e | e); exact h e; exact h0 e), if_neg (by rw [hk]; simp)]
theorem rowsQ_end (C t j R : Nat) (f : Nat → Nat → Int) : rowsQ C t j (R - R) R f = some f := by rw [Nat.sub_self]; rfl
structure QSt where
  f : Nat → Nat → Int
  ps : List Int
def colsQ (R C : Nat) : Nat → Nat → QSt → Option QSt
  | 0, _, s => some s
  | n + 1, j, s =>
    if R ≤ fnd s.f j (R - s.ps.length) s.ps.length then colsQ R C n (j + 1) s else
    match rowsQ C s.ps.length j (R - 0) 0 (swF s.f (fnd s.f j (R - s.ps.length) s.ps.length) s.ps.length) with
    | none => none
    | some f' => colsQ R C n (j + 1) ⟨f', s.ps ++ [(j : Int)]⟩
theorem colsQ_no {R C j : Nat} {f : Nat → Nat → Int} {ps : List Int} (hj : j < C) (hP : fnd f j (R - ps.length) ps.length = R) : colsQ R C (C - j) j ⟨f, ps⟩ = colsQ R C (C - (j + 1)) (j + 1) ⟨f, ps⟩ := by
  rw [show C - j = (C - (j + 1)) + 1 by omega]
  conv => lhs; unfold colsQ
  simp only [hP]
  rw [if_pos (Nat.le_refl _)]
theorem colsQ_none {R C j k : Nat} {f : Nat → Nat → Int} {ps : List Int} (hj : j < C) (hP : fnd f j (R - ps.length) ps.length = k) (hk : k < R) (hr : rowsQ C ps.length j (R - 0) 0 (swF f k ps.length) = none) : colsQ R C (C - j) j ⟨f, ps⟩ = none := by
  rw [show C - j = (C - (j + 1)) + 1 by omega]
  unfold colsQ
  simp only [hP]
  rw [if_neg (by omega), hr]
theorem colsQ_some {R C j k : Nat} {f f' : Nat → Nat → Int} {ps : List Int} (hj : j < C) (hP : fnd f j (R - ps.length) ps.length = k) (hk : k < R) (hr : rowsQ C ps.length j (R - 0) 0 (swF f k ps.length) = some f') : colsQ R C (C - j) j ⟨f, ps⟩ = colsQ R C (C - (j + 1)) (j + 1) ⟨f', ps ++ [(j : Int)]⟩ := by
  rw [show C - j = (C - (j + 1)) + 1 by omega]
  conv => lhs; unfold colsQ
  simp only [hP]
  rw [if_neg (by omega), hr]
theorem colsQ_end (R C : Nat) (s : QSt) : colsQ R C (C - C) C s = some s := by rw [Nat.sub_self]; rfl
theorem colsQ_full {R C : Nat} {s : QSt} (h : R ≤ s.ps.length) : ∀ n j, colsQ R C n j s = some s
  | 0, _ => rfl
  | n + 1, j => by
    unfold colsQ
    have := fnd_le s.f j (R - s.ps.length) s.ps.length
    rw [if_pos (by omega)]
    exact colsQ_full h n (j + 1)
/-- What holds of the rows between the steps: numbers, and primitive. -/
structure QOk (R C : Nat) (f : Nat → Nat → Int) : Prop where
  bd : ∀ i c, i < R → c < C → -400000000 ≤ f i c ∧ f i c ≤ 400000000
  pr : ∀ i, i < R → primL (rw_ C f i) = rw_ C f i
theorem rw_bd {C i : Nat} {f : Nat → Nat → Int} (h : ∀ c, c < C → -400000000 ≤ f i c ∧ f i c ≤ 400000000) (k : Nat) : ((rw_ C f i).getD k 0).natAbs ≤ 400000000 := by
  by_cases hk : k < C
  · rw [rw_at hk]; have := h k hk; omega
  · simp [List.getD, List.getElem?_eq_none (show (rw_ C f i).length ≤ k by rw [rw_len]; omega)]
theorem QOk.sw {R C k t : Nat} {f : Nat → Nat → Int} (h : QOk R C f) (hk : k < R) (ht : t < R) : QOk R C (swF f k t) := by
  have hx : ∀ i, i < R → (if i = k then t else if i = t then k else i) < R := fun i hi => by split; exact ht; split; exact hk; exact hi
  refine ⟨fun i c hi hc => h.bd _ c (hx i hi) hc, fun i hi => ?_⟩
  have e : rw_ C (swF f k t) i = rw_ C f (if i = k then t else if i = t then k else i) := rw_ext fun c hc => rfl
  rw [e]
  exact h.pr _ (hx i hi)
theorem QOk.all {R C : Nat} {f : Nat → Nat → Int} (h : ∀ i c, i < R → c < C → -400000000 ≤ f i c ∧ f i c ≤ 400000000) : QOk R C (prK C f R) := by
  refine ⟨fun i c hi hc => ?_, fun i hi => ?_⟩
  · have h1 := primL_bd (rw_bd (fun c hc => h i c hi hc)) c
    have e : prK C f R i c = (primL (rw_ C f i)).getD c 0 := by simp [prK, hi]
    rw [e]; omega
  · rw [rw_prK hi, primL_idem]
theorem QOk.st {R C t j i : Nat} {f : Nat → Nat → Int} (h : QOk R C f) (hi : i < R) (hk : okQ C f t j i = true) : QOk R C (stQ C f t j i) := by
  have hrow : ∀ c, c < C → -400000000 ≤ cbK f t j i C i c ∧ cbK f t j i C i c ≤ 400000000 := fun c hc => by
    have h1 : isNum (cbV f t j i c) = true := List.all_eq_true.1 hk c (List.mem_range.2 hc)
    have e : cbK f t j i C i c = cbV f t j i c := by unfold cbK; rw [if_pos ⟨rfl, hc⟩]
    rw [e]; exact (isNum_iff _).1 h1
  have hoth : ∀ a c, a ≠ i → cbK f t j i C a c = f a c := fun a c ha => by unfold cbK; rw [if_neg (fun e => ha e.1)]
  refine ⟨fun a c ha hc => ?_, fun a ha => ?_⟩
  · unfold stQ prF setR
    by_cases hai : a = i
    · rw [if_pos hai]
      have := primL_bd (rw_bd hrow) c
      omega
    · rw [if_neg hai, hoth a c hai]; exact h.bd a c ha hc
  · unfold stQ prF
    by_cases hai : a = i
    · subst hai
      rw [rw_setR (by rw [primL_len, rw_len]), primL_idem]
    · rw [rw_setR_ne hai, show rw_ C (cbK f t j i C) a = rw_ C f a from rw_ext fun c hc => hoth a c hai]
      exact h.pr a ha
/-- A row that is primitive stays as it is. -/
theorem prF_same {R C i : Nat} {f : Nat → Nat → Int} (h : primL (rw_ C f i) = rw_ C f i) : tb R C (prF C f i) = tb R C f := tb_ext fun a c ha hc => by
  unfold prF setR
  by_cases hai : a = i
  · rw [if_pos hai, h, rw_at hc, hai]
  · rw [if_neg hai]
/-- The whole. -/
def echQ (R C : Nat) (f : Nat → Nat → Int) : Option QSt := colsQ R C (C - 0) 0 ⟨prK C f R, []⟩
end Go.Proofs.Ytacjonkehcamgaa

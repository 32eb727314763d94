/-
  DERIVED. Several small texts in one: PlainN, Drw, Elem, RowB, PlainI, Smt, Lsi, DrL, PlainO, PlLin, PlainQ, RowOp, PlDet, Ops, Sm0, OpsS.
-/
import Derived.Test.YtacjonkehcamgaaU1
/-
  DERIVED. The Hermite form, step by step, as functions of row and column: no program in sight.
-/
namespace Go.Proofs.Ytacjonkehcamgaa
set_option linter.unusedVariables false
abbrev Fn2 := Nat → Nat → Int
/-- Row i plus t times row j, numbers beyond the limit marked. -/
def opA (f : Fn2) (i j : Nat) (t : Int) : Fn2 := fun x y => if x = i then addB (f i y) (mulF (f j y) t) else f x y
/-- Row i negated. -/
def opN (f : Fn2) (i : Nat) : Fn2 := fun x y => if x = i then -f i y else f x y
/-- The same, marks kept. -/
def opM (f : Fn2) (i : Nat) : Fn2 := fun x y => if x = i then (if f i y = bad then bad else -f i y) else f x y
/-- A matrix and the account of what is done to it. -/
structure HS where
  f : Fn2
  g : Fn2
def HS.add (s : HS) (i j : Nat) (t : Int) : HS := ⟨opA s.f i j t, opA s.g i j t⟩
def HS.swap (s : HS) (p t : Nat) : HS := ⟨swF s.f p t, swF s.g p t⟩
def HS.neg (s : HS) (i : Nat) : HS := ⟨opM s.f i, opM s.g i⟩
def Num (n : Int) : Prop := -400000000 ≤ n ∧ n ≤ 400000000
theorem Num.isN {n : Int} (h : Num n) : isNum n = true := (isNum_iff n).2 h
theorem Num.of {n : Int} (h : isNum n = true) : Num n := (isNum_iff n).1 h
theorem Num.ne {n : Int} (h : Num n) : n ≠ bad := by unfold Num at h; unfold bad; omega
theorem Num.nb {n : Int} (h : Num n) : NB n := .inr h
theorem NB.num {n : Int} (h : NB n) (h2 : n ≠ bad) : Num n := h.resolve_left h2
/-- In R rows of C cells all are numbers. -/
def OKF (R C : Nat) (f : Fn2) : Prop := ∀ i j, i < R → j < C → Num (f i j)
def NBF (f : Fn2) : Prop := ∀ i j, NB (f i j)
structure HS.OK (R C : Nat) (s : HS) : Prop where
  f : OKF R C s.f
  g : OKF R R s.g
structure HS.NBS (s : HS) : Prop where
  f : NBF s.f
  g : NBF s.g
theorem NB.addB (a b : Int) : NB (addB a b) := by
  unfold Go.Proofs.Ytacjonkehcamgaa.addB
  split
  · exact .inl rfl
  · exact NB.fit _
theorem NB.mulF (a b : Int) : NB (mulF a b) := by
  unfold Go.Proofs.Ytacjonkehcamgaa.mulF
  split
  · exact .inl rfl
  · exact NB.fit _
theorem opA_nb {f : Fn2} (h : NBF f) (i j : Nat) (t : Int) : NBF (opA f i j t) := by
  intro x y
  unfold opA
  split
  · exact NB.addB _ _
  · exact h x y
theorem HS.NBS.add {s : HS} (h : s.NBS) (i j : Nat) (t : Int) : (s.add i j t).NBS := ⟨opA_nb h.f _ _ _, opA_nb h.g _ _ _⟩
theorem addB_ne {a b : Int} (h : addB a b ≠ bad) : a ≠ bad ∧ b ≠ bad ∧ addB a b = a + b ∧ Num (a + b) := by
  unfold addB at h ⊢
  split at h
  · exact absurd rfl h
  · rename_i h1
    rw [if_neg h1]
    refine ⟨fun e => h1 (.inl e), fun e => h1 (.inr e), ?_⟩
    unfold fit at h ⊢
    split at h
    · rename_i h2
      rw [if_pos h2]
      exact ⟨rfl, Num.of h2⟩
    · exact absurd rfl h
theorem mulF_ne {a b : Int} (h : mulF a b ≠ bad) : a ≠ bad ∧ b ≠ bad ∧ mulF a b = a * b ∧ Num (a * b) := by
  unfold mulF at h ⊢
  split at h
  · exact absurd rfl h
  · rename_i h1
    rw [if_neg h1]
    refine ⟨fun e => h1 (.inl e), fun e => h1 (.inr e), ?_⟩
    unfold fit at h ⊢
    split at h
    · rename_i h2
      rw [if_pos h2]
      exact ⟨rfl, Num.of h2⟩
    · exact absurd rfl h
theorem opA_num {f : Fn2} {i j y : Nat} {t : Int} (h : Num (opA f i j t i y)) : f i y ≠ bad ∧ f j y ≠ bad ∧ opA f i j t i y = f i y + f j y * t ∧ Num (f j y * t) := by
  have h1 := h.ne
  unfold opA at h1 ⊢
  rw [if_pos rfl] at h1 ⊢
  obtain ⟨a1, a2, a3, a4⟩ := addB_ne h1
  obtain ⟨b1, b2, b3, b4⟩ := mulF_ne a2
  rw [a3, b3]
  exact ⟨a1, b1, rfl, b4⟩
theorem opA_back {f : Fn2} {R C i j : Nat} {t : Int} (hn : NBF f) (h : OKF R C (opA f i j t)) : OKF R C f := by
  intro x y hx hy
  by_cases hxi : x = i
  · subst hxi
    exact (hn x y).num (opA_num (h x y hx hy)).1
  · have := h x y hx hy
    unfold opA at this
    rwa [if_neg hxi] at this
theorem HS.OK.back {s : HS} {R C i j : Nat} {t : Int} (hn : s.NBS) (h : (s.add i j t).OK R C) : s.OK R C := ⟨opA_back hn.f h.f, opA_back hn.g h.g⟩
theorem opA_other {f : Fn2} {i j x y : Nat} {t : Int} (h : x ≠ i) : opA f i j t x y = f x y := by unfold opA; rw [if_neg h]
/-- Whether row i can take t times row j. -/
def rowOk (f : Fn2) (i j : Nat) (t : Int) (C : Nat) : Prop := ∀ y, y < C → Num (f j y * t) ∧ Num (f i y + f j y * t)
theorem rowOk_iff {f : Fn2} {R C i j : Nat} {t : Int} (h : OKF R C f) (hi : i < R) (hj : j < R) (ht : Num t) : rowOk f i j t C ↔ OKF R C (opA f i j t) := by
  constructor
  · intro hr x y hx hy
    unfold opA
    split
    · obtain ⟨h1, h2⟩ := hr y hy
      rw [mulF_num (h j y hj hy) ht, fit_in h1, addB_num (h i y hi hy) h1, fit_in h2]
      exact h2
    · exact h x y hx hy
  · intro ho y hy
    obtain ⟨h1, h2, h3, h4⟩ := opA_num (ho i y hi hy)
    refine ⟨h4, ?_⟩
    rw [← h3]
    exact ho i y hi hy
theorem rowOk_val {f : Fn2} {R C i j y : Nat} {t : Int} (h : OKF R C f) (hi : i < R) (hj : j < R) (ht : Num t) (hr : rowOk f i j t C) (hy : y < C) : opA f i j t i y = f i y + f j y * t := by
  obtain ⟨h1, h2⟩ := hr y hy
  unfold opA
  rw [if_pos rfl, mulF_num (h j y hj hy) ht, fit_in h1, addB_num (h i y hi hy) h1, fit_in h2]
/-- The quotient that leaves a remainder from 0 on is no greater. -/
theorem ediv_bd {n d : Int} (h : Num n) (hd : d ≠ 0) : Num (n / d) := by
  unfold Num at *
  have := Int.natAbs_ediv_le_natAbs n d
  omega
theorem Num.neg {n : Int} (h : Num n) : Num (-n) := by unfold Num at *; omega
/-- The row from t on, n of them, with the least absolute value in column j that is not 0; -1 if there is none. -/
def lstK (f : Fn2) (j t : Nat) : Nat → Int
  | 0 => -1
  | n + 1 => if f (t + n) j ≠ 0 ∧ (lstK f j t n < 0 ∨ (f (t + n) j).natAbs < (f (lstK f j t n).toNat j).natAbs) then ((t + n : Nat) : Int) else lstK f j t n
theorem lstK_succ (f : Fn2) (j t n : Nat) : lstK f j t (n + 1) = if f (t + n) j ≠ 0 ∧ (lstK f j t n < 0 ∨ (f (t + n) j).natAbs < (f (lstK f j t n).toNat j).natAbs) then ((t + n : Nat) : Int) else lstK f j t n := rfl
theorem lstK_cases (f : Fn2) (j t : Nat) : ∀ n, (lstK f j t n = -1 ∧ ∀ i, i < n → f (t + i) j = 0) ∨ ∃ p, lstK f j t n = (p : Nat) ∧ t ≤ p ∧ p < t + n ∧ f p j ≠ 0 ∧ ∀ i, i < n → f (t + i) j ≠ 0 → (f p j).natAbs ≤ (f (t + i) j).natAbs
  | 0 => .inl ⟨rfl, fun i h => absurd h (Nat.not_lt_zero _)⟩
  | n + 1 => by
    rw [lstK_succ]
    rcases lstK_cases f j t n with ⟨h1, h2⟩ | ⟨p, h1, h2, h3, h4, h5⟩
    · by_cases hz : f (t + n) j = 0
      · left
        rw [if_neg (by simp [hz])]
        refine ⟨h1, fun i hi => ?_⟩
        rcases Nat.lt_or_ge i n with hi' | hi'
        · exact h2 i hi'
        · rw [show i = n by omega]; exact hz
      · right
        rw [if_pos ⟨hz, .inl (by omega)⟩]
        refine ⟨t + n, rfl, by omega, by omega, hz, fun i hi hne => ?_⟩
        rcases Nat.lt_or_ge i n with hi' | hi'
        · exact absurd (h2 i hi') hne
        · rw [show i = n by omega]; exact Nat.le_refl _
    · right
      rw [h1]
      by_cases hc : f (t + n) j ≠ 0 ∧ ((p : Int) < 0 ∨ (f (t + n) j).natAbs < (f (p : Int).toNat j).natAbs)
      · rw [if_pos hc]
        obtain ⟨hz, hc⟩ := hc
        rw [Int.toNat_natCast] at hc
        have hc' : (f (t + n) j).natAbs < (f p j).natAbs := hc.resolve_left (by omega)
        refine ⟨t + n, rfl, by omega, by omega, hz, fun i hi hne => ?_⟩
        rcases Nat.lt_or_ge i n with hi' | hi'
        · have := h5 i hi' hne; omega
        · rw [show i = n by omega]; exact Nat.le_refl _
      · rw [if_neg hc]
        rw [Int.toNat_natCast] at hc
        refine ⟨p, rfl, h2, by omega, h4, fun i hi hne => ?_⟩
        rcases Nat.lt_or_ge i n with hi' | hi'
        · exact h5 i hi' hne
        · rw [show i = n by omega] at hne ⊢
          refine Nat.le_of_not_lt fun hlt => hc ⟨hne, .inr hlt⟩
def lst (R : Nat) (f : Fn2) (j t : Nat) : Int := lstK f j t (R - t)
/-- Whether another row from t on has something in column j. -/
def oth (R : Nat) (f : Fn2) (j t p : Nat) : Bool := (List.range (R - t)).any fun n => decide (t + n ≠ p) && decide (f (t + n) j ≠ 0)
theorem oth_iff {R : Nat} {f : Fn2} {j t p : Nat} : oth R f j t p = true ↔ ∃ i, t ≤ i ∧ i < R ∧ i ≠ p ∧ f i j ≠ 0 := by
  unfold oth
  rw [List.any_eq_true]
  constructor
  · rintro ⟨n, hn, h⟩
    have hn' := List.mem_range.1 hn
    rw [Bool.and_eq_true, decide_eq_true_eq, decide_eq_true_eq] at h
    exact ⟨t + n, by omega, by omega, h.1, h.2⟩
  · rintro ⟨i, h1, h2, h3, h4⟩
    refine ⟨i - t, List.mem_range.2 (by omega), ?_⟩
    rw [show t + (i - t) = i by omega, Bool.and_eq_true, decide_eq_true_eq, decide_eq_true_eq]
    exact ⟨h3, h4⟩
theorem oth_no {R : Nat} {f : Fn2} {j t p : Nat} (h : ∀ i, t ≤ i → i < R → ¬ (i ≠ p ∧ f i j ≠ 0)) : oth R f j t p = false := by
  refine Bool.eq_false_iff.2 fun hc => ?_
  obtain ⟨i, h1, h2, h3⟩ := oth_iff.1 hc
  exact h i h1 h2 h3
/-- What row t + n takes in a sweep. -/
def swS (j p t : Nat) (s : HS) : Nat → HS
  | 0 => s
  | n + 1 => if t + n ≠ p ∧ (swS j p t s n).f (t + n) j ≠ 0 then (swS j p t s n).add (t + n) p (-((swS j p t s n).f (t + n) j / (swS j p t s n).f p j)) else swS j p t s n
theorem swS_succ (j p t : Nat) (s : HS) (n : Nat) : swS j p t s (n + 1) = if t + n ≠ p ∧ (swS j p t s n).f (t + n) j ≠ 0 then (swS j p t s n).add (t + n) p (-((swS j p t s n).f (t + n) j / (swS j p t s n).f p j)) else swS j p t s n := rfl
theorem swS_nb {j p t : Nat} {s : HS} (h : s.NBS) : ∀ n, (swS j p t s n).NBS
  | 0 => h
  | n + 1 => by
    rw [swS_succ]
    split
    · exact (swS_nb h n).add _ _ _
    · exact swS_nb h n
theorem swS_back {j p t R C : Nat} {s : HS} (h : s.NBS) {n : Nat} (hk : (swS j p t s (n + 1)).OK R C) : (swS j p t s n).OK R C := by
  rw [swS_succ] at hk
  split at hk
  · exact HS.OK.back (swS_nb h n) hk
  · exact hk
theorem swS_back' {j p t R C : Nat} {s : HS} (h : s.NBS) (n : Nat) : ∀ m, (swS j p t s (n + m)).OK R C → (swS j p t s n).OK R C
  | 0, hk => hk
  | m + 1, hk => swS_back' h n m (swS_back h hk)
/-- Row p stays. -/
theorem swS_p {j p t : Nat} {s : HS} (y : Nat) : ∀ n, (swS j p t s n).f p y = s.f p y
  | 0 => rfl
  | n + 1 => by
    rw [swS_succ]
    split
    · rename_i h
      show opA _ _ _ _ p y = _
      rw [opA_other (Ne.symm h.1)]
      exact swS_p y n
    · exact swS_p y n
/-- Rows that have not come up stay. -/
theorem swS_late {j p t : Nat} {s : HS} {x : Nat} (y : Nat) : ∀ n, t + n ≤ x → (swS j p t s n).f x y = s.f x y
  | 0, _ => rfl
  | n + 1, hx => by
    rw [swS_succ]
    split
    · show opA _ _ _ _ x y = _
      rw [opA_other (by omega)]
      exact swS_late y n (by omega)
    · exact swS_late y n (by omega)
theorem swS_early {j p t : Nat} {s : HS} {x : Nat} (y : Nat) (hx : x < t) : ∀ n, (swS j p t s n).f x y = s.f x y
  | 0 => rfl
  | n + 1 => by
    rw [swS_succ]
    split
    · show opA _ _ _ _ x y = _
      rw [opA_other (by omega)]
      exact swS_early y hx n
    · exact swS_early y hx n
/-- What stands in column j behind a sweep. -/
theorem swS_col {j p t R C : Nat} {s : HS} (h : s.NBS) (hj : j < C) (hp : p < R) (hpj : s.f p j ≠ 0) : ∀ n, t + n ≤ R → (swS j p t s n).OK R C → ∀ x, t ≤ x → x < t + n → x ≠ p → (swS j p t s n).f x j = s.f x j % s.f p j
  | 0, _, _, x, h1, h2, _ => by omega
  | n + 1, hn, hk, x, h1, h2, h3 => by
    have hk0 := swS_back h hk
    have hsp := swS_p (j := j) (p := p) (t := t) (s := s) j n
    have hnp : Num (s.f p j) := by rw [← hsp]; exact hk0.f p j hp hj
    by_cases hx : x = t + n
    · subst hx
      have hl := swS_late (j := j) (p := p) (t := t) (s := s) (x := t + n) j n (Nat.le_refl _)
      have hnx : Num (s.f (t + n) j) := by rw [← hl]; exact hk0.f _ j (by omega) hj
      rw [swS_succ] at hk ⊢
      by_cases hz : (swS j p t s n).f (t + n) j = 0
      · rw [if_neg (by simp [hz]), hz]
        rw [← hl, hz, Int.zero_emod]
      · rw [if_pos ⟨h3, hz⟩] at hk ⊢
        have hN := hk.f (t + n) j (by omega) hj
        obtain ⟨-, -, he, -⟩ := opA_num hN
        show opA _ _ _ _ (t + n) j = _
        rw [he, hl, hsp]
        have := Int.mul_ediv_add_emod (s.f (t + n) j) (s.f p j)
        rw [Int.mul_neg]
        omega
    · have hxl : x < t + n := by omega
      have ih := swS_col h hj hp hpj n (by omega) hk0 x h1 hxl h3
      rw [swS_succ]
      split
      · show opA _ _ _ _ x j = _
        rw [opA_other hx]
        exact ih
      · exact ih
/-- What rows 0 to n - 1 take when row t is done. -/
def abS (j t : Nat) (s : HS) : Nat → HS
  | 0 => s
  | n + 1 => (abS j t s n).add n t (-((abS j t s n).f n j / (abS j t s n).f t j))
theorem abS_succ (j t : Nat) (s : HS) (n : Nat) : abS j t s (n + 1) = (abS j t s n).add n t (-((abS j t s n).f n j / (abS j t s n).f t j)) := rfl
theorem abS_nb {j t : Nat} {s : HS} (h : s.NBS) : ∀ n, (abS j t s n).NBS
  | 0 => h
  | n + 1 => (abS_nb h n).add _ _ _
theorem abS_back {j t R C : Nat} {s : HS} (h : s.NBS) {n : Nat} (hk : (abS j t s (n + 1)).OK R C) : (abS j t s n).OK R C := HS.OK.back (abS_nb h n) hk
theorem abS_back' {j t R C : Nat} {s : HS} (h : s.NBS) (n : Nat) : ∀ m, (abS j t s (n + m)).OK R C → (abS j t s n).OK R C
  | 0, hk => hk
  | m + 1, hk => abS_back' h n m (abS_back h hk)
theorem abS_late {j t : Nat} {s : HS} {x : Nat} (y : Nat) : ∀ n, n ≤ x → (abS j t s n).f x y = s.f x y
  | 0, _ => rfl
  | n + 1, hx => by
    rw [abS_succ]
    show opA _ _ _ _ x y = _
    rw [opA_other (by omega)]
    exact abS_late y n (by omega)
def noBad (x : Int) : Bool := !(x == -4611686018427387904)
def HS.ok (R C : Nat) (s : HS) : Bool := (tb R C s.f).all noBad && (tb R R s.g).all noBad
theorem noBad_num {x : Int} (h : NB x) : noBad x = true ↔ Num x := by
  unfold noBad
  rw [Bool.not_eq_true', beq_eq_false_iff_ne]
  exact ⟨fun h2 => h.num h2, fun h2 => h2.ne⟩
theorem tb_all {R C : Nat} {f : Fn2} (h : NBF f) : (tb R C f).all noBad = true ↔ OKF R C f := by
  rw [List.all_eq_true]
  constructor
  · intro ha i j hi hj
    refine (noBad_num (h i j)).1 (ha _ ?_)
    rw [← tb_at (f := f) hi hj]
    have hl := idx_nat hi hj
    have : i * C + j < (tb R C f).length := by rw [tb_len]; exact hl
    rw [List.getD_eq_getElem?_getD, List.getElem?_eq_getElem this]
    exact List.getElem_mem this
  · intro ho x hx
    exact tb_mem (P := fun x => noBad x = true) (fun i j hi hj => (noBad_num (h i j)).2 (ho i j hi hj)) x hx
theorem HS.ok_iff {R C : Nat} {s : HS} (h : s.NBS) : s.ok R C = true ↔ s.OK R C := by
  unfold HS.ok
  rw [Bool.and_eq_true, tb_all h.f, tb_all h.g]
  exact ⟨fun h => ⟨h.1, h.2⟩, fun h => ⟨h.f, h.g⟩⟩
/-- The measure of the inner loop. -/
def hmMs (R j t : Nat) (s : HS) (p : Nat) : Nat := if oth R s.f j t p then (s.f p j).natAbs else 0
theorem hmMs_lt {R C j t : Nat} {s : HS} {p : Nat} (h : s.NBS) (hj : j < C) (hp : p < R) (ht : t ≤ p) (hpj : s.f p j ≠ 0) (ho : oth R s.f j t p = true) (hk : (swS j p t s (R - t)).OK R C) :
    hmMs R j t (swS j p t s (R - t)) (lst R (swS j p t s (R - t)).f j t).toNat < hmMs R j t s p := by
  have hcol := swS_col h hj hp hpj (R - t) (by omega) hk
  have hpp := swS_p (j := j) (p := p) (t := t) (s := s) j (R - t)
  generalize (swS j p t s (R - t)) = s' at *
  unfold hmMs
  rw [if_pos ho]
  by_cases ho2 : oth R s'.f j t (lst R s'.f j t).toNat = true
  · rw [if_pos ho2]
    obtain ⟨i, h1, h2, h3, h4⟩ := oth_iff.1 ho2
    rcases lstK_cases s'.f j t (R - t) with ⟨e1, e2⟩ | ⟨q, e1, e2, e3, e4, e5⟩
    · have := e2 (i - t) (by omega)
      rw [show t + (i - t) = i by omega] at this
      exact absurd this h4
    · have e1' : lst R s'.f j t = (q : Int) := e1
      rw [e1', Int.toNat_natCast] at h3 ⊢
      have hrem : ∀ x, t ≤ x → x < R → x ≠ p → (s'.f x j).natAbs < (s.f p j).natAbs := fun x a b c => by
        rw [hcol x a (by omega) c]
        have h5 := Int.emod_nonneg (s.f x j) hpj
        have h6 := Int.emod_lt (s.f x j) hpj
        omega
      by_cases hqp : q = p
      · subst hqp
        have h7 := hrem i h1 h2 h3
        have h8 := e5 (i - t) (by omega)
        rw [show t + (i - t) = i by omega] at h8
        have := h8 h4
        omega
      · exact hrem q e2 (by omega) hqp
  · rw [if_neg ho2]
    omega
/-- Sweeps till row p alone has something in column j. -/
def hmIn (R C j t : Nat) (s : HS) (p : Nat) : Option (HS × Nat) :=
  if oth R s.f j t p then
    if (swS j p t s (R - t)).ok R C then
      if h : hmMs R j t (swS j p t s (R - t)) (lst R (swS j p t s (R - t)).f j t).toNat < hmMs R j t s p then hmIn R C j t (swS j p t s (R - t)) (lst R (swS j p t s (R - t)).f j t).toNat else none
    else none
  else some (s, p)
termination_by hmMs R j t s p
theorem hmIn_done {R C j t : Nat} {s : HS} {p : Nat} (h : oth R s.f j t p = false) : hmIn R C j t s p = some (s, p) := by
  rw [hmIn, if_neg (by rw [h]; exact Bool.false_ne_true)]
theorem hmIn_bad {R C j t : Nat} {s : HS} {p : Nat} (ho : oth R s.f j t p = true) (h : (swS j p t s (R - t)).ok R C = false) : hmIn R C j t s p = none := by
  rw [hmIn, if_pos ho, if_neg (by rw [h]; exact Bool.false_ne_true)]
theorem hmIn_next {R C j t : Nat} {s : HS} {p : Nat} (hn : s.NBS) (hj : j < C) (hp : p < R) (ht : t ≤ p) (hpj : s.f p j ≠ 0) (ho : oth R s.f j t p = true) (h : (swS j p t s (R - t)).ok R C = true) :
    hmIn R C j t s p = hmIn R C j t (swS j p t s (R - t)) (lst R (swS j p t s (R - t)).f j t).toNat := by
  conv => lhs; rw [hmIn]
  rw [if_pos ho, if_pos h, dif_pos (hmMs_lt hn hj hp ht hpj ho ((HS.ok_iff (swS_nb hn _)).1 h))]
/-- Row p to place t, its sign, the rows above. -/
def hmS1 (t p : Nat) (s : HS) : HS := if p = t then s else s.swap p t
def hmS2 (j t : Nat) (s : HS) : HS := if s.f t j < 0 then s.neg t else s
def hmFin (R C j t : Nat) (p : Nat) (s : HS) : Option HS := if (abS j t (hmS2 j t (hmS1 t p s)) t).ok R C then some (abS j t (hmS2 j t (hmS1 t p s)) t) else none
/-- Columns j and the m - 1 behind it; the number of rows that are done. -/
def hmOut (R C : Nat) : Nat → Nat → Nat → HS → Option (HS × Nat)
  | 0, _, t, s => some (s, t)
  | m + 1, j, t, s =>
    if t < R then
      if lst R s.f j t < 0 then hmOut R C m (j + 1) t s
      else (hmIn R C j t s (lst R s.f j t).toNat).bind fun x => (hmFin R C j t x.2 x.1).bind fun s' => hmOut R C m (j + 1) (t + 1) s'
    else some (s, t)
/-- What follows in a column. -/
def hmGo (R C m j t : Nat) (o : Option (HS × Nat)) : Option (HS × Nat) := o.bind fun x => (hmFin R C j t x.2 x.1).bind fun s' => hmOut R C m (j + 1) (t + 1) s'
theorem hmOut_zero (R C j t : Nat) (s : HS) : hmOut R C 0 j t s = some (s, t) := rfl
theorem hmOut_full {R C m j t : Nat} {s : HS} (h : ¬ t < R) : hmOut R C m j t s = some (s, t) := by
  cases m with
  | zero => rfl
  | succ m => show (if _ then _ else _) = _; rw [if_neg h]
theorem hmOut_skip {R C m j t : Nat} {s : HS} (h : t < R) (h2 : lst R s.f j t < 0) : hmOut R C (m + 1) j t s = hmOut R C m (j + 1) t s := by
  show (if _ then (if _ then _ else _) else _) = _
  rw [if_pos h, if_pos h2]
theorem hmOut_go {R C m j t : Nat} {s : HS} (h : t < R) (h2 : ¬ lst R s.f j t < 0) : hmOut R C (m + 1) j t s = hmGo R C m j t (hmIn R C j t s (lst R s.f j t).toNat) := by
  show (if _ then (if _ then _ else _) else _) = _
  rw [if_pos h, if_neg h2]
  rfl
def idF : Fn2 := fun i j => if i = j then 1 else 0
/-- The Hermite form, what makes it, and the number of rows that are not zeros. -/
def hmRun (R C : Nat) (f : Fn2) : Option (HS × Nat) := hmOut R C C 0 0 ⟨f, idF⟩
end Go.Proofs.Ytacjonkehcamgaa

/-
  DERIVED. The cursor that draws numbers out of bytes: what the reference's l1New, l1Byte, l1Below, l1Once, l1PickInt, l1Odd, l1Num return, and that they turn the cursor alone.
-/
namespace Go.Proofs.Ytacjonkehcamgaa
open Go.RowKit
set_option linter.unusedVariables false
set_option linter.unusedSimpArgs false
/-- A slice of bytes reads as xs. -/
def RB (w : World) (B : Nat) (A : Option Addr) (n : Nat) (xs : List Int) : Prop :=
  xs.length = n ∧ (0 < n → ∃ b o, A = some ⟨b, o, none⟩ ∧ b < B ∧ ∀ k, k < n → w.cell? ⟨b, o + k, none⟩ = some (.int .u8 (xs.getD k 0))) ∧ ∀ k, 0 ≤ xs.getD k 0 ∧ xs.getD k 0 ≤ 255
section
variable {w w' : World} {B n : Nat} {A : Option Addr} {xs : List Int}
theorem RB.keep (h : RB w B A n xs) (hk : ∀ p : Addr, p.block < B → w'.cell? p = w.cell? p) : RB w' B A n xs :=
  ⟨h.1, fun hn => by
    obtain ⟨b, o, e, hb, hc⟩ := h.2.1 hn
    exact ⟨b, o, e, hb, fun k hk' => (hk _ hb).trans (hc k hk')⟩, h.2.2⟩
theorem RB.below {C : Nat} (h : RB w B A n xs) (hb : Below C w w') (hC : B ≤ C) : RB w' B A n xs := h.keep fun _ hp => hb.cell (by omega)
theorem RB.grown {row : Option Nat} (h : RB w B A n xs) (hg : w.grownBy w' row) (hB : B ≤ w.heap.size) (hr : ∀ g, row = some g → B ≤ g) : RB w' B A n xs :=
  h.keep fun p hp => World.cell?_of_block (hg.block p.block (by omega) (fun e => by have := hr _ e.symm; omega))
theorem RB.drew (h : RB w B A n xs) : RB w.drew B A n xs := h
theorem RB.drewN (h : RB w B A n xs) (k : Nat) : RB (w.drewN k) B A n xs := h
theorem RB.alloc (h : RB w B A n xs) (hB : B ≤ w.heap.size) (o : Obj) : RB (w.alloc o) B A n xs := h.keep fun p hp => World.cell?_alloc_lt w o p (by omega)
theorem RB.setCell (h : RB w B A n xs) {p : Addr} (hB : B ≤ p.block) (u : Value) : RB (w.setCell p u) B A n xs := h.keep fun q hq => by
  have : q.block ≠ p.block := by omega
  exact World.cell?_of_block (Below.heap_setCell w p u q.block this)
end
/-- Block b is a cursor upon the bytes of a slice. -/
def CU (w : World) (b : Nat) (A : Option Addr) (n cap : Nat) : Prop :=
  ∃ i h : Int, (0 ≤ i ∧ i ≤ n) ∧ Blk w b 157 #[.slice A n cap, .int .i64 i, .int .i64 h]
theorem bits_and_bd (x : Int) (m : Nat) (hm : m < 4611686018427387904) : 0 ≤ bits .and .i64 x m ∧ bits .and .i64 x m ≤ m := by
  have h1 : bits .and .i64 x m = IntKind.wrap .i64 ((BitVec.ofInt 64 x &&& BitVec.ofInt 64 (m : Int)).toNat : Int) := rfl
  have h2 : (BitVec.ofInt 64 x &&& BitVec.ofInt 64 (m : Int)).toNat ≤ m := by
    rw [BitVec.toNat_and]
    refine Nat.le_trans Nat.and_le_right ?_
    have : BitVec.ofInt 64 (m : Int) = BitVec.ofNat 64 m := by simp
    rw [this, BitVec.toNat_ofNat]
    exact Nat.mod_le _ _
  rw [h1, IntWalk.i64_in _ (by omega)]
  omega
section
variable {w w' w'' : World} {b n cap : Nat} {A : Option Addr}
theorem CU.lt (h : CU w b A n cap) : b < w.heap.size := by obtain ⟨i, q, _, h⟩ := h; exact h.lt
theorem CU.drew (h : CU w b A n cap) : CU w.drew b A n cap := by obtain ⟨i, q, a, h⟩ := h; exact ⟨i, q, a, h.drew⟩
theorem CU.drewN (h : CU w b A n cap) (k : Nat) : CU (w.drewN k) b A n cap := by obtain ⟨i, q, a, h⟩ := h; exact ⟨i, q, a, h.drewN k⟩
theorem CU.alloc (h : CU w b A n cap) (o : Obj) : CU (w.alloc o) b A n cap := by obtain ⟨i, q, a, h⟩ := h; exact ⟨i, q, a, h.alloc o⟩
theorem CU.grown {row : Option Nat} (h : CU w b A n cap) (hg : w.grownBy w' row) (hne : some b ≠ row) : CU w' b A n cap := by obtain ⟨i, q, a, h⟩ := h; exact ⟨i, q, a, h.grown hg hne⟩
theorem CU.below {D : Nat} (h : CU w b A n cap) (hb : Below D w w') (hD : b < D) : CU w' b A n cap := by obtain ⟨i, q, a, h⟩ := h; exact ⟨i, q, a, h.below hb hD⟩
theorem CU.far (h : CU w b A n cap) {p : Addr} (hp : b ≠ p.block) (u : Value) : CU (w.setCell p u) b A n cap := by obtain ⟨i, q, a, h⟩ := h; exact ⟨i, q, a, h.far hp u⟩
end
theorem grown_setLater {a w : World} {row : Option Nat} (h : a.grownBy w row) {p : Addr} (hp : a.heap.size ≤ p.block) (u : Value) : a.grownBy (w.setCell p u) row :=
  ⟨h.os, h.tape, h.output, by simpa [World.setCell] using h.size, fun i hi hne => (Below.heap_setCell w p u i (by omega)).trans (h.block i hi hne)⟩
/-- From world w0 to world w the cursor alone has turned, and blocks were laid; the cursor's bytes read as they did. -/
structure CT (w0 w : World) (B b n cap : Nat) (A : Option Addr) (xs : List Int) : Prop where
  cu : CU w b A n cap
  rb : RB w B A n xs
  gr : w0.grownBy w (some b)
  hB : B ≤ b
  hb : b < w0.heap.size
  hn : n ≤ 2000000
section
variable {w0 w w' : World} {B b n cap : Nat} {A : Option Addr} {xs : List Int}
theorem CT.self (h : CT w0 w B b n cap A xs) : CT w w B b n cap A xs := ⟨h.cu, h.rb, World.grownBy.refl _ _, h.hB, h.cu.lt, h.hn⟩
theorem CT.trans (h : CT w0 w B b n cap A xs) (k : CT w w' B b n cap A xs) : CT w0 w' B b n cap A xs := ⟨k.cu, k.rb, only_trans h.gr k.gr, h.hB, h.hb, h.hn⟩
theorem CT.size (h : CT w0 w B b n cap A xs) : w0.heap.size ≤ w.heap.size := h.gr.size
theorem CT.drew (h : CT w0 w B b n cap A xs) : CT w0 w.drew B b n cap A xs := ⟨h.cu.drew, h.rb.drew, only_drew h.gr, h.hB, h.hb, h.hn⟩
theorem CT.drewN (h : CT w0 w B b n cap A xs) (k : Nat) : CT w0 (w.drewN k) B b n cap A xs := ⟨h.cu.drewN k, h.rb.drewN k, only_drewN h.gr k, h.hB, h.hb, h.hn⟩
theorem CT.alloc (h : CT w0 w B b n cap A xs) (o : Obj) : CT w0 (w.alloc o) B b n cap A xs :=
  ⟨h.cu.alloc o, h.rb.alloc (by have := h.hB; have := h.cu.lt; omega) o, only_alloc h.gr o, h.hB, h.hb, h.hn⟩
theorem CT.far (h : CT w0 w B b n cap A xs) {p : Addr} (hp : w0.heap.size ≤ p.block) (u : Value) : CT w0 (w.setCell p u) B b n cap A xs :=
  have h1 := h.hb
  have h2 := h.hB
  ⟨h.cu.far (by omega) u, h.rb.setCell (by omega) u, grown_setLater h.gr hp u, h.hB, h.hb, h.hn⟩
theorem CT.below {D : Nat} (h : CT w0 w B b n cap A xs) (hb : Below D w w') (hD : w0.heap.size ≤ D) : CT w0 w' B b n cap A xs :=
  have h1 := h.hb
  have h2 := h.hB
  have hs := h.size
  ⟨h.cu.below hb (by omega), h.rb.below hb (by omega), ⟨hb.os.trans h.gr.os, hb.tape.trans h.gr.tape, hb.output.trans h.gr.output, Nat.le_trans h.gr.size hb.size, fun i hi hne => (hb.block i (by omega)).trans (h.gr.block i hi hne)⟩, h.hB, h.hb, h.hn⟩
theorem CT.grown {g : Nat} (h : CT w0 w B b n cap A xs) (hg : w.grownBy w' (some g)) (hD : w0.heap.size ≤ g) : CT w0 w' B b n cap A xs :=
  have h1 := h.hb
  have h2 := h.hB
  ⟨h.cu.grown hg (by intro e; cases e; omega), h.rb.grown hg (by have := h.cu.lt; omega) (fun q e => by cases e; omega), ⟨hg.os.trans h.gr.os, hg.tape.trans h.gr.tape, hg.output.trans h.gr.output, Nat.le_trans h.gr.size hg.size, fun i hi hne => (hg.block i (by have := h.gr.size; omega) (by intro e; cases e; omega)).trans (h.gr.block i hi hne)⟩, h.hB, h.hb, h.hn⟩
end
/-- A call that turned just the cursor, and returned what P says. -/
def DRV (P : World → Value → Prop) (B b n cap : Nat) (A : Option Addr) (xs : List Int) (w : World) (e : Ending) (w' : World) : Prop :=
  ∃ v, e = .returned v ∧ P w' v ∧ CT w w' B b n cap A xs
/-- A number from 0 on less than k, or 0. -/
def Upto (k : Int) (v : Value) : Prop := ∃ x : Int, v = .int .i64 x ∧ 0 ≤ x ∧ (x < k ∨ x = 0)
/-- An int within some bounds. -/
def I64 (lo hi : Int) (v : Value) : Prop := ∃ x : Int, v = .int .i64 x ∧ lo ≤ x ∧ x ≤ hi
def IsB (v : Value) : Prop := ∃ b : Bool, v = .bool b
theorem wrap64_bd (x : Int) : -9223372036854775808 ≤ wrap64 x ∧ wrap64 x ≤ 9223372036854775807 := by unfold wrap64; omega
set_option maxRecDepth 100000 in
set_option maxHeartbeats 4000000 in
theorem spec_l1Byte (b n cap : Nat) (A : Option Addr) (xs : List Int) (w : World) {B : Nat} (hct : CT w w B b n cap A xs) :
    Calls Try.prog 229 #[.pointer (some ⟨b, 0, none⟩)] w (DRV (fun _ => Upto 256) B b n cap A xs w) := by
  have hB := hct.hB
  have hn := hct.hn
  have hby := hct.rb
  obtain ⟨i, h, ⟨h1, h2⟩, hX⟩ := hct.cu
  clear hct
  have HBY := Lib.hid hby
  have x0 := hX.cell 0
  have x1 := hX.cell 1
  have x2 := hX.cell 2
  have xf := hX.frozen
  have hl := hX.lt
  simp at x0 x1 x2
  by_cases hi : i < n
  · obtain ⟨g, o, rfl, hg, hc⟩ := hby.2.1 (by omega)
    have hv := hc i.toNat (by omega)
    obtain ⟨v1, v2⟩ := hby.2.2 i.toNat
    generalize xs.getD i.toNat 0 = v at *
    clear hc hby
    have hgb : ¬ g = b := by omega
    go_enter Try.func229, Try.ntmps229
    go_wp2_with fail
    have hq := wrap64_bd (wrap64 (h * 6364136223846793005) + 1442695040888963407)
    generalize wrap64 (wrap64 (h * 6364136223846793005) + 1442695040888963407) = q at hq
    go_region
    all_goals go_wp2
    all_goals have hy := bits_and_bd (bits BinOp.xor IntKind.i64 (q / 8589934592) (q / 35184372088832)) 255 (by decide)
    all_goals generalize bits BinOp.and IntKind.i64 (bits BinOp.xor IntKind.i64 (q / 8589934592) (q / 35184372088832)) 255 = y at hy
    go_region
    all_goals go_wp2
    go_region
    all_goals go_wp2
    have hz := bits_and_bd (y + v) 255 (by decide)
    generalize bits BinOp.and IntKind.i64 (y + v) 255 = z at hz
    go_ret
    refine ⟨_, rfl, ⟨z, rfl, by omega, .inl (by omega)⟩, ⟨i + 1, q, by omega, ?_⟩, ?_, ?_, hB, hl, hn⟩
    · exact ((hX.set_ 2 (.int .i64 q)).set_ 1 (.int .i64 (i + 1))).as rfl
    · exact RB.setCell (RB.setCell HBY.out (by simp; omega) _) (by simp; omega) _
    · exact only_drew (only_drew (only_drew (only_set (only_set (World.grownBy.refl w _) 2 _) 1 _)))
  · clear hby
    go_enter Try.func229, Try.ntmps229
    go_wp2_with fail
    have hq := wrap64_bd (wrap64 (h * 6364136223846793005) + 1442695040888963407)
    generalize wrap64 (wrap64 (h * 6364136223846793005) + 1442695040888963407) = q at hq
    go_region
    all_goals go_wp2
    have hy := bits_and_bd (bits BinOp.xor IntKind.i64 (q / 8589934592) (q / 35184372088832)) 255 (by decide)
    generalize bits BinOp.and IntKind.i64 (bits BinOp.xor IntKind.i64 (q / 8589934592) (q / 35184372088832)) 255 = y at hy
    go_region
    all_goals go_wp2
    go_ret
    refine ⟨_, rfl, ⟨y, rfl, by omega, .inl (by omega)⟩, ⟨i, q, by omega, ?_⟩, ?_, ?_, hB, hl, hn⟩
    · exact (hX.set_ 2 (.int .i64 q)).as rfl
    · exact RB.setCell HBY.out (by simp; omega) _
    · exact only_drew (only_drew (only_set (World.grownBy.refl w _) 2 _))
theorem tmod_bd {x n : Int} (hx : 0 ≤ x) (hn : 0 < n) : 0 ≤ x.tmod n ∧ x.tmod n < n := ⟨Int.tmod_nonneg n hx, Int.tmod_lt_of_pos x hn⟩
set_option maxRecDepth 100000 in
set_option maxHeartbeats 4000000 in
theorem spec_l1Below (b n cap : Nat) (A : Option Addr) (xs : List Int) (k : Int) (w : World) {B : Nat} (hct : CT w w B b n cap A xs) :
    Calls Try.prog 197 #[.pointer (some ⟨b, 0, none⟩), .int .i64 k] w (DRV (fun _ => Upto k) B b n cap A xs w) := by
  have hsz := hct.size
  by_cases h0 : k ≤ 0
  · go_enter Try.func197, Try.ntmps197
    go_wp2_with fail
    go_ret
    exact ⟨_, rfl, ⟨0, rfl, by omega, .inr rfl⟩, by (with_reducible (repeat (first | exact hct | refine CT.drew ?_ | refine CT.drewN ?_ _ | refine CT.alloc ?_ _ | refine CT.far ?_ Ks _ | refine CT.below ?_ (by assumption) Ks)))⟩
  · have hk : ¬ k = 0 := by omega
    by_cases h1 : k ≤ 256
    · go_enter Try.func197, Try.ntmps197
      go_wp2_with (go_at_call 229; refine (spec_l1Byte b n cap A xs _ (CT.self (w0 := w) (B := B) (by (with_reducible (repeat (first | exact hct | refine CT.drew ?_ | refine CT.drewN ?_ _ | refine CT.alloc ?_ _ | refine CT.far ?_ Ks _ | refine CT.below ?_ (by assumption) Ks)))))).mono ?_; rintro e w1 ⟨v, rfl, ⟨x, rfl, hx0, hx1⟩, hc1⟩; have hct_1 : CT w w1 B b n cap A xs := CT.trans (by (with_reducible (repeat (first | exact hct | refine CT.drew ?_ | refine CT.drewN ?_ _ | refine CT.alloc ?_ _ | refine CT.far ?_ Ks _ | refine CT.below ?_ (by assumption) Ks)))) hc1; clear hct hc1; have hct := hct_1; clear hct_1; have hsz := hct.size)
      have he1 := Int.emod_nonneg x hk
      have he2 := Int.emod_lt_of_pos x (show 0 < k by omega)
      go_ret
      exact ⟨_, rfl, ⟨_, rfl, he1, .inl he2⟩, by (with_reducible (repeat (first | exact hct | refine CT.drew ?_ | refine CT.drewN ?_ _ | refine CT.alloc ?_ _ | refine CT.far ?_ Ks _ | refine CT.below ?_ (by assumption) Ks)))⟩
    · go_enter Try.func197, Try.ntmps197
      go_wp2_with (go_at_call 229; refine (spec_l1Byte b n cap A xs _ (CT.self (w0 := w) (B := B) (by (with_reducible (repeat (first | exact hct | refine CT.drew ?_ | refine CT.drewN ?_ _ | refine CT.alloc ?_ _ | refine CT.far ?_ Ks _ | refine CT.below ?_ (by assumption) Ks)))))).mono ?_; rintro e w1 ⟨v, rfl, ⟨x, rfl, hx0, hx1⟩, hc1⟩; have hct_1 : CT w w1 B b n cap A xs := CT.trans (by (with_reducible (repeat (first | exact hct | refine CT.drew ?_ | refine CT.drewN ?_ _ | refine CT.alloc ?_ _ | refine CT.far ?_ Ks _ | refine CT.below ?_ (by assumption) Ks)))) hc1; clear hct hc1; have hct := hct_1; clear hct_1; have hsz := hct.size)
      go_ret
      exact ⟨_, rfl, ⟨_, rfl, Int.emod_nonneg _ hk, .inl (Int.emod_lt_of_pos _ (by omega))⟩, by (with_reducible (repeat (first | exact hct | refine CT.drew ?_ | refine CT.drewN ?_ _ | refine CT.alloc ?_ _ | refine CT.far ?_ Ks _ | refine CT.below ?_ (by assumption) Ks)))⟩
theorem spec_l1Once (b n cap : Nat) (A : Option Addr) (xs : List Int) (k : Int) (w : World) {B : Nat} (hct : CT w w B b n cap A xs) :
    Calls Try.prog 170 #[.pointer (some ⟨b, 0, none⟩), .int .i64 k] w (DRV (fun _ => IsB) B b n cap A xs w) := by
  have hsz := hct.size
  go_enter Try.func170, Try.ntmps170
  go_wp2_with (go_at_call 197; refine (spec_l1Below b n cap A xs k _ (CT.self (w0 := w) (B := B) (by (with_reducible (repeat (first | exact hct | refine CT.drew ?_ | refine CT.drewN ?_ _ | refine CT.alloc ?_ _ | refine CT.far ?_ Ks _ | refine CT.below ?_ (by assumption) Ks)))))).mono ?_; rintro e w1 ⟨v, rfl, ⟨x, rfl, hx0, hx1⟩, hc1⟩; have hct_1 : CT w w1 B b n cap A xs := CT.trans (by (with_reducible (repeat (first | exact hct | refine CT.drew ?_ | refine CT.drewN ?_ _ | refine CT.alloc ?_ _ | refine CT.far ?_ Ks _ | refine CT.below ?_ (by assumption) Ks)))) hc1; clear hct hc1; have hct := hct_1; clear hct_1; have hsz := hct.size)
  go_ret
  exact ⟨_, rfl, ⟨_, rfl⟩, by (with_reducible (repeat (first | exact hct | refine CT.drew ?_ | refine CT.drewN ?_ _ | refine CT.alloc ?_ _ | refine CT.far ?_ Ks _ | refine CT.below ?_ (by assumption) Ks)))⟩
/-- One of the numbers of a list. -/
def OneOf (ys : List Int) (v : Value) : Prop := ∃ x : Int, v = .int .i64 x ∧ x ∈ ys
set_option maxRecDepth 100000 in
set_option maxHeartbeats 4000000 in
theorem spec_l1PickInt (b n cap : Nat) (A : Option Addr) (xs : List Int) (A2 : Option Addr) (n2 cap2 : Nat) (ys : List Int) (w : World) {B B2 : Nat} (hct : CT w w B b n cap A xs) (hri : RI w B2 A2 n2 ys) (hB2 : B2 ≤ w.heap.size) (hne : ∀ p : Addr, (∃ o c, A2 = some ⟨b, o, c⟩) → False) (hn2 : 0 < n2) (hn3 : n2 ≤ 100) :
    Calls Try.prog 198 #[.pointer (some ⟨b, 0, none⟩), .slice A2 n2 cap2] w (DRV (fun _ => OneOf ys) B b n cap A xs w) := by
  have hsz := hct.size
  have hlen := hri.len
  obtain ⟨g, o, rfl, hg, hc⟩ := hri.2 hn2
  have hgb : g ≠ b := fun e => hne ⟨0, 0, none⟩ ⟨o, none, by rw [e]⟩
  have HC := Lib.hid hc
  have HLEN := Lib.hid hlen
  clear hc hri hne hlen
  go_enter Try.func198, Try.ntmps198
  go_wp2_with (go_at_call 197; refine (spec_l1Below b n cap A xs (n2 : Int) _ (CT.self (w0 := w) (B := B) (by (with_reducible (repeat (first | exact hct | refine CT.drew ?_ | refine CT.drewN ?_ _ | refine CT.alloc ?_ _ | refine CT.far ?_ Ks _ | refine CT.below ?_ (by assumption) Ks)))))).mono ?_; rintro e w1 ⟨v, rfl, ⟨x, rfl, hx0, hx1⟩, hc1⟩; have hct_1 : CT w w1 B b n cap A xs := CT.trans (by (with_reducible (repeat (first | exact hct | refine CT.drew ?_ | refine CT.drewN ?_ _ | refine CT.alloc ?_ _ | refine CT.far ?_ Ks _ | refine CT.below ?_ (by assumption) Ks)))) hc1; clear hct hc1; have hct := hct_1; clear hct_1; have hsz := hct.size; have hlt : x < n2 := (by omega); have hcell : w1.cell? ⟨g, o + x.toNat, none⟩ = some (.int .i64 (ys.getD x.toNat 0)) := (World.cell?_of_block (hct.gr.block g (by omega) (by simp; omega))).trans (HC.out x.toNat (by omega)))
  go_ret
  have hm : ys[x.toNat]?.getD 0 ∈ ys := by
    have h2 := HLEN.out
    rw [← getD_nat]
    have h3 : x.toNat < ys.length := by omega
    simp only [List.getD, List.getElem?_eq_getElem h3, Option.getD_some]
    exact List.getElem_mem h3
  exact ⟨_, rfl, ⟨_, rfl, hm⟩, by (with_reducible (repeat (first | exact hct | refine CT.drew ?_ | refine CT.drewN ?_ _ | refine CT.alloc ?_ _ | refine CT.far ?_ Ks _ | refine CT.below ?_ (by assumption) Ks)))⟩
theorem RI.lit {w : World} {g : Nat} {t : TypeId} {ys : List Int} (h : Blk w g t (ys.map (Value.int .i64)).toArray) : RI w (g + 1) (some ⟨g, 0, none⟩) ys.length ys :=
  ⟨rfl, fun _ => ⟨g, 0, rfl, by omega, fun k hk => by rw [Nat.zero_add, h.cell]; simp [hk]⟩⟩
theorem not_at {b g : Nat} (h : b < g) : ∀ p : Addr, (∃ o c, (some ⟨g, 0, none⟩ : Option Addr) = some ⟨b, o, c⟩) → False := fun _ ⟨_, _, e⟩ => by
  injection e with e; injection e with e1; omega
set_option maxRecDepth 100000 in
set_option maxHeartbeats 4000000 in
theorem spec_l1Odd (b n cap : Nat) (A : Option Addr) (xs : List Int) (w : World) {B : Nat} (hct : CT w w B b n cap A xs) :
    Calls Try.prog 230 #[.pointer (some ⟨b, 0, none⟩)] w (DRV (fun _ => I64 (-9223372036854775808) 9223372036854775807) B b n cap A xs w) := by
  have hsz := hct.size
  have hb := hct.hb
  go_enter Try.func230, Try.ntmps230
  go_wp2_with (go_at_call 198; refine (spec_l1PickInt b n cap A xs (some ⟨(w.heap.size), 0, none⟩) _ _ ([0, 1, -1, 2, 400000000, -400000000, 400000001, -400000001, 399999999, 9223372036854775807, -9223372036854775808]) _ (B2 := (w.heap.size) + 1) (CT.self (w0 := w) (B := B) (by (with_reducible (repeat (first | exact hct | refine CT.drew ?_ | refine CT.drewN ?_ _ | refine CT.alloc ?_ _ | refine CT.far ?_ Ks _ | refine CT.below ?_ (by assumption) Ks))))) ?h2 ?h3 ?h4 ?h5 ?h6).mono ?h7; (case h2 => (exact (RI.lit (Blk.new _ _ _)))); (case h3 => (exact Ks)); (case h4 => (exact (not_at Ks))); (case h5 => decide); (case h6 => decide); rintro e w1 ⟨v, rfl, ⟨x, rfl, hx0⟩, hc1⟩; have hct_1 : CT w w1 B b n cap A xs := CT.trans (by (with_reducible (repeat (first | exact hct | refine CT.drew ?_ | refine CT.drewN ?_ _ | refine CT.alloc ?_ _ | refine CT.far ?_ Ks _ | refine CT.below ?_ (by assumption) Ks)))) hc1; clear hct hc1; have hct := hct_1; clear hct_1; have hsz := hct.size)
  go_ret
  refine ⟨_, rfl, ⟨x, rfl, ?_⟩, by (with_reducible (repeat (first | exact hct | refine CT.drew ?_ | refine CT.drewN ?_ _ | refine CT.alloc ?_ _ | refine CT.far ?_ Ks _ | refine CT.below ?_ (by assumption) Ks)))⟩
  simp only [List.mem_cons, List.not_mem_nil, or_false] at hx0
  omega
set_option maxRecDepth 100000 in
set_option maxHeartbeats 4000000 in
theorem spec_l1Num (b n cap : Nat) (A : Option Addr) (xs : List Int) (most : Int) (w : World) {B : Nat} (hct : CT w w B b n cap A xs) (hm : 0 ≤ most ∧ most ≤ 1000000) :
    Calls Try.prog 200 #[.pointer (some ⟨b, 0, none⟩), .int .i64 most] w (DRV (fun _ => I64 (-9223372036854775808) 9223372036854775807) B b n cap A xs w) := by
  have hsz := hct.size
  obtain ⟨hm1, hm2⟩ := hm
  go_enter Try.func200, Try.ntmps200
  go_wp2_with (first | (go_at_call 170; refine (spec_l1Once b n cap A xs 40 _ (CT.self (w0 := w) (B := B) (by (with_reducible (repeat (first | exact hct | refine CT.drew ?_ | refine CT.drewN ?_ _ | refine CT.alloc ?_ _ | refine CT.far ?_ Ks _ | refine CT.below ?_ (by assumption) Ks)))))).mono ?_; rintro e w1 ⟨v, rfl, ⟨q, rfl⟩, hc1⟩; have hct_1 : CT w w1 B b n cap A xs := CT.trans (by (with_reducible (repeat (first | exact hct | refine CT.drew ?_ | refine CT.drewN ?_ _ | refine CT.alloc ?_ _ | refine CT.far ?_ Ks _ | refine CT.below ?_ (by assumption) Ks)))) hc1; clear hct hc1; have hct := hct_1; clear hct_1; have hsz := hct.size) | (go_at_call 197; refine (spec_l1Below b n cap A xs (2 * most + 1) _ (CT.self (w0 := w) (B := B) (by (with_reducible (repeat (first | exact hct | refine CT.drew ?_ | refine CT.drewN ?_ _ | refine CT.alloc ?_ _ | refine CT.far ?_ Ks _ | refine CT.below ?_ (by assumption) Ks)))))).mono ?_; rintro e w1 ⟨v, rfl, ⟨x, rfl, hx0, hx1⟩, hc1⟩; have hct_1 : CT w w1 B b n cap A xs := CT.trans (by (with_reducible (repeat (first | exact hct | refine CT.drew ?_ | refine CT.drewN ?_ _ | refine CT.alloc ?_ _ | refine CT.far ?_ Ks _ | refine CT.below ?_ (by assumption) Ks)))) hc1; clear hct hc1; have hct := hct_1; clear hct_1; have hsz := hct.size) | (go_at_call 230; refine (spec_l1Odd b n cap A xs _ (CT.self (w0 := w) (B := B) (by (with_reducible (repeat (first | exact hct | refine CT.drew ?_ | refine CT.drewN ?_ _ | refine CT.alloc ?_ _ | refine CT.far ?_ Ks _ | refine CT.below ?_ (by assumption) Ks)))))).mono ?_; rintro e w1 ⟨v, rfl, ⟨x, rfl, hx0, hx1⟩, hc1⟩; have hct_1 : CT w w1 B b n cap A xs := CT.trans (by (with_reducible (repeat (first | exact hct | refine CT.drew ?_ | refine CT.drewN ?_ _ | refine CT.alloc ?_ _ | refine CT.far ?_ Ks _ | refine CT.below ?_ (by assumption) Ks)))) hc1; clear hct hc1; have hct := hct_1; clear hct_1; have hsz := hct.size))
  all_goals go_ret
  all_goals exact ⟨_, rfl, ⟨_, rfl, by omega, by omega⟩, by (with_reducible (repeat (first | exact hct | refine CT.drew ?_ | refine CT.drewN ?_ _ | refine CT.alloc ?_ _ | refine CT.far ?_ Ks _ | refine CT.below ?_ (by assumption) Ks)))⟩
theorem CU.new {w : World} {b n cap : Nat} {A : Option Addr} {h : Int} (k : Blk w b 157 #[.slice A n cap, .int .i64 0, .int .i64 h]) : CU w b A n cap := ⟨0, h, by omega, k⟩
/-- The call laid a cursor. -/
def CUR (n cap : Nat) (A : Option Addr) (w : World) (e : Ending) (w' : World) : Prop := ∃ b, e = .returned (.pointer (some ⟨b, 0, none⟩)) ∧ CU w' b A n cap ∧ w.heap.size ≤ b ∧ Below w.heap.size w w'
set_option maxRecDepth 100000 in
set_option maxHeartbeats 4000000 in
theorem spec_l1New (n cap : Nat) (A : Option Addr) (xs : List Int) (w : World) {B : Nat} (hby : RB w B A n xs) (hn : n ≤ 2000000) :
    Calls Try.prog 120 #[.slice A n cap] w (CUR n cap A w) := by
  have HBY := Lib.hid hby
  clear hby
  go_enter Try.func120, Try.ntmps120
  go_wp2
  go_loopw [3, 4] (fun u v wr => ∃ (h : Int) (i : Nat), u = .int .i64 h ∧ v = .int .i64 i ∧ 0 ≤ h ∧ h ≤ 2000000000 ∧ i ≤ n ∧ wr = w) (fun _ v _ => n - (intOf v).toNat)
  case atStart => exact ⟨_, 0, rfl, rfl, by omega, by omega, by omega, rfl⟩
  case round =>
    obtain ⟨h, i, rfl, rfl, h1, h2, h3, rfl⟩ := hrel
    by_cases hi : i < n
    · by_cases hi4 : i < 4000
      · obtain ⟨g, o, rfl, hg, hc⟩ := HBY.out.2.1 (by omega)
        have hv := hc i hi
        obtain ⟨v1, v2⟩ := HBY.out.2.2 i
        generalize xs.getD i 0 = v at *
        clear hc
        go_wp2
        have hz := bits_and_bd (h * 131 + v + 7) 1073741823 (by decide)
        generalize bits BinOp.and IntKind.i64 (h * 131 + v + 7) 1073741823 = z at hz
        exact ⟨⟨_, i + 1, rfl, by simp, by omega, by omega, by omega, trivial⟩, by simp only [intOf]; omega⟩
      · go_wp2
        go_ret
        exact ⟨_, rfl, CU.new (Blk.new _ _ _), Nat.le_refl _, Kw⟩
    · go_wp2
      go_ret
      exact ⟨_, rfl, CU.new (Blk.new _ _ _), Nat.le_refl _, Kw⟩
theorem CT.new {w : World} {B b n cap : Nat} {A : Option Addr} {xs : List Int} (hcu : CU w b A n cap) (hby : RB w B A n xs) (hB : B ≤ b) (hn : n ≤ 2000000) : CT w w B b n cap A xs := ⟨hcu, hby, World.grownBy.refl _ _, hB, hcu.lt, hn⟩
/-- What is below the cursor is as it was. -/
theorem CT.under {w w' : World} {B b n cap D : Nat} {A : Option Addr} {xs : List Int} (h : CT w w' B b n cap A xs) (hD : D ≤ b) : Below D w w' := only_below h.gr (by have := h.hb; omega) fun g e => by cases e; exact hD
end Go.Proofs.Ytacjonkehcamgaa

/-
  DERIVED. at and set on a table of the call's own.
-/
namespace Go.Proofs.Ytacjonkehcamgaa
open Go.RowKit
set_option linter.unusedVariables false
theorem impl_at_tb (R C i j : Nat) (A : Option Addr) (n cap : Nat) (F : Nat → Nat → Int) (v : Int) (hv : F i j = v) (w : World) {B : Nat} (h : OR w B (.slice A n cap) (tb R C F)) (hR : R ≤ 48) (hC : C ≤ 48) (hi : i < R) (hj : j < C) :
    Calls Try.prog 117 #[.agg #[.int .i64 R, .int .i64 C, .slice A n cap], .int .i64 i, .int .i64 j] w (BV (.int .i64 v) w) := by
  have hn := h.lenEq
  rw [tb_len] at hn
  have h1 := idx_nat hi hj
  have h2 : i * C ≤ 48 * 48 := Nat.mul_le_mul (by omega) hC
  have e1 : (i : Int) * (C : Int) = ((i * C : Nat) : Int) := by rw [Int.natCast_mul]
  have := impl_at R C i j A n cap (tb R C F) w h.reads (Nat.le_refl _) ⟨by omega, by omega⟩ ⟨by omega, by omega⟩ (by omega)
  rw [cel_tb hi hj, hv] at this
  exact this
theorem impl_set_tb (R C i j : Nat) (v : Int) (A : Option Addr) (n cap : Nat) (F F' : Nat → Nat → Int) (hF : upd F i j v = F') (w : World) {B : Nat} (h : OR w B (.slice A n cap) (tb R C F)) (hR : R ≤ 48) (hC : C ≤ 48) (hi : i < R) (hj : j < C) :
    Calls Try.prog 125 #[.agg #[.int .i64 R, .int .i64 C, .slice A n cap], .int .i64 i, .int .i64 j, .int .i64 v] w (WU (.slice A n cap) B (tb R C F') w) := by
  have hn := h.lenEq
  rw [tb_len] at hn
  have h1 := idx_nat hi hj
  have h2 : i * C ≤ 48 * 48 := Nat.mul_le_mul (by omega) hC
  have e1 : (i : Int) * (C : Int) = ((i * C : Nat) : Int) := by rw [Int.natCast_mul]
  have := impl_set R C i j v A n cap (tb R C F) w h ⟨by omega, by omega⟩ ⟨by omega, by omega⟩ (by omega)
  rw [show ((i : Int) * (C : Int) + (j : Int)).toNat = i * C + j by omega, tb_set hi hj, hF] at this
  exact this
end Go.Proofs.Ytacjonkehcamgaa

/-
  DERIVED. A slice of bytes that came in, read.
-/
namespace Go.Proofs.Ytacjonkehcamgaa
open Go.ChangeShapes Go.WideShapes Go.ChangeAt Go.RowKit Go.Joins
set_option linter.unusedVariables false
section
variable {H : Type} {enc : TypeId × Value → H} {P : Program}
theorem reads_bytes {w : World} {base : Nat} {spare : Nat → Bool} {held : Bool} {t e : TypeId} {fuel : Nat} {v : Value} {x : DataW H × List MemPlace}
    (ht : P.underlying t = some (.slice e)) (he : P.underlying e = some (.int .u8)) (hc : P.cellsOf e = 1) (h : DataW.trod enc P w base spare held fuel t [v] = some x)
    (hlt : ∀ p ∈ x.2, p.block < w.heap.size) :
    ∃ A n cap xs, v = .slice A n cap ∧ n ≤ cap ∧ cap ≤ maxLen ∧ RB w w.heap.size A n xs := by
  rcases open_ints ht he hc h with ⟨hcs, hx⟩ | ⟨a, len, cap, zs, hcs, hb, hl, hm, hz, hx, hcell, hwf⟩
  · injection hcs with hv
    exact ⟨none, 0, 0, [], hv, Nat.le_refl _, by unfold maxLen; omega, rfl, fun h => absurd h (by omega), fun k => by simp⟩
  · injection hcs with hv
    have hzl : len ≤ zs.length := by rw [hz]; split <;> omega
    refine ⟨some a, len, cap, zs.take len, hv, hl, hm, by simp; omega, fun hn => ?_, fun k => ?_⟩
    · obtain ⟨b, off, rfl, hc'⟩ := ints_at hcell (by omega)
      refine ⟨b, off, rfl, ?_, fun k hk => ?_⟩
      · have h0 : MemPlace.cell b off ∈ x.2 := by
          rw [hx]
          simp only [MemPlace.row, List.mem_map, List.mem_range]
          exact ⟨0, by omega, rfl⟩
        exact hlt _ h0
      · rw [hc' k (by omega)]
        simp [List.getD, hk]
    · by_cases hk : k < (zs.take len).length
      · have h1 : (zs.take len).getD k 0 ∈ zs := by
          have : (zs.take len).getD k 0 = (zs.take len)[k] := by unfold List.getD; rw [List.getElem?_eq_getElem hk]; rfl
          rw [this]
          exact List.mem_of_mem_take (List.getElem_mem hk)
        simpa [Lit.wf, IntKind.min, IntKind.max, IntKind.signed, IntKind.bits] using hwf _ h1
      · have : (zs.take len).getD k 0 = 0 := by simp [List.getD, List.getElem?_eq_none (show (zs.take len).length ≤ k by omega)]
        rw [this]; omega
end
end Go.Proofs.Ytacjonkehcamgaa

/-
  DERIVED. What an echelon form asks, row by row: no program in sight.
-/
namespace Go.Proofs.Ytacjonkehcamgaa
set_option linter.unusedVariables false
def ezc (xs : List Int) (C i k : Nat) : Bool := decide (k = i) || decide (cel xs C k (pv xs C i) = 0)
def erow (xs : List Int) (R C i : Nat) : Bool :=
  if pv xs C i < C then decide (lastP xs C i < pv xs C i) && decide (0 ≤ cel xs C i (pv xs C i)) && decide (gcdL (rowL xs C i) = 1) && (List.range R).all (ezc xs C i) else true
def echB (r c : Int) (xs : List Int) : Bool := isMat r c xs && (List.range r.toNat).all (erow xs r.toNat c.toNat)
/-- The row is primitive exactly if the reference finds nothing wrong with it. -/
theorem prim_row {xs : List Int} {C i : Nat} (hl : (rowL xs C i).length = C) (hp : pv xs C i < C) : primL (rowL xs C i) = rowL xs C i ↔ (gcdL (rowL xs C i) = 1 ∧ 0 ≤ cel xs C i (pv xs C i)) := by
  have h1 := primL_eq_iff (rowL xs C i)
  have h2 : gcdL (rowL xs C i) ≠ 0 := fcN_lt_iff.1 (by rw [hl]; exact hp)
  rw [h1, ← rowL_getD hp]
  simp only [h2, false_or]
  exact Iff.rfl
theorem prim_row0 {xs : List Int} {C i : Nat} (hl : (rowL xs C i).length = C) (hp : ¬ pv xs C i < C) : primL (rowL xs C i) = rowL xs C i := by
  have h1 := primL_eq_iff (rowL xs C i)
  rw [h1]
  left
  apply Classical.byContradiction
  intro h
  exact hp (by have := fcN_lt_iff.2 h; rw [hl] at this; exact this)
theorem spl_all {xs : List Int} {n : Nat} (h : xs.length = n) : splL xs 0 (primL (winL xs 0 n)) = primL xs := by
  have e : winL xs 0 n = xs := by simp [winL, ← h]
  rw [e]
  simp [splL, primL_len]
theorem gcdF_le' (l : List Int) (M : Nat) (h : ∀ x ∈ l, x.natAbs ≤ M) : ∀ a : Nat, a ≤ M → l.foldl (fun (g : Nat) (x : Int) => Int.gcd g x) a ≤ M := by
  induction l with
  | nil => intro a ha; simpa using ha
  | cons y l ih =>
    intro a ha
    refine ih (fun x hx => h x (List.mem_cons_of_mem _ hx)) _ ?_
    show Int.gcd a y ≤ M
    by_cases hy : y = 0
    · subst hy; simpa using ha
    · have h1 : Int.gcd a y ∣ y.natAbs := Int.gcd_dvd_natAbs_right ..
      have h2 := Nat.le_of_dvd (by omega) h1
      have := h y (List.mem_cons_self ..)
      omega
end Go.Proofs.Ytacjonkehcamgaa

/-
  DERIVED. SameMatrix of the program.
-/
namespace Go.Proofs.Ytacjonkehcamgaa
open Go.RowKit
set_option linter.unusedVariables false
set_option linter.unusedSimpArgs false
def sameB (r c : Int) (xs : List Int) (r2 c2 : Int) (ys : List Int) : Bool := decide (r = r2) && decide (c = c2) && eqB xs ys
theorem sameB_r {r c : Int} {xs : List Int} {r2 c2 : Int} {ys : List Int} (h : ¬ r = r2) : sameB r c xs r2 c2 ys = false := by simp [sameB, h]
theorem sameB_c {r c : Int} {xs : List Int} {r2 c2 : Int} {ys : List Int} (h : ¬ c = c2) : sameB r c xs r2 c2 ys = false := by simp [sameB, h]
theorem sameB_e {r c : Int} {xs ys : List Int} : sameB r c xs r c ys = eqB xs ys := by simp [sameB]
set_option maxRecDepth 100000 in
set_option maxHeartbeats 4000000 in
theorem impl_SameMatrix (r c r2 c2 : Int) (A A' : Option Addr) (n cap n' cap' : Nat) (xs ys : List Int) (w : World) {B B' : Nat} (h : RI w B A n xs) (h' : RI w B' A' n' ys) (hB : B ≤ w.heap.size) (hB' : B' ≤ w.heap.size) (hn : n ≤ 1048576) (hn' : n' ≤ 1048576) :
    Calls Try.prog 41 #[.agg #[.int .i64 r, .int .i64 c, .slice A n cap], .agg #[.int .i64 r2, .int .i64 c2, .slice A' n' cap']] w (BV (.bool (sameB r c xs r2 c2 ys)) w) := by
  have H2 := Lib.hid (h.more hB)
  have H3 := Lib.hid (h'.more hB')
  clear h h'
  by_cases hr : r = r2
  · subst hr
    by_cases hc : c = c2
    · subst hc
      have HE := Lib.hid (sameB_e (r := r) (c := c) (xs := xs) (ys := ys))
      go_enter Try.func41, Try.ntmps41
      go_wp2_with fail
      refine (slices_Equal A A' n n' cap cap' xs ys _ (C := w.heap.size) (C' := w.heap.size) (Kr H2.out) (Kr H3.out) (by omega) (by omega)).mono ?_
      rintro e w2 ⟨rfl, nd, rfl⟩
      go_wp2_with fail
      go_ret
      exact BV.mk (vbool (by rw [HE.out])) Kw
    · have HE := Lib.hid (sameB_c (r := r) (xs := xs) (r2 := r) (ys := ys) hc)
      have hb : (c == c2) = false := by simp [hc]
      clear hc
      go_enter Try.func41, Try.ntmps41
      go_wp2_with fail
      go_ret
      exact BV.mk (vbool (by rw [HE.out])) Kw
  · have HE := Lib.hid (sameB_r (c := c) (xs := xs) (c2 := c2) (ys := ys) hr)
    have hb : (r == r2) = false := by simp [hr]
    clear hr
    go_enter Try.func41, Try.ntmps41
    go_wp2_with fail
    go_ret
    exact BV.mk (vbool (by rw [HE.out])) Kw
end Go.Proofs.Ytacjonkehcamgaa

/-
  DERIVED. The laws' sameInts: whether two lists are equal.
-/
namespace Go.Proofs.Ytacjonkehcamgaa
open Go.RowKit
set_option linter.unusedVariables false
set_option linter.unusedSimpArgs false
set_option maxHeartbeats 400000 in
theorem laws_sameInts (A B : Option Addr) (n m c d : Nat) (xs ys : List Int) (w : World) {C C' : Nat} (h : RI w C A n xs) (h' : RI w C' B m ys) (hn : n ≤ 1048576) (hm : m ≤ 1048576) :
    Calls Try.prog 64 #[.slice A n c, .slice B m d] w (DV (.bool (eqB xs ys)) w) := by
  have hlx := h.len
  have hly := h'.len
  by_cases hnm : n = m
  · subst hnm
    have H := Lib.hid h
    have H' := Lib.hid h'
    clear h h'
    have hb : ((n : Int) != (n : Int)) = false := by simp
    go_enter Try.func64, Try.ntmps64
    go_wp2
    go_loopw [5] (fun v wr => ∃ k nd : Nat, v = .int .i64 k ∧ k ≤ n ∧ xs.take k = ys.take k ∧ wr = w.drewN nd) (fun v _ => n - (intOf v).toNat)
    case atStart => exact ⟨0, 0, rfl, Nat.zero_le _, by simp, rfl⟩
    case round =>
      obtain ⟨k, nd, rfl, hk, heq0, rfl⟩ := hrel
      have heq := Lib.hid heq0
      clear heq0
      by_cases hlt : k < n
      · obtain ⟨b, o, rfl, hbb, hcells⟩ := H.out.2 (by omega)
        obtain ⟨b', o', rfl, hbb', hcells'⟩ := H'.out.2 (by omega)
        have c1 := hcells k hlt
        have c2 := hcells' k hlt
        clear hcells hcells'
        have hkx : k < xs.length := by omega
        have hky : k < ys.length := by omega
        by_cases he : xs.getD k 0 = ys.getD k 0
        · have hnext := Lib.hid (take_next hkx hky heq.out he)
          have heb : (xs.getD k 0 != ys.getD k 0) = false := by simp only [bne_eq_false_iff_eq]; exact he
          clear he
          generalize xs.getD k 0 = x at c1 heb
          generalize ys.getD k 0 = y at c2 heb
          go_wp2
          go_region
          all_goals go_wp2
          go_roundw
          case rel => exact ⟨k + 1, nd + 1, by go_num, by omega, hnext.out, rfl⟩
          case measure => simp only [intOf]; omega
        · have hne : eqB xs ys = false := by
            unfold eqB
            rw [decide_eq_false_iff_not]
            intro e
            exact he (by rw [e])
          have heb : (xs.getD k 0 != ys.getD k 0) = true := by simp only [bne_iff_ne, ne_eq]; exact he
          clear he
          generalize xs.getD k 0 = x at c1 heb
          generalize ys.getD k 0 = y at c2 heb
          go_wp2
          go_region
          all_goals go_wp2
          go_ret
          exact DV.mk (nd + 1) (vbool hne.symm)
      · have hall : eqB xs ys = true := by
          unfold eqB
          have := heq.out
          rw [List.take_of_length_le (by omega), List.take_of_length_le (by omega)] at this
          simpa using this
        go_wp2
        go_ret
        exact DV.mk nd (vbool hall.symm)
  · have hb : ((n : Int) != (m : Int)) = true := by simp; omega
    have hne : eqB xs ys = false := by
      unfold eqB
      rw [decide_eq_false_iff_not]
      intro e
      rw [e] at hlx
      omega
    go_enter Try.func64, Try.ntmps64
    go_wp2
    go_ret
    exact DV.mk0 (vbool hne.symm)
end Go.Proofs.Ytacjonkehcamgaa

/-
  DERIVED. Slices of ints that are drawn: moduli, right sides.
-/
namespace Go.Proofs.Ytacjonkehcamgaa
open Go.RowKit
set_option linter.unusedVariables false
set_option linter.unusedSimpArgs false
/-- What the call lays from block B0 on is a slice of at most lim ints. -/
def OIs (B0 lim : Nat) (w' : World) (v : Value) : Prop := ∃ A m c ys, v = .slice A m c ∧ OR w' B0 (.slice A m c) ys ∧ ys.length ≤ lim
theorem OIs.mk {B0 lim : Nat} {w' : World} {v : Value} {ys : List Int} (h : OR w' B0 v ys) (hl : ys.length ≤ lim) : OIs B0 lim w' v := by
  rcases h.form with ⟨h1, h2⟩ | ⟨g, cap, h1, _⟩ <;> subst h1 <;> exact ⟨_, _, _, ys, rfl, h, hl⟩
theorem CT.own {w0 w w' : World} {B b n cap : Nat} {A : Option Addr} {xs : List Int} {v : Value} {B1 : Nat} {ys : List Int} (h : CT w0 w B b n cap A xs) (hg : w.grownBy w' v.ownBlock) (ho : OR w B1 v ys) (hB : w0.heap.size ≤ B1) : CT w0 w' B b n cap A xs :=
  h.below (only_below hg (Nat.le_trans h.size (Nat.le_refl _)) fun g e => by have := (ho.own g e).1; omega) (Nat.le_refl _)
/-- The turning of the cursor keeps what is owned above it. -/
theorem OR.turned {w w' : World} {B B1 b n cap : Nat} {A : Option Addr} {xs ys : List Int} {v : Value} (h : OR w B1 v ys) (hc : CT w w' B b n cap A xs) (hb : b < B1) : OR w' B1 v ys :=
  h.kept hc.gr (.inr fun e => by have := (h.own b e).1; omega)
set_option maxRecDepth 100000 in
set_option maxHeartbeats 4000000 in
theorem spec_l8Right (b n cap : Nat) (A : Option Addr) (xs : List Int) (m : Int) (w : World) {B : Nat} (hct : CT w w B b n cap A xs) (hm : m ≤ 1000) :
    Calls Try.prog 122 #[.pointer (some ⟨b, 0, none⟩), .int .i64 m] w (DRV (OIs w.heap.size (m.toNat + 1)) B b n cap A xs w) := by
  have hsz := hct.size
  have hb := hct.hb
  go_enter Try.func122, Try.ntmps122
  go_wp2_with fail
  have ho : OR (w.alloc (.cells #[] 3)) w.heap.size (.slice (some ⟨w.heap.size, 0, none⟩) 0 0) [] := OR.empty w (Nat.le_refl _)
  go_loopw [5, 6] (fun u v wr => ∃ (k : Nat) (ys : List Int), v = .int .i64 k ∧ k ≤ m.toNat ∧ OR wr w.heap.size u ys ∧ ys.length = k ∧ CT w wr B b n cap A xs) (fun _ v _ => m.toNat - (intOf v).toNat)
  case atStart => exact ⟨0, [], rfl, by omega, ho, rfl, by (with_reducible (repeat (first | exact hct | refine CT.drew ?_ | refine CT.drewN ?_ _ | refine CT.alloc ?_ _ | refine CT.far ?_ Ks _ | refine CT.below ?_ (by assumption) Ks)))⟩
  case round =>
    clear hct ho
    obtain ⟨k, ys, rfl, hk0, ho, hl, hct⟩ := hrel
    have HL := Lib.hid hl
    have hl2 : ys.length ≤ 1000 := by omega
    clear hl
    have hsz := hct.size
    by_cases hk : (k : Int) < m
    · go_wp2_with (first | (go_at_call 200; refine (spec_l1Num b n cap A xs 9 _ (CT.self (w0 := w) (B := B) (by (with_reducible (repeat (first | exact hct | refine CT.drew ?_ | refine CT.drewN ?_ _ | refine CT.alloc ?_ _ | refine CT.far ?_ Ks _ | refine CT.below ?_ (by assumption) Ks))))) (by omega)).mono ?_; rintro e w1 ⟨v, rfl, ⟨x, rfl, hx0, hx1⟩, hc1⟩; have hct_1 : CT w w1 B b n cap A xs := CT.trans (by (with_reducible (repeat (first | exact hct | refine CT.drew ?_ | refine CT.drewN ?_ _ | refine CT.alloc ?_ _ | refine CT.far ?_ Ks _ | refine CT.below ?_ (by assumption) Ks)))) hc1; (first | have ho_1 := OR.turned ho hc1 hb | have ho_1 := OR.turned (OR.alloc ho _) hc1 hb | have ho_1 := OR.turned (OR.drew ho) hc1 hb); clear hct ho hc1; have hct := hct_1; have ho := ho_1; clear hct_1 ho_1; have hsz := hct.size) | (at_builtin; refine wpList_append_one _ rfl (.tmp 13) (.tmp 16) rfl w.heap.size _ _ rfl (ho.alloc _) _ x rfl ?f1 ?f2 ?f3 ?_; (case f1 => (simp [go_sem])); (case f2 => omega); (case f3 => (simp; omega)); intro v1 w2 hown1 hgr hat; (have hct_1 : CT w w2 B b n cap A xs := CT.own (by (with_reducible (repeat (first | exact hct | refine CT.drew ?_ | refine CT.drewN ?_ _ | refine CT.alloc ?_ _ | refine CT.far ?_ Ks _ | refine CT.below ?_ (by assumption) Ks)))) hgr (ho.alloc _) (Nat.le_refl _)); clear hct ho hgr hat; have hct := hct_1; have ho := hown1; clear hct_1 hown1; have hsz := hct.size))
      go_roundw
      case rel => exact ⟨k + 1, _, by go_num, by omega, ho, by simp [HL.out], hct⟩
      case measure => simp only [intOf]; omega
    · go_wp2_with (first | (go_at_call 170; refine (spec_l1Once b n cap A xs 24 _ (CT.self (w0 := w) (B := B) (by (with_reducible (repeat (first | exact hct | refine CT.drew ?_ | refine CT.drewN ?_ _ | refine CT.alloc ?_ _ | refine CT.far ?_ Ks _ | refine CT.below ?_ (by assumption) Ks)))))).mono ?_; rintro e w1 ⟨v, rfl, ⟨q, rfl⟩, hc1⟩; have hct_1 : CT w w1 B b n cap A xs := CT.trans (by (with_reducible (repeat (first | exact hct | refine CT.drew ?_ | refine CT.drewN ?_ _ | refine CT.alloc ?_ _ | refine CT.far ?_ Ks _ | refine CT.below ?_ (by assumption) Ks)))) hc1; (first | have ho_1 := OR.turned ho hc1 hb | have ho_1 := OR.turned (OR.alloc ho _) hc1 hb | have ho_1 := OR.turned (OR.drew ho) hc1 hb); clear hct ho hc1; have hct := hct_1; have ho := ho_1; clear hct_1 ho_1; have hsz := hct.size) | (at_builtin; refine wpList_append_one _ rfl (.tmp 20) (.tmp 21) rfl w.heap.size _ _ rfl (ho.alloc _) _ 1 rfl ?f1 ?f2 ?f3 ?_; (case f1 => (simp [go_sem])); (case f2 => omega); (case f3 => (simp; omega)); intro v1 w2 hown1 hgr hat; (have hct_1 : CT w w2 B b n cap A xs := CT.own (by (with_reducible (repeat (first | exact hct | refine CT.drew ?_ | refine CT.drewN ?_ _ | refine CT.alloc ?_ _ | refine CT.far ?_ Ks _ | refine CT.below ?_ (by assumption) Ks)))) hgr (ho.alloc _) (Nat.le_refl _)); clear hct ho hgr hat; have hct := hct_1; have ho := hown1; clear hct_1 hown1; have hsz := hct.size))
      all_goals go_ret
      all_goals exact ⟨_, rfl, OIs.mk ho (by have := HL.out; first | omega | (simp; omega)), by (with_reducible (repeat (first | exact hct | refine CT.drew ?_ | refine CT.drewN ?_ _ | refine CT.alloc ?_ _ | refine CT.far ?_ Ks _ | refine CT.below ?_ (by assumption) Ks)))⟩
end Go.Proofs.Ytacjonkehcamgaa

/-
  DERIVED. The Hermite form, what stays in a round: no program in sight.
-/
namespace Go.Proofs.Ytacjonkehcamgaa
set_option linter.unusedVariables false
theorem opM_nb {f : Fn2} (h : NBF f) (i : Nat) : NBF (opM f i) := by
  intro x y
  unfold opM
  split
  · split
    · exact .inl rfl
    · rename_i h2; exact ((h i y).num h2).neg.nb
  · exact h x y
theorem opM_ok {f : Fn2} {R C : Nat} (h : OKF R C f) (i : Nat) (hi : i < R) : OKF R C (opM f i) := by
  intro x y hx hy
  unfold opM
  split
  · rw [if_neg (h i y hi hy).ne]; exact (h i y hi hy).neg
  · exact h x y hx hy
theorem opM_eq {f : Fn2} {R C : Nat} (h : OKF R C f) (i : Nat) (hi : i < R) : tb R C (opN f i) = tb R C (opM f i) := tb_ext fun x y hx hy => by
  unfold opN opM
  split
  · rw [if_neg (h i y hi hy).ne]
  · rfl
theorem opM_at {f : Fn2} {i y : Nat} (h : Num (f i y)) : opM f i i y = -f i y := by unfold opM; rw [if_pos rfl, if_neg h.ne]
theorem swF_nb {f : Fn2} (h : NBF f) (p t : Nat) : NBF (swF f p t) := fun x y => h _ _
theorem swF_ok {f : Fn2} {R C p t : Nat} (h : OKF R C f) (hp : p < R) (ht : t < R) : OKF R C (swF f p t) := by
  intro x y hx hy
  unfold swF
  refine h _ _ ?_ hy
  split
  · exact ht
  · split
    · exact hp
    · exact hx
/-- All numbers, and no mark that is none. -/
structure GD (R C : Nat) (s : HS) : Prop where
  ok : s.OK R C
  nb : s.NBS
theorem GD.swap {R C p t : Nat} {s : HS} (h : GD R C s) (hp : p < R) (ht : t < R) : GD R C (s.swap p t) :=
  ⟨⟨swF_ok h.ok.f hp ht, swF_ok h.ok.g hp ht⟩, ⟨swF_nb h.nb.f p t, swF_nb h.nb.g p t⟩⟩
theorem GD.neg {R C i : Nat} {s : HS} (h : GD R C s) (hi : i < R) : GD R C (s.neg i) :=
  ⟨⟨opM_ok h.ok.f i hi, opM_ok h.ok.g i hi⟩, ⟨opM_nb h.nb.f i, opM_nb h.nb.g i⟩⟩
theorem GD.s1 {R C p t : Nat} {s : HS} (h : GD R C s) (hp : p < R) (ht : t < R) : GD R C (hmS1 t p s) := by
  unfold hmS1
  split
  · exact h
  · exact h.swap hp ht
theorem GD.s2 {R C j t : Nat} {s : HS} (h : GD R C s) (ht : t < R) : GD R C (hmS2 j t s) := by
  unfold hmS2
  split
  · exact h.neg ht
  · exact h
theorem hmS1_piv (t p j : Nat) (s : HS) : (hmS1 t p s).f t j = s.f p j := by
  unfold hmS1
  split
  · rename_i h; rw [h]
  · exact swF_t s.f p t j
theorem hmS2_piv {t j : Nat} {s : HS} (h : Num (s.f t j)) (h0 : s.f t j ≠ 0) : (hmS2 j t s).f t j ≠ 0 := by
  unfold hmS2
  split
  · show opM s.f t t j ≠ 0
    rw [opM_at h]; omega
  · exact h0
theorem lst_cases (R : Nat) (f : Fn2) (j t : Nat) (ht : t ≤ R) : (lst R f j t = -1 ∧ ∀ i, t ≤ i → i < R → f i j = 0) ∨ ∃ p, lst R f j t = (p : Nat) ∧ t ≤ p ∧ p < R ∧ f p j ≠ 0 := by
  rcases lstK_cases f j t (R - t) with ⟨h1, h2⟩ | ⟨p, h1, h2, h3, h4, _⟩
  · refine .inl ⟨h1, fun i hi hR => ?_⟩
    have := h2 (i - t) (by omega)
    rwa [show t + (i - t) = i by omega] at this
  · exact .inr ⟨p, h1, h2, by omega, h4⟩
/-- A step of a sweep. -/
theorem sw_add {j p t n : Nat} {s : HS} (h1 : t + n ≠ p) (h2 : s.f (t + n) j ≠ 0) : swS j p t s (n + 1) = (swS j p t s n).add (t + n) p (-(s.f (t + n) j / s.f p j)) := by
  rw [swS_succ, swS_late j n (Nat.le_refl _), swS_p, if_pos ⟨h1, h2⟩]
theorem sw_skip {j p t n : Nat} {s : HS} (h : t + n = p ∨ s.f (t + n) j = 0) : swS j p t s (n + 1) = swS j p t s n := by
  rw [swS_succ, swS_late j n (Nat.le_refl _), if_neg]
  rintro ⟨h1, h2⟩
  rcases h with h | h
  · exact h1 h
  · exact h2 h
theorem sw_no {R C j p t n : Nat} {s : HS} (hn : s.NBS) (hk : n ≤ R - t) (h : ¬ (swS j p t s n).OK R C) : (swS j p t s (R - t)).ok R C = false := by
  refine Bool.eq_false_iff.2 fun hc => h ?_
  have h2 := (HS.ok_iff (swS_nb hn _)).1 hc
  rw [show R - t = n + (R - t - n) by omega] at h2
  exact swS_back' hn n _ h2
theorem sw_yes {R C j p t : Nat} {s : HS} (hn : s.NBS) (h : (swS j p t s (R - t)).OK R C) : (swS j p t s (R - t)).ok R C = true := (HS.ok_iff (swS_nb hn _)).2 h
theorem ab_add {j t n : Nat} {s : HS} (h : n < t) : abS j t s (n + 1) = (abS j t s n).add n t (-(s.f n j / s.f t j)) := by
  rw [abS_succ, abS_late j n (Nat.le_refl _), abS_late j n (by omega)]
theorem ab_no {R C j t p n : Nat} {s : HS} (hg : GD R C (hmS2 j t (hmS1 t p s))) (hk : n ≤ t) (h : ¬ (abS j t (hmS2 j t (hmS1 t p s)) n).OK R C) : hmFin R C j t p s = none := by
  unfold hmFin
  rw [if_neg]
  intro hc
  refine h ?_
  have h2 := (HS.ok_iff (abS_nb hg.nb _)).1 hc
  have h3 : (abS j t (hmS2 j t (hmS1 t p s)) (n + (t - n))).OK R C := by rw [show n + (t - n) = t by omega]; exact h2
  exact abS_back' hg.nb n _ h3
theorem ab_yes {R C j t p : Nat} {s : HS} (hg : GD R C (hmS2 j t (hmS1 t p s))) (h : (abS j t (hmS2 j t (hmS1 t p s)) t).OK R C) : hmFin R C j t p s = some (abS j t (hmS2 j t (hmS1 t p s)) t) := by
  unfold hmFin
  rw [if_pos ((HS.ok_iff (abS_nb hg.nb _)).2 h)]
theorem hmGo_some (R C m j t p : Nat) (s : HS) : hmGo R C m j t (some (s, p)) = (hmFin R C j t p s).bind fun s' => hmOut R C m (j + 1) (t + 1) s' := rfl
theorem hmGo_none (R C m j t : Nat) : hmGo R C m j t none = none := rfl
theorem hmGo_bad {R C m j t p : Nat} {s : HS} (h : hmFin R C j t p s = none) : hmGo R C m j t (some (s, p)) = none := by rw [hmGo_some, h]; rfl
theorem hmGo_next {R C m j t p : Nat} {s s' : HS} (h : hmFin R C j t p s = some s') : hmGo R C m j t (some (s, p)) = hmOut R C m (j + 1) (t + 1) s' := by rw [hmGo_some, h]; rfl
theorem Num.zero : Num 0 := ⟨by omega, by omega⟩
theorem Num.one : Num 1 := ⟨by omega, by omega⟩
theorem idF_num (i j : Nat) : Num (idF i j) := by
  unfold idF
  split
  · exact Num.one
  · exact Num.zero
theorem getD_num {xs : List Int} (h : xs.all isNum = true) (k : Nat) : Num (xs.getD k 0) := by
  rw [List.getD_eq_getElem?_getD]
  rcases hc : xs[k]? with _ | v
  · exact Num.zero
  · exact Num.of (List.all_eq_true.1 h v (List.mem_of_getElem? hc))
theorem start_gd {xs : List Int} {R C : Nat} (h : xs.all isNum = true) : GD R C ⟨fun i j => cel xs C i j, idF⟩ :=
  ⟨⟨fun i j _ _ => getD_num h _, fun i j _ _ => idF_num i j⟩, ⟨fun i j => (getD_num h _).nb, fun i j => (idF_num i j).nb⟩⟩
end Go.Proofs.Ytacjonkehcamgaa

/-
  DERIVED. Sums and products of matrices as functions of row and column: no program in sight.
-/
namespace Go.Proofs.Ytacjonkehcamgaa
set_option linter.unusedVariables false
theorem sumTo_succ (f : Nat → Int) (n : Nat) : sumTo f (n + 1) = sumTo f n + f n := rfl
theorem sumTo_zero' (f : Nat → Int) : sumTo f 0 = 0 := rfl
theorem sumTo_congr {f g : Nat → Int} : ∀ n, (∀ k, k < n → f k = g k) → sumTo f n = sumTo g n
  | 0, _ => rfl
  | n + 1, h => by rw [sumTo_succ, sumTo_succ, sumTo_congr n (fun k hk => h k (by omega)), h n (by omega)]
theorem sumTo_add (f g : Nat → Int) : ∀ n, sumTo (fun k => f k + g k) n = sumTo f n + sumTo g n
  | 0 => rfl
  | n + 1 => by rw [sumTo_succ, sumTo_succ, sumTo_succ, sumTo_add f g n]; omega
theorem sumTo_mul (f : Nat → Int) (t : Int) : ∀ n, sumTo (fun k => f k * t) n = sumTo f n * t
  | 0 => by rw [sumTo_zero', sumTo_zero', Int.zero_mul]
  | n + 1 => by rw [sumTo_succ, sumTo_succ, sumTo_mul f t n, Int.add_mul]
theorem sumTo_mul' (f : Nat → Int) (t : Int) (n : Nat) : sumTo (fun k => t * f k) n = t * sumTo f n := by
  rw [Int.mul_comm, ← sumTo_mul]
  exact sumTo_congr n fun k _ => Int.mul_comm _ _
theorem sumTo_neg (f : Nat → Int) : ∀ n, sumTo (fun k => -f k) n = -sumTo f n
  | 0 => rfl
  | n + 1 => by rw [sumTo_succ, sumTo_succ, sumTo_neg f n]; omega
theorem sumTo_sub (f g : Nat → Int) (n : Nat) : sumTo (fun k => f k - g k) n = sumTo f n - sumTo g n := by
  have h := sumTo_add f (fun k => -g k) n
  rw [sumTo_neg] at h
  rw [Int.sub_eq_add_neg, ← h]
  exact sumTo_congr n fun k _ => Int.sub_eq_add_neg
theorem sumTo_null {f : Nat → Int} (n : Nat) (h : ∀ k, k < n → f k = 0) : sumTo f n = 0 := by
  induction n with
  | zero => rfl
  | succ n ih => rw [sumTo_succ, ih (fun k hk => h k (by omega)), h n (by omega)]; rfl
/-- One summand only. -/
theorem sumTo_one {f : Nat → Int} {i : Nat} : ∀ n, i < n → (∀ k, k < n → k ≠ i → f k = 0) → sumTo f n = f i
  | 0, hi, _ => absurd hi (Nat.not_lt_zero _)
  | n + 1, hi, h => by
    rw [sumTo_succ]
    by_cases e : i = n
    · subst e
      rw [sumTo_null i (fun k hk => h k (by omega) (by omega)), Int.zero_add]
    · rw [sumTo_one n (by omega) (fun k hk hne => h k (by omega) hne), h n (by omega) (fun e2 => e e2.symm), Int.add_zero]
theorem sumTo_swap (f : Nat → Nat → Int) (m : Nat) : ∀ n, sumTo (fun i => sumTo (fun j => f i j) m) n = sumTo (fun j => sumTo (fun i => f i j) n) m
  | 0 => by
    rw [sumTo_zero']
    exact (sumTo_null m fun k _ => rfl).symm
  | n + 1 => by
    rw [sumTo_succ, sumTo_swap f m n, ← sumTo_add]
    rfl
/-- The product over n places. -/
def mm (n : Nat) (f g : Fn2) : Fn2 := fun i j => sumTo (fun k => f i k * g k j) n
/-- A matrix times a column. -/
def mv (n : Nat) (f : Fn2) (z : Nat → Int) : Nat → Int := fun i => sumTo (fun k => f i k * z k) n
theorem mm_assoc (n m : Nat) (f g h : Fn2) (i j : Nat) : mm n (mm m f g) h i j = mm m f (mm n g h) i j := by
  unfold mm
  have e1 : ∀ k, sumTo (fun l => f i l * g l k) m * h k j = sumTo (fun l => f i l * g l k * h k j) m := fun k => (sumTo_mul _ _ _).symm
  have e2 : ∀ l, f i l * sumTo (fun k => g l k * h k j) n = sumTo (fun k => f i l * g l k * h k j) n := fun l => by
    rw [← sumTo_mul']
    exact sumTo_congr n fun k _ => by rw [Int.mul_assoc]
  rw [sumTo_congr n (fun k _ => e1 k), sumTo_congr m (fun l _ => e2 l), sumTo_swap]
theorem mv_mm (n m : Nat) (f g : Fn2) (z : Nat → Int) (i : Nat) : mv n (mm m f g) z i = mv m f (mv n g z) i := mm_assoc n m f g (fun k _ => z k) i 0
theorem mv_congr {n : Nat} {f g : Fn2} {y z : Nat → Int} {i : Nat} (h : ∀ k, k < n → f i k = g i k) (h2 : ∀ k, k < n → y k = z k) : mv n f y i = mv n g z i :=
  sumTo_congr n fun k hk => by rw [h k hk, h2 k hk]
theorem mv_sub (n : Nat) (f : Fn2) (y z : Nat → Int) (i : Nat) : mv n f (fun k => y k - z k) i = mv n f y i - mv n f z i := by
  unfold mv
  rw [← sumTo_sub]
  exact sumTo_congr n fun k _ => by rw [Int.mul_sub]
/-- Equal in R rows of C cells. -/
def EqM (R C : Nat) (f g : Fn2) : Prop := ∀ i j, i < R → j < C → f i j = g i j
/-- No column but that of zeros is taken to zeros. -/
def INJ (R : Nat) (g : Fn2) : Prop := ∀ z : Nat → Int, (∀ i, i < R → mv R g z i = 0) → ∀ k, k < R → z k = 0
theorem INJ.eq {R : Nat} {g : Fn2} (h : INJ R g) {y z : Nat → Int} (e : ∀ i, i < R → mv R g y i = mv R g z i) : ∀ k, k < R → y k = z k := fun k hk => by
  have := h (fun k => y k - z k) (fun i hi => by rw [mv_sub, e i hi, Int.sub_self]) k hk
  omega
theorem mv_id {R : Nat} (z : Nat → Int) {i : Nat} (hi : i < R) : mv R idF z i = z i := by
  unfold mv
  rw [sumTo_one R hi]
  · unfold idF; rw [if_pos rfl, Int.one_mul]
  · intro k hk hne
    unfold idF
    rw [if_neg (fun e => hne e.symm), Int.zero_mul]
theorem INJ.id (R : Nat) : INJ R idF := fun z h k hk => by rw [← mv_id z hk]; exact h k hk
-- operations on rows
theorem mv_add {R i j : Nat} {t : Int} {g g' : Fn2} (h1 : ∀ y, y < R → g' i y = g i y + g j y * t) (z : Nat → Int) : mv R g' z i = mv R g z i + mv R g z j * t := by
  unfold mv
  rw [← sumTo_mul, ← sumTo_add]
  exact sumTo_congr R fun k hk => by rw [h1 k hk]; grind
theorem INJ.add {R i j : Nat} {t : Int} {g g' : Fn2} (h : INJ R g) (hi : i < R) (hj : j < R) (hij : i ≠ j) (h1 : ∀ y, y < R → g' i y = g i y + g j y * t) (h2 : ∀ x y, x < R → y < R → x ≠ i → g' x y = g x y) : INJ R g' := fun z hz => by
  have e : ∀ x, x < R → x ≠ i → mv R g z x = 0 := fun x hx hne => by
    rw [← hz x hx]
    exact mv_congr (fun k hk => (h2 x k hx hk hne).symm) (fun _ _ => rfl)
  refine h z fun x hx => ?_
  by_cases hxi : x = i
  · subst hxi
    have := mv_add h1 z
    rw [hz x hx, e j hj (fun e => hij e.symm), Int.zero_mul, Int.add_zero] at this
    exact this.symm
  · exact e x hx hxi
theorem INJ.swap {R p t : Nat} {g : Fn2} (h : INJ R g) (hp : p < R) (ht : t < R) : INJ R (swF g p t) := fun z hz => by
  refine h z fun x hx => ?_
  by_cases h1 : x = p
  · subst h1
    rw [← hz t ht]
    exact sumTo_congr R fun k hk => by rw [swF_t]
  · by_cases h2 : x = t
    · subst h2
      rw [← hz p hp]
      refine sumTo_congr R fun k hk => ?_
      have e : swF g p x p k = g x k := by unfold swF; rw [if_pos rfl]
      rw [e]
    · rw [← hz x hx]
      refine mv_congr (fun k hk => ?_) (fun _ _ => rfl)
      unfold swF
      rw [if_neg h1, if_neg h2]
theorem INJ.neg {R i : Nat} {g g' : Fn2} (h : INJ R g) (h1 : ∀ y, y < R → g' i y = -g i y) (h2 : ∀ x y, x < R → y < R → x ≠ i → g' x y = g x y) : INJ R g' := fun z hz => by
  refine h z fun x hx => ?_
  by_cases hxi : x = i
  · subst hxi
    have e : mv R g' z x = -mv R g z x := by
      unfold mv
      rw [← sumTo_neg]
      exact sumTo_congr R fun k hk => by rw [h1 k hk, Int.neg_mul]
    rw [hz x hx] at e
    omega
  · rw [← hz x hx]
    exact mv_congr (fun k hk => (h2 x k hx hk hxi).symm) (fun _ _ => rfl)
end Go.Proofs.Ytacjonkehcamgaa

/-
  DERIVED. The reduced echelon form with primitive rows: no program in sight.
-/
namespace Go.Proofs.Ytacjonkehcamgaa
set_option linter.unusedVariables false
/-- Row i, as a list. -/
def rw_ (C : Nat) (f : Nat → Nat → Int) (i : Nat) : List Int := tab C (f i)
theorem rw_len (C : Nat) (f : Nat → Nat → Int) (i : Nat) : (rw_ C f i).length = C := tab_len _ _
theorem rw_at {C : Nat} {f : Nat → Nat → Int} {i c : Nat} (h : c < C) : (rw_ C f i).getD c 0 = f i c := tab_getD h
theorem win_tb {R C i : Nat} {f : Nat → Nat → Int} (hi : i < R) : winL (tb R C f) (i * C) C = rw_ C f i := by
  have hl : i * C + C ≤ (tb R C f).length := by
    rw [tb_len]; have h3 := Nat.mul_le_mul_right C (show i + 1 ≤ R by omega); rw [Nat.add_mul, Nat.one_mul] at h3; exact h3
  apply List.ext_getElem?
  intro c
  by_cases hc : c < C
  · have h1 : (winL (tb R C f) (i * C) C).getD c 0 = f i c := by rw [winL_getD hc, tb_at hi hc]
    have h2 := rw_at (f := f) (i := i) hc
    have l1 := winL_len hl
    have l2 := rw_len C f i
    rw [List.getElem?_eq_getElem (by omega), List.getElem?_eq_getElem (by omega)]
    simp [List.getD, show c < (winL (tb R C f) (i * C) C).length by omega] at h1
    simp [List.getD, show c < (rw_ C f i).length by omega] at h2
    rw [h1, h2]
  · rw [List.getElem?_eq_none (by rw [winL_len hl]; omega), List.getElem?_eq_none (by rw [rw_len]; omega)]
/-- Row i anew. -/
def setR (f : Nat → Nat → Int) (i : Nat) (ys : List Int) : Nat → Nat → Int := fun a c => if a = i then ys.getD c 0 else f a c
theorem spl_tb {R C i : Nat} {f : Nat → Nat → Int} {ys : List Int} (hi : i < R) (hy : ys.length = C) : splL (tb R C f) (i * C) ys = tb R C (setR f i ys) := by
  have hl : i * C + C ≤ R * C := by
    have h3 := Nat.mul_le_mul_right C (show i + 1 ≤ R by omega); rw [Nat.add_mul, Nat.one_mul] at h3; exact h3
  have hlen : (splL (tb R C f) (i * C) ys).length = R * C := by rw [splL_len (by rw [tb_len, hy]; exact hl), tb_len]
  rw [tb_of hlen]
  apply tb_ext
  intro a c ha hc
  rw [cel_nat]
  unfold setR
  by_cases hai : a = i
  · subst hai
    rw [if_pos rfl, splL_getD (by rw [tb_len, hy]; exact hl) (by omega)]
  · rw [if_neg hai]
    have hq := idx_nat ha hc
    rw [← tb_at (f := f) ha hc]
    have htl : ((tb R C f).take (i * C)).length = i * C := by rw [List.length_take, tb_len]; omega
    unfold splL
    simp only [List.getD]
    congr 1
    rcases Nat.lt_or_gt_of_ne hai with h | h
    · have h1 : a * C + c < i * C := by
        have h3 := Nat.mul_le_mul_right C (show a + 1 ≤ i by omega); rw [Nat.add_mul, Nat.one_mul] at h3; omega
      rw [List.append_assoc, List.getElem?_append_left (by rw [htl]; exact h1), List.getElem?_take_of_lt h1]
    · have h1 : i * C + C ≤ a * C + c := by
        have h3 := Nat.mul_le_mul_right C (show i + 1 ≤ a by omega); rw [Nat.add_mul, Nat.one_mul] at h3; omega
      rw [List.getElem?_append_right (by rw [List.length_append, htl, hy]; exact h1), List.getElem?_drop, List.length_append, htl, hy]
      congr 1
      omega
/-- The primitive row i. -/
def prF (C : Nat) (f : Nat → Nat → Int) (i : Nat) : Nat → Nat → Int := setR f i (primL (rw_ C f i))
def prK (C : Nat) (f : Nat → Nat → Int) (m : Nat) : Nat → Nat → Int := fun i c => if i < m then (primL (rw_ C f i)).getD c 0 else f i c
theorem prK_zero (C : Nat) (f : Nat → Nat → Int) : prK C f 0 = f := by funext i c; simp [prK]
theorem rw_ext {C : Nat} {f g : Nat → Nat → Int} {i k : Nat} (h : ∀ c, c < C → f i c = g k c) : rw_ C f i = rw_ C g k := by
  unfold rw_ tab
  apply List.map_congr_left
  intro c hc
  exact h c (List.mem_range.1 hc)
theorem prK_step (C : Nat) (f : Nat → Nat → Int) (m : Nat) : prF C (prK C f m) m = prK C f (m + 1) := by
  have e : rw_ C (prK C f m) m = rw_ C f m := rw_ext fun c hc => by simp [prK]
  funext i c
  unfold prF setR
  rw [e]
  unfold prK
  by_cases h : i = m
  · subst h; simp
  · rw [if_neg h]
    by_cases h2 : i < m
    · rw [if_pos h2, if_pos (by omega)]
    · rw [if_neg h2, if_neg (by omega)]
theorem rw_prK {C : Nat} {f : Nat → Nat → Int} {m i : Nat} (h : i < m) : rw_ C (prK C f m) i = primL (rw_ C f i) := by
  apply List.ext_getElem?
  intro c
  by_cases hc : c < C
  · have h1 := rw_at (f := prK C f m) (i := i) hc
    have h2 : prK C f m i c = (primL (rw_ C f i)).getD c 0 := by simp [prK, h]
    rw [h2] at h1
    have l1 := rw_len C (prK C f m) i
    have l2 := primL_len (rw_ C f i)
    rw [rw_len] at l2
    rw [List.getElem?_eq_getElem (by omega), List.getElem?_eq_getElem (by omega)]
    simp [List.getD, show c < (rw_ C (prK C f m) i).length by omega, show c < (primL (rw_ C f i)).length by omega] at h1
    rw [h1]
  · rw [List.getElem?_eq_none (by rw [rw_len]; omega), List.getElem?_eq_none (by rw [primL_len, rw_len]; omega)]
theorem rw_setR {C : Nat} {f : Nat → Nat → Int} {i : Nat} {ys : List Int} (hy : ys.length = C) : rw_ C (setR f i ys) i = ys := by
  apply List.ext_getElem?
  intro c
  by_cases hc : c < C
  · have h1 := rw_at (f := setR f i ys) (i := i) hc
    have h2 : setR f i ys i c = ys.getD c 0 := by simp [setR]
    rw [h2] at h1
    have l1 := rw_len C (setR f i ys) i
    rw [List.getElem?_eq_getElem (by omega), List.getElem?_eq_getElem (by omega)]
    simp [List.getD, show c < (rw_ C (setR f i ys) i).length by omega, show c < ys.length by omega] at h1
    rw [h1]
  · rw [List.getElem?_eq_none (by rw [rw_len]; omega), List.getElem?_eq_none (by omega)]
theorem rw_setR_ne {C : Nat} {f : Nat → Nat → Int} {i k : Nat} {ys : List Int} (h : k ≠ i) : rw_ C (setR f i ys) k = rw_ C f k := rw_ext fun c hc => by simp [setR, h]
theorem primL_idem (l : List Int) : primL (primL l) = primL l := by
  by_cases h0 : gcdL l = 0
  · have e : primL l = l := (primL_eq_iff l).2 (.inl h0)
    rw [e, e]
  · rw [primL_eq_iff]
    right
    have hlt := fcN_lt_iff.2 h0
    have hd0 : divL l ≠ 0 := by intro e; have := divL_abs l; rw [e] at this; simp at this; omega
    have hab := divL_abs l
    have hmem : ∀ x ∈ l, ∃ q, x = divL l * q ∧ x.tdiv (divL l) = q := fun x hx => by
      obtain ⟨q, hq⟩ := divL_dvd hx
      exact ⟨q, hq, by rw [hq]; exact Int.mul_tdiv_cancel_left q hd0⟩
    have hfc : fcN (primL l) = fcN l := by
      refine fcN_eq (by rw [primL_len]; omega) (fun j hj => ?_) (fun _ => ?_)
      · rw [primL_getD (by omega) h0, fcN_zero l j hj]; simp
      · rw [primL_getD hlt h0]
        obtain ⟨q, hq, hq2⟩ := hmem _ (mem_getD hlt)
        rw [hq2]
        intro e
        rw [e, Int.mul_zero] at hq
        exact fcN_ne l hlt hq
    obtain ⟨q0, hq0, hq02⟩ := hmem _ (mem_getD hlt)
    have hpos : 0 < q0 := by
      have hne := fcN_ne l hlt
      have hg : (0 : Int) < gcdL l := by omega
      by_cases hneg : l.getD (fcN l) 0 < 0
      · have e : divL l = -(gcdL l : Int) := by unfold divL; rw [if_pos hneg]
        rw [e] at hq0
        apply Classical.byContradiction
        intro h
        have h1 : 0 ≤ (gcdL l : Int) * -q0 := Int.mul_nonneg (by omega) (by omega)
        rw [Int.mul_neg] at h1
        rw [Int.neg_mul] at hq0
        omega
      · have e : divL l = (gcdL l : Int) := by unfold divL; rw [if_neg hneg]
        rw [e] at hq0
        apply Classical.byContradiction
        intro h
        have h1 : 0 ≤ (gcdL l : Int) * -q0 := Int.mul_nonneg (by omega) (by omega)
        rw [Int.mul_neg] at h1
        omega
    refine ⟨?_, ?_⟩
    · have hdv : gcdL (primL l) * gcdL l ∣ gcdL l := dvd_gcdL fun x hx => by
        obtain ⟨q, hq, hq2⟩ := hmem x hx
        have hxm : x.tdiv (divL l) ∈ primL l := by unfold primL; rw [if_neg h0]; exact List.mem_map.2 ⟨x, hx, rfl⟩
        have h1 := gcdL_dvd hxm
        rw [hq2] at h1
        rw [hq, Int.natCast_mul, Int.mul_comm]
        refine Int.mul_dvd_mul ?_ h1
        rw [← hab]
        exact Int.natAbs_dvd.2 (Int.dvd_refl _)
      have hle := Nat.le_of_dvd (by omega) hdv
      have hne : gcdL (primL l) ≠ 0 := by
        rw [← fcN_lt_iff, hfc, primL_len]; exact hlt
      have h2 : gcdL (primL l) * gcdL l ≤ 1 * gcdL l := by omega
      have h3 := Nat.le_of_mul_le_mul_right h2 (by omega)
      omega
    · rw [hfc, primL_getD hlt h0, hq02]; omega
theorem primL_bd {l : List Int} {M : Nat} (h : ∀ k, (l.getD k 0).natAbs ≤ M) (k : Nat) : ((primL l).getD k 0).natAbs ≤ M := by
  by_cases h0 : gcdL l = 0
  · rw [(primL_eq_iff l).2 (.inl h0)]; exact h k
  · by_cases hk : k < l.length
    · rw [primL_getD hk h0, Int.natAbs_tdiv]
      exact Nat.le_trans (Nat.div_le_self _ _) (h k)
    · simp [List.getD, List.getElem?_eq_none (show (primL l).length ≤ k by rw [primL_len]; omega)]
end Go.Proofs.Ytacjonkehcamgaa

/-
  DERIVED. The exchange of two rows in place, both; a row as a window.
-/
namespace Go.Proofs.Ytacjonkehcamgaa
open Go.RowKit
set_option linter.unusedVariables false
set_option linter.unusedSimpArgs false
/-- The call returned r, having written just the block of an own slice, which now holds ys. -/
def WW (r : Value) (sv : Value) (B : Nat) (ys : List Int) (w : World) (e : Ending) (w' : World) : Prop :=
  e = .returned r ∧ OR w' B sv ys ∧ w.grownBy w' sv.ownBlock ∧ w.heap.size ≤ w'.heap.size
theorem WW.mk {r r' : Value} {sv : Value} {B : Nat} {ys : List Int} {w w' : World} (e : r' = r) (h : OR w' B sv ys) (hg : w.grownBy w' sv.ownBlock) (hs : w.heap.size ≤ w'.heap.size) : WW r sv B ys w (.returned r') w' := by
  subst e; exact ⟨rfl, h, hg, hs⟩
theorem Blk.new_at (w : World) (t : TypeId) (cs : Array Value) (b : Nat) (hb : b = w.heap.size) : Blk (w.alloc (.cells cs t)) b t cs := by
  subst hb; exact Blk.new w t cs
theorem grown_far {a w : World} {row : Option Nat} {p : Addr} (h : a.grownBy w row) (hp : a.heap.size ≤ p.block) (u : Value) : a.grownBy (w.setCell p u) row :=
  ⟨h.os, h.tape, h.output, by simpa [World.setCell] using h.size, fun i hi hne => (Below.heap_setCell w _ u i (by omega)).trans (h.block i hi hne)⟩
theorem impl_row_own (r : Int) (C i g : Nat) (n cap : Nat) (w : World) (hg : g < w.heap.size) (hnc : n ≤ cap) (hcap : cap ≤ 9223372036854775807) (hC0 : 0 < C) (hC : C ≤ 1000) (hi : i ≤ 1000) (hk : i * C + C ≤ n) :
    Calls Try.prog 105 #[.agg #[.int .i64 r, .int .i64 C, .slice (some ⟨g, 0, none⟩) n cap], .int .i64 i] w (BV (.slice (some ⟨g, i * C, none⟩) C (cap - i * C)) w) := by
  have e1 : (i : Int) * (C : Int) = ((i * C : Nat) : Int) := by rw [Int.natCast_mul]
  have e2 : ((i : Int) + 1) * (C : Int) = ((i * C + C : Nat) : Int) := by rw [Int.add_mul, e1, Int.one_mul, ← Int.natCast_add]
  have hm : i * C ≤ 1000 * 1000 := Nat.mul_le_mul hi hC
  have b1 : 0 ≤ (i : Int) * (C : Int) := by omega
  have b2 : (i : Int) * (C : Int) ≤ 1000000 := by omega
  have b3 : 0 ≤ ((i : Int) + 1) * (C : Int) := by omega
  have b4 : ((i : Int) + 1) * (C : Int) ≤ 1001000 := by omega
  have b5 : (i : Int) * (C : Int) ≤ ((i : Int) + 1) * (C : Int) := by omega
  have b6 : ((i : Int) + 1) * (C : Int) ≤ cap := by omega
  have E1 := Lib.hid e1
  have E2 := Lib.hid e2
  clear e1 e2
  go_enter Try.func105, Try.ntmps105
  go_wp2_with fail
  go_ret
  refine BV.mk ?_ Kw
  show Value.slice (some ⟨g, i * C, none⟩) ((i + 1) * C - i * C) (cap - i * C) = _
  rw [sub_mul_row]
set_option maxRecDepth 100000 in
set_option maxHeartbeats 4000000 in
theorem impl_rowOp_swap (R C p t : Nat) (ti : Int) (A : Option Addr) (n cap : Nat) (f : Nat → Nat → Int) (w : World) {B : Nat} (h : OR w B (.slice A n cap) (tb R C f)) (hp : p < R) (ht : t < R) (hpt : p ≠ t) (hC0 : 0 < C) (hC : C ≤ 48) (hR : R ≤ 24) :
    Calls Try.prog 165 #[.agg #[.int .i64 R, .int .i64 C, .slice A n cap], .agg #[.int .i64 0, .int .i64 p, .int .i64 t, .int .i64 ti]] w (WW (.bool true) (.slice A n cap) B (tb R C (swF f p t)) w) := by
  have hn := h.lenEq
  rw [tb_len] at hn
  have hcaps := h.caps
  have hP := idx_nat hp (show C - 1 < C by omega)
  have hT := idx_nat ht (show C - 1 < C by omega)
  obtain ⟨g, rfl, hg1, hg2⟩ := h.begins (by rw [tb_len]; omega)
  have hP2 : p * C + C ≤ n := by omega
  have hT2 : t * C + C ≤ n := by omega
  have hne : ∀ k, k < C → p * C + k ≠ t * C + k := fun k hk e => hpt (by
    have : p * C = t * C := by omega
    exact Nat.eq_of_mul_eq_mul_right hC0 this)
  have HN := Lib.hid hn
  have HPT := Lib.hid hpt
  have HNE := Lib.hid hne
  clear hn hpt hne hP hT
  go_enter Try.func165, Try.ntmps165
  go_wp2_with fail
  refine (impl_row_own R C p g n cap _ Ks (by omega) (by omega) hC0 (by omega) (by omega) hP2).mono ?_
  rintro e w1 ⟨rfl, hb1⟩
  have hsz1 := hb1.size
  simp at hsz1
  have hO1 : Blk w1 (w.heap.size + 1) 66 #[.int .i64 0, .int .i64 p, .int .i64 t, .int .i64 ti] := by (with_reducible (repeat (first | assumption | refine Blk.new_at _ _ _ _ Ks | refine Blk.below ?_ (by assumption) Ks | apply Blk.drew | apply Blk.drewN | refine Blk.far ?_ (by simp only [ne_eq]; omega) _ | apply Blk.alloc)))
  have hM1 : BM w1 w.heap.size R C (some ⟨g, 0, none⟩) n cap := Ka
  have hown1 : OR w1 B (.slice (some ⟨g, 0, none⟩) n cap) (tb R C f) := Ko h
  have hgr1 : w.grownBy w1 (some g) := by (with_reducible (repeat (first | assumption | exact World.grownBy.refl _ _ | refine only_alloc ?_ _ | refine only_drewN ?_ _ | refine only_drew ?_ | refine only_set ?_ _ _ | refine grown_far ?_ Ks _ | refine only_trans ?_ (only_of_below (by assumption) _) | refine only_trans ?_ (by assumption))))
  obtain ⟨oa, ob, oc, of, ol⟩ := hM1.mx
  have x0 := hO1.cell 0
  have x1 := hO1.cell 1
  have x2 := hO1.cell 2
  have x3 := hO1.cell 3
  simp at x0 x1 x2 x3
  clear hb1
  go_wp2_with fail
  refine (impl_row_own R C t g n cap _ Ks (by omega) (by omega) hC0 (by omega) (by omega) hT2).mono ?_
  rintro e w2 ⟨rfl, hb2⟩
  have hsz2 := hb2.size
  have hO2 : Blk w2 (w.heap.size + 1) 66 #[.int .i64 0, .int .i64 p, .int .i64 t, .int .i64 ti] := by (with_reducible (repeat (first | exact hO1 | refine Blk.new_at _ _ _ _ Ks | refine Blk.below ?_ (by assumption) Ks | apply Blk.drew | apply Blk.drewN | refine Blk.far ?_ (by simp only [ne_eq]; omega) _ | apply Blk.alloc)))
  have hown2 : OR w2 B (.slice (some ⟨g, 0, none⟩) n cap) (tb R C f) := Ko hown1
  have hgr2 : w.grownBy w2 (some g) := by (with_reducible (repeat (first | assumption | exact World.grownBy.refl _ _ | refine only_alloc ?_ _ | refine only_drewN ?_ _ | refine only_drew ?_ | refine only_set ?_ _ _ | refine grown_far ?_ Ks _ | refine only_trans ?_ (only_of_below (by assumption) _) | refine only_trans ?_ (by assumption))))
  clear hb2 hown1 hgr1 hO1 hM1 x0 x1 x2 x3 oa ob oc of ol
  go_wp2_with fail
  go_loopw [7, 19] (fun _ u wr => ∃ k : Nat, u = .int .i64 k ∧ k ≤ C ∧ OR wr B (.slice (some ⟨g, 0, none⟩) n cap) (tb R C (swK f p t k)) ∧ Blk wr (w.heap.size + 1) 66 #[.int .i64 0, .int .i64 p, .int .i64 t, .int .i64 ti] ∧ w.grownBy wr (some g) ∧ w.heap.size ≤ wr.heap.size) (fun _ v _ => C - (intOf v).toNat)
  case atStart => exact ⟨0, rfl, Nat.zero_le _, by rw [swK_zero]; exact hown2, hO2, hgr2, by omega⟩
  case round =>
    clear hown2 hO2 hgr2 h
    obtain ⟨k, rfl, hk, hown, hO, hgr, hsz⟩ := hrel
    have x0 := hO.cell 0
    have x1 := hO.cell 1
    have x2 := hO.cell 2
    have x3 := hO.cell 3
    have hl := hO.lt
    simp at x0 x1 x2 x3
    by_cases hkC : k < C
    · have c1 := hown.cell (p * C + k) (by rw [tb_len]; exact idx_nat hp hkC)
      have c2 := hown.cell (t * C + k) (by rw [tb_len]; exact idx_nat ht hkC)
      rw [tb_at hp hkC] at c1
      rw [tb_at ht hkC] at c2
      have e1 : swK f p t k p k = f p k := by simp [swK]
      have e2 : swK f p t k t k = f t k := by simp [swK]
      rw [e1] at c1
      rw [e2] at c2
      clear e1 e2
      have f1 := hown.frozen (p * C + k)
      have f2 := hown.frozen (t * C + k)
      have hs1 := (hown.set_ (p * C + k) (f t k)).set_ (t * C + k) (f p k)
      rw [tb_set hp hkC, tb_set ht hkC, swK_step HPT.out] at hs1
      have hne1 := HNE.out k hkC
      have hne2 : ¬ g = w.heap.size + 1 := by omega
      generalize f t k = y at *
      generalize f p k = x at *
      go_wp2
      go_region
      all_goals go_wp2
      go_roundw
      case rel => exact ⟨k + 1, by go_num, by omega, OR.drew hs1, by (with_reducible (repeat (first | exact hO | refine Blk.new_at _ _ _ _ Ks | refine Blk.below ?_ (by assumption) Ks | apply Blk.drew | apply Blk.drewN | refine Blk.far ?_ (by simp only [ne_eq]; omega) _ | apply Blk.alloc))), by (with_reducible (repeat (first | assumption | exact World.grownBy.refl _ _ | refine only_alloc ?_ _ | refine only_drewN ?_ _ | refine only_drew ?_ | refine only_set ?_ _ _ | refine grown_far ?_ Ks _ | refine only_trans ?_ (only_of_below (by assumption) _) | refine only_trans ?_ (by assumption)))), by simpa [World.setCell] using hsz⟩
      case measure => simp only [intOf]; omega
    · have hfin := hown.as (show _ = tb R C (swF f p t) by rw [show k = C by omega]; exact swK_end f p t)
      clear hown
      go_wp2
      go_ret
      exact WW.mk rfl hfin hgr hsz
set_option maxRecDepth 100000 in
set_option maxHeartbeats 4000000 in
theorem spec_l5Do_swap (R C p t : Nat) (ti : Int) (A : Option Addr) (n cap : Nat) (f : Nat → Nat → Int) (w : World) {B : Nat} (h : OR w B (.slice A n cap) (tb R C f)) (hp : p < R) (ht : t < R) (hpt : p ≠ t) (hC0 : 0 < C) (hC : C ≤ 48) (hR : R ≤ 24) :
    Calls Try.prog 203 #[.agg #[.int .i64 R, .int .i64 C, .slice A n cap], .agg #[.int .i64 0, .int .i64 p, .int .i64 t, .int .i64 ti]] w (WW (.tuple #[]) (.slice A n cap) B (tb R C (swF f p t)) w) := by
  have hn := h.lenEq
  rw [tb_len] at hn
  have hcaps := h.caps
  have hP := idx_nat hp (show C - 1 < C by omega)
  have hT := idx_nat ht (show C - 1 < C by omega)
  obtain ⟨g, rfl, hg1, hg2⟩ := h.begins (by rw [tb_len]; omega)
  have hP2 : p * C + C ≤ n := by omega
  have hT2 : t * C + C ≤ n := by omega
  have hne : ∀ k, k < C → p * C + k ≠ t * C + k := fun k hk e => hpt (by
    have : p * C = t * C := by omega
    exact Nat.eq_of_mul_eq_mul_right hC0 this)
  have HN := Lib.hid hn
  have HPT := Lib.hid hpt
  have HNE := Lib.hid hne
  have hm : R * C ≤ 24 * 48 := Nat.mul_le_mul hR hC
  have p1 : (p : Int) * (C : Int) = ((p * C : Nat) : Int) := by rw [Int.natCast_mul]
  have t1 : (t : Int) * (C : Int) = ((t * C : Nat) : Int) := by rw [Int.natCast_mul]
  have P1 := Lib.hid p1
  have T1 := Lib.hid t1
  have b1 : 0 ≤ (p : Int) * (C : Int) ∧ (p : Int) * (C : Int) + C ≤ n ∧ (p : Int) * (C : Int) ≤ 10000 := by omega
  have b2 : 0 ≤ (t : Int) * (C : Int) ∧ (t : Int) * (C : Int) + C ≤ n ∧ (t : Int) * (C : Int) ≤ 10000 := by omega
  obtain ⟨b1a, b1b, b1c⟩ := b1
  obtain ⟨b2a, b2b, b2c⟩ := b2
  clear hn hpt hne hP hT p1 t1
  go_enter Try.func203, Try.ntmps203
  go_wp2_with fail
  go_loopw [4] (fun u wr => ∃ k : Nat, u = .int .i64 k ∧ k ≤ C ∧ OR wr B (.slice (some ⟨g, 0, none⟩) n cap) (tb R C (swK f p t k)) ∧ BM wr w.heap.size R C (some ⟨g, 0, none⟩) n cap ∧ Blk wr (w.heap.size + 1) 66 #[.int .i64 0, .int .i64 p, .int .i64 t, .int .i64 ti] ∧ w.grownBy wr (some g) ∧ w.heap.size ≤ wr.heap.size) (fun v _ => C - (intOf v).toNat)
  case atStart => exact ⟨0, rfl, Nat.zero_le _, by rw [swK_zero]; (with_reducible (repeat (first | exact h | refine OR.drew ?_ | refine OR.drewN ?_ _ | refine OR.alloc ?_ _ | refine OR.b_ ?_ | refine OR.l_ ?_))), Ka, by (with_reducible (repeat (first | assumption | refine Blk.new_at _ _ _ _ Ks | refine Blk.below ?_ (by assumption) Ks | apply Blk.drew | apply Blk.drewN | refine Blk.far ?_ (by simp only [ne_eq]; omega) _ | apply Blk.alloc))), by (with_reducible (repeat (first | assumption | exact World.grownBy.refl _ _ | refine only_alloc ?_ _ | refine only_drewN ?_ _ | refine only_drew ?_ | refine only_set ?_ _ _ | refine grown_far ?_ Ks _ | refine only_trans ?_ (only_of_below (by assumption) _) | refine only_trans ?_ (by assumption)))), by simp; omega⟩
  case round =>
    clear h
    obtain ⟨k, rfl, hk, hown, hM, hO, hgr, hsz⟩ := hrel
    obtain ⟨oa, ob, oc, of, ol⟩ := hM.mx
    have x0 := hO.cell 0
    have x1 := hO.cell 1
    have x2 := hO.cell 2
    have x3 := hO.cell 3
    have hl := hO.lt
    simp at x0 x1 x2 x3
    by_cases hkC : k < C
    · have c1 := hown.cell (p * C + k) (by rw [tb_len]; exact idx_nat hp hkC)
      have c2 := hown.cell (t * C + k) (by rw [tb_len]; exact idx_nat ht hkC)
      rw [tb_at hp hkC] at c1
      rw [tb_at ht hkC] at c2
      have e1 : swK f p t k p k = f p k := by simp [swK]
      have e2 : swK f p t k t k = f t k := by simp [swK]
      rw [e1] at c1
      rw [e2] at c2
      clear e1 e2
      have f1 := hown.frozen (p * C + k)
      have f2 := hown.frozen (t * C + k)
      have hs1 := (hown.set_ (p * C + k) (f t k)).set_ (t * C + k) (f p k)
      rw [tb_set hp hkC, tb_set ht hkC, swK_step HPT.out] at hs1
      have hne1 := HNE.out k hkC
      have hne2 : ¬ g = w.heap.size + 1 := by omega
      generalize f t k = y at *
      generalize f p k = x at *
      go_wp2
      go_roundw
      case rel => exact ⟨k + 1, by go_num, by omega, hs1, Kb hM, by (with_reducible (repeat (first | exact hO | refine Blk.new_at _ _ _ _ Ks | refine Blk.below ?_ (by assumption) Ks | apply Blk.drew | apply Blk.drewN | refine Blk.far ?_ (by simp only [ne_eq]; omega) _ | apply Blk.alloc))), by (with_reducible (repeat (first | assumption | exact World.grownBy.refl _ _ | refine only_alloc ?_ _ | refine only_drewN ?_ _ | refine only_drew ?_ | refine only_set ?_ _ _ | refine grown_far ?_ Ks _ | refine only_trans ?_ (only_of_below (by assumption) _) | refine only_trans ?_ (by assumption)))), by simpa [World.setCell] using hsz⟩
      case measure => simp only [intOf]; omega
    · have hfin := hown.as (show _ = tb R C (swF f p t) by rw [show k = C by omega]; exact swK_end f p t)
      clear hown
      go_wp2
      go_end0
      exact WW.mk rfl hfin hgr hsz
end Go.Proofs.Ytacjonkehcamgaa

/-
  DERIVED. Determinants by expansion along the first row: linear in rows and columns, zero where two rows or two columns are equal. No program in sight.
-/
namespace Go.Proofs.Ytacjonkehcamgaa
set_option linter.unusedVariables false
def sg (j : Nat) : Int := if j % 2 = 1 then -1 else 1
theorem sg_succ (j : Nat) : sg (j + 1) = -sg j := by
  unfold sg
  rcases Nat.mod_two_eq_zero_or_one j with h | h
  · rw [if_pos (by omega), if_neg (by omega)]
  · rw [if_neg (by omega), if_pos (by omega)]; rfl
/-- The column behind the one that is left out. -/
def sk (j b : Nat) : Nat := if b < j then b else b + 1
/-- Without the first row and column j. -/
def mnr (f : Fn2) (j : Nat) : Fn2 := fun a b => f (a + 1) (sk j b)
def Dt : Nat → Fn2 → Int
  | 0, _ => 1
  | n + 1, f => sumTo (fun j => sg j * f 0 j * Dt n (mnr f j)) (n + 1)
theorem Dt_succ (n : Nat) (f : Fn2) : Dt (n + 1) f = sumTo (fun j => sg j * f 0 j * Dt n (mnr f j)) (n + 1) := rfl
theorem sk_lt {j b n : Nat} (h : b < n) : sk j b < n + 1 := by unfold sk; split <;> omega
theorem sk_ne (j b : Nat) : sk j b ≠ j := by unfold sk; split <;> omega
theorem Dt_congr : ∀ (n : Nat) {f g : Fn2}, EqM n n f g → Dt n f = Dt n g
  | 0, _, _, _ => rfl
  | n + 1, f, g, h => by
    rw [Dt_succ, Dt_succ]
    refine sumTo_congr (n + 1) fun j hj => ?_
    have ih : Dt n (mnr f j) = Dt n (mnr g j) := Dt_congr n fun a b ha hb => h (a + 1) (sk j b) (by omega) (sk_lt hb)
    rw [h 0 j (by omega) hj, ih]
/-- Linear in row i. -/
theorem Dt_row : ∀ (n i : Nat) (t : Int) {f g h : Fn2}, i < n → (∀ y, y < n → f i y = g i y + h i y * t) → (∀ x y, x < n → y < n → x ≠ i → f x y = g x y ∧ f x y = h x y) → Dt n f = Dt n g + Dt n h * t
  | 0, i, _, _, _, _, hi, _, _ => absurd hi (Nat.not_lt_zero _)
  | n + 1, 0, t, f, g, h, _, h1, h2 => by
    rw [Dt_succ, Dt_succ, Dt_succ, ← sumTo_mul, ← sumTo_add]
    refine sumTo_congr (n + 1) fun j hj => ?_
    have e1 : Dt n (mnr g j) = Dt n (mnr f j) := Dt_congr n fun a b ha hb => (h2 (a + 1) (sk j b) (by omega) (sk_lt hb) (by omega)).1.symm
    have e2 : Dt n (mnr h j) = Dt n (mnr f j) := Dt_congr n fun a b ha hb => (h2 (a + 1) (sk j b) (by omega) (sk_lt hb) (by omega)).2.symm
    rw [e1, e2, h1 j hj]
    grind
  | n + 1, i + 1, t, f, g, h, hi, h1, h2 => by
    rw [Dt_succ, Dt_succ, Dt_succ, ← sumTo_mul, ← sumTo_add]
    refine sumTo_congr (n + 1) fun j hj => ?_
    have e1 := (h2 0 j (by omega) hj (by omega)).1
    have e2 := (h2 0 j (by omega) hj (by omega)).2
    have ih := Dt_row n i t (f := mnr f j) (g := mnr g j) (h := mnr h j) (by omega) (fun y hy => h1 (sk j y) (sk_lt hy)) (fun x y hx hy hne => h2 (x + 1) (sk j y) (by omega) (sk_lt hy) (by omega))
    rw [ih, ← e1, ← e2]
    grind
/-- Linear in column c. -/
theorem Dt_col : ∀ (n c : Nat) (t : Int) {f g h : Fn2}, c < n → (∀ x, x < n → f x c = g x c + h x c * t) → (∀ x y, x < n → y < n → y ≠ c → f x y = g x y ∧ f x y = h x y) → Dt n f = Dt n g + Dt n h * t
  | 0, c, _, _, _, _, hc, _, _ => absurd hc (Nat.not_lt_zero _)
  | n + 1, c, t, f, g, h, hc, h1, h2 => by
    rw [Dt_succ, Dt_succ, Dt_succ, ← sumTo_mul, ← sumTo_add]
    refine sumTo_congr (n + 1) fun j hj => ?_
    by_cases e : j = c
    · subst e
      have e1 : Dt n (mnr g j) = Dt n (mnr f j) := Dt_congr n fun a b ha hb => (h2 (a + 1) (sk j b) (by omega) (sk_lt hb) (sk_ne j b)).1.symm
      have e2 : Dt n (mnr h j) = Dt n (mnr f j) := Dt_congr n fun a b ha hb => (h2 (a + 1) (sk j b) (by omega) (sk_lt hb) (sk_ne j b)).2.symm
      rw [e1, e2, h1 0 (by omega)]
      grind
    · have e1 := (h2 0 j (by omega) hj e).1
      have e2 := (h2 0 j (by omega) hj e).2
      obtain ⟨c', hc', hk, hk2⟩ : ∃ c', c' < n ∧ sk j c' = c ∧ ∀ y, sk j y = c → y = c' := by
        by_cases hlt : c < j
        · exact ⟨c, by omega, by unfold sk; rw [if_pos hlt], fun y hy => by unfold sk at hy; split at hy <;> omega⟩
        · refine ⟨c - 1, by omega, by unfold sk; rw [if_neg (by omega)]; omega, fun y hy => by unfold sk at hy; split at hy <;> omega⟩
      have ih := Dt_col n c' t (f := mnr f j) (g := mnr g j) (h := mnr h j) hc' (fun x hx => by
        show f (x + 1) (sk j c') = g (x + 1) (sk j c') + h (x + 1) (sk j c') * t
        rw [hk]
        exact h1 (x + 1) (by omega)) (fun x y hx hy hne => h2 (x + 1) (sk j y) (by omega) (sk_lt hy) (fun e2 => hne (hk2 y e2)))
      rw [ih, ← e1, ← e2]
      grind
/-- Two summands only. -/
theorem sumTo_two {f : Nat → Int} {i : Nat} (n : Nat) (hi : i + 1 < n) (h : ∀ k, k < n → k ≠ i → k ≠ i + 1 → f k = 0) : sumTo f n = f i + f (i + 1) := by
  induction n with
  | zero => omega
  | succ n ih =>
    rw [sumTo_succ]
    by_cases e : i + 1 = n
    · subst e
      rw [sumTo_one (i := i) (i + 1) (by omega) (fun k hk hne => h k (by omega) hne (by omega))]
    · rw [ih (by omega) (fun k hk h1 h2 => h k (by omega) h1 h2), h n (by omega) (by omega) (by omega), Int.add_zero]
/-- Zero where two columns beside each other are equal. -/
theorem Dt_col_eq : ∀ (n c : Nat) {f : Fn2}, c + 1 < n → (∀ x, x < n → f x c = f x (c + 1)) → Dt n f = 0
  | 0, c, _, hc, _ => absurd hc (Nat.not_lt_zero _)
  | n + 1, c, f, hc, h => by
    rw [Dt_succ, sumTo_two (i := c) (n + 1) hc (fun j hj h1 h2 => ?_)]
    · have e : Dt n (mnr f c) = Dt n (mnr f (c + 1)) := Dt_congr n fun a b ha hb => by
        show f (a + 1) (sk c b) = f (a + 1) (sk (c + 1) b)
        by_cases hbc : b = c
        · subst hbc
          have e1 : sk b b = b + 1 := by unfold sk; rw [if_neg (Nat.lt_irrefl _)]
          have e2 : sk (b + 1) b = b := by unfold sk; rw [if_pos (by omega)]
          rw [e1, e2]
          exact (h (a + 1) (by omega)).symm
        · have e3 : sk c b = sk (c + 1) b := by unfold sk; split <;> split <;> omega
          rw [e3]
      rw [e, sg_succ, h 0 (by omega)]
      grind
    · have hz : Dt n (mnr f j) = 0 := by
        obtain ⟨c', hc', e1, e2⟩ : ∃ c', c' + 1 < n ∧ sk j c' = c ∧ sk j (c' + 1) = c + 1 := by
          by_cases hlt : c < j
          · exact ⟨c, by omega, by unfold sk; rw [if_pos hlt], by unfold sk; rw [if_pos (by omega)]⟩
          · exact ⟨c - 1, by omega, by unfold sk; rw [if_neg (by omega)]; omega, by unfold sk; rw [if_neg (by omega)]; omega⟩
        refine Dt_col_eq n c' hc' fun x hx => ?_
        show f (x + 1) (sk j c') = f (x + 1) (sk j (c' + 1))
        rw [e1, e2]
        exact h (x + 1) (by omega)
      rw [hz, Int.mul_zero]
/-- A sum over pairs that change sign when turned is zero. -/
theorem sumTo_anti {g : Nat → Nat → Int} (n : Nat) (h : ∀ a b, a < n → b < n → g a b = -g b a) : sumTo (fun a => sumTo (fun b => g a b) n) n = 0 := by
  have e : sumTo (fun a => sumTo (fun b => g a b) n) n = sumTo (fun a => -sumTo (fun b => g b a) n) n :=
    sumTo_congr n fun a ha => by
      rw [← sumTo_neg]
      exact sumTo_congr n fun b hb => h a b ha hb
  rw [sumTo_neg, sumTo_swap (fun a b => g b a) n n] at e
  omega
/-- A sum that leaves one place out. -/
theorem sumTo_skip {g : Nat → Int} {j : Nat} : ∀ n, j < n + 1 → sumTo (fun k => g (sk j k)) n = sumTo (fun b => if b = j then 0 else g b) (n + 1)
  | 0, hj => by
    have : j = 0 := by omega
    subst this
    rfl
  | n + 1, hj => by
    by_cases e : j = n + 1
    · subst e
      rw [sumTo_succ _ (n + 1), if_pos rfl, Int.add_zero]
      refine sumTo_congr (n + 1) fun k hk => ?_
      unfold sk
      rw [if_pos hk, if_neg (by omega)]
    · rw [sumTo_succ _ n, sumTo_skip n (by omega), sumTo_succ _ (n + 1), if_neg (by omega)]
      have : sk j n = n + 1 := by unfold sk; rw [if_neg (by omega)]
      rw [this]
/-- Without two rows and two columns, whichever goes first. -/
theorem mnr_two {f : Fn2} {a b : Nat} (h : a < b) : mnr (mnr f b) a = mnr (mnr f a) (b - 1) := by
  funext x y
  show f (x + 1 + 1) (sk b (sk a y)) = f (x + 1 + 1) (sk a (sk (b - 1) y))
  have : sk b (sk a y) = sk a (sk (b - 1) y) := by
    unfold sk
    repeat' split
    all_goals omega
  rw [this]
/-- Zero where two rows beside each other are equal. -/
theorem Dt_row_eq : ∀ (n i : Nat) {f : Fn2}, i + 1 < n → (∀ y, y < n → f i y = f (i + 1) y) → Dt n f = 0
  | 0, i, _, hi, _ => absurd hi (Nat.not_lt_zero _)
  | n + 1, i + 1, f, hi, h => by
    rw [Dt_succ]
    refine sumTo_null (n + 1) fun j hj => ?_
    rw [Dt_row_eq n i (f := mnr f j) (by omega) (fun y hy => h (sk j y) (sk_lt hy)), Int.mul_zero]
  | 1, 0, f, hi, h => by omega
  | n + 2, 0, f, hi, h => by
    rw [Dt_succ]
    -- the summand for the columns a of row 0 and b of row 1
    have key : ∀ a, a < n + 2 → sg a * f 0 a * Dt (n + 1) (mnr f a) = sumTo (fun b => if b = a then 0 else sg a * f 0 a * ((if b < a then sg b else sg (b - 1)) * f 0 b * Dt n (mnr (mnr f a) (if b < a then b else b - 1)))) (n + 2) := fun a ha => by
      rw [← sumTo_skip (g := fun b => sg a * f 0 a * ((if b < a then sg b else sg (b - 1)) * f 0 b * Dt n (mnr (mnr f a) (if b < a then b else b - 1)))) (n + 1) ha, Dt_succ, ← sumTo_mul']
      refine sumTo_congr (n + 1) fun k hk => ?_
      have e0 : mnr f a 0 k = f 0 (sk a k) := (h (sk a k) (sk_lt hk)).symm
      have e1 : (if sk a k < a then sk a k else sk a k - 1) = k := by
        unfold sk
        repeat' split
        all_goals omega
      have e2 : (if sk a k < a then sg (sk a k) else sg (sk a k - 1)) = sg k := by
        by_cases hka : k < a
        · have : sk a k = k := by unfold sk; rw [if_pos hka]
          rw [this, if_pos hka]
        · have : sk a k = k + 1 := by unfold sk; rw [if_neg hka]
          rw [this, if_neg (by omega), Nat.add_sub_cancel]
      rw [e0, e1, e2]
    rw [sumTo_congr (n + 2) key]
    refine sumTo_anti (n + 2) fun a b ha hb => ?_
    by_cases e : b = a
    · subst e; rw [if_pos rfl]; rfl
    · rw [if_neg e, if_neg (show ¬ a = b from fun e2 => e e2.symm)]
      by_cases hlt : b < a
      · rw [if_pos hlt, if_pos hlt, if_neg (show ¬ a < b by omega), if_neg (show ¬ a < b by omega), mnr_two hlt]
        have : sg a = -sg (a - 1) := by
          have := sg_succ (a - 1)
          rwa [Nat.sub_add_cancel (by omega)] at this
        rw [this]
        grind
      · have hlt2 : a < b := by omega
        rw [if_neg hlt, if_neg hlt, if_pos hlt2, if_pos hlt2, mnr_two hlt2]
        have : sg b = -sg (b - 1) := by
          have := sg_succ (b - 1)
          rwa [Nat.sub_add_cancel (by omega)] at this
        rw [this]
        grind
/-- Linear in each row, zero where two rows beside each other are equal. -/
structure Alt (n : Nat) (F : Fn2 → Int) : Prop where
  congr : ∀ (f g : Fn2), EqM n n f g → F f = F g
  lin : ∀ (i : Nat) (t : Int) (f g h : Fn2), i < n → (∀ y, y < n → f i y = g i y + h i y * t) → (∀ x y, x < n → y < n → x ≠ i → f x y = g x y ∧ f x y = h x y) → F f = F g + F h * t
  alt : ∀ (i : Nat) (f : Fn2), i + 1 < n → (∀ y, y < n → f i y = f (i + 1) y) → F f = 0
theorem Dt_alt (n : Nat) : Alt n (Dt n) :=
  ⟨fun f g h => Dt_congr n h, fun i t f g h hi h1 h2 => Dt_row n i t hi h1 h2, fun i f hi h => Dt_row_eq n i hi h⟩
theorem Dt_altC (n : Nat) : Alt n (fun f => Dt n (fun a b => f b a)) :=
  ⟨fun f g h => Dt_congr n fun a b ha hb => h b a hb ha, fun i t f g h hi h1 h2 => Dt_col n i t hi (fun x hx => h1 x hx) (fun x y hx hy hne => h2 y x hy hx hne), fun i f hi h => Dt_col_eq n i hi fun x hx => h x hx⟩
/-- Rows i and j anew. -/
def rw2 (f : Fn2) (i j : Nat) (a b : Nat → Int) : Fn2 := fun x y => if x = i then a y else if x = j then b y else f x y
section
variable {n : Nat} {F : Fn2 → Int}
/-- The exchange of two rows, if equal ones give zero there. -/
theorem Alt.turn (H : Alt n F) {i j : Nat} (hi : i < n) (hj : j < n) (hij : i ≠ j) (hz : ∀ f : Fn2, (∀ y, y < n → f i y = f j y) → F f = 0) (f : Fn2) (a b : Nat → Int) : F (rw2 f i j b a) = -F (rw2 f i j a b) := by
  have hji : j ≠ i := fun e => hij e.symm
  have z : ∀ c, F (rw2 f i j c c) = 0 := fun c => hz _ fun y _ => by unfold rw2; rw [if_pos rfl, if_neg hji, if_pos rfl]
  have l1 : ∀ c, F (rw2 f i j (fun y => a y + b y) c) = F (rw2 f i j a c) + F (rw2 f i j b c) := fun c => by
    have := H.lin i 1 (rw2 f i j (fun y => a y + b y) c) (rw2 f i j a c) (rw2 f i j b c) hi (fun y _ => by unfold rw2; rw [if_pos rfl, if_pos rfl, if_pos rfl, Int.mul_one]) (fun x y _ _ hne => by unfold rw2; rw [if_neg hne, if_neg hne, if_neg hne]; exact ⟨rfl, rfl⟩)
    rw [this, Int.mul_one]
  have l2 : ∀ c, F (rw2 f i j c (fun y => a y + b y)) = F (rw2 f i j c a) + F (rw2 f i j c b) := fun c => by
    have := H.lin j 1 (rw2 f i j c (fun y => a y + b y)) (rw2 f i j c a) (rw2 f i j c b) hj (fun y _ => by unfold rw2; rw [if_neg hji, if_pos rfl, if_neg hji, if_pos rfl, if_neg hji, if_pos rfl, Int.mul_one]) (fun x y _ _ hne => by unfold rw2; rw [if_neg hne, if_neg hne, if_neg hne]; exact ⟨rfl, rfl⟩)
    rw [this, Int.mul_one]
  have h0 := z (fun y => a y + b y)
  rw [l1, l2, l2, z, z] at h0
  omega
theorem rw2_self (f : Fn2) (i j : Nat) : rw2 f i j (f i) (f j) = f := by
  funext x y
  unfold rw2
  split
  · rename_i h; rw [h]
  · split
    · rename_i h; rw [h]
    · rfl
theorem rw2_swap (f : Fn2) {i j : Nat} : rw2 f i j (f j) (f i) = swF f i j := by
  funext x y
  unfold rw2 swF
  split
  · rfl
  · split
    · rfl
    · rfl
theorem Alt.adj (H : Alt n F) {i : Nat} (hi : i + 1 < n) (f : Fn2) : F (swF f i (i + 1)) = -F f := by
  have := H.turn (i := i) (j := i + 1) (by omega) hi (by omega) (fun f h => H.alt i f hi h) f (f i) (f (i + 1))
  rw [rw2_self, rw2_swap] at this
  exact this
/-- Zero where two rows are equal. -/
theorem Alt.same_lt (H : Alt n F) : ∀ (d i : Nat) (f : Fn2), i + d + 1 < n → (∀ y, y < n → f i y = f (i + d + 1) y) → F f = 0
  | 0, i, f, hi, h => H.alt i f hi h
  | d + 1, i, f, hi, h => by
    have h1 := H.adj (i := i + d + 1) (by omega) f
    have h2 : F (swF f (i + d + 1) (i + d + 1 + 1)) = 0 := H.same_lt d i _ (by omega) fun y hy => by
      have e1 : swF f (i + d + 1) (i + d + 1 + 1) i y = f i y := by unfold swF; rw [if_neg (by omega), if_neg (by omega)]
      have e2 : swF f (i + d + 1) (i + d + 1 + 1) (i + d + 1) y = f (i + d + 1 + 1) y := by unfold swF; rw [if_pos rfl]
      rw [e1, e2]
      exact h y hy
    rw [h2] at h1
    omega
theorem Alt.same (H : Alt n F) {i j : Nat} (hi : i < n) (hj : j < n) (hij : i ≠ j) (f : Fn2) (h : ∀ y, y < n → f i y = f j y) : F f = 0 := by
  rcases Nat.lt_or_ge i j with hlt | hge
  · exact H.same_lt (j - i - 1) i f (by omega) (by rw [show i + (j - i - 1) + 1 = j by omega]; exact h)
  · exact H.same_lt (i - j - 1) j f (by omega) (by rw [show j + (i - j - 1) + 1 = i by omega]; exact fun y hy => (h y hy).symm)
theorem Alt.swap (H : Alt n F) {i j : Nat} (hi : i < n) (hj : j < n) (hij : i ≠ j) (f : Fn2) : F (swF f i j) = -F f := by
  have := H.turn hi hj hij (fun f h => H.same hi hj hij f h) f (f i) (f j)
  rw [rw2_self, rw2_swap] at this
  exact this
/-- A multiple of a row added to another one. -/
theorem Alt.add (H : Alt n F) {i j : Nat} {t : Int} {f g : Fn2} (hi : i < n) (hj : j < n) (hij : i ≠ j) (h1 : ∀ y, y < n → g i y = f i y + f j y * t) (h2 : ∀ x y, x < n → y < n → x ≠ i → g x y = f x y) : F g = F f := by
  have h3 := H.lin i t g f (fun x y => if x = i then f j y else f x y) hi (fun y hy => by
    show g i y = f i y + (if i = i then f j y else f i y) * t
    rw [if_pos rfl]
    exact h1 y hy) (fun x y hx hy hne => ⟨h2 x y hx hy hne, by show g x y = if x = i then f j y else f x y; rw [if_neg hne]; exact h2 x y hx hy hne⟩)
  have h4 : F (fun x y => if x = i then f j y else f x y) = 0 := H.same hi hj hij _ fun y hy => by
    show (if i = i then f j y else f i y) = if j = i then f j y else f j y
    rw [if_pos rfl, if_neg (fun e => hij e.symm)]
  rw [h3, h4, Int.zero_mul, Int.add_zero]
theorem Alt.zero (H : Alt n F) {i : Nat} {f : Fn2} (hi : i < n) (h : ∀ y, y < n → f i y = 0) : F f = 0 := by
  have h3 := H.lin i 1 f f f hi (fun y hy => by rw [h y hy]; rfl) (fun x y hx hy hne => ⟨rfl, rfl⟩)
  omega
theorem Alt.scale (H : Alt n F) {i : Nat} {t : Int} {f g : Fn2} (hi : i < n) (h1 : ∀ y, y < n → g i y = f i y * t) (h2 : ∀ x y, x < n → y < n → x ≠ i → g x y = f x y) : F g = F f * t := by
  have h3 := H.lin i t g (fun x y => if x = i then 0 else f x y) f hi (fun y hy => by
    show g i y = (if i = i then 0 else f i y) + f i y * t
    rw [if_pos rfl, h1 y hy, Int.zero_add]) (fun x y hx hy hne => ⟨by show g x y = if x = i then 0 else f x y; rw [if_neg hne]; exact h2 x y hx hy hne, h2 x y hx hy hne⟩)
  have h4 : F (fun x y => if x = i then 0 else f x y) = 0 := H.zero hi fun y hy => by
    show (if i = i then (0 : Int) else f i y) = 0
    rw [if_pos rfl]
  rw [h3, h4, Int.zero_add]
end
/-- A matrix with zeros below the diagonal: the product of the diagonal. -/
theorem Dt_id : ∀ n, Dt n idF = 1
  | 0 => rfl
  | n + 1 => by
    rw [Dt_succ, sumTo_one (i := 0) (n + 1) (by omega) (fun k hk hne => ?_)]
    · have e : Dt n (mnr idF 0) = Dt n idF := Dt_congr n fun a b ha hb => by
        show idF (a + 1) (sk 0 b) = idF a b
        unfold idF sk
        rw [if_neg (Nat.not_lt_zero _)]
        by_cases h : a = b
        · rw [if_pos h, if_pos (by omega)]
        · rw [if_neg h, if_neg (by omega)]
      rw [e, Dt_id n]
      rfl
    · have : idF 0 k = 0 := by unfold idF; rw [if_neg (fun e => hne e.symm)]
      rw [this]
      grind
end Go.Proofs.Ytacjonkehcamgaa

/-
  DERIVED. Operations on rows: IsRowOp and DivideFloor of both, rowOp and l5Do for sums and signs.
-/
namespace Go.Proofs.Ytacjonkehcamgaa
open Go.RowKit
set_option linter.unusedVariables false
set_option linter.unusedSimpArgs false
theorem impl_IsRowOp_add (R i j : Nat) (t : Int) (w : World) (hi : i < R) (hj : j < R) (hij : i ≠ j) (ht : Num t) (hR : R ≤ 24) :
    Calls Try.prog 142 #[.agg #[.int .i64 2, .int .i64 i, .int .i64 j, .int .i64 t], .int .i64 R] w (BV (.bool true) w) := by
  obtain ⟨ht1, ht2⟩ := ht
  have hb : ((i : Int) != (j : Int)) = true := by simp; omega
  clear hij
  go_enter Try.func142, Try.ntmps142
  go_wp2_with (first | (go_at_call 166; (first | refine (impl_IsNumber_yes _ _ (by omega)).mono ?_ | refine (impl_IsNumber_no _ _ (by omega)).mono ?_ | refine (impl_IsNumber _ _).mono ?_); rintro e w' ⟨rfl, rfl⟩))
  go_ret
  exact BV.mk rfl Kw
theorem impl_IsRowOp_swap (R i j : Nat) (w : World) (hi : i < R) (hj : j < R) (hij : i ≠ j) (hR : R ≤ 24) :
    Calls Try.prog 142 #[.agg #[.int .i64 0, .int .i64 i, .int .i64 j, .int .i64 0], .int .i64 R] w (BV (.bool true) w) := by
  have hb : ((i : Int) != (j : Int)) = true := by simp; omega
  clear hij
  go_enter Try.func142, Try.ntmps142
  go_wp2_with (first | (go_at_call 166; (first | refine (impl_IsNumber_yes _ _ (by omega)).mono ?_ | refine (impl_IsNumber_no _ _ (by omega)).mono ?_ | refine (impl_IsNumber _ _).mono ?_); rintro e w' ⟨rfl, rfl⟩))
  go_ret
  exact BV.mk rfl Kw
theorem impl_IsRowOp_neg (R i : Nat) (w : World) (hi : i < R) (hR : R ≤ 24) :
    Calls Try.prog 142 #[.agg #[.int .i64 1, .int .i64 i, .int .i64 i, .int .i64 0], .int .i64 R] w (BV (.bool true) w) := by
  go_enter Try.func142, Try.ntmps142
  go_wp2_with (first | (go_at_call 166; (first | refine (impl_IsNumber_yes _ _ (by omega)).mono ?_ | refine (impl_IsNumber_no _ _ (by omega)).mono ?_ | refine (impl_IsNumber _ _).mono ?_); rintro e w' ⟨rfl, rfl⟩))
  go_ret
  exact BV.mk rfl Kw
/-- Three results: two numbers and a flag. -/
def IIE (a b : Int) (c : Bool) (w : World) (e : Ending) (w' : World) : Prop := e = .returned (.tuple #[.int .i64 a, .int .i64 b, .bool c]) ∧ w = w'
theorem IIE.mk {a a' b b' : Int} {c : Bool} {w : World} (h : a = a') (h' : b = b') : IIE a' b' c w (.returned (.tuple #[.int .i64 a, .int .i64 b, .bool c])) w := by
  subst h; subst h'; exact ⟨rfl, rfl⟩
theorem emod_eq_abs {a d : Int} (h1 : 0 ≤ a) (h2 : a < d.natAbs) : a % d = a := by
  rcases Int.natAbs_eq d with e | e
  · exact Int.emod_eq_of_lt h1 (by omega)
  · rw [show d = -(d.natAbs : Int) from e, Int.emod_neg]; exact Int.emod_eq_of_lt h1 h2
theorem emod_of_tmod_ge {n d : Int} (h : 0 ≤ n.tmod d) (hd : d ≠ 0) : n.tmod d = n % d := by
  have h1 := Int.tmod_add_mul_tdiv n d
  have h2 : (n.tmod d).natAbs < d.natAbs := by rw [Int.natAbs_tmod]; exact Nat.mod_lt _ (by omega)
  have h3 : n % d = n.tmod d := by
    have : n % d = (n.tmod d) % d := by
      conv => lhs; rw [← h1]
      rw [Int.add_mul_emod_self_left]
    rw [this, emod_eq_abs h (by omega)]
  exact h3.symm
theorem emod_of_tmod_lt {n d : Int} (h : n.tmod d < 0) (hd : d ≠ 0) : n.tmod d + d.natAbs = n % d := by
  have h1 := Int.tmod_add_mul_tdiv n d
  have h2 : (n.tmod d).natAbs < d.natAbs := by rw [Int.natAbs_tmod]; exact Nat.mod_lt _ (by omega)
  have h3 : n % d = (n.tmod d + d.natAbs) % d := by
    have e0 : n % d = (n.tmod d) % d := by
      conv => lhs; rw [← h1]
      rw [Int.add_mul_emod_self_left]
    rw [e0]
    rcases Int.natAbs_eq d with e | e
    · rw [← e]; simp
    · have : ((d.natAbs : Nat) : Int) = -d := by omega
      rw [this, ← Int.sub_eq_add_neg]; simp
  rw [h3, emod_eq_abs (by omega) (by omega)]
theorem tdiv_of_rem {n d : Int} (hd : d ≠ 0) : (n - n % d).tdiv d = n / d := by
  have h := Int.mul_ediv_add_emod n d
  rw [show n - n % d = d * (n / d) by omega, Int.mul_tdiv_cancel_left _ hd]
theorem floor_pos {n d : Int} (hd : 0 < d) : (if n.tmod d < 0 then n.tdiv d - 1 else n.tdiv d) = n / d := by
  have h1 := Int.tmod_add_mul_tdiv n d
  have h0 := Int.mul_ediv_add_emod n d
  split
  · rename_i h
    have h2 := emod_of_tmod_lt h (by omega)
    have : d * (n / d) = d * (n.tdiv d - 1) := by rw [Int.mul_sub, Int.mul_one]; omega
    exact (Int.eq_of_mul_eq_mul_left (by omega) this).symm
  · rename_i h
    have h2 := emod_of_tmod_ge (n := n) (d := d) (by omega) (by omega)
    have : d * (n / d) = d * (n.tdiv d) := by omega
    exact (Int.eq_of_mul_eq_mul_left (by omega) this).symm
theorem ediv_abs {n d : Int} (hd : d < 0) : n / d = -(n / (d.natAbs : Int)) := by
  rw [show d = -(d.natAbs : Int) by omega, Int.ediv_neg]; simp
set_option maxHeartbeats 1000000 in
theorem impl_DivideFloor (n d : Int) (w : World) (hn : Num n) (hd : Num d) (h0 : d ≠ 0) : Calls Try.prog 147 #[.int .i64 n, .int .i64 d] w (IIE (n / d) (n % d) true w) := by
  obtain ⟨n1, n2⟩ := hn
  obtain ⟨d1, d2⟩ := hd
  have hdb : (d == 0) = false := by simpa using h0
  have hd0 : ¬ d = 0 := h0
  have hT : (n.tmod d).natAbs < d.natAbs := by rw [Int.natAbs_tmod]; exact Nat.mod_lt _ (by omega)
  have hE := Int.emod_nonneg n h0
  have hE2 := Int.emod_lt n h0
  have hq := tdiv_of_rem (n := n) h0
  have HQ := Lib.hid hq
  have hqb := ediv_bd (n := n) (d := d) ⟨n1, n2⟩ h0
  obtain ⟨q1, q2⟩ := hqb
  clear hq h0
  by_cases hs : n.tmod d < 0
  · have hm := emod_of_tmod_lt hs hd0
    have HM := Lib.hid hm
    have g2 : IntKind.i64.wrap (n.tmod d + d.natAbs) = n.tmod d + d.natAbs := IntWalk.i64_in _ (by omega)
    have hb3 : n.tmod d + d.natAbs = n % d := hm
    have g3 : -800000000 ≤ (n - (n.tmod d + d.natAbs)).tdiv d ∧ (n - (n.tmod d + d.natAbs)).tdiv d ≤ 800000000 := by rw [hm, HQ.out]; omega
    obtain ⟨g3, g4⟩ := g3
    clear hm hb3
    go_enter Try.func147, Try.ntmps147
    go_wp2_with (first | (go_at_call 166; (first | refine (impl_IsNumber_yes _ _ (by omega)).mono ?_ | refine (impl_IsNumber_no _ _ (by omega)).mono ?_ | refine (impl_IsNumber _ _).mono ?_); rintro e w' ⟨rfl, rfl⟩) | (go_at_call 169; refine (impl_absInt _ _ (by omega) (by omega)).mono ?_; rintro e w' ⟨rfl, rfl⟩))
    go_ret3
    exact IIE.mk (by rw [HM.out, HQ.out]) (by rw [HM.out])
  · have hm := emod_of_tmod_ge (n := n) (d := d) (by omega) hd0
    have HM := Lib.hid hm
    have g3 : -800000000 ≤ (n - n.tmod d).tdiv d ∧ (n - n.tmod d).tdiv d ≤ 800000000 := by rw [hm, HQ.out]; omega
    obtain ⟨g3, g4⟩ := g3
    clear hm
    go_enter Try.func147, Try.ntmps147
    go_wp2_with (first | (go_at_call 166; (first | refine (impl_IsNumber_yes _ _ (by omega)).mono ?_ | refine (impl_IsNumber_no _ _ (by omega)).mono ?_ | refine (impl_IsNumber _ _).mono ?_); rintro e w' ⟨rfl, rfl⟩) | (go_at_call 169; refine (impl_absInt _ _ (by omega) (by omega)).mono ?_; rintro e w' ⟨rfl, rfl⟩))
    go_ret3
    exact IIE.mk (by rw [HM.out, HQ.out]) (by rw [HM.out])
theorem spec_l1Floor (n d : Int) (w : World) (hn : Num n) (hd : Num d) (h0 : 0 < d) : Calls Try.prog 234 #[.int .i64 n, .int .i64 d] w (EV (.int .i64 (n / d)) w) := by
  obtain ⟨n1, n2⟩ := hn
  obtain ⟨d1, d2⟩ := hd
  have hF := floor_pos (n := n) h0
  have hd0 : ¬ d = 0 := by omega
  have hdb : (d == 0) = false := by simpa using hd0
  have hT : (n.tmod d).natAbs < d.natAbs := by rw [Int.natAbs_tmod]; exact Nat.mod_lt _ (by omega)
  have hD : (n.tdiv d).natAbs ≤ n.natAbs := by rw [Int.natAbs_tdiv]; exact Nat.div_le_self _ _
  by_cases hs : n.tmod d < 0
  · rw [if_pos hs] at hF
    have HF := Lib.hid hF
    clear hF
    go_enter Try.func234, Try.ntmps234
    go_wp2
    go_ret
    exact EV.mk (vint HF.out)
  · rw [if_neg hs] at hF
    have HF := Lib.hid hF
    clear hF
    go_enter Try.func234, Try.ntmps234
    go_wp2
    go_ret
    exact EV.mk (vint HF.out)
set_option maxHeartbeats 1000000 in
theorem spec_DivideFloor (n d : Int) (w : World) (hn : Num n) (hd : Num d) (h0 : d ≠ 0) : Calls Try.prog 208 #[.int .i64 n, .int .i64 d] w (IIE (n / d) (n % d) true w) := by
  have hna := hn
  obtain ⟨n1, n2⟩ := hn
  obtain ⟨d1, d2⟩ := hd
  have hdb : (d == 0) = false := by simpa using h0
  have hab : Num (d.natAbs : Int) ∧ 0 < (d.natAbs : Int) := by unfold Num; omega
  have HAB := Lib.hid hab
  have HNA := Lib.hid hna
  have hm := Int.mul_ediv_add_emod n d
  have hE := Int.emod_nonneg n h0
  have hE2 := Int.emod_lt n h0
  by_cases hs : d < 0
  · have hq := ediv_abs (n := n) hs
    have hdn : (d.natAbs : Int) = -d := by omega
    have hqb := ediv_bd (n := n) (d := (d.natAbs : Int)) hna (by omega)
    obtain ⟨q1, q2⟩ := hqb
    have hm2 : (d.natAbs : Int) * (n / (d.natAbs : Int)) = n - n % d := by
      rw [hq] at hm
      rw [hdn] at hm ⊢
      rw [Int.mul_neg, ← Int.neg_mul] at hm
      omega
    have HM := Lib.hid hm2
    have HQ := Lib.hid hq
    have hm3 : -2000000000 ≤ (d.natAbs : Int) * (n / (d.natAbs : Int)) ∧ (d.natAbs : Int) * (n / (d.natAbs : Int)) ≤ 2000000000 := by omega
    obtain ⟨m1, m2⟩ := hm3
    have g1 : IntKind.i64.wrap ((d.natAbs : Int) * (n / (d.natAbs : Int))) = (d.natAbs : Int) * (n / (d.natAbs : Int)) := IntWalk.i64_in _ (by omega)
    clear hm hm2 hq h0 hdn hab hna
    go_enter Try.func208, Try.ntmps208
    go_wp2_with (first | (go_at_call 194; (first | refine (spec_IsNumber_yes _ _ (by omega)).mono ?_ | refine (spec_IsNumber_no _ _ (by omega)).mono ?_ | refine (spec_IsNumber _ _).mono ?_); rintro e w' ⟨rfl, rfl⟩) | (go_at_call 224; refine (spec_l1Abs _ _ (by omega) (by omega)).mono ?_; rintro e w' ⟨rfl, rfl⟩))
    refine (spec_l1Floor n d.natAbs _ HNA.out HAB.out.1 HAB.out.2).mono ?_
    rintro e w' ⟨rfl, rfl⟩
    go_wp2_with (first | (go_at_call 224; refine (spec_l1Abs _ _ (by omega) (by omega)).mono ?_; rintro e w' ⟨rfl, rfl⟩))
    go_ret3
    exact IIE.mk (by rw [HQ.out]) (by rw [HM.out]; omega)
  · have hdn : (d.natAbs : Int) = d := by omega
    have HDN := Lib.hid hdn
    have hqb := ediv_bd (n := n) (d := d) hna h0
    obtain ⟨q1, q2⟩ := hqb
    have hm2 : d * (n / d) = n - n % d := by omega
    have HM := Lib.hid hm2
    have hm3 : -2000000000 ≤ d * (n / d) ∧ d * (n / d) ≤ 2000000000 := by omega
    obtain ⟨m1, m2⟩ := hm3
    have g1 : IntKind.i64.wrap (d * (n / d)) = d * (n / d) := IntWalk.i64_in _ (by omega)
    clear hm hm2 h0 hdn hab hna
    go_enter Try.func208, Try.ntmps208
    go_wp2_with (first | (go_at_call 194; (first | refine (spec_IsNumber_yes _ _ (by omega)).mono ?_ | refine (spec_IsNumber_no _ _ (by omega)).mono ?_ | refine (spec_IsNumber _ _).mono ?_); rintro e w' ⟨rfl, rfl⟩) | (go_at_call 224; refine (spec_l1Abs _ _ (by omega) (by omega)).mono ?_; rintro e w' ⟨rfl, rfl⟩))
    refine (spec_l1Floor n d.natAbs _ HNA.out HAB.out.1 HAB.out.2).mono ?_
    rintro e w' ⟨rfl, rfl⟩
    rw [HDN.out]
    go_wp2_with (first | (go_at_call 224; refine (spec_l1Abs _ _ (by omega) (by omega)).mono ?_; rintro e w' ⟨rfl, rfl⟩))
    go_ret3
    exact IIE.mk rfl (by rw [HM.out]; omega)
/-- Row i done in its first k columns. -/
def opK (f : Fn2) (i j : Nat) (t : Int) (k : Nat) : Fn2 := fun x y => if x = i ∧ y < k then f i y + f j y * t else f x y
theorem opK_zero (f : Fn2) (i j : Nat) (t : Int) : opK f i j t 0 = f := by funext x y; simp [opK]
theorem opK_step (f : Fn2) (i j : Nat) (t : Int) (k : Nat) : upd (opK f i j t k) i k (f i k + f j k * t) = opK f i j t (k + 1) := by
  funext x y
  unfold upd opK
  by_cases h : x = i ∧ y = k
  · rw [if_pos h, if_pos ⟨h.1, by omega⟩, h.2]
  · rw [if_neg h]
    by_cases h2 : x = i ∧ y < k
    · rw [if_pos h2, if_pos ⟨h2.1, by omega⟩]
    · rw [if_neg h2, if_neg]
      rintro ⟨h3, h4⟩
      exact h2 ⟨h3, by have : y ≠ k := fun e => h ⟨h3, e⟩; omega⟩
theorem opK_at (f : Fn2) (i j : Nat) (t : Int) (k : Nat) : opK f i j t k i k = f i k := by simp [opK]
theorem opK_atj {f : Fn2} {i j : Nat} (h : i ≠ j) (t : Int) (k : Nat) : opK f i j t k j k = f j k := by simp [opK, Ne.symm h]
theorem opK_end {f : Fn2} {R C i j : Nat} {t : Int} (h : OKF R C f) (hi : i < R) (hj : j < R) (ht : Num t) (hr : rowOk f i j t C) : tb R C (opK f i j t C) = tb R C (opA f i j t) :=
  tb_ext fun x y hx hy => by
    unfold opK
    by_cases h2 : x = i
    · subst h2
      rw [if_pos ⟨rfl, hy⟩, rowOk_val h hi hj ht hr hy]
    · rw [if_neg (fun h3 => h2 h3.1), opA_other h2]
/-- A sum of rows, as far as it goes. -/
def RO (f : Fn2) (i j : Nat) (t : Int) (R C : Nat) (sv : Value) (B : Nat) (w : World) (e : Ending) (w' : World) : Prop :=
  (rowOk f i j t C ∧ WW (.bool true) sv B (tb R C (opA f i j t)) w e w') ∨ (¬ rowOk f i j t C ∧ ∃ f', WW (.bool false) sv B (tb R C f') w e w')
set_option maxRecDepth 100000 in
set_option maxHeartbeats 4000000 in
theorem impl_rowOp_add (R C p t : Nat) (m : Int) (A : Option Addr) (n cap : Nat) (f : Fn2) (w : World) {B : Nat} (h : OR w B (.slice A n cap) (tb R C f)) (hp : p < R) (ht : t < R) (hpt : p ≠ t) (hm : Num m) (hf : OKF R C f) (hC0 : 0 < C) (hC : C ≤ 24) (hR : R ≤ 24) :
    Calls Try.prog 165 #[.agg #[.int .i64 R, .int .i64 C, .slice A n cap], .agg #[.int .i64 2, .int .i64 p, .int .i64 t, .int .i64 m]] w (RO f p t m R C (.slice A n cap) B w) := by
  have hn := h.lenEq
  rw [tb_len] at hn
  have hcaps := h.caps
  have hP := idx_nat hp (show C - 1 < C by omega)
  have hT := idx_nat ht (show C - 1 < C by omega)
  obtain ⟨g, rfl, hg1, hg2⟩ := h.begins (by rw [tb_len]; omega)
  have hP2 : p * C + C ≤ n := by omega
  have hT2 : t * C + C ≤ n := by omega
  have HN := Lib.hid hn
  have HPT := Lib.hid hpt
  have HF := Lib.hid hf
  have HM := Lib.hid hm
  obtain ⟨m1, m2⟩ := hm
  have HEND := Lib.hid (fun hr => opK_end hf hp ht ⟨m1, m2⟩ hr)
  clear hn hpt hP hT hf
  go_enter Try.func165, Try.ntmps165
  go_wp2_with fail
  refine (impl_row_own R C p g n cap _ Ks (by omega) (by omega) hC0 (by omega) (by omega) hP2).mono ?_
  rintro e w1 ⟨rfl, hb1⟩
  have hsz1 := hb1.size
  simp at hsz1
  have hO1 : Blk w1 (w.heap.size + 1) 66 #[.int .i64 2, .int .i64 p, .int .i64 t, .int .i64 m] := by (with_reducible (repeat (first | assumption | refine Blk.new_at _ _ _ _ Ks | refine Blk.below ?_ (by assumption) Ks | apply Blk.drew | apply Blk.drewN | refine Blk.far ?_ (by simp only [ne_eq]; omega) _ | apply Blk.alloc)))
  have hM1 : BM w1 w.heap.size R C (some ⟨g, 0, none⟩) n cap := Ka
  have hown1 : OR w1 B (.slice (some ⟨g, 0, none⟩) n cap) (tb R C f) := Ko h
  have hgr1 : w.grownBy w1 (some g) := by (with_reducible (repeat (first | assumption | exact World.grownBy.refl _ _ | refine only_alloc ?_ _ | refine only_drewN ?_ _ | refine only_drew ?_ | refine only_set ?_ _ _ | refine grown_far ?_ Ks _ | refine only_trans ?_ (only_of_below (by assumption) _) | refine only_trans ?_ (by assumption))))
  obtain ⟨oa, ob, oc, of, ol⟩ := hM1.mx
  have x0 := hO1.cell 0
  have x1 := hO1.cell 1
  have x2 := hO1.cell 2
  have x3 := hO1.cell 3
  simp at x0 x1 x2 x3
  clear hb1
  go_wp2_with fail
  refine (impl_row_own R C t g n cap _ Ks (by omega) (by omega) hC0 (by omega) (by omega) hT2).mono ?_
  rintro e w2 ⟨rfl, hb2⟩
  have hsz2 := hb2.size
  have hO2 : Blk w2 (w.heap.size + 1) 66 #[.int .i64 2, .int .i64 p, .int .i64 t, .int .i64 m] := by (with_reducible (repeat (first | exact hO1 | refine Blk.new_at _ _ _ _ Ks | refine Blk.below ?_ (by assumption) Ks | apply Blk.drew | apply Blk.drewN | refine Blk.far ?_ (by simp only [ne_eq]; omega) _ | apply Blk.alloc)))
  have hown2 : OR w2 B (.slice (some ⟨g, 0, none⟩) n cap) (tb R C f) := Ko hown1
  have hgr2 : w.grownBy w2 (some g) := by (with_reducible (repeat (first | assumption | exact World.grownBy.refl _ _ | refine only_alloc ?_ _ | refine only_drewN ?_ _ | refine only_drew ?_ | refine only_set ?_ _ _ | refine grown_far ?_ Ks _ | refine only_trans ?_ (only_of_below (by assumption) _) | refine only_trans ?_ (by assumption))))
  clear hb2 hown1 hgr1 hO1 hM1 x0 x1 x2 x3 oa ob oc of ol
  go_wp2_with fail
  go_loopw [7, 19] (fun _ u wr => ∃ k : Nat, u = .int .i64 k ∧ k ≤ C ∧ (∀ y, y < k → Num (f t y * m) ∧ Num (f p y + f t y * m)) ∧ OR wr B (.slice (some ⟨g, 0, none⟩) n cap) (tb R C (opK f p t m k)) ∧ Blk wr (w.heap.size + 1) 66 #[.int .i64 2, .int .i64 p, .int .i64 t, .int .i64 m] ∧ w.grownBy wr (some g) ∧ w.heap.size ≤ wr.heap.size) (fun _ v _ => C - (intOf v).toNat)
  case atStart => exact ⟨0, rfl, Nat.zero_le _, fun y hy => absurd hy (Nat.not_lt_zero _), by rw [opK_zero]; exact hown2, hO2, hgr2, by omega⟩
  case round =>
    clear hown2 hO2 hgr2 h
    obtain ⟨k, rfl, hk, hok, hown, hO, hgr, hsz⟩ := hrel
    have HOK := Lib.hid hok
    clear hok
    have x0 := hO.cell 0
    have x1 := hO.cell 1
    have x2 := hO.cell 2
    have x3 := hO.cell 3
    have hl := hO.lt
    simp at x0 x1 x2 x3
    by_cases hkC : k < C
    · have c1 := hown.cell (p * C + k) (by rw [tb_len]; exact idx_nat hp hkC)
      have c2 := hown.cell (t * C + k) (by rw [tb_len]; exact idx_nat ht hkC)
      rw [tb_at hp hkC, opK_at] at c1
      rw [tb_at ht hkC, opK_atj HPT.out] at c2
      have f1 := hown.frozen (p * C + k)
      have hs1 := hown.set_ (p * C + k) (f p k + f t k * m)
      rw [tb_set hp hkC, opK_step] at hs1
      have hn1 := HF.out p k hp hkC
      have hn2 := HF.out t k ht hkC
      have HS : Hid (∀ y, y < k + 1 → (Num (f t k * m) ∧ Num (f p k + f t k * m)) → Num (f t y * m) ∧ Num (f p y + f t y * m)) := Lib.hid (fun y hy h3 => by
        by_cases e : y = k
        · rw [e]; exact h3
        · exact HOK.out y (by omega))
      have HNO : Hid (¬ (Num (f t k * m) ∧ Num (f p k + f t k * m)) → ¬ rowOk f p t m C) := Lib.hid (fun h3 h4 => h3 (h4 k hkC))
      generalize hx : f p k = x at *
      generalize hy : f t k = y at *
      clear hx hy
      obtain ⟨n1, n2⟩ := hn1
      obtain ⟨n3, n4⟩ := hn2
      obtain ⟨z1, z2⟩ := mul_bd4 y m 400000000 400000000 n3 n4 m1 m2
      have g1 : IntKind.i64.wrap (y * m) = y * m := IntWalk.i64_in _ (by omega)
      have g2 : IntKind.i64.wrap (x + y * m) = x + y * m := IntWalk.i64_in _ (by omega)
      by_cases hq1 : Num (y * m)
      · have hq1' := hq1
        obtain ⟨q1, q2⟩ := hq1'
        by_cases hq2 : Num (x + y * m)
        · have HQ := Lib.hid (fun y' hy' => HS.out y' hy' ⟨hq1, hq2⟩)
          obtain ⟨q3, q4⟩ := hq2
          clear hq1 HS HNO
          go_wp2; go_region; go_wp2_with (first | (go_at_call 166; (first | refine (impl_IsNumber_yes _ _ (by omega)).mono ?_ | refine (impl_IsNumber_no _ _ (by omega)).mono ?_ | refine (impl_IsNumber _ _).mono ?_); rintro e w' ⟨rfl, rfl⟩))
          go_roundw
          case rel => exact ⟨k + 1, by go_num, by omega, HQ.out, OR.drew hs1, by (with_reducible (repeat (first | exact hO | refine Blk.new_at _ _ _ _ Ks | refine Blk.below ?_ (by assumption) Ks | apply Blk.drew | apply Blk.drewN | refine Blk.far ?_ (by simp only [ne_eq]; omega) _ | apply Blk.alloc))), by (with_reducible (repeat (first | assumption | exact World.grownBy.refl _ _ | refine only_alloc ?_ _ | refine only_drewN ?_ _ | refine only_drew ?_ | refine only_set ?_ _ _ | refine grown_far ?_ Ks _ | refine only_trans ?_ (only_of_below (by assumption) _) | refine only_trans ?_ (by assumption)))), by simpa [World.setCell] using hsz⟩
          case measure => simp only [intOf]; omega
        · have HX := Lib.hid (HNO.out (fun h => hq2 h.2))
          have hq3 : x + y * m < -400000000 ∨ 400000000 < x + y * m := by unfold Num at hq2; omega
          clear hq1 hq2 HS HNO
          rcases hq3 with hq3 | hq3
          all_goals
            go_wp2; go_region; go_wp2_with (first | (go_at_call 166; (first | refine (impl_IsNumber_yes _ _ (by omega)).mono ?_ | refine (impl_IsNumber_no _ _ (by omega)).mono ?_ | refine (impl_IsNumber _ _).mono ?_); rintro e w' ⟨rfl, rfl⟩))
            go_ret
            exact .inr ⟨HX.out, _, WW.mk rfl (OR.drew hs1) (by (show w.grownBy _ (some g)); (with_reducible (repeat (first | assumption | exact World.grownBy.refl _ _ | refine only_alloc ?_ _ | refine only_drewN ?_ _ | refine only_drew ?_ | refine only_set ?_ _ _ | refine grown_far ?_ Ks _ | refine only_trans ?_ (only_of_below (by assumption) _) | refine only_trans ?_ (by assumption))))) (by simpa [World.setCell] using hsz)⟩
      · have HX := Lib.hid (HNO.out (fun h => hq1 h.1))
        have hq3 : y * m < -400000000 ∨ 400000000 < y * m := by unfold Num at hq1; omega
        clear hq1 HS HNO
        rcases hq3 with hq3 | hq3
        all_goals
          go_wp2; go_region; go_wp2_with (first | (go_at_call 166; (first | refine (impl_IsNumber_yes _ _ (by omega)).mono ?_ | refine (impl_IsNumber_no _ _ (by omega)).mono ?_ | refine (impl_IsNumber _ _).mono ?_); rintro e w' ⟨rfl, rfl⟩))
          go_ret
          exact .inr ⟨HX.out, _, WW.mk rfl (OR.drew hs1) (by (show w.grownBy _ (some g)); (with_reducible (repeat (first | assumption | exact World.grownBy.refl _ _ | refine only_alloc ?_ _ | refine only_drewN ?_ _ | refine only_drew ?_ | refine only_set ?_ _ _ | refine grown_far ?_ Ks _ | refine only_trans ?_ (only_of_below (by assumption) _) | refine only_trans ?_ (by assumption))))) (by simpa [World.setCell] using hsz)⟩
    · obtain rfl : k = C := by omega
      have hfin := hown.as (HEND.out HOK.out)
      clear hown
      go_wp2
      go_ret
      exact .inl ⟨HOK.out, WW.mk rfl hfin hgr hsz⟩
end Go.Proofs.Ytacjonkehcamgaa

/-
  DERIVED. The Smith form, step by step, as functions of row and column: no program in sight.
-/
namespace Go.Proofs.Ytacjonkehcamgaa
set_option linter.unusedVariables false
def tp (f : Fn2) : Fn2 := fun a b => f b a
theorem tp_tp (f : Fn2) : tp (tp f) = f := rfl
theorem tp_ok {f : Fn2} {R C : Nat} (h : OKF R C f) : OKF C R (tp f) := fun i j hi hj => h j i hj hi
theorem tp_nb {f : Fn2} (h : NBF f) : NBF (tp f) := fun i j => h j i
/-- A matrix, the account of what is done to its rows, that of its columns. -/
structure SS where
  f : Fn2
  g : Fn2
  h : Fn2
def SS.row (s : SS) : HS := ⟨s.f, s.g⟩
def SS.col (s : SS) : HS := ⟨tp s.f, tp s.h⟩
def SS.wr (s : SS) (q : HS) : SS := ⟨q.f, q.g, s.h⟩
def SS.wc (s : SS) (q : HS) : SS := ⟨tp q.f, s.g, tp q.g⟩
structure SS.OK (R C : Nat) (s : SS) : Prop where
  f : OKF R C s.f
  g : OKF R R s.g
  h : OKF C C s.h
structure SS.NBS (s : SS) : Prop where
  f : NBF s.f
  g : NBF s.g
  h : NBF s.h
structure SGD (R C : Nat) (s : SS) : Prop where
  ok : s.OK R C
  nb : s.NBS
def SS.ok (R C : Nat) (s : SS) : Bool := (tb R C s.f).all noBad && (tb R R s.g).all noBad && (tb C C s.h).all noBad
section
variable {R C : Nat} {s : SS} {q : HS}
theorem SS.ok_iff (h : s.NBS) : s.ok R C = true ↔ s.OK R C := by
  unfold SS.ok
  rw [Bool.and_eq_true, Bool.and_eq_true, tb_all h.f, tb_all h.g, tb_all h.h]
  exact ⟨fun h => ⟨h.1.1, h.1.2, h.2⟩, fun h => ⟨⟨h.f, h.g⟩, h.h⟩⟩
theorem SS.ok_no (h : s.NBS) (h2 : ¬ s.OK R C) : s.ok R C = false := by
  rw [← Bool.not_eq_true, SS.ok_iff h]; exact h2
theorem SS.NBS.row (h : s.NBS) : s.row.NBS := ⟨h.f, h.g⟩
theorem SS.NBS.col (h : s.NBS) : s.col.NBS := ⟨tp_nb h.f, tp_nb h.h⟩
theorem SS.NBS.wr (h : s.NBS) (hq : q.NBS) : (s.wr q).NBS := ⟨hq.f, hq.g, h.h⟩
theorem SS.NBS.wc (h : s.NBS) (hq : q.NBS) : (s.wc q).NBS := ⟨tp_nb hq.f, h.g, tp_nb hq.g⟩
theorem SS.OK.row (h : s.OK R C) : s.row.OK R C := ⟨h.f, h.g⟩
theorem SS.OK.col (h : s.OK R C) : s.col.OK C R := ⟨tp_ok h.f, tp_ok h.h⟩
theorem SS.OK.wr (h : s.OK R C) (hq : q.OK R C) : (s.wr q).OK R C := ⟨hq.f, hq.g, h.h⟩
theorem SS.OK.wc (h : s.OK R C) (hq : q.OK C R) : (s.wc q).OK R C := ⟨tp_ok hq.f, h.g, tp_ok hq.g⟩
theorem SS.OK.ofRow (h : (s.wr q).OK R C) : q.OK R C := ⟨h.f, h.g⟩
theorem SS.OK.ofCol (h : (s.wc q).OK R C) : q.OK C R := ⟨tp_ok h.f, tp_ok h.h⟩
theorem SGD.row (h : SGD R C s) : GD R C s.row := ⟨h.ok.row, h.nb.row⟩
theorem SGD.col (h : SGD R C s) : GD C R s.col := ⟨h.ok.col, h.nb.col⟩
theorem SGD.wr (h : SGD R C s) (hq : GD R C q) : SGD R C (s.wr q) := ⟨h.ok.wr hq.ok, h.nb.wr hq.nb⟩
theorem SGD.wc (h : SGD R C s) (hq : GD C R q) : SGD R C (s.wc q) := ⟨h.ok.wc hq.ok, h.nb.wc hq.nb⟩
end
-- the least absolute value that is not 0, from (t, t) on
def lsI (f : Fn2) (i t : Nat) (st : Int × Int) : Nat → Int × Int
  | 0 => st
  | n + 1 => if f i (t + n) ≠ 0 ∧ ((lsI f i t st n).1 < 0 ∨ (f i (t + n)).natAbs < (f (lsI f i t st n).1.toNat (lsI f i t st n).2.toNat).natAbs) then (((i : Nat) : Int), ((t + n : Nat) : Int)) else lsI f i t st n
def lsO (f : Fn2) (t D : Nat) : Nat → Int × Int
  | 0 => (-1, -1)
  | m + 1 => lsI f (t + m) t (lsO f t D m) D
def ls2 (R C : Nat) (f : Fn2) (t : Nat) : Int × Int := lsO f t (C - t) (R - t)
theorem lsI_succ (f : Fn2) (i t : Nat) (st : Int × Int) (n : Nat) : lsI f i t st (n + 1) = if f i (t + n) ≠ 0 ∧ ((lsI f i t st n).1 < 0 ∨ (f i (t + n)).natAbs < (f (lsI f i t st n).1.toNat (lsI f i t st n).2.toNat).natAbs) then (((i : Nat) : Int), ((t + n : Nat) : Int)) else lsI f i t st n := rfl
/-- What a search knows of the places that it has seen. -/
def LSP (f : Fn2) (t : Nat) (V : Nat → Nat → Prop) (st : Int × Int) : Prop :=
  (st = (-1, -1) ∧ ∀ i j, V i j → f i j = 0) ∨ ∃ p q : Nat, st = ((p : Int), (q : Int)) ∧ V p q ∧ f p q ≠ 0 ∧ (∀ i j, V i j → f i j ≠ 0 → (f p q).natAbs ≤ (f i j).natAbs) ∧ (V t t → f t t ≠ 0 → ¬ (p = t ∧ q = t) → (f p q).natAbs < (f t t).natAbs)
theorem LSP.step {f : Fn2} {t : Nat} {V V' : Nat → Nat → Prop} {st : Int × Int} {i j : Nat} (h : LSP f t V st) (hV : ∀ a b, V' a b ↔ V a b ∨ (a = i ∧ b = j)) (h0 : i = t → j = t → ∀ a b, ¬ V a b) :
    LSP f t V' (if f i j ≠ 0 ∧ (st.1 < 0 ∨ (f i j).natAbs < (f st.1.toNat st.2.toNat).natAbs) then (((i : Nat) : Int), ((j : Nat) : Int)) else st) := by
  rcases h with ⟨rfl, h1⟩ | ⟨p, q, rfl, h1, h2, h3, h4⟩
  · by_cases hz : f i j = 0
    · rw [if_neg (by simp [hz])]
      refine .inl ⟨rfl, fun a b hab => ?_⟩
      rcases (hV a b).1 hab with h | ⟨rfl, rfl⟩
      · exact h1 a b h
      · exact hz
    · rw [if_pos ⟨hz, .inl (by decide)⟩]
      refine .inr ⟨i, j, rfl, (hV i j).2 (.inr ⟨rfl, rfl⟩), hz, fun a b hab hne => ?_, fun ht htz hne => ?_⟩
      · rcases (hV a b).1 hab with h | ⟨rfl, rfl⟩
        · exact absurd (h1 a b h) hne
        · exact Nat.le_refl _
      · rcases (hV t t).1 ht with h | ⟨h5, h6⟩
        · exact absurd (h1 t t h) htz
        · exact absurd ⟨h5.symm, h6.symm⟩ hne
  · simp only [Int.toNat_natCast]
    by_cases hc : f i j ≠ 0 ∧ ((p : Int) < 0 ∨ (f i j).natAbs < (f p q).natAbs)
    · rw [if_pos hc]
      have hlt : (f i j).natAbs < (f p q).natAbs := hc.2.resolve_left (by omega)
      refine .inr ⟨i, j, rfl, (hV i j).2 (.inr ⟨rfl, rfl⟩), hc.1, fun a b hab hne => ?_, fun ht htz hne => ?_⟩
      · rcases (hV a b).1 hab with h | ⟨rfl, rfl⟩
        · exact Nat.le_trans (Nat.le_of_lt hlt) (h3 a b h hne)
        · exact Nat.le_refl _
      · rcases (hV t t).1 ht with h | ⟨h5, h6⟩
        · exact Nat.lt_of_lt_of_le hlt (h3 t t h htz)
        · exact absurd ⟨h5.symm, h6.symm⟩ hne
    · rw [if_neg hc]
      refine .inr ⟨p, q, rfl, (hV p q).2 (.inl h1), h2, fun a b hab hne => ?_, fun ht htz hne => ?_⟩
      · rcases (hV a b).1 hab with h | ⟨rfl, rfl⟩
        · exact h3 a b h hne
        · exact Nat.le_of_not_lt fun hlt => hc ⟨hne, .inr hlt⟩
      · rcases (hV t t).1 ht with h | ⟨h5, h6⟩
        · exact h4 h htz hne
        · exact absurd h1 (h0 h5.symm h6.symm p q)
theorem LSP.as {f : Fn2} {t : Nat} {V V' : Nat → Nat → Prop} {st : Int × Int} (h : LSP f t V st) (hV : ∀ a b, V' a b ↔ V a b) : LSP f t V' st := by
  have e : V' = V := funext fun a => funext fun b => propext (hV a b)
  rw [e]; exact h
theorem lsI_P {f : Fn2} {t D i : Nat} {st : Int × Int} (hi : t ≤ i) (h : LSP f t (fun a b => t ≤ a ∧ a < i ∧ t ≤ b ∧ b < t + D) st) :
    ∀ n, n ≤ D → LSP f t (fun a b => t ≤ a ∧ t ≤ b ∧ b < t + D ∧ (a < i ∨ a = i ∧ b < t + n)) (lsI f i t st n)
  | 0, _ => h.as fun a b => by omega
  | n + 1, hn => by
    rw [lsI_succ]
    refine LSP.step (lsI_P hi h n (by omega)) (fun a b => by omega) (fun h1 h2 a b => by omega)
theorem lsO_P (f : Fn2) (t D : Nat) : ∀ m, LSP f t (fun a b => t ≤ a ∧ a < t + m ∧ t ≤ b ∧ b < t + D) (lsO f t D m)
  | 0 => .inl ⟨rfl, fun i j h => by omega⟩
  | m + 1 => (lsI_P (by omega) (lsO_P f t D m) D (Nat.le_refl _)).as fun a b => by omega
theorem ls2_P (R C : Nat) (f : Fn2) (t : Nat) : LSP f t (fun a b => t ≤ a ∧ a < R ∧ t ≤ b ∧ b < C) (ls2 R C f t) :=
  (lsO_P f t (C - t) (R - t)).as fun a b => by omega
/-- The first of the search. -/
theorem ls2_cases (R C : Nat) (f : Fn2) (t : Nat) : (ls2 R C f t = (-1, -1) ∧ ∀ i j, t ≤ i → i < R → t ≤ j → j < C → f i j = 0) ∨
    ∃ p q : Nat, ls2 R C f t = ((p : Int), (q : Int)) ∧ (t ≤ p ∧ p < R ∧ t ≤ q ∧ q < C) ∧ f p q ≠ 0 ∧ (∀ i j, t ≤ i → i < R → t ≤ j → j < C → f i j ≠ 0 → (f p q).natAbs ≤ (f i j).natAbs) ∧ (t < R → t < C → f t t ≠ 0 → ¬ (p = t ∧ q = t) → (f p q).natAbs < (f t t).natAbs) := by
  rcases ls2_P R C f t with ⟨h1, h2⟩ | ⟨p, q, h1, h2, h3, h4, h5⟩
  · exact .inl ⟨h1, fun i j a b c d => h2 i j ⟨a, b, c, d⟩⟩
  · exact .inr ⟨p, q, h1, h2, h3, fun i j a b c d => h4 i j ⟨a, b, c, d⟩, fun a b => h5 ⟨Nat.le_refl _, a, Nat.le_refl _, b⟩⟩
theorem ls2_some {R C : Nat} {f : Fn2} {t i j : Nat} (h1 : t ≤ i) (h2 : i < R) (h3 : t ≤ j) (h4 : j < C) (hne : f i j ≠ 0) :
    ∃ p q : Nat, ls2 R C f t = ((p : Int), (q : Int)) ∧ (t ≤ p ∧ p < R ∧ t ≤ q ∧ q < C) ∧ f p q ≠ 0 ∧ (f p q).natAbs ≤ (f i j).natAbs := by
  rcases ls2_cases R C f t with ⟨_, h⟩ | ⟨p, q, a, b, c, d, e⟩
  · exact absurd (h i j h1 h2 h3 h4) hne
  · exact ⟨p, q, a, b, c, d i j h1 h2 h3 h4 hne⟩
-- a round
def sfA1 (t r : Nat) (s : SS) : SS := if r = t then s else s.wr (s.row.swap r t)
def sfA2 (t c : Nat) (s : SS) : SS := if c = t then s else s.wc (s.col.swap c t)
def sfB (R t : Nat) (s : SS) : SS := s.wr (swS t t t s.row (R - t))
def sfC (C t : Nat) (s : SS) : SS := s.wc (swS t t t s.col (C - t))
def clnS (R C t : Nat) (f : Fn2) : Bool := !(oth R f t t t) && !(oth C (tp f) t t t)
def fdR (f : Fn2) (t C i : Nat) : Bool := (List.range (C - (t + 1))).any fun n => decide (f i (t + 1 + n) ≠ bad) && decide ((f i (t + 1 + n)).tmod (f t t) ≠ 0)
def fdS (f : Fn2) (t C : Nat) (i : Nat) : Nat → Option Nat
  | 0 => none
  | m + 1 => if fdR f t C i then some i else fdS f t C (i + 1) m
def fd (R C t : Nat) (f : Fn2) : Option Nat := fdS f t C (t + 1) (R - (t + 1))
def sfD (R C t : Nat) (s : SS) : SS × Bool := if clnS R C t s.f then (match fd R C t s.f with | some i => (s.wr (s.row.add t i 1), false) | none => (s, true)) else (s, false)
def sfA (R C t : Nat) (s : SS) : SS := sfA2 t (ls2 R C s.f t).2.toNat (sfA1 t (ls2 R C s.f t).1.toNat s)
def rnd (R C t : Nat) (s : SS) : SS × Bool := sfD R C t (sfC C t (sfB R t (sfA R C t s)))
theorem fdR_iff {f : Fn2} {t C i : Nat} : fdR f t C i = true ↔ ∃ j, t < j ∧ j < C ∧ f i j ≠ bad ∧ (f i j).tmod (f t t) ≠ 0 := by
  unfold fdR
  rw [List.any_eq_true]
  constructor
  · rintro ⟨n, hn, h⟩
    have hn' := List.mem_range.1 hn
    rw [Bool.and_eq_true, decide_eq_true_eq, decide_eq_true_eq] at h
    exact ⟨t + 1 + n, by omega, by omega, h.1, h.2⟩
  · rintro ⟨j, h1, h2, h3, h4⟩
    refine ⟨j - (t + 1), List.mem_range.2 (by omega), ?_⟩
    rw [show t + 1 + (j - (t + 1)) = j by omega, Bool.and_eq_true, decide_eq_true_eq, decide_eq_true_eq]
    exact ⟨h3, h4⟩
theorem fdR_no {f : Fn2} {t C i : Nat} (h : ∀ j, t < j → j < C → ¬ (f i j ≠ bad ∧ (f i j).tmod (f t t) ≠ 0)) : fdR f t C i = false := by
  refine Bool.eq_false_iff.2 fun hc => ?_
  obtain ⟨j, h1, h2, h3⟩ := fdR_iff.1 hc
  exact h j h1 h2 h3
theorem fdS_yes {f : Fn2} {t C i m : Nat} (h : fdR f t C i = true) : fdS f t C i (m + 1) = some i := by
  show (if _ then _ else _) = _
  rw [if_pos h]
theorem fdS_no {f : Fn2} {t C i m : Nat} (h : fdR f t C i = false) : fdS f t C i (m + 1) = fdS f t C (i + 1) m := by
  show (if _ then _ else _) = _
  rw [if_neg (by rw [h]; exact Bool.false_ne_true)]
theorem fdS_some {f : Fn2} {t C k : Nat} : ∀ m i, fdS f t C i m = some k → i ≤ k ∧ k < i + m ∧ fdR f t C k = true
  | 0, i, h => by cases h
  | m + 1, i, h => by
    rcases hr : fdR f t C i with _ | _
    · rw [fdS_no hr] at h
      obtain ⟨a, b, c⟩ := fdS_some m (i + 1) h
      exact ⟨by omega, by omega, c⟩
    · rw [fdS_yes hr] at h
      cases h
      exact ⟨Nat.le_refl _, by omega, hr⟩
theorem fd_some {R C t k : Nat} {f : Fn2} (h : fd R C t f = some k) : t < k ∧ k < R ∧ fdR f t C k = true := by
  obtain ⟨a, b, c⟩ := fdS_some _ _ h
  exact ⟨by omega, by omega, c⟩
section
variable {R C t : Nat} {s : SS}
theorem SGD.a1 {r : Nat} (h : SGD R C s) (hr : r < R) (ht : t < R) : SGD R C (sfA1 t r s) := by
  unfold sfA1
  split
  · exact h
  · exact h.wr (h.row.swap hr ht)
theorem SGD.a2 {c : Nat} (h : SGD R C s) (hc : c < C) (ht : t < C) : SGD R C (sfA2 t c s) := by
  unfold sfA2
  split
  · exact h
  · exact h.wc (h.col.swap hc ht)
theorem sfA_piv (r c : Nat) (s : SS) : (sfA2 t c (sfA1 t r s)).f t t = s.f r c := by
  have h1 : ∀ y, (sfA1 t r s).f t y = s.f r y := fun y => by
    unfold sfA1
    split
    · rename_i h; rw [h]
    · exact swF_t s.f r t y
  have h2 : (sfA2 t c (sfA1 t r s)).f t t = (sfA1 t r s).f t c := by
    unfold sfA2
    split
    · rename_i h; rw [h]
    · exact swF_t (tp (sfA1 t r s).f) c t t
  rw [h2, h1]
theorem sfA_same (s : SS) : sfA2 t t (sfA1 t t s) = s := by
  unfold sfA1 sfA2
  rw [if_pos rfl, if_pos rfl]
theorem sfB_nb (h : s.NBS) : (sfB R t s).NBS := h.wr (swS_nb h.row _)
theorem sfC_nb (h : s.NBS) : (sfC C t s).NBS := h.wc (swS_nb h.col _)
theorem sfD_nb (h : s.NBS) : (sfD R C t s).1.NBS := by
  unfold sfD
  split
  · split
    · exact h.wr (h.row.add _ _ _)
    · exact h
  · exact h
theorem sfB_back (h : s.NBS) (hk : (sfB R t s).OK R C) : s.OK R C := by
  have h1 := swS_back' (R := R) (C := C) h.row 0 (R - t) (by rw [Nat.zero_add]; exact hk.ofRow)
  exact ⟨h1.f, h1.g, hk.h⟩
theorem sfC_back (h : s.NBS) (hk : (sfC C t s).OK R C) : s.OK R C := by
  have h1 := swS_back' (R := C) (C := R) h.col 0 (C - t) (by rw [Nat.zero_add]; exact hk.ofCol)
  exact ⟨tp_ok h1.f, hk.g, tp_ok h1.g⟩
theorem sfD_back (h : s.NBS) (hk : (sfD R C t s).1.OK R C) : s.OK R C := by
  unfold sfD at hk
  split at hk
  · split at hk
    · have h1 := HS.OK.back h.row hk.ofRow
      exact ⟨h1.f, h1.g, hk.h⟩
    · exact hk
  · exact hk
theorem rnd_back (h : (sfA R C t s).NBS) (hk : (rnd R C t s).1.OK R C) : (sfB R t (sfA R C t s)).OK R C ∧ (sfC C t (sfB R t (sfA R C t s))).OK R C := by
  have h1 := sfD_back (sfC_nb (sfB_nb h)) hk
  exact ⟨sfC_back (sfB_nb h) h1, h1⟩
end
-- rounds till nothing is left
def lsV (R C t : Nat) (s : SS) : Nat := (s.f (ls2 R C s.f t).1.toNat (ls2 R C s.f t).2.toNat).natAbs
def flg (R C t : Nat) (s : SS) : Nat := if (s.f t t).natAbs = lsV R C t s ∧ fdR s.f t C t = true then 0 else 1
def sfMs (R C t : Nat) (s : SS) : Nat := 2 * lsV R C t s + flg R C t s
theorem flg_le (R C t : Nat) (s : SS) : flg R C t s ≤ 1 := by unfold flg; split <;> omega
theorem lsV_le {R C t i j : Nat} {s : SS} (h1 : t ≤ i) (h2 : i < R) (h3 : t ≤ j) (h4 : j < C) (hne : s.f i j ≠ 0) : lsV R C t s ≤ (s.f i j).natAbs := by
  obtain ⟨p, q, e, _, _, h⟩ := ls2_some h1 h2 h3 h4 hne
  unfold lsV
  rw [e]
  exact h
theorem tmodz_iff {a b : Int} : a.tmod b = 0 ↔ a % b = 0 := by
  rw [← Int.dvd_iff_tmod_eq_zero, ← Int.dvd_iff_emod_eq_zero]
theorem rnd_facts {R C t : Nat} {s1 : SS} (h : s1.NBS) (ht : t < R) (htC : t < C) (hP : s1.f t t ≠ 0) (hB : (sfB R t s1).OK R C) (hC : (sfC C t (sfB R t s1)).OK R C) :
    (sfC C t (sfB R t s1)).f t t = s1.f t t ∧ (∀ x, t < x → x < R → (sfC C t (sfB R t s1)).f x t = s1.f x t % s1.f t t) ∧ (∀ y, t < y → y < C → (sfC C t (sfB R t s1)).f t y = s1.f t y % s1.f t t) := by
  have b1 : ∀ y, (sfB R t s1).f t y = s1.f t y := fun y => swS_p (j := t) (p := t) (t := t) (s := s1.row) y (R - t)
  have b2 : ∀ x, t < x → x < R → (sfB R t s1).f x t = s1.f x t % s1.f t t := fun x h1 h2 => swS_col h.row htC ht hP (R - t) (by omega) hB.ofRow x (by omega) (by omega) (by omega)
  have c1 : ∀ x, (sfC C t (sfB R t s1)).f x t = (sfB R t s1).f x t := fun x => swS_p (j := t) (p := t) (t := t) (s := (sfB R t s1).col) x (C - t)
  have hP2 : (sfB R t s1).f t t ≠ 0 := by rw [b1]; exact hP
  have c2 : ∀ y, t < y → y < C → (sfC C t (sfB R t s1)).f t y = (sfB R t s1).f t y % (sfB R t s1).f t t := fun y h1 h2 => swS_col (sfB_nb h).col ht htC hP2 (C - t) (by omega) hC.ofCol y (by omega) (by omega) (by omega)
  refine ⟨by rw [c1, b1], fun x h1 h2 => by rw [c1, b2 x h1 h2], fun y h1 h2 => by rw [c2 y h1 h2, b1, b1]⟩
theorem emod_small {a b : Int} (hb : b ≠ 0) : (a % b).natAbs < b.natAbs := by
  have h5 := Int.emod_nonneg a hb
  have h6 := Int.emod_lt a hb
  omega
theorem clnS_no {R C t : Nat} {f : Fn2} (h : clnS R C t f = false) : (∃ x, t < x ∧ x < R ∧ f x t ≠ 0) ∨ ∃ y, t < y ∧ y < C ∧ f t y ≠ 0 := by
  unfold clnS at h
  rcases h1 : oth R f t t t with _ | _
  · rw [h1] at h
    have h2 : oth C (tp f) t t t = true := by simpa using h
    obtain ⟨i, a, b, c, d⟩ := oth_iff.1 h2
    exact .inr ⟨i, by omega, b, d⟩
  · obtain ⟨i, a, b, c, d⟩ := oth_iff.1 h1
    exact .inl ⟨i, by omega, b, d⟩
theorem clnS_yes {R C t : Nat} {f : Fn2} (h : clnS R C t f = true) : (∀ x, t < x → x < R → f x t = 0) ∧ ∀ y, t < y → y < C → f t y = 0 := by
  unfold clnS at h
  rw [Bool.and_eq_true, Bool.not_eq_true', Bool.not_eq_true'] at h
  refine ⟨fun x h1 h2 => ?_, fun y h1 h2 => ?_⟩
  · refine Decidable.byContradiction fun hne => ?_
    have := oth_iff.2 (show ∃ i, t ≤ i ∧ i < R ∧ i ≠ t ∧ f i t ≠ 0 from ⟨x, by omega, h2, by omega, hne⟩)
    rw [h.1] at this; cases this
  · refine Decidable.byContradiction fun hne => ?_
    have := oth_iff.2 (show ∃ i, t ≤ i ∧ i < C ∧ i ≠ t ∧ (tp f) i t ≠ 0 from ⟨y, by omega, h2, by omega, hne⟩)
    rw [h.2] at this; cases this
theorem rnd_lt {R C t p q : Nat} {s : SS} (h : SGD R C s) (ht : t < R) (htC : t < C) (e : ls2 R C s.f t = ((p : Int), (q : Int))) (hpR : p < R) (hqC : q < C) (hpq : s.f p q ≠ 0) (hfirst : s.f t t ≠ 0 → ¬ (p = t ∧ q = t) → (s.f p q).natAbs < (s.f t t).natAbs)
    (hk : (rnd R C t s).1.OK R C) (hd : (rnd R C t s).2 = false) : sfMs R C t (rnd R C t s).1 < sfMs R C t s ∧ (rnd R C t s).1.f t t ≠ 0 := by
  have eA : sfA R C t s = sfA2 t q (sfA1 t p s) := by unfold sfA; rw [e]; rfl
  have hA : SGD R C (sfA R C t s) := by rw [eA]; exact (h.a1 hpR ht).a2 hqC htC
  have hpiv : (sfA R C t s).f t t = s.f p q := by rw [eA]; exact sfA_piv p q s
  obtain ⟨hB, hC⟩ := rnd_back hA.nb hk
  have hP : (sfA R C t s).f t t ≠ 0 := by rw [hpiv]; exact hpq
  obtain ⟨f1, f2, f3⟩ := rnd_facts hA.nb ht htC hP hB hC
  have hV : lsV R C t s = (s.f p q).natAbs := by unfold lsV; rw [e]; rfl
  have hnbC : (sfC C t (sfB R t (sfA R C t s))).NBS := sfC_nb (sfB_nb hA.nb)
  unfold rnd at hk hd ⊢
  generalize e2 : sfC C t (sfB R t (sfA R C t s)) = s2 at *
  rw [hpiv] at f1 f2 f3
  have fl2 := flg_le R C t s2
  unfold sfD at hk hd ⊢
  rcases hcl : clnS R C t s2.f with _ | _
  · rw [if_neg Bool.false_ne_true]
    refine ⟨?_, by show s2.f t t ≠ 0; rw [f1]; exact hpq⟩
    have hlt : lsV R C t s2 < (s.f p q).natAbs := by
      rcases clnS_no hcl with ⟨x, h1, h2, h3⟩ | ⟨y, h1, h2, h3⟩
      · have h4 := lsV_le (s := s2) (R := R) (C := C) (t := t) (by omega) h2 (Nat.le_refl _) htC h3
        have h5 := emod_small (a := (sfA R C t s).f x t) hpq
        rw [← f2 x h1 h2] at h5
        omega
      · have h4 := lsV_le (s := s2) (R := R) (C := C) (t := t) (Nat.le_refl _) ht (by omega) h2 h3
        have h5 := emod_small (a := (sfA R C t s).f t y) hpq
        rw [← f3 y h1 h2] at h5
        omega
    unfold sfMs
    show 2 * lsV R C t s2 + flg R C t s2 < _
    omega
  · rw [if_pos hcl] at hk hd
    rw [if_pos rfl]
    rcases hf : fd R C t s2.f with _ | i
    · rw [hf] at hd; cases hd
    · rw [hf] at hk
      obtain ⟨z1, z2⟩ := clnS_yes hcl
      obtain ⟨i1, i2, i3⟩ := fd_some hf
      obtain ⟨y0, y1, y2, y3, y4⟩ := fdR_iff.1 i3
      have hk2 : OKF R C (opA s2.f t i 1) := hk.f
      have hval : ∀ y, y < C → opA s2.f t i 1 t y = s2.f t y + s2.f i y := fun y hy => by
        obtain ⟨_, _, a, _⟩ := opA_num (hk2 t y ht hy)
        rw [a, Int.mul_one]
      have v1 : opA s2.f t i 1 t t = s.f p q := by rw [hval t htC, z1 i i1 i2, f1, Int.add_zero]
      have v2 : opA s2.f t i 1 t y0 = s2.f i y0 := by rw [hval y0 y2, z2 y0 y1 y2, Int.zero_add]
      have v3 : (opA s2.f t i 1 t y0).tmod (opA s2.f t i 1 t t) ≠ 0 := by rw [v1, v2, ← f1]; exact y4
      have hnz : opA s2.f t i 1 t t ≠ 0 := by rw [v1]; exact hpq
      refine ⟨?_, hnz⟩
      have h4 := lsV_le (s := s2.wr (s2.row.add t i 1)) (R := R) (C := C) (t := t) (Nat.le_refl _) ht (Nat.le_refl _) htC hnz
      have h5 : ((s2.wr (s2.row.add t i 1)).f t t).natAbs = (s.f p q).natAbs := by rw [← v1]; rfl
      have h6 := flg_le R C t (s2.wr (s2.row.add t i 1))
      show sfMs R C t (s2.wr (s2.row.add t i 1)) < _
      unfold sfMs
      rw [hV]
      by_cases hlt : lsV R C t (s2.wr (s2.row.add t i 1)) < (s.f p q).natAbs
      · omega
      · have hE : lsV R C t (s2.wr (s2.row.add t i 1)) = (s.f p q).natAbs := by omega
        have hf0 : flg R C t (s2.wr (s2.row.add t i 1)) = 0 := by
          unfold flg
          rw [if_pos ⟨by rw [hE, h5], fdR_iff.2 ⟨y0, y1, y2, (hk2 t y0 ht y2).ne, v3⟩⟩]
        have hf1 : flg R C t s = 1 := by
          unfold flg
          rw [if_neg]
          rintro ⟨g1, g2⟩
          rw [hV] at g1
          have htz : s.f t t ≠ 0 := by intro h0; rw [h0] at g1; simp at g1; omega
          have hpt : p = t ∧ q = t := Decidable.byContradiction fun hc => by have := hfirst htz hc; omega
          have eS : sfA R C t s = s := by rw [eA, hpt.1, hpt.2]; exact sfA_same s
          obtain ⟨y, k1, k2, k3, k4⟩ := fdR_iff.1 g2
          have := f3 y k1 k2
          rw [z2 y k1 k2, eS, hpt.1, hpt.2] at this
          exact k4 (tmodz_iff.2 this.symm)
        omega
/-- Rounds till nothing is left at (t, t). -/
def sfIn (R C t : Nat) (s : SS) : Option SS :=
  if (rnd R C t s).1.ok R C then
    if (rnd R C t s).2 then some (rnd R C t s).1
    else if h : sfMs R C t (rnd R C t s).1 < sfMs R C t s then sfIn R C t (rnd R C t s).1 else none
  else none
termination_by sfMs R C t s
theorem sfIn_bad {R C t : Nat} {s : SS} (h : (rnd R C t s).1.ok R C = false) : sfIn R C t s = none := by
  rw [sfIn, if_neg (by rw [h]; exact Bool.false_ne_true)]
theorem sfIn_done {R C t : Nat} {s : SS} (h : (rnd R C t s).1.ok R C = true) (h2 : (rnd R C t s).2 = true) : sfIn R C t s = some (rnd R C t s).1 := by
  rw [sfIn, if_pos h, if_pos h2]
theorem sfIn_next {R C t : Nat} {s : SS} (h : (rnd R C t s).1.ok R C = true) (h2 : (rnd R C t s).2 = false) (h3 : sfMs R C t (rnd R C t s).1 < sfMs R C t s) : sfIn R C t s = sfIn R C t (rnd R C t s).1 := by
  conv => lhs; rw [sfIn]
  rw [if_pos h, if_neg (by rw [h2]; exact Bool.false_ne_true), dif_pos h3]
def sfN (t : Nat) (s : SS) : SS := if s.f t t < 0 then s.wr (s.row.neg t) else s
theorem SGD.n {R C t : Nat} {s : SS} (h : SGD R C s) (ht : t < R) : SGD R C (sfN t s) := by
  unfold sfN
  split
  · exact h.wr (h.row.neg ht)
  · exact h
def sfOut (R C : Nat) : Nat → Nat → SS → Option SS
  | 0, _, s => some s
  | m + 1, t, s => if (ls2 R C s.f t).1 < 0 then some s else (sfIn R C t s).bind fun s' => sfOut R C m (t + 1) (sfN t s')
def sfGo (R C m t : Nat) (o : Option SS) : Option SS := o.bind fun s' => sfOut R C m (t + 1) (sfN t s')
theorem sfOut_zero (R C t : Nat) (s : SS) : sfOut R C 0 t s = some s := rfl
theorem sfOut_stop {R C m t : Nat} {s : SS} (h : (ls2 R C s.f t).1 < 0) : sfOut R C (m + 1) t s = some s := by
  show (if _ then _ else _) = _
  rw [if_pos h]
theorem sfOut_go {R C m t : Nat} {s : SS} (h : ¬ (ls2 R C s.f t).1 < 0) : sfOut R C (m + 1) t s = sfGo R C m t (sfIn R C t s) := by
  show (if _ then _ else _) = _
  rw [if_neg h]
  rfl
def sfRun (R C : Nat) (f : Fn2) : Option SS := sfOut R C (min R C) 0 ⟨f, idF, idF⟩
def sfX (r c : Int) (xs : List Int) : Option SS := if isMat r c xs then sfRun r.toNat c.toNat (fun i j => cel xs c i j) else none
theorem sfX_no {r c : Int} {xs : List Int} (h : isMat r c xs = false) : sfX r c xs = none := by unfold sfX; rw [h]; rfl
theorem sfX_yes {R C : Nat} {xs : List Int} (h : isMat R C xs = true) : sfX R C xs = sfOut R C (min R C) 0 ⟨fun i j => cel xs C i j, idF, idF⟩ := by unfold sfX; rw [h]; rfl
end Go.Proofs.Ytacjonkehcamgaa

/-
  DERIVED. l5Do for sums and signs; rowOp for signs.
-/
namespace Go.Proofs.Ytacjonkehcamgaa
open Go.RowKit
set_option linter.unusedVariables false
set_option linter.unusedSimpArgs false
/-- The first k columns of row i as in F. -/
def roK (f F : Fn2) (i k : Nat) : Fn2 := fun x y => if x = i ∧ y < k then F i y else f x y
theorem roK_zero (f F : Fn2) (i : Nat) : roK f F i 0 = f := by funext x y; simp [roK]
theorem roK_step (f F : Fn2) (i k : Nat) : upd (roK f F i k) i k (F i k) = roK f F i (k + 1) := by
  funext x y
  unfold upd roK
  by_cases h : x = i ∧ y = k
  · rw [if_pos h, if_pos ⟨h.1, by omega⟩, h.2]
  · rw [if_neg h]
    by_cases h2 : x = i ∧ y < k
    · rw [if_pos h2, if_pos ⟨h2.1, by omega⟩]
    · rw [if_neg h2, if_neg]
      rintro ⟨h3, h4⟩
      exact h2 ⟨h3, by have : y ≠ k := fun e => h ⟨h3, e⟩; omega⟩
theorem roK_at (f F : Fn2) (i k : Nat) : roK f F i k i k = f i k := by simp [roK]
theorem roK_atj {f F : Fn2} {i j : Nat} (h : i ≠ j) (k : Nat) : roK f F i k j k = f j k := by simp [roK, Ne.symm h]
theorem roK_end {f F : Fn2} {R C i : Nat} (h : ∀ x y, x ≠ i → F x y = f x y) : tb R C (roK f F i C) = tb R C F :=
  tb_ext fun x y hx hy => by
    unfold roK
    by_cases h2 : x = i
    · subst h2; rw [if_pos ⟨rfl, hy⟩]
    · rw [if_neg (fun h3 => h2 h3.1), h x y h2]
theorem NB.one : NB (-1) := .inr (by omega)
theorem opN_other {f : Fn2} {i x y : Nat} (h : x ≠ i) : opN f i x y = f x y := by unfold opN; rw [if_neg h]
set_option maxRecDepth 100000 in
set_option maxHeartbeats 4000000 in
theorem spec_l5Do_add (R C p t : Nat) (ti : Int) (A : Option Addr) (n cap : Nat) (f : Nat → Nat → Int) (w : World) {B : Nat} (h : OR w B (.slice A n cap) (tb R C f)) (hp : p < R) (ht : t < R) (hpt : p ≠ t) (hm : Num ti) (hf : NBF f) (hC0 : 0 < C) (hC : C ≤ 24) (hR : R ≤ 24) :
    Calls Try.prog 203 #[.agg #[.int .i64 R, .int .i64 C, .slice A n cap], .agg #[.int .i64 2, .int .i64 p, .int .i64 t, .int .i64 ti]] w (WW (.tuple #[]) (.slice A n cap) B (tb R C (opA f p t ti)) w) := by
  have hn := h.lenEq
  rw [tb_len] at hn
  have hcaps := h.caps
  have hP := idx_nat hp (show C - 1 < C by omega)
  have hT := idx_nat ht (show C - 1 < C by omega)
  obtain ⟨g, rfl, hg1, hg2⟩ := h.begins (by rw [tb_len]; omega)
  have hP2 : p * C + C ≤ n := by omega
  have hT2 : t * C + C ≤ n := by omega
  have HN := Lib.hid hn
  have HPT := Lib.hid hpt
  have HF := Lib.hid hf
  have HM := Lib.hid hm
  have hm : R * C ≤ 24 * 24 := Nat.mul_le_mul hR hC
  have p1 : (p : Int) * (C : Int) = ((p * C : Nat) : Int) := by rw [Int.natCast_mul]
  have t1 : (t : Int) * (C : Int) = ((t * C : Nat) : Int) := by rw [Int.natCast_mul]
  have P1 := Lib.hid p1
  have T1 := Lib.hid t1
  have b1 : 0 ≤ (p : Int) * (C : Int) ∧ (p : Int) * (C : Int) + C ≤ n ∧ (p : Int) * (C : Int) ≤ 10000 := by omega
  have b2 : 0 ≤ (t : Int) * (C : Int) ∧ (t : Int) * (C : Int) + C ≤ n ∧ (t : Int) * (C : Int) ≤ 10000 := by omega
  obtain ⟨b1a, b1b, b1c⟩ := b1
  obtain ⟨b2a, b2b, b2c⟩ := b2
  clear hn hpt hP hT p1 t1 hf hm
  go_enter Try.func203, Try.ntmps203
  go_wp2_with fail
  go_loopw [4] (fun u wr => ∃ k : Nat, u = .int .i64 k ∧ k ≤ C ∧ OR wr B (.slice (some ⟨g, 0, none⟩) n cap) (tb R C (roK f (opA f p t ti) p k)) ∧ BM wr w.heap.size R C (some ⟨g, 0, none⟩) n cap ∧ Blk wr (w.heap.size + 1) 66 #[.int .i64 2, .int .i64 p, .int .i64 t, .int .i64 ti] ∧ w.grownBy wr (some g) ∧ w.heap.size ≤ wr.heap.size) (fun v _ => C - (intOf v).toNat)
  case atStart => exact ⟨0, rfl, Nat.zero_le _, by rw [roK_zero]; (with_reducible (repeat (first | exact h | refine OR.drew ?_ | refine OR.drewN ?_ _ | refine OR.alloc ?_ _ | refine OR.b_ ?_ | refine OR.l_ ?_))), Ka, by (with_reducible (repeat (first | assumption | refine Blk.new_at _ _ _ _ Ks | refine Blk.below ?_ (by assumption) Ks | apply Blk.drew | apply Blk.drewN | refine Blk.far ?_ (by simp only [ne_eq]; omega) _ | apply Blk.alloc))), by (with_reducible (repeat (first | assumption | exact World.grownBy.refl _ _ | refine only_alloc ?_ _ | refine only_drewN ?_ _ | refine only_drew ?_ | refine only_set ?_ _ _ | refine grown_far ?_ Ks _ | refine only_trans ?_ (only_of_below (by assumption) _) | refine only_trans ?_ (by assumption)))), by simp; omega⟩
  case round =>
    clear h
    obtain ⟨k, rfl, hk, hown, hM, hO, hgr, hsz⟩ := hrel
    obtain ⟨oa, ob, oc, of, ol⟩ := hM.mx
    have x0 := hO.cell 0
    have x1 := hO.cell 1
    have x2 := hO.cell 2
    have x3 := hO.cell 3
    have hl := hO.lt
    simp at x0 x1 x2 x3
    by_cases hkC : k < C
    · have c1 := hown.cell (p * C + k) (by rw [tb_len]; exact idx_nat hp hkC)
      have c2 := hown.cell (t * C + k) (by rw [tb_len]; exact idx_nat ht hkC)
      rw [tb_at hp hkC] at c1
      rw [tb_at ht hkC] at c2
      rw [roK_at] at c1
      rw [roK_atj HPT.out] at c2
      have f1 := hown.frozen (p * C + k)
      have hs1 := hown.set_ (p * C + k) (opA f p t ti p k)
      rw [tb_set hp hkC, roK_step] at hs1
      have HX := Lib.hid (HF.out p k)
      have HY := Lib.hid (HF.out t k)
      have HE : Hid (opA f p t ti p k = addB (f p k) (mulF (f t k) ti)) := Lib.hid (by unfold opA; rw [if_pos rfl])
      have hne2 : ¬ g = w.heap.size + 1 := by omega
      generalize opA f p t ti p k = v at *
      generalize f t k = y at *
      generalize f p k = x at *
      go_wp2
      have i1 := P1.out
      have hpk : p * C + k < n := by omega
      have g1 : IntKind.i64.wrap ((p : Int) * (C : Int)) = (p : Int) * (C : Int) := IntWalk.i64_in _ (by omega)
      have g2 : IntKind.i64.wrap ((p : Int) * (C : Int) + (k : Int)) = (p : Int) * (C : Int) + (k : Int) := IntWalk.i64_in _ (by omega)
      have g6 : 0 ≤ (p : Int) * (C : Int) + (k : Int) ∧ (p : Int) * (C : Int) + (k : Int) < (n : Int) := by omega
      have e5 : ((p : Int) * (C : Int) + (k : Int)).toNat = p * C + k := by omega
      rw [← e5] at c1 f1 hs1
      clear i1 e5
      have hne3 : ¬ g = w.heap.size := by omega
      have hne4 : ¬ w.heap.size = g := by omega
      have hne5 : ¬ w.heap.size + 1 = g := by omega
      ((refine wp_region_held_drew (S := (fun w' => w'.cell? ⟨w.heap.size, 1, none⟩ = some (.int .i64 C) ∧ w'.cell? ⟨w.heap.size, 2, none⟩ = some (.slice (some ⟨g, 0, none⟩) n cap) ∧ w'.cell? ⟨w.heap.size + 1, 1, none⟩ = some (.int .i64 p) ∧ w'.cell? ⟨w.heap.size + 1, 3, none⟩ = some (.int .i64 ti))) (by kernel_rfl) ?_ (fun hHeld => ?_)); ((focus ((try dsimp only); (go_keep)))); ((refine tk_ (i := 0) (v := ?_) (y := Or.inl ⟨by rfl, ?_⟩) (h := ?_); rotate_left; (focus (((intro w hSw; (try dsimp only at hSw); go_simp) <;> (try with_reducible rfl)); done)); (try simp only [Act.put, p1_, p2_, p3_]))); ((refine tk_ (i := 1) (v := ?_) (y := Or.inl ⟨by rfl, ?_⟩) (h := ?_); rotate_left; (focus (((intro w hSw; (try dsimp only at hSw); go_simp) <;> (try with_reducible rfl)); done)); (try simp only [Act.put, p1_, p2_, p3_]))); ((refine tk_ (i := 2) (v := ?_) (y := Or.inl ⟨by rfl, ?_⟩) (h := ?_); rotate_left; (focus (((intro w hSw; (try dsimp only at hSw); go_simp) <;> (try with_reducible rfl)); done)); (try simp only [Act.put, p1_, p2_, p3_]))); ((refine tk_ (i := 3) (v := ?_) (y := Or.inl ⟨by rfl, ?_⟩) (h := ?_); rotate_left; (focus (((intro w hSw; (try dsimp only at hSw); go_simp) <;> (try with_reducible rfl)); done)); (try simp only [Act.put, p1_, p2_, p3_]))); ((refine tk_ (i := 4) (v := ?_) (y := Or.inl ⟨by rfl, ?_⟩) (h := ?_); rotate_left; (focus (((intro w hSw; (try dsimp only at hSw); go_simp) <;> (try with_reducible rfl)); done)); (try simp only [Act.put, p1_, p2_, p3_]))); ((refine tk_ (i := 5) (v := ?_) (y := Or.inl ⟨by rfl, ?_⟩) (h := ?_); rotate_left; (focus (((intro w hSw; (try dsimp only at hSw); go_simp) <;> (try with_reducible rfl)); done)); (try simp only [Act.put, p1_, p2_, p3_]))); ((refine tk_ (i := 6) (v := ?_) (y := Or.inl ⟨by rfl, ?_⟩) (h := ?_); rotate_left; (focus (((intro w hSw; (try dsimp only at hSw); go_simp) <;> (try with_reducible rfl)); done)); (try simp only [Act.put, p1_, p2_, p3_]))); ((refine tk_ (i := 7) (v := ?_) (y := Or.inl ⟨by rfl, ?_⟩) (h := ?_); rotate_left; (focus (((intro w hSw; (try dsimp only at hSw); go_simp) <;> (try with_reducible rfl)); done)); (try simp only [Act.put, p1_, p2_, p3_]))); ((refine tk_ (i := 8) (v := ?_) (y := Or.inl ⟨by rfl, ?_⟩) (h := ?_); rotate_left; (focus (((intro w hSw; (try dsimp only at hSw); go_simp) <;> (try with_reducible rfl)); done)); (try simp only [Act.put, p1_, p2_, p3_]))); ((refine tk_ (i := 9) (v := ?_) (y := Or.inl ⟨by rfl, ?_⟩) (h := ?_); rotate_left; (focus (((intro w hSw; (try dsimp only at hSw); go_simp) <;> (try with_reducible rfl)); done)); (try simp only [Act.put, p1_, p2_, p3_]))); ((refine tk_ (i := 10) (v := ?_) (y := Or.inl ⟨by rfl, ?_⟩) (h := ?_); rotate_left; (focus (((intro w hSw; (try dsimp only at hSw); go_simp) <;> (try with_reducible rfl)); done)); (try simp only [Act.put, p1_, p2_, p3_]))); ((refine tk_ (i := 11) (v := ?_) (y := Or.inl ⟨by rfl, ?_⟩) (h := ?_); rotate_left; (focus (((intro w hSw; (try dsimp only at hSw); go_simp) <;> (try with_reducible rfl)); done)); (try simp only [Act.put, p1_, p2_, p3_]))); ((refine tk_ (i := 12) (v := ?_) (y := Or.inl ⟨by rfl, ?_⟩) (h := ?_); rotate_left; (focus (((intro w hSw; (try dsimp only at hSw); go_simp) <;> (try with_reducible rfl)); done)); (try simp only [Act.put, p1_, p2_, p3_]))); ((refine wpAnyH_ready (rs := [13]) (by kernel_rfl) (by simp) ?_; refine AllReadyH.cons (by simp only [e1_, e2_, e3_]; try rfl) (fun K hK => ?_) AllReadyH.nil; go_simp; (go_at_call 190; refine (spec_l1Mul y ti _ HY.out HM.out.nb).mono ?_; rintro e w' ⟨rfl, rfl⟩); (try go_wp2_with fail); refine hK.out _ _ ?_ (fun hHeld => ?_); (focus ((try dsimp only); (go_keep))); clear hK K; (try simp only [Act.put, p1_, p2_, p3_]))); ((refine wpAnyH_ready (rs := [14]) (by kernel_rfl) (by simp) ?_; refine AllReadyH.cons (by simp only [e1_, e2_, e3_]; try rfl) (fun K hK => ?_) AllReadyH.nil; go_simp; (go_at_call 232; refine (spec_l1Add x _ _ HX.out (NB.mulF y ti)).mono ?_; rw [← HE.out]; rintro e w' ⟨rfl, rfl⟩); (try go_wp2_with fail); refine hK.out _ _ ?_ (fun hHeld => ?_); (focus ((try dsimp only); (go_keep))); clear hK K; (try simp only [Act.put, p1_, p2_, p3_]))); ((refine tk_ (i := 15) (v := ?_) (y := Or.inl ⟨by rfl, ?_⟩) (h := ?_); rotate_left; (focus (((intro w hSw; (try dsimp only at hSw); go_simp) <;> (try with_reducible rfl)); done)); (try simp only [Act.put, p1_, p2_, p3_]))); ((refine wpAnyH_ready (rs := [16]) (by kernel_rfl) (by simp) ?_; refine AllReadyH.cons (by simp only [e1_, e2_, e3_]; try rfl) (fun K hK => ?_) AllReadyH.nil; go_simp; (try go_wp2_with fail); refine hK.out _ _ ?_ (fun hHeld => ?_); (focus ((try dsimp only); (go_keep))); clear hK K; (try simp only [Act.put, p1_, p2_, p3_]))); (refine wpAnyH_done (by kernel_rfl) ?_ _))
      go_wp2
      go_roundw
      case rel => exact ⟨k + 1, by go_num, by omega, hs1, Kb hM, by (with_reducible (repeat (first | exact hO | refine Blk.new_at _ _ _ _ Ks | refine Blk.below ?_ (by assumption) Ks | apply Blk.drew | apply Blk.drewN | refine Blk.far ?_ (by simp only [ne_eq]; omega) _ | apply Blk.alloc))), by (with_reducible (repeat (first | assumption | exact World.grownBy.refl _ _ | refine only_alloc ?_ _ | refine only_drewN ?_ _ | refine only_drew ?_ | refine only_set ?_ _ _ | refine grown_far ?_ Ks _ | refine only_trans ?_ (only_of_below (by assumption) _) | refine only_trans ?_ (by assumption)))), by simpa [World.setCell] using hsz⟩
      case measure => simp only [intOf]; omega
    · have hfin := hown.as (show _ = tb R C (opA f p t ti) by rw [show k = C by omega]; exact roK_end (fun x y hx => opA_other hx))
      clear hown
      go_wp2
      go_end0
      exact WW.mk rfl hfin hgr hsz
set_option maxRecDepth 100000 in
set_option maxHeartbeats 4000000 in
theorem spec_l5Do_neg (R C p : Nat) (ti : Int) (A : Option Addr) (n cap : Nat) (f : Nat → Nat → Int) (w : World) {B : Nat} (h : OR w B (.slice A n cap) (tb R C f)) (hp : p < R) (hf : ∀ k, k < C → Num (f p k)) (hC0 : 0 < C) (hC : C ≤ 24) (hR : R ≤ 24) :
    Calls Try.prog 203 #[.agg #[.int .i64 R, .int .i64 C, .slice A n cap], .agg #[.int .i64 1, .int .i64 p, .int .i64 p, .int .i64 ti]] w (WW (.tuple #[]) (.slice A n cap) B (tb R C (opN f p)) w) := by
  have hn := h.lenEq
  rw [tb_len] at hn
  have hcaps := h.caps
  have hP := idx_nat hp (show C - 1 < C by omega)
  obtain ⟨g, rfl, hg1, hg2⟩ := h.begins (by rw [tb_len]; omega)
  have hP2 : p * C + C ≤ n := by omega
  have HN := Lib.hid hn
  have HF := Lib.hid hf
  have hm : R * C ≤ 24 * 24 := Nat.mul_le_mul hR hC
  have p1 : (p : Int) * (C : Int) = ((p * C : Nat) : Int) := by rw [Int.natCast_mul]
  have P1 := Lib.hid p1
  have b1 : 0 ≤ (p : Int) * (C : Int) ∧ (p : Int) * (C : Int) + C ≤ n ∧ (p : Int) * (C : Int) ≤ 10000 := by omega
  obtain ⟨b1a, b1b, b1c⟩ := b1
  clear hn hP p1 hf
  go_enter Try.func203, Try.ntmps203
  go_wp2_with fail
  go_loopw [4] (fun u wr => ∃ k : Nat, u = .int .i64 k ∧ k ≤ C ∧ OR wr B (.slice (some ⟨g, 0, none⟩) n cap) (tb R C (roK f (opN f p) p k)) ∧ BM wr w.heap.size R C (some ⟨g, 0, none⟩) n cap ∧ Blk wr (w.heap.size + 1) 66 #[.int .i64 1, .int .i64 p, .int .i64 p, .int .i64 ti] ∧ w.grownBy wr (some g) ∧ w.heap.size ≤ wr.heap.size) (fun v _ => C - (intOf v).toNat)
  case atStart => exact ⟨0, rfl, Nat.zero_le _, by rw [roK_zero]; (with_reducible (repeat (first | exact h | refine OR.drew ?_ | refine OR.drewN ?_ _ | refine OR.alloc ?_ _ | refine OR.b_ ?_ | refine OR.l_ ?_))), Ka, by (with_reducible (repeat (first | assumption | refine Blk.new_at _ _ _ _ Ks | refine Blk.below ?_ (by assumption) Ks | apply Blk.drew | apply Blk.drewN | refine Blk.far ?_ (by simp only [ne_eq]; omega) _ | apply Blk.alloc))), by (with_reducible (repeat (first | assumption | exact World.grownBy.refl _ _ | refine only_alloc ?_ _ | refine only_drewN ?_ _ | refine only_drew ?_ | refine only_set ?_ _ _ | refine grown_far ?_ Ks _ | refine only_trans ?_ (only_of_below (by assumption) _) | refine only_trans ?_ (by assumption)))), by simp; omega⟩
  case round =>
    clear h
    obtain ⟨k, rfl, hk, hown, hM, hO, hgr, hsz⟩ := hrel
    obtain ⟨oa, ob, oc, of, ol⟩ := hM.mx
    have x0 := hO.cell 0
    have x1 := hO.cell 1
    have x2 := hO.cell 2
    have x3 := hO.cell 3
    have hl := hO.lt
    simp at x0 x1 x2 x3
    by_cases hkC : k < C
    · have c1 := hown.cell (p * C + k) (by rw [tb_len]; exact idx_nat hp hkC)
      rw [tb_at hp hkC] at c1
      rw [roK_at] at c1
      have f1 := hown.frozen (p * C + k)
      have hs1 := hown.set_ (p * C + k) (opN f p p k)
      rw [tb_set hp hkC, roK_step] at hs1
      have HX := Lib.hid (HF.out k hkC)
      have HE : Hid (opN f p p k = mulF (f p k) (-1)) := Lib.hid (by unfold opN; rw [if_pos rfl, mulF_num HX.out ⟨by omega, by omega⟩, fit_in (by have := HX.out; unfold Num at this; omega)]; omega)
      have hne2 : ¬ g = w.heap.size + 1 := by omega
      generalize opN f p p k = v at *
      generalize f p k = x at *
      go_wp2
      have i1 := P1.out
      have hpk : p * C + k < n := by omega
      have g1 : IntKind.i64.wrap ((p : Int) * (C : Int)) = (p : Int) * (C : Int) := IntWalk.i64_in _ (by omega)
      have g2 : IntKind.i64.wrap ((p : Int) * (C : Int) + (k : Int)) = (p : Int) * (C : Int) + (k : Int) := IntWalk.i64_in _ (by omega)
      have g6 : 0 ≤ (p : Int) * (C : Int) + (k : Int) ∧ (p : Int) * (C : Int) + (k : Int) < (n : Int) := by omega
      have e5 : ((p : Int) * (C : Int) + (k : Int)).toNat = p * C + k := by omega
      rw [← e5] at c1 f1 hs1
      clear i1 e5
      have hne3 : ¬ g = w.heap.size := by omega
      have hne4 : ¬ w.heap.size = g := by omega
      have hne5 : ¬ w.heap.size + 1 = g := by omega
      ((refine wp_region_held_drew (S := (fun w' => w'.cell? ⟨w.heap.size, 1, none⟩ = some (.int .i64 C) ∧ w'.cell? ⟨w.heap.size, 2, none⟩ = some (.slice (some ⟨g, 0, none⟩) n cap) ∧ w'.cell? ⟨w.heap.size + 1, 1, none⟩ = some (.int .i64 p))) (by kernel_rfl) ?_ (fun hHeld => ?_)); ((focus ((try dsimp only); (go_keep)))); ((refine tk_ (i := 0) (v := ?_) (y := Or.inl ⟨by rfl, ?_⟩) (h := ?_); rotate_left; (focus (((intro w hSw; (try dsimp only at hSw); go_simp) <;> (try with_reducible rfl)); done)); (try simp only [Act.put, p1_, p2_, p3_]))); ((refine tk_ (i := 1) (v := ?_) (y := Or.inl ⟨by rfl, ?_⟩) (h := ?_); rotate_left; (focus (((intro w hSw; (try dsimp only at hSw); go_simp) <;> (try with_reducible rfl)); done)); (try simp only [Act.put, p1_, p2_, p3_]))); ((refine tk_ (i := 2) (v := ?_) (y := Or.inl ⟨by rfl, ?_⟩) (h := ?_); rotate_left; (focus (((intro w hSw; (try dsimp only at hSw); go_simp) <;> (try with_reducible rfl)); done)); (try simp only [Act.put, p1_, p2_, p3_]))); ((refine tk_ (i := 3) (v := ?_) (y := Or.inl ⟨by rfl, ?_⟩) (h := ?_); rotate_left; (focus (((intro w hSw; (try dsimp only at hSw); go_simp) <;> (try with_reducible rfl)); done)); (try simp only [Act.put, p1_, p2_, p3_]))); ((refine tk_ (i := 4) (v := ?_) (y := Or.inl ⟨by rfl, ?_⟩) (h := ?_); rotate_left; (focus (((intro w hSw; (try dsimp only at hSw); go_simp) <;> (try with_reducible rfl)); done)); (try simp only [Act.put, p1_, p2_, p3_]))); ((refine tk_ (i := 5) (v := ?_) (y := Or.inl ⟨by rfl, ?_⟩) (h := ?_); rotate_left; (focus (((intro w hSw; (try dsimp only at hSw); go_simp) <;> (try with_reducible rfl)); done)); (try simp only [Act.put, p1_, p2_, p3_]))); ((refine tk_ (i := 6) (v := ?_) (y := Or.inl ⟨by rfl, ?_⟩) (h := ?_); rotate_left; (focus (((intro w hSw; (try dsimp only at hSw); go_simp) <;> (try with_reducible rfl)); done)); (try simp only [Act.put, p1_, p2_, p3_]))); ((refine tk_ (i := 7) (v := ?_) (y := Or.inl ⟨by rfl, ?_⟩) (h := ?_); rotate_left; (focus (((intro w hSw; (try dsimp only at hSw); go_simp) <;> (try with_reducible rfl)); done)); (try simp only [Act.put, p1_, p2_, p3_]))); ((refine tk_ (i := 8) (v := ?_) (y := Or.inl ⟨by rfl, ?_⟩) (h := ?_); rotate_left; (focus (((intro w hSw; (try dsimp only at hSw); go_simp) <;> (try with_reducible rfl)); done)); (try simp only [Act.put, p1_, p2_, p3_]))); ((refine tk_ (i := 9) (v := ?_) (y := Or.inl ⟨by rfl, ?_⟩) (h := ?_); rotate_left; (focus (((intro w hSw; (try dsimp only at hSw); go_simp) <;> (try with_reducible rfl)); done)); (try simp only [Act.put, p1_, p2_, p3_]))); ((refine wpAnyH_ready (rs := [10]) (by kernel_rfl) (by simp) ?_; refine AllReadyH.cons (by simp only [e1_, e2_, e3_]; try rfl) (fun K hK => ?_) AllReadyH.nil; go_simp; (go_at_call 190; refine (spec_l1Mul x (-1) _ HX.out.nb (NB.one)).mono ?_; rw [← HE.out]; rintro e w' ⟨rfl, rfl⟩); (try go_wp2_with fail); refine hK.out _ _ ?_ (fun hHeld => ?_); (focus ((try dsimp only); (go_keep))); clear hK K; (try simp only [Act.put, p1_, p2_, p3_]))); ((refine tk_ (i := 11) (v := ?_) (y := Or.inl ⟨by rfl, ?_⟩) (h := ?_); rotate_left; (focus (((intro w hSw; (try dsimp only at hSw); go_simp) <;> (try with_reducible rfl)); done)); (try simp only [Act.put, p1_, p2_, p3_]))); ((refine wpAnyH_ready (rs := [12]) (by kernel_rfl) (by simp) ?_; refine AllReadyH.cons (by simp only [e1_, e2_, e3_]; try rfl) (fun K hK => ?_) AllReadyH.nil; go_simp; (try go_wp2_with fail); refine hK.out _ _ ?_ (fun hHeld => ?_); (focus ((try dsimp only); (go_keep))); clear hK K; (try simp only [Act.put, p1_, p2_, p3_]))); (refine wpAnyH_done (by kernel_rfl) ?_ _))
      go_wp2
      go_roundw
      case rel => exact ⟨k + 1, by go_num, by omega, hs1, Kb hM, by (with_reducible (repeat (first | exact hO | refine Blk.new_at _ _ _ _ Ks | refine Blk.below ?_ (by assumption) Ks | apply Blk.drew | apply Blk.drewN | refine Blk.far ?_ (by simp only [ne_eq]; omega) _ | apply Blk.alloc))), by (with_reducible (repeat (first | assumption | exact World.grownBy.refl _ _ | refine only_alloc ?_ _ | refine only_drewN ?_ _ | refine only_drew ?_ | refine only_set ?_ _ _ | refine grown_far ?_ Ks _ | refine only_trans ?_ (only_of_below (by assumption) _) | refine only_trans ?_ (by assumption)))), by simpa [World.setCell] using hsz⟩
      case measure => simp only [intOf]; omega
    · have hfin := hown.as (show _ = tb R C (opN f p) by rw [show k = C by omega]; exact roK_end (fun x y hx => opN_other hx))
      clear hown
      go_wp2
      go_end0
      exact WW.mk rfl hfin hgr hsz
set_option maxRecDepth 100000 in
set_option maxHeartbeats 4000000 in
theorem impl_rowOp_neg (R C p : Nat) (m : Int) (A : Option Addr) (n cap : Nat) (f : Fn2) (w : World) {B : Nat} (h : OR w B (.slice A n cap) (tb R C f)) (hp : p < R) (hf : ∀ k, k < C → Num (f p k)) (hC0 : 0 < C) (hC : C ≤ 24) (hR : R ≤ 24) :
    Calls Try.prog 165 #[.agg #[.int .i64 R, .int .i64 C, .slice A n cap], .agg #[.int .i64 1, .int .i64 p, .int .i64 p, .int .i64 m]] w (WW (.bool true) (.slice A n cap) B (tb R C (opN f p)) w) := by
  have hn := h.lenEq
  rw [tb_len] at hn
  have hcaps := h.caps
  have hP := idx_nat hp (show C - 1 < C by omega)
  obtain ⟨g, rfl, hg1, hg2⟩ := h.begins (by rw [tb_len]; omega)
  have hP2 : p * C + C ≤ n := by omega
  have HN := Lib.hid hn
  have HF := Lib.hid hf
  clear hn hP hf
  go_enter Try.func165, Try.ntmps165
  go_wp2_with fail
  refine (impl_row_own R C p g n cap _ Ks (by omega) (by omega) hC0 (by omega) (by omega) hP2).mono ?_
  rintro e w1 ⟨rfl, hb1⟩
  have hsz1 := hb1.size
  simp at hsz1
  have hO1 : Blk w1 (w.heap.size + 1) 66 #[.int .i64 1, .int .i64 p, .int .i64 p, .int .i64 m] := by (with_reducible (repeat (first | assumption | refine Blk.new_at _ _ _ _ Ks | refine Blk.below ?_ (by assumption) Ks | apply Blk.drew | apply Blk.drewN | refine Blk.far ?_ (by simp only [ne_eq]; omega) _ | apply Blk.alloc)))
  have hM1 : BM w1 w.heap.size R C (some ⟨g, 0, none⟩) n cap := Ka
  have hown1 : OR w1 B (.slice (some ⟨g, 0, none⟩) n cap) (tb R C f) := Ko h
  have hgr1 : w.grownBy w1 (some g) := by (with_reducible (repeat (first | assumption | exact World.grownBy.refl _ _ | refine only_alloc ?_ _ | refine only_drewN ?_ _ | refine only_drew ?_ | refine only_set ?_ _ _ | refine grown_far ?_ Ks _ | refine only_trans ?_ (only_of_below (by assumption) _) | refine only_trans ?_ (by assumption))))
  obtain ⟨oa, ob, oc, of, ol⟩ := hM1.mx
  have x0 := hO1.cell 0
  have x1 := hO1.cell 1
  have x2 := hO1.cell 2
  have x3 := hO1.cell 3
  simp at x0 x1 x2 x3
  clear hb1
  go_wp2_with fail
  refine (impl_row_own R C p g n cap _ Ks (by omega) (by omega) hC0 (by omega) (by omega) hP2).mono ?_
  rintro e w2 ⟨rfl, hb2⟩
  have hsz2 := hb2.size
  have hO2 : Blk w2 (w.heap.size + 1) 66 #[.int .i64 1, .int .i64 p, .int .i64 p, .int .i64 m] := by (with_reducible (repeat (first | exact hO1 | refine Blk.new_at _ _ _ _ Ks | refine Blk.below ?_ (by assumption) Ks | apply Blk.drew | apply Blk.drewN | refine Blk.far ?_ (by simp only [ne_eq]; omega) _ | apply Blk.alloc)))
  have hown2 : OR w2 B (.slice (some ⟨g, 0, none⟩) n cap) (tb R C f) := Ko hown1
  have hgr2 : w.grownBy w2 (some g) := by (with_reducible (repeat (first | assumption | exact World.grownBy.refl _ _ | refine only_alloc ?_ _ | refine only_drewN ?_ _ | refine only_drew ?_ | refine only_set ?_ _ _ | refine grown_far ?_ Ks _ | refine only_trans ?_ (only_of_below (by assumption) _) | refine only_trans ?_ (by assumption))))
  clear hb2 hown1 hgr1 hO1 hM1 x0 x1 x2 x3 oa ob oc of ol
  go_wp2_with fail
  go_loopw [7, 19] (fun _ u wr => ∃ k : Nat, u = .int .i64 k ∧ k ≤ C ∧ OR wr B (.slice (some ⟨g, 0, none⟩) n cap) (tb R C (roK f (opN f p) p k)) ∧ Blk wr (w.heap.size + 1) 66 #[.int .i64 1, .int .i64 p, .int .i64 p, .int .i64 m] ∧ w.grownBy wr (some g) ∧ w.heap.size ≤ wr.heap.size) (fun _ v _ => C - (intOf v).toNat)
  case atStart => exact ⟨0, rfl, Nat.zero_le _, by rw [roK_zero]; exact hown2, hO2, hgr2, by omega⟩
  case round =>
    clear hown2 hO2 hgr2 h
    obtain ⟨k, rfl, hk, hown, hO, hgr, hsz⟩ := hrel
    have x0 := hO.cell 0
    have x1 := hO.cell 1
    have x2 := hO.cell 2
    have x3 := hO.cell 3
    have hl := hO.lt
    simp at x0 x1 x2 x3
    by_cases hkC : k < C
    · have c1 := hown.cell (p * C + k) (by rw [tb_len]; exact idx_nat hp hkC)
      rw [tb_at hp hkC, roK_at] at c1
      have f1 := hown.frozen (p * C + k)
      have he : opN f p p k = -f p k := by unfold opN; rw [if_pos rfl]
      have hs1 := hown.set_ (p * C + k) (opN f p p k)
      rw [tb_set hp hkC, roK_step, he] at hs1
      obtain ⟨n1, n2⟩ := HF.out k hkC
      generalize f p k = x at *
      clear he
      go_wp2
      go_roundw
      case rel => exact ⟨k + 1, by go_num, by omega, hs1, by (with_reducible (repeat (first | exact hO | refine Blk.new_at _ _ _ _ Ks | refine Blk.below ?_ (by assumption) Ks | apply Blk.drew | apply Blk.drewN | refine Blk.far ?_ (by simp only [ne_eq]; omega) _ | apply Blk.alloc))), by (with_reducible (repeat (first | assumption | exact World.grownBy.refl _ _ | refine only_alloc ?_ _ | refine only_drewN ?_ _ | refine only_drew ?_ | refine only_set ?_ _ _ | refine grown_far ?_ Ks _ | refine only_trans ?_ (only_of_below (by assumption) _) | refine only_trans ?_ (by assumption)))), by simpa [World.setCell] using hsz⟩
      case measure => simp only [intOf]; omega
    · obtain rfl : k = C := by omega
      have hfin := hown.as (roK_end (fun x y hx => opN_other hx))
      clear hown
      go_wp2
      go_ret
      exact WW.mk rfl hfin hgr hsz
end Go.Proofs.Ytacjonkehcamgaa

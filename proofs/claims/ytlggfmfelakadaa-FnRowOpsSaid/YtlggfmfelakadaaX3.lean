/-
  DERIVED. Several small texts in one: PlRk, PlainQ2, PlEc, PlEc2, PlRn.
-/
import Derived.Test.YtlggfmfelakadaaX2
/-
  DERIVED. More unknowns than equations have a solution that is not all zeros; how many rows can be independent. No program in sight.
-/
namespace Go.Proofs.Ytlggfmfelakadaa
set_option linter.unusedVariables false
/-- The place that sk leaves out is put back. -/
def unsk (c : Nat) (v : Int) (z : Nat → Int) (j : Nat) : Int := if j < c then z j else if j = c then v else z (j - 1)
theorem unsk_sk (c : Nat) (v : Int) (z : Nat → Int) (k : Nat) : unsk c v z (sk c k) = z k := by
  unfold unsk sk
  by_cases h : k < c
  · rw [if_pos h, if_pos h]
  · rw [if_neg h, if_neg (by omega), if_neg (by omega), Nat.add_sub_cancel]
theorem unsk_at (c : Nat) (v : Int) (z : Nat → Int) : unsk c v z c = v := by
  unfold unsk
  rw [if_neg (Nat.lt_irrefl _), if_pos rfl]
/-- A sum with one place set apart. -/
theorem sumTo_out {g : Nat → Int} {c n : Nat} (hc : c < n + 1) : sumTo g (n + 1) = g c + sumTo (fun k => g (sk c k)) n := by
  rw [sumTo_skip n hc]
  have h1 : sumTo g (n + 1) = sumTo (fun b => (if b = c then g c else 0) + (if b = c then 0 else g b)) (n + 1) := sumTo_congr (n + 1) fun k _ => by
    by_cases h : k = c
    · rw [if_pos h, if_pos h, h, Int.add_zero]
    · rw [if_neg h, if_neg h, Int.zero_add]
  rw [h1, sumTo_add, sumTo_one (i := c) (n + 1) hc (fun k _ hne => if_neg hne), if_pos rfl]
/-- More unknowns than equations. -/
theorem sys_zero : ∀ (m : Nat) (f : Fn2), ∃ z : Nat → Int, (∃ k, k < m + 1 ∧ z k ≠ 0) ∧ ∀ i, i < m → mv (m + 1) f z i = 0
  | 0, f => ⟨fun _ => 1, ⟨0, by omega, by decide⟩, fun i hi => absurd hi (Nat.not_lt_zero _)⟩
  | m + 1, f => by
    by_cases hp : ∃ c, c < m + 2 ∧ f 0 c ≠ 0
    · obtain ⟨c, hc, hne⟩ := hp
      obtain ⟨z, ⟨k, hk, hkz⟩, hz⟩ := sys_zero m fun i j => f 0 c * f (i + 1) (sk c j) - f (i + 1) c * f 0 (sk c j)
      refine ⟨unsk c (-sumTo (fun k => f 0 (sk c k) * z k) (m + 1)) fun k => f 0 c * z k, ⟨sk c k, sk_lt hk, ?_⟩, fun i hi => ?_⟩
      · rw [unsk_sk]
        exact Int.mul_ne_zero hne hkz
      · unfold mv
        rw [sumTo_out (n := m + 1) hc, unsk_at]
        have e1 : sumTo (fun k => f i (sk c k) * unsk c (-sumTo (fun k => f 0 (sk c k) * z k) (m + 1)) (fun k => f 0 c * z k) (sk c k)) (m + 1) = sumTo (fun k => f 0 c * (f i (sk c k) * z k)) (m + 1) := sumTo_congr (m + 1) fun k _ => by
          rw [unsk_sk]; grind
        rw [e1, sumTo_mul']
        rcases Nat.eq_zero_or_pos i with h0 | h0
        · subst h0
          grind
        · obtain ⟨i', rfl⟩ : ∃ i', i = i' + 1 := ⟨i - 1, by omega⟩
          have h2 := hz i' (by omega)
          unfold mv at h2
          have e2 : sumTo (fun k => (f 0 c * f (i' + 1) (sk c k) - f (i' + 1) c * f 0 (sk c k)) * z k) (m + 1) = f 0 c * sumTo (fun k => f (i' + 1) (sk c k) * z k) (m + 1) - f (i' + 1) c * sumTo (fun k => f 0 (sk c k) * z k) (m + 1) := by
            rw [← sumTo_mul', ← sumTo_mul', ← sumTo_sub]
            exact sumTo_congr (m + 1) fun k _ => by grind
          rw [e2] at h2
          grind
    · have h0 : ∀ c, c < m + 2 → f 0 c = 0 := fun c hc => Decidable.byContradiction fun hne => hp ⟨c, hc, hne⟩
      obtain ⟨z, ⟨k, hk, hkz⟩, hz⟩ := sys_zero m fun i j => f (i + 1) j
      refine ⟨fun j => if j < m + 1 then z j else 0, ⟨k, by omega, by show (if _ then _ else _) ≠ _; rw [if_pos hk]; exact hkz⟩, fun i hi => ?_⟩
      show sumTo (fun k => f i k * (if k < m + 1 then z k else 0)) (m + 1 + 1) = 0
      rw [sumTo_succ, if_neg (by omega), Int.mul_zero, Int.add_zero]
      have e1 : sumTo (fun k => f i k * (if k < m + 1 then z k else 0)) (m + 1) = sumTo (fun k => f i k * z k) (m + 1) := sumTo_congr (m + 1) fun k hk => by rw [if_pos hk]
      rw [e1]
      rcases Nat.eq_zero_or_pos i with hi0 | hi0
      · subst hi0
        exact sumTo_null (m + 1) fun k hk => by rw [h0 k (by omega), Int.zero_mul]
      · obtain ⟨i', rfl⟩ : ∃ i', i = i' + 1 := ⟨i - 1, by omega⟩
        exact hz i' (by omega)
/-- The first n rows of C cells are independent. -/
def Ind (n C : Nat) (v : Fn2) : Prop := ∀ z : Nat → Int, (∀ y, y < C → sumTo (fun k => z k * v k y) n = 0) → ∀ k, k < n → z k = 0
/-- Each of the first n rows of v, some times, is a sum of the first m rows of u. -/
def Span (n m C : Nat) (v u : Fn2) : Prop := ∀ i, i < n → ∃ (d : Int) (c : Nat → Int), d ≠ 0 ∧ ∀ y, y < C → d * v i y = sumTo (fun k => c k * u k y) m
theorem Ind.take {n m C : Nat} {v : Fn2} (h : Ind n C v) (hm : m ≤ n) : Ind m C v := fun z hz k hk => by
  have hs : ∀ y (q : Nat), m ≤ q → sumTo (fun k => (if k < m then z k else 0) * v k y) q = sumTo (fun k => z k * v k y) m := fun y q => by
    induction q with
    | zero => intro hq; obtain rfl : m = 0 := by omega
              rfl
    | succ q ih =>
      intro hq
      by_cases e : m = q + 1
      · subst e
        exact sumTo_congr (q + 1) fun k hk => by rw [if_pos hk]
      · rw [sumTo_succ, ih (by omega), if_neg (by omega), Int.zero_mul, Int.add_zero]
  have := h (fun k => if k < m then z k else 0) (fun y hy => by rw [hs y n hm]; exact hz y hy) k (by omega)
  simpa [hk] using this
/-- There are no more independent rows than rows that they are sums of. -/
theorem Ind.le {n m C : Nat} {v u : Fn2} (hi : Ind n C v) (hs : Span n m C v u) : n ≤ m := by
  refine Nat.le_of_not_lt fun hlt => ?_
  have hi' := hi.take (show m + 1 ≤ n by omega)
  have hch : ∀ i, ∃ (d : Int) (c : Nat → Int), i < m + 1 → d ≠ 0 ∧ ∀ y, y < C → d * v i y = sumTo (fun k => c k * u k y) m := fun i => by
    by_cases h : i < m + 1
    · obtain ⟨d, c, h1, h2⟩ := hs i (by omega)
      exact ⟨d, c, fun _ => ⟨h1, h2⟩⟩
    · exact ⟨0, fun _ => 0, fun h2 => absurd h2 h⟩
  obtain ⟨d, hd⟩ := Classical.axiomOfChoice hch
  obtain ⟨c, hc⟩ := Classical.axiomOfChoice hd
  obtain ⟨z, ⟨k, hk, hkz⟩, hz⟩ := sys_zero m fun k i => c i k
  have h0 := hi' (fun i => z i * d i) (fun y hy => by
    have e1 : sumTo (fun i => z i * d i * v i y) (m + 1) = sumTo (fun i => sumTo (fun k => z i * c i k * u k y) m) (m + 1) := sumTo_congr (m + 1) fun i hi => by
      rw [Int.mul_assoc, (hc i hi).2 y hy, ← sumTo_mul']
      exact sumTo_congr m fun k _ => by rw [Int.mul_assoc]
    rw [e1, sumTo_swap]
    refine sumTo_null m fun k hk => ?_
    have e2 : sumTo (fun i => z i * c i k * u k y) (m + 1) = sumTo (fun i => c i k * z i) (m + 1) * u k y := by
      rw [← sumTo_mul]
      exact sumTo_congr (m + 1) fun i _ => by grind
    rw [e2]
    have := hz k hk
    unfold mv at this
    rw [this, Int.zero_mul]) k hk
  exact (Int.mul_ne_zero hkz (hc k hk).1) h0
end Go.Proofs.Ytlggfmfelakadaa

/-
  DERIVED. Elimination with primitive rows, step by step: no program in sight.
-/
namespace Go.Proofs.Ytlggfmfelakadaa
set_option linter.unusedVariables false
def cbV (f : Nat → Nat → Int) (t j i k : Nat) : Int := (f t j).tdiv (Int.gcd (f i j) (f t j) : Nat) * f i k - (f i j).tdiv (Int.gcd (f i j) (f t j) : Nat) * f t k
def cbK (f : Nat → Nat → Int) (t j i k : Nat) : Nat → Nat → Int := fun a c => if a = i ∧ c < k then cbV f t j i c else f a c
theorem cbK_zero (f : Nat → Nat → Int) (t j i : Nat) : cbK f t j i 0 = f := by funext a c; simp [cbK]
theorem cbK_at (f : Nat → Nat → Int) (t j i k c : Nat) (h : k ≤ c) : cbK f t j i k i c = f i c := by unfold cbK; rw [if_neg (by omega)]
theorem cbK_t (f : Nat → Nat → Int) (t j i k c : Nat) (h : i ≠ t) : cbK f t j i k t c = f t c := by unfold cbK; rw [if_neg (by omega)]
theorem cbK_step (f : Nat → Nat → Int) (t j i k : Nat) : upd (cbK f t j i k) i k (cbV f t j i k) = cbK f t j i (k + 1) := by
  funext a c
  unfold upd cbK
  grind
def okQ (C : Nat) (f : Nat → Nat → Int) (t j i : Nat) : Bool := (List.range C).all fun k => isNum (cbV f t j i k)
def stQ (C : Nat) (f : Nat → Nat → Int) (t j i : Nat) : Nat → Nat → Int := prF C (cbK f t j i C) i
def rowsQ (C t j : Nat) : Nat → Nat → (Nat → Nat → Int) → Option (Nat → Nat → Int)
  | 0, _, f => some f
  | n + 1, i, f => if i = t ∨ f i j = 0 then rowsQ C t j n (i + 1) f else if okQ C f t j i = true then rowsQ C t j n (i + 1) (stQ C f t j i) else none
theorem rowsQ_skip {C t j R i : Nat} {f : Nat → Nat → Int} (hi : i < R) (h : i = t ∨ f i j = 0) : rowsQ C t j (R - i) i f = rowsQ C t j (R - (i + 1)) (i + 1) f := by
  rw [show R - i = (R - (i + 1)) + 1 by omega]
  conv => lhs; unfold rowsQ
  rw [if_pos h]
theorem rowsQ_do {C t j R i : Nat} {f : Nat → Nat → Int} (hi : i < R) (h : i ≠ t) (h0 : f i j ≠ 0) (hk : okQ C f t j i = true) : rowsQ C t j (R - i) i f = rowsQ C t j (R - (i + 1)) (i + 1) (stQ C f t j i) := by
  rw [show R - i = (R - (i + 1)) + 1 by omega]
  conv => lhs; unfold rowsQ
  rw [if_neg (by rintro (e | e); exact h e; exact h0 e), if_pos hk]
theorem rowsQ_bad {C t j R i : Nat} {f : Nat → Nat → Int} (hi : i < R) (h : i ≠ t) (h0 : f i j ≠ 0) (hk : okQ C f t j i = false) : rowsQ C t j (R - i) i f = none := by
  rw [show R - i = (R - (i + 1)) + 1 by omega]
  unfold rowsQ
  rw [if_neg (by rintro (e | e); exact h e; exact h0 e), if_neg (by rw [hk]; simp)]
theorem rowsQ_end (C t j R : Nat) (f : Nat → Nat → Int) : rowsQ C t j (R - R) R f = some f := by rw [Nat.sub_self]; rfl
structure QSt where
  f : Nat → Nat → Int
  ps : List Int
def colsQ (R C : Nat) : Nat → Nat → QSt → Option QSt
  | 0, _, s => some s
  | n + 1, j, s =>
    if R ≤ fnd s.f j (R - s.ps.length) s.ps.length then colsQ R C n (j + 1) s else
    match rowsQ C s.ps.length j (R - 0) 0 (swF s.f (fnd s.f j (R - s.ps.length) s.ps.length) s.ps.length) with
    | none => none
    | some f' => colsQ R C n (j + 1) ⟨f', s.ps ++ [(j : Int)]⟩
theorem colsQ_no {R C j : Nat} {f : Nat → Nat → Int} {ps : List Int} (hj : j < C) (hP : fnd f j (R - ps.length) ps.length = R) : colsQ R C (C - j) j ⟨f, ps⟩ = colsQ R C (C - (j + 1)) (j + 1) ⟨f, ps⟩ := by
  rw [show C - j = (C - (j + 1)) + 1 by omega]
  conv => lhs; unfold colsQ
  simp only [hP]
  rw [if_pos (Nat.le_refl _)]
theorem colsQ_none {R C j k : Nat} {f : Nat → Nat → Int} {ps : List Int} (hj : j < C) (hP : fnd f j (R - ps.length) ps.length = k) (hk : k < R) (hr : rowsQ C ps.length j (R - 0) 0 (swF f k ps.length) = none) : colsQ R C (C - j) j ⟨f, ps⟩ = none := by
  rw [show C - j = (C - (j + 1)) + 1 by omega]
  unfold colsQ
  simp only [hP]
  rw [if_neg (by omega), hr]
theorem colsQ_some {R C j k : Nat} {f f' : Nat → Nat → Int} {ps : List Int} (hj : j < C) (hP : fnd f j (R - ps.length) ps.length = k) (hk : k < R) (hr : rowsQ C ps.length j (R - 0) 0 (swF f k ps.length) = some f') : colsQ R C (C - j) j ⟨f, ps⟩ = colsQ R C (C - (j + 1)) (j + 1) ⟨f', ps ++ [(j : Int)]⟩ := by
  rw [show C - j = (C - (j + 1)) + 1 by omega]
  conv => lhs; unfold colsQ
  simp only [hP]
  rw [if_neg (by omega), hr]
theorem colsQ_end (R C : Nat) (s : QSt) : colsQ R C (C - C) C s = some s := by rw [Nat.sub_self]; rfl
theorem colsQ_full {R C : Nat} {s : QSt} (h : R ≤ s.ps.length) : ∀ n j, colsQ R C n j s = some s
  | 0, _ => rfl
  | n + 1, j => by
    unfold colsQ
    have := fnd_le s.f j (R - s.ps.length) s.ps.length
    rw [if_pos (by omega)]
    exact colsQ_full h n (j + 1)
/-- What holds of the rows between the steps: numbers, and primitive. -/
structure QOk (R C : Nat) (f : Nat → Nat → Int) : Prop where
  bd : ∀ i c, i < R → c < C → -400000000 ≤ f i c ∧ f i c ≤ 400000000
  pr : ∀ i, i < R → primL (rw_ C f i) = rw_ C f i
theorem rw_bd {C i : Nat} {f : Nat → Nat → Int} (h : ∀ c, c < C → -400000000 ≤ f i c ∧ f i c ≤ 400000000) (k : Nat) : ((rw_ C f i).getD k 0).natAbs ≤ 400000000 := by
  by_cases hk : k < C
  · rw [rw_at hk]; have := h k hk; omega
  · simp [List.getD, List.getElem?_eq_none (show (rw_ C f i).length ≤ k by rw [rw_len]; omega)]
theorem QOk.sw {R C k t : Nat} {f : Nat → Nat → Int} (h : QOk R C f) (hk : k < R) (ht : t < R) : QOk R C (swF f k t) := by
  have hx : ∀ i, i < R → (if i = k then t else if i = t then k else i) < R := fun i hi => by split; exact ht; split; exact hk; exact hi
  refine ⟨fun i c hi hc => h.bd _ c (hx i hi) hc, fun i hi => ?_⟩
  have e : rw_ C (swF f k t) i = rw_ C f (if i = k then t else if i = t then k else i) := rw_ext fun c hc => rfl
  rw [e]
  exact h.pr _ (hx i hi)
theorem QOk.all {R C : Nat} {f : Nat → Nat → Int} (h : ∀ i c, i < R → c < C → -400000000 ≤ f i c ∧ f i c ≤ 400000000) : QOk R C (prK C f R) := by
  refine ⟨fun i c hi hc => ?_, fun i hi => ?_⟩
  · have h1 := primL_bd (rw_bd (fun c hc => h i c hi hc)) c
    have e : prK C f R i c = (primL (rw_ C f i)).getD c 0 := by simp [prK, hi]
    rw [e]; omega
  · rw [rw_prK hi, primL_idem]
theorem QOk.st {R C t j i : Nat} {f : Nat → Nat → Int} (h : QOk R C f) (hi : i < R) (hk : okQ C f t j i = true) : QOk R C (stQ C f t j i) := by
  have hrow : ∀ c, c < C → -400000000 ≤ cbK f t j i C i c ∧ cbK f t j i C i c ≤ 400000000 := fun c hc => by
    have h1 : isNum (cbV f t j i c) = true := List.all_eq_true.1 hk c (List.mem_range.2 hc)
    have e : cbK f t j i C i c = cbV f t j i c := by unfold cbK; rw [if_pos ⟨rfl, hc⟩]
    rw [e]; exact (isNum_iff _).1 h1
  have hoth : ∀ a c, a ≠ i → cbK f t j i C a c = f a c := fun a c ha => by unfold cbK; rw [if_neg (fun e => ha e.1)]
  refine ⟨fun a c ha hc => ?_, fun a ha => ?_⟩
  · unfold stQ prF setR
    by_cases hai : a = i
    · rw [if_pos hai]
      have := primL_bd (rw_bd hrow) c
      omega
    · rw [if_neg hai, hoth a c hai]; exact h.bd a c ha hc
  · unfold stQ prF
    by_cases hai : a = i
    · subst hai
      rw [rw_setR (by rw [primL_len, rw_len]), primL_idem]
    · rw [rw_setR_ne hai, show rw_ C (cbK f t j i C) a = rw_ C f a from rw_ext fun c hc => hoth a c hai]
      exact h.pr a ha
/-- A row that is primitive stays as it is. -/
theorem prF_same {R C i : Nat} {f : Nat → Nat → Int} (h : primL (rw_ C f i) = rw_ C f i) : tb R C (prF C f i) = tb R C f := tb_ext fun a c ha hc => by
  unfold prF setR
  by_cases hai : a = i
  · rw [if_pos hai, h, rw_at hc, hai]
  · rw [if_neg hai]
/-- The whole. -/
def echQ (R C : Nat) (f : Nat → Nat → Int) : Option QSt := colsQ R C (C - 0) 0 ⟨prK C f R, []⟩
end Go.Proofs.Ytlggfmfelakadaa

/-
  DERIVED. The echelon form with primitive rows: its shape, what its rows span, that two of one space are equal. No program in sight.
-/
namespace Go.Proofs.Ytlggfmfelakadaa
set_option linter.unusedVariables false
/-- Some multiple of v is a sum of rows. -/
def QS (R C : Nat) (f : Fn2) (v : Nat → Int) : Prop := ∃ (d : Int) (c : Nat → Int), d ≠ 0 ∧ ∀ y, y < C → d * v y = sumTo (fun k => c k * f k y) R
section
variable {R S C r s : Nat} {p q : Nat → Nat} {f g : Fn2} {u v z : Nat → Int}
theorem QS.row {i : Nat} (hi : i < R) : QS R C f (f i) := ⟨1, idF i, by decide, fun y hy => by
  rw [sumTo_one (i := i) R hi (fun k hk hne => by unfold idF; rw [if_neg (fun e => hne e.symm), Int.zero_mul])]
  unfold idF; rw [if_pos rfl]⟩
/-- a u + b v, divided by d. -/
theorem QS.lin (h : QS R C f u) (h2 : QS R C f v) {a b d : Int} (hd : d ≠ 0) (e : ∀ y, y < C → d * z y = a * u y + b * v y) : QS R C f z := by
  obtain ⟨d1, c1, h1, hc1⟩ := h
  obtain ⟨d2, c2, h2, hc2⟩ := h2
  refine ⟨d1 * d2 * d, fun k => a * d2 * c1 k + b * d1 * c2 k, Int.mul_ne_zero (Int.mul_ne_zero h1 h2) hd, fun y hy => ?_⟩
  have e1 : sumTo (fun k => (a * d2 * c1 k + b * d1 * c2 k) * f k y) R = a * d2 * sumTo (fun k => c1 k * f k y) R + b * d1 * sumTo (fun k => c2 k * f k y) R := by
    rw [← sumTo_mul', ← sumTo_mul', ← sumTo_add]
    exact sumTo_congr R fun k _ => by grind
  rw [e1, ← hc1 y hy, ← hc2 y hy, show d1 * d2 * d * z y = d1 * d2 * (d * z y) by grind, e y hy]
  grind
theorem QS.zero (h : ∀ y, y < C → v y = 0) : QS R C f v := ⟨1, fun _ => 0, by decide, fun y hy => by
  rw [h y hy, sumTo_null R fun k _ => Int.zero_mul _]; rfl⟩
theorem QS.as {d : Int} (h : QS R C f u) (hd : d ≠ 0) (e : ∀ y, y < C → d * z y = u y) : QS R C f z :=
  h.lin h (a := 1) (b := 0) hd fun y hy => by rw [e y hy]; omega
theorem QS.sum {c : Nat → Int} {g : Fn2} : ∀ n, (∀ k, k < n → QS R C f (g k)) → QS R C f (fun y => sumTo (fun k => c k * g k y) n)
  | 0, _ => QS.zero fun _ _ => rfl
  | n + 1, h => (QS.sum (c := c) n fun k hk => h k (by omega)).lin (h n (by omega)) (a := 1) (b := c n) (d := 1) (by decide) fun y _ => by rw [sumTo_succ]; omega
theorem QS.trans (h : QS S C g v) (k : ∀ i, i < S → QS R C f (g i)) : QS R C f v := by
  obtain ⟨d, c, hd, hc⟩ := h
  exact (QS.sum (c := c) S k).as hd hc
/-- The rows of f and of g span one space. -/
def QSP (R S C : Nat) (f g : Fn2) : Prop := (∀ i, i < R → QS S C g (f i)) ∧ ∀ i, i < S → QS R C f (g i)
theorem QSP.refl (R C : Nat) (f : Fn2) : QSP R R C f f := ⟨fun i hi => QS.row hi, fun i hi => QS.row hi⟩
theorem QSP.symm (h : QSP R S C f g) : QSP S R C g f := ⟨h.2, h.1⟩
theorem QSP.trans {T : Nat} {h : Fn2} (a : QSP R S C f g) (b : QSP S T C g h) : QSP R T C f h := ⟨fun i hi => (a.1 i hi).trans b.1, fun i hi => (b.2 i hi).trans a.2⟩
theorem QSP.swap {i j : Nat} (hi : i < R) (hj : j < R) : QSP R R C f (swF f i j) := by
  have hx : ∀ x, x < R → (if x = i then j else if x = j then i else x) < R := fun x hx => by split; exact hj; split; exact hi; exact hx
  refine ⟨fun x hx' => ?_, fun x hx' => QS.row (f := f) (hx x hx')⟩
  have e : f x = swF f i j (if x = i then j else if x = j then i else x) := by
    funext y
    unfold swF
    grind
  rw [e]
  exact QS.row (hx x hx')
/-- Row i was turned into a multiple of itself and of row t, divided. -/
structure CMB (C : Nat) (f f' : Fn2) (i t : Nat) (d a b : Int) : Prop where
  d0 : d ≠ 0
  a0 : a ≠ 0
  at_ : ∀ c, c < C → d * f' i c = a * f i c + b * f t c
  other : ∀ x, x ≠ i → f' x = f x
theorem CMB.span {f' : Fn2} {i t : Nat} {d a b : Int} (h : CMB C f f' i t d a b) (hi : i < R) (ht : t < R) (hit : i ≠ t) : QSP R R C f f' := by
  have hT : QS R C f' (f t) := by rw [← h.other t (fun e => hit e.symm)]; exact QS.row ht
  refine ⟨fun x hx => ?_, fun x hx => ?_⟩
  · by_cases e : x = i
    · subst e
      exact (QS.row (f := f') hx).lin hT (a := d) (b := -b) h.a0 fun y hy => by rw [h.at_ y hy]; grind
    · rw [← h.other x e]; exact QS.row hx
  · by_cases e : x = i
    · subst e
      exact (QS.row (f := f) hx).lin (QS.row ht) h.d0 fun y hy => h.at_ y hy
    · rw [h.other x e]; exact QS.row hx
/-- Echelon form with the pivots p 0 .. p (r - 1), as far as C columns. -/
structure EF (R C r : Nat) (p : Nat → Nat) (f : Fn2) : Prop where
  le : r ≤ R
  lt : ∀ i, i < r → p i < C
  mono : ∀ i k, i < k → k < r → p i < p k
  left : ∀ i y, i < r → y < p i → f i y = 0
  ne : ∀ i, i < r → f i (p i) ≠ 0
  oth : ∀ i k, i < r → k < R → k ≠ i → f k (p i) = 0
  zero : ∀ i y, r ≤ i → i < R → y < C → f i y = 0
theorem EF.congr (H : EF R C r p f) (e : EqM R C g f) : EF R C r p g where
  le := H.le
  lt := H.lt
  mono := H.mono
  left := fun i y hi hy => by rw [e i y (Nat.lt_of_lt_of_le hi H.le) (Nat.lt_trans hy (H.lt i hi))]; exact H.left i y hi hy
  ne := fun i hi => by rw [e i (p i) (Nat.lt_of_lt_of_le hi H.le) (H.lt i hi)]; exact H.ne i hi
  oth := fun i k hi hk hne => by rw [e k (p i) hk (H.lt i hi)]; exact H.oth i k hi hk hne
  zero := fun i y h1 h2 h3 => by rw [e i y h2 h3]; exact H.zero i y h1 h2 h3
theorem EF.piv (H : EF R C r p f) (e : ∀ i, i < r → q i = p i) : EF R C r q f where
  le := H.le
  lt := fun i hi => by rw [e i hi]; exact H.lt i hi
  mono := fun i k hik hk => by rw [e i (by omega), e k hk]; exact H.mono i k hik hk
  left := fun i y hi hy => H.left i y hi (by rw [← e i hi]; exact hy)
  ne := fun i hi => by rw [e i hi]; exact H.ne i hi
  oth := fun i k hi hk hne => by rw [e i hi]; exact H.oth i k hi hk hne
  zero := H.zero
/-- The value at a pivot of a sum of rows. -/
theorem EF.at_ (H : EF R C r p f) {c : Nat → Int} {i : Nat} (hi : i < r) : sumTo (fun k => c k * f k (p i)) R = c i * f i (p i) :=
  sumTo_one R (Nat.lt_of_lt_of_le hi H.le) fun k hk hne => by rw [H.oth i k hi hk hne, Int.mul_zero]
/-- Where a vector of the space is 0 at a pivot, the coefficient is 0. -/
theorem EF.coef (H : EF R C r p f) {c : Nat → Int} {d : Int} (hv : ∀ y, y < C → d * v y = sumTo (fun k => c k * f k y) R) {i : Nat} (hi : i < r) (h0 : v (p i) = 0) : c i = 0 := by
  have := hv _ (H.lt i hi)
  rw [H.at_ hi, h0, Int.mul_zero] at this
  rcases Int.mul_eq_zero.1 this.symm with h | h
  · exact h
  · exact absurd h (H.ne i hi)
theorem EF.ind (H : EF R C r p f) : Ind r C f := fun z hz k hk => by
  have h1 := hz _ (H.lt k hk)
  rw [sumTo_one r hk (fun i hi hne => by rw [H.oth k i hk (Nat.lt_of_lt_of_le hi H.le) hne, Int.mul_zero])] at h1
  rcases Int.mul_eq_zero.1 h1 with h | h
  · exact h
  · exact absurd h (H.ne k hk)
theorem EF.next (H : EF R C r p f) (K : EF S C s q g) (hf : ∀ i, i < R → QS S C g (f i)) {i : Nat} (hi : i < r) (hs : i ≤ s) (hpq : ∀ k, k < i → p k = q k) : i < s ∧ q i ≤ p i := by
  have hiR := Nat.lt_of_lt_of_le hi H.le
  obtain ⟨d, c, hd, hc⟩ := hf i hiR
  have h0 : ∀ k, k < i → c k = 0 := fun k hk => K.coef hc (show k < s by omega) (by rw [← hpq k hk]; exact H.oth k i (by omega) hiR (by omega))
  have hz : ∀ y, y < C → (∀ k, k < S → i ≤ k → g k y = 0) → f i y = 0 := fun y hy h => by
    have e := hc y hy
    rw [sumTo_null S fun k hk => by
      rcases Nat.lt_or_ge k i with h1 | h1
      · rw [h0 k h1, Int.zero_mul]
      · rw [h k hk h1, Int.mul_zero]] at e
    rcases Int.mul_eq_zero.1 e with h1 | h1
    · exact absurd h1 hd
    · exact h1
  have his : i < s := by
    refine Nat.lt_of_not_le fun h => H.ne i hi (hz _ (H.lt i hi) fun k hk hik => K.zero k _ (by omega) hk (H.lt i hi))
  refine ⟨his, Nat.le_of_not_lt fun h => H.ne i hi (hz _ (H.lt i hi) fun k hk hik => ?_)⟩
  rcases Nat.lt_or_ge k s with h1 | h1
  · refine K.left k _ h1 ?_
    rcases Nat.lt_or_ge i k with h2 | h2
    · exact Nat.lt_trans h (K.mono i k h2 h1)
    · obtain rfl : k = i := by omega
      exact h
  · exact K.zero k _ h1 hk (H.lt i hi)
theorem EF.pivs (H : EF R C r p f) (K : EF S C s q g) (h : QSP R S C f g) : ∀ i, i ≤ r → i ≤ s ∧ ∀ k, k < i → p k = q k
  | 0, _ => ⟨Nat.zero_le _, fun k hk => absurd hk (Nat.not_lt_zero _)⟩
  | i + 1, hi => by
    obtain ⟨h1, h2⟩ := EF.pivs H K h i (by omega)
    obtain ⟨h3, h4⟩ := H.next K h.1 (show i < r by omega) h1 h2
    obtain ⟨-, h5⟩ := K.next H h.2 h3 (by omega) (fun k hk => (h2 k hk).symm)
    refine ⟨h3, fun k hk => ?_⟩
    rcases Nat.lt_or_ge k i with h6 | h6
    · exact h2 k h6
    · obtain rfl : k = i := by omega
      omega
/-- Two echelon forms of one space: as many rows, the same pivots, each row a multiple. -/
theorem EF.uniq (H : EF R C r p f) (K : EF S C s q g) (h : QSP R S C f g) : r = s ∧ (∀ k, k < r → p k = q k) ∧ ∀ i, i < r → ∃ d c : Int, d ≠ 0 ∧ c ≠ 0 ∧ ∀ y, y < C → d * f i y = c * g i y := by
  obtain ⟨h1, h2⟩ := H.pivs K h r (Nat.le_refl _)
  obtain ⟨h3, -⟩ := K.pivs H h.symm s (Nat.le_refl _)
  refine ⟨by omega, h2, fun i hi => ?_⟩
  have hiR := Nat.lt_of_lt_of_le hi H.le
  obtain ⟨d, c, hd, hc⟩ := h.1 i hiR
  have h0 : ∀ k, k < s → k ≠ i → c k = 0 := fun k hk hne => K.coef hc hk (by rw [← h2 k (by omega)]; exact H.oth k i (by omega) hiR (fun e => hne e.symm))
  have hv : ∀ y, y < C → d * f i y = c i * g i y := fun y hy => by
    rw [hc y hy]
    refine sumTo_one S (Nat.lt_of_lt_of_le (show i < s by omega) K.le) fun k hk hne => ?_
    rcases Nat.lt_or_ge k s with h4 | h4
    · rw [h0 k h4 hne, Int.zero_mul]
    · rw [K.zero k y h4 hk hy, Int.mul_zero]
  refine ⟨d, c i, hd, fun e => ?_, hv⟩
  have := hv _ (H.lt i hi)
  rw [e, Int.zero_mul] at this
  rcases Int.mul_eq_zero.1 this with h4 | h4
  · exact hd h4
  · exact H.ne i hi h4
end
/-- What divides all multiples divides the multiple of the divisor. -/
theorem gcdF_mul (c d : Int) (l : List Int) : ∀ a : Nat, d ∣ c * a → (∀ x ∈ l, d ∣ c * x) → d ∣ c * (l.foldl (fun (g : Nat) (x : Int) => Int.gcd g x) a : Nat) := by
  induction l with
  | nil => intro a h _; simpa using h
  | cons y l ih =>
    intro a h h2
    refine ih _ ?_ (fun x hx => h2 x (List.mem_cons_of_mem _ hx))
    have h3 : d ∣ (Int.gcd (c * a) (c * y) : Nat) := by
      have := Int.dvd_coe_gcd h (h2 y (List.mem_cons_self ..))
      exact this
    rw [Int.gcd_mul_left] at h3
    have h4 : ((c.natAbs * Int.gcd a y : Nat) : Int) ∣ c * (Int.gcd a y : Nat) := by
      rw [Int.natCast_mul]
      exact Int.mul_dvd_mul (Int.natAbs_dvd.2 (Int.dvd_refl c)) (Int.dvd_refl _)
    exact Int.dvd_trans h3 h4
theorem gcdL_mul {c d : Int} {l : List Int} (h : ∀ x ∈ l, d ∣ c * x) : d ∣ c * (gcdL l : Nat) := gcdF_mul c d l 0 (by simp) h
/-- Two primitive rows that are multiples of each other are equal. -/
theorem prim_uniq {l m : List Int} {d c : Int} (hl : primL l = l) (hm : primL m = m) (hlen : l.length = m.length) (hd : d ≠ 0) (hc : c ≠ 0) (e : ∀ k, k < l.length → d * l.getD k 0 = c * m.getD k 0) : l = m := by
  have hext : (∀ k, k < l.length → l.getD k 0 = m.getD k 0) → l = m := fun h => by
    refine List.ext_getElem hlen fun k h1 h2 => ?_
    have := h k h1
    simpa [List.getD, h1, h2] using this
  have hz : ∀ k, k < l.length → (l.getD k 0 = 0 ↔ m.getD k 0 = 0) := fun k hk => by
    have := e k hk
    constructor
    · intro h; rw [h, Int.mul_zero] at this
      rcases Int.mul_eq_zero.1 this.symm with h1 | h1
      · exact absurd h1 hc
      · exact h1
    · intro h; rw [h, Int.mul_zero] at this
      rcases Int.mul_eq_zero.1 this with h1 | h1
      · exact absurd h1 hd
      · exact h1
  rcases (primL_eq_iff l).1 hl with h0 | ⟨h1, h2⟩
  · refine hext fun k hk => ?_
    have h3 := gcdL_zero.1 h0 _ (mem_getD hk)
    rw [h3]; exact ((hz k hk).1 h3).symm
  · have hlt : fcN l < l.length := fcN_lt_iff.2 (by omega)
    have hfc : fcN m = fcN l := fcN_eq (by omega) (fun j hj => (hz j (by omega)).1 (fcN_zero l j hj)) (fun _ h => fcN_ne l hlt ((hz _ hlt).2 h))
    have hml : gcdL m ≠ 0 := fcN_lt_iff.1 (by omega)
    obtain ⟨m1, m2⟩ := ((primL_eq_iff m).1 hm).resolve_left hml
    have k1 : c ∣ d * (gcdL l : Nat) := gcdL_mul fun x hx => by
      obtain ⟨k, hk, rfl⟩ := List.mem_iff_getElem.1 hx
      have := e k hk
      rw [show l.getD k 0 = l[k] by simp [List.getD, hk]] at this
      rw [this]; exact Int.dvd_mul_right _ _
    have k2 : d ∣ c * (gcdL m : Nat) := gcdL_mul fun x hx => by
      obtain ⟨k, hk, rfl⟩ := List.mem_iff_getElem.1 hx
      have := e k (by omega)
      rw [show m.getD k 0 = m[k] by simp [List.getD, hk]] at this
      rw [← this]; exact Int.dvd_mul_right _ _
    rw [h1] at k1
    rw [m1] at k2
    have k3 : c ∣ d := by simpa using k1
    have k4 : d ∣ c := by simpa using k2
    have k5 : d.natAbs = c.natAbs := Nat.dvd_antisymm (Int.natAbs_dvd_natAbs.2 k4) (Int.natAbs_dvd_natAbs.2 k3)
    have k6 := e _ hlt
    have k7 := fcN_ne l hlt
    rw [hfc] at m2
    rcases (show d = c ∨ d = -c by omega) with k8 | k8
    · subst k8
      exact hext fun k hk => Int.eq_of_mul_eq_mul_left hd (e k hk)
    · exfalso
      subst k8
      have k9 : c * (m.getD (fcN l) 0 + l.getD (fcN l) 0) = 0 := by rw [Int.mul_add]; rw [Int.neg_mul] at k6; omega
      rcases Int.mul_eq_zero.1 k9 with k10 | k10
      · exact hc k10
      · omega
end Go.Proofs.Ytlggfmfelakadaa

/-
  DERIVED. What EchelonOf computes is an echelon form of the same space; that of an echelon form is itself. No program in sight.
-/
namespace Go.Proofs.Ytlggfmfelakadaa
set_option linter.unusedVariables false
theorem primL_mul (l : List Int) : ∃ D : Int, D ≠ 0 ∧ ∀ k, k < l.length → D * (primL l).getD k 0 = l.getD k 0 := by
  unfold primL
  by_cases h0 : gcdL l = 0
  · rw [if_pos h0]; exact ⟨1, by decide, fun k _ => Int.one_mul _⟩
  · rw [if_neg h0]
    have hd := divL_abs l
    refine ⟨divL l, fun e => by rw [e] at hd; simp at hd; omega, fun k hk => ?_⟩
    have h1 : (l.map (·.tdiv (divL l))).getD k 0 = (l.getD k 0).tdiv (divL l) := by simp [List.getD, hk]
    rw [h1]
    exact Int.mul_tdiv_cancel' (divL_dvd (mem_getD hk))
section
variable {R C r t j : Nat} {p : Nat → Nat} {f g : Fn2}
theorem QSP.scale {f g : Fn2} (h : ∀ i, i < R → ∃ D : Int, D ≠ 0 ∧ ∀ y, y < C → D * g i y = f i y) : QSP R R C f g := by
  refine ⟨fun i hi => ?_, fun i hi => ?_⟩
  · obtain ⟨D, hD, e⟩ := h i hi
    exact (QS.row (f := g) hi).lin (QS.row hi) (a := D) (b := 0) (d := 1) (by decide) fun y hy => by rw [← e y hy]; omega
  · obtain ⟨D, hD, e⟩ := h i hi
    exact (QS.row (f := f) hi).as hD e
theorem prK_span : QSP R R C f (prK C f R) := QSP.scale fun i hi => by
  obtain ⟨D, hD, e⟩ := primL_mul (rw_ C f i)
  refine ⟨D, hD, fun y hy => ?_⟩
  have := e y (by rw [rw_len]; exact hy)
  rw [rw_at hy] at this
  rw [← this]
  unfold prK
  rw [if_pos hi]
theorem stQ_cmb {i : Nat} (hi0 : f i j ≠ 0) (ht0 : f t j ≠ 0) (hj : j < C) : (∃ d a b, CMB C f (stQ C f t j i) i t d a b) ∧ stQ C f t j i i j = 0 := by
  obtain ⟨D, hD, e⟩ := primL_mul (rw_ C (cbK f t j i C) i)
  have e' : ∀ c, c < C → D * stQ C f t j i i c = cbV f t j i c := fun c hc => by
    have := e c (by rw [rw_len]; exact hc)
    rw [rw_at hc] at this
    have e2 : cbK f t j i C i c = cbV f t j i c := by unfold cbK; rw [if_pos ⟨rfl, hc⟩]
    rw [e2] at this
    rw [← this]
    unfold stQ prF setR
    rw [if_pos rfl]
  obtain ⟨x, hx⟩ : ((Int.gcd (f i j) (f t j) : Nat) : Int) ∣ f i j := Int.gcd_dvd_left ..
  obtain ⟨y, hy⟩ : ((Int.gcd (f i j) (f t j) : Nat) : Int) ∣ f t j := Int.gcd_dvd_right ..
  have hg : ((Int.gcd (f i j) (f t j) : Nat) : Int) ≠ 0 := fun h => hi0 (by rw [hx, h, Int.zero_mul])
  have kx : (f i j).tdiv (Int.gcd (f i j) (f t j) : Nat) = x := by
    generalize hG : ((Int.gcd (f i j) (f t j) : Nat) : Int) = G at *
    rw [hx]; exact Int.mul_tdiv_cancel_left x hg
  have ky : (f t j).tdiv (Int.gcd (f i j) (f t j) : Nat) = y := by
    generalize hG : ((Int.gcd (f i j) (f t j) : Nat) : Int) = G at *
    rw [hy]; exact Int.mul_tdiv_cancel_left y hg
  have hv : ∀ c, cbV f t j i c = y * f i c - x * f t c := fun c => by unfold cbV; rw [kx, ky]
  refine ⟨⟨D, y, -x, hD, fun h => ht0 (by rw [hy, h, Int.mul_zero]), fun c hc => by rw [e' c hc, hv]; grind, fun a ha => ?_⟩, ?_⟩
  · funext c
    unfold stQ prF setR cbK
    rw [if_neg ha, if_neg (fun e => ha e.1)]
  · have h1 := e' j hj
    rw [hv] at h1
    generalize ((Int.gcd (f i j) (f t j) : Nat) : Int) = G at *
    have h2 : y * f i j - x * f t j = 0 := by rw [hx, hy]; grind
    rw [h2] at h1
    rcases Int.mul_eq_zero.1 h1 with h3 | h3
    · exact absurd h3 hD
    · exact h3
/-- A step of the elimination keeps what is there. -/
theorem EF.cmb {f' : Fn2} {i : Nat} {d a b : Int} (H : EF R j r p f) (K : CMB C f f' i t d a b) (hj : j ≤ C) (ht : t < R) (hrt : r ≤ t) (hi : i < R) : EF R j r p f' := by
  have hz : ∀ x y, y < j → (f' x y = 0 ↔ f x y = 0) := fun x y hy => by
    by_cases e : x = i
    · subst e
      have h1 := K.at_ y (by omega)
      rw [H.zero t y hrt ht hy, Int.mul_zero, Int.add_zero] at h1
      constructor
      · intro h
        rw [h, Int.mul_zero] at h1
        rcases Int.mul_eq_zero.1 h1.symm with h2 | h2
        · exact absurd h2 K.a0
        · exact h2
      · intro h
        rw [h, Int.mul_zero] at h1
        rcases Int.mul_eq_zero.1 h1 with h2 | h2
        · exact absurd h2 K.d0
        · exact h2
    · rw [K.other x e]
  exact ⟨H.le, H.lt, H.mono, fun x y hx hy => (hz x y (Nat.lt_trans hy (H.lt x hx))).2 (H.left x y hx hy), fun x hx h => H.ne x hx ((hz x _ (H.lt x hx)).1 h), fun x k hx hk hne => (hz k _ (H.lt x hx)).2 (H.oth x k hx hk hne), fun x y h1 h2 h3 => (hz x y h3).2 (H.zero x y h1 h2 h3)⟩
/-- What holds inside the sweep of a column. -/
structure SwQ (R C j t : Nat) (p : Nat → Nat) (f0 : Fn2) (i : Nat) (f : Fn2) : Prop where
  ef : EF R j t p f
  sp : QSP R R C f0 f
  ok : QOk R C f
  nz : f t j ≠ 0
  done : ∀ x, x < i → x < R → x ≠ t → f x j = 0
theorem SwQ.run {f0 : Fn2} (hj : j < C) (ht : t < R) : ∀ (n i : Nat) (f f' : Fn2), i + n = R → SwQ R C j t p f0 i f → rowsQ C t j n i f = some f' → SwQ R C j t p f0 R f'
  | 0, i, f, f', hi, H, h => by
    unfold rowsQ at h
    injection h with h
    subst h
    obtain rfl : i = R := by omega
    exact H
  | n + 1, i, f, f', hi, H, h => by
    unfold rowsQ at h
    split at h
    · rename_i hc
      refine SwQ.run hj ht n (i + 1) f f' (by omega) ⟨H.ef, H.sp, H.ok, H.nz, fun x hx hxR hxt => ?_⟩ h
      rcases Nat.lt_or_ge x i with h1 | h1
      · exact H.done x h1 hxR hxt
      · obtain rfl : x = i := by omega
        rcases hc with hc | hc
        · exact absurd hc hxt
        · exact hc
    · rename_i hc
      split at h
      · rename_i hk
        have hit : i ≠ t := fun e => hc (.inl e)
        have hi0 : f i j ≠ 0 := fun e => hc (.inr e)
        obtain ⟨⟨d, a, b, K⟩, hz⟩ := stQ_cmb (C := C) hi0 H.nz hj
        refine SwQ.run hj ht n (i + 1) _ f' (by omega) ⟨H.ef.cmb K (by omega) ht (Nat.le_refl _) (by omega), H.sp.trans (K.span (by omega) ht hit), H.ok.st (by omega) hk, ?_, fun x hx hxR hxt => ?_⟩ h
        · rw [K.other t (fun e => hit e.symm)]; exact H.nz
        · rcases Nat.lt_or_ge x i with h1 | h1
          · rw [K.other x (by omega)]; exact H.done x h1 hxR hxt
          · obtain rfl : x = i := by omega
            exact hz
      · cases h
theorem fnd_zero (f : Nat → Nat → Int) (j : Nat) : ∀ n k i, k ≤ i → i < fnd f j n k → f i j = 0
  | 0, k, i, h1, h2 => by unfold fnd at h2; omega
  | n + 1, k, i, h1, h2 => by
    unfold fnd at h2
    split at h2
    · rename_i h0
      by_cases e : i = k
      · rw [e]; exact h0
      · exact fnd_zero f j n (k + 1) i (by omega) h2
    · omega
theorem fnd_none (f : Nat → Nat → Int) (j : Nat) : ∀ n k, (∀ i, k ≤ i → i < k + n → f i j = 0) → fnd f j n k = k + n
  | 0, k, _ => rfl
  | n + 1, k, h => by
    unfold fnd
    rw [if_pos (h k (Nat.le_refl _) (by omega)), fnd_none f j n (k + 1) (fun i h1 h2 => h i (by omega) (by omega))]
    omega
/-- The pivots as a function. -/
def pf (ps : List Int) (i : Nat) : Nat := (ps.getD i 0).toNat
theorem pf_snoc {ps : List Int} {i : Nat} (h : i < ps.length) (j : Nat) : pf (ps ++ [(j : Int)]) i = pf ps i := by unfold pf; simp [List.getD, List.getElem?_append_left h]
theorem pf_last (ps : List Int) (j : Nat) : pf (ps ++ [(j : Int)]) ps.length = j := by unfold pf; simp [List.getD]
theorem EF.sw (H : EF R j t p f) {k : Nat} (hk : k < R) (htk : t ≤ k) (htR : t < R) : EF R j t p (swF f k t) := by
  have h1 : ∀ i, i < t → swF f k t i = f i := fun i hi => by
    funext y; unfold swF; rw [if_neg (by omega), if_neg (by omega)]
  have h2 : ∀ i, t ≤ i → i < R → ∃ i', t ≤ i' ∧ i' < R ∧ swF f k t i = f i' := fun i ha hb => by
    refine ⟨if i = k then t else if i = t then k else i, ?_, ?_, rfl⟩ <;> grind
  refine ⟨H.le, H.lt, H.mono, fun i y hi hy => by rw [h1 i hi]; exact H.left i y hi hy, fun i hi => by rw [h1 i hi]; exact H.ne i hi, fun i x hi hx hne => ?_, fun i y ha hb hy => ?_⟩
  · rcases Nat.lt_or_ge x t with h | h
    · rw [h1 x h]; exact H.oth i x hi hx hne
    · obtain ⟨x', ha, hb, e⟩ := h2 x h hx
      rw [e]; exact H.oth i x' hi hb (by omega)
  · obtain ⟨x', h3, h4, e⟩ := h2 i ha hb
    rw [e]; exact H.zero x' y h3 h4 hy
/-- A column done, with a pivot in it. -/
theorem EF.more (H : EF R j t p f) (ht : t < R) (hnz : f t j ≠ 0) (hz : ∀ x, x < R → x ≠ t → f x j = 0) {q : Nat → Nat} (hq : ∀ i, i < t → q i = p i) (hqt : q t = j) : EF R (j + 1) (t + 1) q f := by
  have hc : ∀ i, i < t + 1 → i < t ∨ i = t := fun i h => by omega
  refine ⟨by omega, fun i hi => ?_, fun i k hik hk => ?_, fun i y hi hy => ?_, fun i hi => ?_, fun i k hi hk hne => ?_, fun i y h1 h2 h3 => ?_⟩
  · rcases hc i hi with h | rfl
    · rw [hq i h]; have := H.lt i h; omega
    · omega
  · rcases hc k hk with h | rfl
    · rw [hq i (by omega), hq k h]; exact H.mono i k hik h
    · rw [hqt, hq i hik]; exact H.lt i hik
  · rcases hc i hi with h | rfl
    · rw [hq i h] at hy; exact H.left i y h hy
    · rw [hqt] at hy; exact H.zero i y (Nat.le_refl _) ht hy
  · rcases hc i hi with h | rfl
    · rw [hq i h]; exact H.ne i h
    · rw [hqt]; exact hnz
  · rcases hc i hi with h | rfl
    · rw [hq i h]; exact H.oth i k h hk hne
    · rw [hqt]; exact hz k hk hne
  · by_cases e : y = j
    · subst e; exact hz i h2 (by omega)
    · exact H.zero i y (by omega) h2 (by omega)
theorem EF.skip (H : EF R j t p f) (hz : ∀ x, t ≤ x → x < R → f x j = 0) : EF R (j + 1) t p f :=
  ⟨H.le, fun i hi => by have := H.lt i hi; omega, H.mono, H.left, H.ne, H.oth, fun i y h1 h2 h3 => by
    by_cases e : y = j
    · subst e; exact hz i h1 h2
    · exact H.zero i y h1 h2 (by omega)⟩
theorem colsQ_ef : ∀ (n j : Nat) (s s' : QSt), j + n = C → EF R j s.ps.length (pf s.ps) s.f → QOk R C s.f → (∀ x ∈ s.ps, 0 ≤ x) → colsQ R C n j s = some s' → EF R C s'.ps.length (pf s'.ps) s'.f ∧ QOk R C s'.f ∧ QSP R R C s.f s'.f ∧ ∀ x ∈ s'.ps, 0 ≤ x
  | 0, j, s, s', hj, H, K, N, h => by
    unfold colsQ at h
    injection h with h
    subst h
    obtain rfl : j = C := by omega
    exact ⟨H, K, QSP.refl _ _ _, N⟩
  | n + 1, j, s, s', hj, H, K, N, h => by
    unfold colsQ at h
    have hle := fnd_le s.f j (R - s.ps.length) s.ps.length
    have hH := H.le
    split at h
    · rename_i hk
      exact colsQ_ef n (j + 1) s s' (by omega) (H.skip fun x h1 h2 => fnd_zero s.f j (R - s.ps.length) s.ps.length x h1 (by omega)) K N h
    · rename_i hk
      generalize hF : fnd s.f j (R - s.ps.length) s.ps.length = k at *
      have hne : s.f k j ≠ 0 := by rw [← hF]; exact fnd_ne s.f j _ _ (by rw [hF]; omega)
      have htR : s.ps.length < R := by omega
      split at h
      · cases h
      · rename_i f' hr
        have W : SwQ R C j s.ps.length (pf s.ps) (swF s.f k s.ps.length) 0 (swF s.f k s.ps.length) := ⟨H.sw (by omega) hle.1 htR, QSP.refl _ _ _, K.sw (by omega) htR, by rw [swF_t]; exact hne, fun x hx => absurd hx (Nat.not_lt_zero _)⟩
        have W' := SwQ.run (by omega) htR (R - 0) 0 _ f' (by omega) W hr
        obtain ⟨a1, a2, a3, a4⟩ := colsQ_ef n (j + 1) ⟨f', s.ps ++ [(j : Int)]⟩ s' (by omega) (by
          simp only [List.length_append, List.length_cons, List.length_nil]
          exact W'.ef.more htR W'.nz (fun x hx hxt => W'.done x hx hx hxt) (fun i hi => pf_snoc hi j) (pf_last _ j)) W'.ok (by
          intro x hx
          rcases List.mem_append.1 hx with hx | hx
          · exact N x hx
          · simp at hx; omega) h
        exact ⟨a1, a2, ((QSP.swap (by omega) htR).trans W'.sp).trans a3, a4⟩
/-- What EchelonOf computes. -/
theorem echQ_ef {s : QSt} (hb : ∀ i c, i < R → c < C → -400000000 ≤ f i c ∧ f i c ≤ 400000000) (h : echQ R C f = some s) : EF R C s.ps.length (pf s.ps) s.f ∧ QOk R C s.f ∧ QSP R R C f s.f ∧ ∀ x ∈ s.ps, 0 ≤ x := by
  obtain ⟨a1, a2, a3, a4⟩ := colsQ_ef (C - 0) 0 ⟨prK C f R, []⟩ s (by omega) ⟨Nat.zero_le _, fun i hi => absurd hi (Nat.not_lt_zero _), fun i k _ hk => absurd hk (Nat.not_lt_zero _), fun i y hi => absurd hi (Nat.not_lt_zero _), fun i hi => absurd hi (Nat.not_lt_zero _), fun i k hi => absurd hi (Nat.not_lt_zero _), fun i y _ _ hy => absurd hy (Nat.not_lt_zero _)⟩ (QOk.all hb) (fun x hx => by cases hx) h
  exact ⟨a1, a2, prK_span.trans a3, a4⟩
theorem rowsQ_none : ∀ n i (f : Fn2), (∀ x, i ≤ x → x < i + n → x = t ∨ f x j = 0) → rowsQ C t j n i f = some f
  | 0, i, f, _ => rfl
  | n + 1, i, f, h => by
    unfold rowsQ
    rw [if_pos (h i (Nat.le_refl _) (by omega))]
    exact rowsQ_none n (i + 1) f fun x h1 h2 => h x (by omega) (by omega)
theorem colsQ_again (H : EF R C r p g) : ∀ (n j : Nat) (ps : List Int), j + n = C → ps.length ≤ r → (∀ i, i < ps.length → p i < j) → (∀ i, ps.length ≤ i → i < r → j ≤ p i) → ∃ ps', colsQ R C n j ⟨g, ps⟩ = some ⟨g, ps ++ ps'⟩ ∧ ps.length + ps'.length = r ∧ ∀ i, i < ps'.length → ps'.getD i 0 = (p (ps.length + i) : Int)
  | 0, j, ps, hj, h1, h2, h3 => by
    refine ⟨[], by rw [List.append_nil]; rfl, ?_, fun i hi => absurd hi (Nat.not_lt_zero _)⟩
    refine Nat.le_antisymm (by simpa using h1) (Nat.le_of_not_lt fun h => ?_)
    simp at h
    have := h3 ps.length (Nat.le_refl _) h
    have := H.lt _ h
    omega
  | n + 1, j, ps, hj, h1, h2, h3 => by
    have hrR := H.le
    unfold colsQ
    by_cases hc : ps.length < r ∧ p ps.length = j
    · obtain ⟨hc1, hc2⟩ := hc
      have hne := H.ne _ hc1
      rw [hc2] at hne
      simp only [fnd_here (show ps.length < R by omega) hne]
      rw [if_neg (by omega), swF_same, rowsQ_none (R - 0) 0 g (fun x _ hx => by
        by_cases e : x = ps.length
        · exact .inl e
        · right; rw [← hc2]; exact H.oth _ x hc1 (by omega) e)]
      obtain ⟨ps', e1, e2, e3⟩ := colsQ_again H n (j + 1) (ps ++ [(j : Int)]) (by omega) (by simp; omega) (fun i hi => by
        simp at hi
        by_cases e : i = ps.length
        · rw [e]; omega
        · have := h2 i (by omega); omega) (fun i ha hb => by
        simp at ha
        have := H.mono ps.length i (by omega) hb; omega)
      refine ⟨(j : Int) :: ps', ?_, by simp at e2 ⊢; omega, fun i hi => ?_⟩
      · simp only; rw [e1]; simp
      · cases i with
        | zero => simp [hc2]
        | succ i =>
          have := e3 i (by simpa using hi)
          simp at this ⊢
          rw [this]
          congr 2
          omega
    · have hz : ∀ x, ps.length ≤ x → x < ps.length + (R - ps.length) → g x j = 0 := fun x ha hb => by
        rcases Nat.lt_or_ge x r with h | h
        · have q1 := h3 x ha h
          by_cases e : p x = j
          · exfalso
            by_cases e2 : x = ps.length
            · subst e2; exact hc ⟨h, e⟩
            · have := H.mono ps.length x (by omega) h
              have := h3 ps.length (Nat.le_refl _) (by omega)
              omega
          · exact H.left x j h (by omega)
        · exact H.zero x j h (by omega) (by omega)
      simp only [fnd_none g j _ _ hz]
      rw [if_pos (by omega)]
      refine colsQ_again H n (j + 1) ps (by omega) h1 (fun i hi => by have := h2 i hi; omega) (fun i ha hb => ?_)
      have q1 := h3 i ha hb
      by_cases e : p i = j
      · exfalso
        by_cases e2 : i = ps.length
        · subst e2; exact hc ⟨hb, e⟩
        · have := H.mono ps.length i (by omega) hb
          have := h3 ps.length (Nat.le_refl _) (by omega)
          omega
      · omega
end
theorem getD_ext {l m : List Int} (hlen : l.length = m.length) (h : ∀ k, k < l.length → l.getD k 0 = m.getD k 0) : l = m := by
  refine List.ext_getElem hlen fun k h1 h2 => ?_
  have := h k h1
  simpa [List.getD, h1, h2] using this
/-- The echelon form of an echelon form is itself. -/
theorem echQ_again {R C : Nat} {g : Fn2} {s : QSt} (H : EF R C s.ps.length (pf s.ps) s.f) (K : QOk R C s.f) (N : ∀ x ∈ s.ps, 0 ≤ x) (e : EqM R C g s.f) : ∃ s', echQ R C g = some s' ∧ s'.ps = s.ps ∧ EqM R C s'.f s.f := by
  have hE : EqM R C (prK C g R) s.f := fun i c hi hc => by
    unfold prK
    rw [if_pos hi, show rw_ C g i = rw_ C s.f i from rw_ext fun y hy => e i y hi hy, K.pr i hi, rw_at hc]
  obtain ⟨ps', e1, e2, e3⟩ := colsQ_again (H.congr hE) (C - 0) 0 [] (by omega) (Nat.zero_le _) (fun i hi => absurd hi (Nat.not_lt_zero _)) (fun i _ _ => Nat.zero_le _)
  refine ⟨_, e1, ?_, hE⟩
  simp only [List.nil_append, List.length_nil, Nat.zero_add] at e2 e3 ⊢
  refine getD_ext e2 fun k hk => ?_
  rw [e3 k hk]
  unfold pf
  have := N _ (mem_getD (show k < s.ps.length by omega))
  omega
/-- Two echelon forms of one space are equal. -/
theorem ech_uniq {R S C : Nat} {s s2 : QSt} (H : EF R C s.ps.length (pf s.ps) s.f) (K : QOk R C s.f) (N : ∀ x ∈ s.ps, 0 ≤ x) (H2 : EF S C s2.ps.length (pf s2.ps) s2.f) (K2 : QOk S C s2.f) (N2 : ∀ x ∈ s2.ps, 0 ≤ x) (h : QSP R S C s.f s2.f) : s.ps = s2.ps ∧ ∀ i y, i < s.ps.length → y < C → s.f i y = s2.f i y := by
  obtain ⟨u1, u2, u3⟩ := H.uniq H2 h
  refine ⟨getD_ext u1 fun k hk => ?_, fun i y hi hy => ?_⟩
  · have h1 := N _ (mem_getD hk)
    have h2 := N2 _ (mem_getD (show k < s2.ps.length by omega))
    have h3 := u2 k hk
    unfold pf at h3
    omega
  · obtain ⟨d, c, hd, hc, hv⟩ := u3 i hi
    have h1 := H.le
    have h2 := H2.le
    have := prim_uniq (K.pr i (by omega)) (K2.pr i (by omega)) (by rw [rw_len, rw_len]) hd hc (fun k hk => by
      rw [rw_len] at hk
      rw [rw_at hk, rw_at hk]; exact hv k hk)
    rw [← rw_at (f := s.f) (i := i) hy, this, rw_at hy]
theorem rowL_tbQ {R C i : Nat} {f : Fn2} (hi : i < R) : (rowL (tb R C f) C i).length = C := rowL_len (by rw [tb_len]; have := Nat.mul_le_mul_right C (show i + 1 ≤ R by omega); rw [Nat.add_mul, Nat.one_mul] at this; exact this)
theorem QOk.mat {R C : Nat} {f : Fn2} (h : QOk R C f) (hR : R ≤ 24) (hC : C ≤ 24) : isMat R C (tb R C f) = true :=
  isMat_iff.2 ⟨by omega, by omega, by omega, by omega, by rw [tb_len]; simp, by
    rw [List.all_eq_true]
    exact tb_mem fun i j hi hj => (isNum_iff _).2 (h.bd i j hi hj)⟩
/-- The shape is what IsEchelon asks. -/
theorem EF.echelon {R C r : Nat} {p : Nat → Nat} {f : Fn2} (H : EF R C r p f) (K : QOk R C f) (hR : R ≤ 24) (hC : C ≤ 24) : echB R C (tb R C f) = true := by
  have hpv : ∀ i, i < r → pv (tb R C f) C i = p i := fun i hi => by
    have hiR : i < R := Nat.lt_of_lt_of_le hi H.le
    have hpC := H.lt i hi
    refine fcN_eq (by rw [rowL_tbQ hiR]; omega) (fun j hj => ?_) (fun _ => ?_)
    · rw [rowL_getD (by omega), cel_tb hiR (by omega)]
      exact H.left i j hi hj
    · rw [rowL_getD hpC, cel_tb hiR hpC]
      exact H.ne i hi
  have hpz : ∀ i, r ≤ i → i < R → pv (tb R C f) C i = C := fun i h1 h2 => by
    refine fcN_eq (by rw [rowL_tbQ h2]; omega) (fun j hj => ?_) (fun h => by rw [rowL_tbQ h2] at h; omega)
    rw [rowL_getD hj, cel_tb h2 hj]
    exact H.zero i j h1 h2 hj
  have hrow : ∀ i, i < R → rowL (tb R C f) C i = rw_ C f i := fun i hi => getD_ext (by rw [rowL_tbQ hi, rw_len]) fun k hk => by
    rw [rowL_tbQ hi] at hk
    rw [rowL_getD hk, cel_tb hi hk, rw_at hk]
  have hM := K.mat hR hC
  unfold echB
  rw [hM, Bool.true_and, List.all_eq_true]
  intro i hi
  have hi' : i < R := by simpa using hi
  simp only [Int.toNat_natCast]
  unfold erow
  rcases Nat.lt_or_ge i r with hir | hir
  · have hpC := H.lt i hir
    have hpr := K.pr i hi'
    rw [← hrow i hi'] at hpr
    obtain ⟨g1, g2⟩ := (prim_row (rowL_tbQ hi') (by rw [hpv i hir]; exact hpC)).1 hpr
    rw [hpv i hir] at g2 ⊢
    rw [if_pos hpC]
    have hlast : lastP (tb R C f) C i < p i := by
      cases i with
      | zero => rw [lastP_zero]; omega
      | succ i =>
        rw [lastP_succ, hpv i (by omega)]
        have := H.mono i (i + 1) (by omega) hir; omega
    simp only [Bool.and_eq_true, decide_eq_true_eq]
    refine ⟨⟨⟨hlast, g2⟩, g1⟩, ?_⟩
    rw [List.all_eq_true]
    intro k hk
    have hk' := List.mem_range.1 hk
    unfold ezc
    rw [hpv i hir, cel_tb hk' hpC]
    by_cases e : k = i
    · simp [e]
    · simp [e, H.oth i k hir hk' e]
  · rw [hpz i hir hi', if_neg (Nat.lt_irrefl _)]
end Go.Proofs.Ytlggfmfelakadaa

/-
  DERIVED. Ranks: no more than n rows are wanted to span; turned over; products; echelon, Hermite and diagonal forms. No program in sight.
-/
namespace Go.Proofs.Ytlggfmfelakadaa
set_option linter.unusedVariables false
/-- The rows of f are, some times, sums of n rows. -/
def RKs (R C n : Nat) (f : Fn2) : Prop := ∃ e : Fn2, ∀ i, i < R → QS n C e (f i)
section
variable {R S C r n : Nat} {p : Nat → Nat} {f g : Fn2}
theorem EF.rk_le (H : EF R C r p f) (h : RKs R C n f) : r ≤ n := by
  obtain ⟨e, he⟩ := h
  exact Ind.le H.ind fun i hi => he i (Nat.lt_of_lt_of_le hi H.le)
theorem EF.rk (H : EF R C r p f) : RKs R C r f := ⟨f, fun i hi => by
  rcases Nat.lt_or_ge i r with h | h
  · exact QS.row h
  · exact QS.zero fun y hy => H.zero i y h hi hy⟩
theorem RKs.span (h : RKs S C n g) (k : ∀ i, i < R → QS S C g (f i)) : RKs R C n f := by
  obtain ⟨e, he⟩ := h
  exact ⟨e, fun i hi => (k i hi).trans he⟩
/-- One divisor for all rows. -/
theorem QS.all {e : Fn2} : ∀ R, (∀ i, i < R → QS n C e (f i)) → ∃ (d : Int) (u : Fn2), d ≠ 0 ∧ ∀ i y, i < R → y < C → d * f i y = sumTo (fun k => u i k * e k y) n
  | 0, _ => ⟨1, fun _ _ => 0, by decide, fun i y hi => absurd hi (Nat.not_lt_zero _)⟩
  | R + 1, h => by
    obtain ⟨d, u, hd, hu⟩ := QS.all R fun i hi => h i (by omega)
    obtain ⟨d2, c, hd2, hc⟩ := h R (by omega)
    refine ⟨d * d2, fun i k => if i = R then d * c k else d2 * u i k, Int.mul_ne_zero hd hd2, fun i y hi hy => ?_⟩
    by_cases e1 : i = R
    · subst e1
      rw [show d * d2 * f i y = d * (d2 * f i y) by grind, hc y hy, ← sumTo_mul']
      exact sumTo_congr n fun k _ => by simp only [if_pos]; grind
    · rw [show d * d2 * f i y = d2 * (d * f i y) by grind, hu i y (by omega) hy, ← sumTo_mul']
      exact sumTo_congr n fun k _ => by simp only [if_neg e1]; grind
theorem RKs.turn (h : RKs R C n f) : RKs C R n (fun a b => f b a) := by
  obtain ⟨e, he⟩ := h
  obtain ⟨d, u, hd, hu⟩ := QS.all R he
  refine ⟨fun k i => u i k, fun y hy => ⟨d, fun k => e k y, hd, fun i hi => ?_⟩⟩
  rw [hu i y hi hy]
  exact sumTo_congr n fun k _ => Int.mul_comm _ _
theorem QS.mm {u : Fn2} {i : Nat} : QS R C f (mm R u f i) := ⟨1, u i, by decide, fun y _ => by rw [Int.one_mul]; rfl⟩
theorem RKs.left {u : Fn2} (h : RKs R C n f) : RKs S C n (mm R u f) := h.span fun i _ => QS.mm
theorem RKs.right {v : Fn2} {D : Nat} (h : RKs R C n f) : RKs R D n (mm C f v) := by
  obtain ⟨e, he⟩ := h
  refine ⟨mm C e v, fun i hi => ?_⟩
  obtain ⟨d, c, hd, hc⟩ := he i hi
  refine ⟨d, c, hd, fun y _ => ?_⟩
  have e1 : d * mm C f v i y = sumTo (fun k => d * (f i k * v k y)) C := by unfold mm; rw [sumTo_mul']
  have e2 : sumTo (fun k => d * (f i k * v k y)) C = sumTo (fun k => sumTo (fun a => c a * e a k * v k y) n) C := sumTo_congr C fun k hk => by
    rw [show d * (f i k * v k y) = d * f i k * v k y by grind, hc k hk, ← sumTo_mul]
  rw [e1, e2, sumTo_swap]
  refine sumTo_congr n fun a _ => ?_
  unfold mm
  rw [← sumTo_mul']
  exact sumTo_congr C fun k _ => by grind
/-- Two echelon forms of two spaces, one in the other. -/
theorem EF.le_of {q : Nat → Nat} {s : Nat} (H : EF R C r p f) (K : EF S C s q g) (h : ∀ i, i < R → QS S C g (f i)) : r ≤ s := H.rk_le (K.rk.span h)
/-- A form with the rows of it from r on zeros, and the first r independent. -/
theorem Ind.rk_le (H : Ind r C f) (hr : r ≤ R) (h : RKs R C n f) : r ≤ n := by
  obtain ⟨e, he⟩ := h
  exact Ind.le H fun i hi => he i (by omega)
/-- A space in another one, as many dimensions: they are one. -/
theorem EF.back {q : Nat → Nat} {s : Nat} (H : EF R C r p f) (K : EF S C s q g) (h : ∀ i, i < R → QS S C g (f i)) (hrs : s ≤ r) : ∀ i, i < S → QS R C f (g i) := fun i hi => by
  -- the rows of f with row i of g beside them: r + 1 vectors in a space of s dimensions
  have hfr := H.le
  apply Classical.byContradiction
  intro hno
  have hind : Ind (r + 1) C (fun k y => if k < r then f k y else g i y) := fun z hz k hk => by
    have e1 : ∀ y, y < C → sumTo (fun k => z k * f k y) r + z r * g i y = 0 := fun y hy => by
      have := hz y hy
      rw [sumTo_succ] at this
      simp only [if_neg (Nat.lt_irrefl r)] at this
      rw [← this]
      congr 1
      exact sumTo_congr r fun k hk => by simp only [if_pos hk]
    have hr0 : z r = 0 := by
      apply Classical.byContradiction
      intro h0
      refine hno ⟨z r, fun k => if k < r then -z k else 0, h0, fun y hy => ?_⟩
      have h1 := e1 y hy
      have h2 : sumTo (fun k => (if k < r then -z k else 0) * f k y) R = -sumTo (fun k => z k * f k y) r := by
        have hs : ∀ m, r ≤ m → sumTo (fun k => (if k < r then -z k else 0) * f k y) m = -sumTo (fun k => z k * f k y) r := fun m => by
          induction m with
          | zero => intro hm; obtain rfl : r = 0 := by omega
                    rfl
          | succ m ih =>
            intro hm
            by_cases e : r = m + 1
            · subst e
              rw [← sumTo_neg]
              exact sumTo_congr (m + 1) fun k hk => by rw [if_pos hk, Int.neg_mul]
            · rw [sumTo_succ, ih (by omega), if_neg (by omega), Int.zero_mul, Int.add_zero]
        exact hs R hfr
      rw [h2]; omega
    rcases Nat.lt_or_ge k r with h | h
    · refine H.ind z (fun y hy => ?_) k h
      have := e1 y hy
      rw [hr0, Int.zero_mul, Int.add_zero] at this
      exact this
    · obtain rfl : k = r := by omega
      exact hr0
  obtain ⟨e, he⟩ := K.rk
  have := Ind.le hind (u := e) (m := s) fun k hk => by
    rcases Nat.lt_or_ge k r with h1 | h1
    · have q := (h k (by omega)).trans he
      obtain ⟨d, c, hd, hc⟩ := q
      exact ⟨d, c, hd, fun y hy => by simp only [if_pos h1]; exact hc y hy⟩
    · obtain ⟨d, c, hd, hc⟩ := he i hi
      exact ⟨d, c, hd, fun y hy => by simp only [if_neg (show ¬ k < r by omega)]; exact hc y hy⟩
  omega
end
end Go.Proofs.Ytlggfmfelakadaa

/-
  DERIVED. Several small texts in one: PlBl, PlRn, PlLb, PlSm, PlBa, PlBs, PlBw.
-/
import Derived.Test.YtlggfmfelakadaaT3
import Derived.Test.YtlggfmfelakadaaT4
/-
  DERIVED. A determinant with zeros below on the left is the product of two. No program in sight.
-/
namespace Go.Proofs.Ytlggfmfelakadaa
set_option linter.unusedVariables false
theorem Alt.sumE {k : Nat} {F : Fn2 → Int} (H : Alt k F) {x : Nat} (hx : x < k) {g : Fn2} {c : Nat → Int} {v : Fn2} : ∀ n, F (fun i y => if i = x then sumTo (fun q => c q * v q y) n else g i y) = sumTo (fun q => c q * F (fun i y => if i = x then v q y else g i y)) n
  | 0 => H.zero hx fun y _ => by rw [if_pos rfl]; rfl
  | n + 1 => by
    rw [sumTo_succ, ← Alt.sumE H hx n]
    rw [H.lin x (c n) _ (fun i y => if i = x then sumTo (fun q => c q * v q y) n else g i y) (fun i y => if i = x then v n y else g i y) hx (fun y _ => by
      rw [if_pos rfl, if_pos rfl, if_pos rfl]
      show sumTo (fun q => c q * v q y) n + c n * v n y = _
      rw [Int.mul_comm (c n)]) (fun a y _ _ hne => by rw [if_neg hne, if_neg hne, if_neg hne]; exact ⟨rfl, rfl⟩)]
    rw [Int.mul_comm (c n)]
/-- Rows that are dependent: zero. -/
theorem Alt.dep {k : Nat} {F : Fn2 → Int} (H : Alt k F) {f : Fn2} {z : Nat → Int} {x : Nat} (hx : x < k) (hz : z x ≠ 0) (h : ∀ y, y < k → sumTo (fun q => z q * f q y) k = 0) : F f = 0 := by
  have h1 := Alt.sumE H hx (g := f) (c := z) (v := f) k
  rw [H.zero hx (f := fun i y => if i = x then sumTo (fun q => z q * f q y) k else f i y) fun y hy => by rw [if_pos rfl]; exact h y hy] at h1
  have h2 : sumTo (fun q => z q * F (fun i y => if i = x then f q y else f i y)) k = z x * F f := by
    rw [sumTo_one k hx fun q hq hne => by
      rw [H.same hx hq (fun e => hne e.symm) _ fun y _ => by rw [if_pos rfl, if_neg hne], Int.mul_zero]]
    congr 1
    exact H.congr _ _ fun i y _ _ => by
      by_cases e : i = x
      · rw [if_pos e, e]
      · rw [if_neg e]
  rw [h2] at h1
  rcases Int.mul_eq_zero.1 h1.symm with h3 | h3
  · exact absurd h3 hz
  · exact h3
/-- Too many columns that live in too few rows: zero. -/
theorem Dt_few {N s : Nat} {f : Fn2} (hs : s < N) (h : ∀ x y, s ≤ x → x < N → y < s + 1 → f x y = 0) : Dt N f = 0 := by
  obtain ⟨z, ⟨k, hk, hzk⟩, hz⟩ := sys_zero s f
  refine Alt.dep (Dt_altC N) (f := fun a b => f b a) (z := fun q => if q < s + 1 then z q else 0) (x := k) (by omega) (by rw [if_pos hk]; exact hzk) fun y hy => ?_
  have hsum : ∀ n, s + 1 ≤ n → sumTo (fun q => (if q < s + 1 then z q else 0) * f y q) n = sumTo (fun q => f y q * z q) (s + 1) := fun n => by
    induction n with
    | zero => intro h; omega
    | succ n ih =>
      intro hn
      by_cases e : s = n
      · subst e
        exact sumTo_congr (s + 1) fun q hq => by rw [if_pos hq, Int.mul_comm]
      · rw [sumTo_succ, ih (by omega), if_neg (by omega), Int.zero_mul, Int.add_zero]
  rw [hsum N (by omega)]
  by_cases hys : y < s
  · exact hz y hys
  · exact sumTo_null (s + 1) fun q hq => by rw [h y q (by omega) hy hq, Int.zero_mul]
theorem Dt_block : ∀ (t m : Nat) (f : Fn2), (∀ x y, t ≤ x → x < t + m → y < t → f x y = 0) → Dt (t + m) f = Dt t f * Dt m (fun x y => f (t + x) (t + y))
  | 0, m, f, _ => by
    rw [Nat.zero_add]
    show Dt m f = 1 * Dt m _
    rw [Int.one_mul]
    exact Dt_congr m fun x y _ _ => by rw [Nat.zero_add, Nat.zero_add]
  | t + 1, m, f, h => by
    rw [show t + 1 + m = (t + m) + 1 by omega, Dt_succ, Dt_succ]
    -- the columns beyond t + 1 give nothing
    have hsplit : ∀ (g : Nat → Int) (e : Nat), (∀ k, t + 1 ≤ k → k < t + 1 + e → g k = 0) → sumTo g (t + 1 + e) = sumTo g (t + 1) := fun g e => by
      induction e with
      | zero => intro _; rfl
      | succ e ih =>
        intro hg
        rw [show t + 1 + (e + 1) = t + 1 + e + 1 by omega, sumTo_succ, ih (fun k a b => hg k a (by omega)), hg (t + 1 + e) (by omega) (by omega), Int.add_zero]
    rw [show t + m + 1 = t + 1 + m by omega, hsplit _ m fun k h1 h2 => by
      rw [Dt_few (N := t + m) (s := t) (f := mnr f k) (by omega) fun x y ha hb hy => by
        show f (x + 1) (sk k y) = 0
        unfold sk
        rw [if_pos (by omega)]
        exact h (x + 1) y (by omega) (by omega) hy, Int.mul_zero], ← sumTo_mul]
    refine sumTo_congr (t + 1) fun j hj => ?_
    rw [Dt_block t m (mnr f j) fun x y ha hb hy => by
      show f (x + 1) (sk j y) = 0
      have := sk_lt (j := j) hy
      exact h (x + 1) (sk j y) (by omega) (by omega) (by omega)]
    have e : Dt m (fun x y => mnr f j (t + x) (t + y)) = Dt m (fun x y => f (t + 1 + x) (t + 1 + y)) := Dt_congr m fun x y _ _ => by
      show f (t + x + 1) (sk j (t + y)) = _
      unfold sk
      rw [if_neg (by omega), show t + x + 1 = t + 1 + x by omega, show t + y + 1 = t + 1 + y by omega]
    rw [e, Int.mul_assoc, Int.mul_assoc, Int.mul_assoc]
end Go.Proofs.Ytlggfmfelakadaa

/-
  DERIVED. Ranks: no more than n rows are wanted to span; turned over; products; echelon, Hermite and diagonal forms. No program in sight.
-/
namespace Go.Proofs.Ytlggfmfelakadaa
set_option linter.unusedVariables false
/-- The rows of f are, some times, sums of n rows. -/
def RKs (R C n : Nat) (f : Fn2) : Prop := ∃ e : Fn2, ∀ i, i < R → QS n C e (f i)
section
variable {R S C r n : Nat} {p : Nat → Nat} {f g : Fn2}
theorem EF.rk_le (H : EF R C r p f) (h : RKs R C n f) : r ≤ n := by
  obtain ⟨e, he⟩ := h
  exact Ind.le H.ind fun i hi => he i (Nat.lt_of_lt_of_le hi H.le)
theorem EF.rk (H : EF R C r p f) : RKs R C r f := ⟨f, fun i hi => by
  rcases Nat.lt_or_ge i r with h | h
  · exact QS.row h
  · exact QS.zero fun y hy => H.zero i y h hi hy⟩
theorem RKs.span (h : RKs S C n g) (k : ∀ i, i < R → QS S C g (f i)) : RKs R C n f := by
  obtain ⟨e, he⟩ := h
  exact ⟨e, fun i hi => (k i hi).trans he⟩
/-- One divisor for all rows. -/
theorem QS.all {e : Fn2} : ∀ R, (∀ i, i < R → QS n C e (f i)) → ∃ (d : Int) (u : Fn2), d ≠ 0 ∧ ∀ i y, i < R → y < C → d * f i y = sumTo (fun k => u i k * e k y) n
  | 0, _ => ⟨1, fun _ _ => 0, by decide, fun i y hi => absurd hi (Nat.not_lt_zero _)⟩
  | R + 1, h => by
    obtain ⟨d, u, hd, hu⟩ := QS.all R fun i hi => h i (by omega)
    obtain ⟨d2, c, hd2, hc⟩ := h R (by omega)
    refine ⟨d * d2, fun i k => if i = R then d * c k else d2 * u i k, Int.mul_ne_zero hd hd2, fun i y hi hy => ?_⟩
    by_cases e1 : i = R
    · subst e1
      rw [show d * d2 * f i y = d * (d2 * f i y) by grind, hc y hy, ← sumTo_mul']
      exact sumTo_congr n fun k _ => by simp only [if_pos]; grind
    · rw [show d * d2 * f i y = d2 * (d * f i y) by grind, hu i y (by omega) hy, ← sumTo_mul']
      exact sumTo_congr n fun k _ => by simp only [if_neg e1]; grind
theorem RKs.turn (h : RKs R C n f) : RKs C R n (fun a b => f b a) := by
  obtain ⟨e, he⟩ := h
  obtain ⟨d, u, hd, hu⟩ := QS.all R he
  refine ⟨fun k i => u i k, fun y hy => ⟨d, fun k => e k y, hd, fun i hi => ?_⟩⟩
  rw [hu i y hi hy]
  exact sumTo_congr n fun k _ => Int.mul_comm _ _
theorem QS.mm {u : Fn2} {i : Nat} : QS R C f (mm R u f i) := ⟨1, u i, by decide, fun y _ => by rw [Int.one_mul]; rfl⟩
theorem RKs.left {u : Fn2} (h : RKs R C n f) : RKs S C n (mm R u f) := h.span fun i _ => QS.mm
theorem RKs.right {v : Fn2} {D : Nat} (h : RKs R C n f) : RKs R D n (mm C f v) := by
  obtain ⟨e, he⟩ := h
  refine ⟨mm C e v, fun i hi => ?_⟩
  obtain ⟨d, c, hd, hc⟩ := he i hi
  refine ⟨d, c, hd, fun y _ => ?_⟩
  have e1 : d * mm C f v i y = sumTo (fun k => d * (f i k * v k y)) C := by unfold mm; rw [sumTo_mul']
  have e2 : sumTo (fun k => d * (f i k * v k y)) C = sumTo (fun k => sumTo (fun a => c a * e a k * v k y) n) C := sumTo_congr C fun k hk => by
    rw [show d * (f i k * v k y) = d * f i k * v k y by grind, hc k hk, ← sumTo_mul]
  rw [e1, e2, sumTo_swap]
  refine sumTo_congr n fun a _ => ?_
  unfold mm
  rw [← sumTo_mul']
  exact sumTo_congr C fun k _ => by grind
/-- Two echelon forms of two spaces, one in the other. -/
theorem EF.le_of {q : Nat → Nat} {s : Nat} (H : EF R C r p f) (K : EF S C s q g) (h : ∀ i, i < R → QS S C g (f i)) : r ≤ s := H.rk_le (K.rk.span h)
/-- A form with the rows of it from r on zeros, and the first r independent. -/
theorem Ind.rk_le (H : Ind r C f) (hr : r ≤ R) (h : RKs R C n f) : r ≤ n := by
  obtain ⟨e, he⟩ := h
  exact Ind.le H fun i hi => he i (by omega)
/-- A space in another one, as many dimensions: they are one. -/
theorem EF.back {q : Nat → Nat} {s : Nat} (H : EF R C r p f) (K : EF S C s q g) (h : ∀ i, i < R → QS S C g (f i)) (hrs : s ≤ r) : ∀ i, i < S → QS R C f (g i) := fun i hi => by
  -- the rows of f with row i of g beside them: r + 1 vectors in a space of s dimensions
  have hfr := H.le
  apply Classical.byContradiction
  intro hno
  have hind : Ind (r + 1) C (fun k y => if k < r then f k y else g i y) := fun z hz k hk => by
    have e1 : ∀ y, y < C → sumTo (fun k => z k * f k y) r + z r * g i y = 0 := fun y hy => by
      have := hz y hy
      rw [sumTo_succ] at this
      simp only [if_neg (Nat.lt_irrefl r)] at this
      rw [← this]
      congr 1
      exact sumTo_congr r fun k hk => by simp only [if_pos hk]
    have hr0 : z r = 0 := by
      apply Classical.byContradiction
      intro h0
      refine hno ⟨z r, fun k => if k < r then -z k else 0, h0, fun y hy => ?_⟩
      have h1 := e1 y hy
      have h2 : sumTo (fun k => (if k < r then -z k else 0) * f k y) R = -sumTo (fun k => z k * f k y) r := by
        have hs : ∀ m, r ≤ m → sumTo (fun k => (if k < r then -z k else 0) * f k y) m = -sumTo (fun k => z k * f k y) r := fun m => by
          induction m with
          | zero => intro hm; obtain rfl : r = 0 := by omega
                    rfl
          | succ m ih =>
            intro hm
            by_cases e : r = m + 1
            · subst e
              rw [← sumTo_neg]
              exact sumTo_congr (m + 1) fun k hk => by rw [if_pos hk, Int.neg_mul]
            · rw [sumTo_succ, ih (by omega), if_neg (by omega), Int.zero_mul, Int.add_zero]
        exact hs R hfr
      rw [h2]; omega
    rcases Nat.lt_or_ge k r with h | h
    · refine H.ind z (fun y hy => ?_) k h
      have := e1 y hy
      rw [hr0, Int.zero_mul, Int.add_zero] at this
      exact this
    · obtain rfl : k = r := by omega
      exact hr0
  obtain ⟨e, he⟩ := K.rk
  have := Ind.le hind (u := e) (m := s) fun k hk => by
    rcases Nat.lt_or_ge k r with h1 | h1
    · have q := (h k (by omega)).trans he
      obtain ⟨d, c, hd, hc⟩ := q
      exact ⟨d, c, hd, fun y hy => by simp only [if_pos h1]; exact hc y hy⟩
    · obtain ⟨d, c, hd, hc⟩ := he i hi
      exact ⟨d, c, hd, fun y hy => by simp only [if_neg (show ¬ k < r by omega)]; exact hc y hy⟩
  omega
end
end Go.Proofs.Ytlggfmfelakadaa

/-
  DERIVED. Every matrix has as many independent rows of whole numbers as it has a rank, that its rows are whole sums of. No program in sight.
-/
namespace Go.Proofs.Ytlggfmfelakadaa
set_option linter.unusedVariables false
theorem sumTo_at {g e : Nat → Int} {a n : Nat} (ha : a < n) (h : ∀ k, k < n → k ≠ a → e k = g k) : sumTo e n = sumTo g n + (e a - g a) := by
  have h1 := sumTo_sub e g n
  have h2 : sumTo (fun k => e k - g k) n = e a - g a := sumTo_one n ha fun k hk hne => by rw [h k hk hne]; omega
  omega
theorem Sp.zero {R C : Nat} {f : Fn2} {v : Nat → Int} (h : ∀ y, y < C → v y = 0) : Sp R C f v := ⟨fun _ => 0, fun y hy => by rw [h y hy, sumTo_null R fun k _ => Int.zero_mul _]⟩
theorem abs_less {x y : Int} (hx : x ≠ 0) (hy : y ≠ 0) (h : y.natAbs ≤ x.natAbs) : ∃ t : Int, (t = 1 ∨ t = -1) ∧ (x - t * y).natAbs < x.natAbs := by
  by_cases h1 : (0 < x ∧ 0 < y) ∨ (x < 0 ∧ y < 0)
  · exact ⟨1, .inl rfl, by omega⟩
  · exact ⟨-1, .inr rfl, by omega⟩
/-- A relation between the rows: one row fewer does. -/
theorem lat_drop {C : Nat} : ∀ (N R : Nat) (f : Fn2) (z : Nat → Int), sumTo (fun k => ((z k).natAbs : Int)) (R + 1) ≤ N → (∃ k, k < R + 1 ∧ z k ≠ 0) → (∀ y, y < C → sumTo (fun k => z k * f k y) (R + 1) = 0) → ∃ g : Fn2, (∀ i, i < R + 1 → Sp R C g (f i)) ∧ ∀ k, k < R → Sp (R + 1) C f (g k) := by
  intro N
  induction N with
  | zero =>
    intro R f z hN ⟨k, hk, hz⟩ _
    exfalso
    have h1 : ((z k).natAbs : Int) ≤ sumTo (fun k => ((z k).natAbs : Int)) (R + 1) := by
      have h2 := sumTo_at (g := fun i => if i = k then 0 else ((z i).natAbs : Int)) (e := fun k => ((z k).natAbs : Int)) hk (fun i _ hne => by simp only [if_neg hne])
      have h3 : 0 ≤ sumTo (fun i => if i = k then 0 else ((z i).natAbs : Int)) (R + 1) := by
        have : ∀ n, 0 ≤ sumTo (fun i => if i = k then 0 else ((z i).natAbs : Int)) n := fun n => by
          induction n with
          | zero => exact Int.le_refl _
          | succ n ih =>
            rw [sumTo_succ]
            have : (0 : Int) ≤ (if n = k then 0 else ((z n).natAbs : Int)) := by split <;> omega
            omega
        exact this _
      simp only [if_pos] at h2
      omega
    omega
  | succ N ih =>
    intro R f z hN ⟨a0, ha0, hz0⟩ hrel
    by_cases hex : ∃ a b, a < R + 1 ∧ b < R + 1 ∧ a ≠ b ∧ z a ≠ 0 ∧ z b ≠ 0 ∧ (z b).natAbs ≤ (z a).natAbs
    · obtain ⟨a, b, ha, hb, hab, hza, hzb, hle⟩ := hex
      obtain ⟨t, ht, hlt⟩ := abs_less hza hzb hle
      -- row b gets t times row a
      let f' : Fn2 := fun x y => if x = b then f b y + f a y * t else f x y
      let z' : Nat → Int := fun k => if k = a then z a - t * z b else z k
      have S : SPN (R + 1) C f f' := (SPN.refl (R + 1) C f).add hb ha (fun e => hab e.symm) (fun y _ => by show (if b = b then _ else _) = _; rw [if_pos rfl]) (fun x y _ _ hne => by show (if x = b then _ else _) = _; rw [if_neg hne])
      have hm : sumTo (fun k => ((z' k).natAbs : Int)) (R + 1) ≤ N := by
        have h2 := sumTo_at (g := fun k => ((z k).natAbs : Int)) (e := fun k => ((z' k).natAbs : Int)) ha (fun i _ hne => by show (((if i = a then _ else z i) : Int).natAbs : Int) = _; rw [if_neg hne])
        have h3 : ((z' a).natAbs : Int) = (z a - t * z b).natAbs := by show (((if a = a then _ else z a) : Int).natAbs : Int) = _; rw [if_pos rfl]
        simp only [h3] at h2
        omega
      have hnz : ∃ k, k < R + 1 ∧ z' k ≠ 0 := ⟨b, hb, by show (if b = a then _ else z b) ≠ 0; rw [if_neg (fun e => hab e.symm)]; exact hzb⟩
      have hr : ∀ y, y < C → sumTo (fun k => z' k * f' k y) (R + 1) = 0 := fun y hy => by
        have h1 := sumTo_at (g := fun k => z k * f' k y) (e := fun k => z' k * f' k y) ha (fun i _ hne => by show (if i = a then _ else z i) * _ = _; rw [if_neg hne])
        have h2 := sumTo_at (g := fun k => z k * f k y) (e := fun k => z k * f' k y) hb (fun i _ hne => by show z i * (if i = b then _ else f i y) = _; rw [if_neg hne])
        have e1 : z' a = z a - t * z b := by show (if a = a then _ else z a) = _; rw [if_pos rfl]
        have e2 : f' a y = f a y := by show (if a = b then _ else f a y) = _; rw [if_neg hab]
        have e3 : f' b y = f b y + f a y * t := by show (if b = b then _ else f b y) = _; rw [if_pos rfl]
        simp only [e1, e2] at h1
        simp only [e3] at h2
        rw [h1, h2, hrel y hy]
        grind
      obtain ⟨g, hg1, hg2⟩ := ih R f' z' hm hnz hr
      exact ⟨g, fun i hi => (S.2 i hi).trans hg1, fun k hk => (hg2 k hk).trans S.1⟩
    · have honly : ∀ k, k < R + 1 → k ≠ a0 → z k = 0 := fun k hk hne => by
        apply Classical.byContradiction
        intro h0
        rcases Nat.le_total (z k).natAbs (z a0).natAbs with h | h
        · exact hex ⟨a0, k, ha0, hk, fun e => hne e.symm, hz0, h0, h⟩
        · exact hex ⟨k, a0, hk, ha0, hne, h0, hz0, h⟩
      have hf0 : ∀ y, y < C → f a0 y = 0 := fun y hy => by
        have h1 := hrel y hy
        rw [sumTo_one (i := a0) (R + 1) ha0 (fun k hk hne => by rw [honly k hk hne, Int.zero_mul])] at h1
        rcases Int.mul_eq_zero.1 h1 with h | h
        · exact absurd h hz0
        · exact h
      refine ⟨fun k => f (sk a0 k), fun i hi => ?_, fun k hk => Sp.row (sk_lt hk)⟩
      by_cases e : i = a0
      · exact Sp.zero fun y hy => by rw [e]; exact hf0 y hy
      · have : ∃ k, k < R ∧ sk a0 k = i := by
          rcases Nat.lt_or_ge i a0 with h | h
          · exact ⟨i, by omega, by unfold sk; rw [if_pos h]⟩
          · exact ⟨i - 1, by omega, by unfold sk; rw [if_neg (by omega)]; omega⟩
        obtain ⟨k, hk, rfl⟩ := this
        exact Sp.row (f := fun k => f (sk a0 k)) hk
theorem lat_basis {C : Nat} : ∀ (R : Nat) (f : Fn2), ∃ (r : Nat) (h : Fn2), Ind r C h ∧ (∀ i, i < R → Sp r C h (f i)) ∧ ∀ k, k < r → Sp R C f (h k)
  | 0, f => ⟨0, f, fun z _ k hk => absurd hk (Nat.not_lt_zero _), fun i hi => absurd hi (Nat.not_lt_zero _), fun k hk => absurd hk (Nat.not_lt_zero _)⟩
  | R + 1, f => by
    by_cases hi : Ind (R + 1) C f
    · exact ⟨R + 1, f, hi, fun i hi => Sp.row hi, fun k hk => Sp.row hk⟩
    · have : ∃ z : Nat → Int, (∀ y, y < C → sumTo (fun k => z k * f k y) (R + 1) = 0) ∧ ∃ k, k < R + 1 ∧ z k ≠ 0 := by
        apply Classical.byContradiction
        intro h
        refine hi fun z hz k hk => ?_
        apply Classical.byContradiction
        intro h0
        exact h ⟨z, hz, k, hk, h0⟩
      obtain ⟨z, hz, hk⟩ := this
      obtain ⟨N, hN⟩ : ∃ N : Nat, sumTo (fun k => ((z k).natAbs : Int)) (R + 1) ≤ N := ⟨(sumTo (fun k => ((z k).natAbs : Int)) (R + 1)).toNat, by omega⟩
      obtain ⟨g, g1, g2⟩ := lat_drop N R f z hN hk hz
      obtain ⟨r, h, h1, h2, h3⟩ := lat_basis R g
      exact ⟨r, h, h1, fun i hi => (g1 i hi).trans h2, fun k hk => (h3 k hk).trans g2⟩
end Go.Proofs.Ytlggfmfelakadaa

/-
  DERIVED. In the Smith form each number of the diagonal is no less than 0 and divides the next one: no program in sight.
-/
namespace Go.Proofs.Ytlggfmfelakadaa
set_option linter.unusedVariables false
/-- The first t numbers of the diagonal. -/
def Chn (R C t : Nat) (s : SS) : Prop := (∀ a, a < t → 0 ≤ s.f a a) ∧ ∀ a x y, a < t → a ≤ x → x < R → a ≤ y → y < C → s.f a a ∣ s.f x y
theorem Chn.stays (R C t : Nat) (htR : t ≤ R) (htC : t ≤ C) : Stays R C t (Chn R C t) where
  radd := fun s i j q hi hj ti tj hij hg hk hP => by
    have kf : OKF R C (opA s.f i j q) := hk.f
    have e : ∀ a, a < t → opA s.f i j q a a = s.f a a := fun a ha => opA_other (by omega)
    refine ⟨fun a ha => by show 0 ≤ opA s.f i j q a a; rw [e a ha]; exact hP.1 a ha, fun a x y ha hx hxR hy hyC => ?_⟩
    show opA s.f i j q a a ∣ opA s.f i j q x y
    rw [e a ha]
    by_cases hxi : x = i
    · subst hxi
      rw [opA_val kf hxR hyC]
      exact Int.dvd_add (hP.2 a x y ha hx hxR hy hyC) (Int.dvd_trans (hP.2 a j y ha (by omega) hj hy hyC) ⟨q, rfl⟩)
    · rw [opA_other hxi]; exact hP.2 a x y ha hx hxR hy hyC
  rswap := fun s i j hi hj ti tj hij hg hP => by
    have e : ∀ a, a < t → swF s.f i j a a = s.f a a := fun a ha => by unfold swF; rw [if_neg (by omega), if_neg (by omega)]
    refine ⟨fun a ha => by show 0 ≤ swF s.f i j a a; rw [e a ha]; exact hP.1 a ha, fun a x y ha hx hxR hy hyC => ?_⟩
    show swF s.f i j a a ∣ swF s.f i j x y
    rw [e a ha]
    unfold swF
    split
    · exact hP.2 a j y ha (by omega) hj hy hyC
    · split
      · exact hP.2 a i y ha (by omega) hi hy hyC
      · exact hP.2 a x y ha hx hxR hy hyC
  rneg := fun s i hi ti hg hP => by
    have e : ∀ a, a < t → opM s.f i a a = s.f a a := fun a ha => by unfold opM; rw [if_neg (by omega)]
    refine ⟨fun a ha => by show 0 ≤ opM s.f i a a; rw [e a ha]; exact hP.1 a ha, fun a x y ha hx hxR hy hyC => ?_⟩
    show opM s.f i a a ∣ opM s.f i x y
    rw [e a ha]
    by_cases hxi : x = i
    · subst hxi
      rw [opM_at (hg.ok.f x y hxR hyC)]
      exact Int.dvd_neg.2 (hP.2 a x y ha hx hxR hy hyC)
    · unfold opM; rw [if_neg hxi]; exact hP.2 a x y ha hx hxR hy hyC
  cadd := fun s i j q hi hj ti tj hij hg hk hP => by
    have kf : OKF C R (opA (tp s.f) i j q) := tp_ok hk.f
    have e : ∀ a, a < t → opA (tp s.f) i j q a a = s.f a a := fun a ha => opA_other (by omega)
    refine ⟨fun a ha => by show 0 ≤ opA (tp s.f) i j q a a; rw [e a ha]; exact hP.1 a ha, fun a x y ha hx hxR hy hyC => ?_⟩
    show opA (tp s.f) i j q a a ∣ opA (tp s.f) i j q y x
    rw [e a ha]
    by_cases hyi : y = i
    · subst hyi
      rw [opA_val kf hyC hxR]
      exact Int.dvd_add (hP.2 a x y ha hx hxR hy hyC) (Int.dvd_trans (hP.2 a x j ha hx hxR (by omega) hj) ⟨q, rfl⟩)
    · rw [opA_other hyi]; exact hP.2 a x y ha hx hxR hy hyC
  cswap := fun s i j hi hj ti tj hij hg hP => by
    have e : ∀ a, a < t → swF (tp s.f) i j a a = s.f a a := fun a ha => by unfold swF; rw [if_neg (by omega), if_neg (by omega)]; rfl
    refine ⟨fun a ha => by show 0 ≤ swF (tp s.f) i j a a; rw [e a ha]; exact hP.1 a ha, fun a x y ha hx hxR hy hyC => ?_⟩
    show swF (tp s.f) i j a a ∣ swF (tp s.f) i j y x
    rw [e a ha]
    unfold swF
    split
    · exact hP.2 a x j ha hx hxR (by omega) hj
    · split
      · exact hP.2 a x i ha hx hxR (by omega) hi
      · exact hP.2 a x y ha hx hxR hy hyC
theorem Dn.dvd {R C t : Nat} {s : SS} (h : Dn R C t s) (hg : SGD R C s) {x y : Nat} (hx : t ≤ x) (hxR : x < R) (hy : t ≤ y) (hyC : y < C) : s.f t t ∣ s.f x y := by
  obtain ⟨h1, h2, h3⟩ := h
  obtain ⟨z1, z2⟩ := clnS_yes h1
  by_cases ex : x = t
  · subst ex
    by_cases ey : y = x
    · subst ey; exact Int.dvd_refl _
    · rw [z2 y (by omega) hyC]; exact Int.dvd_zero _
  · by_cases ey : y = t
    · subst ey; rw [z1 x (by omega) hxR]; exact Int.dvd_zero _
    · have hf : fdR s.f t C x = false := by
        refine Bool.eq_false_iff.2 fun hc => ?_
        have key : ∀ m i, i ≤ x → x < i + m → fdS s.f t C i m ≠ none := fun m => by
          induction m with
          | zero => intro i a b; omega
          | succ m ih =>
            intro i a b
            rcases hr : fdR s.f t C i with _ | _
            · rw [fdS_no hr]
              by_cases e : i = x
              · subst e; rw [hr] at hc; cases hc
              · exact ih (i + 1) (by omega) (by omega)
            · rw [fdS_yes hr]; simp
        exact key (R - (t + 1)) (t + 1) (by omega) (by omega) h2
      have hn : ¬ (s.f x y).tmod (s.f t t) ≠ 0 := fun hne => by
        have : fdR s.f t C x = true := fdR_iff.2 ⟨y, by omega, hyC, (hg.ok.f x y hxR hyC).ne, hne⟩
        rw [hf] at this; cases this
      exact Int.dvd_of_tmod_eq_zero (Decidable.of_not_not hn)
/-- What the Smith form's diagonal is. -/
def Dia (R C : Nat) (s : SS) : Prop := (∀ a, a < R → a < C → 0 ≤ s.f a a) ∧ ∀ a, a + 1 < R → a + 1 < C → s.f a a ∣ s.f (a + 1) (a + 1)
theorem sfOut_chn {R C : Nat} : ∀ (m t : Nat) (s s' : SS), t + m = min R C → SGD R C s → Chn R C t s → sfOut R C m t s = some s' → Dia R C s'
  | 0, t, s, s', hm, hg, hc, he => by
    cases he
    exact ⟨fun a h1 h2 => hc.1 a (by omega), fun a h1 h2 => hc.2 a (a + 1) (a + 1) (by omega) (by omega) h1 (by omega) h2⟩
  | m + 1, t, s, s', hm, hg, hc, he => by
    by_cases hn : (ls2 R C s.f t).1 < 0
    · rw [sfOut_stop hn] at he
      cases he
      rcases ls2_cases R C s.f t with ⟨_, h⟩ | ⟨p, q, e, _⟩
      · refine ⟨fun a h1 h2 => ?_, fun a h1 h2 => ?_⟩
        · by_cases hat : a < t
          · exact hc.1 a hat
          · rw [h a a (by omega) h1 (by omega) h2]; exact Int.le_refl _
        · by_cases hat : a < t
          · exact hc.2 a (a + 1) (a + 1) hat (by omega) h1 (by omega) h2
          · rw [h (a + 1) (a + 1) (by omega) h1 (by omega) h2]; exact Int.dvd_zero _
      · rw [e] at hn; dsimp only at hn; omega
    · rw [sfOut_go hn] at he
      unfold sfGo at he
      rcases hi : sfIn R C t s with _ | s2
      · rw [hi] at he; cases he
      · rw [hi] at he
        have ht : t < R ∧ t < C := by omega
        have g2 := sfIn_gd ht.1 ht.2 _ s (Nat.le_refl _) hg hn s2 hi
        have p2 := (Chn.stays R C t (by omega) (by omega)).in_ ht.1 ht.2 _ s (Nat.le_refl _) hg hc hn s2 hi
        have d2 := sfIn_dn ht.1 ht.2 _ s (Nat.le_refl _) hg hn s2 hi
        have o1 : ∀ (x y : Nat), x ≠ t → opM s2.f t x y = s2.f x y := fun x y hne => by unfold opM; rw [if_neg hne]
        have o2 : ∀ y, y < C → opM s2.f t t y = -s2.f t y := fun y hy => opM_at (g2.ok.f t y ht.1 hy)
        have pN : Chn R C (t + 1) (sfN t s2) := by
          unfold sfN
          split
          · rename_i hneg
            have dv : ∀ a x y, a < t + 1 → a ≤ x → x < R → a ≤ y → y < C → s2.f a a ∣ s2.f x y := fun a x y ha hx hxR hy hyC => by
              by_cases e : a = t
              · subst e; exact d2.dvd g2 hx hxR hy hyC
              · exact p2.2 a x y (by omega) hx hxR hy hyC
            refine ⟨fun a ha => ?_, fun a x y ha hx hxR hy hyC => ?_⟩
            · show 0 ≤ opM s2.f t a a
              by_cases e : a = t
              · subst e; rw [o2 a ht.2]; omega
              · rw [o1 a a e]; exact p2.1 a (by omega)
            · show opM s2.f t a a ∣ opM s2.f t x y
              have h5 := dv a x y ha hx hxR hy hyC
              have h6 : opM s2.f t a a ∣ s2.f x y := by
                by_cases e : a = t
                · subst e; rw [o2 a ht.2]; exact Int.neg_dvd.2 h5
                · rw [o1 a a e]; exact h5
              by_cases e : x = t
              · subst e; rw [o2 y hyC]; exact Int.dvd_neg.2 h6
              · rw [o1 x y e]; exact h6
          · rename_i hpos
            refine ⟨fun a ha => ?_, fun a x y ha hx hxR hy hyC => ?_⟩
            · by_cases e : a = t
              · subst e; omega
              · exact p2.1 a (by omega)
            · by_cases e : a = t
              · subst e; exact d2.dvd g2 hx hxR hy hyC
              · exact p2.2 a x y (by omega) hx hxR hy hyC
        exact sfOut_chn m (t + 1) (sfN t s2) s' (by omega) (g2.n ht.1) pN he
theorem sfX_dia {R C : Nat} {xs : List Int} {s : SS} (h : sfX R C xs = some s) : Dia R C s := by
  rcases hm : isMat (R : Int) (C : Int) xs with _ | _
  · rw [sfX_no hm] at h; cases h
  · rw [sfX_yes hm] at h
    have M := isMat_iff.1 hm
    have hs := start_gd (R := R) (C := C) M.num
    exact sfOut_chn _ _ _ _ (by omega) ⟨⟨hs.ok.f, hs.ok.g, idF_ok C C⟩, ⟨hs.nb.f, hs.nb.g, idF_nb⟩⟩ ⟨fun a h => by omega, fun a x y h => by omega⟩ h
end Go.Proofs.Ytlggfmfelakadaa

/-
  DERIVED. Elimination without fractions: every division is exact, and what is left is the determinant. No program in sight.
-/
namespace Go.Proofs.Ytlggfmfelakadaa
set_option linter.unusedVariables false
theorem Dt_blockU : ∀ (t m : Nat) (f : Fn2), (∀ x y, x < t → t ≤ y → y < t + m → f x y = 0) → Dt (t + m) f = Dt t f * Dt m (fun x y => f (t + x) (t + y))
  | 0, m, f, _ => by
    rw [Nat.zero_add]
    show Dt m f = 1 * Dt m _
    rw [Int.one_mul]
    exact Dt_congr m fun x y _ _ => by rw [Nat.zero_add, Nat.zero_add]
  | t + 1, m, f, h => by
    rw [show t + 1 + m = (t + m) + 1 by omega, Dt_succ, Dt_succ]
    have hsplit : ∀ (g : Nat → Int) (e : Nat), (∀ k, t + 1 ≤ k → k < t + 1 + e → g k = 0) → sumTo g (t + 1 + e) = sumTo g (t + 1) := fun g e => by
      induction e with
      | zero => intro _; rfl
      | succ e ih =>
        intro hg
        rw [show t + 1 + (e + 1) = t + 1 + e + 1 by omega, sumTo_succ, ih (fun k a b => hg k a (by omega)), hg (t + 1 + e) (by omega) (by omega), Int.add_zero]
    rw [show t + m + 1 = t + 1 + m by omega, hsplit _ m fun k h1 h2 => by rw [h 0 k (by omega) h1 h2, Int.mul_zero, Int.zero_mul], ← sumTo_mul]
    refine sumTo_congr (t + 1) fun j hj => ?_
    rw [Dt_blockU t m (mnr f j) fun x y ha hb hy => by
      show f (x + 1) (sk j y) = 0
      unfold sk
      rw [if_neg (by omega)]
      exact h (x + 1) (y + 1) (by omega) (by omega) (by omega)]
    have e : Dt m (fun x y => mnr f j (t + x) (t + y)) = Dt m (fun x y => f (t + 1 + x) (t + 1 + y)) := Dt_congr m fun x y _ _ => by
      show f (t + x + 1) (sk j (t + y)) = _
      unfold sk
      rw [if_neg (by omega), show t + x + 1 = t + 1 + x by omega, show t + y + 1 = t + 1 + y by omega]
    rw [e, Int.mul_assoc, Int.mul_assoc, Int.mul_assoc]
/-- A row replaced by a sum of rows: the determinant times the row's own number. -/
theorem Alt.comb {k : Nat} {F : Fn2 → Int} (H : Alt k F) {f : Fn2} {z : Nat → Int} {x : Nat} (hx : x < k) : F (fun i y => if i = x then sumTo (fun q => z q * f q y) k else f i y) = z x * F f := by
  rw [Alt.sumE H hx (g := f) (c := z) (v := f) k, sumTo_one k hx fun q hq hne => by
    rw [H.same hx hq (fun e => hne e.symm) _ fun y _ => by rw [if_pos rfl, if_neg hne], Int.mul_zero]]
  congr 1
  exact H.congr _ _ fun i y _ _ => by
    by_cases e : i = x
    · rw [if_pos e, e]
    · rw [if_neg e]
/-- The minor of the first t rows and columns with row i and column j beside them. -/
def bd (M : Fn2) (t i j : Nat) : Fn2 := fun x y => M (if x < t then x else i) (if y < t then y else j)
def bdD (M : Fn2) (t i j : Nat) : Int := Dt (t + 1) (bd M t i j)
theorem bdD_row {M : Fn2} {t i j : Nat} (hi : i < t) : bdD M t i j = 0 :=
  (Dt_alt (t + 1)).same (i := i) (j := t) (by omega) (by omega) (by omega) _ fun y _ => by unfold bd; rw [if_pos hi, if_neg (Nat.lt_irrefl _)]
theorem bdD_col {M : Fn2} {t i j : Nat} (hj : j < t) : bdD M t i j = 0 :=
  (Dt_altC (t + 1)).same (i := j) (j := t) (by omega) (by omega) (by omega) (fun a b => bd M t i j b a) fun y _ => by unfold bd; rw [if_pos hj, if_neg (Nat.lt_irrefl _)]
theorem bdD_tt (M : Fn2) (t : Nat) : bdD M t t t = Dt (t + 1) M := Dt_congr (t + 1) fun x y hx hy => by
  unfold bd
  have e : ∀ z, z < t + 1 → (if z < t then z else t) = z := fun z hz => by split <;> omega
  rw [e x hx, e y hy]
theorem Dt_one (f : Fn2) : Dt 1 f = f 0 0 := by
  rw [Dt_succ]
  show 0 + sg 0 * f 0 0 * 1 = f 0 0
  have : sg 0 = 1 := rfl
  rw [this]; omega
theorem Dt_two (f : Fn2) : Dt 2 f = f 0 0 * f 1 1 - f 0 1 * f 1 0 := by
  rw [Dt_succ]
  show 0 + sg 0 * f 0 0 * Dt 1 (mnr f 0) + sg 1 * f 0 1 * Dt 1 (mnr f 1) = _
  rw [Dt_one, Dt_one]
  have h0 : sg 0 = 1 := rfl
  have h1 : sg 1 = -1 := rfl
  have e0 : mnr f 0 0 0 = f 1 1 := rfl
  have e1 : mnr f 1 0 0 = f 1 0 := rfl
  rw [h0, h1, e0, e1]
  grind
theorem unit_sum {w : Nat → Int} {n y : Nat} (hy : y < n) : sumTo (fun q => w q * idF q y) n = w y := by
  rw [sumTo_one n hy fun q hq hne => by unfold idF; rw [if_neg hne, Int.mul_zero]]
  unfold idF; rw [if_pos rfl, Int.mul_one]
/-- As a function of the column: the rows, with numbers that the column does not change. -/
theorem bdD_rows (M : Fn2) (t i : Nat) : ∃ c : Nat → Int, ∀ j, bdD M t i j = Dt t M * M i j + sumTo (fun k => c k * M k j) t := by
  refine ⟨fun q => Dt (t + 1) (fun y a => if a = t then idF q y else M (if y < t then y else i) a), fun j => ?_⟩
  have H := Dt_altC (t + 1)
  have h1 := Alt.sumE H (x := t) (by omega) (g := fun a y => M (if y < t then y else i) a) (c := fun q => M (if q < t then q else i) j) (v := idF) (t + 1)
  have h2 : bdD M t i j = Dt (t + 1) (fun b a => if a = t then sumTo (fun q => M (if q < t then q else i) j * idF q b) (t + 1) else M (if b < t then b else i) a) := Dt_congr (t + 1) fun x y hx hy => by
    show M (if x < t then x else i) (if y < t then y else j) = _
    by_cases e : y = t
    · rw [if_pos e, unit_sum hx, if_neg (show ¬ y < t by omega)]
    · rw [if_neg e, if_pos (show y < t by omega)]
  rw [h2]
  refine h1.trans ?_
  rw [sumTo_succ, if_neg (Nat.lt_irrefl _)]
  have h3 : Dt (t + 1) (fun y a => if a = t then idF t y else M (if y < t then y else i) a) = Dt t M := by
    rw [Dt_blockU t 1 _ fun x y hx hy hy2 => by
      rw [if_pos (by omega)]; unfold idF; rw [if_neg (by omega)], Dt_one]
    have e1 : (if t + 0 = t then idF t (t + 0) else M (if t + 0 < t then t + 0 else i) (t + 0)) = 1 := by
      rw [if_pos (Nat.add_zero t)]; unfold idF; rw [if_pos (Nat.add_zero t).symm]
    rw [e1, Int.mul_one]
    exact Dt_congr t fun x y hx hy => by rw [if_neg (by omega), if_pos hx]
  have h4 : sumTo (fun q => M (if q < t then q else i) j * Dt (t + 1) (fun y a => if a = t then idF q y else M (if y < t then y else i) a)) t = sumTo (fun k => Dt (t + 1) (fun y a => if a = t then idF k y else M (if y < t then y else i) a) * M k j) t := sumTo_congr t fun q hq => by rw [if_pos hq, Int.mul_comm]
  show sumTo (fun q => M (if q < t then q else i) j * Dt (t + 1) (fun y a => if a = t then idF q y else M (if y < t then y else i) a)) t + M i j * Dt (t + 1) (fun y a => if a = t then idF t y else M (if y < t then y else i) a) = _
  rw [h4, h3, Int.mul_comm (M i j), Int.add_comm]
/-- As a function of the row: the columns. -/
theorem bdD_cols (M : Fn2) (t j : Nat) : ∃ c : Nat → Int, ∀ i, bdD M t i j = Dt t M * M i j + sumTo (fun k => c k * M i k) t := by
  refine ⟨fun q => Dt (t + 1) (fun a y => if a = t then idF q y else M a (if y < t then y else j)), fun i => ?_⟩
  have H := Dt_alt (t + 1)
  have h1 := Alt.sumE H (x := t) (by omega) (g := fun a y => M a (if y < t then y else j)) (c := fun q => M i (if q < t then q else j)) (v := idF) (t + 1)
  have h2 : bdD M t i j = Dt (t + 1) (fun a b => if a = t then sumTo (fun q => M i (if q < t then q else j) * idF q b) (t + 1) else M a (if b < t then b else j)) := Dt_congr (t + 1) fun x y hx hy => by
    show M (if x < t then x else i) (if y < t then y else j) = _
    by_cases e : x = t
    · rw [if_pos e, unit_sum hy, if_neg (show ¬ x < t by omega)]
    · rw [if_neg e, if_pos (show x < t by omega)]
  rw [h2]
  refine h1.trans ?_
  rw [sumTo_succ, if_neg (Nat.lt_irrefl _)]
  have h3 : Dt (t + 1) (fun a y => if a = t then idF t y else M a (if y < t then y else j)) = Dt t M := by
    rw [Dt_block t 1 _ fun x y hx hx2 hy => by
      rw [if_pos (by omega)]; unfold idF; rw [if_neg (by omega)], Dt_one]
    have e1 : (if t + 0 = t then idF t (t + 0) else M (t + 0) (if t + 0 < t then t + 0 else j)) = 1 := by
      rw [if_pos (Nat.add_zero t)]; unfold idF; rw [if_pos (Nat.add_zero t).symm]
    rw [e1, Int.mul_one]
    exact Dt_congr t fun x y hx hy => by rw [if_neg (by omega), if_pos hy]
  have h4 : sumTo (fun q => M i (if q < t then q else j) * Dt (t + 1) (fun a y => if a = t then idF q y else M a (if y < t then y else j))) t = sumTo (fun k => Dt (t + 1) (fun a y => if a = t then idF k y else M a (if y < t then y else j)) * M i k) t := sumTo_congr t fun q hq => by rw [if_pos hq, Int.mul_comm]
  show sumTo (fun q => M i (if q < t then q else j) * Dt (t + 1) (fun a y => if a = t then idF q y else M a (if y < t then y else j))) t + M i j * Dt (t + 1) (fun a y => if a = t then idF t y else M a (if y < t then y else j)) = _
  rw [h4, h3, Int.mul_comm (M i j), Int.add_comm]
/-- The division is exact. -/
theorem syl {M : Fn2} {t i j : Nat} (hp : Dt t M ≠ 0) : Dt t M * bdD M (t + 1) i j = bdD M t t t * bdD M t i j - bdD M t t j * bdD M t i t := by
  obtain ⟨c, hc⟩ := bdD_rows M t t
  obtain ⟨c', hc'⟩ := bdD_rows M t i
  have H := Dt_alt (t + 2)
  have s1 := Alt.comb H (f := bd M (t + 1) i j) (z := fun q => if q < t then c q else if q = t then Dt t M else 0) (x := t) (by omega)
  have s2 := Alt.comb H (f := fun a y => if a = t then sumTo (fun q => (if q < t then c q else if q = t then Dt t M else 0) * bd M (t + 1) i j q y) (t + 2) else bd M (t + 1) i j a y) (z := fun q => if q < t then c' q else if q = t then 0 else Dt t M) (x := t + 1) (by omega)
  rw [s1] at s2
  simp only [Nat.lt_irrefl, if_false, if_true, show ¬ t + 1 < t by omega, show ¬ t + 1 = t by omega] at s2
  -- the column that belongs to y
  have hcol : ∀ y, y < t + 2 → bd M (t + 1) i j t y = M t (if y < t + 1 then y else j) := fun y _ => by unfold bd; rw [if_pos (by omega)]
  have hU : ∀ y, sumTo (fun q => (if q < t then c q else if q = t then Dt t M else 0) * bd M (t + 1) i j q y) (t + 2) = bdD M t t (if y < t + 1 then y else j) := fun y => by
    rw [sumTo_succ, sumTo_succ, hc]
    have e1 : sumTo (fun q => (if q < t then c q else if q = t then Dt t M else 0) * bd M (t + 1) i j q y) t = sumTo (fun k => c k * M k (if y < t + 1 then y else j)) t := sumTo_congr t fun q hq => by rw [if_pos hq]; unfold bd; rw [if_pos (by omega)]
    rw [e1, if_neg (Nat.lt_irrefl _), if_pos rfl, if_neg (show ¬ t + 1 < t by omega), if_neg (show ¬ t + 1 = t by omega), Int.zero_mul, Int.add_zero]
    have e2 : bd M (t + 1) i j t y = M t (if y < t + 1 then y else j) := by unfold bd; rw [if_pos (by omega)]
    rw [e2, Int.add_comm]
  have hV : ∀ y, sumTo (fun q => (if q < t then c' q else if q = t then 0 else Dt t M) * (if q = t then sumTo (fun q => (if q < t then c q else if q = t then Dt t M else 0) * bd M (t + 1) i j q y) (t + 2) else bd M (t + 1) i j q y)) (t + 2) = bdD M t i (if y < t + 1 then y else j) := fun y => by
    rw [sumTo_succ, sumTo_succ, hc']
    have e1 : sumTo (fun q => (if q < t then c' q else if q = t then 0 else Dt t M) * (if q = t then sumTo (fun q => (if q < t then c q else if q = t then Dt t M else 0) * bd M (t + 1) i j q y) (t + 2) else bd M (t + 1) i j q y)) t = sumTo (fun k => c' k * M k (if y < t + 1 then y else j)) t := sumTo_congr t fun q hq => by rw [if_pos hq, if_neg (by omega)]; unfold bd; rw [if_pos (by omega)]
    rw [e1, if_neg (Nat.lt_irrefl _), if_pos rfl, Int.zero_mul, Int.add_zero, if_neg (show ¬ t + 1 < t by omega), if_neg (show ¬ t + 1 = t by omega), if_neg (show ¬ t + 1 = t by omega)]
    have e2 : bd M (t + 1) i j (t + 1) y = M i (if y < t + 1 then y else j) := by unfold bd; rw [if_neg (by omega)]
    rw [e2, Int.add_comm]
  have h5 : Dt (t + 2) (fun a y => if a = t + 1 then bdD M t i (if y < t + 1 then y else j) else if a = t then bdD M t t (if y < t + 1 then y else j) else bd M (t + 1) i j a y) = Dt t M * (Dt t M * bdD M (t + 1) i j) := by
    refine Eq.trans (Dt_congr (t + 2) fun a y ha hy => ?_) s2
    by_cases q1 : a = t + 1
    · rw [if_pos q1, if_pos q1, hV]
    · rw [if_neg q1, if_neg q1]
      by_cases q2 : a = t
      · rw [if_pos q2, if_pos q2, hU]
      · rw [if_neg q2, if_neg q2]
  rw [Dt_block t 2 _ fun x y hx hx2 hy => by
    by_cases q1 : x = t + 1
    · rw [if_pos q1, if_pos (by omega)]; exact bdD_col hy
    · rw [if_neg q1, if_pos (by omega), if_pos (by omega)]; exact bdD_col hy, Dt_two] at h5
  have e0 : Dt t (fun a y => if a = t + 1 then bdD M t i (if y < t + 1 then y else j) else if a = t then bdD M t t (if y < t + 1 then y else j) else bd M (t + 1) i j a y) = Dt t M := Dt_congr t fun a y ha hy => by
    rw [if_neg (by omega), if_neg (by omega)]
    unfold bd
    rw [if_pos (by omega), if_pos (by omega)]
  rw [e0] at h5
  simp only [Nat.add_zero, if_true, show ¬ t = t + 1 by omega, if_false, show t < t + 1 by omega, show ¬ t + 1 < t + 1 by omega] at h5
  exact (Int.eq_of_mul_eq_mul_left hp h5).symm
end Go.Proofs.Ytlggfmfelakadaa

/-
  DERIVED. DeterminantBySteps: what it computes, and that it is the determinant. No program in sight.
-/
namespace Go.Proofs.Ytlggfmfelakadaa
set_option linter.unusedVariables false
def bsE (f : Fn2) (t : Nat) (b : Int) (i j : Nat) : Int := (f i j * f t t - f i t * f t j).tdiv b
/-- The step: the cells behind row t and column t. -/
def bsF (f : Fn2) (t : Nat) (b : Int) : Fn2 := fun i j => if t < i ∧ t < j then bsE f t b i j else f i j
def bsOk (n : Nat) (f : Fn2) (t : Nat) (b : Int) : Bool := (List.range n).all fun i => (List.range n).all fun j => if t < i ∧ t < j then isNum (bsE f t b i j) else true
def bsGo (n : Nat) : Nat → Nat → Fn2 → Int → Int → Option Int
  | 0, _, _, b, s => some (s * b)
  | m + 1, t, f, b, s => if n ≤ fnd f t (n - t) t then some 0 else if bsOk n (swF f (fnd f t (n - t) t) t) t b = true then bsGo n m (t + 1) (bsF (swF f (fnd f t (n - t) t) t) t b) (swF f (fnd f t (n - t) t) t t t) (if fnd f t (n - t) t = t then s else -s) else none
theorem fnd_zeroB (f : Nat → Nat → Int) (j : Nat) : ∀ n k i, k ≤ i → i < fnd f j n k → f i j = 0
  | 0, k, i, h1, h2 => by unfold fnd at h2; omega
  | n + 1, k, i, h1, h2 => by
    unfold fnd at h2
    split at h2
    · rename_i h0
      by_cases e : i = k
      · rw [e]; exact h0
      · exact fnd_zeroB f j n (k + 1) i (by omega) h2
    · omega
theorem bs_det {n : Nat} : ∀ (m t : Nat) (f M : Fn2) (b s d : Int), t + m = n → b = Dt t M → b ≠ 0 → (∀ i j, t ≤ i → i < n → t ≤ j → j < n → f i j = bdD M t i j) → bsGo n m t f b s = some d → d = s * Dt n M
  | 0, t, f, M, b, s, d, hn, hb, _, _, h => by
    have h' : s * b = d := by injection h
    obtain rfl : t = n := by omega
    rw [← h', hb]
  | m + 1, t, f, M, b, s, d, hn, hb, hb0, hf, h => by
    have htn : t < n := by omega
    have hle := fnd_le f t (n - t) t
    unfold bsGo at h
    split at h
    · rename_i hk
      have hd : (0 : Int) = d := by injection h
      have hz : ∀ i, i < n → bdD M t i t = 0 := fun i hi => by
        rcases Nat.lt_or_ge i t with h1 | h1
        · exact bdD_row h1
        · rw [← hf i t h1 hi (Nat.le_refl _) htn]
          exact fnd_zeroB f t (n - t) t i h1 (by omega)
      obtain ⟨c, hc⟩ := bdD_cols M t t
      have h0 : Dt n M = 0 := Alt.dep (Dt_altC n) (f := fun a b => M b a) (z := fun q => if q < t then c q else if q = t then Dt t M else 0) (x := t) htn (by rw [if_neg (Nat.lt_irrefl _), if_pos rfl, ← hb]; exact hb0) fun y hy => by
        have hs : ∀ e, t + 1 + e ≤ n → sumTo (fun q => (if q < t then c q else if q = t then Dt t M else 0) * M y q) (t + 1 + e) = bdD M t y t := fun e => by
          induction e with
          | zero =>
            intro _
            rw [hc, Nat.add_zero, sumTo_succ, if_neg (Nat.lt_irrefl _), if_pos rfl, Int.add_comm]
            congr 1
            exact sumTo_congr t fun q hq => by rw [if_pos hq]
          | succ e ih =>
            intro he
            rw [show t + 1 + (e + 1) = t + 1 + e + 1 by omega, sumTo_succ, ih (by omega), if_neg (by omega), if_neg (by omega), Int.zero_mul, Int.add_zero]
        have := hs (n - (t + 1)) (by omega)
        rw [show t + 1 + (n - (t + 1)) = n by omega] at this
        rw [this]; exact hz y hy
      rw [← hd, h0, Int.mul_zero]
    · rename_i hk
      have hne := fnd_ne f t (n - t) t (by omega)
      generalize fnd f t (n - t) t = k at *
      split at h
      · have hlead : Dt t (swF M k t) = Dt t M := Dt_congr t fun x y hx hy => by unfold swF; rw [if_neg (by omega), if_neg (by omega)]
        have hg : ∀ i j, t ≤ i → i < n → t ≤ j → j < n → swF f k t i j = bdD (swF M k t) t i j := fun i j h1 h2 h3 h4 => by
          have hσ : t ≤ (if i = k then t else if i = t then k else i) ∧ (if i = k then t else if i = t then k else i) < n := by split <;> (try split) <;> omega
          show f (if i = k then t else if i = t then k else i) j = _
          rw [hf _ j hσ.1 hσ.2 h3 h4]
          refine Dt_congr (t + 1) fun x y hx hy => ?_
          unfold bd
          by_cases q : x < t
          · rw [if_pos q, if_pos q]
            unfold swF
            rw [if_neg (show ¬ x = k by omega), if_neg (show ¬ x = t by omega)]
          · rw [if_neg q, if_neg q]; rfl
        have hb' : swF f k t t t = Dt (t + 1) (swF M k t) := by rw [hg t t (Nat.le_refl _) htn (Nat.le_refl _) htn, bdD_tt]
        have ih := bs_det m (t + 1) _ (swF M k t) _ _ d (by omega) hb' (by rw [swF_t]; exact hne) (fun i j h1 h2 h3 h4 => by
          unfold bsF
          rw [if_pos ⟨by omega, by omega⟩]
          unfold bsE
          rw [hg i j (by omega) h2 (by omega) h4, hg t t (Nat.le_refl _) htn (Nat.le_refl _) htn, hg i t (by omega) h2 (Nat.le_refl _) htn, hg t j (Nat.le_refl _) htn (by omega) h4]
          have hs := syl (M := swF M k t) (t := t) (i := i) (j := j) (by rw [hlead, ← hb]; exact hb0)
          rw [hlead, ← hb] at hs
          have e : bdD (swF M k t) t i j * bdD (swF M k t) t t t - bdD (swF M k t) t i t * bdD (swF M k t) t t j = b * bdD (swF M k t) (t + 1) i j := by rw [hs]; grind
          rw [e]
          exact Int.mul_tdiv_cancel_left _ hb0) h
        rw [ih]
        by_cases e : k = t
        · subst e
          rw [if_pos rfl, swF_same]
        · rw [if_neg e, (Dt_alt n).swap (show k < n by omega) htn e]
          rw [Int.neg_mul, Int.mul_neg, Int.neg_neg]
      · cases h
/-- The determinant by steps. -/
def bsX (r c : Int) (xs : List Int) : Option Int := if isSq r c xs then bsGo r.toNat r.toNat 0 (fun i j => cel xs r.toNat i j) 1 1 else none
theorem bsX_det {R : Nat} {xs : List Int} {d : Int} (h : bsX R R xs = some d) : d = Dt R (fun i j => cel xs R i j) := by
  unfold bsX at h
  split at h
  · simp only [Int.toNat_natCast] at h
    have := bs_det R 0 _ (fun i j => cel xs R i j) 1 1 d (by omega) rfl (by decide) (fun i j _ _ _ _ => by
      show cel xs R i j = Dt 1 _
      rw [Dt_one]
      rfl) h
    rw [this, Int.one_mul]
  · cases h
end Go.Proofs.Ytlggfmfelakadaa

/-
  DERIVED. DeterminantBySteps, step by step: what the walk needs. No program in sight.
-/
namespace Go.Proofs.Ytlggfmfelakadaa
set_option linter.unusedVariables false
/-- The rows before m done, and of row m the columns before k. -/
def bsK (f : Fn2) (t : Nat) (b : Int) (m k : Nat) : Fn2 := fun i j => if t < i ∧ t < j ∧ (i < m ∨ i = m ∧ j < k) then bsE f t b i j else f i j
theorem bsK_zero (f : Fn2) (t : Nat) (b : Int) : bsK f t b (t + 1) (t + 1) = f := by funext i j; unfold bsK; grind
theorem bsK_at (f : Fn2) (t : Nat) (b : Int) (m k : Nat) : bsK f t b m k m k = f m k := by unfold bsK; grind
theorem bsK_t (f : Fn2) (t : Nat) (b : Int) (m k c : Nat) : bsK f t b m k t c = f t c := by unfold bsK; grind
theorem bsK_c (f : Fn2) (t : Nat) (b : Int) (m k i : Nat) : bsK f t b m k i t = f i t := by unfold bsK; grind
theorem bsK_step {f : Fn2} {t m k : Nat} (b : Int) (hm : t < m) (hk : t < k) : upd (bsK f t b m k) m k (bsE f t b m k) = bsK f t b m (k + 1) := by
  funext i j
  unfold upd bsK
  grind
theorem bsK_row {n : Nat} (f : Fn2) (t : Nat) (b : Int) (m : Nat) : tb n n (bsK f t b m n) = tb n n (bsK f t b (m + 1) (t + 1)) := tb_ext fun i j hi hj => by unfold bsK; grind
theorem bsK_end {n : Nat} (f : Fn2) (t : Nat) (b : Int) : tb n n (bsK f t b n (t + 1)) = tb n n (bsF f t b) := tb_ext fun i j hi hj => by unfold bsK bsF; grind
theorem bsF_tt (f : Fn2) (t : Nat) (b : Int) : bsF f t b t t = f t t := by unfold bsF; grind
/-- The cells before (m, k) are numbers. -/
def BsN (n : Nat) (f : Fn2) (t : Nat) (b : Int) (m k : Nat) : Prop := ∀ i j, t < i → t < j → i < n → j < n → (i < m ∨ i = m ∧ j < k) → isNum (bsE f t b i j) = true
theorem BsN.zero (n : Nat) (f : Fn2) (t : Nat) (b : Int) : BsN n f t b (t + 1) (t + 1) := fun i j h1 h2 _ _ h => by omega
theorem BsN.step {n t m k : Nat} {f : Fn2} {b : Int} (h : BsN n f t b m k) (hx : isNum (bsE f t b m k) = true) : BsN n f t b m (k + 1) := fun i j h1 h2 h3 h4 h5 => by
  by_cases e : i = m ∧ j = k
  · rw [e.1, e.2]; exact hx
  · exact h i j h1 h2 h3 h4 (by omega)
theorem BsN.row {n t m : Nat} {f : Fn2} {b : Int} (h : BsN n f t b m n) : BsN n f t b (m + 1) (t + 1) := fun i j h1 h2 h3 h4 h5 => h i j h1 h2 h3 h4 (by omega)
theorem BsN.ok {n t : Nat} {f : Fn2} {b : Int} (h : BsN n f t b n (t + 1)) : bsOk n f t b = true := by
  unfold bsOk
  simp only [List.all_eq_true, List.mem_range]
  intro i hi j hj
  split
  · rename_i e; exact h i j e.1 e.2 hi hj (.inl hi)
  · rfl
theorem BsN.num {n t : Nat} {f : Fn2} {b : Int} (h : BsN n f t b n (t + 1)) (hf : ∀ i j : Nat, i < n → j < n → -400000000 ≤ f i j ∧ f i j ≤ 400000000) : ∀ i j : Nat, i < n → j < n → -400000000 ≤ bsF f t b i j ∧ bsF f t b i j ≤ 400000000 := fun i j hi hj => by
  unfold bsF
  split
  · rename_i e; exact (isNum_iff _).1 (h i j e.1 e.2 hi hj (.inl hi))
  · exact hf i j hi hj
theorem bsOk_not {n t i j : Nat} {f : Fn2} {b : Int} (h1 : t < i) (h2 : t < j) (h3 : i < n) (h4 : j < n) (h : isNum (bsE f t b i j) = false) : bsOk n f t b = false := by
  rcases e : bsOk n f t b with _ | _
  · rfl
  · unfold bsOk at e
    simp only [List.all_eq_true, List.mem_range] at e
    have := e i h3 j h4
    rw [if_pos ⟨h1, h2⟩, h] at this
    cases this
theorem bsGo_next {n t k : Nat} {f : Fn2} {b s : Int} (ht : t < n) (hk : fnd f t (n - t) t = k) (hkn : k < n) : bsGo n (n - t) t f b s = if bsOk n (swF f k t) t b = true then bsGo n (n - (t + 1)) (t + 1) (bsF (swF f k t) t b) (swF f k t t t) (if k = t then s else -s) else none := by
  rw [show n - t = (n - (t + 1)) + 1 by omega]
  conv => lhs; unfold bsGo
  rw [hk, if_neg (by omega)]
theorem bsGo_none {n t : Nat} {f : Fn2} {b s : Int} (ht : t < n) (hk : fnd f t (n - t) t = n) : bsGo n (n - t) t f b s = some 0 := by
  rw [show n - t = (n - (t + 1)) + 1 by omega]
  conv => lhs; unfold bsGo
  rw [hk, if_pos (Nat.le_refl _)]
theorem bsGo_end (n : Nat) (f : Fn2) (b s : Int) : bsGo n (n - n) n f b s = some (s * b) := by rw [Nat.sub_self]; rfl
end Go.Proofs.Ytlggfmfelakadaa

/-
  DERIVED. Several small texts in one: PlHe, LeastS, EchL, PlEcL.
-/
import Derived.Test.YtacjonkehcamgaaV4
import Derived.Test.YtacjonkehcamgaaV3
import Derived.Test.YtacjonkehcamgaaV1
import Derived.Test.YtacjonkehcamgaaV2
/-
  DERIVED. The Hermite form has its shape; two of one lattice are equal; that of a Hermite form is itself. No program in sight.
-/
namespace Go.Proofs.Ytacjonkehcamgaa
set_option linter.unusedVariables false
/-- Hermite form with the pivots p 0 .. p (r - 1), as far as C columns. -/
structure HF (R C r : Nat) (p : Nat → Nat) (f : Fn2) : Prop where
  le : r ≤ R
  lt : ∀ i, i < r → p i < C
  mono : ∀ i k, i < k → k < r → p i < p k
  left : ∀ i y, i < r → y < p i → f i y = 0
  pos : ∀ i, i < r → 0 < f i (p i)
  res : ∀ k i, k < i → i < r → 0 ≤ f k (p i) ∧ f k (p i) < f i (p i)
  zero : ∀ i y, r ≤ i → i < R → y < C → f i y = 0
theorem mul_small {c x y : Int} (h : (c * x).natAbs < x.natAbs) (e : y = c * x) : c = 0 := by
  rw [Int.natAbs_mul] at h
  by_cases hc : c = 0
  · exact hc
  · have h1 : 1 ≤ c.natAbs := by omega
    have := Nat.mul_le_mul_right x.natAbs h1
    omega
section
variable {R C r s : Nat} {p q : Nat → Nat} {f g : Fn2}
theorem HF.congr (H : HF R C r p f) (e : EqM R C g f) : HF R C r p g where
  le := H.le
  lt := H.lt
  mono := H.mono
  left := fun i y hi hy => by rw [e i y (Nat.lt_of_lt_of_le hi H.le) (Nat.lt_trans hy (H.lt i hi))]; exact H.left i y hi hy
  pos := fun i hi => by rw [e i (p i) (Nat.lt_of_lt_of_le hi H.le) (H.lt i hi)]; exact H.pos i hi
  res := fun k i hk hi => by rw [e i (p i) (Nat.lt_of_lt_of_le hi H.le) (H.lt i hi), e k (p i) (Nat.lt_of_lt_of_le (Nat.lt_trans hk hi) H.le) (H.lt i hi)]; exact H.res k i hk hi
  zero := fun i y h1 h2 h3 => by rw [e i y h2 h3]; exact H.zero i y h1 h2 h3
/-- The value at pivot i of a sum of rows, the coefficients before it zeros. -/
theorem HF.at_ (H : HF R C r p f) {c v : Nat → Int} (hv : ∀ y, y < C → v y = sumTo (fun k => c k * f k y) R) {i : Nat} (hi : i < r) (h0 : ∀ k, k < i → c k = 0) : v (p i) = c i * f i (p i) := by
  rw [hv _ (H.lt i hi)]
  refine sumTo_one R (Nat.lt_of_lt_of_le hi H.le) fun k hk hne => ?_
  rcases Nat.lt_or_ge k i with h | h
  · rw [h0 k h, Int.zero_mul]
  · rcases Nat.lt_or_ge k r with hr | hr
    · rw [H.left k (p i) hr (H.mono i k (by omega) hr), Int.mul_zero]
    · rw [H.zero k (p i) hr hk (H.lt i hi), Int.mul_zero]
theorem HF.coef (H : HF R C r p f) {c v : Nat → Int} (hv : ∀ y, y < C → v y = sumTo (fun k => c k * f k y) R) : ∀ i, i ≤ r → (∀ k, k < i → (v (p k)).natAbs < (f k (p k)).natAbs) → ∀ k, k < i → c k = 0
  | 0, _, _, k, hk => absurd hk (Nat.not_lt_zero _)
  | i + 1, hi, h, k, hk => by
    have ih := H.coef hv i (by omega) (fun k hk => h k (by omega))
    rcases Nat.lt_or_ge k i with h1 | h1
    · exact ih k h1
    · obtain rfl : k = i := by omega
      have e := H.at_ hv (show k < r by omega) ih
      have := h k (by omega)
      rw [e] at this
      exact mul_small this rfl
/-- What one Hermite form says of another one's next pivot. -/
theorem HF.next (H : HF R C r p f) (K : HF R C s q g) (hf : ∀ i, i < R → Sp R C g (f i)) {i : Nat} (hi : i < r) (hs : i ≤ s) (hpq : ∀ k, k < i → p k = q k) : i < s ∧ q i ≤ p i ∧ (p i = q i → g i (q i) ∣ f i (p i)) := by
  obtain ⟨c, hc⟩ := hf i (Nat.lt_of_lt_of_le hi H.le)
  have h0 : ∀ k, k < i → c k = 0 := K.coef hc i hs fun k hk => by
    have h1 : f i (q k) = 0 := by rw [← hpq k hk]; exact H.left i _ hi (H.mono k i hk hi)
    have h2 := K.pos k (by omega)
    rw [h1]; omega
  have hp := H.pos i hi
  have key : (∀ k, i ≤ k → k < s → p i < q k) → False := fun hq => by
    have : f i (p i) = 0 := by
      rw [hc _ (H.lt i hi)]
      refine sumTo_null R fun k hk => ?_
      rcases Nat.lt_or_ge k i with h | h
      · rw [h0 k h, Int.zero_mul]
      · rcases Nat.lt_or_ge k s with h3 | h3
        · rw [K.left k _ h3 (hq k h h3), Int.mul_zero]
        · rw [K.zero k _ h3 hk (H.lt i hi), Int.mul_zero]
    omega
  have his : i < s := Nat.lt_of_not_le fun h => key fun k h1 h2 => by omega
  refine ⟨his, Nat.le_of_not_lt fun h => key fun k h1 h2 => ?_, fun e => ?_⟩
  · by_cases hk : k = i
    · rw [hk]; exact h
    · have := K.mono i k (by omega) h2; omega
  · rw [e, K.at_ hc his h0]
    exact Int.dvd_mul_left _ _
/-- Hermite forms of one lattice are equal. -/
theorem HF.uniq (H : HF R C r p f) (K : HF R C s q g) (hf : ∀ i, i < R → Sp R C g (f i)) (hg : ∀ i, i < R → Sp R C f (g i)) : EqM R C f g := by
  have hP : ∀ i, i ≤ r → i ≤ s ∧ ∀ k, k < i → p k = q k ∧ f k (p k) = g k (q k) := fun i => by
    induction i with
    | zero => exact fun _ => ⟨Nat.zero_le _, fun k hk => absurd hk (Nat.not_lt_zero _)⟩
    | succ i ih =>
      intro hi
      obtain ⟨h1, h2⟩ := ih (by omega)
      obtain ⟨a1, a2, a3⟩ := H.next K hf hi h1 (fun k hk => (h2 k hk).1)
      obtain ⟨b1, b2, b3⟩ := K.next H hg a1 (by omega) (fun k hk => (h2 k hk).1.symm)
      have e : p i = q i := by omega
      have hp := H.pos i hi
      have hq := K.pos i a1
      have hv := Int.dvd_antisymm (by omega) (by omega) (b3 e.symm) (a3 e)
      refine ⟨a1, fun k hk => ?_⟩
      by_cases hki : k = i
      · subst hki; exact ⟨e, hv⟩
      · exact h2 k (by omega)
  obtain ⟨hrs, hall⟩ := hP r (Nat.le_refl _)
  have hsr : s ≤ r := Nat.le_of_not_lt fun h => by
    have := K.next H hg h (Nat.le_refl _) (fun k hk => (hall k hk).1.symm)
    omega
  obtain rfl : r = s := by omega
  intro i y hi hy
  rcases Nat.lt_or_ge i r with hir | hir
  · obtain ⟨c, hc⟩ := hg i hi
    have hv : ∀ y, y < C → (fun y => f i y - g i y) y = sumTo (fun k => (idF i k - c k) * f k y) R := fun y hy => by
      show f i y - g i y = _
      obtain ⟨d, hd⟩ : ∃ d : Nat → Int, d = idF i := ⟨_, rfl⟩
      have e1 : f i y = sumTo (fun k => idF i k * f k y) R := by
        rw [sumTo_one (i := i) R hi (fun k hk hne => by unfold idF; rw [if_neg (fun e => hne e.symm), Int.zero_mul])]
        unfold idF; rw [if_pos rfl, Int.one_mul]
      rw [hc y hy]
      conv => lhs; lhs; rw [e1]
      rw [← sumTo_sub]
      exact sumTo_congr R fun k _ => by grind
    have h0 := H.coef hv r (Nat.le_refl _) fun k hk => by
      show (f i (p k) - g i (p k)).natAbs < _
      obtain ⟨e1, e2⟩ := hall k hk
      have hpk := H.pos k hk
      rcases Nat.lt_trichotomy k i with h | h | h
      · have a1 := H.left i (p k) hir (H.mono k i h hir)
        have a2 := K.left i (p k) hir (by rw [e1]; exact K.mono k i h hir)
        rw [a1, a2]; omega
      · subst h
        have : g k (p k) = f k (p k) := by rw [e2, e1]
        rw [this]; omega
      · have a1 := H.res i k h hk
        have a2 := K.res i k h hk
        rw [← e2, ← e1] at a2
        omega
    have := hv y hy
    rw [sumTo_null R (fun k hk => by
      rcases Nat.lt_or_ge k r with h | h
      · rw [h0 k h, Int.zero_mul]
      · rw [H.zero k y h hk hy, Int.mul_zero])] at this
    have h2 : f i y - g i y = 0 := this
    omega
  · rw [H.zero i y hir hi hy, K.zero i y hir hi hy]
end
theorem SPN.stays (R C : Nat) (m : Fn2) : StaysH R C (fun s => SPN R C m s.f) where
  add := fun s i j t hi hj hij hg hk hP => by
    have kf : OKF R C (opA s.f i j t) := hk.f
    exact hP.add hi hj hij (fun y hy => opA_val kf hi hy) (fun x y _ _ hne => opA_other hne)
  swap := fun s i j hi hj hij hg hP => hP.swap hi hj
  neg := fun s i hi hg hP => hP.neg hi (fun y hy => opM_at (hg.ok.f i y hi hy)) (fun x y _ _ hne => by show opM s.f i x y = s.f x y; unfold opM; rw [if_neg hne])
/-- In a column: the rows before t as they were, those from t on zeros left of column j. -/
def HCol (R C j t : Nat) (f0 : Fn2) (f : Fn2) : Prop := (∀ i y, i < t → y < C → f i y = f0 i y) ∧ ∀ i y, t ≤ i → i < R → y < j → f i y = 0
theorem HCol.sw {R C j t p : Nat} {f0 : Fn2} {s : HS} (h : GD R C s) (hj : j < C) (hP : HCol R C j t f0 s.f) (hp : p < R) (htp : t ≤ p) : ∀ n, t + n ≤ R → (swS j p t s n).OK R C → HCol R C j t f0 (swS j p t s n).f
  | 0, _, _ => hP
  | n + 1, hn, hk => by
    have hk' := swS_back h.nb hk
    have ih := HCol.sw h hj hP hp htp n (by omega) hk'
    rw [swS_succ] at hk ⊢
    split
    · rename_i hc
      rw [if_pos hc] at hk
      have kf : OKF R C (opA (swS j p t s n).f (t + n) p (-((swS j p t s n).f (t + n) j / (swS j p t s n).f p j))) := hk.f
      refine ⟨fun i y hi hy => ?_, fun i y h1 h2 hy => ?_⟩
      · show opA _ _ _ _ i y = _
        rw [opA_other (by omega)]
        exact ih.1 i y hi hy
      · show opA _ _ _ _ i y = _
        by_cases e : i = t + n
        · subst e
          rw [opA_val kf h2 (by omega), ih.2 _ y h1 h2 hy, ih.2 p y htp hp hy, Int.zero_mul]; rfl
        · rw [opA_other e]
          exact ih.2 i y h1 h2 hy
    · exact ih
theorem HCol.in_ {R C j t : Nat} {f0 : Fn2} (hj : j < C) (ht : t < R) : ∀ (k : Nat) (s : HS) (p : Nat), hmMs R j t s p ≤ k → GD R C s → HCol R C j t f0 s.f → t ≤ p → p < R → s.f p j ≠ 0 → ∀ s' q, hmIn R C j t s p = some (s', q) → HCol R C j t f0 s'.f ∧ GD R C s' ∧ t ≤ q ∧ q < R ∧ s'.f q j ≠ 0 ∧ oth R s'.f j t q = false := by
  intro k
  induction k with
  | zero =>
    intro s p hk hg hP h1 h2 h3 s' q he
    rcases ho : oth R s.f j t p with _ | _
    · rw [hmIn_done ho] at he
      cases he
      exact ⟨hP, hg, h1, h2, h3, ho⟩
    · unfold hmMs at hk
      rw [if_pos ho] at hk
      omega
  | succ k ih =>
    intro s p hk hg hP h1 h2 h3 s' q he
    rcases ho : oth R s.f j t p with _ | _
    · rw [hmIn_done ho] at he
      cases he
      exact ⟨hP, hg, h1, h2, h3, ho⟩
    · rcases hok : (swS j p t s (R - t)).ok R C with _ | _
      · rw [hmIn_bad ho hok] at he; cases he
      · have hk' := (HS.ok_iff (swS_nb hg.nb _)).1 hok
        rw [hmIn_next hg.nb hj h2 h1 h3 ho hok] at he
        have hlt := hmMs_lt hg.nb hj h2 h1 h3 ho hk'
        have hP' := HCol.sw (j := j) (t := t) hg hj hP h2 h1 (R - t) (by omega) hk'
        have hpp := swS_p (j := j) (p := p) (t := t) (s := s) j (R - t)
        have hg' : GD R C (swS j p t s (R - t)) := ⟨hk', swS_nb hg.nb _⟩
        generalize swS j p t s (R - t) = s2 at *
        rcases lst_cases R s2.f j t (Nat.le_of_lt ht) with ⟨e, hz⟩ | ⟨p2, e, k1, k2, k3⟩
        · exact absurd (hz p h1 h2) (by rw [hpp]; exact h3)
        · rw [e, Int.toNat_natCast] at he hlt
          exact ih s2 p2 (by omega) hg' hP' k1 k2 k3 s' q he
theorem abS_val {R C j t : Nat} {s : HS} (h : GD R C s) (htR : t < R) : ∀ n, n ≤ t → (abS j t s n).OK R C → ∀ x y, x < n → y < C → (abS j t s n).f x y = s.f x y + s.f t y * (-(s.f x j / s.f t j))
  | 0, _, _, x, _, hx, _ => absurd hx (Nat.not_lt_zero _)
  | n + 1, hn, hk, x, y, hx, hy => by
    have hk' := abS_back h.nb hk
    have ih := abS_val h htR n (by omega) hk'
    rw [abS_succ] at hk ⊢
    have kf : OKF R C (opA (abS j t s n).f n t (-((abS j t s n).f n j / (abS j t s n).f t j))) := hk.f
    show opA _ _ _ _ x y = _
    by_cases e : x = n
    · subst e
      rw [opA_val kf (by omega) hy, abS_late _ x (Nat.le_refl _), abS_late _ x (by omega), abS_late j x (Nat.le_refl _), abS_late j x (by omega)]
    · rw [opA_other e]
      exact ih x y (by omega) hy
theorem HF.fin {R C j t q : Nat} {p : Nat → Nat} {f0 : Fn2} {s s' : HS} (H : HF R j t p f0) (hg : GD R C s) (hc : HCol R C j t f0 s.f) (hj : j < C) (htR : t < R) (h1 : t ≤ q) (h2 : q < R) (h3 : s.f q j ≠ 0) (ho : oth R s.f j t q = false) (he : hmFin R C j t q s = some s') :
    HF R (j + 1) (t + 1) (fun i => if i = t then j else p i) s'.f := by
  have hz : ∀ i, t ≤ i → i < R → i ≠ q → s.f i j = 0 := fun i a1 a2 a3 => Decidable.byContradiction fun hne => by
    have : oth R s.f j t q = true := oth_iff.2 ⟨i, a1, a2, a3, hne⟩
    rw [this] at ho; cases ho
  have g1 := hg.s1 (t := t) h2 htR
  have g2 := g1.s2 (j := j) htR
  unfold hmFin at he
  -- behind the swap
  have s1a : ∀ i y, i < t → (hmS1 t q s).f i y = s.f i y := fun i y hi => by
    unfold hmS1
    split
    · rfl
    · show swF s.f q t i y = _; unfold swF; rw [if_neg (by omega), if_neg (by omega)]
  have s1t : ∀ y, (hmS1 t q s).f t y = s.f q y := fun y => hmS1_piv t q y s
  have s1z : ∀ i y, t ≤ i → i < R → y < j → (hmS1 t q s).f i y = 0 := fun i y a1 a2 a3 => by
    unfold hmS1
    split
    · exact hc.2 i y a1 a2 a3
    · show swF s.f q t i y = _
      unfold swF
      split
      · exact hc.2 t y (Nat.le_refl _) htR a3
      · split
        · exact hc.2 q y h1 h2 a3
        · exact hc.2 i y a1 a2 a3
  have s1j : ∀ i, t < i → i < R → (hmS1 t q s).f i j = 0 := fun i a1 a2 => by
    unfold hmS1
    split
    · exact hz i (by omega) a2 (by omega)
    · rename_i hne
      show swF s.f q t i j = _
      unfold swF
      split
      · exact hz t (Nat.le_refl _) htR (fun e => hne e.symm)
      · rename_i hiq
        rw [if_neg (by omega)]
        exact hz i (by omega) a2 hiq
  generalize hmS1 t q s = sa at *
  -- behind the sign
  have s2a : ∀ i y, i ≠ t → (hmS2 j t sa).f i y = sa.f i y := fun i y hi => by
    unfold hmS2
    split
    · show opM sa.f t i y = _; unfold opM; rw [if_neg hi]
    · rfl
  have s2z : ∀ y, y < j → (hmS2 j t sa).f t y = 0 := fun y hy => by
    have e := s1z t y (Nat.le_refl _) htR hy
    unfold hmS2
    split
    · show opM sa.f t t y = _; rw [opM_at (g1.ok.f t y htR (by omega)), e]; rfl
    · exact e
  have s2p : 0 < (hmS2 j t sa).f t j := by
    have e : sa.f t j ≠ 0 := by rw [s1t]; exact h3
    unfold hmS2
    split
    · show 0 < opM sa.f t t j; rw [opM_at (g1.ok.f t j htR hj)]; omega
    · omega
  generalize hmS2 j t sa = sb at *
  split at he
  · rename_i hok
    cases he
    have hk := (HS.ok_iff (abS_nb g2.nb t)).1 hok
    have hv := abS_val (j := j) g2 htR t (Nat.le_refl _) hk
    have hl : ∀ x y, t ≤ x → (abS j t sb t).f x y = sb.f x y := fun x y hx => abS_late y t hx
    generalize abS j t sb t = sc at *
    -- rows before t, left of column j
    have old : ∀ i y, i < t → y < j → sc.f i y = f0 i y := fun i y hi hy => by
      rw [hv i y hi (by omega), s2z y hy, Int.zero_mul, Int.add_zero, s2a i y (by omega), s1a i y hi, hc.1 i y hi (by omega)]
    have new : ∀ i, i < t → sc.f i j = f0 i j % sb.f t j := fun i hi => by
      rw [hv i j hi hj, s2a i j (by omega), s1a i j hi, hc.1 i j hi hj, Int.emod_def]; grind
    have hpj : sc.f t j = sb.f t j := hl t j (Nat.le_refl _)
    refine ⟨by omega, fun i hi => ?_, fun i k hik hk2 => ?_, fun i y hi hy => ?_, fun i hi => ?_, fun k i hki hi => ?_, fun i y a1 a2 a3 => ?_⟩
    · show (if i = t then j else p i) < j + 1
      split
      · omega
      · have := H.lt i (by omega); omega
    · show (if i = t then j else p i) < (if k = t then j else p k)
      rw [if_neg (show ¬ i = t by omega)]
      split
      · exact H.lt i (by omega)
      · exact H.mono i k hik (by omega)
    · have hy2 : y < (if i = t then j else p i) := hy
      by_cases e : i = t
      · subst e
        rw [if_pos rfl] at hy2
        rw [hl i y (Nat.le_refl _), s2z y hy2]
      · rw [if_neg e] at hy2
        have := H.lt i (by omega)
        rw [old i y (by omega) (by omega)]
        exact H.left i y (by omega) hy2
    · show 0 < sc.f i (if i = t then j else p i)
      by_cases e : i = t
      · subst e
        rw [if_pos rfl, hpj]; exact s2p
      · rw [if_neg e, old i _ (by omega) (H.lt i (by omega))]
        exact H.pos i (by omega)
    · show 0 ≤ sc.f k (if i = t then j else p i) ∧ sc.f k (if i = t then j else p i) < sc.f i (if i = t then j else p i)
      by_cases e : i = t
      · subst e
        rw [if_pos rfl, hpj, new k hki]
        exact ⟨Int.emod_nonneg _ (by omega), Int.emod_lt_of_pos _ s2p⟩
      · have := H.lt i (by omega)
        rw [if_neg e, old i _ (by omega) this, old k _ (by omega) this]
        exact H.res k i hki (by omega)
    · rw [hl i y (by omega), s2a i y (by omega)]
      by_cases e : y = j
      · subst e; exact s1j i (by omega) a2
      · exact s1z i y (by omega) a2 (by omega)
  · cases he
theorem HF.out {R C : Nat} : ∀ (m j t : Nat) (p : Nat → Nat) (s s' : HS) (q : Nat), j + m = C → GD R C s → HF R j t p s.f → hmOut R C m j t s = some (s', q) → ∃ p', HF R C q p' s'.f
  | 0, j, t, p, s, s', q, hj, hg, H, he => by cases he; obtain rfl : j = C := hj; exact ⟨p, H⟩
  | m + 1, j, t, p, s, s', q, hj, hg, H, he => by
    by_cases htR : t < R
    · rcases lst_cases R s.f j t (Nat.le_of_lt htR) with ⟨e, hz⟩ | ⟨p2, e, h1, h2, h3⟩
      · rw [hmOut_skip htR (by omega)] at he
        refine HF.out m (j + 1) t p s s' q (by omega) hg ⟨H.le, fun i hi => by have := H.lt i hi; omega, H.mono, H.left, H.pos, H.res, fun i y a1 a2 a3 => ?_⟩ he
        by_cases e : y = j
        · subst e; exact hz i a1 a2
        · exact H.zero i y a1 a2 (by omega)
      · rw [hmOut_go htR (by omega), e, Int.toNat_natCast] at he
        unfold hmGo at he
        rcases hi : hmIn R C j t s p2 with _ | ⟨s2, p3⟩
        · rw [hi] at he; cases he
        · rw [hi] at he
          obtain ⟨a1, a2, a3, a4, a5, a6⟩ := HCol.in_ (f0 := s.f) (by omega) htR _ s p2 (Nat.le_refl _) hg ⟨fun i y _ _ => rfl, fun i y b1 b2 b3 => H.zero i y b1 b2 b3⟩ h1 h2 h3 s2 p3 hi
          rcases hf : hmFin R C j t p3 s2 with _ | s3
          · simp only [Option.bind_some] at he
            rw [hf] at he; cases he
          · simp only [Option.bind_some] at he
            rw [hf] at he
            have H3 := H.fin a2 a1 (by omega) htR a3 a4 a5 a6 hf
            have g3 := (StaysH.fin (SPN.stays R C s2.f) a2 (SPN.refl R C s2.f) a4 htR hf).2
            exact HF.out m (j + 1) (t + 1) _ s3 s' q (by omega) g3 H3 he
    · rw [hmOut_full htR] at he
      cases he
      refine ⟨p, H.le, fun i hi => by have := H.lt i hi; omega, H.mono, H.left, H.pos, H.res, fun i y a1 a2 a3 => by omega⟩
/-- Nothing added: nothing changed. -/
theorem opA_zeroE {R C i j : Nat} {f : Fn2} (h : OKF R C f) (hi : i < R) (hj : j < R) : OKF R C (opA f i j 0) ∧ EqM R C (opA f i j 0) f := by
  have hr : rowOk f i j 0 C := fun y hy => by
    rw [Int.mul_zero, Int.add_zero]
    exact ⟨Num.zero, h i y hi hy⟩
  refine ⟨(rowOk_iff h hi hj Num.zero).1 hr, fun x y hx hy => ?_⟩
  by_cases e : x = i
  · subst e
    rw [rowOk_val h hi hj Num.zero hr hy, Int.mul_zero, Int.add_zero]
  · exact opA_other e
theorem abS_zeroE {R C j t : Nat} {s : HS} (hg : GD R C s) (htR : t < R) (hq : ∀ x, x < t → s.f x j / s.f t j = 0) : ∀ n, n ≤ t → (abS j t s n).OK R C ∧ EqM R C (abS j t s n).f s.f
  | 0, _ => ⟨hg.ok, fun _ _ _ _ => rfl⟩
  | n + 1, hn => by
    obtain ⟨h1, h2⟩ := abS_zeroE hg htR hq n (by omega)
    rw [ab_add (by omega), hq n (by omega)]
    obtain ⟨a1, a2⟩ := opA_zeroE h1.f (i := n) (j := t) (by omega) htR
    obtain ⟨b1, b2⟩ := opA_zeroE h1.g (i := n) (j := t) (by omega) htR
    exact ⟨⟨a1, b1⟩, fun x y hx hy => (a2 x y hx hy).trans (h2 x y hx hy)⟩
/-- The Hermite form of a Hermite form. -/
theorem HF.again {R C r : Nat} {p : Nat → Nat} : ∀ (m j t : Nat) (s : HS), j + m = C → GD R C s → HF R C r p s.f → t ≤ r → (∀ i, i < t → p i < j) → (∀ i, t ≤ i → i < r → j ≤ p i) → ∃ s', hmOut R C m j t s = some (s', r) ∧ EqM R C s'.f s.f
  | 0, j, t, s, hj, hg, H, ht, h1, h2 => by
    have : t = r := by
      by_cases h : t < r
      · have a := h2 t (Nat.le_refl _) h; have b := H.lt t h; omega
      · omega
    subst this
    exact ⟨s, rfl, fun _ _ _ _ => rfl⟩
  | m + 1, j, t, s, hj, hg, H, ht, h1, h2 => by
    by_cases htR : t < R
    · by_cases hp : t < r ∧ p t = j
      · obtain ⟨htr, hpj⟩ := hp
        have hpos := H.pos t htr
        rw [hpj] at hpos
        have hz : ∀ i, t < i → i < R → s.f i j = 0 := fun i a1 a2 => by
          rcases Nat.lt_or_ge i r with h | h
          · exact H.left i j h (by have := H.mono t i a1 h; omega)
          · exact H.zero i j h a2 (by omega)
        rcases lst_cases R s.f j t (Nat.le_of_lt htR) with ⟨e, hz2⟩ | ⟨p2, e, k1, k2, k3⟩
        · have := hz2 t (Nat.le_refl _) htR; omega
        · have hp2 : p2 = t := Decidable.byContradiction fun hne => k3 (hz p2 (by omega) k2)
          subst hp2
          have ho : oth R s.f j p2 p2 = false := oth_no fun i a1 a2 a3 => a3.2 (hz i (by omega) a2)
          have e1 : hmS1 p2 p2 s = s := if_pos rfl
          have e2 : hmS2 j p2 s = s := if_neg (by omega)
          have hq : ∀ x, x < p2 → s.f x j / s.f p2 j = 0 := fun x hx => by
            have := H.res x p2 hx htr
            rw [hpj] at this
            exact Int.ediv_eq_zero_of_lt this.1 this.2
          obtain ⟨a1, a2⟩ := abS_zeroE hg htR hq p2 (Nat.le_refl _)
          have hf : hmFin R C j p2 p2 s = some (abS j p2 s p2) := by
            have := ab_yes (R := R) (C := C) (j := j) (t := p2) (p := p2) (s := s) (by rw [e1, e2]; exact hg) (by rw [e1, e2]; exact a1)
            rw [e1, e2] at this; exact this
          have hg2 : GD R C (abS j p2 s p2) := ⟨a1, abS_nb hg.nb _⟩
          have H2 : HF R C r p (abS j p2 s p2).f := H.congr a2
          rw [hmOut_go htR (by omega), e, Int.toNat_natCast, hmIn_done ho, hmGo_next hf]
          obtain ⟨s', b1, b2⟩ := HF.again m (j + 1) (p2 + 1) _ (by omega) hg2 H2 (by omega) (fun i hi => by
            by_cases e : i = p2
            · subst e; omega
            · have := h1 i (by omega); omega) (fun i hi hir => by have := H.mono p2 i (by omega) hir; omega)
          exact ⟨s', b1, fun x y hx hy => (b2 x y hx hy).trans (a2 x y hx hy)⟩
      · have hlt : ∀ i, t ≤ i → i < r → j < p i := fun i a1 a2 => by
          have b1 := h2 t (Nat.le_refl _) (by omega)
          have b2 : p t ≠ j := fun e => hp ⟨by omega, e⟩
          by_cases e : i = t
          · subst e; omega
          · have := H.mono t i (by omega) a2; omega
        rcases lst_cases R s.f j t (Nat.le_of_lt htR) with ⟨e, _⟩ | ⟨p2, e, k1, k2, k3⟩
        · rw [hmOut_skip htR (by omega)]
          exact HF.again m (j + 1) t s (by omega) hg H ht (fun i hi => by have := h1 i hi; omega) hlt
        · refine absurd ?_ k3
          rcases Nat.lt_or_ge p2 r with h | h
          · exact H.left p2 j h (hlt p2 k1 h)
          · exact H.zero p2 j h k2 (by omega)
    · rw [hmOut_full htR]
      have := H.le
      obtain rfl : t = r := by omega
      exact ⟨s, rfl, fun _ _ _ _ => rfl⟩
theorem tb_num {R C : Nat} {f : Fn2} (h : OKF R C f) : (tb R C f).all isNum = true := by
  rw [List.all_eq_true]
  exact tb_mem fun i j hi hj => (h i j hi hj).isN
theorem isMat_tb {R C : Nat} {f : Fn2} (hR : R ≤ 24) (hC : C ≤ 24) (h : OKF R C f) : isMat R C (tb R C f) = true :=
  isMat_iff.2 ⟨by omega, by omega, by omega, by omega, by rw [tb_len]; simp, tb_num h⟩
theorem rowL_tb {R C i : Nat} {f : Fn2} (hi : i < R) : (rowL (tb R C f) C i).length = C := rowL_len (by rw [tb_len]; have := Nat.mul_le_mul_right C (show i + 1 ≤ R by omega); rw [Nat.add_mul, Nat.one_mul] at this; exact this)
/-- The shape is what IsHermite asks. -/
theorem HF.herm {R C r : Nat} {p : Nat → Nat} {f : Fn2} (H : HF R C r p f) (hR : R ≤ 24) (hC : C ≤ 24) (hf : OKF R C f) : hermB R C (tb R C f) = true := by
  have hpv : ∀ i, i < r → pv (tb R C f) C i = p i := fun i hi => by
    have hiR : i < R := Nat.lt_of_lt_of_le hi H.le
    have hpC := H.lt i hi
    refine fcN_eq (by rw [rowL_tb hiR]; omega) (fun j hj => ?_) (fun _ => ?_)
    · rw [rowL_getD (by omega), cel_tb hiR (by omega)]
      exact H.left i j hi hj
    · rw [rowL_getD hpC, cel_tb hiR hpC]
      have := H.pos i hi; omega
  have hpz : ∀ i, r ≤ i → i < R → pv (tb R C f) C i = C := fun i h1 h2 => by
    refine fcN_eq (by rw [rowL_tb h2]; omega) (fun j hj => ?_) (fun h => by rw [rowL_tb h2] at h; omega)
    rw [rowL_getD hj, cel_tb h2 hj]
    exact H.zero i j h1 h2 hj
  unfold hermB
  rw [isMat_tb hR hC hf, Bool.true_and, List.all_eq_true]
  intro i hi
  have hi' : i < R := by simpa using hi
  simp only [Int.toNat_natCast]
  unfold hrow
  rcases Nat.lt_or_ge i r with hir | hir
  · have hpC := H.lt i hir
    rw [hpv i hir, if_pos hpC]
    have hlast : lastP (tb R C f) C i < p i := by
      cases i with
      | zero => rw [lastP_zero]; omega
      | succ i =>
        rw [lastP_succ, hpv i (by omega)]
        have := H.mono i (i + 1) (by omega) hir; omega
    have hpos := H.pos i hir
    simp only [Bool.and_eq_true, decide_eq_true_eq]
    refine ⟨⟨hlast, ?_⟩, ?_⟩
    · rw [cel_tb hi' hpC]; omega
    · rw [List.all_eq_true]
      intro k hk
      have hk' := List.mem_range.1 hk
      unfold hcA
      rw [hpv i hir, cel_tb hi' hpC, cel_tb (by omega) hpC, Bool.and_eq_true, decide_eq_true_eq, decide_eq_true_eq]
      exact H.res k i hk' hir
  · rw [hpz i hir hi', if_neg (Nat.lt_irrefl _)]
theorem hmRun_he {R C t : Nat} {f : Fn2} {s : HS} (hg : GD R C ⟨f, idF⟩) (h : hmRun R C f = some (s, t)) : (∃ p, HF R C t p s.f) ∧ SPN R C f s.f ∧ UMH R C f s ∧ GD R C s := by
  unfold hmRun at h
  obtain ⟨a1, a2⟩ := (SPN.stays R C f).out C 0 0 _ s t (by omega) (by omega) hg (SPN.refl R C f) h
  obtain ⟨b1, -⟩ := (UMH.stays R C f).out C 0 0 _ s t (by omega) (by omega) hg (UMH.start R C f) h
  exact ⟨HF.out C 0 0 (fun _ => 0) _ s t (by omega) hg ⟨by omega, fun i hi => absurd hi (Nat.not_lt_zero _), fun i k _ hk => absurd hk (Nat.not_lt_zero _), fun i y hi => absurd hi (Nat.not_lt_zero _), fun i hi => absurd hi (Nat.not_lt_zero _), fun k i _ hi => absurd hi (Nat.not_lt_zero _), fun i y _ _ hy => absurd hy (Nat.not_lt_zero _)⟩ h, a1, b1, a2⟩
theorem hmRun_uniq {R C t t' : Nat} {f f' : Fn2} {s s' : HS} (hg : GD R C ⟨f, idF⟩) (hg' : GD R C ⟨f', idF⟩) (h : hmRun R C f = some (s, t)) (h' : hmRun R C f' = some (s', t')) (hs : SPN R C f f') : EqM R C s'.f s.f := by
  obtain ⟨⟨p, H⟩, a, -, -⟩ := hmRun_he hg h
  obtain ⟨⟨p', H'⟩, a', -, -⟩ := hmRun_he hg' h'
  have e := (a.symm.trans hs).trans a'
  exact H'.uniq H e.1 e.2
theorem hmRun_again {R C t : Nat} {f : Fn2} {s : HS} (hg : GD R C ⟨f, idF⟩) (h : hmRun R C f = some (s, t)) {g : Fn2} (e : EqM R C g s.f) (hg' : GD R C ⟨g, idF⟩) : ∃ s', hmRun R C g = some (s', t) ∧ EqM R C s'.f s.f := by
  obtain ⟨⟨p, H⟩, -, -, -⟩ := hmRun_he hg h
  obtain ⟨s', a, b⟩ := HF.again C 0 0 (⟨g, idF⟩ : HS) (by omega) hg' (H.congr e) (Nat.zero_le _) (fun i hi => absurd hi (Nat.not_lt_zero _)) (fun i _ _ => Nat.zero_le _)
  exact ⟨s', a, fun x y hx hy => (b x y hx hy).trans (e x y hx hy)⟩
end Go.Proofs.Ytacjonkehcamgaa

/-
  DERIVED. l1Bads, l12Cell, l12Least, l12Alone, l12Ops of the reference.
-/
namespace Go.Proofs.Ytacjonkehcamgaa
open Go.RowKit
set_option linter.unusedVariables false
set_option linter.unusedSimpArgs false
theorem spec_l1Bads (A : Option Addr) (n cap : Nat) (xs : List Int) (w : World) {B : Nat} (h : RI w B A n xs) (hn : n ≤ 1048576) :
    Calls Try.prog 210 #[.slice A n cap] w (EV (.bool (!xs.all noBad)) w) := by
  have hlen := h.len
  have hlx : xs.length ≤ n ∧ n ≤ xs.length := by omega
  have H := Lib.hid h
  clear h hlen
  go_enter Try.func210, Try.ntmps210
  go_wp2_with fail
  go_loop [3] (fun v => ∃ k : Nat, v = .int .i64 k ∧ k ≤ n ∧ (xs.take k).all noBad = true) (fun v => n - (intOf v).toNat)
  case atStart => exact ⟨0, rfl, Nat.zero_le _, by simp⟩
  case round =>
    obtain ⟨k, rfl, hk, hz⟩ := hrel
    have HZ := Lib.hid hz
    clear hz
    by_cases hlt : k < n
    · obtain ⟨b, o, rfl, hbb, hcells⟩ := H.out.2 (by omega)
      have c1 := hcells k hlt
      clear hcells
      have hat := all_take (xs := xs) (p := noBad) (show k < xs.length by omega)
      have hfa := all_false (xs := xs) (p := noBad) (show k < xs.length by omega)
      rw [HZ.out, Bool.true_and] at hat
      generalize xs.getD k 0 = x at c1 hat hfa
      rcases hx : (x == -4611686018427387904) with _ | _
      · have hn := Lib.hid (hat.trans (show noBad x = true by unfold noBad; rw [hx]; rfl))
        clear hat hfa
        go_wp2_with fail
        go_round
        case rel => exact ⟨k + 1, by go_num, by omega, hn.out⟩
        case measure => simp only [intOf]; omega
      · have hn := Lib.hid (hfa (show noBad x = false by unfold noBad; rw [hx]; rfl))
        clear hat hfa
        go_wp2_with fail
        go_ret
        exact EV.mk (vbool (by rw [hn.out]; rfl))
    · have hall := Lib.hid (show xs.all noBad = true by
        have := HZ.out
        rw [List.take_of_length_le (by omega)] at this
        exact this)
      go_wp2_with fail
      go_ret
      exact EV.mk (vbool (by rw [hall.out]; rfl))
theorem spec_l12Cell_tb (R C i j : Nat) (A : Option Addr) (n cap : Nat) (F : Nat → Nat → Int) (v : Int) (hv : F i j = v) (w : World) {B : Nat} (h : OR w B (.slice A n cap) (tb R C F)) (hR : R ≤ 48) (hC : C ≤ 48) (hi : i < R) (hj : j < C) :
    Calls Try.prog 108 #[.agg #[.int .i64 R, .int .i64 C, .slice A n cap], .int .i64 i, .int .i64 j] w (BV (.int .i64 v) w) := by
  have hn := h.lenEq
  rw [tb_len] at hn
  have h1 := idx_nat hi hj
  have h2 : i * C ≤ 48 * 48 := Nat.mul_le_mul (by omega) hC
  have e1 : (i : Int) * (C : Int) = ((i * C : Nat) : Int) := by rw [Int.natCast_mul]
  have := spec_l12Cell R C i j A n cap (tb R C F) w h.reads (Nat.le_refl _) ⟨by omega, by omega⟩ ⟨by omega, by omega⟩ (by omega)
  rw [cel_tb hi hj, hv] at this
  exact this
set_option maxRecDepth 100000 in
set_option maxHeartbeats 4000000 in
theorem spec_l12Least (R C t j : Nat) (A : Option Addr) (n cap : Nat) (f : Fn2) (w : World) {B : Nat} (h : OR w B (.slice A n cap) (tb R C f)) (ht : t ≤ R) (hj : j < C) (hf : OKF R C f) (hC : C ≤ 24) (hR : R ≤ 24) :
    Calls Try.prog 206 #[.agg #[.int .i64 R, .int .i64 C, .slice A n cap], .int .i64 t, .int .i64 j] w (BV (.int .i64 (lst R f j t)) w) := by
  have HF := Lib.hid hf
  clear hf
  go_enter Try.func206, Try.ntmps206
  go_wp2_with fail
  go_loopw [7, 8, 9] (fun u v _ wr => ∃ (i : Nat), v = .int .i64 i ∧ u = .int .i64 (lstK f j t (i - t)) ∧ t ≤ i ∧ i ≤ R ∧ BM wr w.heap.size R C A n cap ∧ OR wr B (.slice A n cap) (tb R C f) ∧ Below w.heap.size w wr) (fun _ v _ _ => R - (intOf v).toNat)
  case atStart => exact ⟨t, rfl, by rw [Nat.sub_self]; rfl, Nat.le_refl _, ht, Ka, Ko h, Kw⟩
  case round =>
    clear h
    obtain ⟨i, rfl, rfl, hti, hiR, hO, ho, hbw⟩ := hrel
    obtain ⟨oa, ob, oc, of, ol⟩ := hO.mx
    have hsz := hbw.size
    by_cases hlt : i < R
    · have hn := HF.out i j hlt hj
      have HS := Lib.hid (lst_succ (f := f) (j := j) hti)
      have hcs := lstK_cases f j t (i - t)
      by_cases hz : f i j = 0
      · have hx := HS.out
        rw [if_neg (by simp [hz])] at hx
        have HX := Lib.hid hx
        have hb : -1 ≤ lstK f j t (i - t) ∧ lstK f j t (i - t) ≤ 100 := by
          rcases hcs with ⟨e, _⟩ | ⟨p, e, _, h3, _⟩
          · omega
          · omega
        obtain ⟨b1, b2⟩ := hb
        have HZ := Lib.hid hz
        clear hx hz hcs HS
        generalize lstK f j t (i - t) = q at *
        go_wp2_with fail
        (refine (spec_l12Cell_tb R C i j A n cap f (0) HZ.out _ (B := B) (Ko ho) (by omega) (by omega) (by omega) (by omega)).mono ?_; rintro e w1 ⟨rfl, hb1⟩; (have hO_1 : BM w1 w.heap.size R C A n cap := (Kb hO)); (have ho_1 : OR w1 B (.slice A n cap) (tb R C f) := (Ko ho)); (have hbw_1 : Below w.heap.size w w1 := Kw); (have hsz_1 := hbw_1.size); clear hO ho hbw hb1; clear oa ob oc of ol; (have hO := hO_1); (have ho := ho_1); (have hbw := hbw_1); clear hO_1 ho_1 hbw_1; obtain ⟨oa, ob, oc, of, ol⟩ := hO.mx)
        go_wp2_with fail
        go_quiet (fail)
        go_wp2_with fail
        go_roundw
        case rel => exact ⟨i + 1, by go_num, by rw [HX.out], by omega, by omega, Kb hO, Ko ho, Kw⟩
        case measure => simp only [intOf]; omega
      · have hnz : (f i j != 0) = true := by simpa using hz
        rcases hcs with ⟨e, _⟩ | ⟨p, e, h2, h3, h4, _⟩
        · have hx := HS.out
          rw [if_pos ⟨hz, .inl (by omega)⟩] at hx
          have HX := Lib.hid hx
          rw [e]
          obtain ⟨y1, y2⟩ := hn
          clear hx hz HS e
          generalize hv : f i j = v at *
          have HV := Lib.hid hv
          clear hv
          go_wp2_with fail
          (refine (spec_l12Cell_tb R C i j A n cap f v HV.out _ (B := B) (Ko ho) (by omega) (by omega) (by omega) (by omega)).mono ?_; rintro e w1 ⟨rfl, hb1⟩; (have hO_1 : BM w1 w.heap.size R C A n cap := (Kb hO)); (have ho_1 : OR w1 B (.slice A n cap) (tb R C f) := (Ko ho)); (have hbw_1 : Below w.heap.size w w1 := Kw); (have hsz_1 := hbw_1.size); clear hO ho hbw hb1; clear oa ob oc of ol; (have hO := hO_1); (have ho := ho_1); (have hbw := hbw_1); clear hO_1 ho_1 hbw_1; obtain ⟨oa, ob, oc, of, ol⟩ := hO.mx)
          go_wp2_with fail
          ((refine wp_region_held_drew (S := (fun w' => w'.cell? ⟨w.heap.size, 0, none⟩ = some (.int .i64 R) ∧ w'.cell? ⟨w.heap.size, 1, none⟩ = some (.int .i64 C) ∧ w'.cell? ⟨w.heap.size, 2, none⟩ = some (.slice A n cap))) (by kernel_rfl) ?_ (fun hHeld => ?_)); ((focus ((try dsimp only); (go_keep)))); ((refine tk_ (i := 0) (v := ?_) (y := Or.inl ⟨by rfl, ?_⟩) (h := ?_); rotate_left; (focus (((intro w hSw; (try dsimp only at hSw); go_simp) <;> (try with_reducible rfl)); done)); (try simp only [Act.put, p1_, p2_, p3_]))); ((refine tk_ (i := 1) (v := ?_) (y := Or.inl ⟨by rfl, ?_⟩) (h := ?_); rotate_left; (focus (((intro w hSw; (try dsimp only at hSw); go_simp) <;> (try with_reducible rfl)); done)); (try simp only [Act.put, p1_, p2_, p3_]))); ((refine tk_ (i := 2) (v := ?_) (y := Or.inl ⟨by rfl, ?_⟩) (h := ?_); rotate_left; (focus (((intro w hSw; (try dsimp only at hSw); go_simp) <;> (try with_reducible rfl)); done)); (try simp only [Act.put, p1_, p2_, p3_]))); ((refine tk_ (i := 3) (v := ?_) (y := Or.inl ⟨by rfl, ?_⟩) (h := ?_); rotate_left; (focus (((intro w hSw; (try dsimp only at hSw); go_simp) <;> (try with_reducible rfl)); done)); (try simp only [Act.put, p1_, p2_, p3_]))); ((refine tk_ (i := 4) (v := ?_) (y := Or.inl ⟨by rfl, ?_⟩) (h := ?_); rotate_left; (focus (((intro w hSw; (try dsimp only at hSw); go_simp) <;> (try with_reducible rfl)); done)); (try simp only [Act.put, p1_, p2_, p3_]))); ((refine tk_ (i := 5) (v := ?_) (y := Or.inl ⟨by rfl, ?_⟩) (h := ?_); rotate_left; (focus (((intro w hSw; (try dsimp only at hSw); go_simp) <;> (try with_reducible rfl)); done)); (try simp only [Act.put, p1_, p2_, p3_]))); ((refine wpAnyH_take (i := 6) (by simp only [e1_, e2_, e3_]; try rfl) (by kernel_rfl) (by kernel_rfl) (by kernel_rfl) (by exact fun _ _ _ h => h) (Or.inr ⟨by rfl, rfl⟩) (by assumption) ?_; (try simp only [Act.put, p1_, p2_, p3_]))); ((refine wpAnyH_take (i := 8) (by simp only [e1_, e2_, e3_]; try rfl) (by kernel_rfl) (by kernel_rfl) (by kernel_rfl) (by exact fun _ _ _ h => h) (Or.inr ⟨by rfl, rfl⟩) (by assumption) ?_; (try simp only [Act.put, p1_, p2_, p3_]))); ((refine wpAnyH_take (i := 9) (by simp only [e1_, e2_, e3_]; try rfl) (by kernel_rfl) (by kernel_rfl) (by kernel_rfl) (by exact fun _ _ _ h => h) (Or.inr ⟨by rfl, rfl⟩) (by assumption) ?_; (try simp only [Act.put, p1_, p2_, p3_]))); ((refine wpAnyH_take (i := 10) (by simp only [e1_, e2_, e3_]; try rfl) (by kernel_rfl) (by kernel_rfl) (by kernel_rfl) (by exact fun _ _ _ h => h) (Or.inr ⟨by rfl, rfl⟩) (by assumption) ?_; (try simp only [Act.put, p1_, p2_, p3_]))); ((refine wpAnyH_ready (rs := [7]) (by kernel_rfl) (by simp) ?_; refine AllReadyH.cons (by simp only [e1_, e2_, e3_]; try rfl) (fun K hK => ?_) AllReadyH.nil; go_simp; with_reducible refine hK.out _ _ ?_ (fun hHeld => ?_); (focus ((try dsimp only); (go_keep))); clear hK K; (try simp only [Act.put, p1_, p2_, p3_]))); ((refine wpAnyH_ready (rs := [11]) (by kernel_rfl) (by simp) ?_; refine AllReadyH.cons (by simp only [e1_, e2_, e3_]; try rfl) (fun K hK => ?_) AllReadyH.nil; go_simp; with_reducible refine hK.out _ _ ?_ (fun hHeld => ?_); (focus ((try dsimp only); (go_keep))); clear hK K; (try simp only [Act.put, p1_, p2_, p3_]))); ((refine wpAnyH_ready (rs := [12]) (by kernel_rfl) (by simp) ?_; refine AllReadyH.cons (by simp only [e1_, e2_, e3_]; try rfl) (fun K hK => ?_) AllReadyH.nil; go_simp; with_reducible refine hK.out _ _ ?_ (fun hHeld => ?_); (focus ((try dsimp only); (go_keep))); clear hK K; (try simp only [Act.put, p1_, p2_, p3_]))); ((refine wpAnyH_take (i := 13) (by simp only [e1_, e2_, e3_]; try rfl) (by kernel_rfl) (by kernel_rfl) (by kernel_rfl) (by exact fun _ _ _ h => h) (Or.inr ⟨by rfl, rfl⟩) (by assumption) ?_; (try simp only [Act.put, p1_, p2_, p3_]))); ((refine tk_ (i := 14) (v := ?_) (y := Or.inl ⟨by rfl, ?_⟩) (h := ?_); rotate_left; (focus (((intro w hSw; (try dsimp only at hSw); go_simp) <;> (try with_reducible rfl)); done)); (try simp only [Act.put, p1_, p2_, p3_]))); ((refine tk_ (i := 15) (v := ?_) (y := Or.inl ⟨by rfl, ?_⟩) (h := ?_); rotate_left; (focus (((intro w hSw; (try dsimp only at hSw); go_simp) <;> (try with_reducible rfl)); done)); (try simp only [Act.put, p1_, p2_, p3_]))); (refine wpAnyH_done (by kernel_rfl) ?_ _))
          go_wp2_with fail
          go_roundw
          case rel => exact ⟨i + 1, by go_num, by rw [HX.out], by omega, by omega, Kb hO, Ko ho, Kw⟩
          case measure => simp only [intOf]; omega
        · have e2 : (lstK f j t (i - t)).toNat = p := by omega
          have hx := HS.out
          rw [e2] at hx
          have hnp := HF.out p j (by omega) hj
          obtain ⟨y1, y2⟩ := hn
          obtain ⟨y3, y4⟩ := hnp
          rw [e] at hx ⊢
          have hpR : p < R := by omega
          by_cases hc : (f i j).natAbs < (f p j).natAbs
          · rw [if_pos ⟨hz, .inr hc⟩] at hx
            have HX := Lib.hid hx
            clear hx hz HS e h4 e2
            generalize hv : f i j = v at *
            generalize hv2 : f p j = v2 at *
            have HV := Lib.hid hv
            have HV2 := Lib.hid hv2
            clear hv hv2
            go_wp2_with fail
            (refine (spec_l12Cell_tb R C i j A n cap f v HV.out _ (B := B) (Ko ho) (by omega) (by omega) (by omega) (by omega)).mono ?_; rintro e w1 ⟨rfl, hb1⟩; (have hO_1 : BM w1 w.heap.size R C A n cap := (Kb hO)); (have ho_1 : OR w1 B (.slice A n cap) (tb R C f) := (Ko ho)); (have hbw_1 : Below w.heap.size w w1 := Kw); (have hsz_1 := hbw_1.size); clear hO ho hbw hb1; clear oa ob oc of ol; (have hO := hO_1); (have ho := ho_1); (have hbw := hbw_1); clear hO_1 ho_1 hbw_1; obtain ⟨oa, ob, oc, of, ol⟩ := hO.mx)
            go_wp2_with fail
            ((refine wp_region_held_drew (S := (fun w' => w'.cell? ⟨w.heap.size, 0, none⟩ = some (.int .i64 R) ∧ w'.cell? ⟨w.heap.size, 1, none⟩ = some (.int .i64 C) ∧ w'.cell? ⟨w.heap.size, 2, none⟩ = some (.slice A n cap))) (by kernel_rfl) ?_ (fun hHeld => ?_)); ((focus ((try dsimp only); (go_keep)))); ((refine tk_ (i := 0) (v := ?_) (y := Or.inl ⟨by rfl, ?_⟩) (h := ?_); rotate_left; (focus (((intro w hSw; (try dsimp only at hSw); go_simp) <;> (try with_reducible rfl)); done)); (try simp only [Act.put, p1_, p2_, p3_]))); ((refine tk_ (i := 1) (v := ?_) (y := Or.inl ⟨by rfl, ?_⟩) (h := ?_); rotate_left; (focus (((intro w hSw; (try dsimp only at hSw); go_simp) <;> (try with_reducible rfl)); done)); (try simp only [Act.put, p1_, p2_, p3_]))); ((refine tk_ (i := 2) (v := ?_) (y := Or.inl ⟨by rfl, ?_⟩) (h := ?_); rotate_left; (focus (((intro w hSw; (try dsimp only at hSw); go_simp) <;> (try with_reducible rfl)); done)); (try simp only [Act.put, p1_, p2_, p3_]))); ((refine tk_ (i := 3) (v := ?_) (y := Or.inl ⟨by rfl, ?_⟩) (h := ?_); rotate_left; (focus (((intro w hSw; (try dsimp only at hSw); go_simp) <;> (try with_reducible rfl)); done)); (try simp only [Act.put, p1_, p2_, p3_]))); ((refine tk_ (i := 4) (v := ?_) (y := Or.inl ⟨by rfl, ?_⟩) (h := ?_); rotate_left; (focus (((intro w hSw; (try dsimp only at hSw); go_simp) <;> (try with_reducible rfl)); done)); (try simp only [Act.put, p1_, p2_, p3_]))); ((refine tk_ (i := 5) (v := ?_) (y := Or.inl ⟨by rfl, ?_⟩) (h := ?_); rotate_left; (focus (((intro w hSw; (try dsimp only at hSw); go_simp) <;> (try with_reducible rfl)); done)); (try simp only [Act.put, p1_, p2_, p3_]))); ((refine tk_ (i := 6) (v := ?_) (y := Or.inl ⟨by rfl, ?_⟩) (h := ?_); rotate_left; (focus (((intro w hSw; (try dsimp only at hSw); go_simp) <;> (try with_reducible rfl)); done)); (try simp only [Act.put, p1_, p2_, p3_]))); ((refine tk_ (i := 8) (v := ?_) (y := Or.inl ⟨by rfl, ?_⟩) (h := ?_); rotate_left; (focus (((intro w hSw; (try dsimp only at hSw); go_simp) <;> (try with_reducible rfl)); done)); (try simp only [Act.put, p1_, p2_, p3_]))); ((refine tk_ (i := 9) (v := ?_) (y := Or.inl ⟨by rfl, ?_⟩) (h := ?_); rotate_left; (focus (((intro w hSw; (try dsimp only at hSw); go_simp) <;> (try with_reducible rfl)); done)); (try simp only [Act.put, p1_, p2_, p3_]))); ((refine tk_ (i := 10) (v := ?_) (y := Or.inl ⟨by rfl, ?_⟩) (h := ?_); rotate_left; (focus (((intro w hSw; (try dsimp only at hSw); go_simp) <;> (try with_reducible rfl)); done)); (try simp only [Act.put, p1_, p2_, p3_]))); ((refine wpAnyH_ready (rs := [7]) (by kernel_rfl) (by simp) ?_; refine AllReadyH.cons (by simp only [e1_, e2_, e3_]; try rfl) (fun K hK => ?_) AllReadyH.nil; go_simp; (go_at_call 224; refine (spec_l1Abs _ _ (by omega) (by omega)).mono ?_; rintro e w' ⟨rfl, rfl⟩); (try go_wp2_with fail); refine hK.out _ _ ?_ (fun hHeld => ?_); (focus ((try dsimp only); (go_keep))); clear hK K; (try simp only [Act.put, p1_, p2_, p3_]))); ((refine wpAnyH_ready (rs := [11]) (by kernel_rfl) (by simp) ?_; refine AllReadyH.cons (by simp only [e1_, e2_, e3_]; try rfl) (fun K hK => ?_) AllReadyH.nil; go_simp; (go_at_call 108; (refine (spec_l12Cell_tb R C p j A n cap f v2 HV2.out _ (B := B) (Ko ho) (by omega) (by omega) (by omega) (by omega)).mono ?_; rintro e w1 ⟨rfl, hb1⟩; (have hO_1 : BM w1 w.heap.size R C A n cap := (Kb hO)); (have ho_1 : OR w1 B (.slice A n cap) (tb R C f) := (Ko ho)); (have hbw_1 : Below w.heap.size w w1 := Kw); (have hsz_1 := hbw_1.size); clear hO ho hbw hb1; clear oa ob oc of ol; (have hO := hO_1); (have ho := ho_1); (have hbw := hbw_1); clear hO_1 ho_1 hbw_1; obtain ⟨oa, ob, oc, of, ol⟩ := hO.mx)); (try go_wp2_with fail); refine hK.out _ _ ?_ (fun hHeld => ?_); (focus ((try dsimp only); (go_keep))); clear hK K; (try simp only [Act.put, p1_, p2_, p3_]))); ((refine wpAnyH_ready (rs := [12]) (by kernel_rfl) (by simp) ?_; refine AllReadyH.cons (by simp only [e1_, e2_, e3_]; try rfl) (fun K hK => ?_) AllReadyH.nil; go_simp; (go_at_call 224; refine (spec_l1Abs _ _ (by omega) (by omega)).mono ?_; rintro e w' ⟨rfl, rfl⟩); (try go_wp2_with fail); refine hK.out _ _ ?_ (fun hHeld => ?_); (focus ((try dsimp only); (go_keep))); clear hK K; (try simp only [Act.put, p1_, p2_, p3_]))); ((refine tk_ (i := 13) (v := ?_) (y := Or.inl ⟨by rfl, ?_⟩) (h := ?_); rotate_left; (focus (((intro w hSw; (try dsimp only at hSw); go_simp) <;> (try with_reducible rfl)); done)); (try simp only [Act.put, p1_, p2_, p3_]))); ((refine tk_ (i := 14) (v := ?_) (y := Or.inl ⟨by rfl, ?_⟩) (h := ?_); rotate_left; (focus (((intro w hSw; (try dsimp only at hSw); go_simp) <;> (try with_reducible rfl)); done)); (try simp only [Act.put, p1_, p2_, p3_]))); ((refine tk_ (i := 15) (v := ?_) (y := Or.inl ⟨by rfl, ?_⟩) (h := ?_); rotate_left; (focus (((intro w hSw; (try dsimp only at hSw); go_simp) <;> (try with_reducible rfl)); done)); (try simp only [Act.put, p1_, p2_, p3_]))); (refine wpAnyH_done (by kernel_rfl) ?_ _))
            go_wp2_with fail
            go_roundw
            case rel => exact ⟨i + 1, by go_num, by rw [HX.out], by omega, by omega, Kb hO, Ko ho, Kw⟩
            case measure => simp only [intOf]; omega
          · rw [if_neg (by rintro ⟨_, h5⟩; omega)] at hx
            have HX := Lib.hid hx
            clear hx hz HS e h4 e2
            generalize hv : f i j = v at *
            generalize hv2 : f p j = v2 at *
            have HV := Lib.hid hv
            have HV2 := Lib.hid hv2
            clear hv hv2
            go_wp2_with fail
            (refine (spec_l12Cell_tb R C i j A n cap f v HV.out _ (B := B) (Ko ho) (by omega) (by omega) (by omega) (by omega)).mono ?_; rintro e w1 ⟨rfl, hb1⟩; (have hO_1 : BM w1 w.heap.size R C A n cap := (Kb hO)); (have ho_1 : OR w1 B (.slice A n cap) (tb R C f) := (Ko ho)); (have hbw_1 : Below w.heap.size w w1 := Kw); (have hsz_1 := hbw_1.size); clear hO ho hbw hb1; clear oa ob oc of ol; (have hO := hO_1); (have ho := ho_1); (have hbw := hbw_1); clear hO_1 ho_1 hbw_1; obtain ⟨oa, ob, oc, of, ol⟩ := hO.mx)
            go_wp2_with fail
            ((refine wp_region_held_drew (S := (fun w' => w'.cell? ⟨w.heap.size, 0, none⟩ = some (.int .i64 R) ∧ w'.cell? ⟨w.heap.size, 1, none⟩ = some (.int .i64 C) ∧ w'.cell? ⟨w.heap.size, 2, none⟩ = some (.slice A n cap))) (by kernel_rfl) ?_ (fun hHeld => ?_)); ((focus ((try dsimp only); (go_keep)))); ((refine tk_ (i := 0) (v := ?_) (y := Or.inl ⟨by rfl, ?_⟩) (h := ?_); rotate_left; (focus (((intro w hSw; (try dsimp only at hSw); go_simp) <;> (try with_reducible rfl)); done)); (try simp only [Act.put, p1_, p2_, p3_]))); ((refine tk_ (i := 1) (v := ?_) (y := Or.inl ⟨by rfl, ?_⟩) (h := ?_); rotate_left; (focus (((intro w hSw; (try dsimp only at hSw); go_simp) <;> (try with_reducible rfl)); done)); (try simp only [Act.put, p1_, p2_, p3_]))); ((refine tk_ (i := 2) (v := ?_) (y := Or.inl ⟨by rfl, ?_⟩) (h := ?_); rotate_left; (focus (((intro w hSw; (try dsimp only at hSw); go_simp) <;> (try with_reducible rfl)); done)); (try simp only [Act.put, p1_, p2_, p3_]))); ((refine tk_ (i := 3) (v := ?_) (y := Or.inl ⟨by rfl, ?_⟩) (h := ?_); rotate_left; (focus (((intro w hSw; (try dsimp only at hSw); go_simp) <;> (try with_reducible rfl)); done)); (try simp only [Act.put, p1_, p2_, p3_]))); ((refine tk_ (i := 4) (v := ?_) (y := Or.inl ⟨by rfl, ?_⟩) (h := ?_); rotate_left; (focus (((intro w hSw; (try dsimp only at hSw); go_simp) <;> (try with_reducible rfl)); done)); (try simp only [Act.put, p1_, p2_, p3_]))); ((refine tk_ (i := 5) (v := ?_) (y := Or.inl ⟨by rfl, ?_⟩) (h := ?_); rotate_left; (focus (((intro w hSw; (try dsimp only at hSw); go_simp) <;> (try with_reducible rfl)); done)); (try simp only [Act.put, p1_, p2_, p3_]))); ((refine tk_ (i := 6) (v := ?_) (y := Or.inl ⟨by rfl, ?_⟩) (h := ?_); rotate_left; (focus (((intro w hSw; (try dsimp only at hSw); go_simp) <;> (try with_reducible rfl)); done)); (try simp only [Act.put, p1_, p2_, p3_]))); ((refine tk_ (i := 8) (v := ?_) (y := Or.inl ⟨by rfl, ?_⟩) (h := ?_); rotate_left; (focus (((intro w hSw; (try dsimp only at hSw); go_simp) <;> (try with_reducible rfl)); done)); (try simp only [Act.put, p1_, p2_, p3_]))); ((refine tk_ (i := 9) (v := ?_) (y := Or.inl ⟨by rfl, ?_⟩) (h := ?_); rotate_left; (focus (((intro w hSw; (try dsimp only at hSw); go_simp) <;> (try with_reducible rfl)); done)); (try simp only [Act.put, p1_, p2_, p3_]))); ((refine tk_ (i := 10) (v := ?_) (y := Or.inl ⟨by rfl, ?_⟩) (h := ?_); rotate_left; (focus (((intro w hSw; (try dsimp only at hSw); go_simp) <;> (try with_reducible rfl)); done)); (try simp only [Act.put, p1_, p2_, p3_]))); ((refine wpAnyH_ready (rs := [7]) (by kernel_rfl) (by simp) ?_; refine AllReadyH.cons (by simp only [e1_, e2_, e3_]; try rfl) (fun K hK => ?_) AllReadyH.nil; go_simp; (go_at_call 224; refine (spec_l1Abs _ _ (by omega) (by omega)).mono ?_; rintro e w' ⟨rfl, rfl⟩); (try go_wp2_with fail); refine hK.out _ _ ?_ (fun hHeld => ?_); (focus ((try dsimp only); (go_keep))); clear hK K; (try simp only [Act.put, p1_, p2_, p3_]))); ((refine wpAnyH_ready (rs := [11]) (by kernel_rfl) (by simp) ?_; refine AllReadyH.cons (by simp only [e1_, e2_, e3_]; try rfl) (fun K hK => ?_) AllReadyH.nil; go_simp; (go_at_call 108; (refine (spec_l12Cell_tb R C p j A n cap f v2 HV2.out _ (B := B) (Ko ho) (by omega) (by omega) (by omega) (by omega)).mono ?_; rintro e w1 ⟨rfl, hb1⟩; (have hO_1 : BM w1 w.heap.size R C A n cap := (Kb hO)); (have ho_1 : OR w1 B (.slice A n cap) (tb R C f) := (Ko ho)); (have hbw_1 : Below w.heap.size w w1 := Kw); (have hsz_1 := hbw_1.size); clear hO ho hbw hb1; clear oa ob oc of ol; (have hO := hO_1); (have ho := ho_1); (have hbw := hbw_1); clear hO_1 ho_1 hbw_1; obtain ⟨oa, ob, oc, of, ol⟩ := hO.mx)); (try go_wp2_with fail); refine hK.out _ _ ?_ (fun hHeld => ?_); (focus ((try dsimp only); (go_keep))); clear hK K; (try simp only [Act.put, p1_, p2_, p3_]))); ((refine wpAnyH_ready (rs := [12]) (by kernel_rfl) (by simp) ?_; refine AllReadyH.cons (by simp only [e1_, e2_, e3_]; try rfl) (fun K hK => ?_) AllReadyH.nil; go_simp; (go_at_call 224; refine (spec_l1Abs _ _ (by omega) (by omega)).mono ?_; rintro e w' ⟨rfl, rfl⟩); (try go_wp2_with fail); refine hK.out _ _ ?_ (fun hHeld => ?_); (focus ((try dsimp only); (go_keep))); clear hK K; (try simp only [Act.put, p1_, p2_, p3_]))); ((refine tk_ (i := 13) (v := ?_) (y := Or.inl ⟨by rfl, ?_⟩) (h := ?_); rotate_left; (focus (((intro w hSw; (try dsimp only at hSw); go_simp) <;> (try with_reducible rfl)); done)); (try simp only [Act.put, p1_, p2_, p3_]))); ((refine tk_ (i := 14) (v := ?_) (y := Or.inl ⟨by rfl, ?_⟩) (h := ?_); rotate_left; (focus (((intro w hSw; (try dsimp only at hSw); go_simp) <;> (try with_reducible rfl)); done)); (try simp only [Act.put, p1_, p2_, p3_]))); ((refine tk_ (i := 15) (v := ?_) (y := Or.inl ⟨by rfl, ?_⟩) (h := ?_); rotate_left; (focus (((intro w hSw; (try dsimp only at hSw); go_simp) <;> (try with_reducible rfl)); done)); (try simp only [Act.put, p1_, p2_, p3_]))); (refine wpAnyH_done (by kernel_rfl) ?_ _))
            go_wp2_with fail
            go_roundw
            case rel => exact ⟨i + 1, by go_num, by rw [HX.out], by omega, by omega, Kb hO, Ko ho, Kw⟩
            case measure => simp only [intOf]; omega
    · obtain rfl : i = R := by omega
      have hb : -1 ≤ lstK f j t (i - t) ∧ lstK f j t (i - t) ≤ 100 := by
        rcases lstK_cases f j t (i - t) with ⟨e, _⟩ | ⟨p, e, _, h3, _⟩
        · omega
        · omega
      obtain ⟨b1, b2⟩ := hb
      have HL : Hid (lst i f j t = lstK f j t (i - t)) := Lib.hid rfl
      generalize lstK f j t (i - t) = q at *
      go_wp2_with fail
      go_ret
      exact BV.mk (vint HL.out.symm) hbw
set_option maxRecDepth 100000 in
set_option maxHeartbeats 4000000 in
theorem spec_l12Alone (R C t j p : Nat) (A : Option Addr) (n cap : Nat) (f : Fn2) (w : World) {B : Nat} (h : OR w B (.slice A n cap) (tb R C f)) (ht : t ≤ R) (hj : j < C) (hp : p < R) (hC : C ≤ 24) (hR : R ≤ 24) :
    Calls Try.prog 207 #[.agg #[.int .i64 R, .int .i64 C, .slice A n cap], .int .i64 t, .int .i64 j, .int .i64 p] w (BV (.bool (!oth R f j t p)) w) := by
  have HNO := Lib.hid (oth_no (R := R) (f := f) (j := j) (t := t) (p := p))
  have HYES := Lib.hid (fun i h1 h2 h3 h4 => (oth_iff (R := R) (f := f) (j := j) (t := t) (p := p)).2 ⟨i, h1, h2, h3, h4⟩)
  generalize oth R f j t p = res at *
  go_enter Try.func207, Try.ntmps207
  go_wp2_with fail
  go_loopw [9] (fun v wr => ∃ (i : Nat), v = .int .i64 i ∧ t ≤ i ∧ i ≤ R ∧ (∀ k, t ≤ k → k < i → ¬ (k ≠ p ∧ f k j ≠ 0)) ∧ BM wr w.heap.size R C A n cap ∧ OR wr B (.slice A n cap) (tb R C f) ∧ Below w.heap.size w wr) (fun v _ => R - (intOf v).toNat)
  case atStart => exact ⟨t, rfl, Nat.le_refl _, ht, fun k h1 h2 => absurd h1 (by omega), Ka, Ko h, Kw⟩
  case round =>
    clear h
    obtain ⟨i, rfl, hti, hiR, hno, hO, ho, hbw⟩ := hrel
    obtain ⟨oa, ob, oc, of, ol⟩ := hO.mx
    have hsz := hbw.size
    have HN := Lib.hid hno
    clear hno
    by_cases hlt : i < R
    · by_cases hip : i = p
      · have hb : ((i : Int) != (p : Int)) = false := by simp [hip]
        have HS : Hid (∀ k, t ≤ k → k < i + 1 → ¬ (k ≠ p ∧ f k j ≠ 0)) := Lib.hid (fun k h1 h2 => by
          by_cases e : k = i
          · exact fun h3 => h3.1 (e.trans hip)
          · exact HN.out k h1 (by omega))
        clear hip
        go_wp2_with fail
        go_roundw
        case rel => exact ⟨i + 1, by go_num, by omega, by omega, HS.out, Kb hO, Ko ho, Kw⟩
        case measure => simp only [intOf]; omega
      · have hb : ((i : Int) != (p : Int)) = true := by simp; omega
        have HIP := Lib.hid hip
        clear hip
        by_cases hz : f i j = 0
        · have HS : Hid (∀ k, t ≤ k → k < i + 1 → ¬ (k ≠ p ∧ f k j ≠ 0)) := Lib.hid (fun k h1 h2 => by
            by_cases e : k = i
            · exact fun h3 => h3.2 (by rw [e]; exact hz)
            · exact HN.out k h1 (by omega))
          have HZ := Lib.hid hz
          clear hz
          go_wp2_with fail
          (refine (spec_l12Cell_tb R C i j A n cap f (0) HZ.out _ (B := B) (Ko ho) (by omega) (by omega) (by omega) (by omega)).mono ?_; rintro e w1 ⟨rfl, hb1⟩; (have hO_1 : BM w1 w.heap.size R C A n cap := (Kb hO)); (have ho_1 : OR w1 B (.slice A n cap) (tb R C f) := (Ko ho)); (have hbw_1 : Below w.heap.size w w1 := Kw); (have hsz_1 := hbw_1.size); clear hO ho hbw hb1; clear oa ob oc of ol; (have hO := hO_1); (have ho := ho_1); (have hbw := hbw_1); clear hO_1 ho_1 hbw_1; obtain ⟨oa, ob, oc, of, ol⟩ := hO.mx)
          go_wp2_with fail
          go_roundw
          case rel => exact ⟨i + 1, by go_num, by omega, by omega, HS.out, Kb hO, Ko ho, Kw⟩
          case measure => simp only [intOf]; omega
        · have HR := Lib.hid (HYES.out i hti hlt HIP.out hz)
          have hnz : (f i j != 0) = true := by simpa using hz
          clear hz
          generalize hv : f i j = v at *
          have HV := Lib.hid hv
          clear hv
          go_wp2_with fail
          (refine (spec_l12Cell_tb R C i j A n cap f v HV.out _ (B := B) (Ko ho) (by omega) (by omega) (by omega) (by omega)).mono ?_; rintro e w1 ⟨rfl, hb1⟩; (have hO_1 : BM w1 w.heap.size R C A n cap := (Kb hO)); (have ho_1 : OR w1 B (.slice A n cap) (tb R C f) := (Ko ho)); (have hbw_1 : Below w.heap.size w w1 := Kw); (have hsz_1 := hbw_1.size); clear hO ho hbw hb1; clear oa ob oc of ol; (have hO := hO_1); (have ho := ho_1); (have hbw := hbw_1); clear hO_1 ho_1 hbw_1; obtain ⟨oa, ob, oc, of, ol⟩ := hO.mx)
          go_wp2_with fail
          go_ret
          exact BV.mk (vbool (by rw [HR.out]; rfl)) hbw
    · obtain rfl : i = R := by omega
      have HR := Lib.hid (HNO.out HN.out)
      go_wp2_with fail
      go_ret
      exact BV.mk (vbool (by rw [HR.out]; rfl)) hbw
/-- Two own slices written. -/
def WW2 (sv sv2 : Value) (B : Nat) (xs ys : List Int) (w : World) (e : Ending) (w' : World) : Prop := e = .returned (.tuple #[]) ∧ OR w' B sv xs ∧ OR w' B sv2 ys ∧ Below B w w' ∧ ∀ k, k < w.heap.size → some k ≠ sv.ownBlock → some k ≠ sv2.ownBlock → w'.heap[k]? = w.heap[k]?
set_option maxHeartbeats 1000000 in
theorem spec_l12Ops_add (R C i j : Nat) (t : Int) (A : Option Addr) (n cap : Nat) (A2 : Option Addr) (n2 cap2 : Nat) (f g : Fn2) (w : World) {B : Nat} (h1 : OR w B (.slice A n cap) (tb R C f)) (h2 : OR w B (.slice A2 n2 cap2) (tb R R g)) (hap : Apart (.slice A n cap) (.slice A2 n2 cap2)) (hBs : B ≤ w.heap.size) (hi : i < R) (hj : j < R) (hij : i ≠ j) (ht : Num t) (hf : NBF f) (hg : NBF g) (hC0 : 0 < C) (hC : C ≤ 24) (hR : R ≤ 24) :
    Calls Try.prog 209 #[.agg #[.int .i64 R, .int .i64 C, .slice A n cap], .agg #[.int .i64 R, .int .i64 R, .slice A2 n2 cap2], .agg #[.int .i64 2, .int .i64 i, .int .i64 j, .int .i64 t]] w (WW2 (.slice A n cap) (.slice A2 n2 cap2) B (tb R C (opA f i j t)) (tb R R (opA g i j t)) w) := by
  have HIJ := Lib.hid hij
  have HT := Lib.hid ht
  have HF := Lib.hid hf
  have HG := Lib.hid hg
  clear hij ht hf hg
  obtain ⟨ha, hb⟩ : Own (.slice A n cap) B w.heap.size ∧ Own (.slice A2 n2 cap2) B w.heap.size := ⟨h1.own, h2.own⟩
  have HA := Lib.hid ha
  have HB := Lib.hid hb
  have HAP := Lib.hid hap
  have HBs := Lib.hid hBs
  clear ha hb
  go_enter Try.func209, Try.ntmps209
  go_wp2_with fail
  have hM1 : BM ((((w.alloc (.cells #[.int .i64 R, .int .i64 C, .slice A n cap] 26)).alloc (.cells #[.int .i64 R, .int .i64 R, .slice A2 n2 cap2] 26)).alloc (.cells #[.int .i64 2, .int .i64 i, .int .i64 j, .int .i64 t] 66))) (w.heap.size + 1) R R A2 n2 cap2 := Ka
  have hX1 : Blk ((((w.alloc (.cells #[.int .i64 R, .int .i64 C, .slice A n cap] 26)).alloc (.cells #[.int .i64 R, .int .i64 R, .slice A2 n2 cap2] 26)).alloc (.cells #[.int .i64 2, .int .i64 i, .int .i64 j, .int .i64 t] 66))) (w.heap.size + 1 + 1) 66 #[.int .i64 2, .int .i64 i, .int .i64 j, .int .i64 t] := Blk.new_at _ _ _ _ (by simp)
  have hbw1 : Below B w ((((w.alloc (.cells #[.int .i64 R, .int .i64 C, .slice A n cap] 26)).alloc (.cells #[.int .i64 R, .int .i64 R, .slice A2 n2 cap2] 26)).alloc (.cells #[.int .i64 2, .int .i64 i, .int .i64 j, .int .i64 t] 66))) := by
    refine Below.mono (B := w.heap.size) ?_ HBs.out
    (repeat (first | (with_reducible (first | exact Below.refl _ _ | assumption | refine below_drewN ?_ _ | refine Below.drew ?_ | refine Below.alloc ?_ ?_ _ | refine Below.setCell ?_ ?_ _ | refine below_i ?_)) | go_size))
  generalize hw0 : ((((w.alloc (.cells #[.int .i64 R, .int .i64 C, .slice A n cap] 26)).alloc (.cells #[.int .i64 R, .int .i64 R, .slice A2 n2 cap2] 26)).alloc (.cells #[.int .i64 2, .int .i64 i, .int .i64 j, .int .i64 t] 66))) = w0 at hM1 hX1 hbw1
  have hbw0 : Below w.heap.size w w0 := by rw [← hw0]; (repeat (first | (with_reducible (first | exact Below.refl _ _ | assumption | refine below_drewN ?_ _ | refine Below.drew ?_ | refine Below.alloc ?_ ?_ _ | refine Below.setCell ?_ ?_ _ | refine below_i ?_)) | go_size))
  have ho1 : OR w0 B (.slice A n cap) (tb R C f) := by rw [← hw0]; (with_reducible (repeat (first | exact h1 | refine OR.drew ?_ | refine OR.drewN ?_ _ | refine OR.alloc ?_ _ | refine OR.b_ ?_ | refine OR.l_ ?_)))
  have ho2 : OR w0 B (.slice A2 n2 cap2) (tb R R g) := by rw [← hw0]; (with_reducible (repeat (first | exact h2 | refine OR.drew ?_ | refine OR.drewN ?_ _ | refine OR.alloc ?_ _ | refine OR.b_ ?_ | refine OR.l_ ?_)))
  have hs0 : B ≤ w0.heap.size := by rw [← hw0]; simp; have := HBs.out; omega
  refine (spec_l5Do_add R C i j t A n cap f _ (B := B) ho1 hi hj HIJ.out HT.out HF.out hC0 hC hR).mono ?_
  rintro e w1 ⟨rfl, ho1', hg1, hs1⟩
  have hM2 : BM w1 (w.heap.size + 1) R R A2 n2 cap2 := hM1.grown hg1 (fun e => by have := (HA.out _ e.symm).2; omega)
  have hX2 := hX1.grown hg1 (fun e => by have := (HA.out _ e.symm).2; omega)
  have ho2' : OR w1 B (.slice A2 n2 cap2) (tb R R g) := ho2.kept hg1 HAP.out.symm.ne
  have hbw2 : Below B w w1 := hbw1.trans (ho1.below_grown hg1 hs0)
  obtain ⟨ua, ub, uc, uf, ul⟩ := hM2.mx
  have x0 := hX2.cell 0
  have x1 := hX2.cell 1
  have x2 := hX2.cell 2
  have x3 := hX2.cell 3
  simp at x0 x1 x2 x3
  go_wp2_with fail
  refine (spec_l5Do_add R R i j t A2 n2 cap2 g _ (B := B) ho2' hi hj HIJ.out HT.out HG.out (by omega) (by omega) hR).mono ?_
  rintro e w2 ⟨rfl, ho2'', hg2, hs2⟩
  have ho1'' : OR w2 B (.slice A n cap) _ := ho1'.kept hg2 HAP.out.ne
  have hbw3 : Below B w w2 := hbw2.trans (ho2'.below_grown hg2 (by omega))
  go_wp2_with fail
  go_end0
  exact ⟨rfl, ho1'', ho2'', hbw3, fun k hk e1 e2 => (hg2.block k (by have := hg1.size; have := hbw0.size; omega) e2).trans ((hg1.block k (by have := hbw0.size; omega) e1).trans (hbw0.block k hk))⟩
set_option maxHeartbeats 1000000 in
theorem spec_l12Ops_swap (R C i j : Nat) (A : Option Addr) (n cap : Nat) (A2 : Option Addr) (n2 cap2 : Nat) (f g : Fn2) (w : World) {B : Nat} (h1 : OR w B (.slice A n cap) (tb R C f)) (h2 : OR w B (.slice A2 n2 cap2) (tb R R g)) (hap : Apart (.slice A n cap) (.slice A2 n2 cap2)) (hBs : B ≤ w.heap.size) (hi : i < R) (hj : j < R) (hij : i ≠ j) (hC0 : 0 < C) (hC : C ≤ 24) (hR : R ≤ 24) :
    Calls Try.prog 209 #[.agg #[.int .i64 R, .int .i64 C, .slice A n cap], .agg #[.int .i64 R, .int .i64 R, .slice A2 n2 cap2], .agg #[.int .i64 0, .int .i64 i, .int .i64 j, .int .i64 0]] w (WW2 (.slice A n cap) (.slice A2 n2 cap2) B (tb R C (swF f i j)) (tb R R (swF g i j)) w) := by
  have HIJ := Lib.hid hij
  clear hij
  obtain ⟨ha, hb⟩ : Own (.slice A n cap) B w.heap.size ∧ Own (.slice A2 n2 cap2) B w.heap.size := ⟨h1.own, h2.own⟩
  have HA := Lib.hid ha
  have HB := Lib.hid hb
  have HAP := Lib.hid hap
  have HBs := Lib.hid hBs
  clear ha hb
  go_enter Try.func209, Try.ntmps209
  go_wp2_with fail
  have hM1 : BM ((((w.alloc (.cells #[.int .i64 R, .int .i64 C, .slice A n cap] 26)).alloc (.cells #[.int .i64 R, .int .i64 R, .slice A2 n2 cap2] 26)).alloc (.cells #[.int .i64 0, .int .i64 i, .int .i64 j, .int .i64 0] 66))) (w.heap.size + 1) R R A2 n2 cap2 := Ka
  have hX1 : Blk ((((w.alloc (.cells #[.int .i64 R, .int .i64 C, .slice A n cap] 26)).alloc (.cells #[.int .i64 R, .int .i64 R, .slice A2 n2 cap2] 26)).alloc (.cells #[.int .i64 0, .int .i64 i, .int .i64 j, .int .i64 0] 66))) (w.heap.size + 1 + 1) 66 #[.int .i64 0, .int .i64 i, .int .i64 j, .int .i64 0] := Blk.new_at _ _ _ _ (by simp)
  have hbw1 : Below B w ((((w.alloc (.cells #[.int .i64 R, .int .i64 C, .slice A n cap] 26)).alloc (.cells #[.int .i64 R, .int .i64 R, .slice A2 n2 cap2] 26)).alloc (.cells #[.int .i64 0, .int .i64 i, .int .i64 j, .int .i64 0] 66))) := by
    refine Below.mono (B := w.heap.size) ?_ HBs.out
    (repeat (first | (with_reducible (first | exact Below.refl _ _ | assumption | refine below_drewN ?_ _ | refine Below.drew ?_ | refine Below.alloc ?_ ?_ _ | refine Below.setCell ?_ ?_ _ | refine below_i ?_)) | go_size))
  generalize hw0 : ((((w.alloc (.cells #[.int .i64 R, .int .i64 C, .slice A n cap] 26)).alloc (.cells #[.int .i64 R, .int .i64 R, .slice A2 n2 cap2] 26)).alloc (.cells #[.int .i64 0, .int .i64 i, .int .i64 j, .int .i64 0] 66))) = w0 at hM1 hX1 hbw1
  have hbw0 : Below w.heap.size w w0 := by rw [← hw0]; (repeat (first | (with_reducible (first | exact Below.refl _ _ | assumption | refine below_drewN ?_ _ | refine Below.drew ?_ | refine Below.alloc ?_ ?_ _ | refine Below.setCell ?_ ?_ _ | refine below_i ?_)) | go_size))
  have ho1 : OR w0 B (.slice A n cap) (tb R C f) := by rw [← hw0]; (with_reducible (repeat (first | exact h1 | refine OR.drew ?_ | refine OR.drewN ?_ _ | refine OR.alloc ?_ _ | refine OR.b_ ?_ | refine OR.l_ ?_)))
  have ho2 : OR w0 B (.slice A2 n2 cap2) (tb R R g) := by rw [← hw0]; (with_reducible (repeat (first | exact h2 | refine OR.drew ?_ | refine OR.drewN ?_ _ | refine OR.alloc ?_ _ | refine OR.b_ ?_ | refine OR.l_ ?_)))
  have hs0 : B ≤ w0.heap.size := by rw [← hw0]; simp; have := HBs.out; omega
  refine (spec_l5Do_swap R C i j 0 A n cap f _ (B := B) ho1 hi hj HIJ.out hC0 (by omega) hR).mono ?_
  rintro e w1 ⟨rfl, ho1', hg1, hs1⟩
  have hM2 : BM w1 (w.heap.size + 1) R R A2 n2 cap2 := hM1.grown hg1 (fun e => by have := (HA.out _ e.symm).2; omega)
  have hX2 := hX1.grown hg1 (fun e => by have := (HA.out _ e.symm).2; omega)
  have ho2' : OR w1 B (.slice A2 n2 cap2) (tb R R g) := ho2.kept hg1 HAP.out.symm.ne
  have hbw2 : Below B w w1 := hbw1.trans (ho1.below_grown hg1 hs0)
  obtain ⟨ua, ub, uc, uf, ul⟩ := hM2.mx
  have x0 := hX2.cell 0
  have x1 := hX2.cell 1
  have x2 := hX2.cell 2
  have x3 := hX2.cell 3
  simp at x0 x1 x2 x3
  go_wp2_with fail
  refine (spec_l5Do_swap R R i j 0 A2 n2 cap2 g _ (B := B) ho2' hi hj HIJ.out (by omega) (by omega) hR).mono ?_
  rintro e w2 ⟨rfl, ho2'', hg2, hs2⟩
  have ho1'' : OR w2 B (.slice A n cap) _ := ho1'.kept hg2 HAP.out.ne
  have hbw3 : Below B w w2 := hbw2.trans (ho2'.below_grown hg2 (by omega))
  go_wp2_with fail
  go_end0
  exact ⟨rfl, ho1'', ho2'', hbw3, fun k hk e1 e2 => (hg2.block k (by have := hg1.size; have := hbw0.size; omega) e2).trans ((hg1.block k (by have := hbw0.size; omega) e1).trans (hbw0.block k hk))⟩
set_option maxHeartbeats 1000000 in
theorem spec_l12Ops_neg (R C i : Nat) (A : Option Addr) (n cap : Nat) (A2 : Option Addr) (n2 cap2 : Nat) (f g : Fn2) (w : World) {B : Nat} (h1 : OR w B (.slice A n cap) (tb R C f)) (h2 : OR w B (.slice A2 n2 cap2) (tb R R g)) (hap : Apart (.slice A n cap) (.slice A2 n2 cap2)) (hBs : B ≤ w.heap.size) (hi : i < R) (hf : OKF R C f) (hg : OKF R R g) (hC0 : 0 < C) (hC : C ≤ 24) (hR : R ≤ 24) :
    Calls Try.prog 209 #[.agg #[.int .i64 R, .int .i64 C, .slice A n cap], .agg #[.int .i64 R, .int .i64 R, .slice A2 n2 cap2], .agg #[.int .i64 1, .int .i64 i, .int .i64 i, .int .i64 0]] w (WW2 (.slice A n cap) (.slice A2 n2 cap2) B (tb R C (opM f i)) (tb R R (opM g i)) w) := by
  have HF := Lib.hid hf
  have HG := Lib.hid hg
  rw [← opM_eq hf i hi, ← opM_eq hg i hi]
  clear hf hg
  obtain ⟨ha, hb⟩ : Own (.slice A n cap) B w.heap.size ∧ Own (.slice A2 n2 cap2) B w.heap.size := ⟨h1.own, h2.own⟩
  have HA := Lib.hid ha
  have HB := Lib.hid hb
  have HAP := Lib.hid hap
  have HBs := Lib.hid hBs
  clear ha hb
  go_enter Try.func209, Try.ntmps209
  go_wp2_with fail
  have hM1 : BM ((((w.alloc (.cells #[.int .i64 R, .int .i64 C, .slice A n cap] 26)).alloc (.cells #[.int .i64 R, .int .i64 R, .slice A2 n2 cap2] 26)).alloc (.cells #[.int .i64 1, .int .i64 i, .int .i64 i, .int .i64 0] 66))) (w.heap.size + 1) R R A2 n2 cap2 := Ka
  have hX1 : Blk ((((w.alloc (.cells #[.int .i64 R, .int .i64 C, .slice A n cap] 26)).alloc (.cells #[.int .i64 R, .int .i64 R, .slice A2 n2 cap2] 26)).alloc (.cells #[.int .i64 1, .int .i64 i, .int .i64 i, .int .i64 0] 66))) (w.heap.size + 1 + 1) 66 #[.int .i64 1, .int .i64 i, .int .i64 i, .int .i64 0] := Blk.new_at _ _ _ _ (by simp)
  have hbw1 : Below B w ((((w.alloc (.cells #[.int .i64 R, .int .i64 C, .slice A n cap] 26)).alloc (.cells #[.int .i64 R, .int .i64 R, .slice A2 n2 cap2] 26)).alloc (.cells #[.int .i64 1, .int .i64 i, .int .i64 i, .int .i64 0] 66))) := by
    refine Below.mono (B := w.heap.size) ?_ HBs.out
    (repeat (first | (with_reducible (first | exact Below.refl _ _ | assumption | refine below_drewN ?_ _ | refine Below.drew ?_ | refine Below.alloc ?_ ?_ _ | refine Below.setCell ?_ ?_ _ | refine below_i ?_)) | go_size))
  generalize hw0 : ((((w.alloc (.cells #[.int .i64 R, .int .i64 C, .slice A n cap] 26)).alloc (.cells #[.int .i64 R, .int .i64 R, .slice A2 n2 cap2] 26)).alloc (.cells #[.int .i64 1, .int .i64 i, .int .i64 i, .int .i64 0] 66))) = w0 at hM1 hX1 hbw1
  have hbw0 : Below w.heap.size w w0 := by rw [← hw0]; (repeat (first | (with_reducible (first | exact Below.refl _ _ | assumption | refine below_drewN ?_ _ | refine Below.drew ?_ | refine Below.alloc ?_ ?_ _ | refine Below.setCell ?_ ?_ _ | refine below_i ?_)) | go_size))
  have ho1 : OR w0 B (.slice A n cap) (tb R C f) := by rw [← hw0]; (with_reducible (repeat (first | exact h1 | refine OR.drew ?_ | refine OR.drewN ?_ _ | refine OR.alloc ?_ _ | refine OR.b_ ?_ | refine OR.l_ ?_)))
  have ho2 : OR w0 B (.slice A2 n2 cap2) (tb R R g) := by rw [← hw0]; (with_reducible (repeat (first | exact h2 | refine OR.drew ?_ | refine OR.drewN ?_ _ | refine OR.alloc ?_ _ | refine OR.b_ ?_ | refine OR.l_ ?_)))
  have hs0 : B ≤ w0.heap.size := by rw [← hw0]; simp; have := HBs.out; omega
  refine (spec_l5Do_neg R C i 0 A n cap f _ (B := B) ho1 hi (fun k hk => HF.out i k hi hk) hC0 hC hR).mono ?_
  rintro e w1 ⟨rfl, ho1', hg1, hs1⟩
  have hM2 : BM w1 (w.heap.size + 1) R R A2 n2 cap2 := hM1.grown hg1 (fun e => by have := (HA.out _ e.symm).2; omega)
  have hX2 := hX1.grown hg1 (fun e => by have := (HA.out _ e.symm).2; omega)
  have ho2' : OR w1 B (.slice A2 n2 cap2) (tb R R g) := ho2.kept hg1 HAP.out.symm.ne
  have hbw2 : Below B w w1 := hbw1.trans (ho1.below_grown hg1 hs0)
  obtain ⟨ua, ub, uc, uf, ul⟩ := hM2.mx
  have x0 := hX2.cell 0
  have x1 := hX2.cell 1
  have x2 := hX2.cell 2
  have x3 := hX2.cell 3
  simp at x0 x1 x2 x3
  go_wp2_with fail
  refine (spec_l5Do_neg R R i 0 A2 n2 cap2 g _ (B := B) ho2' hi (fun k hk => HG.out i k hi hk) (by omega) (by omega) hR).mono ?_
  rintro e w2 ⟨rfl, ho2'', hg2, hs2⟩
  have ho1'' : OR w2 B (.slice A n cap) _ := ho1'.kept hg2 HAP.out.ne
  have hbw3 : Below B w w2 := hbw2.trans (ho2'.below_grown hg2 (by omega))
  go_wp2_with fail
  go_end0
  exact ⟨rfl, ho1'', ho2'', hbw3, fun k hk e1 e2 => (hg2.block k (by have := hg1.size; have := hbw0.size; omega) e2).trans ((hg1.block k (by have := hbw0.size; omega) e1).trans (hbw0.block k hk))⟩
end Go.Proofs.Ytacjonkehcamgaa

/-
  DERIVED. How long the results of EchelonOf are: no program in sight.
-/
namespace Go.Proofs.Ytacjonkehcamgaa
open Go.RowKit
set_option linter.unusedVariables false
theorem colsQ_len {R C : Nat} : ∀ (n j : Nat) (s s' : QSt), colsQ R C n j s = some s' → s'.ps.length ≤ s.ps.length + n
  | 0, j, s, s', h => by
    unfold colsQ at h
    injection h with h
    subst h; omega
  | n + 1, j, s, s', h => by
    unfold colsQ at h
    split at h
    · have := colsQ_len n (j + 1) s s' h; omega
    · split at h
      · cases h
      · have := colsQ_len n (j + 1) _ s' h
        simp at this
        omega
theorem colsQ_le {R C : Nat} : ∀ (n j : Nat) (s s' : QSt), s.ps.length ≤ R → colsQ R C n j s = some s' → s'.ps.length ≤ R
  | 0, j, s, s', hs, h => by
    unfold colsQ at h
    injection h with h
    subst h; exact hs
  | n + 1, j, s, s', hs, h => by
    unfold colsQ at h
    split at h
    · exact colsQ_le n (j + 1) s s' hs h
    · rename_i hk
      split at h
      · cases h
      · refine colsQ_le n (j + 1) _ s' ?_ h
        have := fnd_le s.f j (R - s.ps.length) s.ps.length
        simp
        omega
theorem eoX_len (r c : Int) (xs : List Int) : (mxQ r c (eoX r c xs)).xs.length ≤ 1048576 ∧ (psQ (eoX r c xs)).length ≤ 1048576 := by
  unfold eoX
  by_cases hm : isMat r c xs = true
  · rw [if_pos hm]
    have M := isMat_iff.1 hm
    have h1 := M.r0; have h2 := M.r1; have h3 := M.c0; have h4 := M.c1
    obtain ⟨R, rfl⟩ := nat_of h1
    obtain ⟨C, rfl⟩ := nat_of h3
    simp only [Int.toNat_natCast]
    have h5 : R * C ≤ 24 * 24 := Nat.mul_le_mul (by omega) (by omega)
    cases hx : echQ R C (fun i j : Nat => cel xs C i j) with
    | none => exact ⟨Nat.zero_le _, Nat.zero_le _⟩
    | some s =>
      have h6 := colsQ_len _ _ _ _ hx
      simp at h6
      refine ⟨?_, ?_⟩
      · show (tb (R : Int).toNat (C : Int).toNat s.f).length ≤ 1048576
        rw [tb_len]
        simp only [Int.toNat_natCast]
        omega
      · show s.ps.length ≤ 1048576
        omega
  · rw [if_neg hm]; exact ⟨Nat.zero_le _, Nat.zero_le _⟩
end Go.Proofs.Ytacjonkehcamgaa

/-
  DERIVED. What EchelonOf answers, said of matrices as lists: again, mixed, turned over, two beside each other. No program in sight.
-/
namespace Go.Proofs.Ytacjonkehcamgaa
set_option linter.unusedVariables false
structure EOF_ (R C : Nat) (xs : List Int) (s : QSt) : Prop where
  m : isMat R C xs = true
  ef : EF R C s.ps.length (pf s.ps) s.f
  ok : QOk R C s.f
  sp : QSP R R C (fun i j => cel xs C i j) s.f
  nn : ∀ x ∈ s.ps, 0 ≤ x
  R24 : R ≤ 24
  C24 : C ≤ 24
theorem eo_ef {R C : Nat} {xs : List Int} {s : QSt} (h : eoX R C xs = some s) : EOF_ R C xs s := by
  unfold eoX at h
  split at h
  · rename_i hm
    have M := isMat_iff.1 hm
    have h1 := M.r1; have h2 := M.c1
    simp only [Int.toNat_natCast] at h
    obtain ⟨a1, a2, a3, a4⟩ := echQ_ef (fun i c _ _ => by
      rw [cel_nat]
      exact M.nums (i * C + c)) h
    exact ⟨hm, a1, a2, a3, a4, by omega, by omega⟩
  · cases h
theorem eo_of {R C : Nat} {f : Fn2} {s : QSt} (hm : isMat R C (tb R C f) = true) (h : echQ R C (fun i j => cel (tb R C f) C i j) = some s) : eoX R C (tb R C f) = some s := by
  unfold eoX
  rw [if_pos hm]
  simpa only [Int.toNat_natCast] using h
theorem eo_again {R C : Nat} {xs : List Int} {s : QSt} (h : eoX R C xs = some s) : ∃ s', eoX R C (tb R C s.f) = some s' ∧ s'.ps = s.ps ∧ tb R C s'.f = tb R C s.f := by
  have E := eo_ef h
  obtain ⟨s', h1, h2, h3⟩ := echQ_again (g := fun i j => cel (tb R C s.f) C i j) E.ef E.ok E.nn (fun i j hi hj => cel_tb hi hj)
  exact ⟨s', eo_of (E.ok.mat E.R24 E.C24) h1, h2, tb_ext fun i j hi hj => h3 i j hi hj⟩
theorem eo_ech {R C : Nat} {xs : List Int} {s : QSt} (h : eoX R C xs = some s) : echB R C (tb R C s.f) = true := by
  have E := eo_ef h
  exact E.ef.echelon E.ok E.R24 E.C24
theorem QSP.of {R C : Nat} {f g : Fn2} (h : SPN R C f g) : QSP R R C f g := by
  refine ⟨fun i hi => ?_, fun i hi => ?_⟩
  · obtain ⟨c, hc⟩ := h.2 i hi
    exact ⟨1, c, by decide, fun y hy => by rw [Int.one_mul]; exact hc y hy⟩
  · obtain ⟨c, hc⟩ := h.1 i hi
    exact ⟨1, c, by decide, fun y hy => by rw [Int.one_mul]; exact hc y hy⟩
theorem QSP.congr {R S C : Nat} {f g g' : Fn2} (h : QSP R S C f g) (e : EqM S C g' g) : QSP R S C f g' := by
  refine ⟨fun i hi => (h.1 i hi).trans fun k hk => ?_, fun i hi => (h.2 i hi).as (d := 1) (by decide) fun y hy => by rw [Int.one_mul]; exact e i y hi hy⟩
  exact (QS.row (f := g') hk).as (d := 1) (by decide) fun y hy => by rw [Int.one_mul]; exact (e k y hk hy).symm
/-- Of two matrices whose rows span one space the forms are equal. -/
theorem eo_same {R C : Nat} {xs ys : List Int} {s s2 : QSt} (h : eoX R C xs = some s) (h2 : eoX R C ys = some s2) (k : QSP R R C (fun i j => cel xs C i j) (fun i j => cel ys C i j)) : s2.ps = s.ps ∧ tb R C s2.f = tb R C s.f := by
  have E := eo_ef h
  have E2 := eo_ef h2
  obtain ⟨h3, h4⟩ := ech_uniq E2.ef E2.ok E2.nn E.ef E.ok E.nn ((E2.sp.symm.trans k.symm).trans E.sp)
  refine ⟨h3, tb_ext fun i j hi hj => ?_⟩
  rcases Nat.lt_or_ge i s2.ps.length with h5 | h5
  · exact h4 i j h5 hj
  · rw [E2.ef.zero i j h5 hi hj, E.ef.zero i j (by rw [← h3]; exact h5) hi hj]
theorem mul_fn {R n C : Nat} {f : Fn2} {xs : List Int} {i j : Nat} (hi : i < R) (hj : j < C) : cel (mulL (tb R n f) R n xs C) C i j = mm n f (fun i j => cel xs C i j) i j := by
  rw [cel_nat, mulL_at hi hj]
  unfold prodAt mm
  exact sumTo_congr n fun k hk => by rw [cel_tb hi hk]
theorem eo_mix {R C : Nat} {mf : Fn2} {xs : List Int} {s s2 : QSt} (hs : SPN R R idF mf) (h : eoX R C xs = some s) (h2 : eoX R C (mulL (tb R R mf) R R xs C) = some s2) : s2.ps = s.ps ∧ tb R C s2.f = tb R C s.f :=
  eo_same h h2 ((QSP.of (SPN.left (C := C) (m := fun i j => cel xs C i j) hs)).congr fun i j hi hj => mul_fn hi hj)
/-- The number of rows that are wanted to span what the matrix spans. -/
theorem eo_rk {R C : Nat} {xs : List Int} {s : QSt} (h : eoX R C xs = some s) : RKs R C s.ps.length (fun i j => cel xs C i j) ∧ ∀ n, RKs R C n (fun i j => cel xs C i j) → s.ps.length ≤ n := by
  have E := eo_ef h
  exact ⟨E.ef.rk.span E.sp.1, fun n hn => E.ef.rk_le (hn.span E.sp.2)⟩
theorem RKs.congr {R C n : Nat} {f g : Fn2} (h : RKs R C n f) (e : EqM R C g f) : RKs R C n g := by
  obtain ⟨u, hu⟩ := h
  exact ⟨u, fun i hi => (hu i hi).as (d := 1) (by decide) fun y hy => by rw [Int.one_mul]; exact e i y hi hy⟩
theorem eo_turn {R C : Nat} {xs : List Int} {s s3 : QSt} (h : eoX R C xs = some s) (h3 : eoX C R (tb C R (fun a b => cel xs C b a)) = some s3) : s3.ps.length = s.ps.length := by
  obtain ⟨a1, a2⟩ := eo_rk h
  obtain ⟨b1, b2⟩ := eo_rk h3
  refine Nat.le_antisymm (b2 _ (a1.turn.congr fun i j hi hj => cel_tb hi hj)) (a2 _ ?_)
  have b3 := b1.congr (g := fun a b => cel xs C b a) fun i j hi hj => (cel_tb (f := fun a b : Nat => cel xs C b a) hi hj).symm
  exact b3.turn
end Go.Proofs.Ytacjonkehcamgaa

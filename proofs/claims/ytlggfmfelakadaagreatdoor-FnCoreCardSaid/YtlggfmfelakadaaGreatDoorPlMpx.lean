/-
  DERIVED. Elimination modulo a prime: the rows are combinations, the pivots stand alone, the determinant is the image; the rank is no greater than over the whole numbers. No program in sight.
-/
import Derived.Test.YtlggfmfelakadaaGreatDoorc8
import Derived.Test.YtlggfmfelakadaaGreatDoorc5
namespace Go.Proofs.YtlggfmfelakadaaGreatDoor
set_option linter.unusedVariables false
/-- v is, modulo p, a combination of rows. -/
def PS (p : Int) (R C : Nat) (f : Fn2) (v : Nat → Int) : Prop := ∃ c : Nat → Int, ∀ y, y < C → p ∣ v y - sumTo (fun k => c k * f k y) R
section
variable {p : Int} {R C : Nat} {f g m : Fn2} {u v z : Nat → Int}
theorem PS.row {i : Nat} (hi : i < R) : PS p R C f (f i) := by
  obtain ⟨c, hc⟩ := Sp.row (C := C) (f := f) hi
  exact ⟨c, fun y hy => by rw [hc y hy, Int.sub_self]; exact Int.dvd_zero _⟩
theorem PS.lin (h : PS p R C f u) (h2 : PS p R C f v) {a b : Int} (e : ∀ y, y < C → p ∣ z y - (a * u y + b * v y)) : PS p R C f z := by
  obtain ⟨c, hc⟩ := h
  obtain ⟨d, hd⟩ := h2
  refine ⟨fun k => a * c k + b * d k, fun y hy => ?_⟩
  have e1 : sumTo (fun k => (a * c k + b * d k) * f k y) R = a * sumTo (fun k => c k * f k y) R + b * sumTo (fun k => d k * f k y) R := by
    rw [← sumTo_mul', ← sumTo_mul', ← sumTo_add]
    exact sumTo_congr R fun k _ => by grind
  rw [e1]
  have h1 := e y hy
  have h3 := hc y hy
  have h4 := hd y hy
  generalize sumTo (fun k => c k * f k y) R = S at *
  generalize sumTo (fun k => d k * f k y) R = T at *
  have e2 : z y - (a * S + b * T) = (z y - (a * u y + b * v y)) + (u y - S) * a + (v y - T) * b := by grind
  rw [e2]
  exact Int.dvd_add (Int.dvd_add h1 (Int.dvd_trans h3 ⟨_, rfl⟩)) (Int.dvd_trans h4 ⟨_, rfl⟩)
end
/-- Congruent matrices have congruent determinants. -/
theorem Dt_mod {p : Int} : ∀ (n : Nat) {f g : Fn2}, (∀ i j, i < n → j < n → p ∣ f i j - g i j) → p ∣ Dt n f - Dt n g
  | 0, f, g, _ => by show p ∣ (1 : Int) - 1; exact Int.dvd_zero _
  | n + 1, f, g, h => by
    rw [Dt_succ, Dt_succ]
    refine dvd_sumTo_sub (n + 1) fun j hj => ?_
    have h1 := Dt_mod n (f := mnr f j) (g := mnr g j) fun a b ha hb => h (a + 1) (sk j b) (by omega) (sk_lt hb)
    have h2 := h 0 j (by omega) hj
    have e : sg j * f 0 j * Dt n (mnr f j) - sg j * g 0 j * Dt n (mnr g j) = (f 0 j - g 0 j) * (sg j * Dt n (mnr f j)) + (Dt n (mnr f j) - Dt n (mnr g j)) * (sg j * g 0 j) := by grind
    rw [e]
    exact Int.dvd_add (Int.dvd_trans h2 ⟨_, rfl⟩) (Int.dvd_trans h1 ⟨_, rfl⟩)
/-- What holds in the elimination modulo p, columns before j done. -/
structure MP (R C : Nat) (p : Int) (m : Fn2) (j : Nat) (pv : Nat → Nat) (s : ESt) : Prop where
  ok : EOk R p s
  row : ∀ i, i < R → PS p R C m (s.f i)
  lt : ∀ k, k < s.t → pv k < j
  mono : ∀ i k, i < k → k < s.t → pv i < pv k
  one : ∀ k, k < s.t → s.f k (pv k) = 1
  oth : ∀ k i, k < s.t → i < R → i ≠ k → s.f i (pv k) = 0
  zero : ∀ i y, s.t ≤ i → i < R → y < j → s.f i y = 0
  det : C = R → p ∣ Dt R m - s.d * Dt R s.f
theorem emod_low {a p : Int} (h0 : 0 ≤ a) (h1 : a < p) : a % p = a := Int.emod_eq_of_lt h0 h1
theorem MP.step {R C : Nat} {p : Int} {m : Fn2} {j : Nat} {pv : Nat → Nat} {s : ESt} (hp : isPr p = true) (H : MP R C p m j pv s) (hj : j < C) : ∃ pv', MP R C p m (j + 1) pv' (colE R p s j) := by
  have hp2 := isPr_bds hp
  have hok := colE_ok hp2.1 H.ok j
  obtain ⟨f, t, d⟩ := s
  have hkl := fnd_le f j (R - t) t
  by_cases hk : fnd f j (R - t) t < R
  · have hne := fnd_ne f j (R - t) t (by omega)
    have hv : colE R p ⟨f, t, d⟩ j = ⟨elF (scF (swF f (fnd f j (R - t) t) t) t (invOf (swF f (fnd f j (R - t) t) t t j) p) p) t j p, t + 1, (if fnd f j (R - t) t = t then d else (-d) % p) * swF f (fnd f j (R - t) t) t t j % p⟩ := by
      unfold colE
      simp only
      rw [if_neg (by omega)]
    rw [hv] at hok ⊢
    generalize fnd f j (R - t) t = k at *
    have hf := H.ok.f0
    dsimp only at hf
    have hp1 : swF f k t t j = f k j := swF_t f k t j
    rw [hp1] at hok ⊢
    have hb := hf k j
    have hinv := invOf_spec (a := f k j) (m := p) (by omega) (by omega) (pr_gcd hp (by omega) hb.2)
    generalize invOf (f k j) p = x at *
    have htR : t < R := by omega
    have hrow := H.row
    have hlt := H.lt
    have hmono := H.mono
    have hone := H.one
    have hoth := H.oth
    have hzero := H.zero
    have hdet := H.det
    dsimp only at hrow hlt hmono hone hoth hzero hdet
    -- the rows of the matrix with rows k and t exchanged
    have w1 : ∀ i, i < t → swF f k t i = f i := fun i hi => by funext y; unfold swF; rw [if_neg (by omega), if_neg (by omega)]
    have w2 : ∀ i, t ≤ i → i < R → ∃ i', t ≤ i' ∧ i' < R ∧ swF f k t i = f i' := fun i ha hb => by
      refine ⟨if i = k then t else if i = t then k else i, ?_, ?_, rfl⟩ <;> grind
    have wb : ∀ i c, 0 ≤ swF f k t i c ∧ swF f k t i c < p := fun i c => hf _ _
    have wrow : ∀ i, i < R → PS p R C m (swF f k t i) := fun i hi => by
      rcases Nat.lt_or_ge i t with h | h
      · rw [w1 i h]; exact hrow i hi
      · obtain ⟨i', a, b, e⟩ := w2 i h hi
        rw [e]; exact hrow i' b
    have wone : ∀ q, q < t → swF f k t q (pv q) = 1 := fun q hq => by rw [w1 q hq]; exact hone q hq
    have woth : ∀ q i, q < t → i < R → i ≠ q → swF f k t i (pv q) = 0 := fun q i hq hi hne => by
      rcases Nat.lt_or_ge i t with h | h
      · rw [w1 i h]; exact hoth q i hq hi hne
      · obtain ⟨i', a, b, e⟩ := w2 i h hi
        rw [e]; exact hoth q i' hq b (by omega)
    have wzero : ∀ i y, t ≤ i → i < R → y < j → swF f k t i y = 0 := fun i y ha hb hy => by
      obtain ⟨i', a, b, e⟩ := w2 i ha hb
      rw [e]; exact hzero i' y a b hy
    have wdet : C = R → p ∣ Dt R m - (if k = t then d else (-d) % p) * Dt R (swF f k t) := fun hC => by
      by_cases e : k = t
      · subst e
        rw [if_pos rfl, swF_same]; exact hdet hC
      · rw [if_neg e, (Dt_alt R).swap (show k < R by omega) htR e]
        have h1 := hdet hC
        have h2 := dvd_emod (-d) p
        generalize (-d) % p = d1 at *
        have e2 : Dt R m - d1 * -Dt R f = (Dt R m - d * Dt R f) + (d1 - -d) * Dt R f := by grind
        rw [e2]
        exact Int.dvd_add h1 (Int.dvd_trans h2 ⟨_, rfl⟩)
    generalize hF : swF f k t = F at *
    generalize (if k = t then d else (-d) % p) = d1 at *
    have hpt : F t j = f k j := hp1
    rw [← hpt] at hinv hb hok ⊢
    -- row t times x
    have s0 : ∀ c, scF F t x p t c = F t c * x % p := fun c => by unfold scF; rw [if_pos rfl]
    have s1 : ∀ i c, i ≠ t → scF F t x p i c = F i c := fun i c h => by unfold scF; rw [if_neg h]
    have s1' : ∀ i, i ≠ t → scF F t x p i = F i := fun i h => by funext c; exact s1 i c h
    have sb : ∀ i c, 0 ≤ scF F t x p i c ∧ scF F t x p i c < p := fun i c => by
      by_cases h : i = t
      · subst h; rw [s0]; exact emod_bds _ _ (by omega)
      · rw [s1 i c h]; exact wb i c
    have sone : scF F t x p t j = 1 := by
      rw [s0]
      obtain ⟨q, hq⟩ := hinv
      have : F t j * x = 1 + p * q := by omega
      rw [this, Int.add_mul_emod_self_left]
      exact Int.emod_eq_of_lt (by omega) (by omega)
    have sz : ∀ c, F t c = 0 → scF F t x p t c = 0 := fun c h => by rw [s0, h, Int.zero_mul]; exact Int.zero_emod _
    have srow : ∀ i, i < R → PS p R C m (scF F t x p i) := fun i hi => by
      by_cases h : i = t
      · subst h
        exact (wrow i hi).lin (wrow i hi) (a := x) (b := 0) fun y hy => by
          rw [s0, Int.zero_mul, Int.add_zero, Int.mul_comm x]; exact dvd_emod _ _
      · rw [s1' i h]; exact wrow i hi
    have sdet : C = R → p ∣ Dt R m - d1 * F t j % p * Dt R (scF F t x p) := fun hC => by
      have h1 := wdet hC
      have h2 : p ∣ Dt R (scF F t x p) - Dt R F * x := by
        rw [← (Dt_alt R).scale (t := x) (f := F) (g := fun a b => if a = t then F t b * x else F a b) htR (fun y _ => by simp) (fun a b _ _ hne => by simp [hne])]
        refine Dt_mod R fun a b ha hb => ?_
        by_cases h : a = t
        · subst h
          rw [s0]; simp only [if_pos]
          exact dvd_emod _ _
        · rw [s1 a b h]; simp only [if_neg h, Int.sub_self]; exact Int.dvd_zero _
      have h3 := dvd_emod (d1 * F t j) p
      generalize d1 * F t j % p = d2 at *
      generalize Dt R (scF F t x p) = D2 at *
      generalize Dt R F = D1 at *
      obtain ⟨q1, hq1⟩ := h1
      obtain ⟨q2, hq2⟩ := h2
      obtain ⟨q3, hq3⟩ := h3
      obtain ⟨q4, hq4⟩ := hinv
      refine ⟨q1 - d1 * D1 * q4 - D1 * x * q3 - d2 * q2, ?_⟩
      have e1 : D2 = D1 * x + p * q2 := by omega
      have e2 : d2 = d1 * F t j + p * q3 := by omega
      have e3 : F t j * x = 1 + p * q4 := by omega
      have e4 : Dt R m = d1 * D1 + p * q1 := by omega
      rw [e4, e1]
      have e5 : d2 * (D1 * x + p * q2) = d2 * x * D1 + d2 * (p * q2) := by grind
      have e6 : d2 * x = d1 * (F t j * x) + p * q3 * x := by rw [e2]; grind
      rw [e5, e6, e3]
      grind
    -- the other rows less row t
    have E0 : ∀ c, elF (scF F t x p) t j p t c = scF F t x p t c := fun c => by unfold elF; rw [if_neg (fun h => h rfl)]
    have E0' : elF (scF F t x p) t j p t = scF F t x p t := by funext c; exact E0 c
    have E1 : ∀ i c, i ≠ t → elF (scF F t x p) t j p i c = (F i c - F i j * scF F t x p t c) % p := fun i c h => by
      unfold elF elAt; rw [if_pos h, s1 i c h, s1 i j h]
    have Ez : ∀ i c, i ≠ t → scF F t x p t c = 0 → elF (scF F t x p) t j p i c = F i c := fun i c h h0 => by
      rw [E1 i c h, h0, Int.mul_zero, Int.sub_zero]; exact emod_low (wb i c).1 (wb i c).2
    have Ej : ∀ i, i ≠ t → elF (scF F t x p) t j p i j = 0 := fun i h => by
      rw [E1 i j h, sone, Int.mul_one, Int.sub_self]; exact Int.zero_emod _
    refine ⟨fun q => if q = t then j else pv q, hok, fun i hi => ?_, fun q hq => ?_, fun i q hiq hq => ?_, fun q hq => ?_, fun q i hq hi hne => ?_, fun i y h1 h2 h3 => ?_, fun hC => ?_⟩
    · by_cases h : i = t
      · show PS p R C m (elF _ t j p i)
        rw [h, E0']; exact srow t htR
      · exact (srow i hi).lin (srow t htR) (a := 1) (b := -F i j) fun y hy => by
          show p ∣ elF _ t j p i y - _
          rw [E1 i y h, s1 i y h]
          have := dvd_emod (F i y - F i j * scF F t x p t y) p
          have e : (1 : Int) * F i y + -F i j * scF F t x p t y = F i y - F i j * scF F t x p t y := by grind
          rw [e]; exact this
    · show (if q = t then j else pv q) < j + 1
      have hq' : q < t + 1 := hq
      split
      · omega
      · have := hlt q (by omega); omega
    · have hq' : q < t + 1 := hq
      show (if i = t then j else pv i) < (if q = t then j else pv q)
      rw [if_neg (by omega)]
      split
      · exact hlt i (by omega)
      · exact hmono i q hiq (by omega)
    · have hq' : q < t + 1 := hq
      show elF _ t j p q (if q = t then j else pv q) = 1
      by_cases h : q = t
      · subst h; rw [if_pos rfl, E0]; exact sone
      · rw [if_neg h, Ez q _ h (sz _ (woth q t (by omega) htR (fun e => h e.symm)))]
        exact wone q (by omega)
    · have hq' : q < t + 1 := hq
      show elF _ t j p i (if q = t then j else pv q) = 0
      by_cases h : q = t
      · subst h; rw [if_pos rfl]; exact Ej i hne
      · rw [if_neg h]
        have hz := sz _ (woth q t (by omega) htR (fun e => h e.symm))
        by_cases hit : i = t
        · subst hit; rw [E0]; exact hz
        · rw [Ez i _ hit hz]; exact woth q i (by omega) hi hne
    · have h1' : t + 1 ≤ i := h1
      show elF _ t j p i y = 0
      by_cases hy : y = j
      · subst hy; exact Ej i (by omega)
      · rw [Ez i y (by omega) (sz _ (wzero t y (Nat.le_refl _) htR (by omega)))]
        exact wzero i y (by omega) h2 (by omega)
    · show p ∣ Dt R m - d1 * F t j % p * Dt R (elF (scF F t x p) t j p)
      have h1 := sdet hC
      have h2 : p ∣ Dt R (elF (scF F t x p) t j p) - Dt R (scF F t x p) := by
        -- row by row
        have hst : ∀ n, n ≤ R → Dt R (fun a b => if a < n ∧ a ≠ t then F a b - F a j * scF F t x p t b else scF F t x p a b) = Dt R (scF F t x p) := fun n => by
          induction n with
          | zero => intro _; exact Dt_congr R fun a b _ _ => by rw [if_neg (by omega)]
          | succ n ih =>
            intro hn
            rw [← ih (by omega)]
            by_cases hnt : n = t
            · refine Dt_congr R fun a b _ _ => ?_
              by_cases h : a < n ∧ a ≠ t
              · rw [if_pos h, if_pos ⟨by omega, h.2⟩]
              · rw [if_neg h, if_neg (by omega)]
            · refine (Dt_alt R).add (i := n) (j := t) (t := -F n j) (by omega) htR hnt (fun y _ => ?_) (fun a b _ _ hne => ?_)
              · rw [if_pos ⟨by omega, hnt⟩, if_neg (by omega), if_neg (by omega), s1 n y hnt]
                grind
              · by_cases h : a < n ∧ a ≠ t
                · rw [if_pos h, if_pos ⟨by omega, h.2⟩]
                · rw [if_neg h, if_neg (by omega)]
        rw [← hst R (Nat.le_refl _)]
        refine Dt_mod R fun a b ha hb => ?_
        by_cases h : a = t
        · subst h; rw [E0, if_neg (by omega), Int.sub_self]; exact Int.dvd_zero _
        · rw [E1 a b h, if_pos ⟨ha, h⟩]; exact dvd_emod _ _
      generalize d1 * F t j % p = d2 at *
      generalize Dt R (elF (scF F t x p) t j p) = D3 at *
      generalize Dt R (scF F t x p) = D2 at *
      have e : Dt R m - d2 * D3 = (Dt R m - d2 * D2) - (D3 - D2) * d2 := by grind
      rw [e]
      exact Int.dvd_sub h1 (Int.dvd_trans h2 ⟨_, rfl⟩)
  · have hE : colE R p ⟨f, t, d⟩ j = ⟨f, t, d⟩ := colE_skip (s := ⟨f, t, d⟩) hk
    rw [hE]
    refine ⟨pv, H.ok, H.row, fun k hk => by have := H.lt k hk; omega, H.mono, H.one, H.oth, fun i y h1 h2 h3 => ?_, H.det⟩
    by_cases hy : y = j
    · subst hy
      have h1' : t ≤ i := h1
      have hz : ∀ n k i, k ≤ i → i < fnd f y n k → f i y = 0 := fun n => by
        induction n with
        | zero => intro k i h1 h2; unfold fnd at h2; omega
        | succ n ih =>
          intro k i h1 h2
          unfold fnd at h2
          split at h2
          · rename_i h0
            by_cases e : i = k
            · rw [e]; exact h0
            · exact ih (k + 1) i (by omega) h2
          · omega
      exact hz (R - t) t i h1' (by omega)
    · exact H.zero i y h1 h2 (by omega)
theorem MP.run {R C : Nat} {p : Int} {m : Fn2} (hp : isPr p = true) : ∀ (n j : Nat) (pv : Nat → Nat) (s : ESt), j + n = C → MP R C p m j pv s → ∃ pv', MP R C p m C pv' (colsE R p n j s)
  | 0, j, pv, s, hj, H => by
    obtain rfl : j = C := by omega
    exact ⟨pv, H⟩
  | n + 1, j, pv, s, hj, H => by
    obtain ⟨pv', H'⟩ := H.step hp (by omega)
    exact MP.run hp n (j + 1) pv' _ (by omega) H'
theorem MP.start {R C : Nat} {p : Int} {m : Fn2} (hp : 2 ≤ p) (hm : ∀ i c, 0 ≤ m i c ∧ m i c < p) : MP R C p m 0 id ⟨m, 0, 1⟩ :=
  ⟨⟨hm, Nat.zero_le _, by dsimp only; omega⟩, fun i hi => PS.row hi, fun k hk => absurd hk (Nat.not_lt_zero _), fun i k _ hk => absurd hk (Nat.not_lt_zero _), fun k hk => absurd hk (Nat.not_lt_zero _), fun k i hk => absurd hk (Nat.not_lt_zero _), fun i y _ _ hy => absurd hy (Nat.not_lt_zero _), fun _ => by
    show p ∣ Dt R m - 1 * Dt R m
    rw [Int.one_mul, Int.sub_self]; exact Int.dvd_zero _⟩
theorem runE_mp {R C : Nat} {p : Int} {m : Fn2} (hp : isPr p = true) (hm : ∀ i c, 0 ≤ m i c ∧ m i c < p) : ∃ pv, MP R C p m C pv (runE R C p m) :=
  MP.run hp C 0 id _ (by omega) (MP.start (isPr_bds hp).1 hm)
/-- The determinant modulo p is the image of the determinant. -/
theorem MP.img {R : Nat} {p : Int} {m : Fn2} {pv : Nat → Nat} {s : ESt} (H : MP R R p m R pv s) : (s.t < R → p ∣ Dt R m) ∧ (s.t = R → p ∣ Dt R m - s.d) := by
  have hd := H.det rfl
  refine ⟨fun h => ?_, fun h => ?_⟩
  · have h0 : Dt R s.f = 0 := (Dt_alt R).zero (i := s.t) h fun y hy => H.zero s.t y (Nat.le_refl _) h hy
    rw [h0, Int.mul_zero, Int.sub_zero] at hd
    exact hd
  · have hge : ∀ k, k < R → k ≤ pv k := fun k => by
      induction k with
      | zero => intro _; exact Nat.zero_le _
      | succ k ih =>
        intro hk
        have := ih (by omega)
        have := H.mono k (k + 1) (by omega) (by omega)
        omega
    have hle : ∀ d k, k + d + 1 = R → pv k ≤ k := fun d => by
      induction d with
      | zero =>
        intro k hk
        have := H.lt k (by omega); omega
      | succ d ih =>
        intro k hk
        have := ih (k + 1) (by omega)
        have := H.mono k (k + 1) (by omega) (by omega)
        omega
    have hpv : ∀ k, k < R → pv k = k := fun k hk => by
      have := hge k hk
      have := hle (R - k - 1) k (by omega)
      omega
    have h1 : Dt R s.f = 1 := by
      rw [← Dt_id R]
      refine Dt_congr R fun i j hi hj => ?_
      unfold idF
      by_cases e : i = j
      · subst e
        rw [if_pos rfl]
        have := H.one i (by omega)
        rwa [hpv i hi] at this
      · rw [if_neg e]
        have := H.oth j i (by omega) hi e
        rwa [hpv j hj] at this
    rw [h1, Int.mul_one] at hd
    exact hd
theorem not_all_div {p : Int} (hp : 2 ≤ p) {r : Nat} {f : Fn2} : ∀ (N : Nat) (z : Nat → Int), sumTo (fun k => ((z k).natAbs : Int)) (r + 1) ≤ N → (∃ k, k < r + 1 ∧ z k ≠ 0) → (∀ i, i < r → mv (r + 1) f z i = 0) → ∃ z' : Nat → Int, (∃ k, k < r + 1 ∧ ¬ p ∣ z' k) ∧ ∀ i, i < r → mv (r + 1) f z' i = 0 := by
  intro N
  induction N with
  | zero =>
    intro z hN hk hz
    exact ⟨z, by
      obtain ⟨k, hk, h0⟩ := hk
      refine ⟨k, hk, fun hd => ?_⟩
      have h2 := sumTo_at (g := fun i => if i = k then 0 else ((z i).natAbs : Int)) (e := fun k => ((z k).natAbs : Int)) hk (fun i _ hne => by simp only [if_neg hne])
      have h3 : ∀ n, 0 ≤ sumTo (fun i => if i = k then 0 else ((z i).natAbs : Int)) n := fun n => by
        induction n with
        | zero => exact Int.le_refl _
        | succ n ih =>
          rw [sumTo_succ]
          have : (0 : Int) ≤ (if n = k then 0 else ((z n).natAbs : Int)) := by split <;> omega
          omega
      have h4 := h3 (r + 1)
      simp only [if_pos] at h2
      omega, hz⟩
  | succ N ih =>
    intro z hN hk hz
    by_cases hex : ∃ k, k < r + 1 ∧ ¬ p ∣ z k
    · exact ⟨z, hex, hz⟩
    · have hall : ∀ k, k < r + 1 → p ∣ z k := fun k hk => by
        apply Classical.byContradiction
        intro h; exact hex ⟨k, hk, h⟩
      have hch : ∀ k, k < r + 1 → z k = p * (z k / p) := fun k hk => (Int.mul_ediv_cancel' (hall k hk)).symm
      obtain ⟨k, hkr, h0⟩ := hk
      have hle : ∀ k, k < r + 1 → ((z k / p).natAbs : Int) ≤ ((z k).natAbs : Int) := fun k hk => by
        have h1 := hch k hk
        generalize z k / p = q at *
        rw [h1, Int.natAbs_mul]
        have : q.natAbs ≤ p.natAbs * q.natAbs := Nat.le_mul_of_pos_left _ (by omega)
        omega
      have hlt : ((z k / p).natAbs : Int) < ((z k).natAbs : Int) := by
        have h1 := hch k hkr
        generalize z k / p = q at *
        have hq : q ≠ 0 := fun e => h0 (by rw [h1, e, Int.mul_zero])
        rw [h1, Int.natAbs_mul]
        have : 2 * q.natAbs ≤ p.natAbs * q.natAbs := Nat.mul_le_mul_right _ (by omega)
        omega
      refine ih (fun k => z k / p) ?_ ⟨k, hkr, fun e => h0 (by rw [hch k hkr, e, Int.mul_zero])⟩ (fun i hi => ?_)
      · have hsum : ∀ n, n ≤ r + 1 → sumTo (fun k => ((z k / p).natAbs : Int)) n + (if k < n then 1 else 0) ≤ sumTo (fun k => ((z k).natAbs : Int)) n := fun n => by
          induction n with
          | zero => intro _; rw [if_neg (by omega)]; exact Int.le_refl _
          | succ n ih2 =>
            intro hn
            have := ih2 (by omega)
            have h5 := hle n (by omega)
            rw [sumTo_succ, sumTo_succ]
            by_cases e : k < n
            · rw [if_pos e] at this; rw [if_pos (by omega)]; omega
            · rw [if_neg e] at this
              by_cases e2 : k = n
              · subst e2; rw [if_pos (by omega)]; omega
              · rw [if_neg (by omega)]; omega
        have := hsum (r + 1) (Nat.le_refl _)
        rw [if_pos hkr] at this
        omega
      · have h1 := hz i hi
        unfold mv at h1 ⊢
        have e : sumTo (fun k => f i k * z k) (r + 1) = p * sumTo (fun k => f i k * (z k / p)) (r + 1) := by
          rw [← sumTo_mul']
          exact sumTo_congr (r + 1) fun k hk => by
            have := hch k hk
            generalize z k / p = q at *
            rw [this]; grind
        rw [e] at h1
        rcases Int.mul_eq_zero.1 h1 with h | h
        · omega
        · exact h
/-- The rank modulo p is no greater than the rank. -/
theorem MP.rank {R C n : Nat} {p : Int} {m m0 : Fn2} {pv : Nat → Nat} {s : ESt} (hp : 2 ≤ p) (H : MP R C p m C pv s) (hm : ∀ i j, i < R → j < C → p ∣ m i j - m0 i j) (hn : RKs R C n m0) : s.t ≤ n := by
  obtain ⟨r, h, hI, h1, h2⟩ := lat_basis (C := C) R m0
  obtain ⟨e, he⟩ := hn
  have hrn : r ≤ n := Ind.le hI fun k hk => by
    obtain ⟨c, hc⟩ := h2 k hk
    exact (QS.trans (g := m0) (S := R) ⟨1, c, by decide, fun y hy => by rw [Int.one_mul]; exact hc y hy⟩ he : QS n C e (h k))
  refine Nat.le_trans (Nat.le_of_not_lt fun hlt => ?_) hrn
  -- the first r + 1 rows, as combinations of the r rows of h
  have htR := H.ok.t0
  have hw : ∀ k, ∃ w : Nat → Int, k < r + 1 → ∀ y, y < C → p ∣ s.f k y - sumTo (fun l => w l * h l y) r := fun k => by
    by_cases hk : k < r + 1
    · obtain ⟨c, hc⟩ := H.row k (by omega)
      have hd : ∀ i, ∃ d : Nat → Int, i < R → ∀ y, y < C → m0 i y = sumTo (fun l => d l * h l y) r := fun i => by
        by_cases hi : i < R
        · obtain ⟨d, hd⟩ := h1 i hi
          exact ⟨d, fun _ => hd⟩
        · exact ⟨fun _ => 0, fun h => absurd h hi⟩
      obtain ⟨d, hd⟩ := Classical.axiomOfChoice hd
      refine ⟨fun l => sumTo (fun i => c i * d i l) R, fun _ y hy => ?_⟩
      have e1 : sumTo (fun l => sumTo (fun i => c i * d i l) R * h l y) r = sumTo (fun i => c i * m0 i y) R := by
        have a1 : sumTo (fun i => c i * m0 i y) R = sumTo (fun i => sumTo (fun l => c i * d i l * h l y) r) R := sumTo_congr R fun i hi => by
          rw [hd i hi y hy, ← sumTo_mul']
          exact sumTo_congr r fun l _ => by grind
        rw [a1, sumTo_swap]
        exact sumTo_congr r fun l _ => by rw [sumTo_mul]
      have h3 : p ∣ sumTo (fun i => c i * m i y) R - sumTo (fun i => c i * m0 i y) R := dvd_sumTo_sub R fun i hi => by
        rw [← Int.mul_sub]
        exact Int.dvd_trans (hm i y hi hy) ⟨c i, by rw [Int.mul_comm]⟩
      have h4 := hc y hy
      rw [e1]
      have := Int.dvd_add h4 h3
      rwa [show s.f k y - sumTo (fun k => c k * m k y) R + (sumTo (fun i => c i * m i y) R - sumTo (fun i => c i * m0 i y) R) = s.f k y - sumTo (fun i => c i * m0 i y) R by omega] at this
    · exact ⟨fun _ => 0, fun h => absurd h hk⟩
  obtain ⟨w, hw⟩ := Classical.axiomOfChoice hw
  obtain ⟨z0, hz1, hz2⟩ := sys_zero r fun l k => w k l
  obtain ⟨N, hN⟩ : ∃ N : Nat, sumTo (fun k => ((z0 k).natAbs : Int)) (r + 1) ≤ N := ⟨(sumTo (fun k => ((z0 k).natAbs : Int)) (r + 1)).toNat, by omega⟩
  obtain ⟨z, ⟨k, hk, hkz⟩, hz⟩ := not_all_div hp N z0 hN hz1 hz2
  refine hkz ?_
  have hkt : k < s.t := by omega
  have hpk := H.lt k hkt
  -- the combination of the rows with z, at the pivot of row k
  have a1 : p ∣ sumTo (fun i => z i * s.f i (pv k)) (r + 1) - sumTo (fun i => z i * sumTo (fun l => w i l * h l (pv k)) r) (r + 1) := dvd_sumTo_sub (r + 1) fun i hi => by
    rw [← Int.mul_sub]
    exact Int.dvd_trans (hw i hi (pv k) hpk) ⟨z i, by rw [Int.mul_comm]⟩
  have a2 : sumTo (fun i => z i * sumTo (fun l => w i l * h l (pv k)) r) (r + 1) = 0 := by
    have b1 : sumTo (fun i => z i * sumTo (fun l => w i l * h l (pv k)) r) (r + 1) = sumTo (fun i => sumTo (fun l => w i l * z i * h l (pv k)) r) (r + 1) := sumTo_congr (r + 1) fun i _ => by
      rw [← sumTo_mul']
      exact sumTo_congr r fun l _ => by grind
    rw [b1, sumTo_swap]
    refine sumTo_null r fun l hl => ?_
    rw [sumTo_mul]
    have := hz l hl
    unfold mv at this
    rw [this, Int.zero_mul]
  have a3 : sumTo (fun i => z i * s.f i (pv k)) (r + 1) = z k := by
    rw [sumTo_one (i := k) (r + 1) hk fun i hi hne => by rw [H.oth k i hkt (by omega) hne, Int.mul_zero], H.one k hkt, Int.mul_one]
  rw [a2, a3, Int.sub_zero] at a1
  exact a1
end Go.Proofs.YtlggfmfelakadaaGreatDoor

/-
  DERIVED. Several small texts in one: PlEc2, PlRn, PlLb, PlEcL.
-/
import Derived.Test.YtacjonkehcamgaaZS
import Derived.Test.YtacjonkehcamgaaZ1
import Derived.Test.YtacjonkehcamgaaPlainI
import Derived.Test.YtacjonkehcamgaaEchT
/-
  DERIVED. What EchelonOf computes is an echelon form of the same space; that of an echelon form is itself. No program in sight.
-/
namespace Go.Proofs.Ytacjonkehcamgaa
set_option linter.unusedVariables false
theorem primL_mul (l : List Int) : ∃ D : Int, D ≠ 0 ∧ ∀ k, k < l.length → D * (primL l).getD k 0 = l.getD k 0 := by
  unfold primL
  by_cases h0 : gcdL l = 0
  · rw [if_pos h0]; exact ⟨1, by decide, fun k _ => Int.one_mul _⟩
  · rw [if_neg h0]
    have hd := divL_abs l
    refine ⟨divL l, fun e => by rw [e] at hd; simp at hd; omega, fun k hk => ?_⟩
    have h1 : (l.map (·.tdiv (divL l))).getD k 0 = (l.getD k 0).tdiv (divL l) := by simp [List.getD, hk]
    rw [h1]
    exact Int.mul_tdiv_cancel' (divL_dvd (mem_getD hk))
section
variable {R C r t j : Nat} {p : Nat → Nat} {f g : Fn2}
theorem QSP.scale {f g : Fn2} (h : ∀ i, i < R → ∃ D : Int, D ≠ 0 ∧ ∀ y, y < C → D * g i y = f i y) : QSP R R C f g := by
  refine ⟨fun i hi => ?_, fun i hi => ?_⟩
  · obtain ⟨D, hD, e⟩ := h i hi
    exact (QS.row (f := g) hi).lin (QS.row hi) (a := D) (b := 0) (d := 1) (by decide) fun y hy => by rw [← e y hy]; omega
  · obtain ⟨D, hD, e⟩ := h i hi
    exact (QS.row (f := f) hi).as hD e
theorem prK_span : QSP R R C f (prK C f R) := QSP.scale fun i hi => by
  obtain ⟨D, hD, e⟩ := primL_mul (rw_ C f i)
  refine ⟨D, hD, fun y hy => ?_⟩
  have := e y (by rw [rw_len]; exact hy)
  rw [rw_at hy] at this
  rw [← this]
  unfold prK
  rw [if_pos hi]
theorem stQ_cmb {i : Nat} (hi0 : f i j ≠ 0) (ht0 : f t j ≠ 0) (hj : j < C) : (∃ d a b, CMB C f (stQ C f t j i) i t d a b) ∧ stQ C f t j i i j = 0 := by
  obtain ⟨D, hD, e⟩ := primL_mul (rw_ C (cbK f t j i C) i)
  have e' : ∀ c, c < C → D * stQ C f t j i i c = cbV f t j i c := fun c hc => by
    have := e c (by rw [rw_len]; exact hc)
    rw [rw_at hc] at this
    have e2 : cbK f t j i C i c = cbV f t j i c := by unfold cbK; rw [if_pos ⟨rfl, hc⟩]
    rw [e2] at this
    rw [← this]
    unfold stQ prF setR
    rw [if_pos rfl]
  obtain ⟨x, hx⟩ : ((Int.gcd (f i j) (f t j) : Nat) : Int) ∣ f i j := Int.gcd_dvd_left ..
  obtain ⟨y, hy⟩ : ((Int.gcd (f i j) (f t j) : Nat) : Int) ∣ f t j := Int.gcd_dvd_right ..
  have hg : ((Int.gcd (f i j) (f t j) : Nat) : Int) ≠ 0 := fun h => hi0 (by rw [hx, h, Int.zero_mul])
  have kx : (f i j).tdiv (Int.gcd (f i j) (f t j) : Nat) = x := by
    generalize hG : ((Int.gcd (f i j) (f t j) : Nat) : Int) = G at *
    rw [hx]; exact Int.mul_tdiv_cancel_left x hg
  have ky : (f t j).tdiv (Int.gcd (f i j) (f t j) : Nat) = y := by
    generalize hG : ((Int.gcd (f i j) (f t j) : Nat) : Int) = G at *
    rw [hy]; exact Int.mul_tdiv_cancel_left y hg
  have hv : ∀ c, cbV f t j i c = y * f i c - x * f t c := fun c => by unfold cbV; rw [kx, ky]
  refine ⟨⟨D, y, -x, hD, fun h => ht0 (by rw [hy, h, Int.mul_zero]), fun c hc => by rw [e' c hc, hv]; grind, fun a ha => ?_⟩, ?_⟩
  · funext c
    unfold stQ prF setR cbK
    rw [if_neg ha, if_neg (fun e => ha e.1)]
  · have h1 := e' j hj
    rw [hv] at h1
    generalize ((Int.gcd (f i j) (f t j) : Nat) : Int) = G at *
    have h2 : y * f i j - x * f t j = 0 := by rw [hx, hy]; grind
    rw [h2] at h1
    rcases Int.mul_eq_zero.1 h1 with h3 | h3
    · exact absurd h3 hD
    · exact h3
/-- A step of the elimination keeps what is there. -/
theorem EF.cmb {f' : Fn2} {i : Nat} {d a b : Int} (H : EF R j r p f) (K : CMB C f f' i t d a b) (hj : j ≤ C) (ht : t < R) (hrt : r ≤ t) (hi : i < R) : EF R j r p f' := by
  have hz : ∀ x y, y < j → (f' x y = 0 ↔ f x y = 0) := fun x y hy => by
    by_cases e : x = i
    · subst e
      have h1 := K.at_ y (by omega)
      rw [H.zero t y hrt ht hy, Int.mul_zero, Int.add_zero] at h1
      constructor
      · intro h
        rw [h, Int.mul_zero] at h1
        rcases Int.mul_eq_zero.1 h1.symm with h2 | h2
        · exact absurd h2 K.a0
        · exact h2
      · intro h
        rw [h, Int.mul_zero] at h1
        rcases Int.mul_eq_zero.1 h1 with h2 | h2
        · exact absurd h2 K.d0
        · exact h2
    · rw [K.other x e]
  exact ⟨H.le, H.lt, H.mono, fun x y hx hy => (hz x y (Nat.lt_trans hy (H.lt x hx))).2 (H.left x y hx hy), fun x hx h => H.ne x hx ((hz x _ (H.lt x hx)).1 h), fun x k hx hk hne => (hz k _ (H.lt x hx)).2 (H.oth x k hx hk hne), fun x y h1 h2 h3 => (hz x y h3).2 (H.zero x y h1 h2 h3)⟩
/-- What holds inside the sweep of a column. -/
structure SwQ (R C j t : Nat) (p : Nat → Nat) (f0 : Fn2) (i : Nat) (f : Fn2) : Prop where
  ef : EF R j t p f
  sp : QSP R R C f0 f
  ok : QOk R C f
  nz : f t j ≠ 0
  done : ∀ x, x < i → x < R → x ≠ t → f x j = 0
theorem SwQ.run {f0 : Fn2} (hj : j < C) (ht : t < R) : ∀ (n i : Nat) (f f' : Fn2), i + n = R → SwQ R C j t p f0 i f → rowsQ C t j n i f = some f' → SwQ R C j t p f0 R f'
  | 0, i, f, f', hi, H, h => by
    unfold rowsQ at h
    injection h with h
    subst h
    obtain rfl : i = R := by omega
    exact H
  | n + 1, i, f, f', hi, H, h => by
    unfold rowsQ at h
    split at h
    · rename_i hc
      refine SwQ.run hj ht n (i + 1) f f' (by omega) ⟨H.ef, H.sp, H.ok, H.nz, fun x hx hxR hxt => ?_⟩ h
      rcases Nat.lt_or_ge x i with h1 | h1
      · exact H.done x h1 hxR hxt
      · obtain rfl : x = i := by omega
        rcases hc with hc | hc
        · exact absurd hc hxt
        · exact hc
    · rename_i hc
      split at h
      · rename_i hk
        have hit : i ≠ t := fun e => hc (.inl e)
        have hi0 : f i j ≠ 0 := fun e => hc (.inr e)
        obtain ⟨⟨d, a, b, K⟩, hz⟩ := stQ_cmb (C := C) hi0 H.nz hj
        refine SwQ.run hj ht n (i + 1) _ f' (by omega) ⟨H.ef.cmb K (by omega) ht (Nat.le_refl _) (by omega), H.sp.trans (K.span (by omega) ht hit), H.ok.st (by omega) hk, ?_, fun x hx hxR hxt => ?_⟩ h
        · rw [K.other t (fun e => hit e.symm)]; exact H.nz
        · rcases Nat.lt_or_ge x i with h1 | h1
          · rw [K.other x (by omega)]; exact H.done x h1 hxR hxt
          · obtain rfl : x = i := by omega
            exact hz
      · cases h
theorem fnd_zero (f : Nat → Nat → Int) (j : Nat) : ∀ n k i, k ≤ i → i < fnd f j n k → f i j = 0
  | 0, k, i, h1, h2 => by unfold fnd at h2; omega
  | n + 1, k, i, h1, h2 => by
    unfold fnd at h2
    split at h2
    · rename_i h0
      by_cases e : i = k
      · rw [e]; exact h0
      · exact fnd_zero f j n (k + 1) i (by omega) h2
    · omega
theorem fnd_none (f : Nat → Nat → Int) (j : Nat) : ∀ n k, (∀ i, k ≤ i → i < k + n → f i j = 0) → fnd f j n k = k + n
  | 0, k, _ => rfl
  | n + 1, k, h => by
    unfold fnd
    rw [if_pos (h k (Nat.le_refl _) (by omega)), fnd_none f j n (k + 1) (fun i h1 h2 => h i (by omega) (by omega))]
    omega
/-- The pivots as a function. -/
def pf (ps : List Int) (i : Nat) : Nat := (ps.getD i 0).toNat
theorem pf_snoc {ps : List Int} {i : Nat} (h : i < ps.length) (j : Nat) : pf (ps ++ [(j : Int)]) i = pf ps i := by unfold pf; simp [List.getD, List.getElem?_append_left h]
theorem pf_last (ps : List Int) (j : Nat) : pf (ps ++ [(j : Int)]) ps.length = j := by unfold pf; simp [List.getD]
theorem EF.sw (H : EF R j t p f) {k : Nat} (hk : k < R) (htk : t ≤ k) (htR : t < R) : EF R j t p (swF f k t) := by
  have h1 : ∀ i, i < t → swF f k t i = f i := fun i hi => by
    funext y; unfold swF; rw [if_neg (by omega), if_neg (by omega)]
  have h2 : ∀ i, t ≤ i → i < R → ∃ i', t ≤ i' ∧ i' < R ∧ swF f k t i = f i' := fun i ha hb => by
    refine ⟨if i = k then t else if i = t then k else i, ?_, ?_, rfl⟩ <;> grind
  refine ⟨H.le, H.lt, H.mono, fun i y hi hy => by rw [h1 i hi]; exact H.left i y hi hy, fun i hi => by rw [h1 i hi]; exact H.ne i hi, fun i x hi hx hne => ?_, fun i y ha hb hy => ?_⟩
  · rcases Nat.lt_or_ge x t with h | h
    · rw [h1 x h]; exact H.oth i x hi hx hne
    · obtain ⟨x', ha, hb, e⟩ := h2 x h hx
      rw [e]; exact H.oth i x' hi hb (by omega)
  · obtain ⟨x', h3, h4, e⟩ := h2 i ha hb
    rw [e]; exact H.zero x' y h3 h4 hy
/-- A column done, with a pivot in it. -/
theorem EF.more (H : EF R j t p f) (ht : t < R) (hnz : f t j ≠ 0) (hz : ∀ x, x < R → x ≠ t → f x j = 0) {q : Nat → Nat} (hq : ∀ i, i < t → q i = p i) (hqt : q t = j) : EF R (j + 1) (t + 1) q f := by
  have hc : ∀ i, i < t + 1 → i < t ∨ i = t := fun i h => by omega
  refine ⟨by omega, fun i hi => ?_, fun i k hik hk => ?_, fun i y hi hy => ?_, fun i hi => ?_, fun i k hi hk hne => ?_, fun i y h1 h2 h3 => ?_⟩
  · rcases hc i hi with h | rfl
    · rw [hq i h]; have := H.lt i h; omega
    · omega
  · rcases hc k hk with h | rfl
    · rw [hq i (by omega), hq k h]; exact H.mono i k hik h
    · rw [hqt, hq i hik]; exact H.lt i hik
  · rcases hc i hi with h | rfl
    · rw [hq i h] at hy; exact H.left i y h hy
    · rw [hqt] at hy; exact H.zero i y (Nat.le_refl _) ht hy
  · rcases hc i hi with h | rfl
    · rw [hq i h]; exact H.ne i h
    · rw [hqt]; exact hnz
  · rcases hc i hi with h | rfl
    · rw [hq i h]; exact H.oth i k h hk hne
    · rw [hqt]; exact hz k hk hne
  · by_cases e : y = j
    · subst e; exact hz i h2 (by omega)
    · exact H.zero i y (by omega) h2 (by omega)
theorem EF.skip (H : EF R j t p f) (hz : ∀ x, t ≤ x → x < R → f x j = 0) : EF R (j + 1) t p f :=
  ⟨H.le, fun i hi => by have := H.lt i hi; omega, H.mono, H.left, H.ne, H.oth, fun i y h1 h2 h3 => by
    by_cases e : y = j
    · subst e; exact hz i h1 h2
    · exact H.zero i y h1 h2 (by omega)⟩
theorem colsQ_ef : ∀ (n j : Nat) (s s' : QSt), j + n = C → EF R j s.ps.length (pf s.ps) s.f → QOk R C s.f → (∀ x ∈ s.ps, 0 ≤ x) → colsQ R C n j s = some s' → EF R C s'.ps.length (pf s'.ps) s'.f ∧ QOk R C s'.f ∧ QSP R R C s.f s'.f ∧ ∀ x ∈ s'.ps, 0 ≤ x
  | 0, j, s, s', hj, H, K, N, h => by
    unfold colsQ at h
    injection h with h
    subst h
    obtain rfl : j = C := by omega
    exact ⟨H, K, QSP.refl _ _ _, N⟩
  | n + 1, j, s, s', hj, H, K, N, h => by
    unfold colsQ at h
    have hle := fnd_le s.f j (R - s.ps.length) s.ps.length
    have hH := H.le
    split at h
    · rename_i hk
      exact colsQ_ef n (j + 1) s s' (by omega) (H.skip fun x h1 h2 => fnd_zero s.f j (R - s.ps.length) s.ps.length x h1 (by omega)) K N h
    · rename_i hk
      generalize hF : fnd s.f j (R - s.ps.length) s.ps.length = k at *
      have hne : s.f k j ≠ 0 := by rw [← hF]; exact fnd_ne s.f j _ _ (by rw [hF]; omega)
      have htR : s.ps.length < R := by omega
      split at h
      · cases h
      · rename_i f' hr
        have W : SwQ R C j s.ps.length (pf s.ps) (swF s.f k s.ps.length) 0 (swF s.f k s.ps.length) := ⟨H.sw (by omega) hle.1 htR, QSP.refl _ _ _, K.sw (by omega) htR, by rw [swF_t]; exact hne, fun x hx => absurd hx (Nat.not_lt_zero _)⟩
        have W' := SwQ.run (by omega) htR (R - 0) 0 _ f' (by omega) W hr
        obtain ⟨a1, a2, a3, a4⟩ := colsQ_ef n (j + 1) ⟨f', s.ps ++ [(j : Int)]⟩ s' (by omega) (by
          simp only [List.length_append, List.length_cons, List.length_nil]
          exact W'.ef.more htR W'.nz (fun x hx hxt => W'.done x hx hx hxt) (fun i hi => pf_snoc hi j) (pf_last _ j)) W'.ok (by
          intro x hx
          rcases List.mem_append.1 hx with hx | hx
          · exact N x hx
          · simp at hx; omega) h
        exact ⟨a1, a2, ((QSP.swap (by omega) htR).trans W'.sp).trans a3, a4⟩
/-- What EchelonOf computes. -/
theorem echQ_ef {s : QSt} (hb : ∀ i c, i < R → c < C → -400000000 ≤ f i c ∧ f i c ≤ 400000000) (h : echQ R C f = some s) : EF R C s.ps.length (pf s.ps) s.f ∧ QOk R C s.f ∧ QSP R R C f s.f ∧ ∀ x ∈ s.ps, 0 ≤ x := by
  obtain ⟨a1, a2, a3, a4⟩ := colsQ_ef (C - 0) 0 ⟨prK C f R, []⟩ s (by omega) ⟨Nat.zero_le _, fun i hi => absurd hi (Nat.not_lt_zero _), fun i k _ hk => absurd hk (Nat.not_lt_zero _), fun i y hi => absurd hi (Nat.not_lt_zero _), fun i hi => absurd hi (Nat.not_lt_zero _), fun i k hi => absurd hi (Nat.not_lt_zero _), fun i y _ _ hy => absurd hy (Nat.not_lt_zero _)⟩ (QOk.all hb) (fun x hx => by cases hx) h
  exact ⟨a1, a2, prK_span.trans a3, a4⟩
theorem rowsQ_none : ∀ n i (f : Fn2), (∀ x, i ≤ x → x < i + n → x = t ∨ f x j = 0) → rowsQ C t j n i f = some f
  | 0, i, f, _ => rfl
  | n + 1, i, f, h => by
    unfold rowsQ
    rw [if_pos (h i (Nat.le_refl _) (by omega))]
    exact rowsQ_none n (i + 1) f fun x h1 h2 => h x (by omega) (by omega)
theorem colsQ_again (H : EF R C r p g) : ∀ (n j : Nat) (ps : List Int), j + n = C → ps.length ≤ r → (∀ i, i < ps.length → p i < j) → (∀ i, ps.length ≤ i → i < r → j ≤ p i) → ∃ ps', colsQ R C n j ⟨g, ps⟩ = some ⟨g, ps ++ ps'⟩ ∧ ps.length + ps'.length = r ∧ ∀ i, i < ps'.length → ps'.getD i 0 = (p (ps.length + i) : Int)
  | 0, j, ps, hj, h1, h2, h3 => by
    refine ⟨[], by rw [List.append_nil]; rfl, ?_, fun i hi => absurd hi (Nat.not_lt_zero _)⟩
    refine Nat.le_antisymm (by simpa using h1) (Nat.le_of_not_lt fun h => ?_)
    simp at h
    have := h3 ps.length (Nat.le_refl _) h
    have := H.lt _ h
    omega
  | n + 1, j, ps, hj, h1, h2, h3 => by
    have hrR := H.le
    unfold colsQ
    by_cases hc : ps.length < r ∧ p ps.length = j
    · obtain ⟨hc1, hc2⟩ := hc
      have hne := H.ne _ hc1
      rw [hc2] at hne
      simp only [fnd_here (show ps.length < R by omega) hne]
      rw [if_neg (by omega), swF_same, rowsQ_none (R - 0) 0 g (fun x _ hx => by
        by_cases e : x = ps.length
        · exact .inl e
        · right; rw [← hc2]; exact H.oth _ x hc1 (by omega) e)]
      obtain ⟨ps', e1, e2, e3⟩ := colsQ_again H n (j + 1) (ps ++ [(j : Int)]) (by omega) (by simp; omega) (fun i hi => by
        simp at hi
        by_cases e : i = ps.length
        · rw [e]; omega
        · have := h2 i (by omega); omega) (fun i ha hb => by
        simp at ha
        have := H.mono ps.length i (by omega) hb; omega)
      refine ⟨(j : Int) :: ps', ?_, by simp at e2 ⊢; omega, fun i hi => ?_⟩
      · simp only; rw [e1]; simp
      · cases i with
        | zero => simp [hc2]
        | succ i =>
          have := e3 i (by simpa using hi)
          simp at this ⊢
          rw [this]
          congr 2
          omega
    · have hz : ∀ x, ps.length ≤ x → x < ps.length + (R - ps.length) → g x j = 0 := fun x ha hb => by
        rcases Nat.lt_or_ge x r with h | h
        · have q1 := h3 x ha h
          by_cases e : p x = j
          · exfalso
            by_cases e2 : x = ps.length
            · subst e2; exact hc ⟨h, e⟩
            · have := H.mono ps.length x (by omega) h
              have := h3 ps.length (Nat.le_refl _) (by omega)
              omega
          · exact H.left x j h (by omega)
        · exact H.zero x j h (by omega) (by omega)
      simp only [fnd_none g j _ _ hz]
      rw [if_pos (by omega)]
      refine colsQ_again H n (j + 1) ps (by omega) h1 (fun i hi => by have := h2 i hi; omega) (fun i ha hb => ?_)
      have q1 := h3 i ha hb
      by_cases e : p i = j
      · exfalso
        by_cases e2 : i = ps.length
        · subst e2; exact hc ⟨hb, e⟩
        · have := H.mono ps.length i (by omega) hb
          have := h3 ps.length (Nat.le_refl _) (by omega)
          omega
      · omega
end
theorem getD_ext {l m : List Int} (hlen : l.length = m.length) (h : ∀ k, k < l.length → l.getD k 0 = m.getD k 0) : l = m := by
  refine List.ext_getElem hlen fun k h1 h2 => ?_
  have := h k h1
  simpa [List.getD, h1, h2] using this
/-- The echelon form of an echelon form is itself. -/
theorem echQ_again {R C : Nat} {g : Fn2} {s : QSt} (H : EF R C s.ps.length (pf s.ps) s.f) (K : QOk R C s.f) (N : ∀ x ∈ s.ps, 0 ≤ x) (e : EqM R C g s.f) : ∃ s', echQ R C g = some s' ∧ s'.ps = s.ps ∧ EqM R C s'.f s.f := by
  have hE : EqM R C (prK C g R) s.f := fun i c hi hc => by
    unfold prK
    rw [if_pos hi, show rw_ C g i = rw_ C s.f i from rw_ext fun y hy => e i y hi hy, K.pr i hi, rw_at hc]
  obtain ⟨ps', e1, e2, e3⟩ := colsQ_again (H.congr hE) (C - 0) 0 [] (by omega) (Nat.zero_le _) (fun i hi => absurd hi (Nat.not_lt_zero _)) (fun i _ _ => Nat.zero_le _)
  refine ⟨_, e1, ?_, hE⟩
  simp only [List.nil_append, List.length_nil, Nat.zero_add] at e2 e3 ⊢
  refine getD_ext e2 fun k hk => ?_
  rw [e3 k hk]
  unfold pf
  have := N _ (mem_getD (show k < s.ps.length by omega))
  omega
/-- Two echelon forms of one space are equal. -/
theorem ech_uniq {R S C : Nat} {s s2 : QSt} (H : EF R C s.ps.length (pf s.ps) s.f) (K : QOk R C s.f) (N : ∀ x ∈ s.ps, 0 ≤ x) (H2 : EF S C s2.ps.length (pf s2.ps) s2.f) (K2 : QOk S C s2.f) (N2 : ∀ x ∈ s2.ps, 0 ≤ x) (h : QSP R S C s.f s2.f) : s.ps = s2.ps ∧ ∀ i y, i < s.ps.length → y < C → s.f i y = s2.f i y := by
  obtain ⟨u1, u2, u3⟩ := H.uniq H2 h
  refine ⟨getD_ext u1 fun k hk => ?_, fun i y hi hy => ?_⟩
  · have h1 := N _ (mem_getD hk)
    have h2 := N2 _ (mem_getD (show k < s2.ps.length by omega))
    have h3 := u2 k hk
    unfold pf at h3
    omega
  · obtain ⟨d, c, hd, hc, hv⟩ := u3 i hi
    have h1 := H.le
    have h2 := H2.le
    have := prim_uniq (K.pr i (by omega)) (K2.pr i (by omega)) (by rw [rw_len, rw_len]) hd hc (fun k hk => by
      rw [rw_len] at hk
      rw [rw_at hk, rw_at hk]; exact hv k hk)
    rw [← rw_at (f := s.f) (i := i) hy, this, rw_at hy]
theorem rowL_tbQ {R C i : Nat} {f : Fn2} (hi : i < R) : (rowL (tb R C f) C i).length = C := rowL_len (by rw [tb_len]; have := Nat.mul_le_mul_right C (show i + 1 ≤ R by omega); rw [Nat.add_mul, Nat.one_mul] at this; exact this)
theorem QOk.mat {R C : Nat} {f : Fn2} (h : QOk R C f) (hR : R ≤ 24) (hC : C ≤ 24) : isMat R C (tb R C f) = true :=
  isMat_iff.2 ⟨by omega, by omega, by omega, by omega, by rw [tb_len]; simp, by
    rw [List.all_eq_true]
    exact tb_mem fun i j hi hj => (isNum_iff _).2 (h.bd i j hi hj)⟩
/-- The shape is what IsEchelon asks. -/
theorem EF.echelon {R C r : Nat} {p : Nat → Nat} {f : Fn2} (H : EF R C r p f) (K : QOk R C f) (hR : R ≤ 24) (hC : C ≤ 24) : echB R C (tb R C f) = true := by
  have hpv : ∀ i, i < r → pv (tb R C f) C i = p i := fun i hi => by
    have hiR : i < R := Nat.lt_of_lt_of_le hi H.le
    have hpC := H.lt i hi
    refine fcN_eq (by rw [rowL_tbQ hiR]; omega) (fun j hj => ?_) (fun _ => ?_)
    · rw [rowL_getD (by omega), cel_tb hiR (by omega)]
      exact H.left i j hi hj
    · rw [rowL_getD hpC, cel_tb hiR hpC]
      exact H.ne i hi
  have hpz : ∀ i, r ≤ i → i < R → pv (tb R C f) C i = C := fun i h1 h2 => by
    refine fcN_eq (by rw [rowL_tbQ h2]; omega) (fun j hj => ?_) (fun h => by rw [rowL_tbQ h2] at h; omega)
    rw [rowL_getD hj, cel_tb h2 hj]
    exact H.zero i j h1 h2 hj
  have hrow : ∀ i, i < R → rowL (tb R C f) C i = rw_ C f i := fun i hi => getD_ext (by rw [rowL_tbQ hi, rw_len]) fun k hk => by
    rw [rowL_tbQ hi] at hk
    rw [rowL_getD hk, cel_tb hi hk, rw_at hk]
  have hM := K.mat hR hC
  unfold echB
  rw [hM, Bool.true_and, List.all_eq_true]
  intro i hi
  have hi' : i < R := by simpa using hi
  simp only [Int.toNat_natCast]
  unfold erow
  rcases Nat.lt_or_ge i r with hir | hir
  · have hpC := H.lt i hir
    have hpr := K.pr i hi'
    rw [← hrow i hi'] at hpr
    obtain ⟨g1, g2⟩ := (prim_row (rowL_tbQ hi') (by rw [hpv i hir]; exact hpC)).1 hpr
    rw [hpv i hir] at g2 ⊢
    rw [if_pos hpC]
    have hlast : lastP (tb R C f) C i < p i := by
      cases i with
      | zero => rw [lastP_zero]; omega
      | succ i =>
        rw [lastP_succ, hpv i (by omega)]
        have := H.mono i (i + 1) (by omega) hir; omega
    simp only [Bool.and_eq_true, decide_eq_true_eq]
    refine ⟨⟨⟨hlast, g2⟩, g1⟩, ?_⟩
    rw [List.all_eq_true]
    intro k hk
    have hk' := List.mem_range.1 hk
    unfold ezc
    rw [hpv i hir, cel_tb hk' hpC]
    by_cases e : k = i
    · simp [e]
    · simp [e, H.oth i k hir hk' e]
  · rw [hpz i hir hi', if_neg (Nat.lt_irrefl _)]
end Go.Proofs.Ytacjonkehcamgaa

/-
  DERIVED. Ranks: no more than n rows are wanted to span; turned over; products; echelon, Hermite and diagonal forms. No program in sight.
-/
namespace Go.Proofs.Ytacjonkehcamgaa
set_option linter.unusedVariables false
/-- The rows of f are, some times, sums of n rows. -/
def RKs (R C n : Nat) (f : Fn2) : Prop := ∃ e : Fn2, ∀ i, i < R → QS n C e (f i)
section
variable {R S C r n : Nat} {p : Nat → Nat} {f g : Fn2}
theorem EF.rk_le (H : EF R C r p f) (h : RKs R C n f) : r ≤ n := by
  obtain ⟨e, he⟩ := h
  exact Ind.le H.ind fun i hi => he i (Nat.lt_of_lt_of_le hi H.le)
theorem EF.rk (H : EF R C r p f) : RKs R C r f := ⟨f, fun i hi => by
  rcases Nat.lt_or_ge i r with h | h
  · exact QS.row h
  · exact QS.zero fun y hy => H.zero i y h hi hy⟩
theorem RKs.span (h : RKs S C n g) (k : ∀ i, i < R → QS S C g (f i)) : RKs R C n f := by
  obtain ⟨e, he⟩ := h
  exact ⟨e, fun i hi => (k i hi).trans he⟩
/-- One divisor for all rows. -/
theorem QS.all {e : Fn2} : ∀ R, (∀ i, i < R → QS n C e (f i)) → ∃ (d : Int) (u : Fn2), d ≠ 0 ∧ ∀ i y, i < R → y < C → d * f i y = sumTo (fun k => u i k * e k y) n
  | 0, _ => ⟨1, fun _ _ => 0, by decide, fun i y hi => absurd hi (Nat.not_lt_zero _)⟩
  | R + 1, h => by
    obtain ⟨d, u, hd, hu⟩ := QS.all R fun i hi => h i (by omega)
    obtain ⟨d2, c, hd2, hc⟩ := h R (by omega)
    refine ⟨d * d2, fun i k => if i = R then d * c k else d2 * u i k, Int.mul_ne_zero hd hd2, fun i y hi hy => ?_⟩
    by_cases e1 : i = R
    · subst e1
      rw [show d * d2 * f i y = d * (d2 * f i y) by grind, hc y hy, ← sumTo_mul']
      exact sumTo_congr n fun k _ => by simp only [if_pos]; grind
    · rw [show d * d2 * f i y = d2 * (d * f i y) by grind, hu i y (by omega) hy, ← sumTo_mul']
      exact sumTo_congr n fun k _ => by simp only [if_neg e1]; grind
theorem RKs.turn (h : RKs R C n f) : RKs C R n (fun a b => f b a) := by
  obtain ⟨e, he⟩ := h
  obtain ⟨d, u, hd, hu⟩ := QS.all R he
  refine ⟨fun k i => u i k, fun y hy => ⟨d, fun k => e k y, hd, fun i hi => ?_⟩⟩
  rw [hu i y hi hy]
  exact sumTo_congr n fun k _ => Int.mul_comm _ _
theorem QS.mm {u : Fn2} {i : Nat} : QS R C f (mm R u f i) := ⟨1, u i, by decide, fun y _ => by rw [Int.one_mul]; rfl⟩
theorem RKs.left {u : Fn2} (h : RKs R C n f) : RKs S C n (mm R u f) := h.span fun i _ => QS.mm
theorem RKs.right {v : Fn2} {D : Nat} (h : RKs R C n f) : RKs R D n (mm C f v) := by
  obtain ⟨e, he⟩ := h
  refine ⟨mm C e v, fun i hi => ?_⟩
  obtain ⟨d, c, hd, hc⟩ := he i hi
  refine ⟨d, c, hd, fun y _ => ?_⟩
  have e1 : d * mm C f v i y = sumTo (fun k => d * (f i k * v k y)) C := by unfold mm; rw [sumTo_mul']
  have e2 : sumTo (fun k => d * (f i k * v k y)) C = sumTo (fun k => sumTo (fun a => c a * e a k * v k y) n) C := sumTo_congr C fun k hk => by
    rw [show d * (f i k * v k y) = d * f i k * v k y by grind, hc k hk, ← sumTo_mul]
  rw [e1, e2, sumTo_swap]
  refine sumTo_congr n fun a _ => ?_
  unfold mm
  rw [← sumTo_mul']
  exact sumTo_congr C fun k _ => by grind
/-- Two echelon forms of two spaces, one in the other. -/
theorem EF.le_of {q : Nat → Nat} {s : Nat} (H : EF R C r p f) (K : EF S C s q g) (h : ∀ i, i < R → QS S C g (f i)) : r ≤ s := H.rk_le (K.rk.span h)
/-- A form with the rows of it from r on zeros, and the first r independent. -/
theorem Ind.rk_le (H : Ind r C f) (hr : r ≤ R) (h : RKs R C n f) : r ≤ n := by
  obtain ⟨e, he⟩ := h
  exact Ind.le H fun i hi => he i (by omega)
/-- A space in another one, as many dimensions: they are one. -/
theorem EF.back {q : Nat → Nat} {s : Nat} (H : EF R C r p f) (K : EF S C s q g) (h : ∀ i, i < R → QS S C g (f i)) (hrs : s ≤ r) : ∀ i, i < S → QS R C f (g i) := fun i hi => by
  -- the rows of f with row i of g beside them: r + 1 vectors in a space of s dimensions
  have hfr := H.le
  apply Classical.byContradiction
  intro hno
  have hind : Ind (r + 1) C (fun k y => if k < r then f k y else g i y) := fun z hz k hk => by
    have e1 : ∀ y, y < C → sumTo (fun k => z k * f k y) r + z r * g i y = 0 := fun y hy => by
      have := hz y hy
      rw [sumTo_succ] at this
      simp only [if_neg (Nat.lt_irrefl r)] at this
      rw [← this]
      congr 1
      exact sumTo_congr r fun k hk => by simp only [if_pos hk]
    have hr0 : z r = 0 := by
      apply Classical.byContradiction
      intro h0
      refine hno ⟨z r, fun k => if k < r then -z k else 0, h0, fun y hy => ?_⟩
      have h1 := e1 y hy
      have h2 : sumTo (fun k => (if k < r then -z k else 0) * f k y) R = -sumTo (fun k => z k * f k y) r := by
        have hs : ∀ m, r ≤ m → sumTo (fun k => (if k < r then -z k else 0) * f k y) m = -sumTo (fun k => z k * f k y) r := fun m => by
          induction m with
          | zero => intro hm; obtain rfl : r = 0 := by omega
                    rfl
          | succ m ih =>
            intro hm
            by_cases e : r = m + 1
            · subst e
              rw [← sumTo_neg]
              exact sumTo_congr (m + 1) fun k hk => by rw [if_pos hk, Int.neg_mul]
            · rw [sumTo_succ, ih (by omega), if_neg (by omega), Int.zero_mul, Int.add_zero]
        exact hs R hfr
      rw [h2]; omega
    rcases Nat.lt_or_ge k r with h | h
    · refine H.ind z (fun y hy => ?_) k h
      have := e1 y hy
      rw [hr0, Int.zero_mul, Int.add_zero] at this
      exact this
    · obtain rfl : k = r := by omega
      exact hr0
  obtain ⟨e, he⟩ := K.rk
  have := Ind.le hind (u := e) (m := s) fun k hk => by
    rcases Nat.lt_or_ge k r with h1 | h1
    · have q := (h k (by omega)).trans he
      obtain ⟨d, c, hd, hc⟩ := q
      exact ⟨d, c, hd, fun y hy => by simp only [if_pos h1]; exact hc y hy⟩
    · obtain ⟨d, c, hd, hc⟩ := he i hi
      exact ⟨d, c, hd, fun y hy => by simp only [if_neg (show ¬ k < r by omega)]; exact hc y hy⟩
  omega
end
end Go.Proofs.Ytacjonkehcamgaa

/-
  DERIVED. Every matrix has as many independent rows of whole numbers as it has a rank, that its rows are whole sums of. No program in sight.
-/
namespace Go.Proofs.Ytacjonkehcamgaa
set_option linter.unusedVariables false
theorem sumTo_at {g e : Nat → Int} {a n : Nat} (ha : a < n) (h : ∀ k, k < n → k ≠ a → e k = g k) : sumTo e n = sumTo g n + (e a - g a) := by
  have h1 := sumTo_sub e g n
  have h2 : sumTo (fun k => e k - g k) n = e a - g a := sumTo_one n ha fun k hk hne => by rw [h k hk hne]; omega
  omega
theorem Sp.zero {R C : Nat} {f : Fn2} {v : Nat → Int} (h : ∀ y, y < C → v y = 0) : Sp R C f v := ⟨fun _ => 0, fun y hy => by rw [h y hy, sumTo_null R fun k _ => Int.zero_mul _]⟩
theorem abs_less {x y : Int} (hx : x ≠ 0) (hy : y ≠ 0) (h : y.natAbs ≤ x.natAbs) : ∃ t : Int, (t = 1 ∨ t = -1) ∧ (x - t * y).natAbs < x.natAbs := by
  by_cases h1 : (0 < x ∧ 0 < y) ∨ (x < 0 ∧ y < 0)
  · exact ⟨1, .inl rfl, by omega⟩
  · exact ⟨-1, .inr rfl, by omega⟩
/-- A relation between the rows: one row fewer does. -/
theorem lat_drop {C : Nat} : ∀ (N R : Nat) (f : Fn2) (z : Nat → Int), sumTo (fun k => ((z k).natAbs : Int)) (R + 1) ≤ N → (∃ k, k < R + 1 ∧ z k ≠ 0) → (∀ y, y < C → sumTo (fun k => z k * f k y) (R + 1) = 0) → ∃ g : Fn2, (∀ i, i < R + 1 → Sp R C g (f i)) ∧ ∀ k, k < R → Sp (R + 1) C f (g k) := by
  intro N
  induction N with
  | zero =>
    intro R f z hN ⟨k, hk, hz⟩ _
    exfalso
    have h1 : ((z k).natAbs : Int) ≤ sumTo (fun k => ((z k).natAbs : Int)) (R + 1) := by
      have h2 := sumTo_at (g := fun i => if i = k then 0 else ((z i).natAbs : Int)) (e := fun k => ((z k).natAbs : Int)) hk (fun i _ hne => by simp only [if_neg hne])
      have h3 : 0 ≤ sumTo (fun i => if i = k then 0 else ((z i).natAbs : Int)) (R + 1) := by
        have : ∀ n, 0 ≤ sumTo (fun i => if i = k then 0 else ((z i).natAbs : Int)) n := fun n => by
          induction n with
          | zero => exact Int.le_refl _
          | succ n ih =>
            rw [sumTo_succ]
            have : (0 : Int) ≤ (if n = k then 0 else ((z n).natAbs : Int)) := by split <;> omega
            omega
        exact this _
      simp only [if_pos] at h2
      omega
    omega
  | succ N ih =>
    intro R f z hN ⟨a0, ha0, hz0⟩ hrel
    by_cases hex : ∃ a b, a < R + 1 ∧ b < R + 1 ∧ a ≠ b ∧ z a ≠ 0 ∧ z b ≠ 0 ∧ (z b).natAbs ≤ (z a).natAbs
    · obtain ⟨a, b, ha, hb, hab, hza, hzb, hle⟩ := hex
      obtain ⟨t, ht, hlt⟩ := abs_less hza hzb hle
      -- row b gets t times row a
      let f' : Fn2 := fun x y => if x = b then f b y + f a y * t else f x y
      let z' : Nat → Int := fun k => if k = a then z a - t * z b else z k
      have S : SPN (R + 1) C f f' := (SPN.refl (R + 1) C f).add hb ha (fun e => hab e.symm) (fun y _ => by show (if b = b then _ else _) = _; rw [if_pos rfl]) (fun x y _ _ hne => by show (if x = b then _ else _) = _; rw [if_neg hne])
      have hm : sumTo (fun k => ((z' k).natAbs : Int)) (R + 1) ≤ N := by
        have h2 := sumTo_at (g := fun k => ((z k).natAbs : Int)) (e := fun k => ((z' k).natAbs : Int)) ha (fun i _ hne => by show (((if i = a then _ else z i) : Int).natAbs : Int) = _; rw [if_neg hne])
        have h3 : ((z' a).natAbs : Int) = (z a - t * z b).natAbs := by show (((if a = a then _ else z a) : Int).natAbs : Int) = _; rw [if_pos rfl]
        simp only [h3] at h2
        omega
      have hnz : ∃ k, k < R + 1 ∧ z' k ≠ 0 := ⟨b, hb, by show (if b = a then _ else z b) ≠ 0; rw [if_neg (fun e => hab e.symm)]; exact hzb⟩
      have hr : ∀ y, y < C → sumTo (fun k => z' k * f' k y) (R + 1) = 0 := fun y hy => by
        have h1 := sumTo_at (g := fun k => z k * f' k y) (e := fun k => z' k * f' k y) ha (fun i _ hne => by show (if i = a then _ else z i) * _ = _; rw [if_neg hne])
        have h2 := sumTo_at (g := fun k => z k * f k y) (e := fun k => z k * f' k y) hb (fun i _ hne => by show z i * (if i = b then _ else f i y) = _; rw [if_neg hne])
        have e1 : z' a = z a - t * z b := by show (if a = a then _ else z a) = _; rw [if_pos rfl]
        have e2 : f' a y = f a y := by show (if a = b then _ else f a y) = _; rw [if_neg hab]
        have e3 : f' b y = f b y + f a y * t := by show (if b = b then _ else f b y) = _; rw [if_pos rfl]
        simp only [e1, e2] at h1
        simp only [e3] at h2
        rw [h1, h2, hrel y hy]
        grind
      obtain ⟨g, hg1, hg2⟩ := ih R f' z' hm hnz hr
      exact ⟨g, fun i hi => (S.2 i hi).trans hg1, fun k hk => (hg2 k hk).trans S.1⟩
    · have honly : ∀ k, k < R + 1 → k ≠ a0 → z k = 0 := fun k hk hne => by
        apply Classical.byContradiction
        intro h0
        rcases Nat.le_total (z k).natAbs (z a0).natAbs with h | h
        · exact hex ⟨a0, k, ha0, hk, fun e => hne e.symm, hz0, h0, h⟩
        · exact hex ⟨k, a0, hk, ha0, hne, h0, hz0, h⟩
      have hf0 : ∀ y, y < C → f a0 y = 0 := fun y hy => by
        have h1 := hrel y hy
        rw [sumTo_one (i := a0) (R + 1) ha0 (fun k hk hne => by rw [honly k hk hne, Int.zero_mul])] at h1
        rcases Int.mul_eq_zero.1 h1 with h | h
        · exact absurd h hz0
        · exact h
      refine ⟨fun k => f (sk a0 k), fun i hi => ?_, fun k hk => Sp.row (sk_lt hk)⟩
      by_cases e : i = a0
      · exact Sp.zero fun y hy => by rw [e]; exact hf0 y hy
      · have : ∃ k, k < R ∧ sk a0 k = i := by
          rcases Nat.lt_or_ge i a0 with h | h
          · exact ⟨i, by omega, by unfold sk; rw [if_pos h]⟩
          · exact ⟨i - 1, by omega, by unfold sk; rw [if_neg (by omega)]; omega⟩
        obtain ⟨k, hk, rfl⟩ := this
        exact Sp.row (f := fun k => f (sk a0 k)) hk
theorem lat_basis {C : Nat} : ∀ (R : Nat) (f : Fn2), ∃ (r : Nat) (h : Fn2), Ind r C h ∧ (∀ i, i < R → Sp r C h (f i)) ∧ ∀ k, k < r → Sp R C f (h k)
  | 0, f => ⟨0, f, fun z _ k hk => absurd hk (Nat.not_lt_zero _), fun i hi => absurd hi (Nat.not_lt_zero _), fun k hk => absurd hk (Nat.not_lt_zero _)⟩
  | R + 1, f => by
    by_cases hi : Ind (R + 1) C f
    · exact ⟨R + 1, f, hi, fun i hi => Sp.row hi, fun k hk => Sp.row hk⟩
    · have : ∃ z : Nat → Int, (∀ y, y < C → sumTo (fun k => z k * f k y) (R + 1) = 0) ∧ ∃ k, k < R + 1 ∧ z k ≠ 0 := by
        apply Classical.byContradiction
        intro h
        refine hi fun z hz k hk => ?_
        apply Classical.byContradiction
        intro h0
        exact h ⟨z, hz, k, hk, h0⟩
      obtain ⟨z, hz, hk⟩ := this
      obtain ⟨N, hN⟩ : ∃ N : Nat, sumTo (fun k => ((z k).natAbs : Int)) (R + 1) ≤ N := ⟨(sumTo (fun k => ((z k).natAbs : Int)) (R + 1)).toNat, by omega⟩
      obtain ⟨g, g1, g2⟩ := lat_drop N R f z hN hk hz
      obtain ⟨r, h, h1, h2, h3⟩ := lat_basis R g
      exact ⟨r, h, h1, fun i hi => (g1 i hi).trans h2, fun k hk => (h3 k hk).trans g2⟩
end Go.Proofs.Ytacjonkehcamgaa

/-
  DERIVED. What EchelonOf answers, said of matrices as lists: again, mixed, turned over, two beside each other. No program in sight.
-/
namespace Go.Proofs.Ytacjonkehcamgaa
set_option linter.unusedVariables false
structure EOF_ (R C : Nat) (xs : List Int) (s : QSt) : Prop where
  m : isMat R C xs = true
  ef : EF R C s.ps.length (pf s.ps) s.f
  ok : QOk R C s.f
  sp : QSP R R C (fun i j => cel xs C i j) s.f
  nn : ∀ x ∈ s.ps, 0 ≤ x
  R24 : R ≤ 24
  C24 : C ≤ 24
theorem eo_ef {R C : Nat} {xs : List Int} {s : QSt} (h : eoX R C xs = some s) : EOF_ R C xs s := by
  unfold eoX at h
  split at h
  · rename_i hm
    have M := isMat_iff.1 hm
    have h1 := M.r1; have h2 := M.c1
    simp only [Int.toNat_natCast] at h
    obtain ⟨a1, a2, a3, a4⟩ := echQ_ef (fun i c _ _ => by
      rw [cel_nat]
      exact M.nums (i * C + c)) h
    exact ⟨hm, a1, a2, a3, a4, by omega, by omega⟩
  · cases h
theorem eo_of {R C : Nat} {f : Fn2} {s : QSt} (hm : isMat R C (tb R C f) = true) (h : echQ R C (fun i j => cel (tb R C f) C i j) = some s) : eoX R C (tb R C f) = some s := by
  unfold eoX
  rw [if_pos hm]
  simpa only [Int.toNat_natCast] using h
theorem eo_again {R C : Nat} {xs : List Int} {s : QSt} (h : eoX R C xs = some s) : ∃ s', eoX R C (tb R C s.f) = some s' ∧ s'.ps = s.ps ∧ tb R C s'.f = tb R C s.f := by
  have E := eo_ef h
  obtain ⟨s', h1, h2, h3⟩ := echQ_again (g := fun i j => cel (tb R C s.f) C i j) E.ef E.ok E.nn (fun i j hi hj => cel_tb hi hj)
  exact ⟨s', eo_of (E.ok.mat E.R24 E.C24) h1, h2, tb_ext fun i j hi hj => h3 i j hi hj⟩
theorem eo_ech {R C : Nat} {xs : List Int} {s : QSt} (h : eoX R C xs = some s) : echB R C (tb R C s.f) = true := by
  have E := eo_ef h
  exact E.ef.echelon E.ok E.R24 E.C24
theorem QSP.of {R C : Nat} {f g : Fn2} (h : SPN R C f g) : QSP R R C f g := by
  refine ⟨fun i hi => ?_, fun i hi => ?_⟩
  · obtain ⟨c, hc⟩ := h.2 i hi
    exact ⟨1, c, by decide, fun y hy => by rw [Int.one_mul]; exact hc y hy⟩
  · obtain ⟨c, hc⟩ := h.1 i hi
    exact ⟨1, c, by decide, fun y hy => by rw [Int.one_mul]; exact hc y hy⟩
theorem QSP.congr {R S C : Nat} {f g g' : Fn2} (h : QSP R S C f g) (e : EqM S C g' g) : QSP R S C f g' := by
  refine ⟨fun i hi => (h.1 i hi).trans fun k hk => ?_, fun i hi => (h.2 i hi).as (d := 1) (by decide) fun y hy => by rw [Int.one_mul]; exact e i y hi hy⟩
  exact (QS.row (f := g') hk).as (d := 1) (by decide) fun y hy => by rw [Int.one_mul]; exact (e k y hk hy).symm
/-- Of two matrices whose rows span one space the forms are equal. -/
theorem eo_same {R C : Nat} {xs ys : List Int} {s s2 : QSt} (h : eoX R C xs = some s) (h2 : eoX R C ys = some s2) (k : QSP R R C (fun i j => cel xs C i j) (fun i j => cel ys C i j)) : s2.ps = s.ps ∧ tb R C s2.f = tb R C s.f := by
  have E := eo_ef h
  have E2 := eo_ef h2
  obtain ⟨h3, h4⟩ := ech_uniq E2.ef E2.ok E2.nn E.ef E.ok E.nn ((E2.sp.symm.trans k.symm).trans E.sp)
  refine ⟨h3, tb_ext fun i j hi hj => ?_⟩
  rcases Nat.lt_or_ge i s2.ps.length with h5 | h5
  · exact h4 i j h5 hj
  · rw [E2.ef.zero i j h5 hi hj, E.ef.zero i j (by rw [← h3]; exact h5) hi hj]
theorem mul_fn {R n C : Nat} {f : Fn2} {xs : List Int} {i j : Nat} (hi : i < R) (hj : j < C) : cel (mulL (tb R n f) R n xs C) C i j = mm n f (fun i j => cel xs C i j) i j := by
  rw [cel_nat, mulL_at hi hj]
  unfold prodAt mm
  exact sumTo_congr n fun k hk => by rw [cel_tb hi hk]
theorem eo_mix {R C : Nat} {mf : Fn2} {xs : List Int} {s s2 : QSt} (hs : SPN R R idF mf) (h : eoX R C xs = some s) (h2 : eoX R C (mulL (tb R R mf) R R xs C) = some s2) : s2.ps = s.ps ∧ tb R C s2.f = tb R C s.f :=
  eo_same h h2 ((QSP.of (SPN.left (C := C) (m := fun i j => cel xs C i j) hs)).congr fun i j hi hj => mul_fn hi hj)
/-- The number of rows that are wanted to span what the matrix spans. -/
theorem eo_rk {R C : Nat} {xs : List Int} {s : QSt} (h : eoX R C xs = some s) : RKs R C s.ps.length (fun i j => cel xs C i j) ∧ ∀ n, RKs R C n (fun i j => cel xs C i j) → s.ps.length ≤ n := by
  have E := eo_ef h
  exact ⟨E.ef.rk.span E.sp.1, fun n hn => E.ef.rk_le (hn.span E.sp.2)⟩
theorem RKs.congr {R C n : Nat} {f g : Fn2} (h : RKs R C n f) (e : EqM R C g f) : RKs R C n g := by
  obtain ⟨u, hu⟩ := h
  exact ⟨u, fun i hi => (hu i hi).as (d := 1) (by decide) fun y hy => by rw [Int.one_mul]; exact e i y hi hy⟩
theorem eo_turn {R C : Nat} {xs : List Int} {s s3 : QSt} (h : eoX R C xs = some s) (h3 : eoX C R (tb C R (fun a b => cel xs C b a)) = some s3) : s3.ps.length = s.ps.length := by
  obtain ⟨a1, a2⟩ := eo_rk h
  obtain ⟨b1, b2⟩ := eo_rk h3
  refine Nat.le_antisymm (b2 _ (a1.turn.congr fun i j hi hj => cel_tb hi hj)) (a2 _ ?_)
  have b3 := b1.congr (g := fun a b => cel xs C b a) fun i j hi hj => (cel_tb (f := fun a b : Nat => cel xs C b a) hi hj).symm
  exact b3.turn
end Go.Proofs.Ytacjonkehcamgaa

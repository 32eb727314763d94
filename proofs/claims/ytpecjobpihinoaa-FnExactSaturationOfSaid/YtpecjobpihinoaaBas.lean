/-
  DERIVED. What the Hermite form leaves: rows that are not zeros ahead of rows of zeros. No program in sight. What BasisOf and KernelOf take of the Hermite form: rows 0 to t - 1, rows t and on. No program in sight. Slices of slices of ints; fromRows, takeRows. BasisOf of the program. BasisOf of the reference.
-/
import Derived.Test.YtpecjobpihinoaaPlainO
import Derived.Test.YtpecjobpihinoaaPlainL
import Derived.Test.YtpecjobpihinoaaHmT
import Derived.Test.YtpecjobpihinoaaAppend2
import Derived.Test.YtpecjobpihinoaaRow2
import Derived.Test.YtpecjobpihinoaaHmI
import Derived.Test.YtpecjobpihinoaaLat
import Derived.Test.YtpecjobpihinoaaHmF
import Derived.Deep.DrawnRows
namespace Go.Proofs.Ytpecjobpihinoaa
set_option linter.unusedVariables false
/-- Columns 0 to j - 1 are done, t rows have something in them. -/
structure ES (R j t : Nat) (f : Fn2) : Prop where
  z : ∀ i y, t ≤ i → i < R → y < j → f i y = 0
  p : ∀ i, i < t → ∃ y, y < j ∧ f i y ≠ 0
  le : t ≤ R
theorem opA_zero {f : Fn2} {R C i p x y : Nat} {q : Int} (ho : OKF R C (opA f i p q)) (hx : x < R) (hy : y < C) (h0 : f p y = 0) : opA f i p q x y = f x y := by
  by_cases hxi : x = i
  · subst hxi
    obtain ⟨-, -, he, -⟩ := opA_num (ho x y hx hy)
    rw [he, h0]; simp
  · exact opA_other hxi
theorem swS_zero {R C j p t y : Nat} {s : HS} (hn : s.NBS) (hy : y < C) (h0 : s.f p y = 0) : ∀ n, (swS j p t s n).OK R C → ∀ x, x < R → (swS j p t s n).f x y = s.f x y
  | 0, _, _, _ => rfl
  | n + 1, hk, x, hx => by
    have ih := swS_zero (j := j) (t := t) hn hy h0 n (swS_back hn hk) x hx
    rw [swS_succ] at hk ⊢
    by_cases hc : t + n ≠ p ∧ (swS j p t s n).f (t + n) j ≠ 0
    · rw [if_pos hc] at hk ⊢
      show opA _ _ _ _ x y = _
      rw [opA_zero hk.f hx hy (by rw [swS_p]; exact h0)]
      exact ih
    · rw [if_neg hc]; exact ih
theorem abS_zero {R C j t y : Nat} {s : HS} (hn : s.NBS) (hy : y < C) (h0 : s.f t y = 0) : ∀ n, n ≤ t → (abS j t s n).OK R C → ∀ x, x < R → (abS j t s n).f x y = s.f x y
  | 0, _, _, _, _ => rfl
  | n + 1, hl, hk, x, hx => by
    have ih := abS_zero (j := j) hn hy h0 n (by omega) (abS_back hn hk) x hx
    rw [abS_succ] at hk ⊢
    show opA _ _ _ _ x y = _
    rw [opA_zero hk.f hx hy (by rw [abS_late y n (by omega)]; exact h0)]
    exact ih
theorem hmIn_es {R C j t : Nat} (hj : j < C) : ∀ (k : Nat) (s : HS) (p : Nat) (s' : HS) (p' : Nat), hmMs R j t s p < k → GD R C s → ES R j t s.f → t ≤ p → p < R → s.f p j ≠ 0 → hmIn R C j t s p = some (s', p') →
    GD R C s' ∧ ES R j t s'.f ∧ t ≤ p' ∧ p' < R ∧ s'.f p' j ≠ 0 ∧ oth R s'.f j t p' = false
  | 0, _, _, _, _, hk, _, _, _, _, _, _ => absurd hk (Nat.not_lt_zero _)
  | k + 1, s, p, s', p', hk, hg, he, hp, hpR, hpj, h => by
    rcases ho : oth R s.f j t p with _ | _
    · rw [hmIn_done ho] at h
      cases h
      exact ⟨hg, he, hp, hpR, hpj, ho⟩
    · rcases hok : (swS j p t s (R - t)).ok R C with _ | _
      · rw [hmIn_bad ho hok] at h
        cases h
      · rw [hmIn_next hg.nb hj hpR hp hpj ho hok] at h
        have hk2 := (HS.ok_iff (swS_nb hg.nb _)).1 hok
        have hlt := hmMs_lt hg.nb hj hpR hp hpj ho hk2
        have hpp := swS_p (j := j) (p := p) (t := t) (s := s) j (R - t)
        rcases lst_cases R (swS j p t s (R - t)).f j t he.le with ⟨e, hz⟩ | ⟨q, e, h1, h2, h3⟩
        · exact absurd (hz p hp hpR) (by rw [hpp]; exact hpj)
        · rw [e, Int.toNat_natCast] at h hlt
          refine hmIn_es hj k _ q s' p' (by omega) ⟨hk2, swS_nb hg.nb _⟩ ⟨fun i y hi hR hy => ?_, fun i hi => ?_, he.le⟩ h1 h2 h3 h
          · rw [swS_zero hg.nb (by omega) (he.z p y hp hpR hy) _ hk2 i hR]
            exact he.z i y hi hR hy
          · obtain ⟨y, hy, hne⟩ := he.p i hi
            exact ⟨y, hy, by rw [swS_early y hi]; exact hne⟩
theorem hmFin_es {R C j t p : Nat} {s s' : HS} (hj : j < C) (hg : GD R C s) (he : ES R j t s.f) (hp : t ≤ p) (hpR : p < R) (hpj : s.f p j ≠ 0) (ho : oth R s.f j t p = false) (h : hmFin R C j t p s = some s') :
    GD R C s' ∧ ES R (j + 1) (t + 1) s'.f := by
  have htR : t < R := by omega
  unfold hmFin at h
  have g1 := hg.s1 hpR htR
  have g2 := g1.s2 (j := j) htR
  have hoz : ∀ i, t ≤ i → i < R → i ≠ p → s.f i j = 0 := fun i h1 h2 h3 => by
    refine Classical.byContradiction fun h4 => ?_
    rw [oth_iff.2 ⟨i, h1, h2, h3, h4⟩] at ho
    cases ho
  -- behind the exchange
  have e1z : ∀ i y, t ≤ i → i < R → y < j → (hmS1 t p s).f i y = 0 := fun i y h1 h2 h3 => by
    unfold hmS1
    split
    · exact he.z i y h1 h2 h3
    · show swF s.f p t i y = 0
      unfold swF
      split
      · exact he.z t y (Nat.le_refl _) htR h3
      · split
        · exact he.z p y hp hpR h3
        · exact he.z i y h1 h2 h3
  have e1j : ∀ i, t < i → i < R → (hmS1 t p s).f i j = 0 := fun i h1 h2 => by
    unfold hmS1
    split
    · rename_i e
      exact hoz i (by omega) h2 (by omega)
    · rename_i e
      show swF s.f p t i j = 0
      unfold swF
      split
      · exact hoz t (Nat.le_refl _) htR (fun e2 => e e2.symm)
      · rename_i e2
        rw [if_neg (by omega)]
        exact hoz i (by omega) h2 e2
  have e1e : ∀ i y, i < t → (hmS1 t p s).f i y = s.f i y := fun i y h1 => by
    unfold hmS1
    split
    · rfl
    · show swF s.f p t i y = _
      unfold swF
      rw [if_neg (by omega), if_neg (by omega)]
  have hpv := hmS1_piv t p j s
  generalize hmS1 t p s = s1 at *
  have hN : Num (s1.f t j) := g1.ok.f t j htR hj
  have hne2 := hmS2_piv hN (by rw [hpv]; exact hpj)
  have e2o : ∀ i y, i ≠ t → (hmS2 j t s1).f i y = s1.f i y := fun i y h1 => by
    unfold hmS2
    split
    · show opM s1.f t i y = _
      unfold opM
      rw [if_neg h1]
    · rfl
  have e2t : ∀ y, y < j → (hmS2 j t s1).f t y = 0 := fun y h1 => by
    have h0 := e1z t y (Nat.le_refl _) htR h1
    unfold hmS2
    split
    · show opM s1.f t t y = 0
      rw [opM_at (by rw [h0]; exact Num.zero), h0]; rfl
    · exact h0
  generalize hmS2 j t s1 = s2 at *
  split at h
  · rename_i hok
    cases h
    have hk := (HS.ok_iff (abS_nb g2.nb _)).1 hok
    refine ⟨⟨hk, abS_nb g2.nb _⟩, ⟨fun i y h1 h2 h3 => ?_, fun i h1 => ?_, by omega⟩⟩
    · rw [abS_late y t (by omega), e2o i y (by omega)]
      by_cases hy : y = j
      · subst hy; exact e1j i (by omega) h2
      · exact e1z i y (by omega) h2 (by omega)
    · by_cases hi : i = t
      · subst hi
        exact ⟨j, by omega, by rw [abS_late j i (Nat.le_refl _)]; exact hne2⟩
      · obtain ⟨y, hy, hne⟩ := he.p i (by omega)
        refine ⟨y, by omega, ?_⟩
        rw [abS_zero g2.nb (by omega) (e2t y hy) t (Nat.le_refl _) hk i (by omega), e2o i y hi, e1e i y (by omega)]
        exact hne
  · cases h
theorem hmOut_es {R C : Nat} : ∀ (m j t : Nat) (s : HS) (s' : HS) (t' : Nat), j + m = C → GD R C s → ES R j t s.f → hmOut R C m j t s = some (s', t') → GD R C s' ∧ ∃ j', j' ≤ C ∧ ES R j' t' s'.f ∧ (j' = C ∨ t' = R)
  | 0, j, t, s, s', t', hm, hg, he, h => by
    rw [hmOut_zero] at h
    cases h
    exact ⟨hg, j, by omega, he, .inl (by omega)⟩
  | m + 1, j, t, s, s', t', hm, hg, he, h => by
    by_cases ht : t < R
    · rcases lst_cases R s.f j t he.le with ⟨e, hz⟩ | ⟨p, e, h1, h2, h3⟩
      · rw [hmOut_skip ht (by omega)] at h
        refine hmOut_es m (j + 1) t s s' t' (by omega) hg ⟨fun i y h1 h2 h3 => ?_, fun i hi => ?_, he.le⟩ h
        · by_cases hy : y = j
          · subst hy; exact hz i h1 h2
          · exact he.z i y h1 h2 (by omega)
        · obtain ⟨y, hy, hne⟩ := he.p i hi
          exact ⟨y, by omega, hne⟩
      · rw [hmOut_go ht (by omega), e, Int.toNat_natCast] at h
        rcases hi : hmIn R C j t s p with _ | ⟨s1, p1⟩
        · rw [hi, hmGo_none] at h; cases h
        · rw [hi] at h
          obtain ⟨g1, e1, a1, a2, a3, a4⟩ := hmIn_es (by omega) _ s p s1 p1 (Nat.lt_succ_self _) hg he h1 h2 h3 hi
          rcases hf : hmFin R C j t p1 s1 with _ | s2
          · rw [hmGo_bad hf] at h; cases h
          · rw [hmGo_next hf] at h
            obtain ⟨g2, e2⟩ := hmFin_es (by omega) g1 e1 a1 a2 a3 a4 hf
            exact hmOut_es m (j + 1) (t + 1) s2 s' t' (by omega) g2 e2 h
    · rw [hmOut_full ht] at h
      cases h
      exact ⟨hg, j, by omega, he, .inr (by have := he.le; omega)⟩
/-- The rows from t on are zeros, those ahead are not. -/
theorem hmRun_rows {R C t : Nat} {f : Fn2} {s : HS} (hg : GD R C ⟨f, idF⟩) (h : hmRun R C f = some (s, t)) :
    GD R C s ∧ t ≤ R ∧ (∀ i y, t ≤ i → i < R → y < C → s.f i y = 0) ∧ ∀ i, i < t → ∃ y, y < C ∧ s.f i y ≠ 0 := by
  obtain ⟨g, j', hj, he, hx⟩ := hmOut_es C 0 0 ⟨f, idF⟩ s t (by omega) hg ⟨fun i y _ _ h => absurd h (Nat.not_lt_zero _), fun i h => absurd h (Nat.not_lt_zero _), Nat.zero_le _⟩ h
  refine ⟨g, he.le, fun i y h1 h2 h3 => ?_, fun i hi => ?_⟩
  · rcases hx with hx | hx
    · subst hx; exact he.z i y h1 h2 h3
    · omega
  · obtain ⟨y, hy, hne⟩ := he.p i hi
    exact ⟨y, by omega, hne⟩
end Go.Proofs.Ytpecjobpihinoaa
namespace Go.Proofs.Ytpecjobpihinoaa
set_option linter.unusedVariables false
theorem pv_tb {R C i : Nat} {f : Fn2} (hi : i < R) : pv (tb R C f) C i < C ↔ ∃ y, y < C ∧ f i y ≠ 0 := by
  constructor
  · intro h
    have := pv_ne (tb_len R C f) hi h
    rw [cel_tb hi h] at this
    exact ⟨_, h, this⟩
  · rintro ⟨y, hy, hne⟩
    rcases Nat.lt_or_ge (pv (tb R C f) C i) C with h | h
    · exact h
    · have := pv_zero (xs := tb R C f) (C := C) (i := i) (j := y) (by omega) hy
      rw [cel_tb hi hy] at this
      exact absurd this hne
theorem full_tb {R C t : Nat} {f : Fn2} (ht : t ≤ R) (hz : ∀ i y, t ≤ i → i < R → y < C → f i y = 0) (hp : ∀ i, i < t → ∃ y, y < C ∧ f i y ≠ 0) :
    ∀ k, k ≤ R → fullTo (tb R C f) C k = (List.range' 0 (min k t)).map Int.ofNat ∧ zeroTo (tb R C f) C k = (List.range' t (k - t)).map Int.ofNat ∧ lastR (tb R C f) C k = min k t
  | 0, _ => by simp [fullTo, zeroTo, lastR]
  | k + 1, hk => by
    obtain ⟨h1, h2, h3⟩ := full_tb ht hz hp k (by omega)
    by_cases hkt : k < t
    · have hpk : pv (tb R C f) C k < C := (pv_tb (by omega)).2 (hp k hkt)
      have e1 : min (k + 1) t = k + 1 := by omega
      have e2 : min k t = k := by omega
      have e3 : k + 1 - t = 0 := by omega
      have e4 : k - t = 0 := by omega
      rw [fullTo_yes hpk, zeroTo_yes hpk, h1, h2, e1, e2, e3, e4]
      refine ⟨?_, rfl, ?_⟩
      · rw [List.range'_concat]; simp
      · unfold lastR; rw [if_pos hpk]
    · have hpk : ¬ pv (tb R C f) C k < C := fun h => by
        obtain ⟨y, hy, hne⟩ := (pv_tb (by omega)).1 h
        exact hne (hz k y (by omega) (by omega) hy)
      have e1 : min (k + 1) t = t := by omega
      have e2 : min k t = t := by omega
      have e3 : k + 1 - t = (k - t) + 1 := by omega
      rw [fullTo_no hpk, zeroTo_no hpk, h1, h2, e1, e2, e3]
      refine ⟨rfl, ?_, ?_⟩
      · rw [List.range'_concat]
        have : t + 1 * (k - t) = k := by omega
        rw [this]; simp
      · unfold lastR; rw [if_neg hpk, h3, e2]
theorem rows_win (xs : List Int) (C a : Nat) : ∀ m, ((List.range' a m).map (rowL xs C)).flatten = (xs.drop (a * C)).take (m * C)
  | 0 => by simp
  | m + 1 => by
    rw [List.range'_concat, List.map_append, List.flatten_append, rows_win xs C a m, Nat.add_mul, Nat.one_mul, List.take_add, List.drop_drop, Nat.one_mul]
    congr 1
    simp [rowL, Nat.add_mul]
theorem tb_win {R C a m : Nat} (f : Fn2) (h : a + m ≤ R) : ((tb R C f).drop (a * C)).take (m * C) = tb m C (fun i j => f (a + i) j) := by
  have h1 := Nat.mul_le_mul_right C h
  rw [Nat.add_mul] at h1
  rw [tb_of (xs := ((tb R C f).drop (a * C)).take (m * C)) (R := m) (C := C) (by rw [List.length_take, List.length_drop, tb_len]; omega)]
  refine tb_ext fun i j hi hj => ?_
  have h2 := idx_nat hi hj
  have h3 : a * C + (i * C + j) = (a + i) * C + j := by rw [Nat.add_mul, Nat.add_assoc]
  rw [cel_nat, ← tb_at (R := R) (C := C) (f := f) (show a + i < R by omega) hj, ← h3]
  simp only [List.getD, List.getElem?_take, List.getElem?_drop, if_pos h2]
theorem tb_first {R C t : Nat} (f : Fn2) (h : t ≤ R) : (tb R C f).take (t * C) = tb t C f := by
  have := tb_win (C := C) (a := 0) (m := t) f (by omega : 0 + t ≤ R)
  rw [Nat.zero_mul, List.drop_zero] at this
  rw [this]
  exact tb_ext fun i j _ _ => by rw [Nat.zero_add]
theorem tb_last {R C t : Nat} (f : Fn2) (h : t ≤ R) : (tb R C f).drop (t * C) = tb (R - t) C (fun i j => f (t + i) j) := by
  have := tb_win (C := C) (a := t) (m := R - t) f (by omega : t + (R - t) ≤ R)
  rw [List.take_of_length_le] at this
  · exact this
  · rw [List.length_drop, tb_len, Nat.sub_mul]; omega
/-- A Hermite form's sizes, and its rows that are not zeros. -/
theorem hm_some {r c : Int} {xs : List Int} {s : HS} {t : Nat} (h : hmX r c xs = some (s, t)) :
    ∃ R C : Nat, r = R ∧ c = C ∧ R ≤ 24 ∧ C ≤ 24 ∧ t ≤ R ∧ lastR (tb R C s.f) C R = t ∧ fullTo (tb R C s.f) C R = (List.range' 0 t).map Int.ofNat ∧ zeroTo (tb R C s.f) C R = (List.range' t (R - t)).map Int.ofNat := by
  unfold hmX at h
  split at h
  · rename_i hm
    have M := isMat_iff.1 hm
    have h1 := M.r1
    have h2 := M.c1
    obtain ⟨R, rfl⟩ := nat_of M.r0
    obtain ⟨C, rfl⟩ := nat_of M.c0
    simp only [Int.toNat_natCast] at h
    obtain ⟨g1, g2, g3, g4⟩ := hmRun_rows (start_gd (R := R) (C := C) M.num) h
    obtain ⟨k1, k2, k3⟩ := full_tb g2 g3 g4 R (Nat.le_refl _)
    rw [Nat.min_eq_right g2] at k1 k3
    exact ⟨R, C, rfl, rfl, by omega, by omega, g2, k3, k1, k2⟩
  · cases h
/-- The basis: the rows that are not zeros. -/
def bsO (c : Int) : Option (HS × Nat) → Mx
  | some x => ⟨x.2, c, tb x.2 c.toNat x.1.f⟩
  | none => .none
def bsM (r c : Int) (xs : List Int) : Mx := bsO c (hmX r c xs)
def bsB (r c : Int) (xs : List Int) : Bool := (hmX r c xs).isSome
theorem bsM_len (r c : Int) (xs : List Int) : (bsM r c xs).xs.length ≤ 1048576 := by
  unfold bsM
  cases h : hmX r c xs with
  | none => exact Nat.zero_le _
  | some x =>
    obtain ⟨s, t⟩ := x
    obtain ⟨R, C, rfl, rfl, h1, h2, h3, _⟩ := hm_some h
    show (tb _ _ _).length ≤ _
    rw [tb_len, Int.toNat_natCast]
    have := Nat.mul_le_mul (show t ≤ 24 by omega) h2
    show t * C ≤ _
    omega
/-- The kernel: what makes the rows of zeros, in Hermite form. -/
def knO (r : Int) : Option (HS × Nat) → Mx
  | some x => bsM (r - x.2) r (tb (r.toNat - x.2) r.toNat fun i j => x.1.g (x.2 + i) j)
  | none => .none
def knP (r : Int) : Option (HS × Nat) → Bool
  | some x => bsB (r - x.2) r (tb (r.toNat - x.2) r.toNat fun i j => x.1.g (x.2 + i) j)
  | none => false
def knM (r c : Int) (xs : List Int) : Mx := knO r (hmX r c xs)
def knB (r c : Int) (xs : List Int) : Bool := knP r (hmX r c xs)
theorem knM_len (r c : Int) (xs : List Int) : (knM r c xs).xs.length ≤ 1048576 := by
  unfold knM
  cases h : hmX r c xs with
  | none => exact Nat.zero_le _
  | some x => exact bsM_len _ _ _
end Go.Proofs.Ytpecjobpihinoaa
namespace Go.Proofs.Ytpecjobpihinoaa
open Go.RowKit
set_option linter.unusedVariables false
set_option linter.unusedSimpArgs false
theorem sl_info : (Try.prog.info? 22).map (fun i => (i.zero, i.size, i.bytes)) = some (some (.slice none 0 0), 1, 24) := by kernel_rfl
/-- From block B on, the slice value v owns just these slice values. -/
def OS (w : World) (B : Nat) (v : Value) (vs : List Value) : Prop := w.ownsRow B 22 1 v vs.length vs
section
variable {w w' : World} {B : Nat} {v : Value} {vs : List Value}
theorem OS.kept {row : Option Nat} (h : OS w B v vs) (hg : w.grownBy w' row) (hne : v.ownBlock = none ∨ v.ownBlock ≠ row) : OS w' B v vs := World.ownsRow.kept h hg hne
theorem OS.alloc (h : OS w B v vs) (o : Obj) : OS (w.alloc o) B v vs := World.ownsRow.alloc h o
theorem OS.drew (h : OS w B v vs) : OS w.drew B v vs := h
theorem OS.drewN (h : OS w B v vs) (n : Nat) : OS (w.drewN n) B v vs := h
theorem OS.below {C : Nat} (h : OS w B v vs) (hb : Below C w w') (hC : w.heap.size ≤ C) : OS w' B v vs :=
  h.kept (row := none) ⟨hb.os, hb.tape, hb.output, hb.size, fun k hk _ => hb.block k (by omega)⟩ (by cases v.ownBlock <;> simp)
theorem OS.form (h : OS w B v vs) : (v = .slice none 0 0 ∧ vs = []) ∨ ∃ g cap, v = .slice (some ⟨g, 0, none⟩) vs.length cap ∧ B ≤ g ∧ g < w.heap.size ∧ vs.length ≤ cap ∧ cap ≤ maxLen := by
  rcases h.2 with ⟨h1, h2⟩ | ⟨g, cap, cur, h1, h2, h3, h4, h5, _⟩
  · exact .inl ⟨h1, List.eq_nil_of_length_eq_zero h2⟩
  · refine .inr ⟨g, cap, h1, h2, ?_, h4, h5⟩
    rcases Nat.lt_or_ge g w.heap.size with hlt | hge
    · exact hlt
    · rw [Array.getElem?_eq_none hge] at h3; cases h3
theorem OS.own (h : OS w B v vs) : Own v B w.heap.size := by
  intro g hg
  rcases h.form with ⟨h1, h2⟩ | ⟨g', cap', h1, h2, h3, _⟩
  · subst h1; cases hg
  · subst h1
    have e : g' = g := by simpa [Value.ownBlock] using hg
    subst e; exact ⟨h2, h3⟩
theorem OS.cell {g n cap : Nat} (h : OS w B (.slice (some ⟨g, 0, none⟩) n cap) vs) (k : Nat) (hk : k < vs.length) : w.cell? ⟨g, k, none⟩ = vs[k]? := by
  have hn : n = vs.length := by
    rcases h.2 with ⟨h1, _⟩ | ⟨g', cap', cur, h1, _⟩
    · cases h1
    · injection h1
  subst hn
  exact World.ownsRow.cellAt h k (by omega)
theorem OS.empty (w : World) (g : Nat) (hg : g = w.heap.size) {B : Nat} (hB : B ≤ w.heap.size) : OS (w.alloc (.cells #[] 22)) B (.slice (some ⟨g, 0, none⟩) 0 0) [] := by
  subst hg
  exact ⟨rfl, .inr ⟨w.heap.size, 0, #[], rfl, hB, heap_alloc_new w _, Nat.le_refl _, Nat.zero_le _, rfl, rfl⟩⟩
end
section
variable (w : World)
set_option maxRecDepth 100000 in
theorem wpList_append_sl {ops : Array Oper} {rest : List Oper} {o : Oper} {a : Act} {Q : Exit → Act → World → Prop} (hgd : o.guard = none) (s x : Operand)
    (ho : o.op = .call { callee := .builtin .append, args := #[s, x], argTypes := #[76, 76] })
    (B : Nat) (v : Value) (vs : List Value) (hs : a.eval s = v) (hown : OS w B v vs) (g : Nat) (y : Value) (hy : y.oneCell' = true) (hx : a.eval x = .slice (some ⟨g, 0, none⟩) 1 1) (hc : w.cell? ⟨g, 0, none⟩ = some y)
    (h63 : vs.length ≤ 100000000) (hbase : B ≤ w.heap.size)
    (h : ∀ v' w', OS w' B v' (vs ++ [y]) → w.grownBy w' v.ownBlock → (v'.ownBlock = v.ownBlock ∨ v'.ownBlock = some w.heap.size) → wpList Try.prog ops Q rest (a.put o.dst v') w') : wpList Try.prog ops Q (o :: rest) a w := by
  refine wpList_plain hgd fun _ hK => ?_
  obtain ⟨i0, hi, hz0, hz1, hz2⟩ := info_parts sl_info
  obtain ⟨v', w', hrun, h2, h3, _, h5⟩ := run_append_own_at (P := Try.prog) w B 76 o.type 22 i0 (.slice none 0 0) 1 24 Try.underlying76 hi hz0 hz1 hz2 rfl (by omega) v vs.length vs hown ⟨g, 0, none⟩ 1 1 [y] rfl (by
    intro j u hu
    rcases j with _ | j
    · simp at hu
      subst hu
      rw [show (⟨g, 0, none⟩ : Addr).add 0 = ⟨g, 0, none⟩ from Go.WideShapes.add_plain g 0 0, hc]
    · simp at hu) (by simp [hy]) (by unfold maxLen; omega) (by omega) hbase
  unfold Oper.wp execOp
  simp only [ho, resolve, invoke, builtin, Sem.run_bind, Sem.run_pure, Result.andThen_ok, List.map_toArray, List.map_cons, List.map_nil, hs, hx, hrun]
  exact hK _ _ (h v' w' (by
    unfold OS
    rw [List.length_append]
    exact h2) h3 h5)
end
/-- The slice value reads as these slice values. -/
def RS (w : World) (B : Nat) (A : Option Addr) (n : Nat) (vs : List Value) : Prop :=
  vs.length = n ∧ (0 < n → ∃ b o, A = some ⟨b, o, none⟩ ∧ b < B ∧ ∀ k, k < n → w.cell? ⟨b, o + k, none⟩ = vs[k]?)
/-- These slice values read as these rows. -/
def Rws (w : World) (B : Nat) (vs : List Value) (rs : List (List Int)) : Prop :=
  vs.length = rs.length ∧ ∀ k, k < rs.length → ∃ A m c, vs[k]? = some (.slice A m c) ∧ RI w B A m (rs.getD k [])
section
variable {w w' : World} {B n : Nat} {A : Option Addr} {vs : List Value} {rs : List (List Int)}
theorem RS.keep (h : RS w B A n vs) (hk : ∀ p : Addr, p.block < B → w'.cell? p = w.cell? p) : RS w' B A n vs :=
  ⟨h.1, fun hn => by
    obtain ⟨b, o, e, hb, hc⟩ := h.2 hn
    exact ⟨b, o, e, hb, fun k hkn => (hk ⟨b, o + k, none⟩ hb).trans (hc k hkn)⟩⟩
theorem RS.below {C : Nat} (h : RS w B A n vs) (hb : Below C w w') (hC : B ≤ C) : RS w' B A n vs := h.keep fun _ hp => hb.cell (by omega)
theorem RS.drewN (h : RS w B A n vs) (k : Nat) : RS (w.drewN k) B A n vs := h
theorem OS.reads {cap : Nat} (h : OS w B (.slice A n cap) vs) : RS w w.heap.size A n vs := by
  rcases h.form with ⟨h1, h2⟩ | ⟨g, cap', h1, h2, h3, _⟩
  · injection h1 with e1 e2 e3
    subst e1; subst e2; subst h2
    exact ⟨rfl, fun h => absurd h (by omega)⟩
  · injection h1 with e1 e2 e3
    subst e1; subst e2
    exact ⟨rfl, fun hn => ⟨g, 0, rfl, h3, fun k hk => by rw [Nat.zero_add]; exact h.cell k hk⟩⟩
theorem Rws.keep (h : Rws w B vs rs) (hk : ∀ p : Addr, p.block < B → w'.cell? p = w.cell? p) : Rws w' B vs rs :=
  ⟨h.1, fun k hkn => by
    obtain ⟨A, m, c, e, hr⟩ := h.2 k hkn
    exact ⟨A, m, c, e, hr.keep hk⟩⟩
theorem Rws.below {C : Nat} (h : Rws w B vs rs) (hb : Below C w w') (hC : B ≤ C) : Rws w' B vs rs := h.keep fun _ hp => hb.cell (by omega)
theorem Rws.drewN (h : Rws w B vs rs) (k : Nat) : Rws (w.drewN k) B vs rs := h
theorem Rws.more {B' : Nat} (h : Rws w B vs rs) (hB : B ≤ B') : Rws w B' vs rs :=
  ⟨h.1, fun k hkn => by
    obtain ⟨A, m, c, e, hr⟩ := h.2 k hkn
    exact ⟨A, m, c, e, hr.more hB⟩⟩
theorem Rws.nil_ (w : World) (B : Nat) : Rws w B [] [] := ⟨rfl, fun k h => absurd h (Nat.not_lt_zero _)⟩
theorem Rws.snoc {A : Option Addr} {m c : Nat} {r : List Int} (h : Rws w B vs rs) (hr : RI w B A m r) : Rws w B (vs ++ [.slice A m c]) (rs ++ [r]) := by
  refine ⟨by simp [h.1], fun k hk => ?_⟩
  have hl := h.1
  simp at hk
  by_cases hlt : k < rs.length
  · obtain ⟨A', m', c', e, hr'⟩ := h.2 k hlt
    refine ⟨A', m', c', ?_, ?_⟩
    · rw [List.getElem?_append_left (by omega)]; exact e
    · rw [List.getD, List.getElem?_append_left hlt]; exact hr'
  · obtain rfl : k = rs.length := by omega
    refine ⟨A, m, c, ?_, ?_⟩
    · rw [← hl]; simp
    · simpa using hr
end
theorem flat_take {rs : List (List Int)} {k : Nat} (h : k < rs.length) : (rs.take (k + 1)).flatten = (rs.take k).flatten ++ rs.getD k [] := by
  rw [List.take_succ_eq_append_getElem h, List.flatten_append]
  congr 1
  simp [List.getD, h]
theorem flat_len {rs : List (List Int)} {L : Nat} (h : ∀ k, k < rs.length → (rs.getD k []).length ≤ L) : ∀ k, k ≤ rs.length → (rs.take k).flatten.length ≤ k * L
  | 0, _ => by simp
  | k + 1, hk => by
    rw [flat_take (by omega), List.length_append, Nat.add_mul, Nat.one_mul]
    have := flat_len h k (by omega)
    have := h k (by omega)
    omega
set_option maxRecDepth 100000 in
set_option maxHeartbeats 4000000 in
theorem impl_fromRows (C n cap : Nat) (A : Option Addr) (vs : List Value) (rs : List (List Int)) (w : World) {B : Nat} (h : RS w B A n vs) (hr : Rws w B vs rs) (hB : B ≤ w.heap.size) (hn : n ≤ 1000) (hL : ∀ k, k < rs.length → (rs.getD k []).length ≤ 1000) :
    Calls Try.prog 137 #[.slice A n cap, .int .i64 C] w (MR ⟨n, C, rs.flatten⟩ w) := by
  have hlen : rs.length = n := by have := hr.1; have := h.1; omega
  have HL := Lib.hid hL
  have H := Lib.hid h
  have HR := Lib.hid hr
  have HE := Lib.hid hlen
  clear hL h hr hlen
  go_enter Try.func137, Try.ntmps137
  go_wp2_with fail
  go_loopw [15] (fun v wr => ∃ (k : Nat) (A' : Option Addr) (m c : Nat), v = .int .i64 k ∧ k ≤ n ∧ BM wr w.heap.size 0 0 none 0 0 ∧ BM wr (w.heap.size + 1 + 1) n C A' m c ∧ OR wr (w.heap.size + 1) (.slice A' m c) (rs.take k).flatten ∧ (∀ g, (Value.slice A' m c).ownBlock = some g → g ≠ w.heap.size + 1 + 1) ∧ Below w.heap.size w wr) (fun v _ => n - (intOf v).toNat)
  case atStart =>
    refine ⟨0, _, _, _, rfl, Nat.zero_le _, by (repeat (first | (with_reducible assumption) | (with_reducible refine BX.new _ _ _ _ _ _ _ _ (by first | omega | (simp; done) | (simp; omega))) | (with_reducible refine BX.below ?_ (by assumption) (by first | omega | (simp; done) | (simp; omega))) | (with_reducible apply BX.drew) | (with_reducible apply BX.drewN) | (with_reducible refine BX.put ?_) | (with_reducible refine BX.put2 ?_) | (with_reducible refine BX.far ?_ (by simp only [ne_eq]; omega) _) | (with_reducible apply BX.alloc) | (with_reducible refine B3.new _ _ _ _ _ _ (by first | omega | (simp; done) | (simp; omega))) | (with_reducible refine B3.of (by assumption)) | (with_reducible refine B3.below ?_ (by assumption) (by first | omega | (simp; done) | (simp; omega))) | (with_reducible apply B3.drew) | (with_reducible apply B3.drewN) | (with_reducible refine B3.far ?_ (by simp only [ne_eq]; omega) _) | (with_reducible apply B3.alloc))), by (repeat (first | (with_reducible assumption) | (with_reducible refine BX.new _ _ _ _ _ _ _ _ (by first | omega | (simp; done) | (simp; omega))) | (with_reducible refine BX.below ?_ (by assumption) (by first | omega | (simp; done) | (simp; omega))) | (with_reducible apply BX.drew) | (with_reducible apply BX.drewN) | (with_reducible refine BX.put ?_) | (with_reducible refine BX.put2 ?_) | (with_reducible refine BX.far ?_ (by simp only [ne_eq]; omega) _) | (with_reducible apply BX.alloc) | (with_reducible refine B3.new _ _ _ _ _ _ (by first | omega | (simp; done) | (simp; omega))) | (with_reducible refine B3.of (by assumption)) | (with_reducible refine B3.below ?_ (by assumption) (by first | omega | (simp; done) | (simp; omega))) | (with_reducible apply B3.drew) | (with_reducible apply B3.drewN) | (with_reducible refine B3.far ?_ (by simp only [ne_eq]; omega) _) | (with_reducible apply B3.alloc))), ?_, ?_, by (repeat (first | (with_reducible exact Below.refl _ _) | (with_reducible assumption) | (with_reducible refine below_drewN ?_ _) | (with_reducible refine Below.drew ?_) | (with_reducible refine Below.alloc ?_ ?_ _) | (with_reducible refine Below.setCell ?_ ?_ _) | (with_reducible refine below_into ?_ (by assumption) (by first | omega | (simp; done) | (simp; omega))) | go_size))⟩
    · rw [List.take_zero, List.flatten_nil]
      refine OR.alloc ?_ _
      exact OR.empty' _ (w.heap.size + 1) (by simp) (by simp)
    · intro g hg
      simp [Value.ownBlock] at hg
      omega
  case round =>
    obtain ⟨k, A', m, c, rfl, hk, hR, hO, ho, hne, hbw⟩ := hrel
    obtain ⟨ra, rb, rc, rf, rl⟩ := hR.mx
    obtain ⟨oa, ob, oc, of, ol⟩ := hO.mx
    by_cases hlt : k < n
    · have hkr : k < rs.length := by have := HE.out; omega
      obtain ⟨b, o, rfl, hbb, hcells⟩ := (H.out.below hbw hB).2 (by omega)
      obtain ⟨A1, m1, c1, e1, hri⟩ := HR.out.2 k hkr
      have ck := (hcells k hlt).trans e1
      have hri2 := Lib.hid (hri.below hbw hB)
      have E := Lib.hid (flat_take hkr)
      have hl1 := flat_len (L := 1000) HL.out k (by omega)
      have hl2 := HL.out k hkr
      have hl3 := hri.len
      clear hcells e1 hri hkr
      generalize hy : rs.getD k [] = ys at *
      clear hy
      generalize hz : (rs.take k).flatten = zs at *
      clear hz
      go_wp2_with (at_builtin; refine wpList_append_ints _ rfl (.tmp 20) (.tmp 21) rfl (w.heap.size + 1) _ zs rfl ?c1 B A1 m1 c1 ys rfl ?c2 ?c3 ?c4 ?_)
      case c1 => exact ho
      case c2 => exact hri2.out
      case c3 => omega
      case c4 => omega
      intro v1 w2 hown1 hgr hat
      obtain ⟨A2, m2, c2, rfl⟩ : ∃ A m c, v1 = .slice A m c := by
        rcases hown1.form with ⟨h1, _⟩ | ⟨g, cap, h1, _⟩
        · exact ⟨_, _, _, h1⟩
        · exact ⟨_, _, _, h1⟩
      have hR2 := hR.grown hgr (ho.ne_low (by omega))
      have hO2 := hO.grown hgr (fun e => hne _ e.symm rfl)
      have hne2 : ∀ g, (Value.slice A2 m2 c2).ownBlock = some g → g ≠ w.heap.size + 1 + 1 := by
        intro g hg
        rcases hat with e | e
        · exact hne g (e ▸ hg)
        · rw [e] at hg
          injection hg with hg
          omega
      have hb2 : Below w.heap.size w w2 := hbw.trans ((ho.below_grown hgr (by omega)).mono (by omega))
      have HNE := Lib.hid hne2
      clear hgr hat hR hO ho hne hne2 hbw ra rb rc rf rl oa ob oc of ol
      obtain ⟨ra, rb, rc, rf, rl⟩ := hR2.mx
      obtain ⟨oa, ob, oc, of, ol⟩ := hO2.mx
      go_wp2_with fail
      go_roundw
      case rel => exact ⟨k + 1, A2, m2, c2, by go_num, by omega, by (repeat (first | (with_reducible exact hR2) | (with_reducible refine BX.new _ _ _ _ _ _ _ _ (by first | omega | (simp; done) | (simp; omega))) | (with_reducible refine BX.below ?_ (by assumption) (by first | omega | (simp; done) | (simp; omega))) | (with_reducible apply BX.drew) | (with_reducible apply BX.drewN) | (with_reducible refine BX.put ?_) | (with_reducible refine BX.put2 ?_) | (with_reducible refine BX.far ?_ (by simp only [ne_eq]; omega) _) | (with_reducible apply BX.alloc) | (with_reducible refine B3.new _ _ _ _ _ _ (by first | omega | (simp; done) | (simp; omega))) | (with_reducible exact B3.of hR2) | (with_reducible refine B3.below ?_ (by assumption) (by first | omega | (simp; done) | (simp; omega))) | (with_reducible apply B3.drew) | (with_reducible apply B3.drewN) | (with_reducible refine B3.far ?_ (by simp only [ne_eq]; omega) _) | (with_reducible apply B3.alloc))), hO2.put2, by rw [E.out]; exact OR.far hown1 (fun e => HNE.out _ e rfl) _, HNE.out, by (repeat (first | (with_reducible exact Below.refl _ _) | (with_reducible assumption) | (with_reducible refine below_drewN ?_ _) | (with_reducible refine Below.drew ?_) | (with_reducible refine Below.alloc ?_ ?_ _) | (with_reducible refine Below.setCell ?_ ?_ _) | (with_reducible refine below_into ?_ (by assumption) (by first | omega | (simp; done) | (simp; omega))) | go_size))⟩
      case measure => simp only [intOf]; omega
    · obtain rfl : k = n := by omega
      have HF := Lib.hid (show rs.take k = rs by rw [List.take_of_length_le (by have := HE.out; omega)])
      rw [HF.out] at ho
      have HNE := Lib.hid hne
      clear hne
      go_wp2_with fail
      refine ret_M (r := k) (c := C) (A := A') (n := m) (cap := c) Try.results137 rfl (BX.put (B3.of hR)) rfl ?_
      exact MR.mk rfl (OR.mono (B := w.heap.size + 1) (by (repeat (first | (with_reducible exact ho) | (with_reducible refine OR.drew ?_) | (with_reducible refine OR.drewN ?_ _) | (with_reducible refine OR.alloc ?_ _) | (with_reducible refine OR.below ?_ (by assumption) (by first | omega | (simp; done) | (simp; omega))) | (with_reducible refine OR.low ?_ (by first | omega | (simp only []; omega) | (simp; omega)) _)))) (by omega)) (by (repeat (first | (with_reducible exact Below.refl _ _) | (with_reducible assumption) | (with_reducible refine below_drewN ?_ _) | (with_reducible refine Below.drew ?_) | (with_reducible refine Below.alloc ?_ ?_ _) | (with_reducible refine Below.setCell ?_ ?_ _) | (with_reducible refine below_into ?_ (by assumption) (by first | omega | (simp; done) | (simp; omega))) | go_size)))
set_option maxRecDepth 100000 in
set_option maxHeartbeats 4000000 in
theorem impl_takeRows (R C : Nat) (A : Option Addr) (n cap : Nat) (xs : List Int) (A2 : Option Addr) (n2 cap2 : Nat) (ks : List Nat) (w : World) {B : Nat} (h : RI w B A n xs) (hB : B ≤ w.heap.size) (hnc : n ≤ cap) (hcap : cap ≤ 9223372036854775807)
    (hl : xs.length = R * C) (hR : R ≤ 24) (hC : C ≤ 24) (h2 : RI w B A2 n2 (ks.map fun k => ((k : Nat) : Int))) (hk : ∀ k, k < ks.length → ks.getD k 0 < R) (hn2 : n2 ≤ 1000) :
    Calls Try.prog 97 #[.agg #[.int .i64 R, .int .i64 C, .slice A n cap], .slice A2 n2 cap2] w (MR ⟨n2, C, (ks.map (rowL xs C)).flatten⟩ w) := by
  have hlen := h.len
  have hlk : ks.length = n2 := by have := h2.len; rw [List.length_map] at this; exact this
  have hln : n ≤ R * C ∧ R * C ≤ n := by omega
  have HLX := Lib.hid hl
  have H := Lib.hid h
  have H2 := Lib.hid h2
  have HK := Lib.hid hk
  have HE := Lib.hid hlk
  clear h h2 hk hl hlk hlen
  go_enter Try.func97, Try.ntmps97
  go_wp2_with fail
  go_loopw [5, 11] (fun vl u wr => ∃ (k : Nat) (vs : List Value), u = .int .i64 k ∧ k ≤ n2 ∧ OS wr (w.heap.size + 1 + 1) vl vs ∧ Rws wr B vs ((ks.take k).map (rowL xs C)) ∧ BM wr w.heap.size R C A n cap ∧ BM wr (w.heap.size + 1) 0 0 none 0 0 ∧ Below w.heap.size w wr) (fun _ v _ => n2 - (intOf v).toNat)
  case atStart =>
    refine ⟨0, [], rfl, Nat.zero_le _, ?_, Rws.nil_ _ _, by (repeat (first | (with_reducible assumption) | (with_reducible refine BX.new _ _ _ _ _ _ _ _ (by first | omega | (simp; done) | (simp; omega))) | (with_reducible refine BX.below ?_ (by assumption) (by first | omega | (simp; done) | (simp; omega))) | (with_reducible apply BX.drew) | (with_reducible apply BX.drewN) | (with_reducible refine BX.put ?_) | (with_reducible refine BX.put2 ?_) | (with_reducible refine BX.far ?_ (by simp only [ne_eq]; omega) _) | (with_reducible apply BX.alloc) | (with_reducible refine B3.new _ _ _ _ _ _ (by first | omega | (simp; done) | (simp; omega))) | (with_reducible refine B3.of (by assumption)) | (with_reducible refine B3.below ?_ (by assumption) (by first | omega | (simp; done) | (simp; omega))) | (with_reducible apply B3.drew) | (with_reducible apply B3.drewN) | (with_reducible refine B3.far ?_ (by simp only [ne_eq]; omega) _) | (with_reducible apply B3.alloc))), by (repeat (first | (with_reducible assumption) | (with_reducible refine BX.new _ _ _ _ _ _ _ _ (by first | omega | (simp; done) | (simp; omega))) | (with_reducible refine BX.below ?_ (by assumption) (by first | omega | (simp; done) | (simp; omega))) | (with_reducible apply BX.drew) | (with_reducible apply BX.drewN) | (with_reducible refine BX.put ?_) | (with_reducible refine BX.put2 ?_) | (with_reducible refine BX.far ?_ (by simp only [ne_eq]; omega) _) | (with_reducible apply BX.alloc) | (with_reducible refine B3.new _ _ _ _ _ _ (by first | omega | (simp; done) | (simp; omega))) | (with_reducible refine B3.of (by assumption)) | (with_reducible refine B3.below ?_ (by assumption) (by first | omega | (simp; done) | (simp; omega))) | (with_reducible apply B3.drew) | (with_reducible apply B3.drewN) | (with_reducible refine B3.far ?_ (by simp only [ne_eq]; omega) _) | (with_reducible apply B3.alloc))), by (repeat (first | (with_reducible exact Below.refl _ _) | (with_reducible assumption) | (with_reducible refine below_drewN ?_ _) | (with_reducible refine Below.drew ?_) | (with_reducible refine Below.alloc ?_ ?_ _) | (with_reducible refine Below.setCell ?_ ?_ _) | (with_reducible refine below_into ?_ (by assumption) (by first | omega | (simp; done) | (simp; omega))) | go_size))⟩
    exact OS.empty _ (w.heap.size + 1 + 1) (by simp) (by simp)
  case round =>
    obtain ⟨k, vs, rfl, hk, hL, hW, hO, hR0, hbw⟩ := hrel
    obtain ⟨oa, ob, oc, of, ol⟩ := hO.mx
    obtain ⟨ra, rb, rc, rf, rl⟩ := hR0.mx
    by_cases hlt : k < n2
    · obtain ⟨b, o, rfl, hbb, hcells⟩ := (H2.out.below hbw hB).2 (by omega)
      have ck := hcells k hlt
      have hkl : k < ks.length := by have := HE.out; omega
      have hi := HK.out k hkl
      have e1 : (ks.map fun k => ((k : Nat) : Int)).getD k 0 = ((ks.getD k 0 : Nat) : Int) := by simp [List.getD, hkl]
      have hl1 := hW.1
      rw [List.length_map, List.length_take] at hl1
      have E : Hid ((ks.take (k + 1)).map (rowL xs C) = (ks.take k).map (rowL xs C) ++ [rowL xs C (ks.getD k 0)]) := Lib.hid (by
        rw [List.take_succ_eq_append_getElem hkl, List.map_append]
        congr 1
        simp [List.getD, hkl])
      rw [e1] at ck
      have HW := Lib.hid hW
      clear hcells e1 hkl hW
      generalize ks.getD k 0 = i at *
      have HI : Hid (i * C + C ≤ n) := Lib.hid (by have h3 := Nat.mul_le_mul_right C (show i + 1 ≤ R by omega); rw [Nat.add_mul, Nat.one_mul] at h3; omega)
      go_wp2_with fail
      refine (impl_row R C i A n cap xs _ (B := B) (H.out.below hbw hB) (by omega) hnc hcap (by omega) (by omega) HI.out).mono ?_
      rintro e w1 ⟨A', cap', rfl, hri, hb, hc1, hc2⟩
      have hsz := hb.size
      (try simp at hsz)
      have hL1 : OS w1 (w.heap.size + 1 + 1) _ vs := hL.below hb (Nat.le_refl _)
      have hW1 : Rws w1 B vs _ := HW.out.below hb (by omega)
      have hO1 : BM w1 w.heap.size R C A n cap := by (repeat (first | (with_reducible exact hO) | (with_reducible refine BX.new _ _ _ _ _ _ _ _ (by first | omega | (simp; done) | (simp; omega))) | (with_reducible refine BX.below ?_ (by assumption) (by first | omega | (simp; done) | (simp; omega))) | (with_reducible apply BX.drew) | (with_reducible apply BX.drewN) | (with_reducible refine BX.put ?_) | (with_reducible refine BX.put2 ?_) | (with_reducible refine BX.far ?_ (by simp only [ne_eq]; omega) _) | (with_reducible apply BX.alloc) | (with_reducible refine B3.new _ _ _ _ _ _ (by first | omega | (simp; done) | (simp; omega))) | (with_reducible exact B3.of hO) | (with_reducible refine B3.below ?_ (by assumption) (by first | omega | (simp; done) | (simp; omega))) | (with_reducible apply B3.drew) | (with_reducible apply B3.drewN) | (with_reducible refine B3.far ?_ (by simp only [ne_eq]; omega) _) | (with_reducible apply B3.alloc)))
      have hR1 : BM w1 (w.heap.size + 1) 0 0 none 0 0 := by (repeat (first | (with_reducible exact hR0) | (with_reducible refine BX.new _ _ _ _ _ _ _ _ (by first | omega | (simp; done) | (simp; omega))) | (with_reducible refine BX.below ?_ (by assumption) (by first | omega | (simp; done) | (simp; omega))) | (with_reducible apply BX.drew) | (with_reducible apply BX.drewN) | (with_reducible refine BX.put ?_) | (with_reducible refine BX.put2 ?_) | (with_reducible refine BX.far ?_ (by simp only [ne_eq]; omega) _) | (with_reducible apply BX.alloc) | (with_reducible refine B3.new _ _ _ _ _ _ (by first | omega | (simp; done) | (simp; omega))) | (with_reducible exact B3.of hR0) | (with_reducible refine B3.below ?_ (by assumption) (by first | omega | (simp; done) | (simp; omega))) | (with_reducible apply B3.drew) | (with_reducible apply B3.drewN) | (with_reducible refine B3.far ?_ (by simp only [ne_eq]; omega) _) | (with_reducible apply B3.alloc)))
      have hbw1 : Below w.heap.size w w1 := by (repeat (first | (with_reducible exact Below.refl _ _) | (with_reducible assumption) | (with_reducible refine below_drewN ?_ _) | (with_reducible refine Below.drew ?_) | (with_reducible refine Below.alloc ?_ ?_ _) | (with_reducible refine Below.setCell ?_ ?_ _) | (with_reducible refine below_into ?_ (by assumption) (by first | omega | (simp; done) | (simp; omega))) | go_size))
      have HRI := Lib.hid hri
      have HW1 := Lib.hid hW1
      clear hri hW1 hL hO hR0 hbw hb oa ob oc of ol ra rb rc rf rl
      obtain ⟨oa, ob, oc, of, ol⟩ := hO1.mx
      obtain ⟨ra, rb, rc, rf, rl⟩ := hR1.mx
      go_wp2_with (at_builtin; refine wpList_append_sl _ rfl (.tmp 15) (.tmp 19) rfl (w.heap.size + 1 + 1) _ vs rfl (hL1.alloc _) _ (.slice A' C cap') rfl rfl ?f1 ?f2 ?f3 ?_)
      case f1 => simp [go_sem]
      case f2 => omega
      case f3 => simp; omega
      intro v1 w2 hown1 hgr hat
      have hne1 : ∀ b, b < w.heap.size + 1 + 1 → some b ≠ (u5 : Value).ownBlock := fun b hb e => by have := (hL1.own b e.symm).1; omega
      have hO2 := (hO1.alloc (.cells #[.slice A' C cap'] 22)).grown hgr (hne1 _ (by omega))
      have hR2 := (hR1.alloc (.cells #[.slice A' C cap'] 22)).grown hgr (hne1 _ (by omega))
      have hb2 : Below (w.heap.size + 1 + 1) (w1.alloc (.cells #[.slice A' C cap'] 22)) w2 := only_below hgr (by simp; omega) (fun g e => (hL1.own g e).1)
      have hb3 : Below w.heap.size w w2 := (show Below w.heap.size w (w1.alloc (.cells #[.slice A' C cap'] 22)) by (repeat (first | (with_reducible exact Below.refl _ _) | (with_reducible assumption) | (with_reducible refine below_drewN ?_ _) | (with_reducible refine Below.drew ?_) | (with_reducible refine Below.alloc ?_ ?_ _) | (with_reducible refine Below.setCell ?_ ?_ _) | (with_reducible refine below_into ?_ (by assumption) (by first | omega | (simp; done) | (simp; omega))) | go_size))).trans (hb2.mono (by omega))
      have hk2 : ∀ p : Addr, p.block < B → w2.cell? p = w1.cell? p := fun p hp => (hb2.cell (by omega)).trans (World.cell?_alloc_lt w1 _ p (by omega))
      have hW2 : Hid (Rws w2 B (vs ++ [.slice A' C cap']) ((ks.take (k + 1)).map (rowL xs C))) := Lib.hid (by
        rw [E.out]
        exact (HW1.out.keep hk2).snoc (HRI.out.keep hk2))
      clear hgr hat hL1 hO1 hR1 hbw1 HW1 HRI hk2 hb2 hne1 oa ob oc of ol ra rb rc rf rl
      go_wp2_with fail
      go_roundw
      case rel => exact ⟨k + 1, _, by go_num, by omega, hown1, hW2.out, by (repeat (first | (with_reducible exact hO2) | (with_reducible refine BX.new _ _ _ _ _ _ _ _ (by first | omega | (simp; done) | (simp; omega))) | (with_reducible refine BX.below ?_ (by assumption) (by first | omega | (simp; done) | (simp; omega))) | (with_reducible apply BX.drew) | (with_reducible apply BX.drewN) | (with_reducible refine BX.put ?_) | (with_reducible refine BX.put2 ?_) | (with_reducible refine BX.far ?_ (by simp only [ne_eq]; omega) _) | (with_reducible apply BX.alloc) | (with_reducible refine B3.new _ _ _ _ _ _ (by first | omega | (simp; done) | (simp; omega))) | (with_reducible exact B3.of hO2) | (with_reducible refine B3.below ?_ (by assumption) (by first | omega | (simp; done) | (simp; omega))) | (with_reducible apply B3.drew) | (with_reducible apply B3.drewN) | (with_reducible refine B3.far ?_ (by simp only [ne_eq]; omega) _) | (with_reducible apply B3.alloc))), by (repeat (first | (with_reducible exact hR2) | (with_reducible refine BX.new _ _ _ _ _ _ _ _ (by first | omega | (simp; done) | (simp; omega))) | (with_reducible refine BX.below ?_ (by assumption) (by first | omega | (simp; done) | (simp; omega))) | (with_reducible apply BX.drew) | (with_reducible apply BX.drewN) | (with_reducible refine BX.put ?_) | (with_reducible refine BX.put2 ?_) | (with_reducible refine BX.far ?_ (by simp only [ne_eq]; omega) _) | (with_reducible apply BX.alloc) | (with_reducible refine B3.new _ _ _ _ _ _ (by first | omega | (simp; done) | (simp; omega))) | (with_reducible exact B3.of hR2) | (with_reducible refine B3.below ?_ (by assumption) (by first | omega | (simp; done) | (simp; omega))) | (with_reducible apply B3.drew) | (with_reducible apply B3.drewN) | (with_reducible refine B3.far ?_ (by simp only [ne_eq]; omega) _) | (with_reducible apply B3.alloc))), by (repeat (first | (with_reducible exact Below.refl _ _) | (with_reducible assumption) | (with_reducible refine below_drewN ?_ _) | (with_reducible refine Below.drew ?_) | (with_reducible refine Below.alloc ?_ ?_ _) | (with_reducible refine Below.setCell ?_ ?_ _) | (with_reducible refine below_into ?_ (by assumption) (by first | omega | (simp; done) | (simp; omega))) | go_size))⟩
      case measure => simp only [intOf]; omega
    · obtain rfl : k = n2 := by omega
      obtain ⟨A3, m3, c3, rfl⟩ : ∃ A m c, u5 = .slice A m c := by
        rcases hL.form with ⟨h1, _⟩ | ⟨g, cap, h1, _⟩
        · exact ⟨_, _, _, h1⟩
        · exact ⟨_, _, _, h1⟩
      have hm3 : vs.length = m3 := hL.reads.1
      have hl1 := hW.1
      rw [List.take_of_length_le (by have := HE.out; omega)] at hW hl1
      rw [List.length_map, HE.out] at hl1
      obtain rfl : m3 = k := by omega
      have HRL : Hid (∀ j, j < (ks.map (rowL xs C)).length → ((ks.map (rowL xs C)).getD j []).length ≤ 1000) := Lib.hid (fun j hj => by
        rw [List.length_map] at hj
        have h4 := HK.out j hj
        have h3 := Nat.mul_le_mul_right C (show ks.getD j 0 + 1 ≤ R by omega)
        rw [Nat.add_mul, Nat.one_mul] at h3
        rw [show (ks.map (rowL xs C)).getD j [] = rowL xs C (ks.getD j 0) by simp [List.getD, hj], rowL_len (by have := HLX.out; omega)]
        omega)
      have HRS := Lib.hid hL.reads
      have HW := Lib.hid hW
      clear hW hL hm3 hl1
      go_wp2_with fail
      refine (impl_fromRows C m3 c3 A3 vs (ks.map (rowL xs C)) _ (B := wr.heap.size) HRS.out (HW.out.more (by omega)) (by simp) (by omega) HRL.out).mono ?_
      rintro e w1 ⟨A4, m4, c4, rfl, ho4, hb4⟩
      have hsz := hb4.size
      (try simp at hsz)
      have hR1 : BM w1 (w.heap.size + 1) 0 0 none 0 0 := by (repeat (first | (with_reducible exact hR0) | (with_reducible refine BX.new _ _ _ _ _ _ _ _ (by first | omega | (simp; done) | (simp; omega))) | (with_reducible refine BX.below ?_ (by assumption) (by first | omega | (simp; done) | (simp; omega))) | (with_reducible apply BX.drew) | (with_reducible apply BX.drewN) | (with_reducible refine BX.put ?_) | (with_reducible refine BX.put2 ?_) | (with_reducible refine BX.far ?_ (by simp only [ne_eq]; omega) _) | (with_reducible apply BX.alloc) | (with_reducible refine B3.new _ _ _ _ _ _ (by first | omega | (simp; done) | (simp; omega))) | (with_reducible exact B3.of hR0) | (with_reducible refine B3.below ?_ (by assumption) (by first | omega | (simp; done) | (simp; omega))) | (with_reducible apply B3.drew) | (with_reducible apply B3.drewN) | (with_reducible refine B3.far ?_ (by simp only [ne_eq]; omega) _) | (with_reducible apply B3.alloc)))
      have hbw1 : Below w.heap.size w w1 := by (repeat (first | (with_reducible exact Below.refl _ _) | (with_reducible assumption) | (with_reducible refine below_drewN ?_ _) | (with_reducible refine Below.drew ?_) | (with_reducible refine Below.alloc ?_ ?_ _) | (with_reducible refine Below.setCell ?_ ?_ _) | (with_reducible refine below_into ?_ (by assumption) (by first | omega | (simp; done) | (simp; omega))) | go_size))
      have hlw := hR0.lt
      clear hR0 hb4 hbw ra rb rc rf rl oa ob oc of ol hO
      obtain ⟨ra, rb, rc, rf, rl⟩ := hR1.mx
      go_wp2_with fail
      refine ret_M (r := m3) (c := C) (A := A4) (n := m4) (cap := c4) Try.results97 rfl (BX.put (B3.of hR1)) rfl ?_
      exact MR.mk rfl (OR.mono (B := wr.heap.size) (by (repeat (first | (with_reducible exact ho4) | (with_reducible refine OR.drew ?_) | (with_reducible refine OR.drewN ?_ _) | (with_reducible refine OR.alloc ?_ _) | (with_reducible refine OR.below ?_ (by assumption) (by first | omega | (simp; done) | (simp; omega))) | (with_reducible refine OR.low ?_ (by first | omega | (simp only []; omega) | (simp; omega)) _)))) (by omega)) (by (repeat (first | (with_reducible exact Below.refl _ _) | (with_reducible assumption) | (with_reducible refine below_drewN ?_ _) | (with_reducible refine Below.drew ?_) | (with_reducible refine Below.alloc ?_ ?_ _) | (with_reducible refine Below.setCell ?_ ?_ _) | (with_reducible refine below_into ?_ (by assumption) (by first | omega | (simp; done) | (simp; omega))) | go_size)))
end Go.Proofs.Ytpecjobpihinoaa
namespace Go.Proofs.Ytpecjobpihinoaa
open Go.RowKit
set_option linter.unusedVariables false
set_option linter.unusedSimpArgs false
theorem sliceForm_OR {w : World} {B : Nat} {v : Value} {xs : List Int} (h : OR w B v xs) : ∃ A m c, v = .slice A m c := by
  rcases h.form with ⟨h1, _⟩ | ⟨g, cap, h1, _⟩
  · exact ⟨_, _, _, h1⟩
  · exact ⟨_, _, _, h1⟩
set_option maxRecDepth 100000 in
set_option maxHeartbeats 8000000 in
theorem impl_BasisOf (r c : Int) (A : Option Addr) (n cap : Nat) (xs : List Int) (w : World) {B : Nat} (h : RI w B A n xs) (hB : B ≤ w.heap.size) (hn : n ≤ 1048576) :
    Calls Try.prog 36 #[.agg #[.int .i64 r, .int .i64 c, .slice A n cap]] w (MBR (bsM r c xs) (bsB r c xs) w) := by
  have hlen := h.len
  have H2 := Lib.hid (h.more hB)
  clear h
  unfold bsM bsB
  rcases hX : hmX r c xs with _ | ⟨s, t⟩
  · have HH : Hid (∀ w', RI w' w.heap.size A n xs → w.heap.size ≤ w'.heap.size → Calls Try.prog 26 #[.agg #[.int .i64 r, .int .i64 c, .slice A n cap]] w' (M2R ⟨0, 0, []⟩ ⟨0, 0, []⟩ false w')) := Lib.hid (fun w' k1 k2 => by
      have := impl_HermiteForm r c A n cap xs w' k1 k2 hn
      unfold hmM hmU at this
      rw [hX] at this
      exact this)
    clear hX
    go_enter Try.func36, Try.ntmps36
    go_wp2_with fail
    refine (HH.out _ (by (repeat (first | (with_reducible exact H2.out) | (with_reducible refine RI.drew ?_) | (with_reducible refine RI.drewN ?_ _) | (with_reducible refine RI.alloc ?_ (by first | omega | (simp; done) | (simp; omega)) _) | (with_reducible refine RI.setCell ?_ (by first | omega | (simp; done) | (simp; omega)) _) | (with_reducible refine RI.below ?_ (by assumption) (by first | omega | (simp; done) | (simp; omega)))))) (by first | omega | (simp; done) | (simp; omega))).mono ?_
    rintro e w1 ⟨A1, n1, cap1, A2, n2, cap2, rfl, -, -, -, hb1⟩
    have hsz := hb1.size
    (try simp at hsz)
    have hR : BM w1 (w.heap.size + 1) 0 0 none 0 0 := by (repeat (first | (with_reducible assumption) | (with_reducible refine BX.new _ _ _ _ _ _ _ _ (by first | omega | (simp; done) | (simp; omega))) | (with_reducible refine BX.below ?_ (by assumption) (by first | omega | (simp; done) | (simp; omega))) | (with_reducible apply BX.drew) | (with_reducible apply BX.drewN) | (with_reducible refine BX.put ?_) | (with_reducible refine BX.put2 ?_) | (with_reducible refine BX.far ?_ (by simp only [ne_eq]; omega) _) | (with_reducible apply BX.alloc) | (with_reducible refine B3.new _ _ _ _ _ _ (by first | omega | (simp; done) | (simp; omega))) | (with_reducible refine B3.of (by assumption)) | (with_reducible refine B3.below ?_ (by assumption) (by first | omega | (simp; done) | (simp; omega))) | (with_reducible apply B3.drew) | (with_reducible apply B3.drewN) | (with_reducible refine B3.far ?_ (by simp only [ne_eq]; omega) _) | (with_reducible apply B3.alloc)))
    have hbw : Below w.heap.size w w1 := by (repeat (first | (with_reducible exact Below.refl _ _) | (with_reducible assumption) | (with_reducible refine below_drewN ?_ _) | (with_reducible refine Below.drew ?_) | (with_reducible refine Below.alloc ?_ ?_ _) | (with_reducible refine Below.setCell ?_ ?_ _) | (with_reducible refine below_into ?_ (by assumption) (by first | omega | (simp; done) | (simp; omega))) | go_size))
    clear hb1
    have hR2 : BM ((w1.alloc (.cells #[.int .i64 0, .int .i64 0, .slice A1 n1 cap1] 28)).alloc (.cells #[.int .i64 0, .int .i64 0, .slice A2 n2 cap2] 28)) (w.heap.size + 1) 0 0 none 0 0 := by (repeat (first | (with_reducible exact hR) | (with_reducible refine BX.new _ _ _ _ _ _ _ _ (by first | omega | (simp; done) | (simp; omega))) | (with_reducible refine BX.below ?_ (by assumption) (by first | omega | (simp; done) | (simp; omega))) | (with_reducible apply BX.drew) | (with_reducible apply BX.drewN) | (with_reducible refine BX.put ?_) | (with_reducible refine BX.put2 ?_) | (with_reducible refine BX.far ?_ (by simp only [ne_eq]; omega) _) | (with_reducible apply BX.alloc) | (with_reducible refine B3.new _ _ _ _ _ _ (by first | omega | (simp; done) | (simp; omega))) | (with_reducible exact B3.of hR) | (with_reducible refine B3.below ?_ (by assumption) (by first | omega | (simp; done) | (simp; omega))) | (with_reducible apply B3.drew) | (with_reducible apply B3.drewN) | (with_reducible refine B3.far ?_ (by simp only [ne_eq]; omega) _) | (with_reducible apply B3.alloc)))
    have hbw2 : Below w.heap.size w ((w1.alloc (.cells #[.int .i64 0, .int .i64 0, .slice A1 n1 cap1] 28)).alloc (.cells #[.int .i64 0, .int .i64 0, .slice A2 n2 cap2] 28)) := by (repeat (first | (with_reducible exact Below.refl _ _) | (with_reducible assumption) | (with_reducible refine below_drewN ?_ _) | (with_reducible refine Below.drew ?_) | (with_reducible refine Below.alloc ?_ ?_ _) | (with_reducible refine Below.setCell ?_ ?_ _) | (with_reducible refine below_into ?_ (by assumption) (by first | omega | (simp; done) | (simp; omega))) | go_size))
    obtain ⟨ra, rb, rc, rf, rl⟩ := hR2.mx
    go_wp2_with fail
    refine ret_MB (r := 0) (c := 0) (A := none) (n := 0) (cap := 0) Try.results36 rfl (by (repeat (first | (with_reducible exact hR2) | (with_reducible refine BX.new _ _ _ _ _ _ _ _ (by first | omega | (simp; done) | (simp; omega))) | (with_reducible refine BX.below ?_ (by assumption) (by first | omega | (simp; done) | (simp; omega))) | (with_reducible apply BX.drew) | (with_reducible apply BX.drewN) | (with_reducible refine BX.put ?_) | (with_reducible refine BX.put2 ?_) | (with_reducible refine BX.far ?_ (by simp only [ne_eq]; omega) _) | (with_reducible apply BX.alloc) | (with_reducible refine B3.new _ _ _ _ _ _ (by first | omega | (simp; done) | (simp; omega))) | (with_reducible exact B3.of hR2) | (with_reducible refine B3.below ?_ (by assumption) (by first | omega | (simp; done) | (simp; omega))) | (with_reducible apply B3.drew) | (with_reducible apply B3.drewN) | (with_reducible refine B3.far ?_ (by simp only [ne_eq]; omega) _) | (with_reducible apply B3.alloc)))) rfl ?_
    exact MBR.mk rfl (OR.nil_ _ _) (by (repeat (first | (with_reducible exact Below.refl _ _) | (with_reducible assumption) | (with_reducible refine below_drewN ?_ _) | (with_reducible refine Below.drew ?_) | (with_reducible refine Below.alloc ?_ ?_ _) | (with_reducible refine Below.setCell ?_ ?_ _) | (with_reducible refine below_into ?_ (by assumption) (by first | omega | (simp; done) | (simp; omega))) | go_size)))
  · have HH : Hid (∀ w', RI w' w.heap.size A n xs → w.heap.size ≤ w'.heap.size → Calls Try.prog 26 #[.agg #[.int .i64 r, .int .i64 c, .slice A n cap]] w' (M2R ⟨r, c, tb r.toNat c.toNat s.f⟩ ⟨r, r, tb r.toNat r.toNat s.g⟩ true w')) := Lib.hid (fun w' k1 k2 => by
      have := impl_HermiteForm r c A n cap xs w' k1 k2 hn
      unfold hmM hmU at this
      rw [hX] at this
      exact this)
    obtain ⟨R, C, rfl, rfl, hR, hC, htR, -, hfull, -⟩ := hm_some hX
    simp only [Int.toNat_natCast] at HH
    have hRC := Nat.mul_le_mul hR hC
    have hV : bsO (C : Int) (some (s, t)) = ⟨t, C, tb t C s.f⟩ := by simp only [bsO, Int.toNat_natCast]
    have HF : Hid (((List.range' 0 t).map (rowL (tb R C s.f) C)).flatten = tb t C s.f) := Lib.hid (by rw [rows_win, Nat.zero_mul, List.drop_zero]; exact tb_first s.f htR)
    have HFU := Lib.hid hfull
    rw [hV]
    clear hX hV hfull
    generalize s.f = f at *
    generalize s.g = g at *
    go_enter Try.func36, Try.ntmps36
    go_wp2_with fail
    refine (HH.out _ (by (repeat (first | (with_reducible exact H2.out) | (with_reducible refine RI.drew ?_) | (with_reducible refine RI.drewN ?_ _) | (with_reducible refine RI.alloc ?_ (by first | omega | (simp; done) | (simp; omega)) _) | (with_reducible refine RI.setCell ?_ (by first | omega | (simp; done) | (simp; omega)) _) | (with_reducible refine RI.below ?_ (by assumption) (by first | omega | (simp; done) | (simp; omega)))))) (by first | omega | (simp; done) | (simp; omega))).mono ?_
    rintro e w1 ⟨A1, n1, cap1, A2, n2, cap2, rfl, ho1, -, -, hb1⟩
    have hsz := hb1.size
    (try simp at hsz)
    have hR0 : BM w1 (w.heap.size + 1) 0 0 none 0 0 := by (repeat (first | (with_reducible assumption) | (with_reducible refine BX.new _ _ _ _ _ _ _ _ (by first | omega | (simp; done) | (simp; omega))) | (with_reducible refine BX.below ?_ (by assumption) (by first | omega | (simp; done) | (simp; omega))) | (with_reducible apply BX.drew) | (with_reducible apply BX.drewN) | (with_reducible refine BX.put ?_) | (with_reducible refine BX.put2 ?_) | (with_reducible refine BX.far ?_ (by simp only [ne_eq]; omega) _) | (with_reducible apply BX.alloc) | (with_reducible refine B3.new _ _ _ _ _ _ (by first | omega | (simp; done) | (simp; omega))) | (with_reducible refine B3.of (by assumption)) | (with_reducible refine B3.below ?_ (by assumption) (by first | omega | (simp; done) | (simp; omega))) | (with_reducible apply B3.drew) | (with_reducible apply B3.drewN) | (with_reducible refine B3.far ?_ (by simp only [ne_eq]; omega) _) | (with_reducible apply B3.alloc)))
    have hbw : Below w.heap.size w w1 := by (repeat (first | (with_reducible exact Below.refl _ _) | (with_reducible assumption) | (with_reducible refine below_drewN ?_ _) | (with_reducible refine Below.drew ?_) | (with_reducible refine Below.alloc ?_ ?_ _) | (with_reducible refine Below.setCell ?_ ?_ _) | (with_reducible refine below_into ?_ (by assumption) (by first | omega | (simp; done) | (simp; omega))) | go_size))
    have HLN : Hid (n1 = R * C) := Lib.hid (by have := ho1.lenEq; rw [tb_len] at this; exact this)
    have hln : n1 ≤ R * C ∧ R * C ≤ n1 := by have := HLN.out; omega
    have hcp := ho1.caps
    have ho : OR w1 (w.heap.size + 1 + 1) (.slice A1 n1 cap1) (tb R C f) := OR.mono (xs := tb R C f) ho1 (by first | omega | (simp; done) | (simp; omega))
    have hR2 : BM ((w1.alloc (.cells #[.int .i64 R, .int .i64 C, .slice A1 n1 cap1] 28)).alloc (.cells #[.int .i64 R, .int .i64 R, .slice A2 n2 cap2] 28)) (w.heap.size + 1) 0 0 none 0 0 := by (repeat (first | (with_reducible exact hR0) | (with_reducible refine BX.new _ _ _ _ _ _ _ _ (by first | omega | (simp; done) | (simp; omega))) | (with_reducible refine BX.below ?_ (by assumption) (by first | omega | (simp; done) | (simp; omega))) | (with_reducible apply BX.drew) | (with_reducible apply BX.drewN) | (with_reducible refine BX.put ?_) | (with_reducible refine BX.put2 ?_) | (with_reducible refine BX.far ?_ (by simp only [ne_eq]; omega) _) | (with_reducible apply BX.alloc) | (with_reducible refine B3.new _ _ _ _ _ _ (by first | omega | (simp; done) | (simp; omega))) | (with_reducible exact B3.of hR0) | (with_reducible refine B3.below ?_ (by assumption) (by first | omega | (simp; done) | (simp; omega))) | (with_reducible apply B3.drew) | (with_reducible apply B3.drewN) | (with_reducible refine B3.far ?_ (by simp only [ne_eq]; omega) _) | (with_reducible apply B3.alloc)))
    have hM2 : BM ((w1.alloc (.cells #[.int .i64 R, .int .i64 C, .slice A1 n1 cap1] 28)).alloc (.cells #[.int .i64 R, .int .i64 R, .slice A2 n2 cap2] 28)) w1.heap.size R C A1 n1 cap1 := by (repeat (first | (with_reducible assumption) | (with_reducible refine BX.new _ _ _ _ _ _ _ _ (by first | omega | (simp; done) | (simp; omega))) | (with_reducible refine BX.below ?_ (by assumption) (by first | omega | (simp; done) | (simp; omega))) | (with_reducible apply BX.drew) | (with_reducible apply BX.drewN) | (with_reducible refine BX.put ?_) | (with_reducible refine BX.put2 ?_) | (with_reducible refine BX.far ?_ (by simp only [ne_eq]; omega) _) | (with_reducible apply BX.alloc) | (with_reducible refine B3.new _ _ _ _ _ _ (by first | omega | (simp; done) | (simp; omega))) | (with_reducible refine B3.of (by assumption)) | (with_reducible refine B3.below ?_ (by assumption) (by first | omega | (simp; done) | (simp; omega))) | (with_reducible apply B3.drew) | (with_reducible apply B3.drewN) | (with_reducible refine B3.far ?_ (by simp only [ne_eq]; omega) _) | (with_reducible apply B3.alloc)))
    have ho2 : OR ((w1.alloc (.cells #[.int .i64 R, .int .i64 C, .slice A1 n1 cap1] 28)).alloc (.cells #[.int .i64 R, .int .i64 R, .slice A2 n2 cap2] 28)) (w.heap.size + 1 + 1) (.slice A1 n1 cap1) (tb R C f) := by (repeat (first | (with_reducible exact ho) | (with_reducible refine OR.drew ?_) | (with_reducible refine OR.drewN ?_ _) | (with_reducible refine OR.alloc ?_ _) | (with_reducible refine OR.below ?_ (by assumption) (by first | omega | (simp; done) | (simp; omega))) | (with_reducible refine OR.low ?_ (by first | omega | (simp only []; omega) | (simp; omega)) _)))
    have hbw2 : Below w.heap.size w ((w1.alloc (.cells #[.int .i64 R, .int .i64 C, .slice A1 n1 cap1] 28)).alloc (.cells #[.int .i64 R, .int .i64 R, .slice A2 n2 cap2] 28)) := by (repeat (first | (with_reducible exact Below.refl _ _) | (with_reducible assumption) | (with_reducible refine below_drewN ?_ _) | (with_reducible refine Below.drew ?_) | (with_reducible refine Below.alloc ?_ ?_ _) | (with_reducible refine Below.setCell ?_ ?_ _) | (with_reducible refine below_into ?_ (by assumption) (by first | omega | (simp; done) | (simp; omega))) | go_size))
    have hsz2 : w1.heap.size + 1 + 1 ≤ (((w1.alloc (.cells #[.int .i64 R, .int .i64 C, .slice A1 n1 cap1] 28)).alloc (.cells #[.int .i64 R, .int .i64 R, .slice A2 n2 cap2] 28))).heap.size := by simp
    clear hb1 ho1 ho hR0 hbw
    go_wp2_with fail
    generalize ((w1.alloc (.cells #[.int .i64 R, .int .i64 C, .slice A1 n1 cap1] 28)).alloc (.cells #[.int .i64 R, .int .i64 R, .slice A2 n2 cap2] 28)) = w2 at *
    generalize w1.heap.size = bH at *
    obtain ⟨ra, rb, rc, rf, rl⟩ := hR2.mx
    obtain ⟨oa, ob, oc, of, ol⟩ := hM2.mx
    go_wp2_with fail
    refine (impl_splitRows R C A1 n1 cap1 (tb R C f) _ (B := w2.heap.size) ho2.reads (Nat.le_refl _) (by omega) hcp.1 hcp.2 (tb_len _ _ _) hR hC).mono ?_
    rintro e w3 ⟨A3, n3, cap3, A4, n4, cap4, rfl, hf3, -, hb3⟩
    have hR3 : BM w3 (w.heap.size + 1) 0 0 none 0 0 := by (repeat (first | (with_reducible exact hR2) | (with_reducible refine BX.new _ _ _ _ _ _ _ _ (by first | omega | (simp; done) | (simp; omega))) | (with_reducible refine BX.below ?_ (by assumption) (by first | omega | (simp; done) | (simp; omega))) | (with_reducible apply BX.drew) | (with_reducible apply BX.drewN) | (with_reducible refine BX.put ?_) | (with_reducible refine BX.put2 ?_) | (with_reducible refine BX.far ?_ (by simp only [ne_eq]; omega) _) | (with_reducible apply BX.alloc) | (with_reducible refine B3.new _ _ _ _ _ _ (by first | omega | (simp; done) | (simp; omega))) | (with_reducible exact B3.of hR2) | (with_reducible refine B3.below ?_ (by assumption) (by first | omega | (simp; done) | (simp; omega))) | (with_reducible apply B3.drew) | (with_reducible apply B3.drewN) | (with_reducible refine B3.far ?_ (by simp only [ne_eq]; omega) _) | (with_reducible apply B3.alloc)))
    have hM3 : BM w3 bH R C A1 n1 cap1 := by (repeat (first | (with_reducible exact hM2) | (with_reducible refine BX.new _ _ _ _ _ _ _ _ (by first | omega | (simp; done) | (simp; omega))) | (with_reducible refine BX.below ?_ (by assumption) (by first | omega | (simp; done) | (simp; omega))) | (with_reducible apply BX.drew) | (with_reducible apply BX.drewN) | (with_reducible refine BX.put ?_) | (with_reducible refine BX.put2 ?_) | (with_reducible refine BX.far ?_ (by simp only [ne_eq]; omega) _) | (with_reducible apply BX.alloc) | (with_reducible refine B3.new _ _ _ _ _ _ (by first | omega | (simp; done) | (simp; omega))) | (with_reducible exact B3.of hM2) | (with_reducible refine B3.below ?_ (by assumption) (by first | omega | (simp; done) | (simp; omega))) | (with_reducible apply B3.drew) | (with_reducible apply B3.drewN) | (with_reducible refine B3.far ?_ (by simp only [ne_eq]; omega) _) | (with_reducible apply B3.alloc)))
    have ho3 : OR w3 (w.heap.size + 1 + 1) (.slice A1 n1 cap1) (tb R C f) := by (repeat (first | (with_reducible exact ho2) | (with_reducible refine OR.drew ?_) | (with_reducible refine OR.drewN ?_ _) | (with_reducible refine OR.alloc ?_ _) | (with_reducible refine OR.below ?_ (by assumption) (by first | omega | (simp; done) | (simp; omega))) | (with_reducible refine OR.low ?_ (by first | omega | (simp only []; omega) | (simp; omega)) _)))
    have hbw3 : Below w.heap.size w w3 := by (repeat (first | (with_reducible exact Below.refl _ _) | (with_reducible assumption) | (with_reducible refine below_drewN ?_ _) | (with_reducible refine Below.drew ?_) | (with_reducible refine Below.alloc ?_ ?_ _) | (with_reducible refine Below.setCell ?_ ?_ _) | (with_reducible refine below_into ?_ (by assumption) (by first | omega | (simp; done) | (simp; omega))) | go_size))
    have hsz3 := hb3.size
    have hlr := hR2.lt
    rw [HFU.out] at hf3
    have hn3 : n3 = t := by have := hf3.lenEq; rw [List.length_map, List.length_range'] at this; exact this
    have HF3 := Lib.hid hf3
    subst hn3
    clear hR2 hM2 ho2 hbw2 hb3 hf3 ra rb rc rf rl oa ob oc of ol
    obtain ⟨ra, rb, rc, rf, rl⟩ := hR3.mx
    obtain ⟨oa, ob, oc, of, ol⟩ := hM3.mx
    have HO3 := Lib.hid ho3
    clear ho3
    go_wp2_with fail
    refine (impl_takeRows R C A1 n1 cap1 (tb R C f) A3 n3 cap3 (List.range' 0 n3) _ (B := w3.heap.size) HO3.out.reads (Nat.le_refl _) hcp.1 hcp.2 (tb_len _ _ _) hR hC HF3.out.reads (fun k hk => by rw [List.length_range'] at hk; simp [List.getD, hk]; omega) (by omega)).mono ?_
    rw [HF.out]
    rintro e w4 ⟨A5, n5, c5, rfl, ho5, hb5⟩
    have hsz5 := hb5.size
    have hR4 : BM w4 (w.heap.size + 1) 0 0 none 0 0 := by (repeat (first | (with_reducible exact hR3) | (with_reducible refine BX.new _ _ _ _ _ _ _ _ (by first | omega | (simp; done) | (simp; omega))) | (with_reducible refine BX.below ?_ (by assumption) (by first | omega | (simp; done) | (simp; omega))) | (with_reducible apply BX.drew) | (with_reducible apply BX.drewN) | (with_reducible refine BX.put ?_) | (with_reducible refine BX.put2 ?_) | (with_reducible refine BX.far ?_ (by simp only [ne_eq]; omega) _) | (with_reducible apply BX.alloc) | (with_reducible refine B3.new _ _ _ _ _ _ (by first | omega | (simp; done) | (simp; omega))) | (with_reducible exact B3.of hR3) | (with_reducible refine B3.below ?_ (by assumption) (by first | omega | (simp; done) | (simp; omega))) | (with_reducible apply B3.drew) | (with_reducible apply B3.drewN) | (with_reducible refine B3.far ?_ (by simp only [ne_eq]; omega) _) | (with_reducible apply B3.alloc)))
    have hbw4 : Below w.heap.size w w4 := by (repeat (first | (with_reducible exact Below.refl _ _) | (with_reducible assumption) | (with_reducible refine below_drewN ?_ _) | (with_reducible refine Below.drew ?_) | (with_reducible refine Below.alloc ?_ ?_ _) | (with_reducible refine Below.setCell ?_ ?_ _) | (with_reducible refine below_into ?_ (by assumption) (by first | omega | (simp; done) | (simp; omega))) | go_size))
    clear hR3 hM3 hbw3 hb5 ra rb rc rf rl oa ob oc of ol
    obtain ⟨ra, rb, rc, rf, rl⟩ := hR4.mx
    go_wp2_with fail
    refine ret_MB (r := n3) (c := C) (A := A5) (n := n5) (cap := c5) Try.results36 rfl (BX.put (B3.of hR4)) rfl ?_
    exact MBR.mk rfl (OR.mono (B := w3.heap.size) (by (repeat (first | (with_reducible exact ho5) | (with_reducible refine OR.drew ?_) | (with_reducible refine OR.drewN ?_ _) | (with_reducible refine OR.alloc ?_ _) | (with_reducible refine OR.below ?_ (by assumption) (by first | omega | (simp; done) | (simp; omega))) | (with_reducible refine OR.low ?_ (by first | omega | (simp only []; omega) | (simp; omega)) _)))) (by omega)) (by (repeat (first | (with_reducible exact Below.refl _ _) | (with_reducible assumption) | (with_reducible refine below_drewN ?_ _) | (with_reducible refine Below.drew ?_) | (with_reducible refine Below.alloc ?_ ?_ _) | (with_reducible refine Below.setCell ?_ ?_ _) | (with_reducible refine below_into ?_ (by assumption) (by first | omega | (simp; done) | (simp; omega))) | go_size)))
end Go.Proofs.Ytpecjobpihinoaa
namespace Go.Proofs.Ytpecjobpihinoaa
open Go.RowKit
theorem RI.upto {w : World} {B n m : Nat} {A : Option Addr} {xs : List Int} (h : RI w B A n xs) (hm : m ≤ n) : RI w B A m (xs.take m) := by
  refine ⟨by rw [List.length_take, h.len]; omega, fun h0 => ?_⟩
  obtain ⟨b, o, e, hb, hc⟩ := h.2 (by omega)
  refine ⟨b, o, e, hb, fun k hk => ?_⟩
  rw [hc k (by omega)]
  simp [List.getD, hk]
theorem RI.from_ {w : World} {B n m : Nat} {A : Option Addr} {xs : List Int} (h : RI w B A n xs) (hm : m ≤ n) : RI w B (A.map fun x => x.add m) (n - m) (xs.drop m) := by
  refine ⟨by rw [List.length_drop, h.len], fun h0 => ?_⟩
  obtain ⟨b, o, rfl, hb, hc⟩ := h.2 (by omega)
  refine ⟨b, o + m, by simp [addr_add], hb, fun k hk => ?_⟩
  have := hc (m + k) (by omega)
  rw [Nat.add_assoc, this]
  simp [List.getD]
theorem OR.sliceForm {w : World} {B : Nat} {v : Value} {xs : List Int} (h : OR w B v xs) : ∃ A m c, v = .slice A m c := by
  rcases h.form with ⟨h1, _⟩ | ⟨g, cap, h1, _⟩
  · exact ⟨_, _, _, h1⟩
  · exact ⟨_, _, _, h1⟩
set_option linter.unusedVariables false
set_option linter.unusedSimpArgs false
set_option maxRecDepth 100000 in
set_option maxHeartbeats 8000000 in
theorem spec_BasisOf (r c : Int) (A : Option Addr) (n cap : Nat) (xs : List Int) (w : World) {B : Nat} (h : RI w B A n xs) (hB : B ≤ w.heap.size) (hn : n ≤ 1048576) :
    Calls Try.prog 35 #[.agg #[.int .i64 r, .int .i64 c, .slice A n cap]] w (MBR (bsM r c xs) (bsB r c xs) w) := by
  have hlen := h.len
  have H2 := Lib.hid (h.more hB)
  clear h
  unfold bsM bsB
  rcases hX : hmX r c xs with _ | ⟨s, t⟩
  · have HH : Hid (∀ w', RI w' w.heap.size A n xs → w.heap.size ≤ w'.heap.size → Calls Try.prog 25 #[.agg #[.int .i64 r, .int .i64 c, .slice A n cap]] w' (M2R ⟨0, 0, []⟩ ⟨0, 0, []⟩ false w')) := Lib.hid (fun w' k1 k2 => by
      have := spec_HermiteForm r c A n cap xs w' k1 k2 hn
      unfold hmM hmU at this
      rw [hX] at this
      exact this)
    clear hX
    go_enter Try.func35, Try.ntmps35
    go_wp2_with fail
    refine (HH.out _ (by (repeat (first | (with_reducible exact H2.out) | (with_reducible refine RI.drew ?_) | (with_reducible refine RI.drewN ?_ _) | (with_reducible refine RI.alloc ?_ (by first | omega | (simp; done) | (simp; omega)) _) | (with_reducible refine RI.setCell ?_ (by first | omega | (simp; done) | (simp; omega)) _) | (with_reducible refine RI.below ?_ (by assumption) (by first | omega | (simp; done) | (simp; omega)))))) (by first | omega | (simp; done) | (simp; omega))).mono ?_
    rintro e w1 ⟨A1, n1, cap1, A2, n2, cap2, rfl, -, -, -, hb1⟩
    have hsz := hb1.size
    (try simp at hsz)
    have hR : BM w1 (w.heap.size + 1) 0 0 none 0 0 := by (repeat (first | (with_reducible assumption) | (with_reducible refine BX.new _ _ _ _ _ _ _ _ (by first | omega | (simp; done) | (simp; omega))) | (with_reducible refine BX.below ?_ (by assumption) (by first | omega | (simp; done) | (simp; omega))) | (with_reducible apply BX.drew) | (with_reducible apply BX.drewN) | (with_reducible refine BX.put ?_) | (with_reducible refine BX.put2 ?_) | (with_reducible refine BX.far ?_ (by simp only [ne_eq]; omega) _) | (with_reducible apply BX.alloc) | (with_reducible refine B3.new _ _ _ _ _ _ (by first | omega | (simp; done) | (simp; omega))) | (with_reducible refine B3.of (by assumption)) | (with_reducible refine B3.below ?_ (by assumption) (by first | omega | (simp; done) | (simp; omega))) | (with_reducible apply B3.drew) | (with_reducible apply B3.drewN) | (with_reducible refine B3.far ?_ (by simp only [ne_eq]; omega) _) | (with_reducible apply B3.alloc)))
    have hbw : Below w.heap.size w w1 := by (repeat (first | (with_reducible exact Below.refl _ _) | (with_reducible assumption) | (with_reducible refine below_drewN ?_ _) | (with_reducible refine Below.drew ?_) | (with_reducible refine Below.alloc ?_ ?_ _) | (with_reducible refine Below.setCell ?_ ?_ _) | (with_reducible refine below_into ?_ (by assumption) (by first | omega | (simp; done) | (simp; omega))) | go_size))
    clear hb1
    have hR2 : BM ((w1.alloc (.cells #[.int .i64 0, .int .i64 0, .slice A1 n1 cap1] 28)).alloc (.cells #[.int .i64 0, .int .i64 0, .slice A2 n2 cap2] 28)) (w.heap.size + 1) 0 0 none 0 0 := by (repeat (first | (with_reducible exact hR) | (with_reducible refine BX.new _ _ _ _ _ _ _ _ (by first | omega | (simp; done) | (simp; omega))) | (with_reducible refine BX.below ?_ (by assumption) (by first | omega | (simp; done) | (simp; omega))) | (with_reducible apply BX.drew) | (with_reducible apply BX.drewN) | (with_reducible refine BX.put ?_) | (with_reducible refine BX.put2 ?_) | (with_reducible refine BX.far ?_ (by simp only [ne_eq]; omega) _) | (with_reducible apply BX.alloc) | (with_reducible refine B3.new _ _ _ _ _ _ (by first | omega | (simp; done) | (simp; omega))) | (with_reducible exact B3.of hR) | (with_reducible refine B3.below ?_ (by assumption) (by first | omega | (simp; done) | (simp; omega))) | (with_reducible apply B3.drew) | (with_reducible apply B3.drewN) | (with_reducible refine B3.far ?_ (by simp only [ne_eq]; omega) _) | (with_reducible apply B3.alloc)))
    have hbw2 : Below w.heap.size w ((w1.alloc (.cells #[.int .i64 0, .int .i64 0, .slice A1 n1 cap1] 28)).alloc (.cells #[.int .i64 0, .int .i64 0, .slice A2 n2 cap2] 28)) := by (repeat (first | (with_reducible exact Below.refl _ _) | (with_reducible assumption) | (with_reducible refine below_drewN ?_ _) | (with_reducible refine Below.drew ?_) | (with_reducible refine Below.alloc ?_ ?_ _) | (with_reducible refine Below.setCell ?_ ?_ _) | (with_reducible refine below_into ?_ (by assumption) (by first | omega | (simp; done) | (simp; omega))) | go_size))
    obtain ⟨ra, rb, rc, rf, rl⟩ := hR2.mx
    go_wp2_with fail
    refine ret_MB (r := 0) (c := 0) (A := none) (n := 0) (cap := 0) Try.results35 rfl (by (repeat (first | (with_reducible exact hR2) | (with_reducible refine BX.new _ _ _ _ _ _ _ _ (by first | omega | (simp; done) | (simp; omega))) | (with_reducible refine BX.below ?_ (by assumption) (by first | omega | (simp; done) | (simp; omega))) | (with_reducible apply BX.drew) | (with_reducible apply BX.drewN) | (with_reducible refine BX.put ?_) | (with_reducible refine BX.put2 ?_) | (with_reducible refine BX.far ?_ (by simp only [ne_eq]; omega) _) | (with_reducible apply BX.alloc) | (with_reducible refine B3.new _ _ _ _ _ _ (by first | omega | (simp; done) | (simp; omega))) | (with_reducible exact B3.of hR2) | (with_reducible refine B3.below ?_ (by assumption) (by first | omega | (simp; done) | (simp; omega))) | (with_reducible apply B3.drew) | (with_reducible apply B3.drewN) | (with_reducible refine B3.far ?_ (by simp only [ne_eq]; omega) _) | (with_reducible apply B3.alloc)))) rfl ?_
    exact MBR.mk rfl (OR.nil_ _ _) (by (repeat (first | (with_reducible exact Below.refl _ _) | (with_reducible assumption) | (with_reducible refine below_drewN ?_ _) | (with_reducible refine Below.drew ?_) | (with_reducible refine Below.alloc ?_ ?_ _) | (with_reducible refine Below.setCell ?_ ?_ _) | (with_reducible refine below_into ?_ (by assumption) (by first | omega | (simp; done) | (simp; omega))) | go_size)))
  · have HH : Hid (∀ w', RI w' w.heap.size A n xs → w.heap.size ≤ w'.heap.size → Calls Try.prog 25 #[.agg #[.int .i64 r, .int .i64 c, .slice A n cap]] w' (M2R ⟨r, c, tb r.toNat c.toNat s.f⟩ ⟨r, r, tb r.toNat r.toNat s.g⟩ true w')) := Lib.hid (fun w' k1 k2 => by
      have := spec_HermiteForm r c A n cap xs w' k1 k2 hn
      unfold hmM hmU at this
      rw [hX] at this
      exact this)
    obtain ⟨R, C, rfl, rfl, hR, hC, htR, hlast, -, -⟩ := hm_some hX
    simp only [Int.toNat_natCast] at HH
    have HL := Lib.hid hlast
    have HF := Lib.hid (tb_first (C := C) s.f htR)
    have hRC := Nat.mul_le_mul hR hC
    have htC := Nat.mul_le_mul_right C htR
    have hV : bsO (C : Int) (some (s, t)) = ⟨t, C, tb t C s.f⟩ := by simp only [bsO, Int.toNat_natCast]
    rw [hV]
    clear hX hlast hV
    generalize s.f = f at *
    generalize s.g = g at *
    go_enter Try.func35, Try.ntmps35
    go_wp2_with fail
    refine (HH.out _ (by (repeat (first | (with_reducible exact H2.out) | (with_reducible refine RI.drew ?_) | (with_reducible refine RI.drewN ?_ _) | (with_reducible refine RI.alloc ?_ (by first | omega | (simp; done) | (simp; omega)) _) | (with_reducible refine RI.setCell ?_ (by first | omega | (simp; done) | (simp; omega)) _) | (with_reducible refine RI.below ?_ (by assumption) (by first | omega | (simp; done) | (simp; omega)))))) (by first | omega | (simp; done) | (simp; omega))).mono ?_
    rintro e w1 ⟨A1, n1, cap1, A2, n2, cap2, rfl, ho1, -, -, hb1⟩
    have hsz := hb1.size
    (try simp at hsz)
    have hR0 : BM w1 (w.heap.size + 1) 0 0 none 0 0 := by (repeat (first | (with_reducible assumption) | (with_reducible refine BX.new _ _ _ _ _ _ _ _ (by first | omega | (simp; done) | (simp; omega))) | (with_reducible refine BX.below ?_ (by assumption) (by first | omega | (simp; done) | (simp; omega))) | (with_reducible apply BX.drew) | (with_reducible apply BX.drewN) | (with_reducible refine BX.put ?_) | (with_reducible refine BX.put2 ?_) | (with_reducible refine BX.far ?_ (by simp only [ne_eq]; omega) _) | (with_reducible apply BX.alloc) | (with_reducible refine B3.new _ _ _ _ _ _ (by first | omega | (simp; done) | (simp; omega))) | (with_reducible refine B3.of (by assumption)) | (with_reducible refine B3.below ?_ (by assumption) (by first | omega | (simp; done) | (simp; omega))) | (with_reducible apply B3.drew) | (with_reducible apply B3.drewN) | (with_reducible refine B3.far ?_ (by simp only [ne_eq]; omega) _) | (with_reducible apply B3.alloc)))
    have hbw : Below w.heap.size w w1 := by (repeat (first | (with_reducible exact Below.refl _ _) | (with_reducible assumption) | (with_reducible refine below_drewN ?_ _) | (with_reducible refine Below.drew ?_) | (with_reducible refine Below.alloc ?_ ?_ _) | (with_reducible refine Below.setCell ?_ ?_ _) | (with_reducible refine below_into ?_ (by assumption) (by first | omega | (simp; done) | (simp; omega))) | go_size))
    have HLN : Hid (n1 = R * C) := Lib.hid (by have := ho1.lenEq; rw [tb_len] at this; exact this)
    have hln : n1 ≤ R * C ∧ R * C ≤ n1 := by have := HLN.out; omega
    have hcp := ho1.caps
    have ho : OR w1 (w.heap.size + 1 + 1) (.slice A1 n1 cap1) (tb R C f) := OR.mono (xs := tb R C f) ho1 (by first | omega | (simp; done) | (simp; omega))
    have hR2 : BM ((w1.alloc (.cells #[.int .i64 R, .int .i64 C, .slice A1 n1 cap1] 28)).alloc (.cells #[.int .i64 R, .int .i64 R, .slice A2 n2 cap2] 28)) (w.heap.size + 1) 0 0 none 0 0 := by (repeat (first | (with_reducible exact hR0) | (with_reducible refine BX.new _ _ _ _ _ _ _ _ (by first | omega | (simp; done) | (simp; omega))) | (with_reducible refine BX.below ?_ (by assumption) (by first | omega | (simp; done) | (simp; omega))) | (with_reducible apply BX.drew) | (with_reducible apply BX.drewN) | (with_reducible refine BX.put ?_) | (with_reducible refine BX.put2 ?_) | (with_reducible refine BX.far ?_ (by simp only [ne_eq]; omega) _) | (with_reducible apply BX.alloc) | (with_reducible refine B3.new _ _ _ _ _ _ (by first | omega | (simp; done) | (simp; omega))) | (with_reducible exact B3.of hR0) | (with_reducible refine B3.below ?_ (by assumption) (by first | omega | (simp; done) | (simp; omega))) | (with_reducible apply B3.drew) | (with_reducible apply B3.drewN) | (with_reducible refine B3.far ?_ (by simp only [ne_eq]; omega) _) | (with_reducible apply B3.alloc)))
    have hM2 : BM ((w1.alloc (.cells #[.int .i64 R, .int .i64 C, .slice A1 n1 cap1] 28)).alloc (.cells #[.int .i64 R, .int .i64 R, .slice A2 n2 cap2] 28)) w1.heap.size R C A1 n1 cap1 := by (repeat (first | (with_reducible assumption) | (with_reducible refine BX.new _ _ _ _ _ _ _ _ (by first | omega | (simp; done) | (simp; omega))) | (with_reducible refine BX.below ?_ (by assumption) (by first | omega | (simp; done) | (simp; omega))) | (with_reducible apply BX.drew) | (with_reducible apply BX.drewN) | (with_reducible refine BX.put ?_) | (with_reducible refine BX.put2 ?_) | (with_reducible refine BX.far ?_ (by simp only [ne_eq]; omega) _) | (with_reducible apply BX.alloc) | (with_reducible refine B3.new _ _ _ _ _ _ (by first | omega | (simp; done) | (simp; omega))) | (with_reducible refine B3.of (by assumption)) | (with_reducible refine B3.below ?_ (by assumption) (by first | omega | (simp; done) | (simp; omega))) | (with_reducible apply B3.drew) | (with_reducible apply B3.drewN) | (with_reducible refine B3.far ?_ (by simp only [ne_eq]; omega) _) | (with_reducible apply B3.alloc)))
    have ho2 : OR ((w1.alloc (.cells #[.int .i64 R, .int .i64 C, .slice A1 n1 cap1] 28)).alloc (.cells #[.int .i64 R, .int .i64 R, .slice A2 n2 cap2] 28)) (w.heap.size + 1 + 1) (.slice A1 n1 cap1) (tb R C f) := by (repeat (first | (with_reducible exact ho) | (with_reducible refine OR.drew ?_) | (with_reducible refine OR.drewN ?_ _) | (with_reducible refine OR.alloc ?_ _) | (with_reducible refine OR.below ?_ (by assumption) (by first | omega | (simp; done) | (simp; omega))) | (with_reducible refine OR.low ?_ (by first | omega | (simp only []; omega) | (simp; omega)) _)))
    have HO : Hid (Own (.slice A1 n1 cap1) (w.heap.size + 1 + 1) w1.heap.size) := Lib.hid ho.own
    have hbw2 : Below w.heap.size w ((w1.alloc (.cells #[.int .i64 R, .int .i64 C, .slice A1 n1 cap1] 28)).alloc (.cells #[.int .i64 R, .int .i64 R, .slice A2 n2 cap2] 28)) := by (repeat (first | (with_reducible exact Below.refl _ _) | (with_reducible assumption) | (with_reducible refine below_drewN ?_ _) | (with_reducible refine Below.drew ?_) | (with_reducible refine Below.alloc ?_ ?_ _) | (with_reducible refine Below.setCell ?_ ?_ _) | (with_reducible refine below_into ?_ (by assumption) (by first | omega | (simp; done) | (simp; omega))) | go_size))
    have hsz2 : w1.heap.size + 1 + 1 ≤ ((w1.alloc (.cells #[.int .i64 R, .int .i64 C, .slice A1 n1 cap1] 28)).alloc (.cells #[.int .i64 R, .int .i64 R, .slice A2 n2 cap2] 28)).heap.size := by simp
    clear hb1 ho1 ho hR0 hbw
    go_wp2_with fail
    generalize ((w1.alloc (.cells #[.int .i64 R, .int .i64 C, .slice A1 n1 cap1] 28)).alloc (.cells #[.int .i64 R, .int .i64 R, .slice A2 n2 cap2] 28)) = w2 at *
    generalize w1.heap.size = bH at *
    obtain ⟨ra, rb, rc, rf, rl⟩ := hR2.mx
    obtain ⟨oa, ob, oc, of, ol⟩ := hM2.mx
    go_wp2_with fail
    refine (spec_l12Rows R C A1 n1 cap1 (tb R C f) _ (B := w2.heap.size) ho2.reads (Nat.le_refl _) (by omega) (tb_len _ _ _) hR hC).mono ?_
    rw [HL.out]
    rintro e w3 ⟨rfl, hb3⟩
    have hR3 : BM w3 (w.heap.size + 1) 0 0 none 0 0 := by (repeat (first | (with_reducible exact hR2) | (with_reducible refine BX.new _ _ _ _ _ _ _ _ (by first | omega | (simp; done) | (simp; omega))) | (with_reducible refine BX.below ?_ (by assumption) (by first | omega | (simp; done) | (simp; omega))) | (with_reducible apply BX.drew) | (with_reducible apply BX.drewN) | (with_reducible refine BX.put ?_) | (with_reducible refine BX.put2 ?_) | (with_reducible refine BX.far ?_ (by simp only [ne_eq]; omega) _) | (with_reducible apply BX.alloc) | (with_reducible refine B3.new _ _ _ _ _ _ (by first | omega | (simp; done) | (simp; omega))) | (with_reducible exact B3.of hR2) | (with_reducible refine B3.below ?_ (by assumption) (by first | omega | (simp; done) | (simp; omega))) | (with_reducible apply B3.drew) | (with_reducible apply B3.drewN) | (with_reducible refine B3.far ?_ (by simp only [ne_eq]; omega) _) | (with_reducible apply B3.alloc)))
    have hM3 : BM w3 bH R C A1 n1 cap1 := by (repeat (first | (with_reducible exact hM2) | (with_reducible refine BX.new _ _ _ _ _ _ _ _ (by first | omega | (simp; done) | (simp; omega))) | (with_reducible refine BX.below ?_ (by assumption) (by first | omega | (simp; done) | (simp; omega))) | (with_reducible apply BX.drew) | (with_reducible apply BX.drewN) | (with_reducible refine BX.put ?_) | (with_reducible refine BX.put2 ?_) | (with_reducible refine BX.far ?_ (by simp only [ne_eq]; omega) _) | (with_reducible apply BX.alloc) | (with_reducible refine B3.new _ _ _ _ _ _ (by first | omega | (simp; done) | (simp; omega))) | (with_reducible exact B3.of hM2) | (with_reducible refine B3.below ?_ (by assumption) (by first | omega | (simp; done) | (simp; omega))) | (with_reducible apply B3.drew) | (with_reducible apply B3.drewN) | (with_reducible refine B3.far ?_ (by simp only [ne_eq]; omega) _) | (with_reducible apply B3.alloc)))
    have ho3 : OR w3 (w.heap.size + 1 + 1) (.slice A1 n1 cap1) (tb R C f) := by (repeat (first | (with_reducible exact ho2) | (with_reducible refine OR.drew ?_) | (with_reducible refine OR.drewN ?_ _) | (with_reducible refine OR.alloc ?_ _) | (with_reducible refine OR.below ?_ (by assumption) (by first | omega | (simp; done) | (simp; omega))) | (with_reducible refine OR.low ?_ (by first | omega | (simp only []; omega) | (simp; omega)) _)))
    have hbw3 : Below w.heap.size w w3 := by (repeat (first | (with_reducible exact Below.refl _ _) | (with_reducible assumption) | (with_reducible refine below_drewN ?_ _) | (with_reducible refine Below.drew ?_) | (with_reducible refine Below.alloc ?_ ?_ _) | (with_reducible refine Below.setCell ?_ ?_ _) | (with_reducible refine below_into ?_ (by assumption) (by first | omega | (simp; done) | (simp; omega))) | go_size))
    have hsz3 := hb3.size
    have hlr := hR2.lt
    clear hR2 hM2 ho2 hbw2 hb3 ra rb rc rf rl oa ob oc of ol
    obtain ⟨ra, rb, rc, rf, rl⟩ := hR3.mx
    obtain ⟨oa, ob, oc, of, ol⟩ := hM3.mx
    go_wp2_with fail
    have e1 : (t : Int) * (C : Int) = ((t * C : Nat) : Int) := by rw [Int.natCast_mul]
    have e2 : 0 ≤ (t : Int) * (C : Int) ∧ (t : Int) * (C : Int) ≤ n1 ∧ (t : Int) * (C : Int) ≤ cap1 ∧ (t : Int) * (C : Int) ≤ 10000 := by omega
    obtain ⟨e3, e4, e5, e6⟩ := e2
    have e7 : IntKind.i64.wrap ((t : Int) * (C : Int)) = (t : Int) * (C : Int) := IntWalk.i64_in _ (by omega)
    have HQ : Hid (((t : Int) * (C : Int)).toNat = t * C) := Lib.hid (by omega)
    have hsl : RI w3 w3.heap.size A1 (((t : Int) * (C : Int)).toNat) (tb t C f) := by
      rw [HQ.out, ← HF.out]
      exact ho3.reads.upto (by have := HLN.out; omega)
    have HSL := Lib.hid hsl
    have hws : w.heap.size ≤ w3.heap.size := by omega
    have hne1 : ¬ bH = w.heap.size + 1 := by omega
    have hne2 : ¬ w.heap.size + 1 = bH := by omega
    clear hsl e1
    ((refine wp_region_held_drew (S := (fun w' => w'.cell? ⟨bH, 1, none⟩ = some (.int .i64 C) ∧ w'.cell? ⟨bH, 2, none⟩ = some (.slice A1 n1 cap1))) (by kernel_rfl) ?_ (fun hHeld => ?_)); ((focus ((try dsimp only); ((first | go_keep | exact ⟨x1, x2⟩ | (simp [go_sem, hne1, hne2, x1, x2]; done)))))); ((refine wpAnyH_take (i := 0) (v := ?_) (by (first | (simp only [List.getElem?_toArray, List.getElem?_cons_succ, List.getElem?_cons_zero]; done) | (simp only [List.getElem?_toArray, List.getElem?_cons_succ, List.getElem?_cons_zero]; rfl))) (by kernel_rfl) (by kernel_rfl) (by kernel_rfl) (by exact fun _ _ _ h => h) (Or.inl ⟨by rfl, ?_⟩) (by assumption) ?_; rotate_left; (focus (((intro w hSw; (try dsimp only at hSw); go_simp) <;> (try with_reducible rfl)); done)); (try simp only [Act.put, List.setIfInBounds_toArray, List.set_cons_zero, List.set_cons_succ]))); ((refine wpAnyH_take (i := 1) (v := ?_) (by (first | (simp only [List.getElem?_toArray, List.getElem?_cons_succ, List.getElem?_cons_zero]; done) | (simp only [List.getElem?_toArray, List.getElem?_cons_succ, List.getElem?_cons_zero]; rfl))) (by kernel_rfl) (by kernel_rfl) (by kernel_rfl) (by exact fun _ _ _ h => h) (Or.inl ⟨by rfl, ?_⟩) (by assumption) ?_; rotate_left; (focus (((intro w hSw; (try dsimp only at hSw); go_simp) <;> (try with_reducible rfl)); done)); (try simp only [Act.put, List.setIfInBounds_toArray, List.set_cons_zero, List.set_cons_succ]))); ((refine wpAnyH_take (i := 2) (v := ?_) (by (first | (simp only [List.getElem?_toArray, List.getElem?_cons_succ, List.getElem?_cons_zero]; done) | (simp only [List.getElem?_toArray, List.getElem?_cons_succ, List.getElem?_cons_zero]; rfl))) (by kernel_rfl) (by kernel_rfl) (by kernel_rfl) (by exact fun _ _ _ h => h) (Or.inl ⟨by rfl, ?_⟩) (by assumption) ?_; rotate_left; (focus (((intro w hSw; (try dsimp only at hSw); go_simp) <;> (try with_reducible rfl)); done)); (try simp only [Act.put, List.setIfInBounds_toArray, List.set_cons_zero, List.set_cons_succ]))); ((refine wpAnyH_take (i := 4) (v := ?_) (by (first | (simp only [List.getElem?_toArray, List.getElem?_cons_succ, List.getElem?_cons_zero]; done) | (simp only [List.getElem?_toArray, List.getElem?_cons_succ, List.getElem?_cons_zero]; rfl))) (by kernel_rfl) (by kernel_rfl) (by kernel_rfl) (by exact fun _ _ _ h => h) (Or.inl ⟨by rfl, ?_⟩) (by assumption) ?_; rotate_left; (focus (((intro w hSw; (try dsimp only at hSw); go_simp) <;> (try with_reducible rfl)); done)); (try simp only [Act.put, List.setIfInBounds_toArray, List.set_cons_zero, List.set_cons_succ]))); ((refine wpAnyH_take (i := 5) (v := ?_) (by (first | (simp only [List.getElem?_toArray, List.getElem?_cons_succ, List.getElem?_cons_zero]; done) | (simp only [List.getElem?_toArray, List.getElem?_cons_succ, List.getElem?_cons_zero]; rfl))) (by kernel_rfl) (by kernel_rfl) (by kernel_rfl) (by exact fun _ _ _ h => h) (Or.inl ⟨by rfl, ?_⟩) (by assumption) ?_; rotate_left; (focus (((intro w hSw; (try dsimp only at hSw); go_simp) <;> (try with_reducible rfl)); done)); (try simp only [Act.put, List.setIfInBounds_toArray, List.set_cons_zero, List.set_cons_succ]))); ((refine wpAnyH_take (i := 6) (v := ?_) (by (first | (simp only [List.getElem?_toArray, List.getElem?_cons_succ, List.getElem?_cons_zero]; done) | (simp only [List.getElem?_toArray, List.getElem?_cons_succ, List.getElem?_cons_zero]; rfl))) (by kernel_rfl) (by kernel_rfl) (by kernel_rfl) (by exact fun _ _ _ h => h) (Or.inl ⟨by rfl, ?_⟩) (by assumption) ?_; rotate_left; (focus (((intro w hSw; (try dsimp only at hSw); go_simp) <;> (try with_reducible rfl)); done)); (try simp only [Act.put, List.setIfInBounds_toArray, List.set_cons_zero, List.set_cons_succ]))); ((refine wpAnyH_take (i := 7) (v := ?_) (by (first | (simp only [List.getElem?_toArray, List.getElem?_cons_succ, List.getElem?_cons_zero]; done) | (simp only [List.getElem?_toArray, List.getElem?_cons_succ, List.getElem?_cons_zero]; rfl))) (by kernel_rfl) (by kernel_rfl) (by kernel_rfl) (by exact fun _ _ _ h => h) (Or.inl ⟨by rfl, ?_⟩) (by assumption) ?_; rotate_left; (focus (((intro w hSw; (try dsimp only at hSw); go_simp) <;> (try with_reducible rfl)); done)); (try simp only [Act.put, List.setIfInBounds_toArray, List.set_cons_zero, List.set_cons_succ]))); ((refine wpAnyH_take (i := 8) (v := ?_) (by (first | (simp only [List.getElem?_toArray, List.getElem?_cons_succ, List.getElem?_cons_zero]; done) | (simp only [List.getElem?_toArray, List.getElem?_cons_succ, List.getElem?_cons_zero]; rfl))) (by kernel_rfl) (by kernel_rfl) (by kernel_rfl) (by exact fun _ _ _ h => h) (Or.inl ⟨by rfl, ?_⟩) (by assumption) ?_; rotate_left; (focus (((intro w hSw; (try dsimp only at hSw); go_simp) <;> (try with_reducible rfl)); done)); (try simp only [Act.put, List.setIfInBounds_toArray, List.set_cons_zero, List.set_cons_succ]))); ((refine wpAnyH_take (i := 9) (v := ?_) (by (first | (simp only [List.getElem?_toArray, List.getElem?_cons_succ, List.getElem?_cons_zero]; done) | (simp only [List.getElem?_toArray, List.getElem?_cons_succ, List.getElem?_cons_zero]; rfl))) (by kernel_rfl) (by kernel_rfl) (by kernel_rfl) (by exact fun _ _ _ h => h) (Or.inl ⟨by rfl, ?_⟩) (by assumption) ?_; rotate_left; (focus (((intro w hSw; (try dsimp only at hSw); go_simp) <;> (try with_reducible rfl)); done)); (try simp only [Act.put, List.setIfInBounds_toArray, List.set_cons_zero, List.set_cons_succ]))); ((refine wpAnyH_take (i := 10) (v := ?_) (by (first | (simp only [List.getElem?_toArray, List.getElem?_cons_succ, List.getElem?_cons_zero]; done) | (simp only [List.getElem?_toArray, List.getElem?_cons_succ, List.getElem?_cons_zero]; rfl))) (by kernel_rfl) (by kernel_rfl) (by kernel_rfl) (by exact fun _ _ _ h => h) (Or.inl ⟨by rfl, ?_⟩) (by assumption) ?_; rotate_left; (focus (((intro w hSw; (try dsimp only at hSw); go_simp) <;> (try with_reducible rfl)); done)); (try simp only [Act.put, List.setIfInBounds_toArray, List.set_cons_zero, List.set_cons_succ]))); ((refine wpAnyH_ready (rs := [3]) (by kernel_rfl) (by simp) ?_; refine AllReadyH.cons (by (first | (simp only [List.getElem?_toArray, List.getElem?_cons_succ, List.getElem?_cons_zero]; done) | (simp only [List.getElem?_toArray, List.getElem?_cons_succ, List.getElem?_cons_zero]; rfl))) (fun K hK => ?_) AllReadyH.nil; go_simp; (try go_wp2_with fail); refine hK.out _ _ ?_ (fun hHeld => ?_); (focus ((try dsimp only); ((first | go_keep | exact ⟨x1, x2⟩ | (simp [go_sem, hne1, hne2, x1, x2]; done))))); clear hK K; (try simp only [Act.put, List.setIfInBounds_toArray, List.set_cons_zero, List.set_cons_succ]))); ((refine wpAnyH_ready (rs := [11]) (by kernel_rfl) (by simp) ?_; refine AllReadyH.cons (by (first | (simp only [List.getElem?_toArray, List.getElem?_cons_succ, List.getElem?_cons_zero]; done) | (simp only [List.getElem?_toArray, List.getElem?_cons_succ, List.getElem?_cons_zero]; rfl))) (fun K hK => ?_) AllReadyH.nil; (refine step_append_ints _ rfl (.tmp 22) (.tmp 29) rfl w3.heap.size _ [] rfl (by first | exact OR.drew (OR.empty' _ w3.heap.size (by simp) (by first | omega | (simp; done) | (simp; omega))) | exact OR.empty' _ w3.heap.size (by simp) (by first | omega | (simp; done) | (simp; omega))) w3.heap.size A1 _ _ (tb t C f) rfl (by (repeat (first | (with_reducible exact HSL.out) | (with_reducible refine RI.drew ?_) | (with_reducible refine RI.drewN ?_ _) | (with_reducible refine RI.alloc ?_ (by first | omega | (simp; done) | (simp; omega)) _) | (with_reducible refine RI.setCell ?_ (by first | omega | (simp; done) | (simp; omega)) _) | (with_reducible refine RI.below ?_ (by assumption) (by first | omega | (simp; done) | (simp; omega)))))) (by have := HSL.out.len; simp; omega) (by first | omega | (simp; done) | (simp; omega)) ?_; intro v1 w4 hown hgr hat; simp only [List.nil_append] at hown; go_loud (obtain ⟨A5, n5, c5, rfl⟩ := hown.sliceForm); go_loud (have hb4 : Below w3.heap.size _ w4 := only_below hgr (by first | omega | (simp; done) | (simp; omega)) (by intro g h; cases h; exact Nat.le_refl _)); have hR4 : BM w4 (w.heap.size + 1) 0 0 none 0 0 := (by (repeat (first | (with_reducible exact hR3) | (with_reducible refine BX.new _ _ _ _ _ _ _ _ (by first | omega | (simp; done) | (simp; omega))) | (with_reducible refine BX.below ?_ (by assumption) (by first | omega | (simp; done) | (simp; omega))) | (with_reducible apply BX.drew) | (with_reducible apply BX.drewN) | (with_reducible refine BX.put ?_) | (with_reducible refine BX.put2 ?_) | (with_reducible refine BX.far ?_ (by simp only [ne_eq]; omega) _) | (with_reducible apply BX.alloc) | (with_reducible refine B3.new _ _ _ _ _ _ (by first | omega | (simp; done) | (simp; omega))) | (with_reducible exact B3.of hR3) | (with_reducible refine B3.below ?_ (by assumption) (by first | omega | (simp; done) | (simp; omega))) | (with_reducible apply B3.drew) | (with_reducible apply B3.drewN) | (with_reducible refine B3.far ?_ (by simp only [ne_eq]; omega) _) | (with_reducible apply B3.alloc)))); have hM4 : BM w4 bH R C A1 n1 cap1 := (by (repeat (first | (with_reducible exact hM3) | (with_reducible refine BX.new _ _ _ _ _ _ _ _ (by first | omega | (simp; done) | (simp; omega))) | (with_reducible refine BX.below ?_ (by assumption) (by first | omega | (simp; done) | (simp; omega))) | (with_reducible apply BX.drew) | (with_reducible apply BX.drewN) | (with_reducible refine BX.put ?_) | (with_reducible refine BX.put2 ?_) | (with_reducible refine BX.far ?_ (by simp only [ne_eq]; omega) _) | (with_reducible apply BX.alloc) | (with_reducible refine B3.new _ _ _ _ _ _ (by first | omega | (simp; done) | (simp; omega))) | (with_reducible exact B3.of hM3) | (with_reducible refine B3.below ?_ (by assumption) (by first | omega | (simp; done) | (simp; omega))) | (with_reducible apply B3.drew) | (with_reducible apply B3.drewN) | (with_reducible refine B3.far ?_ (by simp only [ne_eq]; omega) _) | (with_reducible apply B3.alloc)))); have hbw4 : Below w.heap.size w w4 := (by refine Below.trans ?_ (hb4.mono (by omega)); (repeat (first | (with_reducible exact Below.refl _ _) | (with_reducible assumption) | (with_reducible refine below_drewN ?_ _) | (with_reducible refine Below.drew ?_) | (with_reducible refine Below.alloc ?_ ?_ _) | (with_reducible refine Below.setCell ?_ ?_ _) | (with_reducible refine below_into ?_ (by assumption) (by first | omega | (simp; done) | (simp; omega))) | go_size))); obtain ⟨x0, x1, x2, xf, xl⟩ := hM4.mx; obtain ⟨y0, y1, y2, yf, yl⟩ := hR4.mx); refine hK.out _ _ ?_ (fun hHeld => ?_); (focus ((try dsimp only); ((first | go_keep | exact ⟨x1, x2⟩ | (simp [go_sem, hne1, hne2, x1, x2]; done))))); clear hK K; (try simp only [Act.put, List.setIfInBounds_toArray, List.set_cons_zero, List.set_cons_succ]))); ((refine wpAnyH_take (i := 12) (v := ?_) (by (first | (simp only [List.getElem?_toArray, List.getElem?_cons_succ, List.getElem?_cons_zero]; done) | (simp only [List.getElem?_toArray, List.getElem?_cons_succ, List.getElem?_cons_zero]; rfl))) (by kernel_rfl) (by kernel_rfl) (by kernel_rfl) (by exact fun _ _ _ h => h) (Or.inl ⟨by rfl, ?_⟩) (by assumption) ?_; rotate_left; (focus (((intro w hSw; (try dsimp only at hSw); go_simp) <;> (try with_reducible rfl)); done)); (try simp only [Act.put, List.setIfInBounds_toArray, List.set_cons_zero, List.set_cons_succ]))); ((refine wpAnyH_ready (rs := [13]) (by kernel_rfl) (by simp) ?_; refine AllReadyH.cons (by (first | (simp only [List.getElem?_toArray, List.getElem?_cons_succ, List.getElem?_cons_zero]; done) | (simp only [List.getElem?_toArray, List.getElem?_cons_succ, List.getElem?_cons_zero]; rfl))) (fun K hK => ?_) AllReadyH.nil; go_simp; (try go_wp2_with fail); refine hK.out _ _ ?_ (fun hHeld => ?_); (focus ((try dsimp only); ((first | go_keep | exact ⟨x1, x2⟩ | (simp [go_sem, hne1, hne2, x1, x2]; done))))); clear hK K; (try simp only [Act.put, List.setIfInBounds_toArray, List.set_cons_zero, List.set_cons_succ]))); ((refine wpAnyH_take (i := 14) (v := ?_) (by (first | (simp only [List.getElem?_toArray, List.getElem?_cons_succ, List.getElem?_cons_zero]; done) | (simp only [List.getElem?_toArray, List.getElem?_cons_succ, List.getElem?_cons_zero]; rfl))) (by kernel_rfl) (by kernel_rfl) (by kernel_rfl) (by exact fun _ _ _ h => h) (Or.inl ⟨by rfl, ?_⟩) (by assumption) ?_; rotate_left; (focus (((intro w hSw; (try dsimp only at hSw); go_simp) <;> (try with_reducible rfl)); done)); (try simp only [Act.put, List.setIfInBounds_toArray, List.set_cons_zero, List.set_cons_succ]))); (refine wpAnyH_done (by kernel_rfl) ?_ _))
    go_wp2_with fail
    refine ret_MB (r := t) (c := C) (A := A5) (n := n5) (cap := c5) Try.results35 rfl (BX.put (B3.of hR4)) rfl ?_
    exact MBR.mk rfl (OR.mono (B := w3.heap.size) (by (repeat (first | (with_reducible exact hown) | (with_reducible refine OR.drew ?_) | (with_reducible refine OR.drewN ?_ _) | (with_reducible refine OR.alloc ?_ _) | (with_reducible refine OR.below ?_ (by assumption) (by first | omega | (simp; done) | (simp; omega))) | (with_reducible refine OR.low ?_ (by first | omega | (simp only []; omega) | (simp; omega)) _)))) (by omega)) (by (repeat (first | (with_reducible exact Below.refl _ _) | (with_reducible assumption) | (with_reducible refine below_drewN ?_ _) | (with_reducible refine Below.drew ?_) | (with_reducible refine Below.alloc ?_ ?_ _) | (with_reducible refine Below.setCell ?_ ?_ _) | (with_reducible refine below_into ?_ (by assumption) (by first | omega | (simp; done) | (simp; omega))) | go_size)))
end Go.Proofs.Ytpecjobpihinoaa

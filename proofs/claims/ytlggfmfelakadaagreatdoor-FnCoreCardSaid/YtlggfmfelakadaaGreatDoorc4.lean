/-
  DERIVED. Several small texts in one: MatOps, PlainR, PlainN, Prim, Elem, Mul, PlainI, PlainO, PlLin, PlainQ, PlRf, PlDet, Sm0, MulS, MulS2.
-/
import Derived.Test.YtlggfmfelakadaaGreatDoorc3
import Derived.Test.YtlggfmfelakadaaGreatDoorc1
import Derived.Test.YtlggfmfelakadaaGreatDoorc2
/-
  DERIVED. newMatrix, l3New, set, checked, l3Done, columnOf, slices.Equal, sameInts.
-/
namespace Go.Proofs.YtlggfmfelakadaaGreatDoor
open Go.RowKit
set_option linter.unusedVariables false
set_option linter.unusedSimpArgs false
set_option maxRecDepth 100000 in
theorem impl_newMatrix (R C : Nat) (w : World) (hb : R * C ≤ 100000) (hR : R ≤ 100000) (hC : C ≤ 100000) :
    Calls Tryz.prog 62 #[.int .i64 R, .int .i64 C] w (MR ⟨R, C, List.replicate (R * C) 0⟩ w) := by
  obtain ⟨i0, hi, hz0, hz1, hz2⟩ := info_parts int_info
  have e : (R : Int) * (C : Int) = ((R * C : Nat) : Int) := by rw [Int.natCast_mul]
  generalize R * C = N at *
  have e1 : 0 ≤ (R : Int) * (C : Int) ∧ (R : Int) * (C : Int) ≤ 100000 := by omega
  obtain ⟨e2, e3⟩ := e1
  go_enter Tryz.func62, Tryz.ntmps62
  go_wp2_with (at_make; go_loud (refine wpList_make_full _ rfl _ _ 24 rfl (w.heap.size + 1) 3 i0 (.int .i64 0) 1 Tryz.underlying24 hi hz0 hz1 _ _ _ _ N rfl rfl rfl rfl ?b2 ?b3 ?b4 ?_))
  case b2 => rw [hz2]; omega
  case b3 => unfold maxLen; omega
  case b4 => simp
  intro w0 hown0 hgrow0
  have h0 := OR.of_made hown0
  have hb0 : Below (w.heap.size + 1) (w.alloc (.cells #[.int .i64 0, .int .i64 0, .slice none 0 0] 26)) w0 := (Below.refl _ _).grown hgrow0 (by simp) (by simp)
  have hR0 : B3 26 w0 w.heap.size := Ka
  have hbw : Below w.heap.size w w0 := Below.trans (show Below w.heap.size w (w.alloc (.cells #[.int .i64 0, .int .i64 0, .slice none 0 0] 26)) from Kw) (hb0.mono (by omega))
  have hsz := hb0.size
  simp at hsz
  obtain ⟨x0, x1, x2, hx⟩ := hR0
  have k0 := hx.cell 0
  have k1 := hx.cell 1
  have k2 := hx.cell 2
  have kf := hx.frozen
  have kl := hx.lt
  simp at k0 k1 k2
  clear hown0 hgrow0
  go_wp2
  refine ret_M (b := w.heap.size) Tryz.results62 rfl (by refine BX.put ?_; exact ⟨_, _, _, hx⟩) rfl ?_
  refine MR.mk rfl (OR.mono (B := w.heap.size + 1) (Ko h0) (by omega)) Kw
set_option maxRecDepth 100000 in
theorem spec_l3New (R C : Nat) (w : World) (hb : R * C ≤ 100000) (hR : R ≤ 100000) (hC : C ≤ 100000) :
    Calls Tryz.prog 88 #[.int .i64 R, .int .i64 C] w (MR ⟨R, C, List.replicate (R * C) 0⟩ w) := by
  obtain ⟨i0, hi, hz0, hz1, hz2⟩ := info_parts int_info
  have e : (R : Int) * (C : Int) = ((R * C : Nat) : Int) := by rw [Int.natCast_mul]
  generalize R * C = N at *
  have e1 : 0 ≤ (R : Int) * (C : Int) ∧ (R : Int) * (C : Int) ≤ 100000 := by omega
  obtain ⟨e2, e3⟩ := e1
  go_enter Tryz.func88, Tryz.ntmps88
  go_wp2_with (at_make; go_loud (refine wpList_make_full _ rfl _ _ 24 rfl (w.heap.size + 1) 3 i0 (.int .i64 0) 1 Tryz.underlying24 hi hz0 hz1 _ _ _ _ N rfl rfl rfl rfl ?b2 ?b3 ?b4 ?_))
  case b2 => rw [hz2]; omega
  case b3 => unfold maxLen; omega
  case b4 => simp
  intro w0 hown0 hgrow0
  have h0 := OR.of_made hown0
  have hb0 : Below (w.heap.size + 1) (w.alloc (.cells #[.int .i64 0, .int .i64 0, .slice none 0 0] 26)) w0 := (Below.refl _ _).grown hgrow0 (by simp) (by simp)
  have hR0 : B3 26 w0 w.heap.size := Ka
  have hbw : Below w.heap.size w w0 := Below.trans (show Below w.heap.size w (w.alloc (.cells #[.int .i64 0, .int .i64 0, .slice none 0 0] 26)) from Kw) (hb0.mono (by omega))
  have hsz := hb0.size
  simp at hsz
  obtain ⟨x0, x1, x2, hx⟩ := hR0
  have k0 := hx.cell 0
  have k1 := hx.cell 1
  have k2 := hx.cell 2
  have kf := hx.frozen
  have kl := hx.lt
  simp at k0 k1 k2
  clear hown0 hgrow0
  go_wp2
  refine ret_M (b := w.heap.size) Tryz.results88 rfl (by refine BX.put ?_; exact ⟨_, _, _, hx⟩) rfl ?_
  refine MR.mk rfl (OR.mono (B := w.heap.size + 1) (Ko h0) (by omega)) Kw
/-- The call returned nothing, having written just the block of an own slice, which now holds ys. -/
def WU (sv : Value) (B : Nat) (ys : List Int) (w : World) (e : Ending) (w' : World) : Prop :=
  e = .returned (.tuple #[]) ∧ OR w' B sv ys ∧ w.grownBy w' sv.ownBlock ∧ w.heap.size ≤ w'.heap.size
theorem impl_set (r c i j v : Int) (A : Option Addr) (n cap : Nat) (xs : List Int) (w : World) {B : Nat} (h : OR w B (.slice A n cap) xs) (hi : 0 ≤ i * c ∧ i * c ≤ 10000) (hj : 0 ≤ j ∧ j ≤ 10000) (hk : i * c + j < n) :
    Calls Tryz.prog 37 #[.agg #[.int .i64 r, .int .i64 c, .slice A n cap], .int .i64 i, .int .i64 j, .int .i64 v] w (WU (.slice A n cap) B (xs.set (i * c + j).toNat v) w) := by
  have hn := h.lenEq
  have hc := h.caps
  obtain ⟨g, rfl, hg1, hg2⟩ := h.begins (by omega)
  obtain ⟨hi1, hi2⟩ := hi
  obtain ⟨hj1, hj2⟩ := hj
  have c1 := h.cell (i * c + j).toNat (by omega)
  have f1 := h.frozen (i * c + j).toNat
  have hset := (h.set_ (i * c + j).toNat v).alloc (.cells #[.int .i64 r, .int .i64 c, .slice (some ⟨g, 0, none⟩) n cap] 26)
  have hgr := only_alloc (only_set (g := g) (World.grownBy.refl w _) (i * c + j).toNat (.int .i64 v)) (.cells #[.int .i64 r, .int .i64 c, .slice (some ⟨g, 0, none⟩) n cap] 26)
  have hne : g ≠ w.heap.size := by omega
  clear hn h
  go_enter Tryz.func37, Tryz.ntmps37
  go_wp2
  go_end0
  exact ⟨rfl, hset, hgr, by simp⟩
/-- What is handed on of a matrix, if it is one. -/
def chkV (b : Bool) (r c : Int) (A : Option Addr) (n cap : Nat) : Value :=
  if b then .tuple #[.agg #[.int .i64 r, .int .i64 c, .slice A n cap], .bool true] else .tuple #[.agg #[.int .i64 0, .int .i64 0, .slice none 0 0], .bool false]
theorem chkV_t (r c : Int) (A : Option Addr) (n cap : Nat) : chkV true r c A n cap = .tuple #[.agg #[.int .i64 r, .int .i64 c, .slice A n cap], .bool true] := rfl
theorem chkV_f (r c : Int) (A : Option Addr) (n cap : Nat) : chkV false r c A n cap = .tuple #[.agg #[.int .i64 0, .int .i64 0, .slice none 0 0], .bool false] := rfl
end Go.Proofs.YtlggfmfelakadaaGreatDoor

/-
  DERIVED. Elimination over residues: no program in sight.
-/
namespace Go.Proofs.YtlggfmfelakadaaGreatDoor
set_option linter.unusedVariables false
/-- Row t times x, over residues, in the first k columns. -/
def scK (f : Nat → Nat → Int) (t : Nat) (x p : Int) (k : Nat) : Nat → Nat → Int := fun i c => if i = t ∧ c < k then f t c * x % p else f i c
def scF (f : Nat → Nat → Int) (t : Nat) (x p : Int) : Nat → Nat → Int := fun i c => if i = t then f t c * x % p else f i c
theorem scK_zero (f : Nat → Nat → Int) (t : Nat) (x p : Int) : scK f t x p 0 = f := by funext i c; simp [scK]
theorem scK_at (f : Nat → Nat → Int) (t : Nat) (x p : Int) (k : Nat) : scK f t x p k t k = f t k := by simp [scK]
theorem scK_step (f : Nat → Nat → Int) (t : Nat) (x p : Int) (k : Nat) : upd (scK f t x p k) t k (f t k * x % p) = scK f t x p (k + 1) := by
  funext i c
  unfold upd scK
  grind
theorem scK_end {R C : Nat} (f : Nat → Nat → Int) (t : Nat) (x p : Int) : tb R C (scK f t x p C) = tb R C (scF f t x p) := tb_ext fun i j hi hj => by unfold scK scF; grind
/-- Row t taken from row i, so often as row i has it in column j, over residues. -/
def elAt (f : Nat → Nat → Int) (t j : Nat) (p : Int) (i c : Nat) : Int := (f i c - f i j * f t c) % p
/-- The first m rows done, and of row m the first k columns. -/
def elK (f : Nat → Nat → Int) (t j : Nat) (p : Int) (m k : Nat) : Nat → Nat → Int := fun i c => if i ≠ t ∧ (i < m ∨ i = m ∧ c < k) then elAt f t j p i c else f i c
def elF (f : Nat → Nat → Int) (t j : Nat) (p : Int) : Nat → Nat → Int := fun i c => if i ≠ t then elAt f t j p i c else f i c
theorem elK_zero (f : Nat → Nat → Int) (t j : Nat) (p : Int) : elK f t j p 0 0 = f := by funext i c; unfold elK; grind
theorem elK_at (f : Nat → Nat → Int) (t j : Nat) (p : Int) (m k c : Nat) (h : k ≤ c) : elK f t j p m k m c = f m c := by unfold elK; grind
theorem elK_t (f : Nat → Nat → Int) (t j : Nat) (p : Int) (m k c : Nat) : elK f t j p m k t c = f t c := by unfold elK; grind
theorem elK_step {f : Nat → Nat → Int} {t j m : Nat} (p : Int) (k : Nat) (h : m ≠ t) : upd (elK f t j p m k) m k (elAt f t j p m k) = elK f t j p m (k + 1) := by
  funext i c
  unfold upd elK
  grind
theorem elK_row {R C : Nat} (f : Nat → Nat → Int) (t j : Nat) (p : Int) (m : Nat) : tb R C (elK f t j p m C) = tb R C (elK f t j p (m + 1) 0) := tb_ext fun i c hi hc => by unfold elK; grind
theorem elK_skip {R C : Nat} (f : Nat → Nat → Int) (t j : Nat) (p : Int) : tb R C (elK f t j p t 0) = tb R C (elK f t j p (t + 1) 0) := tb_ext fun i c hi hc => by unfold elK; grind
theorem elK_skip' {R C : Nat} (f : Nat → Nat → Int) {t m : Nat} (j : Nat) (p : Int) (h : m = t) : tb R C (elK f t j p m 0) = tb R C (elK f t j p (m + 1) 0) := by subst h; exact elK_skip f m j p
theorem elK_none {R C : Nat} {f : Nat → Nat → Int} {t j m : Nat} {p : Int} (h0 : f m j = 0) (hf : ∀ i c, 0 ≤ f i c ∧ f i c < p) : tb R C (elK f t j p m 0) = tb R C (elK f t j p (m + 1) 0) := tb_ext fun i c hi hc => by
  unfold elK
  by_cases him : i = m
  · subst him
    have e : elAt f t j p i c = f i c := by unfold elAt; rw [h0, Int.zero_mul, Int.sub_zero]; exact Int.emod_eq_of_lt (hf i c).1 (hf i c).2
    rw [e]; grind
  · grind
theorem elK_end {R C : Nat} (f : Nat → Nat → Int) (t j : Nat) (p : Int) : tb R C (elK f t j p R 0) = tb R C (elF f t j p) := tb_ext fun i c hi hc => by unfold elK elF; grind
structure ESt where
  f : Nat → Nat → Int
  t : Nat
  d : Int
/-- One column. -/
def colE (R : Nat) (p : Int) (s : ESt) (j : Nat) : ESt :=
  let k := fnd s.f j (R - s.t) s.t
  if R ≤ k then s else
    let f1 := swF s.f k s.t
    let d1 := if k = s.t then s.d else (-s.d) % p
    ⟨elF (scF f1 s.t (invOf (f1 s.t j) p) p) s.t j p, s.t + 1, d1 * f1 s.t j % p⟩
/-- n columns from j on. -/
def colsE (R : Nat) (p : Int) : Nat → Nat → ESt → ESt
  | 0, _, s => s
  | n + 1, j, s => colsE R p n (j + 1) (colE R p s j)
def runE (R cols : Nat) (p : Int) (f : Nat → Nat → Int) : ESt := colsE R p cols 0 ⟨f, 0, 1⟩
theorem colE_full {R : Nat} {p : Int} {s : ESt} (h : R ≤ s.t) (j : Nat) : colE R p s j = s := by
  unfold colE
  have := fnd_le s.f j (R - s.t) s.t
  simp only
  rw [if_pos (by omega)]
theorem colsE_full {R : Nat} {p : Int} {s : ESt} (h : R ≤ s.t) : ∀ n j, colsE R p n j s = s
  | 0, _ => rfl
  | n + 1, j => by unfold colsE; rw [colE_full h]; exact colsE_full h n (j + 1)
theorem colsE_next {R cols j : Nat} {p : Int} {s : ESt} (hj : j < cols) : colsE R p (cols - j) j s = colsE R p (cols - (j + 1)) (j + 1) (colE R p s j) := by
  rw [show cols - j = (cols - (j + 1)) + 1 by omega]
  rfl
theorem colsE_end (R cols : Nat) (p : Int) (s : ESt) : colsE R p (cols - cols) cols s = s := by rw [Nat.sub_self]; rfl
theorem colE_yes {R k t j : Nat} {p d : Int} {f : Nat → Nat → Int} (hP : fnd f j (R - t) t = k) (hk : k < R) :
    colE R p ⟨f, t, d⟩ j = ⟨elF (scF (swF f k t) t (invOf (swF f k t t j) p) p) t j p, t + 1, (if k = t then d else (-d) % p) * swF f k t t j % p⟩ := by
  unfold colE
  simp only [hP]
  rw [if_neg (by omega)]
theorem colE_no {R t j : Nat} {p d : Int} {f : Nat → Nat → Int} (hP : fnd f j (R - t) t = R) : colE R p ⟨f, t, d⟩ j = ⟨f, t, d⟩ := by
  unfold colE
  simp only [hP]
  rw [if_pos (Nat.le_refl _)]
/-- What holds of a state. -/
structure EOk (R : Nat) (p : Int) (s : ESt) : Prop where
  f0 : ∀ i c, 0 ≤ s.f i c ∧ s.f i c < p
  t0 : s.t ≤ R
  d0 : 0 ≤ s.d ∧ s.d < p
theorem colE_ok {R : Nat} {p : Int} {s : ESt} (hp : 2 ≤ p) (h : EOk R p s) (j : Nat) : EOk R p (colE R p s j) := by
  unfold colE
  have hk := fnd_le s.f j (R - s.t) s.t
  simp only
  split
  · exact h
  · rename_i h1
    have hf1 : ∀ i c, 0 ≤ swF s.f (fnd s.f j (R - s.t) s.t) s.t i c ∧ swF s.f (fnd s.f j (R - s.t) s.t) s.t i c < p := fun i c => h.f0 _ _
    refine ⟨fun i c => ?_, ?_, ?_⟩
    · show 0 ≤ elF _ _ _ _ i c ∧ elF _ _ _ _ i c < p
      unfold elF elAt scF
      split
      · exact emod_bds _ _ (by omega)
      · split
        · exact emod_bds _ _ (by omega)
        · exact hf1 _ _
    · show s.t + 1 ≤ R
      omega
    · exact emod_bds _ _ (by omega)
theorem colsE_ok {R : Nat} {p : Int} (hp : 2 ≤ p) : ∀ n j s, EOk R p s → EOk R p (colsE R p n j s)
  | 0, _, _, h => h
  | n + 1, j, s, h => colsE_ok hp n (j + 1) _ (colE_ok hp h j)
end Go.Proofs.YtlggfmfelakadaaGreatDoor

/-
  DERIVED. The Hermite form, step by step, as functions of row and column: no program in sight.
-/
namespace Go.Proofs.YtlggfmfelakadaaGreatDoor
set_option linter.unusedVariables false
abbrev Fn2 := Nat → Nat → Int
/-- Row i plus t times row j, numbers beyond the limit marked. -/
def opA (f : Fn2) (i j : Nat) (t : Int) : Fn2 := fun x y => if x = i then addB (f i y) (mulF (f j y) t) else f x y
/-- Row i negated. -/
def opN (f : Fn2) (i : Nat) : Fn2 := fun x y => if x = i then -f i y else f x y
/-- The same, marks kept. -/
def opM (f : Fn2) (i : Nat) : Fn2 := fun x y => if x = i then (if f i y = bad then bad else -f i y) else f x y
/-- A matrix and the account of what is done to it. -/
structure HS where
  f : Fn2
  g : Fn2
def HS.add (s : HS) (i j : Nat) (t : Int) : HS := ⟨opA s.f i j t, opA s.g i j t⟩
def HS.swap (s : HS) (p t : Nat) : HS := ⟨swF s.f p t, swF s.g p t⟩
def HS.neg (s : HS) (i : Nat) : HS := ⟨opM s.f i, opM s.g i⟩
def Num (n : Int) : Prop := -400000000 ≤ n ∧ n ≤ 400000000
theorem Num.isN {n : Int} (h : Num n) : isNum n = true := (isNum_iff n).2 h
theorem Num.of {n : Int} (h : isNum n = true) : Num n := (isNum_iff n).1 h
theorem Num.ne {n : Int} (h : Num n) : n ≠ bad := by unfold Num at h; unfold bad; omega
theorem Num.nb {n : Int} (h : Num n) : NB n := .inr h
theorem NB.num {n : Int} (h : NB n) (h2 : n ≠ bad) : Num n := h.resolve_left h2
/-- In R rows of C cells all are numbers. -/
def OKF (R C : Nat) (f : Fn2) : Prop := ∀ i j, i < R → j < C → Num (f i j)
def NBF (f : Fn2) : Prop := ∀ i j, NB (f i j)
structure HS.OK (R C : Nat) (s : HS) : Prop where
  f : OKF R C s.f
  g : OKF R R s.g
structure HS.NBS (s : HS) : Prop where
  f : NBF s.f
  g : NBF s.g
theorem NB.addB (a b : Int) : NB (addB a b) := by
  unfold Go.Proofs.YtlggfmfelakadaaGreatDoor.addB
  split
  · exact .inl rfl
  · exact NB.fit _
theorem NB.mulF (a b : Int) : NB (mulF a b) := by
  unfold Go.Proofs.YtlggfmfelakadaaGreatDoor.mulF
  split
  · exact .inl rfl
  · exact NB.fit _
theorem opA_nb {f : Fn2} (h : NBF f) (i j : Nat) (t : Int) : NBF (opA f i j t) := by
  intro x y
  unfold opA
  split
  · exact NB.addB _ _
  · exact h x y
theorem HS.NBS.add {s : HS} (h : s.NBS) (i j : Nat) (t : Int) : (s.add i j t).NBS := ⟨opA_nb h.f _ _ _, opA_nb h.g _ _ _⟩
theorem addB_ne {a b : Int} (h : addB a b ≠ bad) : a ≠ bad ∧ b ≠ bad ∧ addB a b = a + b ∧ Num (a + b) := by
  unfold addB at h ⊢
  split at h
  · exact absurd rfl h
  · rename_i h1
    rw [if_neg h1]
    refine ⟨fun e => h1 (.inl e), fun e => h1 (.inr e), ?_⟩
    unfold fit at h ⊢
    split at h
    · rename_i h2
      rw [if_pos h2]
      exact ⟨rfl, Num.of h2⟩
    · exact absurd rfl h
theorem mulF_ne {a b : Int} (h : mulF a b ≠ bad) : a ≠ bad ∧ b ≠ bad ∧ mulF a b = a * b ∧ Num (a * b) := by
  unfold mulF at h ⊢
  split at h
  · exact absurd rfl h
  · rename_i h1
    rw [if_neg h1]
    refine ⟨fun e => h1 (.inl e), fun e => h1 (.inr e), ?_⟩
    unfold fit at h ⊢
    split at h
    · rename_i h2
      rw [if_pos h2]
      exact ⟨rfl, Num.of h2⟩
    · exact absurd rfl h
theorem opA_num {f : Fn2} {i j y : Nat} {t : Int} (h : Num (opA f i j t i y)) : f i y ≠ bad ∧ f j y ≠ bad ∧ opA f i j t i y = f i y + f j y * t ∧ Num (f j y * t) := by
  have h1 := h.ne
  unfold opA at h1 ⊢
  rw [if_pos rfl] at h1 ⊢
  obtain ⟨a1, a2, a3, a4⟩ := addB_ne h1
  obtain ⟨b1, b2, b3, b4⟩ := mulF_ne a2
  rw [a3, b3]
  exact ⟨a1, b1, rfl, b4⟩
theorem opA_back {f : Fn2} {R C i j : Nat} {t : Int} (hn : NBF f) (h : OKF R C (opA f i j t)) : OKF R C f := by
  intro x y hx hy
  by_cases hxi : x = i
  · subst hxi
    exact (hn x y).num (opA_num (h x y hx hy)).1
  · have := h x y hx hy
    unfold opA at this
    rwa [if_neg hxi] at this
theorem HS.OK.back {s : HS} {R C i j : Nat} {t : Int} (hn : s.NBS) (h : (s.add i j t).OK R C) : s.OK R C := ⟨opA_back hn.f h.f, opA_back hn.g h.g⟩
theorem opA_other {f : Fn2} {i j x y : Nat} {t : Int} (h : x ≠ i) : opA f i j t x y = f x y := by unfold opA; rw [if_neg h]
/-- Whether row i can take t times row j. -/
def rowOk (f : Fn2) (i j : Nat) (t : Int) (C : Nat) : Prop := ∀ y, y < C → Num (f j y * t) ∧ Num (f i y + f j y * t)
theorem rowOk_iff {f : Fn2} {R C i j : Nat} {t : Int} (h : OKF R C f) (hi : i < R) (hj : j < R) (ht : Num t) : rowOk f i j t C ↔ OKF R C (opA f i j t) := by
  constructor
  · intro hr x y hx hy
    unfold opA
    split
    · obtain ⟨h1, h2⟩ := hr y hy
      rw [mulF_num (h j y hj hy) ht, fit_in h1, addB_num (h i y hi hy) h1, fit_in h2]
      exact h2
    · exact h x y hx hy
  · intro ho y hy
    obtain ⟨h1, h2, h3, h4⟩ := opA_num (ho i y hi hy)
    refine ⟨h4, ?_⟩
    rw [← h3]
    exact ho i y hi hy
theorem rowOk_val {f : Fn2} {R C i j y : Nat} {t : Int} (h : OKF R C f) (hi : i < R) (hj : j < R) (ht : Num t) (hr : rowOk f i j t C) (hy : y < C) : opA f i j t i y = f i y + f j y * t := by
  obtain ⟨h1, h2⟩ := hr y hy
  unfold opA
  rw [if_pos rfl, mulF_num (h j y hj hy) ht, fit_in h1, addB_num (h i y hi hy) h1, fit_in h2]
/-- The quotient that leaves a remainder from 0 on is no greater. -/
theorem ediv_bd {n d : Int} (h : Num n) (hd : d ≠ 0) : Num (n / d) := by
  unfold Num at *
  have := Int.natAbs_ediv_le_natAbs n d
  omega
theorem Num.neg {n : Int} (h : Num n) : Num (-n) := by unfold Num at *; omega
/-- The row from t on, n of them, with the least absolute value in column j that is not 0; -1 if there is none. -/
def lstK (f : Fn2) (j t : Nat) : Nat → Int
  | 0 => -1
  | n + 1 => if f (t + n) j ≠ 0 ∧ (lstK f j t n < 0 ∨ (f (t + n) j).natAbs < (f (lstK f j t n).toNat j).natAbs) then ((t + n : Nat) : Int) else lstK f j t n
theorem lstK_succ (f : Fn2) (j t n : Nat) : lstK f j t (n + 1) = if f (t + n) j ≠ 0 ∧ (lstK f j t n < 0 ∨ (f (t + n) j).natAbs < (f (lstK f j t n).toNat j).natAbs) then ((t + n : Nat) : Int) else lstK f j t n := rfl
theorem lstK_cases (f : Fn2) (j t : Nat) : ∀ n, (lstK f j t n = -1 ∧ ∀ i, i < n → f (t + i) j = 0) ∨ ∃ p, lstK f j t n = (p : Nat) ∧ t ≤ p ∧ p < t + n ∧ f p j ≠ 0 ∧ ∀ i, i < n → f (t + i) j ≠ 0 → (f p j).natAbs ≤ (f (t + i) j).natAbs
  | 0 => .inl ⟨rfl, fun i h => absurd h (Nat.not_lt_zero _)⟩
  | n + 1 => by
    rw [lstK_succ]
    rcases lstK_cases f j t n with ⟨h1, h2⟩ | ⟨p, h1, h2, h3, h4, h5⟩
    · by_cases hz : f (t + n) j = 0
      · left
        rw [if_neg (by simp [hz])]
        refine ⟨h1, fun i hi => ?_⟩
        rcases Nat.lt_or_ge i n with hi' | hi'
        · exact h2 i hi'
        · rw [show i = n by omega]; exact hz
      · right
        rw [if_pos ⟨hz, .inl (by omega)⟩]
        refine ⟨t + n, rfl, by omega, by omega, hz, fun i hi hne => ?_⟩
        rcases Nat.lt_or_ge i n with hi' | hi'
        · exact absurd (h2 i hi') hne
        · rw [show i = n by omega]; exact Nat.le_refl _
    · right
      rw [h1]
      by_cases hc : f (t + n) j ≠ 0 ∧ ((p : Int) < 0 ∨ (f (t + n) j).natAbs < (f (p : Int).toNat j).natAbs)
      · rw [if_pos hc]
        obtain ⟨hz, hc⟩ := hc
        rw [Int.toNat_natCast] at hc
        have hc' : (f (t + n) j).natAbs < (f p j).natAbs := hc.resolve_left (by omega)
        refine ⟨t + n, rfl, by omega, by omega, hz, fun i hi hne => ?_⟩
        rcases Nat.lt_or_ge i n with hi' | hi'
        · have := h5 i hi' hne; omega
        · rw [show i = n by omega]; exact Nat.le_refl _
      · rw [if_neg hc]
        rw [Int.toNat_natCast] at hc
        refine ⟨p, rfl, h2, by omega, h4, fun i hi hne => ?_⟩
        rcases Nat.lt_or_ge i n with hi' | hi'
        · exact h5 i hi' hne
        · rw [show i = n by omega] at hne ⊢
          refine Nat.le_of_not_lt fun hlt => hc ⟨hne, .inr hlt⟩
def lst (R : Nat) (f : Fn2) (j t : Nat) : Int := lstK f j t (R - t)
/-- Whether another row from t on has something in column j. -/
def oth (R : Nat) (f : Fn2) (j t p : Nat) : Bool := (List.range (R - t)).any fun n => decide (t + n ≠ p) && decide (f (t + n) j ≠ 0)
theorem oth_iff {R : Nat} {f : Fn2} {j t p : Nat} : oth R f j t p = true ↔ ∃ i, t ≤ i ∧ i < R ∧ i ≠ p ∧ f i j ≠ 0 := by
  unfold oth
  rw [List.any_eq_true]
  constructor
  · rintro ⟨n, hn, h⟩
    have hn' := List.mem_range.1 hn
    rw [Bool.and_eq_true, decide_eq_true_eq, decide_eq_true_eq] at h
    exact ⟨t + n, by omega, by omega, h.1, h.2⟩
  · rintro ⟨i, h1, h2, h3, h4⟩
    refine ⟨i - t, List.mem_range.2 (by omega), ?_⟩
    rw [show t + (i - t) = i by omega, Bool.and_eq_true, decide_eq_true_eq, decide_eq_true_eq]
    exact ⟨h3, h4⟩
theorem oth_no {R : Nat} {f : Fn2} {j t p : Nat} (h : ∀ i, t ≤ i → i < R → ¬ (i ≠ p ∧ f i j ≠ 0)) : oth R f j t p = false := by
  refine Bool.eq_false_iff.2 fun hc => ?_
  obtain ⟨i, h1, h2, h3⟩ := oth_iff.1 hc
  exact h i h1 h2 h3
/-- What row t + n takes in a sweep. -/
def swS (j p t : Nat) (s : HS) : Nat → HS
  | 0 => s
  | n + 1 => if t + n ≠ p ∧ (swS j p t s n).f (t + n) j ≠ 0 then (swS j p t s n).add (t + n) p (-((swS j p t s n).f (t + n) j / (swS j p t s n).f p j)) else swS j p t s n
theorem swS_succ (j p t : Nat) (s : HS) (n : Nat) : swS j p t s (n + 1) = if t + n ≠ p ∧ (swS j p t s n).f (t + n) j ≠ 0 then (swS j p t s n).add (t + n) p (-((swS j p t s n).f (t + n) j / (swS j p t s n).f p j)) else swS j p t s n := rfl
theorem swS_nb {j p t : Nat} {s : HS} (h : s.NBS) : ∀ n, (swS j p t s n).NBS
  | 0 => h
  | n + 1 => by
    rw [swS_succ]
    split
    · exact (swS_nb h n).add _ _ _
    · exact swS_nb h n
theorem swS_back {j p t R C : Nat} {s : HS} (h : s.NBS) {n : Nat} (hk : (swS j p t s (n + 1)).OK R C) : (swS j p t s n).OK R C := by
  rw [swS_succ] at hk
  split at hk
  · exact HS.OK.back (swS_nb h n) hk
  · exact hk
theorem swS_back' {j p t R C : Nat} {s : HS} (h : s.NBS) (n : Nat) : ∀ m, (swS j p t s (n + m)).OK R C → (swS j p t s n).OK R C
  | 0, hk => hk
  | m + 1, hk => swS_back' h n m (swS_back h hk)
/-- Row p stays. -/
theorem swS_p {j p t : Nat} {s : HS} (y : Nat) : ∀ n, (swS j p t s n).f p y = s.f p y
  | 0 => rfl
  | n + 1 => by
    rw [swS_succ]
    split
    · rename_i h
      show opA _ _ _ _ p y = _
      rw [opA_other (Ne.symm h.1)]
      exact swS_p y n
    · exact swS_p y n
/-- Rows that have not come up stay. -/
theorem swS_late {j p t : Nat} {s : HS} {x : Nat} (y : Nat) : ∀ n, t + n ≤ x → (swS j p t s n).f x y = s.f x y
  | 0, _ => rfl
  | n + 1, hx => by
    rw [swS_succ]
    split
    · show opA _ _ _ _ x y = _
      rw [opA_other (by omega)]
      exact swS_late y n (by omega)
    · exact swS_late y n (by omega)
theorem swS_early {j p t : Nat} {s : HS} {x : Nat} (y : Nat) (hx : x < t) : ∀ n, (swS j p t s n).f x y = s.f x y
  | 0 => rfl
  | n + 1 => by
    rw [swS_succ]
    split
    · show opA _ _ _ _ x y = _
      rw [opA_other (by omega)]
      exact swS_early y hx n
    · exact swS_early y hx n
/-- What stands in column j behind a sweep. -/
theorem swS_col {j p t R C : Nat} {s : HS} (h : s.NBS) (hj : j < C) (hp : p < R) (hpj : s.f p j ≠ 0) : ∀ n, t + n ≤ R → (swS j p t s n).OK R C → ∀ x, t ≤ x → x < t + n → x ≠ p → (swS j p t s n).f x j = s.f x j % s.f p j
  | 0, _, _, x, h1, h2, _ => by omega
  | n + 1, hn, hk, x, h1, h2, h3 => by
    have hk0 := swS_back h hk
    have hsp := swS_p (j := j) (p := p) (t := t) (s := s) j n
    have hnp : Num (s.f p j) := by rw [← hsp]; exact hk0.f p j hp hj
    by_cases hx : x = t + n
    · subst hx
      have hl := swS_late (j := j) (p := p) (t := t) (s := s) (x := t + n) j n (Nat.le_refl _)
      have hnx : Num (s.f (t + n) j) := by rw [← hl]; exact hk0.f _ j (by omega) hj
      rw [swS_succ] at hk ⊢
      by_cases hz : (swS j p t s n).f (t + n) j = 0
      · rw [if_neg (by simp [hz]), hz]
        rw [← hl, hz, Int.zero_emod]
      · rw [if_pos ⟨h3, hz⟩] at hk ⊢
        have hN := hk.f (t + n) j (by omega) hj
        obtain ⟨-, -, he, -⟩ := opA_num hN
        show opA _ _ _ _ (t + n) j = _
        rw [he, hl, hsp]
        have := Int.mul_ediv_add_emod (s.f (t + n) j) (s.f p j)
        rw [Int.mul_neg]
        omega
    · have hxl : x < t + n := by omega
      have ih := swS_col h hj hp hpj n (by omega) hk0 x h1 hxl h3
      rw [swS_succ]
      split
      · show opA _ _ _ _ x j = _
        rw [opA_other hx]
        exact ih
      · exact ih
/-- What rows 0 to n - 1 take when row t is done. -/
def abS (j t : Nat) (s : HS) : Nat → HS
  | 0 => s
  | n + 1 => (abS j t s n).add n t (-((abS j t s n).f n j / (abS j t s n).f t j))
theorem abS_succ (j t : Nat) (s : HS) (n : Nat) : abS j t s (n + 1) = (abS j t s n).add n t (-((abS j t s n).f n j / (abS j t s n).f t j)) := rfl
theorem abS_nb {j t : Nat} {s : HS} (h : s.NBS) : ∀ n, (abS j t s n).NBS
  | 0 => h
  | n + 1 => (abS_nb h n).add _ _ _
theorem abS_back {j t R C : Nat} {s : HS} (h : s.NBS) {n : Nat} (hk : (abS j t s (n + 1)).OK R C) : (abS j t s n).OK R C := HS.OK.back (abS_nb h n) hk
theorem abS_back' {j t R C : Nat} {s : HS} (h : s.NBS) (n : Nat) : ∀ m, (abS j t s (n + m)).OK R C → (abS j t s n).OK R C
  | 0, hk => hk
  | m + 1, hk => abS_back' h n m (abS_back h hk)
theorem abS_late {j t : Nat} {s : HS} {x : Nat} (y : Nat) : ∀ n, n ≤ x → (abS j t s n).f x y = s.f x y
  | 0, _ => rfl
  | n + 1, hx => by
    rw [abS_succ]
    show opA _ _ _ _ x y = _
    rw [opA_other (by omega)]
    exact abS_late y n (by omega)
def noBad (x : Int) : Bool := !(x == -4611686018427387904)
def HS.ok (R C : Nat) (s : HS) : Bool := (tb R C s.f).all noBad && (tb R R s.g).all noBad
theorem noBad_num {x : Int} (h : NB x) : noBad x = true ↔ Num x := by
  unfold noBad
  rw [Bool.not_eq_true', beq_eq_false_iff_ne]
  exact ⟨fun h2 => h.num h2, fun h2 => h2.ne⟩
theorem tb_all {R C : Nat} {f : Fn2} (h : NBF f) : (tb R C f).all noBad = true ↔ OKF R C f := by
  rw [List.all_eq_true]
  constructor
  · intro ha i j hi hj
    refine (noBad_num (h i j)).1 (ha _ ?_)
    rw [← tb_at (f := f) hi hj]
    have hl := idx_nat hi hj
    have : i * C + j < (tb R C f).length := by rw [tb_len]; exact hl
    rw [List.getD_eq_getElem?_getD, List.getElem?_eq_getElem this]
    exact List.getElem_mem this
  · intro ho x hx
    exact tb_mem (P := fun x => noBad x = true) (fun i j hi hj => (noBad_num (h i j)).2 (ho i j hi hj)) x hx
theorem HS.ok_iff {R C : Nat} {s : HS} (h : s.NBS) : s.ok R C = true ↔ s.OK R C := by
  unfold HS.ok
  rw [Bool.and_eq_true, tb_all h.f, tb_all h.g]
  exact ⟨fun h => ⟨h.1, h.2⟩, fun h => ⟨h.f, h.g⟩⟩
/-- The measure of the inner loop. -/
def hmMs (R j t : Nat) (s : HS) (p : Nat) : Nat := if oth R s.f j t p then (s.f p j).natAbs else 0
theorem hmMs_lt {R C j t : Nat} {s : HS} {p : Nat} (h : s.NBS) (hj : j < C) (hp : p < R) (ht : t ≤ p) (hpj : s.f p j ≠ 0) (ho : oth R s.f j t p = true) (hk : (swS j p t s (R - t)).OK R C) :
    hmMs R j t (swS j p t s (R - t)) (lst R (swS j p t s (R - t)).f j t).toNat < hmMs R j t s p := by
  have hcol := swS_col h hj hp hpj (R - t) (by omega) hk
  have hpp := swS_p (j := j) (p := p) (t := t) (s := s) j (R - t)
  generalize (swS j p t s (R - t)) = s' at *
  unfold hmMs
  rw [if_pos ho]
  by_cases ho2 : oth R s'.f j t (lst R s'.f j t).toNat = true
  · rw [if_pos ho2]
    obtain ⟨i, h1, h2, h3, h4⟩ := oth_iff.1 ho2
    rcases lstK_cases s'.f j t (R - t) with ⟨e1, e2⟩ | ⟨q, e1, e2, e3, e4, e5⟩
    · have := e2 (i - t) (by omega)
      rw [show t + (i - t) = i by omega] at this
      exact absurd this h4
    · have e1' : lst R s'.f j t = (q : Int) := e1
      rw [e1', Int.toNat_natCast] at h3 ⊢
      have hrem : ∀ x, t ≤ x → x < R → x ≠ p → (s'.f x j).natAbs < (s.f p j).natAbs := fun x a b c => by
        rw [hcol x a (by omega) c]
        have h5 := Int.emod_nonneg (s.f x j) hpj
        have h6 := Int.emod_lt (s.f x j) hpj
        omega
      by_cases hqp : q = p
      · subst hqp
        have h7 := hrem i h1 h2 h3
        have h8 := e5 (i - t) (by omega)
        rw [show t + (i - t) = i by omega] at h8
        have := h8 h4
        omega
      · exact hrem q e2 (by omega) hqp
  · rw [if_neg ho2]
    omega
/-- Sweeps till row p alone has something in column j. -/
def hmIn (R C j t : Nat) (s : HS) (p : Nat) : Option (HS × Nat) :=
  if oth R s.f j t p then
    if (swS j p t s (R - t)).ok R C then
      if h : hmMs R j t (swS j p t s (R - t)) (lst R (swS j p t s (R - t)).f j t).toNat < hmMs R j t s p then hmIn R C j t (swS j p t s (R - t)) (lst R (swS j p t s (R - t)).f j t).toNat else none
    else none
  else some (s, p)
termination_by hmMs R j t s p
theorem hmIn_done {R C j t : Nat} {s : HS} {p : Nat} (h : oth R s.f j t p = false) : hmIn R C j t s p = some (s, p) := by
  rw [hmIn, if_neg (by rw [h]; exact Bool.false_ne_true)]
theorem hmIn_bad {R C j t : Nat} {s : HS} {p : Nat} (ho : oth R s.f j t p = true) (h : (swS j p t s (R - t)).ok R C = false) : hmIn R C j t s p = none := by
  rw [hmIn, if_pos ho, if_neg (by rw [h]; exact Bool.false_ne_true)]
theorem hmIn_next {R C j t : Nat} {s : HS} {p : Nat} (hn : s.NBS) (hj : j < C) (hp : p < R) (ht : t ≤ p) (hpj : s.f p j ≠ 0) (ho : oth R s.f j t p = true) (h : (swS j p t s (R - t)).ok R C = true) :
    hmIn R C j t s p = hmIn R C j t (swS j p t s (R - t)) (lst R (swS j p t s (R - t)).f j t).toNat := by
  conv => lhs; rw [hmIn]
  rw [if_pos ho, if_pos h, dif_pos (hmMs_lt hn hj hp ht hpj ho ((HS.ok_iff (swS_nb hn _)).1 h))]
/-- Row p to place t, its sign, the rows above. -/
def hmS1 (t p : Nat) (s : HS) : HS := if p = t then s else s.swap p t
def hmS2 (j t : Nat) (s : HS) : HS := if s.f t j < 0 then s.neg t else s
def hmFin (R C j t : Nat) (p : Nat) (s : HS) : Option HS := if (abS j t (hmS2 j t (hmS1 t p s)) t).ok R C then some (abS j t (hmS2 j t (hmS1 t p s)) t) else none
/-- Columns j and the m - 1 behind it; the number of rows that are done. -/
def hmOut (R C : Nat) : Nat → Nat → Nat → HS → Option (HS × Nat)
  | 0, _, t, s => some (s, t)
  | m + 1, j, t, s =>
    if t < R then
      if lst R s.f j t < 0 then hmOut R C m (j + 1) t s
      else (hmIn R C j t s (lst R s.f j t).toNat).bind fun x => (hmFin R C j t x.2 x.1).bind fun s' => hmOut R C m (j + 1) (t + 1) s'
    else some (s, t)
/-- What follows in a column. -/
def hmGo (R C m j t : Nat) (o : Option (HS × Nat)) : Option (HS × Nat) := o.bind fun x => (hmFin R C j t x.2 x.1).bind fun s' => hmOut R C m (j + 1) (t + 1) s'
theorem hmOut_zero (R C j t : Nat) (s : HS) : hmOut R C 0 j t s = some (s, t) := rfl
theorem hmOut_full {R C m j t : Nat} {s : HS} (h : ¬ t < R) : hmOut R C m j t s = some (s, t) := by
  cases m with
  | zero => rfl
  | succ m => show (if _ then _ else _) = _; rw [if_neg h]
theorem hmOut_skip {R C m j t : Nat} {s : HS} (h : t < R) (h2 : lst R s.f j t < 0) : hmOut R C (m + 1) j t s = hmOut R C m (j + 1) t s := by
  show (if _ then (if _ then _ else _) else _) = _
  rw [if_pos h, if_pos h2]
theorem hmOut_go {R C m j t : Nat} {s : HS} (h : t < R) (h2 : ¬ lst R s.f j t < 0) : hmOut R C (m + 1) j t s = hmGo R C m j t (hmIn R C j t s (lst R s.f j t).toNat) := by
  show (if _ then (if _ then _ else _) else _) = _
  rw [if_pos h, if_neg h2]
  rfl
def idF : Fn2 := fun i j => if i = j then 1 else 0
/-- The Hermite form, what makes it, and the number of rows that are not zeros. -/
def hmRun (R C : Nat) (f : Fn2) : Option (HS × Nat) := hmOut R C C 0 0 ⟨f, idF⟩
end Go.Proofs.YtlggfmfelakadaaGreatDoor

/-
  DERIVED. makePrimitive of the program, in a window of an owned block.
-/
namespace Go.Proofs.YtlggfmfelakadaaGreatDoor
open Go.RowKit
set_option linter.unusedVariables false
set_option linter.unusedSimpArgs false
theorem gcdF_le (l : List Int) (M : Nat) (h : ∀ x ∈ l, x.natAbs ≤ M) : ∀ a : Nat, a ≤ M → l.foldl (fun (g : Nat) (x : Int) => Int.gcd g x) a ≤ M := by
  induction l with
  | nil => intro a ha; simpa using ha
  | cons y l ih =>
    intro a ha
    refine ih (fun x hx => h x (List.mem_cons_of_mem _ hx)) _ ?_
    show Int.gcd a y ≤ M
    by_cases hy : y = 0
    · subst hy; simpa using ha
    · have h1 : Int.gcd a y ∣ y.natAbs := Int.gcd_dvd_natAbs_right ..
      have h2 := Nat.le_of_dvd (by omega) h1
      have := h y (List.mem_cons_self ..)
      omega
theorem RI.window {w : World} {B g n cap off m : Nat} {xs : List Int} (h : OR w B (.slice (some ⟨g, 0, none⟩) n cap) xs) (hw : off + m ≤ xs.length) : RI w (g + 1) (some ⟨g, off, none⟩) m (winL xs off m) :=
  ⟨winL_len hw, fun _ => ⟨g, off, rfl, by omega, fun k hk => by rw [winL_getD hk]; exact h.cell (off + k) (by omega)⟩⟩
end Go.Proofs.YtlggfmfelakadaaGreatDoor

/-
  DERIVED. at and set on a table of the call's own.
-/
namespace Go.Proofs.YtlggfmfelakadaaGreatDoor
open Go.RowKit
set_option linter.unusedVariables false
theorem impl_at_tb (R C i j : Nat) (A : Option Addr) (n cap : Nat) (F : Nat → Nat → Int) (v : Int) (hv : F i j = v) (w : World) {B : Nat} (h : OR w B (.slice A n cap) (tb R C F)) (hR : R ≤ 48) (hC : C ≤ 48) (hi : i < R) (hj : j < C) :
    Calls Tryz.prog 33 #[.agg #[.int .i64 R, .int .i64 C, .slice A n cap], .int .i64 i, .int .i64 j] w (BV (.int .i64 v) w) := by
  have hn := h.lenEq
  rw [tb_len] at hn
  have h1 := idx_nat hi hj
  have h2 : i * C ≤ 48 * 48 := Nat.mul_le_mul (by omega) hC
  have e1 : (i : Int) * (C : Int) = ((i * C : Nat) : Int) := by rw [Int.natCast_mul]
  have := impl_at R C i j A n cap (tb R C F) w h.reads (Nat.le_refl _) ⟨by omega, by omega⟩ ⟨by omega, by omega⟩ (by omega)
  rw [cel_tb hi hj, hv] at this
  exact this
theorem impl_set_tb (R C i j : Nat) (v : Int) (A : Option Addr) (n cap : Nat) (F F' : Nat → Nat → Int) (hF : upd F i j v = F') (w : World) {B : Nat} (h : OR w B (.slice A n cap) (tb R C F)) (hR : R ≤ 48) (hC : C ≤ 48) (hi : i < R) (hj : j < C) :
    Calls Tryz.prog 37 #[.agg #[.int .i64 R, .int .i64 C, .slice A n cap], .int .i64 i, .int .i64 j, .int .i64 v] w (WU (.slice A n cap) B (tb R C F') w) := by
  have hn := h.lenEq
  rw [tb_len] at hn
  have h1 := idx_nat hi hj
  have h2 : i * C ≤ 48 * 48 := Nat.mul_le_mul (by omega) hC
  have e1 : (i : Int) * (C : Int) = ((i * C : Nat) : Int) := by rw [Int.natCast_mul]
  have := impl_set R C i j v A n cap (tb R C F) w h ⟨by omega, by omega⟩ ⟨by omega, by omega⟩ (by omega)
  rw [show ((i : Int) * (C : Int) + (j : Int)).toNat = i * C + j by omega, tb_set hi hj, hF] at this
  exact this
end Go.Proofs.YtlggfmfelakadaaGreatDoor

/-
  DERIVED. MultiplyMatrices of the program.
-/
namespace Go.Proofs.YtlggfmfelakadaaGreatDoor
open Go.RowKit
set_option linter.unusedVariables false
set_option linter.unusedSimpArgs false
theorem mul_cases (r c : Int) (xs : List Int) (r2 c2 : Int) (ys : List Int) : (mulB r c xs r2 c2 ys = false ∧ isMat r c xs = false) ∨ (mulB r c xs r2 c2 ys = false ∧ isMat r c xs = true ∧ isMat r2 c2 ys = false) ∨
    (mulB r c xs r2 c2 ys = false ∧ isMat r c xs = true ∧ isMat r2 c2 ys = true ∧ c ≠ r2) ∨ (mulB r c xs r2 c2 ys = isMat r c2 (mulL xs r.toNat c.toNat ys c2.toNat) ∧ isMat r c xs = true ∧ isMat r2 c2 ys = true ∧ c = r2) := by
  unfold mulB
  cases h1 : isMat r c xs <;> cases h2 : isMat r2 c2 ys <;> by_cases h3 : c = r2 <;> simp_all
theorem mulM_no {r c : Int} {xs : List Int} {r2 c2 : Int} {ys : List Int} (h : mulB r c xs r2 c2 ys = false) : mulM r c xs r2 c2 ys = .none := by unfold mulM; rw [h]; rfl
theorem mulM_yes {r c : Int} {xs : List Int} {r2 c2 : Int} {ys : List Int} (h : mulB r c xs r2 c2 ys = true) : mulM r c xs r2 c2 ys = ⟨r, c2, mulL xs r.toNat c.toNat ys c2.toNat⟩ := by unfold mulM; rw [h]; rfl
/-- The sum of the first k products. -/
def psum (xs : List Int) (c : Nat) (ys : List Int) (c2 i j k : Nat) : Int := sumTo (fun q => cel xs c i q * cel ys c2 q j) k
theorem psum_bd {r c : Nat} {xs : List Int} {r2 c2 : Nat} {ys : List Int} (M : IsM r c xs) (M2 : IsM r2 c2 ys) (i j k : Nat) (hk : k ≤ 24) :
    -3840000000000000000 ≤ psum xs c ys c2 i j k ∧ psum xs c ys c2 i j k ≤ 3840000000000000000 := by
  have h := sumTo_bd (b := 160000000000000000) (f := fun q => cel xs c i q * cel ys c2 q j) (by omega) k (fun q _ => by
    obtain ⟨a1, a2⟩ := M.cel_bd i q
    obtain ⟨b1, b2⟩ := M2.cel_bd q j
    have := mul_bd4 _ _ 400000000 400000000 a1 a2 b1 b2
    omega)
  unfold psum
  omega
theorem fillTo_set' {xs : List Int} {n k : Nat} {v : Int} (hx : xs.length = n) (hk : k < n) (hv : xs.getD k 0 = v) : (fillTo xs n k).set k v = fillTo xs n (k + 1) := by
  subst hv; exact fillTo_set hx hk
end Go.Proofs.YtlggfmfelakadaaGreatDoor

/-
  DERIVED. What an echelon form asks, row by row: no program in sight.
-/
namespace Go.Proofs.YtlggfmfelakadaaGreatDoor
set_option linter.unusedVariables false
def ezc (xs : List Int) (C i k : Nat) : Bool := decide (k = i) || decide (cel xs C k (pv xs C i) = 0)
def erow (xs : List Int) (R C i : Nat) : Bool :=
  if pv xs C i < C then decide (lastP xs C i < pv xs C i) && decide (0 ≤ cel xs C i (pv xs C i)) && decide (gcdL (rowL xs C i) = 1) && (List.range R).all (ezc xs C i) else true
def echB (r c : Int) (xs : List Int) : Bool := isMat r c xs && (List.range r.toNat).all (erow xs r.toNat c.toNat)
/-- The row is primitive exactly if the reference finds nothing wrong with it. -/
theorem prim_row {xs : List Int} {C i : Nat} (hl : (rowL xs C i).length = C) (hp : pv xs C i < C) : primL (rowL xs C i) = rowL xs C i ↔ (gcdL (rowL xs C i) = 1 ∧ 0 ≤ cel xs C i (pv xs C i)) := by
  have h1 := primL_eq_iff (rowL xs C i)
  have h2 : gcdL (rowL xs C i) ≠ 0 := fcN_lt_iff.1 (by rw [hl]; exact hp)
  rw [h1, ← rowL_getD hp]
  simp only [h2, false_or]
  exact Iff.rfl
theorem prim_row0 {xs : List Int} {C i : Nat} (hl : (rowL xs C i).length = C) (hp : ¬ pv xs C i < C) : primL (rowL xs C i) = rowL xs C i := by
  have h1 := primL_eq_iff (rowL xs C i)
  rw [h1]
  left
  apply Classical.byContradiction
  intro h
  exact hp (by have := fcN_lt_iff.2 h; rw [hl] at this; exact this)
theorem spl_all {xs : List Int} {n : Nat} (h : xs.length = n) : splL xs 0 (primL (winL xs 0 n)) = primL xs := by
  have e : winL xs 0 n = xs := by simp [winL, ← h]
  rw [e]
  simp [splL, primL_len]
theorem gcdF_le' (l : List Int) (M : Nat) (h : ∀ x ∈ l, x.natAbs ≤ M) : ∀ a : Nat, a ≤ M → l.foldl (fun (g : Nat) (x : Int) => Int.gcd g x) a ≤ M := by
  induction l with
  | nil => intro a ha; simpa using ha
  | cons y l ih =>
    intro a ha
    refine ih (fun x hx => h x (List.mem_cons_of_mem _ hx)) _ ?_
    show Int.gcd a y ≤ M
    by_cases hy : y = 0
    · subst hy; simpa using ha
    · have h1 : Int.gcd a y ∣ y.natAbs := Int.gcd_dvd_natAbs_right ..
      have h2 := Nat.le_of_dvd (by omega) h1
      have := h y (List.mem_cons_self ..)
      omega
end Go.Proofs.YtlggfmfelakadaaGreatDoor

/-
  DERIVED. The Hermite form, what stays in a round: no program in sight.
-/
namespace Go.Proofs.YtlggfmfelakadaaGreatDoor
set_option linter.unusedVariables false
theorem opM_nb {f : Fn2} (h : NBF f) (i : Nat) : NBF (opM f i) := by
  intro x y
  unfold opM
  split
  · split
    · exact .inl rfl
    · rename_i h2; exact ((h i y).num h2).neg.nb
  · exact h x y
theorem opM_ok {f : Fn2} {R C : Nat} (h : OKF R C f) (i : Nat) (hi : i < R) : OKF R C (opM f i) := by
  intro x y hx hy
  unfold opM
  split
  · rw [if_neg (h i y hi hy).ne]; exact (h i y hi hy).neg
  · exact h x y hx hy
theorem opM_eq {f : Fn2} {R C : Nat} (h : OKF R C f) (i : Nat) (hi : i < R) : tb R C (opN f i) = tb R C (opM f i) := tb_ext fun x y hx hy => by
  unfold opN opM
  split
  · rw [if_neg (h i y hi hy).ne]
  · rfl
theorem opM_at {f : Fn2} {i y : Nat} (h : Num (f i y)) : opM f i i y = -f i y := by unfold opM; rw [if_pos rfl, if_neg h.ne]
theorem swF_nb {f : Fn2} (h : NBF f) (p t : Nat) : NBF (swF f p t) := fun x y => h _ _
theorem swF_ok {f : Fn2} {R C p t : Nat} (h : OKF R C f) (hp : p < R) (ht : t < R) : OKF R C (swF f p t) := by
  intro x y hx hy
  unfold swF
  refine h _ _ ?_ hy
  split
  · exact ht
  · split
    · exact hp
    · exact hx
/-- All numbers, and no mark that is none. -/
structure GD (R C : Nat) (s : HS) : Prop where
  ok : s.OK R C
  nb : s.NBS
theorem GD.swap {R C p t : Nat} {s : HS} (h : GD R C s) (hp : p < R) (ht : t < R) : GD R C (s.swap p t) :=
  ⟨⟨swF_ok h.ok.f hp ht, swF_ok h.ok.g hp ht⟩, ⟨swF_nb h.nb.f p t, swF_nb h.nb.g p t⟩⟩
theorem GD.neg {R C i : Nat} {s : HS} (h : GD R C s) (hi : i < R) : GD R C (s.neg i) :=
  ⟨⟨opM_ok h.ok.f i hi, opM_ok h.ok.g i hi⟩, ⟨opM_nb h.nb.f i, opM_nb h.nb.g i⟩⟩
theorem GD.s1 {R C p t : Nat} {s : HS} (h : GD R C s) (hp : p < R) (ht : t < R) : GD R C (hmS1 t p s) := by
  unfold hmS1
  split
  · exact h
  · exact h.swap hp ht
theorem GD.s2 {R C j t : Nat} {s : HS} (h : GD R C s) (ht : t < R) : GD R C (hmS2 j t s) := by
  unfold hmS2
  split
  · exact h.neg ht
  · exact h
theorem hmS1_piv (t p j : Nat) (s : HS) : (hmS1 t p s).f t j = s.f p j := by
  unfold hmS1
  split
  · rename_i h; rw [h]
  · exact swF_t s.f p t j
theorem hmS2_piv {t j : Nat} {s : HS} (h : Num (s.f t j)) (h0 : s.f t j ≠ 0) : (hmS2 j t s).f t j ≠ 0 := by
  unfold hmS2
  split
  · show opM s.f t t j ≠ 0
    rw [opM_at h]; omega
  · exact h0
theorem lst_cases (R : Nat) (f : Fn2) (j t : Nat) (ht : t ≤ R) : (lst R f j t = -1 ∧ ∀ i, t ≤ i → i < R → f i j = 0) ∨ ∃ p, lst R f j t = (p : Nat) ∧ t ≤ p ∧ p < R ∧ f p j ≠ 0 := by
  rcases lstK_cases f j t (R - t) with ⟨h1, h2⟩ | ⟨p, h1, h2, h3, h4, _⟩
  · refine .inl ⟨h1, fun i hi hR => ?_⟩
    have := h2 (i - t) (by omega)
    rwa [show t + (i - t) = i by omega] at this
  · exact .inr ⟨p, h1, h2, by omega, h4⟩
/-- A step of a sweep. -/
theorem sw_add {j p t n : Nat} {s : HS} (h1 : t + n ≠ p) (h2 : s.f (t + n) j ≠ 0) : swS j p t s (n + 1) = (swS j p t s n).add (t + n) p (-(s.f (t + n) j / s.f p j)) := by
  rw [swS_succ, swS_late j n (Nat.le_refl _), swS_p, if_pos ⟨h1, h2⟩]
theorem sw_skip {j p t n : Nat} {s : HS} (h : t + n = p ∨ s.f (t + n) j = 0) : swS j p t s (n + 1) = swS j p t s n := by
  rw [swS_succ, swS_late j n (Nat.le_refl _), if_neg]
  rintro ⟨h1, h2⟩
  rcases h with h | h
  · exact h1 h
  · exact h2 h
theorem sw_no {R C j p t n : Nat} {s : HS} (hn : s.NBS) (hk : n ≤ R - t) (h : ¬ (swS j p t s n).OK R C) : (swS j p t s (R - t)).ok R C = false := by
  refine Bool.eq_false_iff.2 fun hc => h ?_
  have h2 := (HS.ok_iff (swS_nb hn _)).1 hc
  rw [show R - t = n + (R - t - n) by omega] at h2
  exact swS_back' hn n _ h2
theorem sw_yes {R C j p t : Nat} {s : HS} (hn : s.NBS) (h : (swS j p t s (R - t)).OK R C) : (swS j p t s (R - t)).ok R C = true := (HS.ok_iff (swS_nb hn _)).2 h
theorem ab_add {j t n : Nat} {s : HS} (h : n < t) : abS j t s (n + 1) = (abS j t s n).add n t (-(s.f n j / s.f t j)) := by
  rw [abS_succ, abS_late j n (Nat.le_refl _), abS_late j n (by omega)]
theorem ab_no {R C j t p n : Nat} {s : HS} (hg : GD R C (hmS2 j t (hmS1 t p s))) (hk : n ≤ t) (h : ¬ (abS j t (hmS2 j t (hmS1 t p s)) n).OK R C) : hmFin R C j t p s = none := by
  unfold hmFin
  rw [if_neg]
  intro hc
  refine h ?_
  have h2 := (HS.ok_iff (abS_nb hg.nb _)).1 hc
  have h3 : (abS j t (hmS2 j t (hmS1 t p s)) (n + (t - n))).OK R C := by rw [show n + (t - n) = t by omega]; exact h2
  exact abS_back' hg.nb n _ h3
theorem ab_yes {R C j t p : Nat} {s : HS} (hg : GD R C (hmS2 j t (hmS1 t p s))) (h : (abS j t (hmS2 j t (hmS1 t p s)) t).OK R C) : hmFin R C j t p s = some (abS j t (hmS2 j t (hmS1 t p s)) t) := by
  unfold hmFin
  rw [if_pos ((HS.ok_iff (abS_nb hg.nb _)).2 h)]
theorem hmGo_some (R C m j t p : Nat) (s : HS) : hmGo R C m j t (some (s, p)) = (hmFin R C j t p s).bind fun s' => hmOut R C m (j + 1) (t + 1) s' := rfl
theorem hmGo_none (R C m j t : Nat) : hmGo R C m j t none = none := rfl
theorem hmGo_bad {R C m j t p : Nat} {s : HS} (h : hmFin R C j t p s = none) : hmGo R C m j t (some (s, p)) = none := by rw [hmGo_some, h]; rfl
theorem hmGo_next {R C m j t p : Nat} {s s' : HS} (h : hmFin R C j t p s = some s') : hmGo R C m j t (some (s, p)) = hmOut R C m (j + 1) (t + 1) s' := by rw [hmGo_some, h]; rfl
theorem Num.zero : Num 0 := ⟨by omega, by omega⟩
theorem Num.one : Num 1 := ⟨by omega, by omega⟩
theorem idF_num (i j : Nat) : Num (idF i j) := by
  unfold idF
  split
  · exact Num.one
  · exact Num.zero
theorem getD_num {xs : List Int} (h : xs.all isNum = true) (k : Nat) : Num (xs.getD k 0) := by
  rw [List.getD_eq_getElem?_getD]
  rcases hc : xs[k]? with _ | v
  · exact Num.zero
  · exact Num.of (List.all_eq_true.1 h v (List.mem_of_getElem? hc))
theorem start_gd {xs : List Int} {R C : Nat} (h : xs.all isNum = true) : GD R C ⟨fun i j => cel xs C i j, idF⟩ :=
  ⟨⟨fun i j _ _ => getD_num h _, fun i j _ _ => idF_num i j⟩, ⟨fun i j => (getD_num h _).nb, fun i j => (idF_num i j).nb⟩⟩
end Go.Proofs.YtlggfmfelakadaaGreatDoor

/-
  DERIVED. Sums and products of matrices as functions of row and column: no program in sight.
-/
namespace Go.Proofs.YtlggfmfelakadaaGreatDoor
set_option linter.unusedVariables false
theorem sumTo_succ (f : Nat → Int) (n : Nat) : sumTo f (n + 1) = sumTo f n + f n := rfl
theorem sumTo_zero' (f : Nat → Int) : sumTo f 0 = 0 := rfl
theorem sumTo_congr {f g : Nat → Int} : ∀ n, (∀ k, k < n → f k = g k) → sumTo f n = sumTo g n
  | 0, _ => rfl
  | n + 1, h => by rw [sumTo_succ, sumTo_succ, sumTo_congr n (fun k hk => h k (by omega)), h n (by omega)]
theorem sumTo_add (f g : Nat → Int) : ∀ n, sumTo (fun k => f k + g k) n = sumTo f n + sumTo g n
  | 0 => rfl
  | n + 1 => by rw [sumTo_succ, sumTo_succ, sumTo_succ, sumTo_add f g n]; omega
theorem sumTo_mul (f : Nat → Int) (t : Int) : ∀ n, sumTo (fun k => f k * t) n = sumTo f n * t
  | 0 => by rw [sumTo_zero', sumTo_zero', Int.zero_mul]
  | n + 1 => by rw [sumTo_succ, sumTo_succ, sumTo_mul f t n, Int.add_mul]
theorem sumTo_mul' (f : Nat → Int) (t : Int) (n : Nat) : sumTo (fun k => t * f k) n = t * sumTo f n := by
  rw [Int.mul_comm, ← sumTo_mul]
  exact sumTo_congr n fun k _ => Int.mul_comm _ _
theorem sumTo_neg (f : Nat → Int) : ∀ n, sumTo (fun k => -f k) n = -sumTo f n
  | 0 => rfl
  | n + 1 => by rw [sumTo_succ, sumTo_succ, sumTo_neg f n]; omega
theorem sumTo_sub (f g : Nat → Int) (n : Nat) : sumTo (fun k => f k - g k) n = sumTo f n - sumTo g n := by
  have h := sumTo_add f (fun k => -g k) n
  rw [sumTo_neg] at h
  rw [Int.sub_eq_add_neg, ← h]
  exact sumTo_congr n fun k _ => Int.sub_eq_add_neg
theorem sumTo_null {f : Nat → Int} (n : Nat) (h : ∀ k, k < n → f k = 0) : sumTo f n = 0 := by
  induction n with
  | zero => rfl
  | succ n ih => rw [sumTo_succ, ih (fun k hk => h k (by omega)), h n (by omega)]; rfl
/-- One summand only. -/
theorem sumTo_one {f : Nat → Int} {i : Nat} : ∀ n, i < n → (∀ k, k < n → k ≠ i → f k = 0) → sumTo f n = f i
  | 0, hi, _ => absurd hi (Nat.not_lt_zero _)
  | n + 1, hi, h => by
    rw [sumTo_succ]
    by_cases e : i = n
    · subst e
      rw [sumTo_null i (fun k hk => h k (by omega) (by omega)), Int.zero_add]
    · rw [sumTo_one n (by omega) (fun k hk hne => h k (by omega) hne), h n (by omega) (fun e2 => e e2.symm), Int.add_zero]
theorem sumTo_swap (f : Nat → Nat → Int) (m : Nat) : ∀ n, sumTo (fun i => sumTo (fun j => f i j) m) n = sumTo (fun j => sumTo (fun i => f i j) n) m
  | 0 => by
    rw [sumTo_zero']
    exact (sumTo_null m fun k _ => rfl).symm
  | n + 1 => by
    rw [sumTo_succ, sumTo_swap f m n, ← sumTo_add]
    rfl
/-- The product over n places. -/
def mm (n : Nat) (f g : Fn2) : Fn2 := fun i j => sumTo (fun k => f i k * g k j) n
/-- A matrix times a column. -/
def mv (n : Nat) (f : Fn2) (z : Nat → Int) : Nat → Int := fun i => sumTo (fun k => f i k * z k) n
theorem mm_assoc (n m : Nat) (f g h : Fn2) (i j : Nat) : mm n (mm m f g) h i j = mm m f (mm n g h) i j := by
  unfold mm
  have e1 : ∀ k, sumTo (fun l => f i l * g l k) m * h k j = sumTo (fun l => f i l * g l k * h k j) m := fun k => (sumTo_mul _ _ _).symm
  have e2 : ∀ l, f i l * sumTo (fun k => g l k * h k j) n = sumTo (fun k => f i l * g l k * h k j) n := fun l => by
    rw [← sumTo_mul']
    exact sumTo_congr n fun k _ => by rw [Int.mul_assoc]
  rw [sumTo_congr n (fun k _ => e1 k), sumTo_congr m (fun l _ => e2 l), sumTo_swap]
theorem mv_mm (n m : Nat) (f g : Fn2) (z : Nat → Int) (i : Nat) : mv n (mm m f g) z i = mv m f (mv n g z) i := mm_assoc n m f g (fun k _ => z k) i 0
theorem mv_congr {n : Nat} {f g : Fn2} {y z : Nat → Int} {i : Nat} (h : ∀ k, k < n → f i k = g i k) (h2 : ∀ k, k < n → y k = z k) : mv n f y i = mv n g z i :=
  sumTo_congr n fun k hk => by rw [h k hk, h2 k hk]
theorem mv_sub (n : Nat) (f : Fn2) (y z : Nat → Int) (i : Nat) : mv n f (fun k => y k - z k) i = mv n f y i - mv n f z i := by
  unfold mv
  rw [← sumTo_sub]
  exact sumTo_congr n fun k _ => by rw [Int.mul_sub]
/-- Equal in R rows of C cells. -/
def EqM (R C : Nat) (f g : Fn2) : Prop := ∀ i j, i < R → j < C → f i j = g i j
/-- No column but that of zeros is taken to zeros. -/
def INJ (R : Nat) (g : Fn2) : Prop := ∀ z : Nat → Int, (∀ i, i < R → mv R g z i = 0) → ∀ k, k < R → z k = 0
theorem INJ.eq {R : Nat} {g : Fn2} (h : INJ R g) {y z : Nat → Int} (e : ∀ i, i < R → mv R g y i = mv R g z i) : ∀ k, k < R → y k = z k := fun k hk => by
  have := h (fun k => y k - z k) (fun i hi => by rw [mv_sub, e i hi, Int.sub_self]) k hk
  omega
theorem mv_id {R : Nat} (z : Nat → Int) {i : Nat} (hi : i < R) : mv R idF z i = z i := by
  unfold mv
  rw [sumTo_one R hi]
  · unfold idF; rw [if_pos rfl, Int.one_mul]
  · intro k hk hne
    unfold idF
    rw [if_neg (fun e => hne e.symm), Int.zero_mul]
theorem INJ.id (R : Nat) : INJ R idF := fun z h k hk => by rw [← mv_id z hk]; exact h k hk
-- operations on rows
theorem mv_add {R i j : Nat} {t : Int} {g g' : Fn2} (h1 : ∀ y, y < R → g' i y = g i y + g j y * t) (z : Nat → Int) : mv R g' z i = mv R g z i + mv R g z j * t := by
  unfold mv
  rw [← sumTo_mul, ← sumTo_add]
  exact sumTo_congr R fun k hk => by rw [h1 k hk]; grind
theorem INJ.add {R i j : Nat} {t : Int} {g g' : Fn2} (h : INJ R g) (hi : i < R) (hj : j < R) (hij : i ≠ j) (h1 : ∀ y, y < R → g' i y = g i y + g j y * t) (h2 : ∀ x y, x < R → y < R → x ≠ i → g' x y = g x y) : INJ R g' := fun z hz => by
  have e : ∀ x, x < R → x ≠ i → mv R g z x = 0 := fun x hx hne => by
    rw [← hz x hx]
    exact mv_congr (fun k hk => (h2 x k hx hk hne).symm) (fun _ _ => rfl)
  refine h z fun x hx => ?_
  by_cases hxi : x = i
  · subst hxi
    have := mv_add h1 z
    rw [hz x hx, e j hj (fun e => hij e.symm), Int.zero_mul, Int.add_zero] at this
    exact this.symm
  · exact e x hx hxi
theorem INJ.swap {R p t : Nat} {g : Fn2} (h : INJ R g) (hp : p < R) (ht : t < R) : INJ R (swF g p t) := fun z hz => by
  refine h z fun x hx => ?_
  by_cases h1 : x = p
  · subst h1
    rw [← hz t ht]
    exact sumTo_congr R fun k hk => by rw [swF_t]
  · by_cases h2 : x = t
    · subst h2
      rw [← hz p hp]
      refine sumTo_congr R fun k hk => ?_
      have e : swF g p x p k = g x k := by unfold swF; rw [if_pos rfl]
      rw [e]
    · rw [← hz x hx]
      refine mv_congr (fun k hk => ?_) (fun _ _ => rfl)
      unfold swF
      rw [if_neg h1, if_neg h2]
theorem INJ.neg {R i : Nat} {g g' : Fn2} (h : INJ R g) (h1 : ∀ y, y < R → g' i y = -g i y) (h2 : ∀ x y, x < R → y < R → x ≠ i → g' x y = g x y) : INJ R g' := fun z hz => by
  refine h z fun x hx => ?_
  by_cases hxi : x = i
  · subst hxi
    have e : mv R g' z x = -mv R g z x := by
      unfold mv
      rw [← sumTo_neg]
      exact sumTo_congr R fun k hk => by rw [h1 k hk, Int.neg_mul]
    rw [hz x hx] at e
    omega
  · rw [← hz x hx]
    exact mv_congr (fun k hk => (h2 x k hx hk hxi).symm) (fun _ _ => rfl)
end Go.Proofs.YtlggfmfelakadaaGreatDoor

/-
  DERIVED. The reduced echelon form with primitive rows: no program in sight.
-/
namespace Go.Proofs.YtlggfmfelakadaaGreatDoor
set_option linter.unusedVariables false
/-- Row i, as a list. -/
def rw_ (C : Nat) (f : Nat → Nat → Int) (i : Nat) : List Int := tab C (f i)
theorem rw_len (C : Nat) (f : Nat → Nat → Int) (i : Nat) : (rw_ C f i).length = C := tab_len _ _
theorem rw_at {C : Nat} {f : Nat → Nat → Int} {i c : Nat} (h : c < C) : (rw_ C f i).getD c 0 = f i c := tab_getD h
theorem win_tb {R C i : Nat} {f : Nat → Nat → Int} (hi : i < R) : winL (tb R C f) (i * C) C = rw_ C f i := by
  have hl : i * C + C ≤ (tb R C f).length := by
    rw [tb_len]; have h3 := Nat.mul_le_mul_right C (show i + 1 ≤ R by omega); rw [Nat.add_mul, Nat.one_mul] at h3; exact h3
  apply List.ext_getElem?
  intro c
  by_cases hc : c < C
  · have h1 : (winL (tb R C f) (i * C) C).getD c 0 = f i c := by rw [winL_getD hc, tb_at hi hc]
    have h2 := rw_at (f := f) (i := i) hc
    have l1 := winL_len hl
    have l2 := rw_len C f i
    rw [List.getElem?_eq_getElem (by omega), List.getElem?_eq_getElem (by omega)]
    simp [List.getD, show c < (winL (tb R C f) (i * C) C).length by omega] at h1
    simp [List.getD, show c < (rw_ C f i).length by omega] at h2
    rw [h1, h2]
  · rw [List.getElem?_eq_none (by rw [winL_len hl]; omega), List.getElem?_eq_none (by rw [rw_len]; omega)]
/-- Row i anew. -/
def setR (f : Nat → Nat → Int) (i : Nat) (ys : List Int) : Nat → Nat → Int := fun a c => if a = i then ys.getD c 0 else f a c
theorem spl_tb {R C i : Nat} {f : Nat → Nat → Int} {ys : List Int} (hi : i < R) (hy : ys.length = C) : splL (tb R C f) (i * C) ys = tb R C (setR f i ys) := by
  have hl : i * C + C ≤ R * C := by
    have h3 := Nat.mul_le_mul_right C (show i + 1 ≤ R by omega); rw [Nat.add_mul, Nat.one_mul] at h3; exact h3
  have hlen : (splL (tb R C f) (i * C) ys).length = R * C := by rw [splL_len (by rw [tb_len, hy]; exact hl), tb_len]
  rw [tb_of hlen]
  apply tb_ext
  intro a c ha hc
  rw [cel_nat]
  unfold setR
  by_cases hai : a = i
  · subst hai
    rw [if_pos rfl, splL_getD (by rw [tb_len, hy]; exact hl) (by omega)]
  · rw [if_neg hai]
    have hq := idx_nat ha hc
    rw [← tb_at (f := f) ha hc]
    have htl : ((tb R C f).take (i * C)).length = i * C := by rw [List.length_take, tb_len]; omega
    unfold splL
    simp only [List.getD]
    congr 1
    rcases Nat.lt_or_gt_of_ne hai with h | h
    · have h1 : a * C + c < i * C := by
        have h3 := Nat.mul_le_mul_right C (show a + 1 ≤ i by omega); rw [Nat.add_mul, Nat.one_mul] at h3; omega
      rw [List.append_assoc, List.getElem?_append_left (by rw [htl]; exact h1), List.getElem?_take_of_lt h1]
    · have h1 : i * C + C ≤ a * C + c := by
        have h3 := Nat.mul_le_mul_right C (show i + 1 ≤ a by omega); rw [Nat.add_mul, Nat.one_mul] at h3; omega
      rw [List.getElem?_append_right (by rw [List.length_append, htl, hy]; exact h1), List.getElem?_drop, List.length_append, htl, hy]
      congr 1
      omega
/-- The primitive row i. -/
def prF (C : Nat) (f : Nat → Nat → Int) (i : Nat) : Nat → Nat → Int := setR f i (primL (rw_ C f i))
def prK (C : Nat) (f : Nat → Nat → Int) (m : Nat) : Nat → Nat → Int := fun i c => if i < m then (primL (rw_ C f i)).getD c 0 else f i c
theorem prK_zero (C : Nat) (f : Nat → Nat → Int) : prK C f 0 = f := by funext i c; simp [prK]
theorem rw_ext {C : Nat} {f g : Nat → Nat → Int} {i k : Nat} (h : ∀ c, c < C → f i c = g k c) : rw_ C f i = rw_ C g k := by
  unfold rw_ tab
  apply List.map_congr_left
  intro c hc
  exact h c (List.mem_range.1 hc)
theorem prK_step (C : Nat) (f : Nat → Nat → Int) (m : Nat) : prF C (prK C f m) m = prK C f (m + 1) := by
  have e : rw_ C (prK C f m) m = rw_ C f m := rw_ext fun c hc => by simp [prK]
  funext i c
  unfold prF setR
  rw [e]
  unfold prK
  by_cases h : i = m
  · subst h; simp
  · rw [if_neg h]
    by_cases h2 : i < m
    · rw [if_pos h2, if_pos (by omega)]
    · rw [if_neg h2, if_neg (by omega)]
theorem rw_prK {C : Nat} {f : Nat → Nat → Int} {m i : Nat} (h : i < m) : rw_ C (prK C f m) i = primL (rw_ C f i) := by
  apply List.ext_getElem?
  intro c
  by_cases hc : c < C
  · have h1 := rw_at (f := prK C f m) (i := i) hc
    have h2 : prK C f m i c = (primL (rw_ C f i)).getD c 0 := by simp [prK, h]
    rw [h2] at h1
    have l1 := rw_len C (prK C f m) i
    have l2 := primL_len (rw_ C f i)
    rw [rw_len] at l2
    rw [List.getElem?_eq_getElem (by omega), List.getElem?_eq_getElem (by omega)]
    simp [List.getD, show c < (rw_ C (prK C f m) i).length by omega, show c < (primL (rw_ C f i)).length by omega] at h1
    rw [h1]
  · rw [List.getElem?_eq_none (by rw [rw_len]; omega), List.getElem?_eq_none (by rw [primL_len, rw_len]; omega)]
theorem rw_setR {C : Nat} {f : Nat → Nat → Int} {i : Nat} {ys : List Int} (hy : ys.length = C) : rw_ C (setR f i ys) i = ys := by
  apply List.ext_getElem?
  intro c
  by_cases hc : c < C
  · have h1 := rw_at (f := setR f i ys) (i := i) hc
    have h2 : setR f i ys i c = ys.getD c 0 := by simp [setR]
    rw [h2] at h1
    have l1 := rw_len C (setR f i ys) i
    rw [List.getElem?_eq_getElem (by omega), List.getElem?_eq_getElem (by omega)]
    simp [List.getD, show c < (rw_ C (setR f i ys) i).length by omega, show c < ys.length by omega] at h1
    rw [h1]
  · rw [List.getElem?_eq_none (by rw [rw_len]; omega), List.getElem?_eq_none (by omega)]
theorem rw_setR_ne {C : Nat} {f : Nat → Nat → Int} {i k : Nat} {ys : List Int} (h : k ≠ i) : rw_ C (setR f i ys) k = rw_ C f k := rw_ext fun c hc => by simp [setR, h]
theorem primL_idem (l : List Int) : primL (primL l) = primL l := by
  by_cases h0 : gcdL l = 0
  · have e : primL l = l := (primL_eq_iff l).2 (.inl h0)
    rw [e, e]
  · rw [primL_eq_iff]
    right
    have hlt := fcN_lt_iff.2 h0
    have hd0 : divL l ≠ 0 := by intro e; have := divL_abs l; rw [e] at this; simp at this; omega
    have hab := divL_abs l
    have hmem : ∀ x ∈ l, ∃ q, x = divL l * q ∧ x.tdiv (divL l) = q := fun x hx => by
      obtain ⟨q, hq⟩ := divL_dvd hx
      exact ⟨q, hq, by rw [hq]; exact Int.mul_tdiv_cancel_left q hd0⟩
    have hfc : fcN (primL l) = fcN l := by
      refine fcN_eq (by rw [primL_len]; omega) (fun j hj => ?_) (fun _ => ?_)
      · rw [primL_getD (by omega) h0, fcN_zero l j hj]; simp
      · rw [primL_getD hlt h0]
        obtain ⟨q, hq, hq2⟩ := hmem _ (mem_getD hlt)
        rw [hq2]
        intro e
        rw [e, Int.mul_zero] at hq
        exact fcN_ne l hlt hq
    obtain ⟨q0, hq0, hq02⟩ := hmem _ (mem_getD hlt)
    have hpos : 0 < q0 := by
      have hne := fcN_ne l hlt
      have hg : (0 : Int) < gcdL l := by omega
      by_cases hneg : l.getD (fcN l) 0 < 0
      · have e : divL l = -(gcdL l : Int) := by unfold divL; rw [if_pos hneg]
        rw [e] at hq0
        apply Classical.byContradiction
        intro h
        have h1 : 0 ≤ (gcdL l : Int) * -q0 := Int.mul_nonneg (by omega) (by omega)
        rw [Int.mul_neg] at h1
        rw [Int.neg_mul] at hq0
        omega
      · have e : divL l = (gcdL l : Int) := by unfold divL; rw [if_neg hneg]
        rw [e] at hq0
        apply Classical.byContradiction
        intro h
        have h1 : 0 ≤ (gcdL l : Int) * -q0 := Int.mul_nonneg (by omega) (by omega)
        rw [Int.mul_neg] at h1
        omega
    refine ⟨?_, ?_⟩
    · have hdv : gcdL (primL l) * gcdL l ∣ gcdL l := dvd_gcdL fun x hx => by
        obtain ⟨q, hq, hq2⟩ := hmem x hx
        have hxm : x.tdiv (divL l) ∈ primL l := by unfold primL; rw [if_neg h0]; exact List.mem_map.2 ⟨x, hx, rfl⟩
        have h1 := gcdL_dvd hxm
        rw [hq2] at h1
        rw [hq, Int.natCast_mul, Int.mul_comm]
        refine Int.mul_dvd_mul ?_ h1
        rw [← hab]
        exact Int.natAbs_dvd.2 (Int.dvd_refl _)
      have hle := Nat.le_of_dvd (by omega) hdv
      have hne : gcdL (primL l) ≠ 0 := by
        rw [← fcN_lt_iff, hfc, primL_len]; exact hlt
      have h2 : gcdL (primL l) * gcdL l ≤ 1 * gcdL l := by omega
      have h3 := Nat.le_of_mul_le_mul_right h2 (by omega)
      omega
    · rw [hfc, primL_getD hlt h0, hq02]; omega
theorem primL_bd {l : List Int} {M : Nat} (h : ∀ k, (l.getD k 0).natAbs ≤ M) (k : Nat) : ((primL l).getD k 0).natAbs ≤ M := by
  by_cases h0 : gcdL l = 0
  · rw [(primL_eq_iff l).2 (.inl h0)]; exact h k
  · by_cases hk : k < l.length
    · rw [primL_getD hk h0, Int.natAbs_tdiv]
      exact Nat.le_trans (Nat.div_le_self _ _) (h k)
    · simp [List.getD, List.getElem?_eq_none (show (primL l).length ≤ k by rw [primL_len]; omega)]
end Go.Proofs.YtlggfmfelakadaaGreatDoor

/-
  DERIVED. A refutation rules out every column of whole numbers: no program in sight.
-/
namespace Go.Proofs.YtlggfmfelakadaaGreatDoor
set_option linter.unusedVariables false
theorem lowR_val {n d : Int} (h : lowR n d ≠ (0, 0)) (hd : d ≠ 0) : (lowR n d).1 * d = n * (lowR n d).2 := by
  unfold lowR at h ⊢
  simp only at h ⊢
  have hg : ((Int.gcd n d : Nat) : Int) ≠ 0 := by have := (gcd_pos2 (n := n) hd).1; omega
  obtain ⟨s, hs, h1, h2⟩ : ∃ s : Int, (if d < 0 then -((Int.gcd n d : Nat) : Int) else ((Int.gcd n d : Nat) : Int)) = s ∧ s ∣ n ∧ s ∣ d := by
    refine ⟨_, rfl, ?_, ?_⟩
    · split
      · exact Int.neg_dvd.2 (Int.gcd_dvd_left ..)
      · exact Int.gcd_dvd_left ..
    · split
      · exact Int.neg_dvd.2 (Int.gcd_dvd_right ..)
      · exact Int.gcd_dvd_right ..
  rw [hs] at h ⊢
  by_cases hr : ratOk (n.tdiv s) (d.tdiv s) = true
  · rw [if_pos hr]
    have e1 := Int.tdiv_mul_cancel h1
    have e2 := Int.tdiv_mul_cancel h2
    show n.tdiv s * d = n * d.tdiv s
    generalize n.tdiv s = a at *
    generalize d.tdiv s = b at *
    rw [← e1, ← e2]
    grind
  · rw [if_neg hr] at h
    exact absurd rfl h
theorem den_ne {q : Int × Int} (h : ratOk q.1 q.2 = true) : q.2 ≠ 0 := by have := ((ratOk_iff _ _).1 h).1.1; omega
theorem ok_ne {q : Int × Int} (h : ratOk q.1 q.2 = true) : q ≠ (0, 0) := fun e => by rw [e] at h; cases h
theorem addR_val {a b : Int × Int} (h : ratOk (addR a b).1 (addR a b).2 = true) : ratOk a.1 a.2 = true ∧ ratOk b.1 b.2 = true ∧ (addR a b).1 * (a.2 * b.2) = (a.1 * b.2 + b.1 * a.2) * (addR a b).2 := by
  unfold addR at h ⊢
  by_cases hc : (ratOk a.1 a.2 && ratOk b.1 b.2) = true
  · rw [if_pos hc] at h ⊢
    rw [Bool.and_eq_true] at hc
    exact ⟨hc.1, hc.2, lowR_val (ok_ne h) (Int.mul_ne_zero (den_ne hc.1) (den_ne hc.2))⟩
  · rw [if_neg hc] at h; cases h
theorem mulR_val {a b : Int × Int} (h : ratOk (mulR a b).1 (mulR a b).2 = true) : ratOk a.1 a.2 = true ∧ ratOk b.1 b.2 = true ∧ (mulR a b).1 * (a.2 * b.2) = a.1 * b.1 * (mulR a b).2 := by
  unfold mulR at h ⊢
  by_cases hc : (ratOk a.1 a.2 && ratOk b.1 b.2) = true
  · rw [if_pos hc] at h ⊢
    rw [Bool.and_eq_true] at hc
    exact ⟨hc.1, hc.2, lowR_val (ok_ne h) (Int.mul_ne_zero (den_ne hc.1) (den_ne hc.2))⟩
  · rw [if_neg hc] at h; cases h
/-- A sum of whole numbers times ratios, all the ratios being N over D. -/
theorem rsum_val {f : Nat → Int} {g : Nat → Int × Int} {N : Nat → Int} {D : Int} (hD : ∀ k, ratOk (g k).1 (g k).2 = true → (g k).1 * D = N k * (g k).2) :
    ∀ n, ratOk (rsum (fun k => (f k, 1)) g n).1 (rsum (fun k => (f k, 1)) g n).2 = true → (rsum (fun k => (f k, 1)) g n).1 * D = (rsum (fun k => (f k, 1)) g n).2 * sumTo (fun k => f k * N k) n
  | 0, _ => by show (0 : Int) * D = 1 * 0; rw [Int.zero_mul]; rfl
  | n + 1, h => by
    have h' : ratOk (addR (rsum (fun k => (f k, 1)) g n) (mulR (f n, 1) (g n))).1 (addR (rsum (fun k => (f k, 1)) g n) (mulR (f n, 1) (g n))).2 = true := h
    obtain ⟨a1, a2, a3⟩ := addR_val h'
    obtain ⟨m1, m2, m3⟩ := mulR_val a2
    have ih := rsum_val (f := f) (g := g) (N := N) hD n a1
    have hd := hD n m2
    show (addR (rsum (fun k => (f k, 1)) g n) (mulR (f n, 1) (g n))).1 * D = (addR (rsum (fun k => (f k, 1)) g n) (mulR (f n, 1) (g n))).2 * (sumTo (fun k => f k * N k) n + f n * N n)
    generalize addR (rsum (fun k => (f k, 1)) g n) (mulR (f n, 1) (g n)) = s' at *
    have e1 := den_ne a1
    have e2 := den_ne a2
    have e3 := den_ne m2
    generalize mulR (f n, 1) (g n) = m at *
    generalize rsum (fun k => (f k, 1)) g n = s at *
    generalize sumTo (fun k => f k * N k) n = S at *
    generalize g n = q at *
    dsimp only at m3
    obtain ⟨s1, s2⟩ := s
    obtain ⟨p1, p2⟩ := m
    obtain ⟨q1, q2⟩ := q
    obtain ⟨t1, t2⟩ := s'
    dsimp only at *
    -- t1 (s2 p2) = (s1 p2 + p1 s2) t2, p1 q2 = f q1 p2, s1 D = s2 S, q1 D = N q2
    have k1 : p1 * D = f n * N n * p2 := by
      refine Int.eq_of_mul_eq_mul_right e3 ?_
      have : p1 * D * q2 = p1 * (1 * q2) * D := by grind
      rw [this, m3]
      have : f n * q1 * p2 * D = f n * p2 * (q1 * D) := by grind
      rw [this, hd]
      grind
    refine Int.eq_of_mul_eq_mul_right (Int.mul_ne_zero e1 e2) ?_
    have : t1 * D * (s2 * p2) = t1 * (s2 * p2) * D := by grind
    rw [this, a3]
    have : (s1 * p2 + p1 * s2) * t2 * D = t2 * (s1 * D * p2 + p1 * D * s2) := by grind
    rw [this, ih, k1]
    grind
theorem rsum_parts (f g : Nat → Int × Int) : ∀ n, ratOk (rsum f g n).1 (rsum f g n).2 = true → ∀ k, k < n → ratOk (g k).1 (g k).2 = true
  | 0, _, k, hk => absurd hk (Nat.not_lt_zero _)
  | n + 1, h, k, hk => by
    have h' : ratOk (addR (rsum f g n) (mulR (f n) (g n))).1 (addR (rsum f g n) (mulR (f n) (g n))).2 = true := h
    obtain ⟨a1, a2, _⟩ := addR_val h'
    obtain ⟨m1, m2, _⟩ := mulR_val a2
    by_cases e : k = n
    · rw [e]; exact m2
    · exact rsum_parts f g n a1 k (by omega)
/-- A common denominator of the first n ratios. -/
def cmD (g : Nat → Int × Int) : Nat → Int
  | 0 => 1
  | n + 1 => cmD g n * (if (g n).2 = 0 then 1 else (g n).2)
theorem cmD_ne (g : Nat → Int × Int) : ∀ n, cmD g n ≠ 0
  | 0 => Int.one_ne_zero
  | n + 1 => Int.mul_ne_zero (cmD_ne g n) (by split <;> omega)
theorem cmD_dvd (g : Nat → Int × Int) : ∀ n k, k < n → (g k).2 ≠ 0 → (g k).2 ∣ cmD g n
  | 0, k, hk, _ => absurd hk (Nat.not_lt_zero _)
  | n + 1, k, hk, hne => by
    show _ ∣ cmD g n * _
    by_cases e : k = n
    · subst e
      rw [if_neg hne]
      exact ⟨cmD g k, by rw [Int.mul_comm]⟩
    · exact Int.dvd_trans (cmD_dvd g n k (by omega) hne) ⟨_, rfl⟩
/-- Ratios whose products with the columns of m are whole and whose product with b is not: no whole numbers solve m x = b. -/
theorem ref_no {R C : Nat} {m : Fn2} {b x : Nat → Int} {g : Nat → Int × Int} (hc : ∀ j, j < C → (rsum (fun k => (m k j, 1)) g R).2 = 1) (hcok : ∀ j, j < C → ratOk (rsum (fun k => (m k j, 1)) g R).1 (rsum (fun k => (m k j, 1)) g R).2 = true)
    (hb : ratOk (rsum (fun k => (b k, 1)) g R).1 (rsum (fun k => (b k, 1)) g R).2 = true) (hb1 : (rsum (fun k => (b k, 1)) g R).2 ≠ 1) : ¬ ∀ i, i < R → mv C m x i = b i := by
  intro hx
  have hN : ∀ k, ratOk (if k < R then g k else (0, 0)).1 (if k < R then g k else (0, 0)).2 = true → (if k < R then g k else (0, 0)).1 * cmD g R = (if k < R then g k else (0, 0)).1 * (cmD g R).tdiv (if k < R then g k else (0, 0)).2 * (if k < R then g k else (0, 0)).2 := fun k hk => by
    by_cases hkR : k < R
    · rw [if_pos hkR] at hk ⊢
      rw [Int.mul_assoc, Int.tdiv_mul_cancel (cmD_dvd g R k hkR (den_ne hk))]
    · rw [if_neg hkR] at hk; cases hk
  have hsame : ∀ (f : Nat → Int) n, n ≤ R → rsum (fun k => (f k, 1)) (fun k => if k < R then g k else (0, 0)) n = rsum (fun k => (f k, 1)) g n := fun f n => by
    induction n with
    | zero => intro _; rfl
    | succ n ih =>
      intro hn
      unfold rsum
      rw [ih (by omega), if_pos (by omega)]
  obtain ⟨N, hNd⟩ : ∃ N : Nat → Int, N = fun k => (if k < R then g k else (0, 0)).1 * (cmD g R).tdiv (if k < R then g k else (0, 0)).2 := ⟨_, rfl⟩
  have hV : ∀ f : Nat → Int, ratOk (rsum (fun k => (f k, 1)) g R).1 (rsum (fun k => (f k, 1)) g R).2 = true → (rsum (fun k => (f k, 1)) g R).1 * cmD g R = (rsum (fun k => (f k, 1)) g R).2 * sumTo (fun k => f k * N k) R := fun f hf => by
    have := rsum_val (f := f) (g := fun k => if k < R then g k else (0, 0)) (N := N) (D := cmD g R) (fun k hk => by rw [hNd]; exact hN k hk) R (by rw [hsame f R (Nat.le_refl _)]; exact hf)
    rw [hsame f R (Nat.le_refl _)] at this
    exact this
  have hB := hV b hb
  have hcol : ∀ j, j < C → (rsum (fun k => (m k j, 1)) g R).1 * cmD g R = sumTo (fun k => m k j * N k) R := fun j hj => by
    rw [hV (fun k => m k j) (hcok j hj), hc j hj, Int.one_mul]
  have hS : sumTo (fun k => b k * N k) R = sumTo (fun j => x j * (rsum (fun k => (m k j, 1)) g R).1) C * cmD g R := by
    have e1 : sumTo (fun k => b k * N k) R = sumTo (fun k => sumTo (fun j => m k j * x j * N k) C) R := sumTo_congr R fun k hk => by
      rw [← hx k hk]
      unfold mv
      rw [sumTo_mul]
    rw [e1, sumTo_swap, ← sumTo_mul]
    refine sumTo_congr C fun j hj => ?_
    have : sumTo (fun k => m k j * x j * N k) R = x j * sumTo (fun k => m k j * N k) R := by
      rw [← sumTo_mul']
      exact sumTo_congr R fun k _ => by grind
    rw [this, ← hcol j hj, Int.mul_assoc]
  rw [hS, ← Int.mul_assoc] at hB
  have hB2 := Int.eq_of_mul_eq_mul_right (cmD_ne g R) hB
  obtain ⟨⟨d1, _⟩, _, hg⟩ := (ratOk_iff _ _).1 hb
  generalize rsum (fun k => (b k, 1)) g R = s at *
  have hdv : s.2 ∣ s.1 := ⟨_, hB2⟩
  have : ((Int.gcd s.1 s.2 : Nat) : Int) = s.2 := by
    exact (Int.gcd_eq_right_iff_dvd (by omega)).2 hdv
  rw [hg] at this
  exact hb1 this.symm
end Go.Proofs.YtlggfmfelakadaaGreatDoor

/-
  DERIVED. Determinants by expansion along the first row: linear in rows and columns, zero where two rows or two columns are equal. No program in sight.
-/
namespace Go.Proofs.YtlggfmfelakadaaGreatDoor
set_option linter.unusedVariables false
def sg (j : Nat) : Int := if j % 2 = 1 then -1 else 1
theorem sg_succ (j : Nat) : sg (j + 1) = -sg j := by
  unfold sg
  rcases Nat.mod_two_eq_zero_or_one j with h | h
  · rw [if_pos (by omega), if_neg (by omega)]
  · rw [if_neg (by omega), if_pos (by omega)]; rfl
/-- The column behind the one that is left out. -/
def sk (j b : Nat) : Nat := if b < j then b else b + 1
/-- Without the first row and column j. -/
def mnr (f : Fn2) (j : Nat) : Fn2 := fun a b => f (a + 1) (sk j b)
def Dt : Nat → Fn2 → Int
  | 0, _ => 1
  | n + 1, f => sumTo (fun j => sg j * f 0 j * Dt n (mnr f j)) (n + 1)
theorem Dt_succ (n : Nat) (f : Fn2) : Dt (n + 1) f = sumTo (fun j => sg j * f 0 j * Dt n (mnr f j)) (n + 1) := rfl
theorem sk_lt {j b n : Nat} (h : b < n) : sk j b < n + 1 := by unfold sk; split <;> omega
theorem sk_ne (j b : Nat) : sk j b ≠ j := by unfold sk; split <;> omega
theorem Dt_congr : ∀ (n : Nat) {f g : Fn2}, EqM n n f g → Dt n f = Dt n g
  | 0, _, _, _ => rfl
  | n + 1, f, g, h => by
    rw [Dt_succ, Dt_succ]
    refine sumTo_congr (n + 1) fun j hj => ?_
    have ih : Dt n (mnr f j) = Dt n (mnr g j) := Dt_congr n fun a b ha hb => h (a + 1) (sk j b) (by omega) (sk_lt hb)
    rw [h 0 j (by omega) hj, ih]
/-- Linear in row i. -/
theorem Dt_row : ∀ (n i : Nat) (t : Int) {f g h : Fn2}, i < n → (∀ y, y < n → f i y = g i y + h i y * t) → (∀ x y, x < n → y < n → x ≠ i → f x y = g x y ∧ f x y = h x y) → Dt n f = Dt n g + Dt n h * t
  | 0, i, _, _, _, _, hi, _, _ => absurd hi (Nat.not_lt_zero _)
  | n + 1, 0, t, f, g, h, _, h1, h2 => by
    rw [Dt_succ, Dt_succ, Dt_succ, ← sumTo_mul, ← sumTo_add]
    refine sumTo_congr (n + 1) fun j hj => ?_
    have e1 : Dt n (mnr g j) = Dt n (mnr f j) := Dt_congr n fun a b ha hb => (h2 (a + 1) (sk j b) (by omega) (sk_lt hb) (by omega)).1.symm
    have e2 : Dt n (mnr h j) = Dt n (mnr f j) := Dt_congr n fun a b ha hb => (h2 (a + 1) (sk j b) (by omega) (sk_lt hb) (by omega)).2.symm
    rw [e1, e2, h1 j hj]
    grind
  | n + 1, i + 1, t, f, g, h, hi, h1, h2 => by
    rw [Dt_succ, Dt_succ, Dt_succ, ← sumTo_mul, ← sumTo_add]
    refine sumTo_congr (n + 1) fun j hj => ?_
    have e1 := (h2 0 j (by omega) hj (by omega)).1
    have e2 := (h2 0 j (by omega) hj (by omega)).2
    have ih := Dt_row n i t (f := mnr f j) (g := mnr g j) (h := mnr h j) (by omega) (fun y hy => h1 (sk j y) (sk_lt hy)) (fun x y hx hy hne => h2 (x + 1) (sk j y) (by omega) (sk_lt hy) (by omega))
    rw [ih, ← e1, ← e2]
    grind
/-- Linear in column c. -/
theorem Dt_col : ∀ (n c : Nat) (t : Int) {f g h : Fn2}, c < n → (∀ x, x < n → f x c = g x c + h x c * t) → (∀ x y, x < n → y < n → y ≠ c → f x y = g x y ∧ f x y = h x y) → Dt n f = Dt n g + Dt n h * t
  | 0, c, _, _, _, _, hc, _, _ => absurd hc (Nat.not_lt_zero _)
  | n + 1, c, t, f, g, h, hc, h1, h2 => by
    rw [Dt_succ, Dt_succ, Dt_succ, ← sumTo_mul, ← sumTo_add]
    refine sumTo_congr (n + 1) fun j hj => ?_
    by_cases e : j = c
    · subst e
      have e1 : Dt n (mnr g j) = Dt n (mnr f j) := Dt_congr n fun a b ha hb => (h2 (a + 1) (sk j b) (by omega) (sk_lt hb) (sk_ne j b)).1.symm
      have e2 : Dt n (mnr h j) = Dt n (mnr f j) := Dt_congr n fun a b ha hb => (h2 (a + 1) (sk j b) (by omega) (sk_lt hb) (sk_ne j b)).2.symm
      rw [e1, e2, h1 0 (by omega)]
      grind
    · have e1 := (h2 0 j (by omega) hj e).1
      have e2 := (h2 0 j (by omega) hj e).2
      obtain ⟨c', hc', hk, hk2⟩ : ∃ c', c' < n ∧ sk j c' = c ∧ ∀ y, sk j y = c → y = c' := by
        by_cases hlt : c < j
        · exact ⟨c, by omega, by unfold sk; rw [if_pos hlt], fun y hy => by unfold sk at hy; split at hy <;> omega⟩
        · refine ⟨c - 1, by omega, by unfold sk; rw [if_neg (by omega)]; omega, fun y hy => by unfold sk at hy; split at hy <;> omega⟩
      have ih := Dt_col n c' t (f := mnr f j) (g := mnr g j) (h := mnr h j) hc' (fun x hx => by
        show f (x + 1) (sk j c') = g (x + 1) (sk j c') + h (x + 1) (sk j c') * t
        rw [hk]
        exact h1 (x + 1) (by omega)) (fun x y hx hy hne => h2 (x + 1) (sk j y) (by omega) (sk_lt hy) (fun e2 => hne (hk2 y e2)))
      rw [ih, ← e1, ← e2]
      grind
/-- Two summands only. -/
theorem sumTo_two {f : Nat → Int} {i : Nat} (n : Nat) (hi : i + 1 < n) (h : ∀ k, k < n → k ≠ i → k ≠ i + 1 → f k = 0) : sumTo f n = f i + f (i + 1) := by
  induction n with
  | zero => omega
  | succ n ih =>
    rw [sumTo_succ]
    by_cases e : i + 1 = n
    · subst e
      rw [sumTo_one (i := i) (i + 1) (by omega) (fun k hk hne => h k (by omega) hne (by omega))]
    · rw [ih (by omega) (fun k hk h1 h2 => h k (by omega) h1 h2), h n (by omega) (by omega) (by omega), Int.add_zero]
/-- Zero where two columns beside each other are equal. -/
theorem Dt_col_eq : ∀ (n c : Nat) {f : Fn2}, c + 1 < n → (∀ x, x < n → f x c = f x (c + 1)) → Dt n f = 0
  | 0, c, _, hc, _ => absurd hc (Nat.not_lt_zero _)
  | n + 1, c, f, hc, h => by
    rw [Dt_succ, sumTo_two (i := c) (n + 1) hc (fun j hj h1 h2 => ?_)]
    · have e : Dt n (mnr f c) = Dt n (mnr f (c + 1)) := Dt_congr n fun a b ha hb => by
        show f (a + 1) (sk c b) = f (a + 1) (sk (c + 1) b)
        by_cases hbc : b = c
        · subst hbc
          have e1 : sk b b = b + 1 := by unfold sk; rw [if_neg (Nat.lt_irrefl _)]
          have e2 : sk (b + 1) b = b := by unfold sk; rw [if_pos (by omega)]
          rw [e1, e2]
          exact (h (a + 1) (by omega)).symm
        · have e3 : sk c b = sk (c + 1) b := by unfold sk; split <;> split <;> omega
          rw [e3]
      rw [e, sg_succ, h 0 (by omega)]
      grind
    · have hz : Dt n (mnr f j) = 0 := by
        obtain ⟨c', hc', e1, e2⟩ : ∃ c', c' + 1 < n ∧ sk j c' = c ∧ sk j (c' + 1) = c + 1 := by
          by_cases hlt : c < j
          · exact ⟨c, by omega, by unfold sk; rw [if_pos hlt], by unfold sk; rw [if_pos (by omega)]⟩
          · exact ⟨c - 1, by omega, by unfold sk; rw [if_neg (by omega)]; omega, by unfold sk; rw [if_neg (by omega)]; omega⟩
        refine Dt_col_eq n c' hc' fun x hx => ?_
        show f (x + 1) (sk j c') = f (x + 1) (sk j (c' + 1))
        rw [e1, e2]
        exact h (x + 1) (by omega)
      rw [hz, Int.mul_zero]
/-- A sum over pairs that change sign when turned is zero. -/
theorem sumTo_anti {g : Nat → Nat → Int} (n : Nat) (h : ∀ a b, a < n → b < n → g a b = -g b a) : sumTo (fun a => sumTo (fun b => g a b) n) n = 0 := by
  have e : sumTo (fun a => sumTo (fun b => g a b) n) n = sumTo (fun a => -sumTo (fun b => g b a) n) n :=
    sumTo_congr n fun a ha => by
      rw [← sumTo_neg]
      exact sumTo_congr n fun b hb => h a b ha hb
  rw [sumTo_neg, sumTo_swap (fun a b => g b a) n n] at e
  omega
/-- A sum that leaves one place out. -/
theorem sumTo_skip {g : Nat → Int} {j : Nat} : ∀ n, j < n + 1 → sumTo (fun k => g (sk j k)) n = sumTo (fun b => if b = j then 0 else g b) (n + 1)
  | 0, hj => by
    have : j = 0 := by omega
    subst this
    rfl
  | n + 1, hj => by
    by_cases e : j = n + 1
    · subst e
      rw [sumTo_succ _ (n + 1), if_pos rfl, Int.add_zero]
      refine sumTo_congr (n + 1) fun k hk => ?_
      unfold sk
      rw [if_pos hk, if_neg (by omega)]
    · rw [sumTo_succ _ n, sumTo_skip n (by omega), sumTo_succ _ (n + 1), if_neg (by omega)]
      have : sk j n = n + 1 := by unfold sk; rw [if_neg (by omega)]
      rw [this]
/-- Without two rows and two columns, whichever goes first. -/
theorem mnr_two {f : Fn2} {a b : Nat} (h : a < b) : mnr (mnr f b) a = mnr (mnr f a) (b - 1) := by
  funext x y
  show f (x + 1 + 1) (sk b (sk a y)) = f (x + 1 + 1) (sk a (sk (b - 1) y))
  have : sk b (sk a y) = sk a (sk (b - 1) y) := by
    unfold sk
    repeat' split
    all_goals omega
  rw [this]
/-- Zero where two rows beside each other are equal. -/
theorem Dt_row_eq : ∀ (n i : Nat) {f : Fn2}, i + 1 < n → (∀ y, y < n → f i y = f (i + 1) y) → Dt n f = 0
  | 0, i, _, hi, _ => absurd hi (Nat.not_lt_zero _)
  | n + 1, i + 1, f, hi, h => by
    rw [Dt_succ]
    refine sumTo_null (n + 1) fun j hj => ?_
    rw [Dt_row_eq n i (f := mnr f j) (by omega) (fun y hy => h (sk j y) (sk_lt hy)), Int.mul_zero]
  | 1, 0, f, hi, h => by omega
  | n + 2, 0, f, hi, h => by
    rw [Dt_succ]
    -- the summand for the columns a of row 0 and b of row 1
    have key : ∀ a, a < n + 2 → sg a * f 0 a * Dt (n + 1) (mnr f a) = sumTo (fun b => if b = a then 0 else sg a * f 0 a * ((if b < a then sg b else sg (b - 1)) * f 0 b * Dt n (mnr (mnr f a) (if b < a then b else b - 1)))) (n + 2) := fun a ha => by
      rw [← sumTo_skip (g := fun b => sg a * f 0 a * ((if b < a then sg b else sg (b - 1)) * f 0 b * Dt n (mnr (mnr f a) (if b < a then b else b - 1)))) (n + 1) ha, Dt_succ, ← sumTo_mul']
      refine sumTo_congr (n + 1) fun k hk => ?_
      have e0 : mnr f a 0 k = f 0 (sk a k) := (h (sk a k) (sk_lt hk)).symm
      have e1 : (if sk a k < a then sk a k else sk a k - 1) = k := by
        unfold sk
        repeat' split
        all_goals omega
      have e2 : (if sk a k < a then sg (sk a k) else sg (sk a k - 1)) = sg k := by
        by_cases hka : k < a
        · have : sk a k = k := by unfold sk; rw [if_pos hka]
          rw [this, if_pos hka]
        · have : sk a k = k + 1 := by unfold sk; rw [if_neg hka]
          rw [this, if_neg (by omega), Nat.add_sub_cancel]
      rw [e0, e1, e2]
    rw [sumTo_congr (n + 2) key]
    refine sumTo_anti (n + 2) fun a b ha hb => ?_
    by_cases e : b = a
    · subst e; rw [if_pos rfl]; rfl
    · rw [if_neg e, if_neg (show ¬ a = b from fun e2 => e e2.symm)]
      by_cases hlt : b < a
      · rw [if_pos hlt, if_pos hlt, if_neg (show ¬ a < b by omega), if_neg (show ¬ a < b by omega), mnr_two hlt]
        have : sg a = -sg (a - 1) := by
          have := sg_succ (a - 1)
          rwa [Nat.sub_add_cancel (by omega)] at this
        rw [this]
        grind
      · have hlt2 : a < b := by omega
        rw [if_neg hlt, if_neg hlt, if_pos hlt2, if_pos hlt2, mnr_two hlt2]
        have : sg b = -sg (b - 1) := by
          have := sg_succ (b - 1)
          rwa [Nat.sub_add_cancel (by omega)] at this
        rw [this]
        grind
/-- Linear in each row, zero where two rows beside each other are equal. -/
structure Alt (n : Nat) (F : Fn2 → Int) : Prop where
  congr : ∀ (f g : Fn2), EqM n n f g → F f = F g
  lin : ∀ (i : Nat) (t : Int) (f g h : Fn2), i < n → (∀ y, y < n → f i y = g i y + h i y * t) → (∀ x y, x < n → y < n → x ≠ i → f x y = g x y ∧ f x y = h x y) → F f = F g + F h * t
  alt : ∀ (i : Nat) (f : Fn2), i + 1 < n → (∀ y, y < n → f i y = f (i + 1) y) → F f = 0
theorem Dt_alt (n : Nat) : Alt n (Dt n) :=
  ⟨fun f g h => Dt_congr n h, fun i t f g h hi h1 h2 => Dt_row n i t hi h1 h2, fun i f hi h => Dt_row_eq n i hi h⟩
theorem Dt_altC (n : Nat) : Alt n (fun f => Dt n (fun a b => f b a)) :=
  ⟨fun f g h => Dt_congr n fun a b ha hb => h b a hb ha, fun i t f g h hi h1 h2 => Dt_col n i t hi (fun x hx => h1 x hx) (fun x y hx hy hne => h2 y x hy hx hne), fun i f hi h => Dt_col_eq n i hi fun x hx => h x hx⟩
/-- Rows i and j anew. -/
def rw2 (f : Fn2) (i j : Nat) (a b : Nat → Int) : Fn2 := fun x y => if x = i then a y else if x = j then b y else f x y
section
variable {n : Nat} {F : Fn2 → Int}
/-- The exchange of two rows, if equal ones give zero there. -/
theorem Alt.turn (H : Alt n F) {i j : Nat} (hi : i < n) (hj : j < n) (hij : i ≠ j) (hz : ∀ f : Fn2, (∀ y, y < n → f i y = f j y) → F f = 0) (f : Fn2) (a b : Nat → Int) : F (rw2 f i j b a) = -F (rw2 f i j a b) := by
  have hji : j ≠ i := fun e => hij e.symm
  have z : ∀ c, F (rw2 f i j c c) = 0 := fun c => hz _ fun y _ => by unfold rw2; rw [if_pos rfl, if_neg hji, if_pos rfl]
  have l1 : ∀ c, F (rw2 f i j (fun y => a y + b y) c) = F (rw2 f i j a c) + F (rw2 f i j b c) := fun c => by
    have := H.lin i 1 (rw2 f i j (fun y => a y + b y) c) (rw2 f i j a c) (rw2 f i j b c) hi (fun y _ => by unfold rw2; rw [if_pos rfl, if_pos rfl, if_pos rfl, Int.mul_one]) (fun x y _ _ hne => by unfold rw2; rw [if_neg hne, if_neg hne, if_neg hne]; exact ⟨rfl, rfl⟩)
    rw [this, Int.mul_one]
  have l2 : ∀ c, F (rw2 f i j c (fun y => a y + b y)) = F (rw2 f i j c a) + F (rw2 f i j c b) := fun c => by
    have := H.lin j 1 (rw2 f i j c (fun y => a y + b y)) (rw2 f i j c a) (rw2 f i j c b) hj (fun y _ => by unfold rw2; rw [if_neg hji, if_pos rfl, if_neg hji, if_pos rfl, if_neg hji, if_pos rfl, Int.mul_one]) (fun x y _ _ hne => by unfold rw2; rw [if_neg hne, if_neg hne, if_neg hne]; exact ⟨rfl, rfl⟩)
    rw [this, Int.mul_one]
  have h0 := z (fun y => a y + b y)
  rw [l1, l2, l2, z, z] at h0
  omega
theorem rw2_self (f : Fn2) (i j : Nat) : rw2 f i j (f i) (f j) = f := by
  funext x y
  unfold rw2
  split
  · rename_i h; rw [h]
  · split
    · rename_i h; rw [h]
    · rfl
theorem rw2_swap (f : Fn2) {i j : Nat} : rw2 f i j (f j) (f i) = swF f i j := by
  funext x y
  unfold rw2 swF
  split
  · rfl
  · split
    · rfl
    · rfl
theorem Alt.adj (H : Alt n F) {i : Nat} (hi : i + 1 < n) (f : Fn2) : F (swF f i (i + 1)) = -F f := by
  have := H.turn (i := i) (j := i + 1) (by omega) hi (by omega) (fun f h => H.alt i f hi h) f (f i) (f (i + 1))
  rw [rw2_self, rw2_swap] at this
  exact this
/-- Zero where two rows are equal. -/
theorem Alt.same_lt (H : Alt n F) : ∀ (d i : Nat) (f : Fn2), i + d + 1 < n → (∀ y, y < n → f i y = f (i + d + 1) y) → F f = 0
  | 0, i, f, hi, h => H.alt i f hi h
  | d + 1, i, f, hi, h => by
    have h1 := H.adj (i := i + d + 1) (by omega) f
    have h2 : F (swF f (i + d + 1) (i + d + 1 + 1)) = 0 := H.same_lt d i _ (by omega) fun y hy => by
      have e1 : swF f (i + d + 1) (i + d + 1 + 1) i y = f i y := by unfold swF; rw [if_neg (by omega), if_neg (by omega)]
      have e2 : swF f (i + d + 1) (i + d + 1 + 1) (i + d + 1) y = f (i + d + 1 + 1) y := by unfold swF; rw [if_pos rfl]
      rw [e1, e2]
      exact h y hy
    rw [h2] at h1
    omega
theorem Alt.same (H : Alt n F) {i j : Nat} (hi : i < n) (hj : j < n) (hij : i ≠ j) (f : Fn2) (h : ∀ y, y < n → f i y = f j y) : F f = 0 := by
  rcases Nat.lt_or_ge i j with hlt | hge
  · exact H.same_lt (j - i - 1) i f (by omega) (by rw [show i + (j - i - 1) + 1 = j by omega]; exact h)
  · exact H.same_lt (i - j - 1) j f (by omega) (by rw [show j + (i - j - 1) + 1 = i by omega]; exact fun y hy => (h y hy).symm)
theorem Alt.swap (H : Alt n F) {i j : Nat} (hi : i < n) (hj : j < n) (hij : i ≠ j) (f : Fn2) : F (swF f i j) = -F f := by
  have := H.turn hi hj hij (fun f h => H.same hi hj hij f h) f (f i) (f j)
  rw [rw2_self, rw2_swap] at this
  exact this
/-- A multiple of a row added to another one. -/
theorem Alt.add (H : Alt n F) {i j : Nat} {t : Int} {f g : Fn2} (hi : i < n) (hj : j < n) (hij : i ≠ j) (h1 : ∀ y, y < n → g i y = f i y + f j y * t) (h2 : ∀ x y, x < n → y < n → x ≠ i → g x y = f x y) : F g = F f := by
  have h3 := H.lin i t g f (fun x y => if x = i then f j y else f x y) hi (fun y hy => by
    show g i y = f i y + (if i = i then f j y else f i y) * t
    rw [if_pos rfl]
    exact h1 y hy) (fun x y hx hy hne => ⟨h2 x y hx hy hne, by show g x y = if x = i then f j y else f x y; rw [if_neg hne]; exact h2 x y hx hy hne⟩)
  have h4 : F (fun x y => if x = i then f j y else f x y) = 0 := H.same hi hj hij _ fun y hy => by
    show (if i = i then f j y else f i y) = if j = i then f j y else f j y
    rw [if_pos rfl, if_neg (fun e => hij e.symm)]
  rw [h3, h4, Int.zero_mul, Int.add_zero]
theorem Alt.zero (H : Alt n F) {i : Nat} {f : Fn2} (hi : i < n) (h : ∀ y, y < n → f i y = 0) : F f = 0 := by
  have h3 := H.lin i 1 f f f hi (fun y hy => by rw [h y hy]; rfl) (fun x y hx hy hne => ⟨rfl, rfl⟩)
  omega
theorem Alt.scale (H : Alt n F) {i : Nat} {t : Int} {f g : Fn2} (hi : i < n) (h1 : ∀ y, y < n → g i y = f i y * t) (h2 : ∀ x y, x < n → y < n → x ≠ i → g x y = f x y) : F g = F f * t := by
  have h3 := H.lin i t g (fun x y => if x = i then 0 else f x y) f hi (fun y hy => by
    show g i y = (if i = i then 0 else f i y) + f i y * t
    rw [if_pos rfl, h1 y hy, Int.zero_add]) (fun x y hx hy hne => ⟨by show g x y = if x = i then 0 else f x y; rw [if_neg hne]; exact h2 x y hx hy hne, h2 x y hx hy hne⟩)
  have h4 : F (fun x y => if x = i then 0 else f x y) = 0 := H.zero hi fun y hy => by
    show (if i = i then (0 : Int) else f i y) = 0
    rw [if_pos rfl]
  rw [h3, h4, Int.zero_add]
end
/-- A matrix with zeros below the diagonal: the product of the diagonal. -/
theorem Dt_id : ∀ n, Dt n idF = 1
  | 0 => rfl
  | n + 1 => by
    rw [Dt_succ, sumTo_one (i := 0) (n + 1) (by omega) (fun k hk hne => ?_)]
    · have e : Dt n (mnr idF 0) = Dt n idF := Dt_congr n fun a b ha hb => by
        show idF (a + 1) (sk 0 b) = idF a b
        unfold idF sk
        rw [if_neg (Nat.not_lt_zero _)]
        by_cases h : a = b
        · rw [if_pos h, if_pos (by omega)]
        · rw [if_neg h, if_neg (by omega)]
      rw [e, Dt_id n]
      rfl
    · have : idF 0 k = 0 := by unfold idF; rw [if_neg (fun e => hne e.symm)]
      rw [this]
      grind
end Go.Proofs.YtlggfmfelakadaaGreatDoor

/-
  DERIVED. The Smith form, step by step, as functions of row and column: no program in sight.
-/
namespace Go.Proofs.YtlggfmfelakadaaGreatDoor
set_option linter.unusedVariables false
def tp (f : Fn2) : Fn2 := fun a b => f b a
theorem tp_tp (f : Fn2) : tp (tp f) = f := rfl
theorem tp_ok {f : Fn2} {R C : Nat} (h : OKF R C f) : OKF C R (tp f) := fun i j hi hj => h j i hj hi
theorem tp_nb {f : Fn2} (h : NBF f) : NBF (tp f) := fun i j => h j i
/-- A matrix, the account of what is done to its rows, that of its columns. -/
structure SS where
  f : Fn2
  g : Fn2
  h : Fn2
def SS.row (s : SS) : HS := ⟨s.f, s.g⟩
def SS.col (s : SS) : HS := ⟨tp s.f, tp s.h⟩
def SS.wr (s : SS) (q : HS) : SS := ⟨q.f, q.g, s.h⟩
def SS.wc (s : SS) (q : HS) : SS := ⟨tp q.f, s.g, tp q.g⟩
structure SS.OK (R C : Nat) (s : SS) : Prop where
  f : OKF R C s.f
  g : OKF R R s.g
  h : OKF C C s.h
structure SS.NBS (s : SS) : Prop where
  f : NBF s.f
  g : NBF s.g
  h : NBF s.h
structure SGD (R C : Nat) (s : SS) : Prop where
  ok : s.OK R C
  nb : s.NBS
def SS.ok (R C : Nat) (s : SS) : Bool := (tb R C s.f).all noBad && (tb R R s.g).all noBad && (tb C C s.h).all noBad
section
variable {R C : Nat} {s : SS} {q : HS}
theorem SS.ok_iff (h : s.NBS) : s.ok R C = true ↔ s.OK R C := by
  unfold SS.ok
  rw [Bool.and_eq_true, Bool.and_eq_true, tb_all h.f, tb_all h.g, tb_all h.h]
  exact ⟨fun h => ⟨h.1.1, h.1.2, h.2⟩, fun h => ⟨⟨h.f, h.g⟩, h.h⟩⟩
theorem SS.ok_no (h : s.NBS) (h2 : ¬ s.OK R C) : s.ok R C = false := by
  rw [← Bool.not_eq_true, SS.ok_iff h]; exact h2
theorem SS.NBS.row (h : s.NBS) : s.row.NBS := ⟨h.f, h.g⟩
theorem SS.NBS.col (h : s.NBS) : s.col.NBS := ⟨tp_nb h.f, tp_nb h.h⟩
theorem SS.NBS.wr (h : s.NBS) (hq : q.NBS) : (s.wr q).NBS := ⟨hq.f, hq.g, h.h⟩
theorem SS.NBS.wc (h : s.NBS) (hq : q.NBS) : (s.wc q).NBS := ⟨tp_nb hq.f, h.g, tp_nb hq.g⟩
theorem SS.OK.row (h : s.OK R C) : s.row.OK R C := ⟨h.f, h.g⟩
theorem SS.OK.col (h : s.OK R C) : s.col.OK C R := ⟨tp_ok h.f, tp_ok h.h⟩
theorem SS.OK.wr (h : s.OK R C) (hq : q.OK R C) : (s.wr q).OK R C := ⟨hq.f, hq.g, h.h⟩
theorem SS.OK.wc (h : s.OK R C) (hq : q.OK C R) : (s.wc q).OK R C := ⟨tp_ok hq.f, h.g, tp_ok hq.g⟩
theorem SS.OK.ofRow (h : (s.wr q).OK R C) : q.OK R C := ⟨h.f, h.g⟩
theorem SS.OK.ofCol (h : (s.wc q).OK R C) : q.OK C R := ⟨tp_ok h.f, tp_ok h.h⟩
theorem SGD.row (h : SGD R C s) : GD R C s.row := ⟨h.ok.row, h.nb.row⟩
theorem SGD.col (h : SGD R C s) : GD C R s.col := ⟨h.ok.col, h.nb.col⟩
theorem SGD.wr (h : SGD R C s) (hq : GD R C q) : SGD R C (s.wr q) := ⟨h.ok.wr hq.ok, h.nb.wr hq.nb⟩
theorem SGD.wc (h : SGD R C s) (hq : GD C R q) : SGD R C (s.wc q) := ⟨h.ok.wc hq.ok, h.nb.wc hq.nb⟩
end
-- the least absolute value that is not 0, from (t, t) on
def lsI (f : Fn2) (i t : Nat) (st : Int × Int) : Nat → Int × Int
  | 0 => st
  | n + 1 => if f i (t + n) ≠ 0 ∧ ((lsI f i t st n).1 < 0 ∨ (f i (t + n)).natAbs < (f (lsI f i t st n).1.toNat (lsI f i t st n).2.toNat).natAbs) then (((i : Nat) : Int), ((t + n : Nat) : Int)) else lsI f i t st n
def lsO (f : Fn2) (t D : Nat) : Nat → Int × Int
  | 0 => (-1, -1)
  | m + 1 => lsI f (t + m) t (lsO f t D m) D
def ls2 (R C : Nat) (f : Fn2) (t : Nat) : Int × Int := lsO f t (C - t) (R - t)
theorem lsI_succ (f : Fn2) (i t : Nat) (st : Int × Int) (n : Nat) : lsI f i t st (n + 1) = if f i (t + n) ≠ 0 ∧ ((lsI f i t st n).1 < 0 ∨ (f i (t + n)).natAbs < (f (lsI f i t st n).1.toNat (lsI f i t st n).2.toNat).natAbs) then (((i : Nat) : Int), ((t + n : Nat) : Int)) else lsI f i t st n := rfl
/-- What a search knows of the places that it has seen. -/
def LSP (f : Fn2) (t : Nat) (V : Nat → Nat → Prop) (st : Int × Int) : Prop :=
  (st = (-1, -1) ∧ ∀ i j, V i j → f i j = 0) ∨ ∃ p q : Nat, st = ((p : Int), (q : Int)) ∧ V p q ∧ f p q ≠ 0 ∧ (∀ i j, V i j → f i j ≠ 0 → (f p q).natAbs ≤ (f i j).natAbs) ∧ (V t t → f t t ≠ 0 → ¬ (p = t ∧ q = t) → (f p q).natAbs < (f t t).natAbs)
theorem LSP.step {f : Fn2} {t : Nat} {V V' : Nat → Nat → Prop} {st : Int × Int} {i j : Nat} (h : LSP f t V st) (hV : ∀ a b, V' a b ↔ V a b ∨ (a = i ∧ b = j)) (h0 : i = t → j = t → ∀ a b, ¬ V a b) :
    LSP f t V' (if f i j ≠ 0 ∧ (st.1 < 0 ∨ (f i j).natAbs < (f st.1.toNat st.2.toNat).natAbs) then (((i : Nat) : Int), ((j : Nat) : Int)) else st) := by
  rcases h with ⟨rfl, h1⟩ | ⟨p, q, rfl, h1, h2, h3, h4⟩
  · by_cases hz : f i j = 0
    · rw [if_neg (by simp [hz])]
      refine .inl ⟨rfl, fun a b hab => ?_⟩
      rcases (hV a b).1 hab with h | ⟨rfl, rfl⟩
      · exact h1 a b h
      · exact hz
    · rw [if_pos ⟨hz, .inl (by decide)⟩]
      refine .inr ⟨i, j, rfl, (hV i j).2 (.inr ⟨rfl, rfl⟩), hz, fun a b hab hne => ?_, fun ht htz hne => ?_⟩
      · rcases (hV a b).1 hab with h | ⟨rfl, rfl⟩
        · exact absurd (h1 a b h) hne
        · exact Nat.le_refl _
      · rcases (hV t t).1 ht with h | ⟨h5, h6⟩
        · exact absurd (h1 t t h) htz
        · exact absurd ⟨h5.symm, h6.symm⟩ hne
  · simp only [Int.toNat_natCast]
    by_cases hc : f i j ≠ 0 ∧ ((p : Int) < 0 ∨ (f i j).natAbs < (f p q).natAbs)
    · rw [if_pos hc]
      have hlt : (f i j).natAbs < (f p q).natAbs := hc.2.resolve_left (by omega)
      refine .inr ⟨i, j, rfl, (hV i j).2 (.inr ⟨rfl, rfl⟩), hc.1, fun a b hab hne => ?_, fun ht htz hne => ?_⟩
      · rcases (hV a b).1 hab with h | ⟨rfl, rfl⟩
        · exact Nat.le_trans (Nat.le_of_lt hlt) (h3 a b h hne)
        · exact Nat.le_refl _
      · rcases (hV t t).1 ht with h | ⟨h5, h6⟩
        · exact Nat.lt_of_lt_of_le hlt (h3 t t h htz)
        · exact absurd ⟨h5.symm, h6.symm⟩ hne
    · rw [if_neg hc]
      refine .inr ⟨p, q, rfl, (hV p q).2 (.inl h1), h2, fun a b hab hne => ?_, fun ht htz hne => ?_⟩
      · rcases (hV a b).1 hab with h | ⟨rfl, rfl⟩
        · exact h3 a b h hne
        · exact Nat.le_of_not_lt fun hlt => hc ⟨hne, .inr hlt⟩
      · rcases (hV t t).1 ht with h | ⟨h5, h6⟩
        · exact h4 h htz hne
        · exact absurd h1 (h0 h5.symm h6.symm p q)
theorem LSP.as {f : Fn2} {t : Nat} {V V' : Nat → Nat → Prop} {st : Int × Int} (h : LSP f t V st) (hV : ∀ a b, V' a b ↔ V a b) : LSP f t V' st := by
  have e : V' = V := funext fun a => funext fun b => propext (hV a b)
  rw [e]; exact h
theorem lsI_P {f : Fn2} {t D i : Nat} {st : Int × Int} (hi : t ≤ i) (h : LSP f t (fun a b => t ≤ a ∧ a < i ∧ t ≤ b ∧ b < t + D) st) :
    ∀ n, n ≤ D → LSP f t (fun a b => t ≤ a ∧ t ≤ b ∧ b < t + D ∧ (a < i ∨ a = i ∧ b < t + n)) (lsI f i t st n)
  | 0, _ => h.as fun a b => by omega
  | n + 1, hn => by
    rw [lsI_succ]
    refine LSP.step (lsI_P hi h n (by omega)) (fun a b => by omega) (fun h1 h2 a b => by omega)
theorem lsO_P (f : Fn2) (t D : Nat) : ∀ m, LSP f t (fun a b => t ≤ a ∧ a < t + m ∧ t ≤ b ∧ b < t + D) (lsO f t D m)
  | 0 => .inl ⟨rfl, fun i j h => by omega⟩
  | m + 1 => (lsI_P (by omega) (lsO_P f t D m) D (Nat.le_refl _)).as fun a b => by omega
theorem ls2_P (R C : Nat) (f : Fn2) (t : Nat) : LSP f t (fun a b => t ≤ a ∧ a < R ∧ t ≤ b ∧ b < C) (ls2 R C f t) :=
  (lsO_P f t (C - t) (R - t)).as fun a b => by omega
/-- The first of the search. -/
theorem ls2_cases (R C : Nat) (f : Fn2) (t : Nat) : (ls2 R C f t = (-1, -1) ∧ ∀ i j, t ≤ i → i < R → t ≤ j → j < C → f i j = 0) ∨
    ∃ p q : Nat, ls2 R C f t = ((p : Int), (q : Int)) ∧ (t ≤ p ∧ p < R ∧ t ≤ q ∧ q < C) ∧ f p q ≠ 0 ∧ (∀ i j, t ≤ i → i < R → t ≤ j → j < C → f i j ≠ 0 → (f p q).natAbs ≤ (f i j).natAbs) ∧ (t < R → t < C → f t t ≠ 0 → ¬ (p = t ∧ q = t) → (f p q).natAbs < (f t t).natAbs) := by
  rcases ls2_P R C f t with ⟨h1, h2⟩ | ⟨p, q, h1, h2, h3, h4, h5⟩
  · exact .inl ⟨h1, fun i j a b c d => h2 i j ⟨a, b, c, d⟩⟩
  · exact .inr ⟨p, q, h1, h2, h3, fun i j a b c d => h4 i j ⟨a, b, c, d⟩, fun a b => h5 ⟨Nat.le_refl _, a, Nat.le_refl _, b⟩⟩
theorem ls2_some {R C : Nat} {f : Fn2} {t i j : Nat} (h1 : t ≤ i) (h2 : i < R) (h3 : t ≤ j) (h4 : j < C) (hne : f i j ≠ 0) :
    ∃ p q : Nat, ls2 R C f t = ((p : Int), (q : Int)) ∧ (t ≤ p ∧ p < R ∧ t ≤ q ∧ q < C) ∧ f p q ≠ 0 ∧ (f p q).natAbs ≤ (f i j).natAbs := by
  rcases ls2_cases R C f t with ⟨_, h⟩ | ⟨p, q, a, b, c, d, e⟩
  · exact absurd (h i j h1 h2 h3 h4) hne
  · exact ⟨p, q, a, b, c, d i j h1 h2 h3 h4 hne⟩
-- a round
def sfA1 (t r : Nat) (s : SS) : SS := if r = t then s else s.wr (s.row.swap r t)
def sfA2 (t c : Nat) (s : SS) : SS := if c = t then s else s.wc (s.col.swap c t)
def sfB (R t : Nat) (s : SS) : SS := s.wr (swS t t t s.row (R - t))
def sfC (C t : Nat) (s : SS) : SS := s.wc (swS t t t s.col (C - t))
def clnS (R C t : Nat) (f : Fn2) : Bool := !(oth R f t t t) && !(oth C (tp f) t t t)
def fdR (f : Fn2) (t C i : Nat) : Bool := (List.range (C - (t + 1))).any fun n => decide (f i (t + 1 + n) ≠ bad) && decide ((f i (t + 1 + n)).tmod (f t t) ≠ 0)
def fdS (f : Fn2) (t C : Nat) (i : Nat) : Nat → Option Nat
  | 0 => none
  | m + 1 => if fdR f t C i then some i else fdS f t C (i + 1) m
def fd (R C t : Nat) (f : Fn2) : Option Nat := fdS f t C (t + 1) (R - (t + 1))
def sfD (R C t : Nat) (s : SS) : SS × Bool := if clnS R C t s.f then (match fd R C t s.f with | some i => (s.wr (s.row.add t i 1), false) | none => (s, true)) else (s, false)
def sfA (R C t : Nat) (s : SS) : SS := sfA2 t (ls2 R C s.f t).2.toNat (sfA1 t (ls2 R C s.f t).1.toNat s)
def rnd (R C t : Nat) (s : SS) : SS × Bool := sfD R C t (sfC C t (sfB R t (sfA R C t s)))
theorem fdR_iff {f : Fn2} {t C i : Nat} : fdR f t C i = true ↔ ∃ j, t < j ∧ j < C ∧ f i j ≠ bad ∧ (f i j).tmod (f t t) ≠ 0 := by
  unfold fdR
  rw [List.any_eq_true]
  constructor
  · rintro ⟨n, hn, h⟩
    have hn' := List.mem_range.1 hn
    rw [Bool.and_eq_true, decide_eq_true_eq, decide_eq_true_eq] at h
    exact ⟨t + 1 + n, by omega, by omega, h.1, h.2⟩
  · rintro ⟨j, h1, h2, h3, h4⟩
    refine ⟨j - (t + 1), List.mem_range.2 (by omega), ?_⟩
    rw [show t + 1 + (j - (t + 1)) = j by omega, Bool.and_eq_true, decide_eq_true_eq, decide_eq_true_eq]
    exact ⟨h3, h4⟩
theorem fdR_no {f : Fn2} {t C i : Nat} (h : ∀ j, t < j → j < C → ¬ (f i j ≠ bad ∧ (f i j).tmod (f t t) ≠ 0)) : fdR f t C i = false := by
  refine Bool.eq_false_iff.2 fun hc => ?_
  obtain ⟨j, h1, h2, h3⟩ := fdR_iff.1 hc
  exact h j h1 h2 h3
theorem fdS_yes {f : Fn2} {t C i m : Nat} (h : fdR f t C i = true) : fdS f t C i (m + 1) = some i := by
  show (if _ then _ else _) = _
  rw [if_pos h]
theorem fdS_no {f : Fn2} {t C i m : Nat} (h : fdR f t C i = false) : fdS f t C i (m + 1) = fdS f t C (i + 1) m := by
  show (if _ then _ else _) = _
  rw [if_neg (by rw [h]; exact Bool.false_ne_true)]
theorem fdS_some {f : Fn2} {t C k : Nat} : ∀ m i, fdS f t C i m = some k → i ≤ k ∧ k < i + m ∧ fdR f t C k = true
  | 0, i, h => by cases h
  | m + 1, i, h => by
    rcases hr : fdR f t C i with _ | _
    · rw [fdS_no hr] at h
      obtain ⟨a, b, c⟩ := fdS_some m (i + 1) h
      exact ⟨by omega, by omega, c⟩
    · rw [fdS_yes hr] at h
      cases h
      exact ⟨Nat.le_refl _, by omega, hr⟩
theorem fd_some {R C t k : Nat} {f : Fn2} (h : fd R C t f = some k) : t < k ∧ k < R ∧ fdR f t C k = true := by
  obtain ⟨a, b, c⟩ := fdS_some _ _ h
  exact ⟨by omega, by omega, c⟩
section
variable {R C t : Nat} {s : SS}
theorem SGD.a1 {r : Nat} (h : SGD R C s) (hr : r < R) (ht : t < R) : SGD R C (sfA1 t r s) := by
  unfold sfA1
  split
  · exact h
  · exact h.wr (h.row.swap hr ht)
theorem SGD.a2 {c : Nat} (h : SGD R C s) (hc : c < C) (ht : t < C) : SGD R C (sfA2 t c s) := by
  unfold sfA2
  split
  · exact h
  · exact h.wc (h.col.swap hc ht)
theorem sfA_piv (r c : Nat) (s : SS) : (sfA2 t c (sfA1 t r s)).f t t = s.f r c := by
  have h1 : ∀ y, (sfA1 t r s).f t y = s.f r y := fun y => by
    unfold sfA1
    split
    · rename_i h; rw [h]
    · exact swF_t s.f r t y
  have h2 : (sfA2 t c (sfA1 t r s)).f t t = (sfA1 t r s).f t c := by
    unfold sfA2
    split
    · rename_i h; rw [h]
    · exact swF_t (tp (sfA1 t r s).f) c t t
  rw [h2, h1]
theorem sfA_same (s : SS) : sfA2 t t (sfA1 t t s) = s := by
  unfold sfA1 sfA2
  rw [if_pos rfl, if_pos rfl]
theorem sfB_nb (h : s.NBS) : (sfB R t s).NBS := h.wr (swS_nb h.row _)
theorem sfC_nb (h : s.NBS) : (sfC C t s).NBS := h.wc (swS_nb h.col _)
theorem sfD_nb (h : s.NBS) : (sfD R C t s).1.NBS := by
  unfold sfD
  split
  · split
    · exact h.wr (h.row.add _ _ _)
    · exact h
  · exact h
theorem sfB_back (h : s.NBS) (hk : (sfB R t s).OK R C) : s.OK R C := by
  have h1 := swS_back' (R := R) (C := C) h.row 0 (R - t) (by rw [Nat.zero_add]; exact hk.ofRow)
  exact ⟨h1.f, h1.g, hk.h⟩
theorem sfC_back (h : s.NBS) (hk : (sfC C t s).OK R C) : s.OK R C := by
  have h1 := swS_back' (R := C) (C := R) h.col 0 (C - t) (by rw [Nat.zero_add]; exact hk.ofCol)
  exact ⟨tp_ok h1.f, hk.g, tp_ok h1.g⟩
theorem sfD_back (h : s.NBS) (hk : (sfD R C t s).1.OK R C) : s.OK R C := by
  unfold sfD at hk
  split at hk
  · split at hk
    · have h1 := HS.OK.back h.row hk.ofRow
      exact ⟨h1.f, h1.g, hk.h⟩
    · exact hk
  · exact hk
theorem rnd_back (h : (sfA R C t s).NBS) (hk : (rnd R C t s).1.OK R C) : (sfB R t (sfA R C t s)).OK R C ∧ (sfC C t (sfB R t (sfA R C t s))).OK R C := by
  have h1 := sfD_back (sfC_nb (sfB_nb h)) hk
  exact ⟨sfC_back (sfB_nb h) h1, h1⟩
end
-- rounds till nothing is left
def lsV (R C t : Nat) (s : SS) : Nat := (s.f (ls2 R C s.f t).1.toNat (ls2 R C s.f t).2.toNat).natAbs
def flg (R C t : Nat) (s : SS) : Nat := if (s.f t t).natAbs = lsV R C t s ∧ fdR s.f t C t = true then 0 else 1
def sfMs (R C t : Nat) (s : SS) : Nat := 2 * lsV R C t s + flg R C t s
theorem flg_le (R C t : Nat) (s : SS) : flg R C t s ≤ 1 := by unfold flg; split <;> omega
theorem lsV_le {R C t i j : Nat} {s : SS} (h1 : t ≤ i) (h2 : i < R) (h3 : t ≤ j) (h4 : j < C) (hne : s.f i j ≠ 0) : lsV R C t s ≤ (s.f i j).natAbs := by
  obtain ⟨p, q, e, _, _, h⟩ := ls2_some h1 h2 h3 h4 hne
  unfold lsV
  rw [e]
  exact h
theorem tmodz_iff {a b : Int} : a.tmod b = 0 ↔ a % b = 0 := by
  rw [← Int.dvd_iff_tmod_eq_zero, ← Int.dvd_iff_emod_eq_zero]
theorem rnd_facts {R C t : Nat} {s1 : SS} (h : s1.NBS) (ht : t < R) (htC : t < C) (hP : s1.f t t ≠ 0) (hB : (sfB R t s1).OK R C) (hC : (sfC C t (sfB R t s1)).OK R C) :
    (sfC C t (sfB R t s1)).f t t = s1.f t t ∧ (∀ x, t < x → x < R → (sfC C t (sfB R t s1)).f x t = s1.f x t % s1.f t t) ∧ (∀ y, t < y → y < C → (sfC C t (sfB R t s1)).f t y = s1.f t y % s1.f t t) := by
  have b1 : ∀ y, (sfB R t s1).f t y = s1.f t y := fun y => swS_p (j := t) (p := t) (t := t) (s := s1.row) y (R - t)
  have b2 : ∀ x, t < x → x < R → (sfB R t s1).f x t = s1.f x t % s1.f t t := fun x h1 h2 => swS_col h.row htC ht hP (R - t) (by omega) hB.ofRow x (by omega) (by omega) (by omega)
  have c1 : ∀ x, (sfC C t (sfB R t s1)).f x t = (sfB R t s1).f x t := fun x => swS_p (j := t) (p := t) (t := t) (s := (sfB R t s1).col) x (C - t)
  have hP2 : (sfB R t s1).f t t ≠ 0 := by rw [b1]; exact hP
  have c2 : ∀ y, t < y → y < C → (sfC C t (sfB R t s1)).f t y = (sfB R t s1).f t y % (sfB R t s1).f t t := fun y h1 h2 => swS_col (sfB_nb h).col ht htC hP2 (C - t) (by omega) hC.ofCol y (by omega) (by omega) (by omega)
  refine ⟨by rw [c1, b1], fun x h1 h2 => by rw [c1, b2 x h1 h2], fun y h1 h2 => by rw [c2 y h1 h2, b1, b1]⟩
theorem emod_small {a b : Int} (hb : b ≠ 0) : (a % b).natAbs < b.natAbs := by
  have h5 := Int.emod_nonneg a hb
  have h6 := Int.emod_lt a hb
  omega
theorem clnS_no {R C t : Nat} {f : Fn2} (h : clnS R C t f = false) : (∃ x, t < x ∧ x < R ∧ f x t ≠ 0) ∨ ∃ y, t < y ∧ y < C ∧ f t y ≠ 0 := by
  unfold clnS at h
  rcases h1 : oth R f t t t with _ | _
  · rw [h1] at h
    have h2 : oth C (tp f) t t t = true := by simpa using h
    obtain ⟨i, a, b, c, d⟩ := oth_iff.1 h2
    exact .inr ⟨i, by omega, b, d⟩
  · obtain ⟨i, a, b, c, d⟩ := oth_iff.1 h1
    exact .inl ⟨i, by omega, b, d⟩
theorem clnS_yes {R C t : Nat} {f : Fn2} (h : clnS R C t f = true) : (∀ x, t < x → x < R → f x t = 0) ∧ ∀ y, t < y → y < C → f t y = 0 := by
  unfold clnS at h
  rw [Bool.and_eq_true, Bool.not_eq_true', Bool.not_eq_true'] at h
  refine ⟨fun x h1 h2 => ?_, fun y h1 h2 => ?_⟩
  · refine Decidable.byContradiction fun hne => ?_
    have := oth_iff.2 (show ∃ i, t ≤ i ∧ i < R ∧ i ≠ t ∧ f i t ≠ 0 from ⟨x, by omega, h2, by omega, hne⟩)
    rw [h.1] at this; cases this
  · refine Decidable.byContradiction fun hne => ?_
    have := oth_iff.2 (show ∃ i, t ≤ i ∧ i < C ∧ i ≠ t ∧ (tp f) i t ≠ 0 from ⟨y, by omega, h2, by omega, hne⟩)
    rw [h.2] at this; cases this
theorem rnd_lt {R C t p q : Nat} {s : SS} (h : SGD R C s) (ht : t < R) (htC : t < C) (e : ls2 R C s.f t = ((p : Int), (q : Int))) (hpR : p < R) (hqC : q < C) (hpq : s.f p q ≠ 0) (hfirst : s.f t t ≠ 0 → ¬ (p = t ∧ q = t) → (s.f p q).natAbs < (s.f t t).natAbs)
    (hk : (rnd R C t s).1.OK R C) (hd : (rnd R C t s).2 = false) : sfMs R C t (rnd R C t s).1 < sfMs R C t s ∧ (rnd R C t s).1.f t t ≠ 0 := by
  have eA : sfA R C t s = sfA2 t q (sfA1 t p s) := by unfold sfA; rw [e]; rfl
  have hA : SGD R C (sfA R C t s) := by rw [eA]; exact (h.a1 hpR ht).a2 hqC htC
  have hpiv : (sfA R C t s).f t t = s.f p q := by rw [eA]; exact sfA_piv p q s
  obtain ⟨hB, hC⟩ := rnd_back hA.nb hk
  have hP : (sfA R C t s).f t t ≠ 0 := by rw [hpiv]; exact hpq
  obtain ⟨f1, f2, f3⟩ := rnd_facts hA.nb ht htC hP hB hC
  have hV : lsV R C t s = (s.f p q).natAbs := by unfold lsV; rw [e]; rfl
  have hnbC : (sfC C t (sfB R t (sfA R C t s))).NBS := sfC_nb (sfB_nb hA.nb)
  unfold rnd at hk hd ⊢
  generalize e2 : sfC C t (sfB R t (sfA R C t s)) = s2 at *
  rw [hpiv] at f1 f2 f3
  have fl2 := flg_le R C t s2
  unfold sfD at hk hd ⊢
  rcases hcl : clnS R C t s2.f with _ | _
  · rw [if_neg Bool.false_ne_true]
    refine ⟨?_, by show s2.f t t ≠ 0; rw [f1]; exact hpq⟩
    have hlt : lsV R C t s2 < (s.f p q).natAbs := by
      rcases clnS_no hcl with ⟨x, h1, h2, h3⟩ | ⟨y, h1, h2, h3⟩
      · have h4 := lsV_le (s := s2) (R := R) (C := C) (t := t) (by omega) h2 (Nat.le_refl _) htC h3
        have h5 := emod_small (a := (sfA R C t s).f x t) hpq
        rw [← f2 x h1 h2] at h5
        omega
      · have h4 := lsV_le (s := s2) (R := R) (C := C) (t := t) (Nat.le_refl _) ht (by omega) h2 h3
        have h5 := emod_small (a := (sfA R C t s).f t y) hpq
        rw [← f3 y h1 h2] at h5
        omega
    unfold sfMs
    show 2 * lsV R C t s2 + flg R C t s2 < _
    omega
  · rw [if_pos hcl] at hk hd
    rw [if_pos rfl]
    rcases hf : fd R C t s2.f with _ | i
    · rw [hf] at hd; cases hd
    · rw [hf] at hk
      obtain ⟨z1, z2⟩ := clnS_yes hcl
      obtain ⟨i1, i2, i3⟩ := fd_some hf
      obtain ⟨y0, y1, y2, y3, y4⟩ := fdR_iff.1 i3
      have hk2 : OKF R C (opA s2.f t i 1) := hk.f
      have hval : ∀ y, y < C → opA s2.f t i 1 t y = s2.f t y + s2.f i y := fun y hy => by
        obtain ⟨_, _, a, _⟩ := opA_num (hk2 t y ht hy)
        rw [a, Int.mul_one]
      have v1 : opA s2.f t i 1 t t = s.f p q := by rw [hval t htC, z1 i i1 i2, f1, Int.add_zero]
      have v2 : opA s2.f t i 1 t y0 = s2.f i y0 := by rw [hval y0 y2, z2 y0 y1 y2, Int.zero_add]
      have v3 : (opA s2.f t i 1 t y0).tmod (opA s2.f t i 1 t t) ≠ 0 := by rw [v1, v2, ← f1]; exact y4
      have hnz : opA s2.f t i 1 t t ≠ 0 := by rw [v1]; exact hpq
      refine ⟨?_, hnz⟩
      have h4 := lsV_le (s := s2.wr (s2.row.add t i 1)) (R := R) (C := C) (t := t) (Nat.le_refl _) ht (Nat.le_refl _) htC hnz
      have h5 : ((s2.wr (s2.row.add t i 1)).f t t).natAbs = (s.f p q).natAbs := by rw [← v1]; rfl
      have h6 := flg_le R C t (s2.wr (s2.row.add t i 1))
      show sfMs R C t (s2.wr (s2.row.add t i 1)) < _
      unfold sfMs
      rw [hV]
      by_cases hlt : lsV R C t (s2.wr (s2.row.add t i 1)) < (s.f p q).natAbs
      · omega
      · have hE : lsV R C t (s2.wr (s2.row.add t i 1)) = (s.f p q).natAbs := by omega
        have hf0 : flg R C t (s2.wr (s2.row.add t i 1)) = 0 := by
          unfold flg
          rw [if_pos ⟨by rw [hE, h5], fdR_iff.2 ⟨y0, y1, y2, (hk2 t y0 ht y2).ne, v3⟩⟩]
        have hf1 : flg R C t s = 1 := by
          unfold flg
          rw [if_neg]
          rintro ⟨g1, g2⟩
          rw [hV] at g1
          have htz : s.f t t ≠ 0 := by intro h0; rw [h0] at g1; simp at g1; omega
          have hpt : p = t ∧ q = t := Decidable.byContradiction fun hc => by have := hfirst htz hc; omega
          have eS : sfA R C t s = s := by rw [eA, hpt.1, hpt.2]; exact sfA_same s
          obtain ⟨y, k1, k2, k3, k4⟩ := fdR_iff.1 g2
          have := f3 y k1 k2
          rw [z2 y k1 k2, eS, hpt.1, hpt.2] at this
          exact k4 (tmodz_iff.2 this.symm)
        omega
/-- Rounds till nothing is left at (t, t). -/
def sfIn (R C t : Nat) (s : SS) : Option SS :=
  if (rnd R C t s).1.ok R C then
    if (rnd R C t s).2 then some (rnd R C t s).1
    else if h : sfMs R C t (rnd R C t s).1 < sfMs R C t s then sfIn R C t (rnd R C t s).1 else none
  else none
termination_by sfMs R C t s
theorem sfIn_bad {R C t : Nat} {s : SS} (h : (rnd R C t s).1.ok R C = false) : sfIn R C t s = none := by
  rw [sfIn, if_neg (by rw [h]; exact Bool.false_ne_true)]
theorem sfIn_done {R C t : Nat} {s : SS} (h : (rnd R C t s).1.ok R C = true) (h2 : (rnd R C t s).2 = true) : sfIn R C t s = some (rnd R C t s).1 := by
  rw [sfIn, if_pos h, if_pos h2]
theorem sfIn_next {R C t : Nat} {s : SS} (h : (rnd R C t s).1.ok R C = true) (h2 : (rnd R C t s).2 = false) (h3 : sfMs R C t (rnd R C t s).1 < sfMs R C t s) : sfIn R C t s = sfIn R C t (rnd R C t s).1 := by
  conv => lhs; rw [sfIn]
  rw [if_pos h, if_neg (by rw [h2]; exact Bool.false_ne_true), dif_pos h3]
def sfN (t : Nat) (s : SS) : SS := if s.f t t < 0 then s.wr (s.row.neg t) else s
theorem SGD.n {R C t : Nat} {s : SS} (h : SGD R C s) (ht : t < R) : SGD R C (sfN t s) := by
  unfold sfN
  split
  · exact h.wr (h.row.neg ht)
  · exact h
def sfOut (R C : Nat) : Nat → Nat → SS → Option SS
  | 0, _, s => some s
  | m + 1, t, s => if (ls2 R C s.f t).1 < 0 then some s else (sfIn R C t s).bind fun s' => sfOut R C m (t + 1) (sfN t s')
def sfGo (R C m t : Nat) (o : Option SS) : Option SS := o.bind fun s' => sfOut R C m (t + 1) (sfN t s')
theorem sfOut_zero (R C t : Nat) (s : SS) : sfOut R C 0 t s = some s := rfl
theorem sfOut_stop {R C m t : Nat} {s : SS} (h : (ls2 R C s.f t).1 < 0) : sfOut R C (m + 1) t s = some s := by
  show (if _ then _ else _) = _
  rw [if_pos h]
theorem sfOut_go {R C m t : Nat} {s : SS} (h : ¬ (ls2 R C s.f t).1 < 0) : sfOut R C (m + 1) t s = sfGo R C m t (sfIn R C t s) := by
  show (if _ then _ else _) = _
  rw [if_neg h]
  rfl
def sfRun (R C : Nat) (f : Fn2) : Option SS := sfOut R C (min R C) 0 ⟨f, idF, idF⟩
def sfX (r c : Int) (xs : List Int) : Option SS := if isMat r c xs then sfRun r.toNat c.toNat (fun i j => cel xs c i j) else none
theorem sfX_no {r c : Int} {xs : List Int} (h : isMat r c xs = false) : sfX r c xs = none := by unfold sfX; rw [h]; rfl
theorem sfX_yes {R C : Nat} {xs : List Int} (h : isMat R C xs = true) : sfX R C xs = sfOut R C (min R C) 0 ⟨fun i j => cel xs C i j, idF, idF⟩ := by unfold sfX; rw [h]; rfl
end Go.Proofs.YtlggfmfelakadaaGreatDoor

/-
  DERIVED. l3Mul.
-/
namespace Go.Proofs.YtlggfmfelakadaaGreatDoor
open Go.RowKit
set_option linter.unusedVariables false
set_option linter.unusedSimpArgs false
end Go.Proofs.YtlggfmfelakadaaGreatDoor

/-
  DERIVED. MultiplyMatrices of the reference.
-/
namespace Go.Proofs.YtlggfmfelakadaaGreatDoor
open Go.RowKit
set_option linter.unusedVariables false
set_option linter.unusedSimpArgs false
end Go.Proofs.YtlggfmfelakadaaGreatDoor

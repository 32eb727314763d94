/-
  DERIVED. The Smith form, step by step, as functions of row and column: no program in sight.
-/
import Derived.Test.YtmcbhpaajjlmmaaZ3
namespace Go.Proofs.Ytmcbhpaajjlmmaa
set_option linter.unusedVariables false
def tp (f : Fn2) : Fn2 := fun a b => f b a
theorem tp_tp (f : Fn2) : tp (tp f) = f := rfl
theorem tp_ok {f : Fn2} {R C : Nat} (h : OKF R C f) : OKF C R (tp f) := fun i j hi hj => h j i hj hi
theorem tp_nb {f : Fn2} (h : NBF f) : NBF (tp f) := fun i j => h j i
/-- A matrix, the account of what is done to its rows, that of its columns. -/
structure SS where
  f : Fn2
  g : Fn2
  h : Fn2
def SS.row (s : SS) : HS := ⟨s.f, s.g⟩
def SS.col (s : SS) : HS := ⟨tp s.f, tp s.h⟩
def SS.wr (s : SS) (q : HS) : SS := ⟨q.f, q.g, s.h⟩
def SS.wc (s : SS) (q : HS) : SS := ⟨tp q.f, s.g, tp q.g⟩
structure SS.OK (R C : Nat) (s : SS) : Prop where
  f : OKF R C s.f
  g : OKF R R s.g
  h : OKF C C s.h
structure SS.NBS (s : SS) : Prop where
  f : NBF s.f
  g : NBF s.g
  h : NBF s.h
structure SGD (R C : Nat) (s : SS) : Prop where
  ok : s.OK R C
  nb : s.NBS
def SS.ok (R C : Nat) (s : SS) : Bool := (tb R C s.f).all noBad && (tb R R s.g).all noBad && (tb C C s.h).all noBad
section
variable {R C : Nat} {s : SS} {q : HS}
theorem SS.ok_iff (h : s.NBS) : s.ok R C = true ↔ s.OK R C := by
  unfold SS.ok
  rw [Bool.and_eq_true, Bool.and_eq_true, tb_all h.f, tb_all h.g, tb_all h.h]
  exact ⟨fun h => ⟨h.1.1, h.1.2, h.2⟩, fun h => ⟨⟨h.f, h.g⟩, h.h⟩⟩
theorem SS.ok_no (h : s.NBS) (h2 : ¬ s.OK R C) : s.ok R C = false := by
  rw [← Bool.not_eq_true, SS.ok_iff h]; exact h2
theorem SS.NBS.row (h : s.NBS) : s.row.NBS := ⟨h.f, h.g⟩
theorem SS.NBS.col (h : s.NBS) : s.col.NBS := ⟨tp_nb h.f, tp_nb h.h⟩
theorem SS.NBS.wr (h : s.NBS) (hq : q.NBS) : (s.wr q).NBS := ⟨hq.f, hq.g, h.h⟩
theorem SS.NBS.wc (h : s.NBS) (hq : q.NBS) : (s.wc q).NBS := ⟨tp_nb hq.f, h.g, tp_nb hq.g⟩
theorem SS.OK.row (h : s.OK R C) : s.row.OK R C := ⟨h.f, h.g⟩
theorem SS.OK.col (h : s.OK R C) : s.col.OK C R := ⟨tp_ok h.f, tp_ok h.h⟩
theorem SS.OK.wr (h : s.OK R C) (hq : q.OK R C) : (s.wr q).OK R C := ⟨hq.f, hq.g, h.h⟩
theorem SS.OK.wc (h : s.OK R C) (hq : q.OK C R) : (s.wc q).OK R C := ⟨tp_ok hq.f, h.g, tp_ok hq.g⟩
theorem SS.OK.ofRow (h : (s.wr q).OK R C) : q.OK R C := ⟨h.f, h.g⟩
theorem SS.OK.ofCol (h : (s.wc q).OK R C) : q.OK C R := ⟨tp_ok h.f, tp_ok h.h⟩
theorem SGD.row (h : SGD R C s) : GD R C s.row := ⟨h.ok.row, h.nb.row⟩
theorem SGD.col (h : SGD R C s) : GD C R s.col := ⟨h.ok.col, h.nb.col⟩
theorem SGD.wr (h : SGD R C s) (hq : GD R C q) : SGD R C (s.wr q) := ⟨h.ok.wr hq.ok, h.nb.wr hq.nb⟩
theorem SGD.wc (h : SGD R C s) (hq : GD C R q) : SGD R C (s.wc q) := ⟨h.ok.wc hq.ok, h.nb.wc hq.nb⟩
end
-- the least absolute value that is not 0, from (t, t) on
def lsI (f : Fn2) (i t : Nat) (st : Int × Int) : Nat → Int × Int
  | 0 => st
  | n + 1 => if f i (t + n) ≠ 0 ∧ ((lsI f i t st n).1 < 0 ∨ (f i (t + n)).natAbs < (f (lsI f i t st n).1.toNat (lsI f i t st n).2.toNat).natAbs) then (((i : Nat) : Int), ((t + n : Nat) : Int)) else lsI f i t st n
def lsO (f : Fn2) (t D : Nat) : Nat → Int × Int
  | 0 => (-1, -1)
  | m + 1 => lsI f (t + m) t (lsO f t D m) D
def ls2 (R C : Nat) (f : Fn2) (t : Nat) : Int × Int := lsO f t (C - t) (R - t)
theorem lsI_succ (f : Fn2) (i t : Nat) (st : Int × Int) (n : Nat) : lsI f i t st (n + 1) = if f i (t + n) ≠ 0 ∧ ((lsI f i t st n).1 < 0 ∨ (f i (t + n)).natAbs < (f (lsI f i t st n).1.toNat (lsI f i t st n).2.toNat).natAbs) then (((i : Nat) : Int), ((t + n : Nat) : Int)) else lsI f i t st n := rfl
/-- What a search knows of the places that it has seen. -/
def LSP (f : Fn2) (t : Nat) (V : Nat → Nat → Prop) (st : Int × Int) : Prop :=
  (st = (-1, -1) ∧ ∀ i j, V i j → f i j = 0) ∨ ∃ p q : Nat, st = ((p : Int), (q : Int)) ∧ V p q ∧ f p q ≠ 0 ∧ (∀ i j, V i j → f i j ≠ 0 → (f p q).natAbs ≤ (f i j).natAbs) ∧ (V t t → f t t ≠ 0 → ¬ (p = t ∧ q = t) → (f p q).natAbs < (f t t).natAbs)
theorem LSP.step {f : Fn2} {t : Nat} {V V' : Nat → Nat → Prop} {st : Int × Int} {i j : Nat} (h : LSP f t V st) (hV : ∀ a b, V' a b ↔ V a b ∨ (a = i ∧ b = j)) (h0 : i = t → j = t → ∀ a b, ¬ V a b) :
    LSP f t V' (if f i j ≠ 0 ∧ (st.1 < 0 ∨ (f i j).natAbs < (f st.1.toNat st.2.toNat).natAbs) then (((i : Nat) : Int), ((j : Nat) : Int)) else st) := by
  rcases h with ⟨rfl, h1⟩ | ⟨p, q, rfl, h1, h2, h3, h4⟩
  · by_cases hz : f i j = 0
    · rw [if_neg (by simp [hz])]
      refine .inl ⟨rfl, fun a b hab => ?_⟩
      rcases (hV a b).1 hab with h | ⟨rfl, rfl⟩
      · exact h1 a b h
      · exact hz
    · rw [if_pos ⟨hz, .inl (by decide)⟩]
      refine .inr ⟨i, j, rfl, (hV i j).2 (.inr ⟨rfl, rfl⟩), hz, fun a b hab hne => ?_, fun ht htz hne => ?_⟩
      · rcases (hV a b).1 hab with h | ⟨rfl, rfl⟩
        · exact absurd (h1 a b h) hne
        · exact Nat.le_refl _
      · rcases (hV t t).1 ht with h | ⟨h5, h6⟩
        · exact absurd (h1 t t h) htz
        · exact absurd ⟨h5.symm, h6.symm⟩ hne
  · simp only [Int.toNat_natCast]
    by_cases hc : f i j ≠ 0 ∧ ((p : Int) < 0 ∨ (f i j).natAbs < (f p q).natAbs)
    · rw [if_pos hc]
      have hlt : (f i j).natAbs < (f p q).natAbs := hc.2.resolve_left (by omega)
      refine .inr ⟨i, j, rfl, (hV i j).2 (.inr ⟨rfl, rfl⟩), hc.1, fun a b hab hne => ?_, fun ht htz hne => ?_⟩
      · rcases (hV a b).1 hab with h | ⟨rfl, rfl⟩
        · exact Nat.le_trans (Nat.le_of_lt hlt) (h3 a b h hne)
        · exact Nat.le_refl _
      · rcases (hV t t).1 ht with h | ⟨h5, h6⟩
        · exact Nat.lt_of_lt_of_le hlt (h3 t t h htz)
        · exact absurd ⟨h5.symm, h6.symm⟩ hne
    · rw [if_neg hc]
      refine .inr ⟨p, q, rfl, (hV p q).2 (.inl h1), h2, fun a b hab hne => ?_, fun ht htz hne => ?_⟩
      · rcases (hV a b).1 hab with h | ⟨rfl, rfl⟩
        · exact h3 a b h hne
        · exact Nat.le_of_not_lt fun hlt => hc ⟨hne, .inr hlt⟩
      · rcases (hV t t).1 ht with h | ⟨h5, h6⟩
        · exact h4 h htz hne
        · exact absurd h1 (h0 h5.symm h6.symm p q)
theorem LSP.as {f : Fn2} {t : Nat} {V V' : Nat → Nat → Prop} {st : Int × Int} (h : LSP f t V st) (hV : ∀ a b, V' a b ↔ V a b) : LSP f t V' st := by
  have e : V' = V := funext fun a => funext fun b => propext (hV a b)
  rw [e]; exact h
theorem lsI_P {f : Fn2} {t D i : Nat} {st : Int × Int} (hi : t ≤ i) (h : LSP f t (fun a b => t ≤ a ∧ a < i ∧ t ≤ b ∧ b < t + D) st) :
    ∀ n, n ≤ D → LSP f t (fun a b => t ≤ a ∧ t ≤ b ∧ b < t + D ∧ (a < i ∨ a = i ∧ b < t + n)) (lsI f i t st n)
  | 0, _ => h.as fun a b => by omega
  | n + 1, hn => by
    rw [lsI_succ]
    refine LSP.step (lsI_P hi h n (by omega)) (fun a b => by omega) (fun h1 h2 a b => by omega)
theorem lsO_P (f : Fn2) (t D : Nat) : ∀ m, LSP f t (fun a b => t ≤ a ∧ a < t + m ∧ t ≤ b ∧ b < t + D) (lsO f t D m)
  | 0 => .inl ⟨rfl, fun i j h => by omega⟩
  | m + 1 => (lsI_P (by omega) (lsO_P f t D m) D (Nat.le_refl _)).as fun a b => by omega
theorem ls2_P (R C : Nat) (f : Fn2) (t : Nat) : LSP f t (fun a b => t ≤ a ∧ a < R ∧ t ≤ b ∧ b < C) (ls2 R C f t) :=
  (lsO_P f t (C - t) (R - t)).as fun a b => by omega
/-- The first of the search. -/
theorem ls2_cases (R C : Nat) (f : Fn2) (t : Nat) : (ls2 R C f t = (-1, -1) ∧ ∀ i j, t ≤ i → i < R → t ≤ j → j < C → f i j = 0) ∨
    ∃ p q : Nat, ls2 R C f t = ((p : Int), (q : Int)) ∧ (t ≤ p ∧ p < R ∧ t ≤ q ∧ q < C) ∧ f p q ≠ 0 ∧ (∀ i j, t ≤ i → i < R → t ≤ j → j < C → f i j ≠ 0 → (f p q).natAbs ≤ (f i j).natAbs) ∧ (t < R → t < C → f t t ≠ 0 → ¬ (p = t ∧ q = t) → (f p q).natAbs < (f t t).natAbs) := by
  rcases ls2_P R C f t with ⟨h1, h2⟩ | ⟨p, q, h1, h2, h3, h4, h5⟩
  · exact .inl ⟨h1, fun i j a b c d => h2 i j ⟨a, b, c, d⟩⟩
  · exact .inr ⟨p, q, h1, h2, h3, fun i j a b c d => h4 i j ⟨a, b, c, d⟩, fun a b => h5 ⟨Nat.le_refl _, a, Nat.le_refl _, b⟩⟩
theorem ls2_some {R C : Nat} {f : Fn2} {t i j : Nat} (h1 : t ≤ i) (h2 : i < R) (h3 : t ≤ j) (h4 : j < C) (hne : f i j ≠ 0) :
    ∃ p q : Nat, ls2 R C f t = ((p : Int), (q : Int)) ∧ (t ≤ p ∧ p < R ∧ t ≤ q ∧ q < C) ∧ f p q ≠ 0 ∧ (f p q).natAbs ≤ (f i j).natAbs := by
  rcases ls2_cases R C f t with ⟨_, h⟩ | ⟨p, q, a, b, c, d, e⟩
  · exact absurd (h i j h1 h2 h3 h4) hne
  · exact ⟨p, q, a, b, c, d i j h1 h2 h3 h4 hne⟩
-- a round
def sfA1 (t r : Nat) (s : SS) : SS := if r = t then s else s.wr (s.row.swap r t)
def sfA2 (t c : Nat) (s : SS) : SS := if c = t then s else s.wc (s.col.swap c t)
def sfB (R t : Nat) (s : SS) : SS := s.wr (swS t t t s.row (R - t))
def sfC (C t : Nat) (s : SS) : SS := s.wc (swS t t t s.col (C - t))
def clnS (R C t : Nat) (f : Fn2) : Bool := !(oth R f t t t) && !(oth C (tp f) t t t)
def fdR (f : Fn2) (t C i : Nat) : Bool := (List.range (C - (t + 1))).any fun n => decide (f i (t + 1 + n) ≠ bad) && decide ((f i (t + 1 + n)).tmod (f t t) ≠ 0)
def fdS (f : Fn2) (t C : Nat) (i : Nat) : Nat → Option Nat
  | 0 => none
  | m + 1 => if fdR f t C i then some i else fdS f t C (i + 1) m
def fd (R C t : Nat) (f : Fn2) : Option Nat := fdS f t C (t + 1) (R - (t + 1))
def sfD (R C t : Nat) (s : SS) : SS × Bool := if clnS R C t s.f then (match fd R C t s.f with | some i => (s.wr (s.row.add t i 1), false) | none => (s, true)) else (s, false)
def sfA (R C t : Nat) (s : SS) : SS := sfA2 t (ls2 R C s.f t).2.toNat (sfA1 t (ls2 R C s.f t).1.toNat s)
def rnd (R C t : Nat) (s : SS) : SS × Bool := sfD R C t (sfC C t (sfB R t (sfA R C t s)))
theorem fdR_iff {f : Fn2} {t C i : Nat} : fdR f t C i = true ↔ ∃ j, t < j ∧ j < C ∧ f i j ≠ bad ∧ (f i j).tmod (f t t) ≠ 0 := by
  unfold fdR
  rw [List.any_eq_true]
  constructor
  · rintro ⟨n, hn, h⟩
    have hn' := List.mem_range.1 hn
    rw [Bool.and_eq_true, decide_eq_true_eq, decide_eq_true_eq] at h
    exact ⟨t + 1 + n, by omega, by omega, h.1, h.2⟩
  · rintro ⟨j, h1, h2, h3, h4⟩
    refine ⟨j - (t + 1), List.mem_range.2 (by omega), ?_⟩
    rw [show t + 1 + (j - (t + 1)) = j by omega, Bool.and_eq_true, decide_eq_true_eq, decide_eq_true_eq]
    exact ⟨h3, h4⟩
theorem fdR_no {f : Fn2} {t C i : Nat} (h : ∀ j, t < j → j < C → ¬ (f i j ≠ bad ∧ (f i j).tmod (f t t) ≠ 0)) : fdR f t C i = false := by
  refine Bool.eq_false_iff.2 fun hc => ?_
  obtain ⟨j, h1, h2, h3⟩ := fdR_iff.1 hc
  exact h j h1 h2 h3
theorem fdS_yes {f : Fn2} {t C i m : Nat} (h : fdR f t C i = true) : fdS f t C i (m + 1) = some i := by
  show (if _ then _ else _) = _
  rw [if_pos h]
theorem fdS_no {f : Fn2} {t C i m : Nat} (h : fdR f t C i = false) : fdS f t C i (m + 1) = fdS f t C (i + 1) m := by
  show (if _ then _ else _) = _
  rw [if_neg (by rw [h]; exact Bool.false_ne_true)]
theorem fdS_some {f : Fn2} {t C k : Nat} : ∀ m i, fdS f t C i m = some k → i ≤ k ∧ k < i + m ∧ fdR f t C k = true
  | 0, i, h => by cases h
  | m + 1, i, h => by
    rcases hr : fdR f t C i with _ | _
    · rw [fdS_no hr] at h
      obtain ⟨a, b, c⟩ := fdS_some m (i + 1) h
      exact ⟨by omega, by omega, c⟩
    · rw [fdS_yes hr] at h
      cases h
      exact ⟨Nat.le_refl _, by omega, hr⟩
theorem fd_some {R C t k : Nat} {f : Fn2} (h : fd R C t f = some k) : t < k ∧ k < R ∧ fdR f t C k = true := by
  obtain ⟨a, b, c⟩ := fdS_some _ _ h
  exact ⟨by omega, by omega, c⟩
section
variable {R C t : Nat} {s : SS}
theorem SGD.a1 {r : Nat} (h : SGD R C s) (hr : r < R) (ht : t < R) : SGD R C (sfA1 t r s) := by
  unfold sfA1
  split
  · exact h
  · exact h.wr (h.row.swap hr ht)
theorem SGD.a2 {c : Nat} (h : SGD R C s) (hc : c < C) (ht : t < C) : SGD R C (sfA2 t c s) := by
  unfold sfA2
  split
  · exact h
  · exact h.wc (h.col.swap hc ht)
theorem sfA_piv (r c : Nat) (s : SS) : (sfA2 t c (sfA1 t r s)).f t t = s.f r c := by
  have h1 : ∀ y, (sfA1 t r s).f t y = s.f r y := fun y => by
    unfold sfA1
    split
    · rename_i h; rw [h]
    · exact swF_t s.f r t y
  have h2 : (sfA2 t c (sfA1 t r s)).f t t = (sfA1 t r s).f t c := by
    unfold sfA2
    split
    · rename_i h; rw [h]
    · exact swF_t (tp (sfA1 t r s).f) c t t
  rw [h2, h1]
theorem sfA_same (s : SS) : sfA2 t t (sfA1 t t s) = s := by
  unfold sfA1 sfA2
  rw [if_pos rfl, if_pos rfl]
theorem sfB_nb (h : s.NBS) : (sfB R t s).NBS := h.wr (swS_nb h.row _)
theorem sfC_nb (h : s.NBS) : (sfC C t s).NBS := h.wc (swS_nb h.col _)
theorem sfD_nb (h : s.NBS) : (sfD R C t s).1.NBS := by
  unfold sfD
  split
  · split
    · exact h.wr (h.row.add _ _ _)
    · exact h
  · exact h
theorem sfB_back (h : s.NBS) (hk : (sfB R t s).OK R C) : s.OK R C := by
  have h1 := swS_back' (R := R) (C := C) h.row 0 (R - t) (by rw [Nat.zero_add]; exact hk.ofRow)
  exact ⟨h1.f, h1.g, hk.h⟩
theorem sfC_back (h : s.NBS) (hk : (sfC C t s).OK R C) : s.OK R C := by
  have h1 := swS_back' (R := C) (C := R) h.col 0 (C - t) (by rw [Nat.zero_add]; exact hk.ofCol)
  exact ⟨tp_ok h1.f, hk.g, tp_ok h1.g⟩
theorem sfD_back (h : s.NBS) (hk : (sfD R C t s).1.OK R C) : s.OK R C := by
  unfold sfD at hk
  split at hk
  · split at hk
    · have h1 := HS.OK.back h.row hk.ofRow
      exact ⟨h1.f, h1.g, hk.h⟩
    · exact hk
  · exact hk
theorem rnd_back (h : (sfA R C t s).NBS) (hk : (rnd R C t s).1.OK R C) : (sfB R t (sfA R C t s)).OK R C ∧ (sfC C t (sfB R t (sfA R C t s))).OK R C := by
  have h1 := sfD_back (sfC_nb (sfB_nb h)) hk
  exact ⟨sfC_back (sfB_nb h) h1, h1⟩
end
-- rounds till nothing is left
def lsV (R C t : Nat) (s : SS) : Nat := (s.f (ls2 R C s.f t).1.toNat (ls2 R C s.f t).2.toNat).natAbs
def flg (R C t : Nat) (s : SS) : Nat := if (s.f t t).natAbs = lsV R C t s ∧ fdR s.f t C t = true then 0 else 1
def sfMs (R C t : Nat) (s : SS) : Nat := 2 * lsV R C t s + flg R C t s
theorem flg_le (R C t : Nat) (s : SS) : flg R C t s ≤ 1 := by unfold flg; split <;> omega
theorem lsV_le {R C t i j : Nat} {s : SS} (h1 : t ≤ i) (h2 : i < R) (h3 : t ≤ j) (h4 : j < C) (hne : s.f i j ≠ 0) : lsV R C t s ≤ (s.f i j).natAbs := by
  obtain ⟨p, q, e, _, _, h⟩ := ls2_some h1 h2 h3 h4 hne
  unfold lsV
  rw [e]
  exact h
theorem tmodz_iff {a b : Int} : a.tmod b = 0 ↔ a % b = 0 := by
  rw [← Int.dvd_iff_tmod_eq_zero, ← Int.dvd_iff_emod_eq_zero]
theorem rnd_facts {R C t : Nat} {s1 : SS} (h : s1.NBS) (ht : t < R) (htC : t < C) (hP : s1.f t t ≠ 0) (hB : (sfB R t s1).OK R C) (hC : (sfC C t (sfB R t s1)).OK R C) :
    (sfC C t (sfB R t s1)).f t t = s1.f t t ∧ (∀ x, t < x → x < R → (sfC C t (sfB R t s1)).f x t = s1.f x t % s1.f t t) ∧ (∀ y, t < y → y < C → (sfC C t (sfB R t s1)).f t y = s1.f t y % s1.f t t) := by
  have b1 : ∀ y, (sfB R t s1).f t y = s1.f t y := fun y => swS_p (j := t) (p := t) (t := t) (s := s1.row) y (R - t)
  have b2 : ∀ x, t < x → x < R → (sfB R t s1).f x t = s1.f x t % s1.f t t := fun x h1 h2 => swS_col h.row htC ht hP (R - t) (by omega) hB.ofRow x (by omega) (by omega) (by omega)
  have c1 : ∀ x, (sfC C t (sfB R t s1)).f x t = (sfB R t s1).f x t := fun x => swS_p (j := t) (p := t) (t := t) (s := (sfB R t s1).col) x (C - t)
  have hP2 : (sfB R t s1).f t t ≠ 0 := by rw [b1]; exact hP
  have c2 : ∀ y, t < y → y < C → (sfC C t (sfB R t s1)).f t y = (sfB R t s1).f t y % (sfB R t s1).f t t := fun y h1 h2 => swS_col (sfB_nb h).col ht htC hP2 (C - t) (by omega) hC.ofCol y (by omega) (by omega) (by omega)
  refine ⟨by rw [c1, b1], fun x h1 h2 => by rw [c1, b2 x h1 h2], fun y h1 h2 => by rw [c2 y h1 h2, b1, b1]⟩
theorem emod_small {a b : Int} (hb : b ≠ 0) : (a % b).natAbs < b.natAbs := by
  have h5 := Int.emod_nonneg a hb
  have h6 := Int.emod_lt a hb
  omega
theorem clnS_no {R C t : Nat} {f : Fn2} (h : clnS R C t f = false) : (∃ x, t < x ∧ x < R ∧ f x t ≠ 0) ∨ ∃ y, t < y ∧ y < C ∧ f t y ≠ 0 := by
  unfold clnS at h
  rcases h1 : oth R f t t t with _ | _
  · rw [h1] at h
    have h2 : oth C (tp f) t t t = true := by simpa using h
    obtain ⟨i, a, b, c, d⟩ := oth_iff.1 h2
    exact .inr ⟨i, by omega, b, d⟩
  · obtain ⟨i, a, b, c, d⟩ := oth_iff.1 h1
    exact .inl ⟨i, by omega, b, d⟩
theorem clnS_yes {R C t : Nat} {f : Fn2} (h : clnS R C t f = true) : (∀ x, t < x → x < R → f x t = 0) ∧ ∀ y, t < y → y < C → f t y = 0 := by
  unfold clnS at h
  rw [Bool.and_eq_true, Bool.not_eq_true', Bool.not_eq_true'] at h
  refine ⟨fun x h1 h2 => ?_, fun y h1 h2 => ?_⟩
  · refine Decidable.byContradiction fun hne => ?_
    have := oth_iff.2 (show ∃ i, t ≤ i ∧ i < R ∧ i ≠ t ∧ f i t ≠ 0 from ⟨x, by omega, h2, by omega, hne⟩)
    rw [h.1] at this; cases this
  · refine Decidable.byContradiction fun hne => ?_
    have := oth_iff.2 (show ∃ i, t ≤ i ∧ i < C ∧ i ≠ t ∧ (tp f) i t ≠ 0 from ⟨y, by omega, h2, by omega, hne⟩)
    rw [h.2] at this; cases this
theorem rnd_lt {R C t p q : Nat} {s : SS} (h : SGD R C s) (ht : t < R) (htC : t < C) (e : ls2 R C s.f t = ((p : Int), (q : Int))) (hpR : p < R) (hqC : q < C) (hpq : s.f p q ≠ 0) (hfirst : s.f t t ≠ 0 → ¬ (p = t ∧ q = t) → (s.f p q).natAbs < (s.f t t).natAbs)
    (hk : (rnd R C t s).1.OK R C) (hd : (rnd R C t s).2 = false) : sfMs R C t (rnd R C t s).1 < sfMs R C t s ∧ (rnd R C t s).1.f t t ≠ 0 := by
  have eA : sfA R C t s = sfA2 t q (sfA1 t p s) := by unfold sfA; rw [e]; rfl
  have hA : SGD R C (sfA R C t s) := by rw [eA]; exact (h.a1 hpR ht).a2 hqC htC
  have hpiv : (sfA R C t s).f t t = s.f p q := by rw [eA]; exact sfA_piv p q s
  obtain ⟨hB, hC⟩ := rnd_back hA.nb hk
  have hP : (sfA R C t s).f t t ≠ 0 := by rw [hpiv]; exact hpq
  obtain ⟨f1, f2, f3⟩ := rnd_facts hA.nb ht htC hP hB hC
  have hV : lsV R C t s = (s.f p q).natAbs := by unfold lsV; rw [e]; rfl
  have hnbC : (sfC C t (sfB R t (sfA R C t s))).NBS := sfC_nb (sfB_nb hA.nb)
  unfold rnd at hk hd ⊢
  generalize e2 : sfC C t (sfB R t (sfA R C t s)) = s2 at *
  rw [hpiv] at f1 f2 f3
  have fl2 := flg_le R C t s2
  unfold sfD at hk hd ⊢
  rcases hcl : clnS R C t s2.f with _ | _
  · rw [if_neg Bool.false_ne_true]
    refine ⟨?_, by show s2.f t t ≠ 0; rw [f1]; exact hpq⟩
    have hlt : lsV R C t s2 < (s.f p q).natAbs := by
      rcases clnS_no hcl with ⟨x, h1, h2, h3⟩ | ⟨y, h1, h2, h3⟩
      · have h4 := lsV_le (s := s2) (R := R) (C := C) (t := t) (by omega) h2 (Nat.le_refl _) htC h3
        have h5 := emod_small (a := (sfA R C t s).f x t) hpq
        rw [← f2 x h1 h2] at h5
        omega
      · have h4 := lsV_le (s := s2) (R := R) (C := C) (t := t) (Nat.le_refl _) ht (by omega) h2 h3
        have h5 := emod_small (a := (sfA R C t s).f t y) hpq
        rw [← f3 y h1 h2] at h5
        omega
    unfold sfMs
    show 2 * lsV R C t s2 + flg R C t s2 < _
    omega
  · rw [if_pos hcl] at hk hd
    rw [if_pos rfl]
    rcases hf : fd R C t s2.f with _ | i
    · rw [hf] at hd; cases hd
    · rw [hf] at hk
      obtain ⟨z1, z2⟩ := clnS_yes hcl
      obtain ⟨i1, i2, i3⟩ := fd_some hf
      obtain ⟨y0, y1, y2, y3, y4⟩ := fdR_iff.1 i3
      have hk2 : OKF R C (opA s2.f t i 1) := hk.f
      have hval : ∀ y, y < C → opA s2.f t i 1 t y = s2.f t y + s2.f i y := fun y hy => by
        obtain ⟨_, _, a, _⟩ := opA_num (hk2 t y ht hy)
        rw [a, Int.mul_one]
      have v1 : opA s2.f t i 1 t t = s.f p q := by rw [hval t htC, z1 i i1 i2, f1, Int.add_zero]
      have v2 : opA s2.f t i 1 t y0 = s2.f i y0 := by rw [hval y0 y2, z2 y0 y1 y2, Int.zero_add]
      have v3 : (opA s2.f t i 1 t y0).tmod (opA s2.f t i 1 t t) ≠ 0 := by rw [v1, v2, ← f1]; exact y4
      have hnz : opA s2.f t i 1 t t ≠ 0 := by rw [v1]; exact hpq
      refine ⟨?_, hnz⟩
      have h4 := lsV_le (s := s2.wr (s2.row.add t i 1)) (R := R) (C := C) (t := t) (Nat.le_refl _) ht (Nat.le_refl _) htC hnz
      have h5 : ((s2.wr (s2.row.add t i 1)).f t t).natAbs = (s.f p q).natAbs := by rw [← v1]; rfl
      have h6 := flg_le R C t (s2.wr (s2.row.add t i 1))
      show sfMs R C t (s2.wr (s2.row.add t i 1)) < _
      unfold sfMs
      rw [hV]
      by_cases hlt : lsV R C t (s2.wr (s2.row.add t i 1)) < (s.f p q).natAbs
      · omega
      · have hE : lsV R C t (s2.wr (s2.row.add t i 1)) = (s.f p q).natAbs := by omega
        have hf0 : flg R C t (s2.wr (s2.row.add t i 1)) = 0 := by
          unfold flg
          rw [if_pos ⟨by rw [hE, h5], fdR_iff.2 ⟨y0, y1, y2, (hk2 t y0 ht y2).ne, v3⟩⟩]
        have hf1 : flg R C t s = 1 := by
          unfold flg
          rw [if_neg]
          rintro ⟨g1, g2⟩
          rw [hV] at g1
          have htz : s.f t t ≠ 0 := by intro h0; rw [h0] at g1; simp at g1; omega
          have hpt : p = t ∧ q = t := Decidable.byContradiction fun hc => by have := hfirst htz hc; omega
          have eS : sfA R C t s = s := by rw [eA, hpt.1, hpt.2]; exact sfA_same s
          obtain ⟨y, k1, k2, k3, k4⟩ := fdR_iff.1 g2
          have := f3 y k1 k2
          rw [z2 y k1 k2, eS, hpt.1, hpt.2] at this
          exact k4 (tmodz_iff.2 this.symm)
        omega
/-- Rounds till nothing is left at (t, t). -/
def sfIn (R C t : Nat) (s : SS) : Option SS :=
  if (rnd R C t s).1.ok R C then
    if (rnd R C t s).2 then some (rnd R C t s).1
    else if h : sfMs R C t (rnd R C t s).1 < sfMs R C t s then sfIn R C t (rnd R C t s).1 else none
  else none
termination_by sfMs R C t s
theorem sfIn_bad {R C t : Nat} {s : SS} (h : (rnd R C t s).1.ok R C = false) : sfIn R C t s = none := by
  rw [sfIn, if_neg (by rw [h]; exact Bool.false_ne_true)]
theorem sfIn_done {R C t : Nat} {s : SS} (h : (rnd R C t s).1.ok R C = true) (h2 : (rnd R C t s).2 = true) : sfIn R C t s = some (rnd R C t s).1 := by
  rw [sfIn, if_pos h, if_pos h2]
theorem sfIn_next {R C t : Nat} {s : SS} (h : (rnd R C t s).1.ok R C = true) (h2 : (rnd R C t s).2 = false) (h3 : sfMs R C t (rnd R C t s).1 < sfMs R C t s) : sfIn R C t s = sfIn R C t (rnd R C t s).1 := by
  conv => lhs; rw [sfIn]
  rw [if_pos h, if_neg (by rw [h2]; exact Bool.false_ne_true), dif_pos h3]
def sfN (t : Nat) (s : SS) : SS := if s.f t t < 0 then s.wr (s.row.neg t) else s
theorem SGD.n {R C t : Nat} {s : SS} (h : SGD R C s) (ht : t < R) : SGD R C (sfN t s) := by
  unfold sfN
  split
  · exact h.wr (h.row.neg ht)
  · exact h
def sfOut (R C : Nat) : Nat → Nat → SS → Option SS
  | 0, _, s => some s
  | m + 1, t, s => if (ls2 R C s.f t).1 < 0 then some s else (sfIn R C t s).bind fun s' => sfOut R C m (t + 1) (sfN t s')
def sfGo (R C m t : Nat) (o : Option SS) : Option SS := o.bind fun s' => sfOut R C m (t + 1) (sfN t s')
theorem sfOut_zero (R C t : Nat) (s : SS) : sfOut R C 0 t s = some s := rfl
theorem sfOut_stop {R C m t : Nat} {s : SS} (h : (ls2 R C s.f t).1 < 0) : sfOut R C (m + 1) t s = some s := by
  show (if _ then _ else _) = _
  rw [if_pos h]
theorem sfOut_go {R C m t : Nat} {s : SS} (h : ¬ (ls2 R C s.f t).1 < 0) : sfOut R C (m + 1) t s = sfGo R C m t (sfIn R C t s) := by
  show (if _ then _ else _) = _
  rw [if_neg h]
  rfl
def sfRun (R C : Nat) (f : Fn2) : Option SS := sfOut R C (min R C) 0 ⟨f, idF, idF⟩
def sfX (r c : Int) (xs : List Int) : Option SS := if isMat r c xs then sfRun r.toNat c.toNat (fun i j => cel xs c i j) else none
theorem sfX_no {r c : Int} {xs : List Int} (h : isMat r c xs = false) : sfX r c xs = none := by unfold sfX; rw [h]; rfl
theorem sfX_yes {R C : Nat} {xs : List Int} (h : isMat R C xs = true) : sfX R C xs = sfOut R C (min R C) 0 ⟨fun i j => cel xs C i j, idF, idF⟩ := by unfold sfX; rw [h]; rfl
end Go.Proofs.Ytmcbhpaajjlmmaa

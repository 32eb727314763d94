/-
  DERIVED. Several small texts in one: Law2, Elem, Smt, PlainO, PlLin, MkR, HmT.
-/
import Derived.Test.YtmcbhpaajjlmmaaImgq
import Derived.Test.YtmcbhpaajjlmmaaZ2
import Derived.Test.YtmcbhpaajjlmmaaMatOpsq
import Derived.Test.YtmcbhpaajjlmmaaPlainNq
import Derived.Test.YtmcbhpaajjlmmaaRatOq
/-
  DERIVED. The contracts of the laws FnExactSymmetricOf, FnExactIsImage.
-/
namespace Go.Proofs.Ytmcbhpaajjlmmaa
open Go.RowKit
set_option linter.unusedVariables false
end Go.Proofs.Ytmcbhpaajjlmmaa

/-
  DERIVED. at and set on a table of the call's own.
-/
namespace Go.Proofs.Ytmcbhpaajjlmmaa
open Go.RowKit
set_option linter.unusedVariables false
theorem impl_at_tb (R C i j : Nat) (A : Option Addr) (n cap : Nat) (F : Nat → Nat → Int) (v : Int) (hv : F i j = v) (w : World) {B : Nat} (h : OR w B (.slice A n cap) (tb R C F)) (hR : R ≤ 48) (hC : C ≤ 48) (hi : i < R) (hj : j < C) :
    Calls Try.prog 102 #[.agg #[.int .i64 R, .int .i64 C, .slice A n cap], .int .i64 i, .int .i64 j] w (BV (.int .i64 v) w) := by
  have hn := h.lenEq
  rw [tb_len] at hn
  have h1 := idx_nat hi hj
  have h2 : i * C ≤ 48 * 48 := Nat.mul_le_mul (by omega) hC
  have e1 : (i : Int) * (C : Int) = ((i * C : Nat) : Int) := by rw [Int.natCast_mul]
  have := impl_at R C i j A n cap (tb R C F) w h.reads (Nat.le_refl _) ⟨by omega, by omega⟩ ⟨by omega, by omega⟩ (by omega)
  rw [cel_tb hi hj, hv] at this
  exact this
theorem impl_set_tb (R C i j : Nat) (v : Int) (A : Option Addr) (n cap : Nat) (F F' : Nat → Nat → Int) (hF : upd F i j v = F') (w : World) {B : Nat} (h : OR w B (.slice A n cap) (tb R C F)) (hR : R ≤ 48) (hC : C ≤ 48) (hi : i < R) (hj : j < C) :
    Calls Try.prog 103 #[.agg #[.int .i64 R, .int .i64 C, .slice A n cap], .int .i64 i, .int .i64 j, .int .i64 v] w (WU (.slice A n cap) B (tb R C F') w) := by
  have hn := h.lenEq
  rw [tb_len] at hn
  have h1 := idx_nat hi hj
  have h2 : i * C ≤ 48 * 48 := Nat.mul_le_mul (by omega) hC
  have e1 : (i : Int) * (C : Int) = ((i * C : Nat) : Int) := by rw [Int.natCast_mul]
  have := impl_set R C i j v A n cap (tb R C F) w h ⟨by omega, by omega⟩ ⟨by omega, by omega⟩ (by omega)
  rw [show ((i : Int) * (C : Int) + (j : Int)).toNat = i * C + j by omega, tb_set hi hj, hF] at this
  exact this
end Go.Proofs.Ytmcbhpaajjlmmaa

/-
  DERIVED. SameMatrix of the program.
-/
namespace Go.Proofs.Ytmcbhpaajjlmmaa
open Go.RowKit
set_option linter.unusedVariables false
set_option linter.unusedSimpArgs false
def smB (r c : Int) (xs : List Int) (r2 c2 : Int) (ys : List Int) : Bool := decide (r = r2) && decide (c = c2) && eqB xs ys
theorem smB_r {r c : Int} {xs : List Int} {r2 c2 : Int} {ys : List Int} (h : ¬ r = r2) : smB r c xs r2 c2 ys = false := by simp [smB, h]
theorem smB_c {r c : Int} {xs : List Int} {r2 c2 : Int} {ys : List Int} (h : ¬ c = c2) : smB r c xs r2 c2 ys = false := by simp [smB, h]
theorem smB_e {r c : Int} {xs ys : List Int} : smB r c xs r c ys = eqB xs ys := by simp [smB]
set_option maxRecDepth 100000 in
set_option maxHeartbeats 4000000 in
theorem impl_SameMatrix (r c r2 c2 : Int) (A A' : Option Addr) (n cap n' cap' : Nat) (xs ys : List Int) (w : World) {B B' : Nat} (h : RI w B A n xs) (h' : RI w B' A' n' ys) (hB : B ≤ w.heap.size) (hB' : B' ≤ w.heap.size) (hn : n ≤ 1048576) (hn' : n' ≤ 1048576) :
    Calls Try.prog 33 #[.agg #[.int .i64 r, .int .i64 c, .slice A n cap], .agg #[.int .i64 r2, .int .i64 c2, .slice A' n' cap']] w (BV (.bool (smB r c xs r2 c2 ys)) w) := by
  have H2 := Lib.hid (h.more hB)
  have H3 := Lib.hid (h'.more hB')
  clear h h'
  by_cases hr : r = r2
  · subst hr
    by_cases hc : c = c2
    · subst hc
      have HE := Lib.hid (smB_e (r := r) (c := c) (xs := xs) (ys := ys))
      go_enter Try.func33, Try.ntmps33
      go_wp2_with fail
      refine (slices_Equal A A' n n' cap cap' xs ys _ (C := w.heap.size) (C' := w.heap.size) (by (with_reducible (repeat (first | exact H2.out | refine RI.drew ?_ | refine RI.drewN ?_ _ | refine RI.a_ ?_ | refine RI.s_ ?_ | refine RI.b_ ?_)))) (by (with_reducible (repeat (first | exact H3.out | refine RI.drew ?_ | refine RI.drewN ?_ _ | refine RI.a_ ?_ | refine RI.s_ ?_ | refine RI.b_ ?_)))) (by omega) (by omega)).mono ?_
      rintro e w2 ⟨rfl, nd, rfl⟩
      go_wp2_with fail
      go_ret
      exact BV.mk (vbool (by rw [HE.out])) (by (repeat (first | (with_reducible (first | exact Below.refl _ _ | assumption | refine below_drewN ?_ _ | refine Below.drew ?_ | refine Below.alloc ?_ ?_ _ | refine Below.setCell ?_ ?_ _ | refine below_i ?_)) | go_size)))
    · have HE := Lib.hid (smB_c (r := r) (xs := xs) (r2 := r) (ys := ys) hc)
      have hb : (c == c2) = false := by simp [hc]
      clear hc
      go_enter Try.func33, Try.ntmps33
      go_wp2_with fail
      go_ret
      exact BV.mk (vbool (by rw [HE.out])) (by (repeat (first | (with_reducible (first | exact Below.refl _ _ | assumption | refine below_drewN ?_ _ | refine Below.drew ?_ | refine Below.alloc ?_ ?_ _ | refine Below.setCell ?_ ?_ _ | refine below_i ?_)) | go_size)))
  · have HE := Lib.hid (smB_r (c := c) (xs := xs) (c2 := c2) (ys := ys) hr)
    have hb : (r == r2) = false := by simp [hr]
    clear hr
    go_enter Try.func33, Try.ntmps33
    go_wp2_with fail
    go_ret
    exact BV.mk (vbool (by rw [HE.out])) (by (repeat (first | (with_reducible (first | exact Below.refl _ _ | assumption | refine below_drewN ?_ _ | refine Below.drew ?_ | refine Below.alloc ?_ ?_ _ | refine Below.setCell ?_ ?_ _ | refine below_i ?_)) | go_size)))
end Go.Proofs.Ytmcbhpaajjlmmaa

/-
  DERIVED. The Hermite form, what stays in a round: no program in sight.
-/
namespace Go.Proofs.Ytmcbhpaajjlmmaa
set_option linter.unusedVariables false
theorem opM_nb {f : Fn2} (h : NBF f) (i : Nat) : NBF (opM f i) := by
  intro x y
  unfold opM
  split
  · split
    · exact .inl rfl
    · rename_i h2; exact ((h i y).num h2).neg.nb
  · exact h x y
theorem opM_ok {f : Fn2} {R C : Nat} (h : OKF R C f) (i : Nat) (hi : i < R) : OKF R C (opM f i) := by
  intro x y hx hy
  unfold opM
  split
  · rw [if_neg (h i y hi hy).ne]; exact (h i y hi hy).neg
  · exact h x y hx hy
theorem opM_eq {f : Fn2} {R C : Nat} (h : OKF R C f) (i : Nat) (hi : i < R) : tb R C (opN f i) = tb R C (opM f i) := tb_ext fun x y hx hy => by
  unfold opN opM
  split
  · rw [if_neg (h i y hi hy).ne]
  · rfl
theorem opM_at {f : Fn2} {i y : Nat} (h : Num (f i y)) : opM f i i y = -f i y := by unfold opM; rw [if_pos rfl, if_neg h.ne]
theorem swF_nb {f : Fn2} (h : NBF f) (p t : Nat) : NBF (swF f p t) := fun x y => h _ _
theorem swF_ok {f : Fn2} {R C p t : Nat} (h : OKF R C f) (hp : p < R) (ht : t < R) : OKF R C (swF f p t) := by
  intro x y hx hy
  unfold swF
  refine h _ _ ?_ hy
  split
  · exact ht
  · split
    · exact hp
    · exact hx
/-- All numbers, and no mark that is none. -/
structure GD (R C : Nat) (s : HS) : Prop where
  ok : s.OK R C
  nb : s.NBS
theorem GD.swap {R C p t : Nat} {s : HS} (h : GD R C s) (hp : p < R) (ht : t < R) : GD R C (s.swap p t) :=
  ⟨⟨swF_ok h.ok.f hp ht, swF_ok h.ok.g hp ht⟩, ⟨swF_nb h.nb.f p t, swF_nb h.nb.g p t⟩⟩
theorem GD.neg {R C i : Nat} {s : HS} (h : GD R C s) (hi : i < R) : GD R C (s.neg i) :=
  ⟨⟨opM_ok h.ok.f i hi, opM_ok h.ok.g i hi⟩, ⟨opM_nb h.nb.f i, opM_nb h.nb.g i⟩⟩
theorem GD.s1 {R C p t : Nat} {s : HS} (h : GD R C s) (hp : p < R) (ht : t < R) : GD R C (hmS1 t p s) := by
  unfold hmS1
  split
  · exact h
  · exact h.swap hp ht
theorem GD.s2 {R C j t : Nat} {s : HS} (h : GD R C s) (ht : t < R) : GD R C (hmS2 j t s) := by
  unfold hmS2
  split
  · exact h.neg ht
  · exact h
theorem hmS1_piv (t p j : Nat) (s : HS) : (hmS1 t p s).f t j = s.f p j := by
  unfold hmS1
  split
  · rename_i h; rw [h]
  · exact swF_t s.f p t j
theorem hmS2_piv {t j : Nat} {s : HS} (h : Num (s.f t j)) (h0 : s.f t j ≠ 0) : (hmS2 j t s).f t j ≠ 0 := by
  unfold hmS2
  split
  · show opM s.f t t j ≠ 0
    rw [opM_at h]; omega
  · exact h0
theorem lst_cases (R : Nat) (f : Fn2) (j t : Nat) (ht : t ≤ R) : (lst R f j t = -1 ∧ ∀ i, t ≤ i → i < R → f i j = 0) ∨ ∃ p, lst R f j t = (p : Nat) ∧ t ≤ p ∧ p < R ∧ f p j ≠ 0 := by
  rcases lstK_cases f j t (R - t) with ⟨h1, h2⟩ | ⟨p, h1, h2, h3, h4, _⟩
  · refine .inl ⟨h1, fun i hi hR => ?_⟩
    have := h2 (i - t) (by omega)
    rwa [show t + (i - t) = i by omega] at this
  · exact .inr ⟨p, h1, h2, by omega, h4⟩
/-- A step of a sweep. -/
theorem sw_add {j p t n : Nat} {s : HS} (h1 : t + n ≠ p) (h2 : s.f (t + n) j ≠ 0) : swS j p t s (n + 1) = (swS j p t s n).add (t + n) p (-(s.f (t + n) j / s.f p j)) := by
  rw [swS_succ, swS_late j n (Nat.le_refl _), swS_p, if_pos ⟨h1, h2⟩]
theorem sw_skip {j p t n : Nat} {s : HS} (h : t + n = p ∨ s.f (t + n) j = 0) : swS j p t s (n + 1) = swS j p t s n := by
  rw [swS_succ, swS_late j n (Nat.le_refl _), if_neg]
  rintro ⟨h1, h2⟩
  rcases h with h | h
  · exact h1 h
  · exact h2 h
theorem sw_no {R C j p t n : Nat} {s : HS} (hn : s.NBS) (hk : n ≤ R - t) (h : ¬ (swS j p t s n).OK R C) : (swS j p t s (R - t)).ok R C = false := by
  refine Bool.eq_false_iff.2 fun hc => h ?_
  have h2 := (HS.ok_iff (swS_nb hn _)).1 hc
  rw [show R - t = n + (R - t - n) by omega] at h2
  exact swS_back' hn n _ h2
theorem sw_yes {R C j p t : Nat} {s : HS} (hn : s.NBS) (h : (swS j p t s (R - t)).OK R C) : (swS j p t s (R - t)).ok R C = true := (HS.ok_iff (swS_nb hn _)).2 h
theorem ab_add {j t n : Nat} {s : HS} (h : n < t) : abS j t s (n + 1) = (abS j t s n).add n t (-(s.f n j / s.f t j)) := by
  rw [abS_succ, abS_late j n (Nat.le_refl _), abS_late j n (by omega)]
theorem ab_no {R C j t p n : Nat} {s : HS} (hg : GD R C (hmS2 j t (hmS1 t p s))) (hk : n ≤ t) (h : ¬ (abS j t (hmS2 j t (hmS1 t p s)) n).OK R C) : hmFin R C j t p s = none := by
  unfold hmFin
  rw [if_neg]
  intro hc
  refine h ?_
  have h2 := (HS.ok_iff (abS_nb hg.nb _)).1 hc
  have h3 : (abS j t (hmS2 j t (hmS1 t p s)) (n + (t - n))).OK R C := by rw [show n + (t - n) = t by omega]; exact h2
  exact abS_back' hg.nb n _ h3
theorem ab_yes {R C j t p : Nat} {s : HS} (hg : GD R C (hmS2 j t (hmS1 t p s))) (h : (abS j t (hmS2 j t (hmS1 t p s)) t).OK R C) : hmFin R C j t p s = some (abS j t (hmS2 j t (hmS1 t p s)) t) := by
  unfold hmFin
  rw [if_pos ((HS.ok_iff (abS_nb hg.nb _)).2 h)]
theorem hmGo_some (R C m j t p : Nat) (s : HS) : hmGo R C m j t (some (s, p)) = (hmFin R C j t p s).bind fun s' => hmOut R C m (j + 1) (t + 1) s' := rfl
theorem hmGo_none (R C m j t : Nat) : hmGo R C m j t none = none := rfl
theorem hmGo_bad {R C m j t p : Nat} {s : HS} (h : hmFin R C j t p s = none) : hmGo R C m j t (some (s, p)) = none := by rw [hmGo_some, h]; rfl
theorem hmGo_next {R C m j t p : Nat} {s s' : HS} (h : hmFin R C j t p s = some s') : hmGo R C m j t (some (s, p)) = hmOut R C m (j + 1) (t + 1) s' := by rw [hmGo_some, h]; rfl
theorem Num.zero : Num 0 := ⟨by omega, by omega⟩
theorem Num.one : Num 1 := ⟨by omega, by omega⟩
theorem idF_num (i j : Nat) : Num (idF i j) := by
  unfold idF
  split
  · exact Num.one
  · exact Num.zero
theorem getD_num {xs : List Int} (h : xs.all isNum = true) (k : Nat) : Num (xs.getD k 0) := by
  rw [List.getD_eq_getElem?_getD]
  rcases hc : xs[k]? with _ | v
  · exact Num.zero
  · exact Num.of (List.all_eq_true.1 h v (List.mem_of_getElem? hc))
theorem start_gd {xs : List Int} {R C : Nat} (h : xs.all isNum = true) : GD R C ⟨fun i j => cel xs C i j, idF⟩ :=
  ⟨⟨fun i j _ _ => getD_num h _, fun i j _ _ => idF_num i j⟩, ⟨fun i j => (getD_num h _).nb, fun i j => (idF_num i j).nb⟩⟩
end Go.Proofs.Ytmcbhpaajjlmmaa

/-
  DERIVED. Sums and products of matrices as functions of row and column: no program in sight.
-/
namespace Go.Proofs.Ytmcbhpaajjlmmaa
set_option linter.unusedVariables false
theorem sumTo_succ (f : Nat → Int) (n : Nat) : sumTo f (n + 1) = sumTo f n + f n := rfl
theorem sumTo_zero' (f : Nat → Int) : sumTo f 0 = 0 := rfl
theorem sumTo_congr {f g : Nat → Int} : ∀ n, (∀ k, k < n → f k = g k) → sumTo f n = sumTo g n
  | 0, _ => rfl
  | n + 1, h => by rw [sumTo_succ, sumTo_succ, sumTo_congr n (fun k hk => h k (by omega)), h n (by omega)]
theorem sumTo_add (f g : Nat → Int) : ∀ n, sumTo (fun k => f k + g k) n = sumTo f n + sumTo g n
  | 0 => rfl
  | n + 1 => by rw [sumTo_succ, sumTo_succ, sumTo_succ, sumTo_add f g n]; omega
theorem sumTo_mul (f : Nat → Int) (t : Int) : ∀ n, sumTo (fun k => f k * t) n = sumTo f n * t
  | 0 => by rw [sumTo_zero', sumTo_zero', Int.zero_mul]
  | n + 1 => by rw [sumTo_succ, sumTo_succ, sumTo_mul f t n, Int.add_mul]
theorem sumTo_mul' (f : Nat → Int) (t : Int) (n : Nat) : sumTo (fun k => t * f k) n = t * sumTo f n := by
  rw [Int.mul_comm, ← sumTo_mul]
  exact sumTo_congr n fun k _ => Int.mul_comm _ _
theorem sumTo_neg (f : Nat → Int) : ∀ n, sumTo (fun k => -f k) n = -sumTo f n
  | 0 => rfl
  | n + 1 => by rw [sumTo_succ, sumTo_succ, sumTo_neg f n]; omega
theorem sumTo_sub (f g : Nat → Int) (n : Nat) : sumTo (fun k => f k - g k) n = sumTo f n - sumTo g n := by
  have h := sumTo_add f (fun k => -g k) n
  rw [sumTo_neg] at h
  rw [Int.sub_eq_add_neg, ← h]
  exact sumTo_congr n fun k _ => Int.sub_eq_add_neg
theorem sumTo_null {f : Nat → Int} (n : Nat) (h : ∀ k, k < n → f k = 0) : sumTo f n = 0 := by
  induction n with
  | zero => rfl
  | succ n ih => rw [sumTo_succ, ih (fun k hk => h k (by omega)), h n (by omega)]; rfl
/-- One summand only. -/
theorem sumTo_one {f : Nat → Int} {i : Nat} : ∀ n, i < n → (∀ k, k < n → k ≠ i → f k = 0) → sumTo f n = f i
  | 0, hi, _ => absurd hi (Nat.not_lt_zero _)
  | n + 1, hi, h => by
    rw [sumTo_succ]
    by_cases e : i = n
    · subst e
      rw [sumTo_null i (fun k hk => h k (by omega) (by omega)), Int.zero_add]
    · rw [sumTo_one n (by omega) (fun k hk hne => h k (by omega) hne), h n (by omega) (fun e2 => e e2.symm), Int.add_zero]
theorem sumTo_swap (f : Nat → Nat → Int) (m : Nat) : ∀ n, sumTo (fun i => sumTo (fun j => f i j) m) n = sumTo (fun j => sumTo (fun i => f i j) n) m
  | 0 => by
    rw [sumTo_zero']
    exact (sumTo_null m fun k _ => rfl).symm
  | n + 1 => by
    rw [sumTo_succ, sumTo_swap f m n, ← sumTo_add]
    rfl
/-- The product over n places. -/
def mm (n : Nat) (f g : Fn2) : Fn2 := fun i j => sumTo (fun k => f i k * g k j) n
/-- A matrix times a column. -/
def mv (n : Nat) (f : Fn2) (z : Nat → Int) : Nat → Int := fun i => sumTo (fun k => f i k * z k) n
theorem mm_assoc (n m : Nat) (f g h : Fn2) (i j : Nat) : mm n (mm m f g) h i j = mm m f (mm n g h) i j := by
  unfold mm
  have e1 : ∀ k, sumTo (fun l => f i l * g l k) m * h k j = sumTo (fun l => f i l * g l k * h k j) m := fun k => (sumTo_mul _ _ _).symm
  have e2 : ∀ l, f i l * sumTo (fun k => g l k * h k j) n = sumTo (fun k => f i l * g l k * h k j) n := fun l => by
    rw [← sumTo_mul']
    exact sumTo_congr n fun k _ => by rw [Int.mul_assoc]
  rw [sumTo_congr n (fun k _ => e1 k), sumTo_congr m (fun l _ => e2 l), sumTo_swap]
theorem mv_mm (n m : Nat) (f g : Fn2) (z : Nat → Int) (i : Nat) : mv n (mm m f g) z i = mv m f (mv n g z) i := mm_assoc n m f g (fun k _ => z k) i 0
theorem mv_congr {n : Nat} {f g : Fn2} {y z : Nat → Int} {i : Nat} (h : ∀ k, k < n → f i k = g i k) (h2 : ∀ k, k < n → y k = z k) : mv n f y i = mv n g z i :=
  sumTo_congr n fun k hk => by rw [h k hk, h2 k hk]
theorem mv_sub (n : Nat) (f : Fn2) (y z : Nat → Int) (i : Nat) : mv n f (fun k => y k - z k) i = mv n f y i - mv n f z i := by
  unfold mv
  rw [← sumTo_sub]
  exact sumTo_congr n fun k _ => by rw [Int.mul_sub]
/-- Equal in R rows of C cells. -/
def EqM (R C : Nat) (f g : Fn2) : Prop := ∀ i j, i < R → j < C → f i j = g i j
/-- No column but that of zeros is taken to zeros. -/
def INJ (R : Nat) (g : Fn2) : Prop := ∀ z : Nat → Int, (∀ i, i < R → mv R g z i = 0) → ∀ k, k < R → z k = 0
theorem INJ.eq {R : Nat} {g : Fn2} (h : INJ R g) {y z : Nat → Int} (e : ∀ i, i < R → mv R g y i = mv R g z i) : ∀ k, k < R → y k = z k := fun k hk => by
  have := h (fun k => y k - z k) (fun i hi => by rw [mv_sub, e i hi, Int.sub_self]) k hk
  omega
theorem mv_id {R : Nat} (z : Nat → Int) {i : Nat} (hi : i < R) : mv R idF z i = z i := by
  unfold mv
  rw [sumTo_one R hi]
  · unfold idF; rw [if_pos rfl, Int.one_mul]
  · intro k hk hne
    unfold idF
    rw [if_neg (fun e => hne e.symm), Int.zero_mul]
theorem INJ.id (R : Nat) : INJ R idF := fun z h k hk => by rw [← mv_id z hk]; exact h k hk
-- operations on rows
theorem mv_add {R i j : Nat} {t : Int} {g g' : Fn2} (h1 : ∀ y, y < R → g' i y = g i y + g j y * t) (z : Nat → Int) : mv R g' z i = mv R g z i + mv R g z j * t := by
  unfold mv
  rw [← sumTo_mul, ← sumTo_add]
  exact sumTo_congr R fun k hk => by rw [h1 k hk]; grind
theorem INJ.add {R i j : Nat} {t : Int} {g g' : Fn2} (h : INJ R g) (hi : i < R) (hj : j < R) (hij : i ≠ j) (h1 : ∀ y, y < R → g' i y = g i y + g j y * t) (h2 : ∀ x y, x < R → y < R → x ≠ i → g' x y = g x y) : INJ R g' := fun z hz => by
  have e : ∀ x, x < R → x ≠ i → mv R g z x = 0 := fun x hx hne => by
    rw [← hz x hx]
    exact mv_congr (fun k hk => (h2 x k hx hk hne).symm) (fun _ _ => rfl)
  refine h z fun x hx => ?_
  by_cases hxi : x = i
  · subst hxi
    have := mv_add h1 z
    rw [hz x hx, e j hj (fun e => hij e.symm), Int.zero_mul, Int.add_zero] at this
    exact this.symm
  · exact e x hx hxi
theorem INJ.swap {R p t : Nat} {g : Fn2} (h : INJ R g) (hp : p < R) (ht : t < R) : INJ R (swF g p t) := fun z hz => by
  refine h z fun x hx => ?_
  by_cases h1 : x = p
  · subst h1
    rw [← hz t ht]
    exact sumTo_congr R fun k hk => by rw [swF_t]
  · by_cases h2 : x = t
    · subst h2
      rw [← hz p hp]
      refine sumTo_congr R fun k hk => ?_
      have e : swF g p x p k = g x k := by unfold swF; rw [if_pos rfl]
      rw [e]
    · rw [← hz x hx]
      refine mv_congr (fun k hk => ?_) (fun _ _ => rfl)
      unfold swF
      rw [if_neg h1, if_neg h2]
theorem INJ.neg {R i : Nat} {g g' : Fn2} (h : INJ R g) (h1 : ∀ y, y < R → g' i y = -g i y) (h2 : ∀ x y, x < R → y < R → x ≠ i → g' x y = g x y) : INJ R g' := fun z hz => by
  refine h z fun x hx => ?_
  by_cases hxi : x = i
  · subst hxi
    have e : mv R g' z x = -mv R g z x := by
      unfold mv
      rw [← sumTo_neg]
      exact sumTo_congr R fun k hk => by rw [h1 k hk, Int.neg_mul]
    rw [hz x hx] at e
    omega
  · rw [← hz x hx]
    exact mv_congr (fun k hk => (h2 x k hx hk hxi).symm) (fun _ _ => rfl)
end Go.Proofs.Ytmcbhpaajjlmmaa

/-
  DERIVED. Making of ratios, both.
-/
namespace Go.Proofs.Ytmcbhpaajjlmmaa
open Go.RowKit
set_option linter.unusedVariables false
set_option linter.unusedSimpArgs false
theorem spec_l2Make0 (n : Int) (w : World) : Calls Try.prog 179 #[.int .i64 n, .int .i64 0] w (BV (rV (0, 0)) w) := by
  go_enter Try.func179, Try.ntmps179
  go_wp2_with fail
  refine ret_Q (b := w.heap.size) (n := 0) (d := 0) Try.results179 rfl (by (with_reducible (repeat (first | assumption | refine Blk.new_at _ _ _ _ (by first | omega | (simp; done) | (simp; omega)) | refine Blk.below ?_ (by assumption) (by first | omega | (simp; done) | (simp; omega)) | apply Blk.drew | apply Blk.drewN | refine Blk.far ?_ (by simp only [ne_eq]; omega) _ | apply Blk.alloc)))) rfl ?_
  exact BV.mk rfl (by (repeat (first | (with_reducible (first | exact Below.refl _ _ | assumption | refine below_drewN ?_ _ | refine Below.drew ?_ | refine Below.alloc ?_ ?_ _ | refine Below.setCell ?_ ?_ _ | refine below_i ?_)) | go_size)))
theorem rV_eq {q q' : Int × Int} (h : q = q') : Value.agg #[.int .i64 q'.1, .int .i64 q'.2] = rV q := by subst h; rfl
set_option maxHeartbeats 4000000 in
theorem impl_MakeRatio (n d : Int) (w : World) : Calls Try.prog 97 #[.int .i64 n, .int .i64 d] w (BV (rV (makR n d)) w) := by
  by_cases h1 : -400000000 ≤ n ∧ n ≤ 400000000
  · by_cases h2 : -400000000 ≤ d ∧ d ≤ 400000000
    · by_cases h3 : d = 0
      · have hv : makR n d = (0, 0) := by unfold makR; rw [h3]; simp
        have HV := Lib.hid hv
        subst h3
        clear hv
        obtain ⟨n1, n2⟩ := h1
        go_enter Try.func97, Try.ntmps97
        go_wp2_with (first | (go_at_call 95; (first | refine (impl_IsNumber_yes _ _ (by omega)).mono ?_ | refine (impl_IsNumber_no _ _ (by omega)).mono ?_ | refine (impl_IsNumber _ _).mono ?_); rintro e w' ⟨rfl, rfl⟩))
        skip
        refine ret_Q (b := w.heap.size) (n := 0) (d := 0) Try.results97 rfl (by first | exact BQ.put hR3 | (with_reducible (repeat (first | assumption | refine Blk.new_at _ _ _ _ (by first | omega | (simp; done) | (simp; omega)) | refine Blk.below ?_ (by assumption) (by first | omega | (simp; done) | (simp; omega)) | apply Blk.drew | apply Blk.drewN | refine Blk.far ?_ (by simp only [ne_eq]; omega) _ | apply Blk.alloc)))) rfl ?_
        exact BV.mk (rV_mk HV.out) (by (repeat (first | (with_reducible (first | exact Below.refl _ _ | assumption | refine below_drewN ?_ _ | refine Below.drew ?_ | refine Below.alloc ?_ ?_ _ | refine Below.setCell ?_ ?_ _ | refine below_i ?_)) | go_size)))
      · have hv : makR n d = lowR n d := by unfold makR; rw [(isNum_iff n).2 h1, (isNum_iff d).2 h2]; simp [h3]
        have HV := Lib.hid hv
        have h3b : (d == 0) = false := by simpa using h3
        have HD := Lib.hid h3
        clear hv h3
        obtain ⟨n1, n2⟩ := h1
        obtain ⟨d1, d2⟩ := h2
        go_enter Try.func97, Try.ntmps97
        go_wp2_with (first | (go_at_call 95; (first | refine (impl_IsNumber_yes _ _ (by omega)).mono ?_ | refine (impl_IsNumber_no _ _ (by omega)).mono ?_ | refine (impl_IsNumber _ _).mono ?_); rintro e w' ⟨rfl, rfl⟩))
        refine (impl_lowest n d HD.out (by omega) (by omega) _).mono ?_
        rintro e w3 ⟨rfl, hb3⟩
        have hR3 : BQ w3 w.heap.size 0 0 := by (with_reducible (repeat (first | assumption | refine Blk.new_at _ _ _ _ (by first | omega | (simp; done) | (simp; omega)) | refine Blk.below ?_ (by assumption) (by first | omega | (simp; done) | (simp; omega)) | apply Blk.drew | apply Blk.drewN | refine Blk.far ?_ (by simp only [ne_eq]; omega) _ | apply Blk.alloc)))
        have hbw3 : Below w.heap.size w w3 := by (repeat (first | (with_reducible (first | exact Below.refl _ _ | assumption | refine below_drewN ?_ _ | refine Below.drew ?_ | refine Below.alloc ?_ ?_ _ | refine Below.setCell ?_ ?_ _ | refine below_i ?_)) | go_size))
        obtain ⟨sa, sb, sf, sl⟩ := hR3.cells
        unfold rV
        go_wp2_with fail
        refine ret_Q (b := w.heap.size) (n := (lowR n d).1) (d := (lowR n d).2) Try.results97 rfl (BQ.put hR3) rfl ?_
        refine BV.mk ?_ (by (repeat (first | (with_reducible (first | exact Below.refl _ _ | assumption | refine below_drewN ?_ _ | refine Below.drew ?_ | refine Below.alloc ?_ ?_ _ | refine Below.setCell ?_ ?_ _ | refine below_i ?_)) | go_size)))
        exact (congrArg rV HV.out).symm
    · have hv : makR n d = (0, 0) := by unfold makR; rw [(isNum_not d).2 (by omega)]; simp
      have HV := Lib.hid hv
      have h4 : d < -400000000 ∨ 400000000 < d := by omega
      clear hv h2
      obtain ⟨n1, n2⟩ := h1
      rcases h4 with h4 | h4
      all_goals
        go_enter Try.func97, Try.ntmps97
        go_wp2_with (first | (go_at_call 95; (first | refine (impl_IsNumber_yes _ _ (by omega)).mono ?_ | refine (impl_IsNumber_no _ _ (by omega)).mono ?_ | refine (impl_IsNumber _ _).mono ?_); rintro e w' ⟨rfl, rfl⟩))
        refine ret_Q (b := w.heap.size) (n := 0) (d := 0) Try.results97 rfl (by (with_reducible (repeat (first | assumption | refine Blk.new_at _ _ _ _ (by first | omega | (simp; done) | (simp; omega)) | refine Blk.below ?_ (by assumption) (by first | omega | (simp; done) | (simp; omega)) | apply Blk.drew | apply Blk.drewN | refine Blk.far ?_ (by simp only [ne_eq]; omega) _ | apply Blk.alloc)))) rfl ?_
        exact BV.mk (rV_mk HV.out) (by (repeat (first | (with_reducible (first | exact Below.refl _ _ | assumption | refine below_drewN ?_ _ | refine Below.drew ?_ | refine Below.alloc ?_ ?_ _ | refine Below.setCell ?_ ?_ _ | refine below_i ?_)) | go_size)))
  · have hv : makR n d = (0, 0) := by unfold makR; rw [(isNum_not n).2 (by omega)]; simp
    have HV := Lib.hid hv
    have h4 : n < -400000000 ∨ 400000000 < n := by omega
    clear hv h1
    rcases h4 with h4 | h4
    all_goals
      go_enter Try.func97, Try.ntmps97
      go_wp2_with (first | (go_at_call 95; (first | refine (impl_IsNumber_yes _ _ (by omega)).mono ?_ | refine (impl_IsNumber_no _ _ (by omega)).mono ?_ | refine (impl_IsNumber _ _).mono ?_); rintro e w' ⟨rfl, rfl⟩))
      refine ret_Q (b := w.heap.size) (n := 0) (d := 0) Try.results97 rfl (by (with_reducible (repeat (first | assumption | refine Blk.new_at _ _ _ _ (by first | omega | (simp; done) | (simp; omega)) | refine Blk.below ?_ (by assumption) (by first | omega | (simp; done) | (simp; omega)) | apply Blk.drew | apply Blk.drewN | refine Blk.far ?_ (by simp only [ne_eq]; omega) _ | apply Blk.alloc)))) rfl ?_
      exact BV.mk (rV_mk HV.out) (by (repeat (first | (with_reducible (first | exact Below.refl _ _ | assumption | refine below_drewN ?_ _ | refine Below.drew ?_ | refine Below.alloc ?_ ?_ _ | refine Below.setCell ?_ ?_ _ | refine below_i ?_)) | go_size)))
set_option maxHeartbeats 4000000 in
theorem spec_MakeRatio (n d : Int) (w : World) : Calls Try.prog 94 #[.int .i64 n, .int .i64 d] w (BV (rV (makR n d)) w) := by
  by_cases h1 : -400000000 ≤ n ∧ n ≤ 400000000
  · by_cases h2 : -400000000 ≤ d ∧ d ≤ 400000000
    · by_cases h3 : d = 0
      · have hv : makR n d = (0, 0) := by unfold makR; rw [h3]; simp
        have HV := Lib.hid hv
        subst h3
        clear hv
        obtain ⟨n1, n2⟩ := h1
        go_enter Try.func94, Try.ntmps94
        go_wp2_with (first | (go_at_call 108; (first | refine (spec_IsNumber_yes _ _ (by omega)).mono ?_ | refine (spec_IsNumber_no _ _ (by omega)).mono ?_ | refine (spec_IsNumber _ _).mono ?_); rintro e w' ⟨rfl, rfl⟩))
        (refine (spec_l2Make0 n _).mono ?_; rintro e w3 ⟨rfl, hb3⟩; have hR3 : BQ w3 w.heap.size 0 0 := (by (with_reducible (repeat (first | assumption | refine Blk.new_at _ _ _ _ (by first | omega | (simp; done) | (simp; omega)) | refine Blk.below ?_ (by assumption) (by first | omega | (simp; done) | (simp; omega)) | apply Blk.drew | apply Blk.drewN | refine Blk.far ?_ (by simp only [ne_eq]; omega) _ | apply Blk.alloc)))); have hbw3 : Below w.heap.size w w3 := (by (repeat (first | (with_reducible (first | exact Below.refl _ _ | assumption | refine below_drewN ?_ _ | refine Below.drew ?_ | refine Below.alloc ?_ ?_ _ | refine Below.setCell ?_ ?_ _ | refine below_i ?_)) | go_size))); obtain ⟨sa, sb, sf, sl⟩ := hR3.cells; unfold rV; go_wp2_with fail)
        refine ret_Q (b := w.heap.size) (n := 0) (d := 0) Try.results94 rfl (by first | exact BQ.put hR3 | (with_reducible (repeat (first | assumption | refine Blk.new_at _ _ _ _ (by first | omega | (simp; done) | (simp; omega)) | refine Blk.below ?_ (by assumption) (by first | omega | (simp; done) | (simp; omega)) | apply Blk.drew | apply Blk.drewN | refine Blk.far ?_ (by simp only [ne_eq]; omega) _ | apply Blk.alloc)))) rfl ?_
        exact BV.mk (rV_mk HV.out) (by (repeat (first | (with_reducible (first | exact Below.refl _ _ | assumption | refine below_drewN ?_ _ | refine Below.drew ?_ | refine Below.alloc ?_ ?_ _ | refine Below.setCell ?_ ?_ _ | refine below_i ?_)) | go_size)))
      · have hv : makR n d = lowR n d := by unfold makR; rw [(isNum_iff n).2 h1, (isNum_iff d).2 h2]; simp [h3]
        have HV := Lib.hid hv
        have h3b : (d == 0) = false := by simpa using h3
        have HD := Lib.hid h3
        clear hv h3
        obtain ⟨n1, n2⟩ := h1
        obtain ⟨d1, d2⟩ := h2
        go_enter Try.func94, Try.ntmps94
        go_wp2_with (first | (go_at_call 108; (first | refine (spec_IsNumber_yes _ _ (by omega)).mono ?_ | refine (spec_IsNumber_no _ _ (by omega)).mono ?_ | refine (spec_IsNumber _ _).mono ?_); rintro e w' ⟨rfl, rfl⟩))
        refine (spec_l2Make n d HD.out (by omega) (by omega) _).mono ?_
        rintro e w3 ⟨rfl, hb3⟩
        have hR3 : BQ w3 w.heap.size 0 0 := by (with_reducible (repeat (first | assumption | refine Blk.new_at _ _ _ _ (by first | omega | (simp; done) | (simp; omega)) | refine Blk.below ?_ (by assumption) (by first | omega | (simp; done) | (simp; omega)) | apply Blk.drew | apply Blk.drewN | refine Blk.far ?_ (by simp only [ne_eq]; omega) _ | apply Blk.alloc)))
        have hbw3 : Below w.heap.size w w3 := by (repeat (first | (with_reducible (first | exact Below.refl _ _ | assumption | refine below_drewN ?_ _ | refine Below.drew ?_ | refine Below.alloc ?_ ?_ _ | refine Below.setCell ?_ ?_ _ | refine below_i ?_)) | go_size))
        obtain ⟨sa, sb, sf, sl⟩ := hR3.cells
        unfold rV
        go_wp2_with fail
        refine ret_Q (b := w.heap.size) (n := (lowR n d).1) (d := (lowR n d).2) Try.results94 rfl (BQ.put hR3) rfl ?_
        refine BV.mk ?_ (by (repeat (first | (with_reducible (first | exact Below.refl _ _ | assumption | refine below_drewN ?_ _ | refine Below.drew ?_ | refine Below.alloc ?_ ?_ _ | refine Below.setCell ?_ ?_ _ | refine below_i ?_)) | go_size)))
        exact (congrArg rV HV.out).symm
    · have hv : makR n d = (0, 0) := by unfold makR; rw [(isNum_not d).2 (by omega)]; simp
      have HV := Lib.hid hv
      have h4 : d < -400000000 ∨ 400000000 < d := by omega
      clear hv h2
      obtain ⟨n1, n2⟩ := h1
      rcases h4 with h4 | h4
      all_goals
        go_enter Try.func94, Try.ntmps94
        go_wp2_with (first | (go_at_call 108; (first | refine (spec_IsNumber_yes _ _ (by omega)).mono ?_ | refine (spec_IsNumber_no _ _ (by omega)).mono ?_ | refine (spec_IsNumber _ _).mono ?_); rintro e w' ⟨rfl, rfl⟩))
        refine ret_Q (b := w.heap.size) (n := 0) (d := 0) Try.results94 rfl (by (with_reducible (repeat (first | assumption | refine Blk.new_at _ _ _ _ (by first | omega | (simp; done) | (simp; omega)) | refine Blk.below ?_ (by assumption) (by first | omega | (simp; done) | (simp; omega)) | apply Blk.drew | apply Blk.drewN | refine Blk.far ?_ (by simp only [ne_eq]; omega) _ | apply Blk.alloc)))) rfl ?_
        exact BV.mk (rV_mk HV.out) (by (repeat (first | (with_reducible (first | exact Below.refl _ _ | assumption | refine below_drewN ?_ _ | refine Below.drew ?_ | refine Below.alloc ?_ ?_ _ | refine Below.setCell ?_ ?_ _ | refine below_i ?_)) | go_size)))
  · have hv : makR n d = (0, 0) := by unfold makR; rw [(isNum_not n).2 (by omega)]; simp
    have HV := Lib.hid hv
    have h4 : n < -400000000 ∨ 400000000 < n := by omega
    clear hv h1
    rcases h4 with h4 | h4
    all_goals
      go_enter Try.func94, Try.ntmps94
      go_wp2_with (first | (go_at_call 108; (first | refine (spec_IsNumber_yes _ _ (by omega)).mono ?_ | refine (spec_IsNumber_no _ _ (by omega)).mono ?_ | refine (spec_IsNumber _ _).mono ?_); rintro e w' ⟨rfl, rfl⟩))
      refine ret_Q (b := w.heap.size) (n := 0) (d := 0) Try.results94 rfl (by (with_reducible (repeat (first | assumption | refine Blk.new_at _ _ _ _ (by first | omega | (simp; done) | (simp; omega)) | refine Blk.below ?_ (by assumption) (by first | omega | (simp; done) | (simp; omega)) | apply Blk.drew | apply Blk.drewN | refine Blk.far ?_ (by simp only [ne_eq]; omega) _ | apply Blk.alloc)))) rfl ?_
      exact BV.mk (rV_mk HV.out) (by (repeat (first | (with_reducible (first | exact Below.refl _ _ | assumption | refine below_drewN ?_ _ | refine Below.drew ?_ | refine Below.alloc ?_ ?_ _ | refine Below.setCell ?_ ?_ _ | refine below_i ?_)) | go_size)))
end Go.Proofs.Ytmcbhpaajjlmmaa

/-
  DERIVED. The Hermite form: what HermiteForm of both answers, and its result's form: two matrices and a flag.
-/
namespace Go.Proofs.Ytmcbhpaajjlmmaa
open Go.RowKit
set_option linter.unusedVariables false
def hmX (r c : Int) (xs : List Int) : Option (HS × Nat) := if isMat r c xs then hmRun r.toNat c.toNat (fun i j => cel xs c i j) else none
def hmMO (r c : Int) : Option (HS × Nat) → Mx
  | some x => ⟨r, c, tb r.toNat c.toNat x.1.f⟩
  | none => .none
def hmUO (r : Int) : Option (HS × Nat) → Mx
  | some x => ⟨r, r, tb r.toNat r.toNat x.1.g⟩
  | none => .none
def hmM (r c : Int) (xs : List Int) : Mx := hmMO r c (hmX r c xs)
def hmU (r c : Int) (xs : List Int) : Mx := hmUO r (hmX r c xs)
theorem hmX_no {r c : Int} {xs : List Int} (h : isMat r c xs = false) : hmX r c xs = none := by unfold hmX; rw [h]; rfl
theorem hmX_yes {R C : Nat} {xs : List Int} (h : isMat R C xs = true) : hmX R C xs = hmOut R C C 0 0 ⟨fun i j => cel xs C i j, idF⟩ := by unfold hmX; rw [h]; rfl
/-- The call returned two matrices, their cells their own, and the flag. -/
def M2R (m m' : Mx) (b : Bool) (w : World) (e : Ending) (w' : World) : Prop :=
  ∃ A n cap A2 n2 cap2, e = .returned (.tuple #[.agg #[.int .i64 m.r, .int .i64 m.c, .slice A n cap], .agg #[.int .i64 m'.r, .int .i64 m'.c, .slice A2 n2 cap2], .bool b]) ∧ OR w' w.heap.size (.slice A n cap) m.xs ∧ OR w' w.heap.size (.slice A2 n2 cap2) m'.xs ∧ Apart (.slice A n cap) (.slice A2 n2 cap2) ∧ Below w.heap.size w w'
theorem M2R.none_ {r c : Int} {X : Option (HS × Nat)} {w w' : World} (hX : X = none) (hb : Below w.heap.size w w') :
    M2R (hmMO r c X) (hmUO r X) X.isSome w (.returned (.tuple #[.agg #[.int .i64 0, .int .i64 0, .slice none 0 0], .agg #[.int .i64 0, .int .i64 0, .slice none 0 0], .bool false])) w' := by
  subst hX
  refine ⟨none, 0, 0, none, 0, 0, rfl, OR.nil_ _ _, OR.nil_ _ _, ?_, hb⟩
  intro g h1
  simp [Value.ownBlock] at h1
theorem M2R.some_ {R C t : Nat} {s : HS} {X : Option (HS × Nat)} {w w' : World} {A A2 : Option Addr} {n cap n2 cap2 : Nat} (hX : X = some (s, t)) (h1 : OR w' w.heap.size (.slice A n cap) (tb R C s.f)) (h2 : OR w' w.heap.size (.slice A2 n2 cap2) (tb R R s.g)) (ha : Apart (.slice A n cap) (.slice A2 n2 cap2)) (hb : Below w.heap.size w w') :
    M2R (hmMO R C X) (hmUO R X) X.isSome w (.returned (.tuple #[.agg #[.int .i64 R, .int .i64 C, .slice A n cap], .agg #[.int .i64 R, .int .i64 R, .slice A2 n2 cap2], .bool true])) w' := by
  subst hX
  exact ⟨A, n, cap, A2, n2, cap2, rfl, h1, h2, ha, hb⟩
theorem ret_M2 {fn : Func} {R : Ending → World → Prop} {a : Act} {w : World} {t t' s : Tmp} {b n cap b' n' cap' : Nat} {r c r' c' : Int} {A A' : Option Addr} (hr : fn.results = #[.cell t 28, .cell t' 28, .tmp s])
    (ht : a.tmps.getD t undef = .pointer (some ⟨b, 0, none⟩)) (ht' : a.tmps.getD t' undef = .pointer (some ⟨b', 0, none⟩)) (h : BM w b r c A n cap) (h' : BM w b' r' c' A' n' cap') (hd : a.defers = [])
    (hR : R (.returned (.tuple #[.agg #[.int .i64 r, .int .i64 c, .slice A n cap], .agg #[.int .i64 r', .int .i64 c', .slice A' n' cap'], a.tmps.getD s undef])) w) : bodyPost Try.prog fn R .ret a w :=
  bodyPost_ret (v := .tuple #[.agg #[.int .i64 r, .int .i64 c, .slice A n cap], .agg #[.int .i64 r', .int .i64 c', .slice A' n' cap'], a.tmps.getD s undef]) (by
    obtain ⟨r0, r1, r2, rf, rl⟩ := h.mx
    obtain ⟨s0, s1, s2, sf, sl⟩ := h'.mx
    simp only [Array.getD_eq_getD_getElem?] at ht ht'
    simp [results, hr, ht, ht', go_sem, r0, r1, r2, s0, s1, s2]) hd hR
end Go.Proofs.Ytmcbhpaajjlmmaa

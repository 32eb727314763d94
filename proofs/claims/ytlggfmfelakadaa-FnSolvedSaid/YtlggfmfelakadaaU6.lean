/-
  DERIVED. Several small texts in one: MulS, Law2, MulS2, Times, Elem, Fac, PrimS, PlSi, PlDl, CopyW, Recon, Inv, Prim, PlMi, Rats, Rap, SmR, PlainC, PlDio, PlDi2, PlainR.
-/
import Derived.Test.YtlggfmfelakadaaMulu
import Derived.Test.YtlggfmfelakadaaImgu
import Derived.Test.YtlggfmfelakadaaU3
import Derived.Test.YtlggfmfelakadaaMatOpsu
import Derived.Test.YtlggfmfelakadaaU4
import Derived.Deep.LoopGhost
import Derived.Test.YtlggfmfelakadaaRowOpu
import Derived.Test.YtlggfmfelakadaaDetWu
import Derived.Laws.CopyOwn
import Derived.Laws.IdiomCopy
import Derived.Test.YtlggfmfelakadaaU1
import Derived.Test.YtlggfmfelakadaaEuclidu
import Derived.Test.YtlggfmfelakadaaU5
import Derived.Test.YtlggfmfelakadaaU2
import Derived.Test.YtlggfmfelakadaaRatOu
/-
  DERIVED. l3Mul.
-/
namespace Go.Proofs.Ytlggfmfelakadaa
open Go.RowKit
set_option linter.unusedVariables false
set_option linter.unusedSimpArgs false
end Go.Proofs.Ytlggfmfelakadaa

/-
  DERIVED. The contracts of the laws FnExactSymmetricOf, FnExactIsImage.
-/
namespace Go.Proofs.Ytlggfmfelakadaa
open Go.RowKit
set_option linter.unusedVariables false
end Go.Proofs.Ytlggfmfelakadaa

/-
  DERIVED. MultiplyMatrices of the reference.
-/
namespace Go.Proofs.Ytlggfmfelakadaa
open Go.RowKit
set_option linter.unusedVariables false
set_option linter.unusedSimpArgs false
end Go.Proofs.Ytlggfmfelakadaa

/-
  DERIVED. l14Times, IsSolution of the reference.
-/
namespace Go.Proofs.Ytlggfmfelakadaa
open Go.RowKit
set_option linter.unusedVariables false
set_option linter.unusedSimpArgs false
/-- The call returned an own slice and a flag. -/
def IBR (ys : List Int) (b : Bool) (w : World) (e : Ending) (w' : World) : Prop :=
  ∃ A n cap, e = .returned (.tuple #[.slice A n cap, .bool b]) ∧ OR w' w.heap.size (.slice A n cap) ys ∧ Below w.heap.size w w'
theorem IBR.mk {ys zs : List Int} {b : Bool} {A : Option Addr} {n cap : Nat} {w w' : World} (hz : ys = zs) (ho : OR w' w.heap.size (.slice A n cap) zs) (hb : Below w.heap.size w w') :
    IBR ys b w (.returned (.tuple #[.slice A n cap, .bool b])) w' := by subst hz; exact ⟨A, n, cap, rfl, ho, hb⟩
/-- Numbers solve a system. -/
def solB (r c : Int) (xs b x : List Int) : Bool := mulB r c xs x.length 1 x && eqB (mulM r c xs x.length 1 x).xs b
theorem mulM_len (r c : Int) (xs : List Int) (r2 c2 : Int) (ys : List Int) : (mulM r c xs r2 c2 ys).xs.length ≤ 576 := by
  unfold mulM
  split
  · rename_i h
    unfold mulB at h
    simp only [Bool.and_eq_true] at h
    have M := isMat_iff.1 h.1.1.1
    have M2 := isMat_iff.1 h.1.1.2
    show (mulL xs r.toNat c.toNat ys c2.toNat).length ≤ 576
    rw [mulL_len]
    have := Nat.mul_le_mul (show r.toNat ≤ 24 by have := M.r1; omega) (show c2.toNat ≤ 24 by have := M2.c1; omega)
    omega
  · simp [Mx.none]
end Go.Proofs.Ytlggfmfelakadaa

/-
  DERIVED. at and set on a table of the call's own.
-/
namespace Go.Proofs.Ytlggfmfelakadaa
open Go.RowKit
set_option linter.unusedVariables false
theorem impl_at_tb (R C i j : Nat) (A : Option Addr) (n cap : Nat) (F : Nat → Nat → Int) (v : Int) (hv : F i j = v) (w : World) {B : Nat} (h : OR w B (.slice A n cap) (tb R C F)) (hR : R ≤ 48) (hC : C ≤ 48) (hi : i < R) (hj : j < C) :
    Calls Try.prog 53 #[.agg #[.int .i64 R, .int .i64 C, .slice A n cap], .int .i64 i, .int .i64 j] w (BV (.int .i64 v) w) := by
  have hn := h.lenEq
  rw [tb_len] at hn
  have h1 := idx_nat hi hj
  have h2 : i * C ≤ 48 * 48 := Nat.mul_le_mul (by omega) hC
  have e1 : (i : Int) * (C : Int) = ((i * C : Nat) : Int) := by rw [Int.natCast_mul]
  have := impl_at R C i j A n cap (tb R C F) w h.reads (Nat.le_refl _) ⟨by omega, by omega⟩ ⟨by omega, by omega⟩ (by omega)
  rw [cel_tb hi hj, hv] at this
  exact this
theorem impl_set_tb (R C i j : Nat) (v : Int) (A : Option Addr) (n cap : Nat) (F F' : Nat → Nat → Int) (hF : upd F i j v = F') (w : World) {B : Nat} (h : OR w B (.slice A n cap) (tb R C F)) (hR : R ≤ 48) (hC : C ≤ 48) (hi : i < R) (hj : j < C) :
    Calls Try.prog 54 #[.agg #[.int .i64 R, .int .i64 C, .slice A n cap], .int .i64 i, .int .i64 j, .int .i64 v] w (WU (.slice A n cap) B (tb R C F') w) := by
  have hn := h.lenEq
  rw [tb_len] at hn
  have h1 := idx_nat hi hj
  have h2 : i * C ≤ 48 * 48 := Nat.mul_le_mul (by omega) hC
  have e1 : (i : Int) * (C : Int) = ((i * C : Nat) : Int) := by rw [Int.natCast_mul]
  have := impl_set R C i j v A n cap (tb R C F) w h ⟨by omega, by omega⟩ ⟨by omega, by omega⟩ (by omega)
  rw [show ((i : Int) * (C : Int) + (j : Int)).toNat = i * C + j by omega, tb_set hi hj, hF] at this
  exact this
end Go.Proofs.Ytlggfmfelakadaa

/-
  DERIVED. FactorsOf of both.
-/
namespace Go.Proofs.Ytlggfmfelakadaa
open Go.RowKit
set_option linter.unusedVariables false
set_option linter.unusedSimpArgs false
theorem OR.shapeF {w : World} {B : Nat} {v : Value} {xs : List Int} (h : OR w B v xs) : ∃ A c, v = .slice A xs.length c := by
  rcases h.form with ⟨h1, h2⟩ | ⟨g, cap, h1, _⟩
  · subst h2; exact ⟨none, 0, h1⟩
  · exact ⟨_, _, h1⟩
/-- A number of the diagonal; 0 beyond it. -/
def dgF (R C : Nat) (f : Fn2) (i : Nat) : Int := if i < R ∧ i < C then f i i else 0
theorem dgF_in {R C i : Nat} {f : Fn2} (h : i < R) (h2 : i < C) : dgF R C f i = f i i := by unfold dgF; rw [if_pos ⟨h, h2⟩]
theorem dgF_out {R C i : Nat} {f : Fn2} (h : ¬ (i < R ∧ i < C)) : dgF R C f i = 0 := by unfold dgF; rw [if_neg h]
theorem dgF_num {R C i : Nat} {f : Fn2} (h : OKF R C f) : Num (dgF R C f i) := by
  unfold dgF
  split
  · rename_i h2; exact h i i h2.1 h2.2
  · unfold Num; omega
def facK (d : Nat → Int) : Nat → List Int
  | 0 => []
  | n + 1 => facK d n ++ (if d n = 0 then [] else [d n])
theorem facK_skip {d : Nat → Int} {n : Nat} (h : d n = 0) : facK d (n + 1) = facK d n := by
  show facK d n ++ (if _ then _ else _) = _
  rw [if_pos h, List.append_nil]
theorem facK_add {d : Nat → Int} {n : Nat} (h : d n ≠ 0) : facK d (n + 1) = facK d n ++ [d n] := by
  show facK d n ++ (if _ then _ else _) = _
  rw [if_neg h]
theorem facK_len (d : Nat → Int) : ∀ n, (facK d n).length ≤ n
  | 0 => Nat.le_refl _
  | n + 1 => by
    have := facK_len d n
    by_cases h : d n = 0
    · rw [facK_skip h]; omega
    · rw [facK_add h, List.length_append, List.length_singleton]; omega
theorem facK_beyond {d : Nat → Int} {m : Nat} (h : ∀ i, m ≤ i → d i = 0) : ∀ k, facK d (m + k) = facK d m
  | 0 => rfl
  | k + 1 => by rw [show m + (k + 1) = m + k + 1 by omega, facK_skip (h _ (by omega)), facK_beyond h k]
def facO (r c : Int) : Option SS → List Int
  | some s => facK (dgF r.toNat c.toNat s.f) (min r.toNat c.toNat)
  | none => []
def facV (r c : Int) (xs : List Int) : List Int := facO r c (sfX r c xs)
theorem facO_rows (R C : Nat) (s : SS) : facO R C (some s) = facK (dgF R C s.f) R := by
  show facK (dgF R C s.f) (min R C) = _
  have := facK_beyond (d := dgF R C s.f) (m := min R C) (fun i hi => dgF_out (by omega)) (R - min R C)
  rw [show min R C + (R - min R C) = R by omega] at this
  exact this.symm
theorem facV_len (r c : Int) (xs : List Int) : (facV r c xs).length ≤ 1048576 := by
  unfold facV
  rcases h : sfX r c xs with _ | s
  · exact Nat.zero_le _
  · rcases hm : isMat r c xs with _ | _
    · rw [sfX_no hm] at h; cases h
    · have M := isMat_iff.1 hm
      have h1 := facK_len (dgF r.toNat c.toNat s.f) (min r.toNat c.toNat)
      have := M.r1
      show (facK _ _).length ≤ _
      omega
end Go.Proofs.Ytlggfmfelakadaa

/-
  DERIVED. l7Primitive of the reference.
-/
namespace Go.Proofs.Ytlggfmfelakadaa
open Go.RowKit
set_option linter.unusedVariables false
set_option linter.unusedSimpArgs false
/-- The sign of the first number that is not 0. -/
def sgL (l : List Int) : Int := l.foldl (fun s x => if s = 0 then x.sign else s) 0
theorem sgL_take {l : List Int} {k : Nat} (h : k < l.length) : sgL (l.take (k + 1)) = if sgL (l.take k) = 0 then (l.getD k 0).sign else sgL (l.take k) := by
  have e : l[k]? = some (l.getD k 0) := by simp [List.getD, h]
  rw [List.take_add_one, e]
  simp [sgL, List.foldl_append]
theorem sgF_keep (s : Int) (hs : s ≠ 0) : ∀ l : List Int, l.foldl (fun s x => if s = 0 then x.sign else s) s = s
  | [] => rfl
  | x :: l => by
    show l.foldl _ (if s = 0 then x.sign else s) = s
    rw [if_neg hs]
    exact sgF_keep s hs l
theorem sgL_eq : ∀ l : List Int, sgL l = (l.getD (fcN l) 0).sign
  | [] => rfl
  | x :: l => by
    unfold sgL fcN
    show l.foldl _ (if (0 : Int) = 0 then x.sign else 0) = _
    rw [if_pos rfl]
    by_cases h : x = 0
    · rw [if_pos h, h]
      show l.foldl _ (Int.sign 0) = _
      rw [Int.sign_zero]
      have := sgL_eq l
      unfold sgL at this
      rw [this]
      simp
    · rw [if_neg h, sgF_keep _ (by rw [Ne, Int.sign_eq_zero_iff_zero]; exact h)]
      simp
theorem sgL_bd (l : List Int) : -1 ≤ sgL l ∧ sgL l ≤ 1 := by
  rw [sgL_eq]
  rcases Int.lt_trichotomy (l.getD (fcN l) 0) 0 with h | h | h
  · rw [Int.sign_eq_neg_one_of_neg h]; omega
  · rw [h]; simp
  · rw [Int.sign_eq_one_of_pos h]; omega
theorem sg_prim {l : List Int} {k : Nat} (hk : k < l.length) (h0 : gcdL l ≠ 0) : (sgL l * l.getD k 0).tdiv (gcdL l : Nat) = (primL l).getD k 0 := by
  rw [primL_getD hk h0, sgL_eq]
  have hlt := fcN_lt_iff.2 h0
  have hne := fcN_ne l hlt
  unfold divL
  by_cases h : l.getD (fcN l) 0 < 0
  · rw [if_pos h, Int.sign_eq_neg_one_of_neg h, Int.tdiv_neg]
    rw [show (-1 : Int) * l.getD k 0 = -(l.getD k 0) by omega, Int.neg_tdiv]
  · rw [if_neg h, Int.sign_eq_one_of_pos (by omega), Int.one_mul]
theorem quo_abs {x : Int} (h : x ≠ 0) : x.tdiv (x.natAbs : Nat) = x.sign := by
  rcases Int.lt_or_gt_of_ne h with h1 | h1
  · rw [Int.sign_eq_neg_one_of_neg h1]
    have e : ((x.natAbs : Nat) : Int) = -x := by omega
    rw [e, Int.tdiv_neg, Int.tdiv_self h]
  · rw [Int.sign_eq_one_of_pos h1]
    have e : ((x.natAbs : Nat) : Int) = x := by omega
    rw [e, Int.tdiv_self h]
def pmK (C : Nat) (f : Nat → Nat → Int) (i k : Nat) : Nat → Nat → Int := fun a c => if a = i ∧ c < k then (primL (rw_ C f i)).getD c 0 else f a c
theorem pmK_zero (C : Nat) (f : Nat → Nat → Int) (i : Nat) : pmK C f i 0 = f := by funext a c; simp [pmK]
theorem pmK_at (C : Nat) (f : Nat → Nat → Int) (i k c : Nat) (h : k ≤ c) : pmK C f i k i c = f i c := by unfold pmK; rw [if_neg (by omega)]
theorem pmK_step (C : Nat) (f : Nat → Nat → Int) (i k : Nat) : upd (pmK C f i k) i k ((primL (rw_ C f i)).getD k 0) = pmK C f i (k + 1) := by
  funext a c
  unfold upd pmK
  grind
theorem pmK_end {R C : Nat} (f : Nat → Nat → Int) (i : Nat) : tb R C (pmK C f i C) = tb R C (prF C f i) := tb_ext fun a c ha hc => by unfold pmK prF setR; grind
theorem prF_zero {R C : Nat} {f : Nat → Nat → Int} {i : Nat} (h : gcdL (rw_ C f i) = 0) : tb R C (prF C f i) = tb R C f := prF_same ((primL_eq_iff _).2 (.inl h))
end Go.Proofs.Ytlggfmfelakadaa

/-
  DERIVED. What SolveInteger and RefuteInteger answer: no program in sight.
-/
namespace Go.Proofs.Ytlggfmfelakadaa
set_option linter.unusedVariables false
theorem dropF_cons {xs : List Int} {k : Nat} (h : k < xs.length) : xs.drop k = xs.getD k 0 :: xs.drop (k + 1) := by
  rw [List.drop_eq_getElem_cons h]
  simp [List.getD, h]
/-- The first place whose number is no multiple. -/
def fwF (d : Nat → Int) : Nat → List Int → Option Nat
  | _, [] => none
  | k, x :: l => if d k ∣ x then fwF d (k + 1) l else some k
def fwV : Option Nat → Int
  | none => -1
  | some k => k
theorem fwF_yes {d : Nat → Int} {cs : List Int} {k : Nat} (hk : k < cs.length) (h : d k ∣ cs.getD k 0) : fwF d k (cs.drop k) = fwF d (k + 1) (cs.drop (k + 1)) := by
  rw [dropF_cons hk]
  show (if _ then _ else _) = _
  rw [if_pos h]
theorem fwF_no {d : Nat → Int} {cs : List Int} {k : Nat} (hk : k < cs.length) (h : ¬ d k ∣ cs.getD k 0) : fwF d k (cs.drop k) = some k := by
  rw [dropF_cons hk]
  show (if _ then _ else _) = _
  rw [if_neg h]
theorem fwF_end {d : Nat → Int} {cs : List Int} {k : Nat} (hk : cs.length ≤ k) : fwF d k (cs.drop k) = none := by
  rw [List.drop_of_length_le hk]; rfl
theorem fwF_none {d : Nat → Int} : ∀ (cs : List Int) (k : Nat), fwF d k cs = none → ∀ i, i < cs.length → d (k + i) ∣ cs.getD i 0
  | [], k, _, i, hi => absurd hi (Nat.not_lt_zero _)
  | x :: l, k, h, i, hi => by
    have h' : (if d k ∣ x then fwF d (k + 1) l else some k) = none := h
    split at h'
    · rename_i hd
      match i, hi with
      | 0, _ => simpa using hd
      | i + 1, hi =>
        have := fwF_none l (k + 1) h' i (by simpa using hi)
        rw [show k + (i + 1) = k + 1 + i by omega]
        simpa using this
    · cases h'
theorem fwF_some {d : Nat → Int} : ∀ (cs : List Int) (k q : Nat), fwF d k cs = some q → k ≤ q ∧ q < k + cs.length ∧ ¬ d q ∣ cs.getD (q - k) 0
  | [], k, q, h => by cases h
  | x :: l, k, q, h => by
    have h' : (if d k ∣ x then fwF d (k + 1) l else some k) = some q := h
    split at h'
    · obtain ⟨a, b, c⟩ := fwF_some l (k + 1) q h'
      refine ⟨by omega, by simp; omega, ?_⟩
      rw [show q - k = (q - (k + 1)) + 1 by omega]
      simpa using c
    · rename_i hd
      cases h'
      exact ⟨Nat.le_refl _, by simp, by rw [Nat.sub_self]; simpa using hd⟩
/-- The Smith form and the right side that belongs to it. -/
def siS (r c : Int) (xs bs : List Int) : Option (SS × List Int) := (sfX r c xs).bind fun s => if (bs.length : Int) = r ∧ mulB r r (tb r.toNat r.toNat s.g) bs.length 1 bs = true then some (s, mulL (tb r.toNat r.toNat s.g) r.toNat r.toNat bs 1) else none
/-- The image of the solution under the Smith form. -/
def siY (R C : Nat) (s : SS) (cs : List Int) : List Int := tab C fun i => (cs.getD i 0).tdiv (dgF R C s.f i)
def siR (r c : Int) (xs bs : List Int) : List Int × Int :=
  match siS r c xs bs with
  | none => ([], 2)
  | some (s, cs) =>
    match fwF (dgF r.toNat c.toNat s.f) 0 cs with
    | some _ => ([], 1)
    | none => if mulB c c (tb c.toNat c.toNat s.h) c 1 (siY r.toNat c.toNat s cs) then ((mulM c c (tb c.toNat c.toNat s.h) c 1 (siY r.toNat c.toNat s cs)).xs, 0) else ([], 2)
/-- The number that a refutation divides by. -/
def riN (d x : Int) : Int := if d = 0 then 2 * x else d
/-- The ratios of row k over n. -/
def riL (R : Nat) (g : Fn2) (k : Nat) (n : Int) : Nat → List Int
  | 0 => []
  | j + 1 => riL R g k n j ++ [(lowR (g k j) n).1, (lowR (g k j) n).2]
theorem riL_len (R : Nat) (g : Fn2) (k : Nat) (n : Int) : ∀ j, (riL R g k n j).length = j * 2
  | 0 => rfl
  | j + 1 => by
    show (riL R g k n j ++ [_, _]).length = _
    rw [List.length_append, riL_len R g k n j]
    simp; omega
def riR (r c : Int) (xs bs : List Int) : Nat × List Int × Int :=
  match siS r c xs bs with
  | none => (0, [], 2)
  | some (s, cs) =>
    match fwF (dgF r.toNat c.toNat s.f) 0 cs with
    | none => (0, [], 1)
    | some k => if isNum (riN (dgF r.toNat c.toNat s.f k) (cs.getD k 0)) then (r.toNat, riL r.toNat s.g k (riN (dgF r.toNat c.toNat s.f k) (cs.getD k 0)) r.toNat, 0) else (0, [], 2)
theorem siS_some {R C : Nat} {xs bs : List Int} {s : SS} {cs : List Int} (h : siS R C xs bs = some (s, cs)) :
    sfX R C xs = some s ∧ bs.length = R ∧ mulB R R (tb R R s.g) bs.length 1 bs = true ∧ cs = mulL (tb R R s.g) R R bs 1 := by
  unfold siS at h
  rcases hx : sfX R C xs with _ | s'
  · rw [hx] at h; cases h
  · rw [hx] at h
    simp only [Option.bind_some, Int.toNat_natCast] at h
    split at h
    · rename_i hc
      cases h
      exact ⟨rfl, by omega, hc.2, rfl⟩
    · cases h
end Go.Proofs.Ytlggfmfelakadaa

/-
  DERIVED. The determinant by its first row, as a list, is that of the matrix: no program in sight.
-/
namespace Go.Proofs.Ytlggfmfelakadaa
set_option linter.unusedVariables false
theorem tab_succ (n : Nat) (f : Nat → Int) : tab (n + 1) f = tab n f ++ [f n] := by
  unfold tab
  rw [List.range_succ, List.map_append]
  rfl
def wcG (xs : List Int) (C j : Nat) (q : Nat) : Int := cel xs C ((q / (C - 1) + 1 : Nat) : Int) (sk j (q % (C - 1)) : Nat)
def wcN (j k : Nat) : Nat := k - (if j < k then 1 else 0)
theorem wcK_tab_row {xs : List Int} {C j i : Nat} (hj : j < C) (hi : 1 ≤ i) (h0 : wcK xs C j (i * C) = tab ((i - 1) * (C - 1)) (wcG xs C j)) : ∀ k, k ≤ C → wcK xs C j (i * C + k) = tab ((i - 1) * (C - 1) + wcN j k) (wcG xs C j)
  | 0, _ => by
    have : wcN j 0 = 0 := by unfold wcN; omega
    rw [this, Nat.add_zero, Nat.add_zero]; exact h0
  | k + 1, hk => by
    have ih := wcK_tab_row hj hi h0 k (by omega)
    by_cases hc : k = j
    · have : wcN j (k + 1) = wcN j k := by unfold wcN; subst hc; rw [if_pos (by omega), if_neg (by omega)]; omega
      rw [wcK_no (by omega) (.inr hc), ih, this]
    · have e1 : wcN j (k + 1) = wcN j k + 1 := by unfold wcN; repeat' split
                                                  all_goals omega
      have e2 : wcN j k < C - 1 := by unfold wcN; split <;> omega
      have e3 : sk j (wcN j k) = k := by unfold sk wcN; repeat' split
                                         all_goals omega
      rw [wcK_yes (by omega) (by omega) hc, ih, e1, ← Nat.add_assoc, tab_succ]
      congr 2
      unfold wcG
      rw [(idx_div e2).1, (idx_div e2).2, e3, Nat.sub_add_cancel hi, cel_nat]
theorem wcK_tab {xs : List Int} {C j : Nat} (hj : j < C) : ∀ i, 1 ≤ i → wcK xs C j (i * C) = tab ((i - 1) * (C - 1)) (wcG xs C j)
  | 0, h => absurd h (by omega)
  | 1, _ => by
    have := wcK_len (xs := xs) hj 1
    rw [Nat.sub_self, Nat.zero_mul] at this ⊢
    exact List.length_eq_zero_iff.1 this
  | i + 2, _ => by
    have ih := wcK_tab (xs := xs) hj (i + 1) (by omega)
    have h := wcK_tab_row hj (by omega) ih C (Nat.le_refl _)
    have e : (i + 2) * C = (i + 1) * C + C := by rw [show i + 2 = (i + 1) + 1 by omega, Nat.add_mul (i + 1) 1 C, Nat.one_mul]
    have e2 : wcN j C = C - 1 := by unfold wcN; rw [if_pos hj]
    rw [e, h, e2]
    congr 1
    rw [show i + 1 - 1 = i by omega, show i + 2 - 1 = i + 1 by omega, Nat.add_mul, Nat.one_mul]
theorem wc_cel {xs : List Int} {n j a b : Nat} (hj : j < n + 1) (ha : a < n) (hb : b < n) : cel (wcK xs (n + 1) j ((n + 1) * (n + 1))) n a b = mnr (fun i j => cel xs (n + 1 : Nat) i j) j a b := by
  have h := wcK_tab (xs := xs) hj (n + 1) (by omega)
  rw [h, cel_nat, Nat.add_sub_cancel, tab_getD (idx_nat ha hb)]
  unfold wcG
  rw [Nat.add_sub_cancel, (idx_div hb).1, (idx_div hb).2]
  rfl
theorem wc_len {xs : List Int} {n j : Nat} (hj : j < n + 1) : (wcK xs (n + 1) j ((n + 1) * (n + 1))).length = n * n := by
  rw [wcK_len hj (n + 1), Nat.add_sub_cancel]
theorem detS_sum {n : Nat} {D : List Int → Option Int} (hD : ∀ ys d, ys.length = n * n → D ys = some d → d = Dt n (fun i j => cel ys n i j)) {xs : List Int} :
    ∀ j s, j ≤ n + 1 → detS D (n + 1) xs j = some s → s = sumTo (fun k => sg k * cel xs (n + 1 : Nat) (0 : Nat) k * Dt n (mnr (fun i j => cel xs (n + 1 : Nat) i j) k)) j
  | 0, s, _, h => by cases h; rfl
  | j + 1, s, hj, h => by
    have h' : (detS D (n + 1) xs j).bind (fun s => if xs.getD j 0 = 0 then some s else (D (wcK xs (n + 1) j ((n + 1) * (n + 1)))).bind fun d => some (s + (if j % 2 = 1 then -(xs.getD j 0) else xs.getD j 0) * d)) = some s := h
    rcases hs : detS D (n + 1) xs j with _ | s0
    · rw [hs] at h'; cases h'
    · rw [hs] at h'
      have ih := detS_sum hD j s0 (by omega) hs
      have ec : cel xs (n + 1 : Nat) (0 : Nat) j = xs.getD j 0 := by rw [cel_nat, Nat.zero_mul, Nat.zero_add]
      rw [sumTo_succ, ← ih, ec]
      simp only [Option.bind_some] at h'
      by_cases h0 : xs.getD j 0 = 0
      · rw [if_pos h0] at h'
        cases h'
        rw [h0]
        grind
      · rw [if_neg h0] at h'
        rcases hd : D (wcK xs (n + 1) j ((n + 1) * (n + 1))) with _ | d
        · rw [hd] at h'; cases h'
        · rw [hd] at h'
          simp only [Option.bind_some] at h'
          have e := hD _ d (wc_len (by omega)) hd
          have e2 : Dt n (fun a b => cel (wcK xs (n + 1) j ((n + 1) * (n + 1))) n a b) = Dt n (mnr (fun i j => cel xs (n + 1 : Nat) i j) j) := Dt_congr n fun a b ha hb => wc_cel (by omega) ha hb
          rw [e2] at e
          cases h'
          rw [e]
          unfold sg
          split
          · grind
          · grind
/-- The determinant that is found is the determinant. -/
theorem detL_Dt : ∀ (n : Nat) (xs : List Int) (d : Int), xs.length = n * n → detL n xs = some d → d = Dt n (fun i j => cel xs n i j)
  | 0, xs, d, _, h => by cases h; rfl
  | n + 1, xs, d, hl, h => by
    unfold detL at h
    rcases hs : detS (detL n) (n + 1) xs (n + 1) with _ | s
    · rw [hs] at h; cases h
    · rw [hs] at h
      simp only [Option.bind_some] at h
      split at h
      · cases h
        have := detS_sum (fun ys d hy hd => detL_Dt n ys d hy hd) (n + 1) _ (Nat.le_refl _) hs
        rw [this]
        rfl
      · cases h
end Go.Proofs.Ytlggfmfelakadaa

/-
  DERIVED. The builtin copy of ints onto a window of an owned block.
-/
namespace Go.Proofs.Ytlggfmfelakadaa
open Go.RowKit
set_option linter.unusedVariables false
theorem splL_nil (xs : List Int) (off : Nat) : splL xs off [] = xs := by simp [splL]
theorem run_copy_win (w : World) (B : Nat) (ty : TypeId) (Av : Option Addr) (n cap : Nat) (xs : List Int) (hown : OR w B (.slice Av n cap) xs) (off m dL dCap sCap : Nat) (hdL : m ≤ dL) (dp A : Option Addr) (C : Nat) (ys : List Int) (hr : RI w C A m ys)
    (hfit : off + m ≤ xs.length) (hd : 0 < m → dp = Av.map fun x => x.add off) :
    ∃ w', (Builtin.copy_ #[24, 24] ty #[.slice dp dL dCap, .slice A m sCap]).run Try.prog w = .ok (goInt m) w' ∧ OR w' B (.slice Av n cap) (splL xs off ys) ∧ w.grownBy w' (Value.slice Av n cap).ownBlock ∧ w.heap.size = w'.heap.size := by
  obtain ⟨i0, hi, hz0, hz1, hz2⟩ := info_parts int_info
  have hs : (Try.prog.info? 3).map (·.size) = some 1 := by rw [hi]; simp [hz1]
  have hl := hr.len
  by_cases h0 : m = 0
  · subst h0
    have hn : ys = [] := List.eq_nil_of_length_eq_zero hl
    subst hn
    refine ⟨w, ?_, by rw [splL_nil]; exact hown, World.grownBy.refl w _, rfl⟩
    exact run_copy_none (P := Try.prog) w 24 24 ty 3 dp A dL dCap 0 sCap Try.underlying24 hs (by simp)
  · obtain ⟨b, o, rfl, hbb, hc⟩ := hr.2 (by omega)
    rcases hown.2 with ⟨h1, h2⟩ | ⟨g, cap', cur, h1, hbg, hg, hnc, hcm, hcs, htake⟩
    · omega
    · injection h1 with e1 e2 e3
      subst e1; subst e2; subst e3
      have e4 := hd (by omega)
      simp only [Option.map_some, addr_add, Nat.zero_add] at e4
      subst e4
      have hcells : ∀ j u, (ys.map (Value.int .i64))[j]? = some u → w.cell? ((⟨b, o, none⟩ : Addr).add j) = some u := by
        intro j u hu
        have hj : j < ys.length := by
          have := (List.getElem?_eq_some_iff.1 hu).1
          simpa using this
        rw [addr_add, hc j (by omega)]
        simp [hj] at hu
        simp [List.getD, hj, hu]
      have hcz : cur.size = cap := by rw [hcs, Nat.mul_one]
      have hone : ∀ v ∈ ys.map (Value.int .i64), v.oneCell' = true := by
        intro u hu
        obtain ⟨y, _, rfl⟩ := List.mem_map.1 hu
        rfl
      have hrun := run_copy_row (P := Try.prog) w 24 24 ty 3 g off dL dCap ⟨b, o, none⟩ m sCap cur 3 (ys.map (Value.int .i64)) Try.underlying24 hs hg (by rw [List.length_map, hl]; exact (Nat.min_eq_left hdL).symm) hcells (by simp [hl]; omega) hone
      have e5 : (ys.map (Value.int .i64)).length = m := by simp [hl]
      rw [e5] at hrun
      refine ⟨_, hrun, ⟨by simp, .inr ⟨g, cap, _, by rw [splL_len (by omega)], hbg, setRow_heap w g cur _ _ _ hg, by rw [splL_len (by omega)]; exact hnc, hcm, ?_, ?_⟩⟩, ⟨rfl, rfl, rfl, by simp, fun k _ hk => setRow_other w g k _ (fun e => hk (by simp [Value.ownBlock, e]))⟩, by simp⟩
      · simp only [List.size_toArray, List.length_append, List.length_take, List.length_drop, Array.length_toList, e5]
        omega
      · have ht : cur.toList.take xs.length = xs.map (Value.int .i64) := by simpa using htake
        have e6 : cur.toList = xs.map (Value.int .i64) ++ cur.toList.drop xs.length := by rw [← ht, List.take_append_drop]
        rw [splL_len (by omega), Nat.mul_one]
        unfold splL
        rw [e6]
        have e7 : (xs.map (Value.int .i64)).length = xs.length := by simp
        rw [List.take_append_of_le_length (i := off) (l₁ := xs.map (Value.int .i64)) (by omega), List.drop_append_of_le_length (i := off + m) (l₁ := xs.map (Value.int .i64)) (by omega)]
        have e8 : (List.take off (xs.map (Value.int .i64)) ++ ys.map (Value.int .i64) ++ (List.drop (off + m) (xs.map (Value.int .i64)) ++ cur.toList.drop xs.length)) = (List.take off (xs.map (Value.int .i64)) ++ ys.map (Value.int .i64) ++ List.drop (off + m) (xs.map (Value.int .i64))) ++ cur.toList.drop xs.length := by simp only [List.append_assoc]
        rw [show ∀ l : List Value, l.toArray.toList = l from fun _ => rfl, e8, List.take_append_of_le_length (by simp [hl]; omega), List.take_of_length_le (by simp [hl]; omega)]
        simp [hl]
theorem OR.win {w : World} {B g n cap off m : Nat} {xs : List Int} (h : OR w B (.slice (some ⟨g, 0, none⟩) n cap) xs) (hf : off + m ≤ xs.length) : RI w (g + 1) (some ⟨g, off, none⟩) m (winL xs off m) :=
  ⟨winL_len hf, fun _ => ⟨g, off, rfl, by omega, fun k hk => by rw [winL_getD hk]; exact h.cell (off + k) (by omega)⟩⟩
section
variable (w : World)
theorem step_copy_win {ops : Array Oper} {o : Oper} {a : Act} {K : Act → World → Prop} {Q : Exit → Act → World → Prop} {E : Prop} (hgd : o.guard = none) (d s : Operand)
    (ho : o.op = .call { callee := .builtin .copy, args := #[d, s], argTypes := #[24, 24] })
    (B : Nat) (Av : Option Addr) (n cap : Nat) (xs : List Int) (hown : OR w B (.slice Av n cap) xs) (off m dL dCap sCap : Nat) (hdL : m ≤ dL) (dp A : Option Addr) (hdv : a.eval d = .slice dp dL dCap) (hsv : a.eval s = .slice A m sCap) (C : Nat) (ys : List Int) (hr : RI w C A m ys)
    (hfit : off + m ≤ xs.length) (hd : 0 < m → dp = Av.map fun x => x.add off)
    (h : ∀ w', OR w' B (.slice Av n cap) (splL xs off ys) → w.grownBy w' (Value.slice Av n cap).ownBlock → w.heap.size = w'.heap.size → K (a.put o.dst (goInt m)) w') :
    if Region.wanted o (yielded ops a.tmps) = true then Oper.wp Try.prog o a w K Q else E := by
  have hw : Region.wanted o (yielded ops a.tmps) = true := by simp [Region.wanted, hgd]
  rw [if_pos hw]
  obtain ⟨w', hrun, h2, h3, h4⟩ := run_copy_win w B o.type Av n cap xs hown off m dL dCap sCap hdL dp A C ys hr hfit hd
  unfold Oper.wp execOp
  simp only [ho, resolve, invoke, builtin, Sem.run_bind, Sem.run_pure, Result.andThen_ok, List.map_toArray, List.map_cons, List.map_nil, hdv, hsv, hrun]
  exact h w' h2 h3 h4
end
end Go.Proofs.Ytlggfmfelakadaa

/-
  DERIVED. RatioFrom: the search of the program and the algorithm of the reference come to one ratio.
-/
namespace Go.Proofs.Ytlggfmfelakadaa
open Go.RowKit
set_option linter.unusedVariables false
/-- The search over the denominators from d on. -/
def rfI (a m b : Int) : Nat → Int → Option (Int × Int)
  | 0, _ => none
  | k + 1, d => if (symOf (a * d % m) m).natAbs ≤ b ∧ imgOk (symOf (a * d % m) m) d a m = true then some (symOf (a * d % m) m, d) else rfI a m b k (d + 1)
/-- What the reference makes of the algorithm's end. -/
def rfEnd (a m b : Int) (r : Int × Int) : Option (Int × Int) :=
  if r.2 < 0 then (if b < -r.2 ∨ imgOk (-r.1) (-r.2) a m = false then none else some (-r.1, -r.2)) else (if b < r.2 ∨ imgOk r.1 r.2 a m = false then none else some r)
structure RfOk (a m b : Int) : Prop where
  a1 : -400000000 ≤ a
  a2 : a ≤ 400000000
  m1 : 1 ≤ m
  m2 : m ≤ 400000000
  b1 : 1 ≤ b
  b2 : b ≤ 20000
  bm : 2 * b * b < m
theorem good_iff {a m b : Int} (g : RfOk a m b) (n d : Int) : Good a m b n d ↔ (1 ≤ d ∧ d ≤ b) ∧ (n.natAbs : Int) ≤ b ∧ imgOk n d a m = true := by
  rw [imgOk_iff, ratOk_iff]
  have hb := g.b2
  constructor
  · intro h
    have h1 := h.d1
    have h2 := h.d2
    have h3 := h.n1
    have h4 := h.n2
    exact ⟨⟨h1, h2⟩, by omega, ⟨⟨h1, by omega⟩, ⟨by omega, by omega⟩, h.co⟩, ⟨g.a1, g.a2⟩, ⟨g.m1, g.m2⟩, h.cm, Int.emod_eq_zero_of_dvd h.im⟩
  · rintro ⟨⟨h1, h2⟩, h3, ⟨_, _, h4⟩, _, _, h5, h6⟩
    exact ⟨h1, h2, by omega, by omega, h4, h5, Int.dvd_of_emod_eq_zero h6⟩
theorem symOf_of {m b n y : Int} (hm : 1 ≤ m) (hb : 2 * b < m) (h1 : -b ≤ n) (h2 : n ≤ b) (hd : m ∣ y - n) : symOf (y % m) m = n := by
  unfold symOf
  rw [Int.emod_emod]
  have e0 := Int.emod_nonneg y (show m ≠ 0 by omega)
  have e1 := Int.emod_lt_of_pos y (show 0 < m by omega)
  have e2 := Int.mul_ediv_add_emod y m
  have e3 : m ∣ y % m - n := by
    have : y % m - n = (y - n) - m * (y / m) := by omega
    rw [this]
    exact Int.dvd_sub hd ⟨_, rfl⟩
  rcases Int.lt_or_le n 0 with hn | hn
  · have e4 : m ∣ y % m - n - m := Int.dvd_sub e3 (Int.dvd_refl m)
    have := small_of_dvd e4 (by omega) (by omega)
    rw [if_pos (by omega)]; omega
  · have := small_of_dvd e3 (by omega) (by omega)
    rw [if_neg (by omega)]; omega
theorem two_b {a m b : Int} (g : RfOk a m b) : 2 * b < m := by
  have h1 := g.b1
  have h2 := g.bm
  have h3 : b * 1 ≤ b * b := Int.mul_le_mul_of_nonneg_left h1 (by omega)
  have h4 : 2 * b * b = 2 * (b * b) := by rw [Int.mul_assoc]
  omega
theorem Good.cond {a m b n d : Int} (g : RfOk a m b) (h : Good a m b n d) : symOf (a * d % m) m = n := symOf_of g.m1 (two_b g) h.n1 h.n2 h.im
theorem rfI_some {a m b : Int} (g : RfOk a m b) : ∀ (k : Nat) (d0 : Int) (r : Int × Int), 1 ≤ d0 → d0 + k ≤ b + 1 → rfI a m b k d0 = some r → Good a m b r.1 r.2
  | 0, d0, r, _, _, h => by simp [rfI] at h
  | k + 1, d0, r, h0, h1, h => by
    unfold rfI at h
    split at h
    · rename_i hc
      injection h with h
      subst h
      exact (good_iff g _ _).2 ⟨⟨h0, by omega⟩, hc.1, hc.2⟩
    · exact rfI_some g k (d0 + 1) r (by omega) (by omega) h
theorem rfI_none {a m b : Int} (g : RfOk a m b) : ∀ (k : Nat) (d0 : Int), rfI a m b k d0 = none → ∀ n d, Good a m b n d → d0 ≤ d → d < d0 + k → False
  | 0, d0, _, n, d, _, h1, h2 => by omega
  | k + 1, d0, h, n, d, hg, h1, h2 => by
    unfold rfI at h
    split at h
    · cases h
    · rename_i hc
      by_cases he : d = d0
      · subst he
        apply hc
        rw [hg.cond g]
        exact ((good_iff g _ _).1 hg).2
      · exact rfI_none g k (d0 + 1) h n d hg (by omega) (by omega)
theorem rf_eq {a m b : Int} (g : RfOk a m b) : rfEnd a m b (rfS b m 0 (a % m) 1) = rfI a m b b.toNat 1 := by
  obtain ⟨G, X, H, U, S, hr, i, hb⟩ := rfS_spec (a := a) (m := m) (b := b) (by have := g.b1; omega) _ _ _ _ _ _ (Nat.le_refl _) (RfInv.start g.m1 (by have := two_b g; have := g.b1; omega))
  rw [hr]
  have hb1 := g.b1
  rcases hI : rfI a m b b.toNat 1 with _ | r
  · -- none is good
    have hno := fun n d (hg : Good a m b n d) => rfI_none g _ _ hI n d hg hg.d1 (by have := hg.d2; omega)
    unfold rfEnd
    have key : ∀ n d : Int, (n.natAbs : Int) ≤ b → ¬ (1 ≤ d ∧ d ≤ b ∧ imgOk n d a m = true) := fun n d hn hd => hno n d ((good_iff g n d).2 ⟨⟨hd.1, hd.2.1⟩, hn, hd.2.2⟩)
    have pos : ∀ n d : Int, imgOk n d a m = true → 1 ≤ d := fun n d h => (ratOk_bds ((imgOk_iff _ _ _ _).1 h).1).1
    have hh0 := i.h0
    dsimp only
    split
    · rw [if_pos]
      rcases hi : imgOk (-H) (-U) a m with _ | _
      · exact .inr rfl
      · left
        have k1 := key (-H) (-U) (by omega)
        have k2 := pos _ _ hi
        rcases Int.lt_or_le b (-U) with k3 | k3
        · exact k3
        · exact absurd ⟨k2, k3, hi⟩ k1
    · rw [if_pos]
      rcases hi : imgOk H U a m with _ | _
      · exact .inr rfl
      · left
        have k1 := key H U (by omega)
        have k2 := pos _ _ hi
        rcases Int.lt_or_le b U with k3 | k3
        · exact k3
        · exact absurd ⟨k2, k3, hi⟩ k1
  · have hg := rfI_some g _ _ r (by omega) (by omega) hI
    obtain ⟨e1, e2⟩ := hg.found g.m1 g.b1 g.bm i hb
    obtain ⟨n, d⟩ := r
    dsimp only at e1 e2 hg
    have hi := ((good_iff g n d).1 hg).2.2
    have h1 := hg.d1
    have h2 := hg.d2
    unfold rfEnd
    dsimp only
    rcases i.sg with rfl | rfl
    · have e1' : n = H := by omega
      have e2' : d = U := by omega
      clear e1 e2
      subst e1'; subst e2'
      have hc : ¬ (b < d ∨ imgOk n d a m = false) := by
        rw [hi]; simp; omega
      rw [if_neg (by omega), if_neg hc]
    · have e1' : n = -H := by omega
      have e2' : d = -U := by omega
      clear e1 e2
      subst e1'; subst e2'
      have hc : ¬ (b < -U ∨ imgOk (-H) (-U) a m = false) := by
        rw [hi]; simp; omega
      rw [if_pos (by omega), if_neg hc]
end Go.Proofs.Ytlggfmfelakadaa

/-
  DERIVED. The contracts of inverseAny, InverseModulo and ResidueOf.
-/
namespace Go.Proofs.Ytlggfmfelakadaa
open Go.RowKit
set_option linter.unusedVariables false
/-- The inverse that Euclid's algorithm finds. -/
def invOf (a m : Int) : Int := (egRes (a % m) m).2.1 % m
theorem emod_bds (a m : Int) (hm : 1 ≤ m) : 0 ≤ a % m ∧ a % m < m := ⟨Int.emod_nonneg a (by omega), Int.emod_lt_of_pos a (by omega)⟩
theorem egRes_bds {a b : Int} (ha : -400000000 ≤ a ∧ a ≤ 400000000) (hb : -400000000 ≤ b ∧ b ≤ 400000000) :
    (-400000000 ≤ (egRes a b).1 ∧ (egRes a b).1 ≤ 400000000) ∧ (-400000000 ≤ (egRes a b).2.1 ∧ (egRes a b).2.1 ≤ 400000000) ∧ (-400000000 ≤ (egRes a b).2.2 ∧ (egRes a b).2.2 ≤ 400000000) := by
  obtain ⟨G, X, Y, U, V, hr, i⟩ := egL_spec (a := a) (b := b) (by omega) (by omega) _ _ _ _ _ _ _ (Nat.le_refl _) (EgInv.start ha hb)
  have g1 := i.g1
  have x1 := i.x1
  have y1 := i.y1
  unfold egRes
  rw [hr]
  dsimp only
  split
  · exact ⟨by dsimp only; omega, by dsimp only; omega, by dsimp only; omega⟩
  · exact ⟨by dsimp only; omega, by dsimp only; omega, by dsimp only; omega⟩

theorem impl_inverseAny (a m : Int) (ha : -9223372036854775808 ≤ a ∧ a ≤ 9223372036854775807) (hm : 1 ≤ m ∧ m ≤ 400000000) (w : World) :
    Calls Try.prog 110 #[.int .i64 a, .int .i64 m] w (BV (.int .i64 (invOf a m)) w) := by
  obtain ⟨m1, m2⟩ := emod_bds a m hm.1
  obtain ⟨_, ⟨x1, x2⟩, _⟩ := egRes_bds (a := a % m) (b := m) (by omega) (by omega)
  go_enter Try.func110, Try.ntmps110
  go_wp2_with (first | (go_at_call 108; refine (impl_mod _ _ _ (by omega) (by omega) (by omega) (by omega)).mono ?_; rintro e w' ⟨rfl, rfl⟩) | (go_at_call 126; refine (impl_ExtendedGcd _ _ (by omega) (by omega) _).mono ?_; rintro e w1 ⟨rfl, hb⟩; simp only [egV]; have hz := hb.size; (try simp at hz); have kk := bkeep (w := w) hb Ks; obtain ⟨kc, kf⟩ := kk; (try (have kk := bkeepb (w.heap.size) hb Ks; obtain ⟨kc0, kf0, kl0⟩ := kk)); (try (have kk := bkeepb (w.heap.size + 1) hb Ks; obtain ⟨kc1, kf1, kl1⟩ := kk)); (try (have kk := bkeepb (w.heap.size + 1 + 1) hb Ks; obtain ⟨kc2, kf2, kl2⟩ := kk)); (try (have kk := bkeepb (w.heap.size + 1 + 1 + 1) hb Ks; obtain ⟨kc3, kf3, kl3⟩ := kk)); (try (have kk := bkeepb (wr.heap.size) hb Ks; obtain ⟨kr0, ks0, kt0⟩ := kk)); (try (have kk := bkeepb (wr.heap.size + 1) hb Ks; obtain ⟨kr1, ks1, kt1⟩ := kk)); (try (have kk := bkeepb (wr.heap.size + 1 + 1) hb Ks; obtain ⟨kr2, ks2, kt2⟩ := kk))))
  go_ret
  exact BV.mk rfl Kw

def invOk (a p : Int) : Bool := isPr p && isNum a && decide (a % p ≠ 0)
def invRes (a p : Int) : Int := if invOk a p then invOf a p else 0
theorem isPr_bds {p : Int} (h : isPr p = true) : 2 ≤ p ∧ p ≤ 10000 := by
  simp only [isPr, Bool.and_eq_true, decide_eq_true_eq] at h
  exact h.1
theorem inv_cases (a p : Int) : (isPr p = false ∧ invOk a p = false ∧ invRes a p = 0) ∨ (isPr p = true ∧ isNum a = false ∧ invOk a p = false ∧ invRes a p = 0) ∨
    (isPr p = true ∧ isNum a = true ∧ (a % p == 0) = true ∧ (a.tmod p == 0) = true ∧ invOk a p = false ∧ invRes a p = 0) ∨
    (isPr p = true ∧ isNum a = true ∧ (a % p == 0) = false ∧ (a.tmod p == 0) = false ∧ invOk a p = true ∧ invRes a p = invOf a p) := by
  unfold invRes
  rcases hp : isPr p with _ | _
  · left; simp [invOk, hp]
  · rcases hn : isNum a with _ | _
    · right; left; simp [invOk, hp, hn]
    · right; right
      have ht := tmod_zero_iff a p
      by_cases h0 : a % p = 0
      · left; simp [invOk, hp, hn, h0]; omega
      · right; simp [invOk, hp, hn, h0]; omega

theorem spec_InverseModulo (a p : Int) (ha : -9223372036854775808 ≤ a ∧ a ≤ 9223372036854775807) (w : World) :
    Calls Try.prog 129 #[.int .i64 a, .int .i64 p] w (BV (.tuple #[.int .i64 (invRes a p), .bool (invOk a p)]) w) := by
  rcases inv_cases a p with ⟨hp, h1, h2⟩ | ⟨hp, hn, h1, h2⟩ | ⟨hp, hn, h3, h4, h1, h2⟩ | ⟨hp, hn, h3, h4, h1, h2⟩
  · rw [h1, h2]
    clear h1 h2
    go_enter Try.func129, Try.ntmps129
    go_wp2_with (first | (go_at_call 127; refine (spec_IsPrime _ _).mono ?_; rintro e w' ⟨rfl, rfl⟩))
    go_ret2
    exact BV.mk rfl Kw
  all_goals
    rw [h1, h2]
    clear h1 h2
    obtain ⟨p1, p2⟩ := isPr_bds hp
    obtain ⟨m1, m2⟩ := emod_bds a p (by omega)
    obtain ⟨_, ⟨x1, x2⟩, _⟩ := egRes_bds (a := a % p) (b := p) (by omega) (by omega)
    go_enter Try.func129, Try.ntmps129
    go_wp2_with (first | (go_at_call 127; refine (spec_IsPrime _ _).mono ?_; rintro e w' ⟨rfl, rfl⟩) | (go_at_call 111; (first | refine (spec_IsNumber_yes _ _ (by omega)).mono ?_ | refine (spec_IsNumber_no _ _ (by omega)).mono ?_ | refine (spec_IsNumber _ _).mono ?_); rintro e w' ⟨rfl, rfl⟩) | (go_at_call 75; refine (spec_l8Mod _ _ _ (by omega) (by omega) (by omega) (by omega)).mono ?_; rintro e w' ⟨rfl, rfl⟩) | (go_at_call 135; refine (spec_ExtendedGcd _ _ (by omega) (by omega) _).mono ?_; rintro e w1 ⟨rfl, hb⟩; simp only [egV]; have hz := hb.size; (try simp at hz); have kk := bkeep (w := w) hb Ks; obtain ⟨kc, kf⟩ := kk; (try (have kk := bkeepb (w.heap.size) hb Ks; obtain ⟨kc0, kf0, kl0⟩ := kk)); (try (have kk := bkeepb (w.heap.size + 1) hb Ks; obtain ⟨kc1, kf1, kl1⟩ := kk)); (try (have kk := bkeepb (w.heap.size + 1 + 1) hb Ks; obtain ⟨kc2, kf2, kl2⟩ := kk)); (try (have kk := bkeepb (w.heap.size + 1 + 1 + 1) hb Ks; obtain ⟨kc3, kf3, kl3⟩ := kk)); (try (have kk := bkeepb (wr.heap.size) hb Ks; obtain ⟨kr0, ks0, kt0⟩ := kk)); (try (have kk := bkeepb (wr.heap.size + 1) hb Ks; obtain ⟨kr1, ks1, kt1⟩ := kk)); (try (have kk := bkeepb (wr.heap.size + 1 + 1) hb Ks; obtain ⟨kr2, ks2, kt2⟩ := kk))))
    go_ret2
    exact BV.mk rfl Kw

def resOk (n d m : Int) : Bool := ratOk n d && decide (1 ≤ m) && decide (m ≤ 400000000) && decide (Int.gcd d m = 1)
def resVal (n d m : Int) : Int := if resOk n d m then (n % m * invOf d m) % m else 0
theorem res_cases (n d m : Int) : (ratOk n d = false ∧ resOk n d m = false ∧ resVal n d m = 0) ∨ (ratOk n d = true ∧ m < 1 ∧ resOk n d m = false ∧ resVal n d m = 0) ∨
    (ratOk n d = true ∧ 1 ≤ m ∧ 400000000 < m ∧ resOk n d m = false ∧ resVal n d m = 0) ∨
    (ratOk n d = true ∧ 1 ≤ m ∧ m ≤ 400000000 ∧ (((Int.gcd d m : Nat) : Int) != 1) = true ∧ resOk n d m = false ∧ resVal n d m = 0) ∨
    (ratOk n d = true ∧ 1 ≤ m ∧ m ≤ 400000000 ∧ (((Int.gcd d m : Nat) : Int) != 1) = false ∧ resOk n d m = true ∧ resVal n d m = (n % m * invOf d m) % m) := by
  unfold resVal
  rcases hr : ratOk n d with _ | _
  · left; simp [resOk, hr]
  · right
    by_cases h1 : m < 1
    · left
      have : ¬ 1 ≤ m := by omega
      simp [resOk, hr, h1, this]
    · right
      by_cases h2 : 400000000 < m
      · left
        have : ¬ m ≤ 400000000 := by omega
        simp [resOk, hr, h2, this]; omega
      · right
        have a1 : 1 ≤ m := by omega
        have a2 : m ≤ 400000000 := by omega
        by_cases h3 : Int.gcd d m = 1
        · right; simp [resOk, hr, h3, a1, a2]
        · left
          simp [resOk, hr, h3, a1, a2]; omega
theorem ret_prod (a b m : Int) : a * b % m = b * a % m := by rw [Int.mul_comm]

end Go.Proofs.Ytlggfmfelakadaa

/-
  DERIVED. makePrimitive of the program, in a window of an owned block.
-/
namespace Go.Proofs.Ytlggfmfelakadaa
open Go.RowKit
set_option linter.unusedVariables false
set_option linter.unusedSimpArgs false
theorem gcdF_le (l : List Int) (M : Nat) (h : ∀ x ∈ l, x.natAbs ≤ M) : ∀ a : Nat, a ≤ M → l.foldl (fun (g : Nat) (x : Int) => Int.gcd g x) a ≤ M := by
  induction l with
  | nil => intro a ha; simpa using ha
  | cons y l ih =>
    intro a ha
    refine ih (fun x hx => h x (List.mem_cons_of_mem _ hx)) _ ?_
    show Int.gcd a y ≤ M
    by_cases hy : y = 0
    · subst hy; simpa using ha
    · have h1 : Int.gcd a y ∣ y.natAbs := Int.gcd_dvd_natAbs_right ..
      have h2 := Nat.le_of_dvd (by omega) h1
      have := h y (List.mem_cons_self ..)
      omega
theorem RI.window {w : World} {B g n cap off m : Nat} {xs : List Int} (h : OR w B (.slice (some ⟨g, 0, none⟩) n cap) xs) (hw : off + m ≤ xs.length) : RI w (g + 1) (some ⟨g, off, none⟩) m (winL xs off m) :=
  ⟨winL_len hw, fun _ => ⟨g, off, rfl, by omega, fun k hk => by rw [winL_getD hk]; exact h.cell (off + k) (by omega)⟩⟩
set_option maxHeartbeats 4000000 in
theorem impl_makePrimitive (g off m capv n cap : Nat) (xs : List Int) (w : World) {B : Nat} (h : OR w B (.slice (some ⟨g, 0, none⟩) n cap) xs) (hw : off + m ≤ xs.length) (hm : m ≤ 1000) (hb : ∀ k, -400000000 ≤ xs.getD k 0 ∧ xs.getD k 0 ≤ 400000000) :
    Calls Try.prog 120 #[.slice (some ⟨g, off, none⟩) m capv] w (WU (.slice (some ⟨g, 0, none⟩) n cap) B (splL xs off (primL (winL xs off m))) w) := by
  have HB := Lib.hid hb
  clear hb
  have HX : Hid (∀ k, k < m → w.cell? ⟨g, off + k, none⟩ = some (.int .i64 ((winL xs off m).getD k 0))) := Lib.hid (fun k hk => by rw [winL_getD hk]; exact h.cell (off + k) (by omega))
  have HLB : Hid (∀ k, -400000000 ≤ (winL xs off m).getD k 0 ∧ (winL xs off m).getD k 0 ≤ 400000000) := Lib.hid (fun k => by
    by_cases hk : k < m
    · rw [winL_getD hk]; exact HB.out _
    · simp [List.getD, List.getElem?_eq_none (show (winL xs off m).length ≤ k by rw [winL_len hw]; omega)])
  have HGL : Hid (∀ k, gcdL ((winL xs off m).take k) ≤ 400000000) := Lib.hid (fun k => by
    refine gcdF_le _ 400000000 (fun x hx => ?_) 0 (by omega)
    have h1 := List.mem_of_mem_take hx
    obtain ⟨i, hi, rfl⟩ := List.mem_iff_getElem.1 h1
    have h2 := HLB.out i
    have h3 : (winL xs off m).getD i 0 = (winL xs off m)[i] := by simp [List.getD, hi]
    rw [h3] at h2; omega)
  have HWL : Hid ((winL xs off m).length = m) := Lib.hid (winL_len hw)
  have HSW : Hid (splL xs off (winL xs off m) = xs) := Lib.hid (splL_win hw)
  have H := Lib.hid h
  have hlt : g < w.heap.size := by
    rcases h.form with ⟨h1, _⟩ | ⟨g', cap', h1, _, h3, _⟩
    · cases h1
    · injection h1 with e1 e2 e3; injection e1 with e1; injection e1 with e1; subst e1; exact h3
  clear h
  generalize winL xs off m = l at *
  go_enter Try.func120, Try.ntmps120
  go_wp2
  go_loopw [2, 8] (fun u v wr => ∃ k nd : Nat, v = .int .i64 k ∧ u = .int .i64 (gcdL (l.take k) : Nat) ∧ k ≤ m ∧ wr = w.drewN nd) (fun _ v _ => m - (intOf v).toNat)
  case atStart => exact ⟨0, 0, rfl, by simp [gcdL], Nat.zero_le _, rfl⟩
  case round =>
    obtain ⟨k, nd, rfl, rfl, hk, rfl⟩ := hrel
    have hg1 := HGL.out k
    by_cases hkm : k < m
    · have c1 := HX.out k hkm
      obtain ⟨y1, y2⟩ := HLB.out k
      have hst := Lib.hid (gcdL_take (l := l) (k := k) (by have := HWL.out; omega))
      generalize gcdL (l.take k) = q at *
      generalize l.getD k 0 = y at *
      go_wp2_with (first | (go_at_call 121; refine (impl_gcd _ _ _ (by omega) (by omega) (by omega) (by omega)).mono ?_; rintro e w' ⟨rfl, nd, rfl⟩))
      go_roundw
      case rel => exact ⟨k + 1, _, by go_num, by rw [hst.out], by omega, rfl⟩
      case measure => simp only [intOf]; omega
    · obtain rfl : k = m := by omega
      have htk : l.take k = l := List.take_of_length_le (by have := HWL.out; omega)
      rw [htk] at hg1 ⊢
      clear htk
      by_cases hz : gcdL l = 0
      · have hzb : (((gcdL l : Nat) : Int) == 0) = true := by simp [hz]
        have HE : Hid (splL xs off (primL l) = xs) := Lib.hid (by rw [show primL l = l by unfold primL; rw [if_pos hz]]; exact HSW.out)
        clear hz
        generalize gcdL l = q at *
        go_wp2
        refine bodyPost_ret (v := .tuple #[]) (by simp [results, Try.results120]) rfl ?_
        exact ⟨rfl, by rw [HE.out]; exact H.out.drewN _, World.grownBy.refl w _ |> fun h => only_drewN h _, Nat.le_refl _⟩
      · have hzb : (((gcdL l : Nat) : Int) == 0) = false := by simp; omega
        have hfl := fcN_lt_iff.2 hz
        have hfk : fcN l < k := by have := HWL.out; omega
        have HFI : Hid (fcI l = (fcN l : Int)) := Lib.hid (by unfold fcI; rw [if_pos hfl])
        have c2 := HX.out (fcN l) hfk
        have HPG : Hid (∀ j, j < k → (primL l).getD j 0 = (l.getD j 0).tdiv (divL l)) := Lib.hid (fun j hj => primL_getD (by have := HWL.out; omega) hz)
        have HDV : Hid (divL l = if l.getD (fcN l) 0 < 0 then -(gcdL l : Int) else gcdL l) := Lib.hid rfl
        have hd0 : ¬ divL l = 0 := by have := divL_abs l; intro e; rw [e] at this; simp at this; omega
        have hdb : (divL l).natAbs ≤ 400000000 := by rw [divL_abs]; exact hg1
        obtain ⟨f1, f2⟩ := HLB.out (fcN l)
        generalize l.getD (fcN l) 0 = x0 at *
        have HPL := Lib.hid (primL_len l)
        have hoff : off + k ≤ n := by have := H.out.lenEq; omega
        by_cases hneg : x0 < 0
        · have HD : Hid (divL l = -(gcdL l : Int)) := Lib.hid (by rw [HDV.out, if_pos hneg])
          rw [HD.out] at hd0 hdb
          have HPG2 : Hid (∀ j, j < k → (primL l).getD j 0 = -((l.getD j 0).tdiv (gcdL l : Int))) := Lib.hid (fun j hj => by rw [← Int.tdiv_neg, ← HD.out]; exact HPG.out j hj)
          go_wp2_with fail
          refine (impl_firstCell (some ⟨g, off, none⟩) k capv l _ (B := g + 1) ?_ (by omega)).mono ?_
          · exact (show RI w (g + 1) (some ⟨g, off, none⟩) k l from ⟨HWL.out, fun _ => ⟨g, off, rfl, by omega, fun j hj => HX.out j hj⟩⟩).drewN _
          rw [HFI.out]
          rintro e w' ⟨rfl, rfl⟩
          go_wp2_with fail
          go_loopw [5, 28] (fun _ v wr => ∃ j : Nat, v = .int .i64 j ∧ j ≤ k ∧ OR wr B (.slice (some ⟨g, 0, none⟩) n cap) (splL xs off (mixL (primL l) l j)) ∧ w.grownBy wr (some g) ∧ w.heap.size ≤ wr.heap.size) (fun _ v _ => k - (intOf v).toNat)
          case atStart => exact ⟨0, rfl, Nat.zero_le _, by rw [mixL_zero, HSW.out]; exact H.out.drewN _, only_drewN (World.grownBy.refl w _) _, Nat.le_refl _⟩
          case round =>
            obtain ⟨j, rfl, hj, hown, hgr, hsz⟩ := hrel
            by_cases hjk : j < k
            · have hml := mixL_len HPL.out (show j ≤ l.length by have := HWL.out; omega)
              have hc1 := hown.cell (off + j) (by rw [splL_len (by rw [hml]; have := HWL.out; omega)]; omega)
              rw [splL_getD (by rw [hml]; have := HWL.out; omega) (by rw [hml]; have := HWL.out; omega), mixL_at HPL.out (by have := HWL.out; omega)] at hc1
              have hf1 := hown.frozen (off + j)
              have hst := hown.set_ (off + j) (-((l.getD j 0).tdiv (gcdL l : Int)))
              rw [splL_set (by rw [hml]; have := HWL.out; omega) (by rw [hml]; have := HWL.out; omega), ← HPG2.out j hjk, mixL_set HPL.out (by have := HWL.out; omega), HPG2.out j hjk] at hst
              obtain ⟨y1, y2⟩ := HLB.out j
              have hq := (quo_bd (l.getD j 0) (gcdL l : Int) 0 (by omega) (by omega)).1
              clear hml
              have HST := Lib.hid hst
              clear hst
              generalize l.getD j 0 = y at *
              have hq1 : -400000000 ≤ y.tdiv (gcdL l : Int) ∧ y.tdiv (gcdL l : Int) ≤ 400000000 := by omega
              obtain ⟨hq2, hq3⟩ := hq1
              clear hq
              go_wp2
              go_roundw
              case rel => exact ⟨j + 1, by go_num, by omega, HST.out, only_set hgr _ _, by simpa [World.setCell] using hsz⟩
              case measure => simp only [intOf]; omega
            · have hfin := hown.as (congrArg (splL xs off) (mixL_all HPL.out (show l.length ≤ j by have := HWL.out; omega)))
              clear hown
              go_wp2
              go_end0
              exact ⟨rfl, hfin, hgr, hsz⟩
        · have HD : Hid (divL l = (gcdL l : Int)) := Lib.hid (by rw [HDV.out, if_neg hneg])
          rw [HD.out] at hd0 hdb
          have HPG2 : Hid (∀ j, j < k → (primL l).getD j 0 = (l.getD j 0).tdiv ((gcdL l : Int))) := Lib.hid (fun j hj => by rw [← HD.out]; exact HPG.out j hj)
          go_wp2_with fail
          refine (impl_firstCell (some ⟨g, off, none⟩) k capv l _ (B := g + 1) ?_ (by omega)).mono ?_
          · exact (show RI w (g + 1) (some ⟨g, off, none⟩) k l from ⟨HWL.out, fun _ => ⟨g, off, rfl, by omega, fun j hj => HX.out j hj⟩⟩).drewN _
          rw [HFI.out]
          rintro e w' ⟨rfl, rfl⟩
          go_wp2_with fail
          go_loopw [5, 28] (fun _ v wr => ∃ j : Nat, v = .int .i64 j ∧ j ≤ k ∧ OR wr B (.slice (some ⟨g, 0, none⟩) n cap) (splL xs off (mixL (primL l) l j)) ∧ w.grownBy wr (some g) ∧ w.heap.size ≤ wr.heap.size) (fun _ v _ => k - (intOf v).toNat)
          case atStart => exact ⟨0, rfl, Nat.zero_le _, by rw [mixL_zero, HSW.out]; exact H.out.drewN _, only_drewN (World.grownBy.refl w _) _, Nat.le_refl _⟩
          case round =>
            obtain ⟨j, rfl, hj, hown, hgr, hsz⟩ := hrel
            by_cases hjk : j < k
            · have hml := mixL_len HPL.out (show j ≤ l.length by have := HWL.out; omega)
              have hc1 := hown.cell (off + j) (by rw [splL_len (by rw [hml]; have := HWL.out; omega)]; omega)
              rw [splL_getD (by rw [hml]; have := HWL.out; omega) (by rw [hml]; have := HWL.out; omega), mixL_at HPL.out (by have := HWL.out; omega)] at hc1
              have hf1 := hown.frozen (off + j)
              have hst := hown.set_ (off + j) ((l.getD j 0).tdiv ((gcdL l : Int)))
              rw [splL_set (by rw [hml]; have := HWL.out; omega) (by rw [hml]; have := HWL.out; omega), ← HPG2.out j hjk, mixL_set HPL.out (by have := HWL.out; omega), HPG2.out j hjk] at hst
              obtain ⟨y1, y2⟩ := HLB.out j
              have hq := (quo_bd (l.getD j 0) ((gcdL l : Int)) 0 (by omega) (by omega)).1
              clear hml
              have HST := Lib.hid hst
              clear hst
              generalize l.getD j 0 = y at *
              have hq1 : -400000000 ≤ y.tdiv ((gcdL l : Int)) ∧ y.tdiv ((gcdL l : Int)) ≤ 400000000 := by omega
              obtain ⟨hq2, hq3⟩ := hq1
              clear hq
              go_wp2
              go_roundw
              case rel => exact ⟨j + 1, by go_num, by omega, HST.out, only_set hgr _ _, by simpa [World.setCell] using hsz⟩
              case measure => simp only [intOf]; omega
            · have hfin := hown.as (congrArg (splL xs off) (mixL_all HPL.out (show l.length ≤ j by have := HWL.out; omega)))
              clear hown
              go_wp2
              go_end0
              exact ⟨rfl, hfin, hgr, hsz⟩
end Go.Proofs.Ytlggfmfelakadaa

/-
  DERIVED. What divides all minors stays under operations on rows and columns; of a chain on the diagonal it divides the product of the first ones. No program in sight.
-/
namespace Go.Proofs.Ytlggfmfelakadaa
set_option linter.unusedVariables false
def sub_ (f : Fn2) (a b : Nat → Nat) : Fn2 := fun i j => f (a i) (b j)
/-- d divides all minors of k rows and columns, by the functional F. -/
def GDv (k : Nat) (F : Fn2 → Int) (R C : Nat) (f : Fn2) (d : Int) : Prop := ∀ a b : Nat → Nat, (∀ i, i < k → a i < R) → (∀ j, j < k → b j < C) → d ∣ F (sub_ f a b)
def rowS (g : Fn2) (x : Nat) (v : Nat → Int) : Fn2 := fun i y => if i = x then v y else g i y
section
variable {k R S C x : Nat} {F : Fn2 → Int} {f g : Fn2} {d : Int}
theorem Alt.sum (H : Alt k F) (hx : x < k) {c : Nat → Int} {v : Fn2} : ∀ n, (∀ q, q < n → d ∣ F (rowS g x (v q))) → d ∣ F (rowS g x (fun y => sumTo (fun q => c q * v q y) n))
  | 0, _ => by
    rw [H.zero hx (f := rowS g x fun y => sumTo (fun q => c q * v q y) 0) fun y _ => by unfold rowS; rw [if_pos rfl]; rfl]
    exact Int.dvd_zero _
  | n + 1, h => by
    have h1 := Alt.sum H hx (c := c) (v := v) n fun q hq => h q (by omega)
    have h2 := h n (by omega)
    have h3 := H.lin x (c n) (rowS g x (fun y => sumTo (fun q => c q * v q y) (n + 1))) (rowS g x (fun y => sumTo (fun q => c q * v q y) n)) (rowS g x (v n)) hx (fun y _ => by
      unfold rowS
      rw [if_pos rfl, if_pos rfl, if_pos rfl]
      show sumTo (fun q => c q * v q y) n + c n * v n y = sumTo (fun q => c q * v q y) n + v n y * c n
      rw [Int.mul_comm (c n)]) (fun z y _ _ hne => by unfold rowS; rw [if_neg hne, if_neg hne, if_neg hne]; exact ⟨rfl, rfl⟩)
    rw [h3]
    exact Int.dvd_add h1 (Int.dvd_trans h2 ⟨_, rfl⟩)
theorem GDv.rows (H : Alt k F) (hf : GDv k F R C f d) {b : Nat → Nat} (hb : ∀ j, j < k → b j < C) : ∀ n, n ≤ k → ∀ g : Fn2, (∀ i, i < n → ∃ c : Nat → Int, ∀ y, y < k → g i y = sumTo (fun q => c q * f q (b y)) R) → (∀ i, n ≤ i → i < k → ∃ q, q < R ∧ ∀ y, y < k → g i y = f q (b y)) → d ∣ F g
  | 0, _, g, _, h2 => by
    have hch : ∀ i, ∃ q, i < k → q < R ∧ ∀ y, y < k → g i y = f q (b y) := fun i => by
      by_cases hi : i < k
      · obtain ⟨q, hq⟩ := h2 i (Nat.zero_le _) hi
        exact ⟨q, fun _ => hq⟩
      · exact ⟨0, fun h => absurd h hi⟩
    obtain ⟨a, ha⟩ := Classical.axiomOfChoice hch
    rw [H.congr g (sub_ f a b) fun i y hi hy => (ha i hi).2 y hy]
    exact hf a b (fun i hi => (ha i hi).1) hb
  | n + 1, hn, g, h1, h2 => by
    obtain ⟨c, hc⟩ := h1 n (by omega)
    rw [H.congr g (rowS g n (fun y => sumTo (fun q => c q * f q (b y)) R)) fun i y hi hy => by
      unfold rowS
      by_cases e : i = n
      · subst e; rw [if_pos rfl]; exact hc y hy
      · rw [if_neg e]]
    refine H.sum (by omega) (v := fun q y => f q (b y)) R fun q hq => ?_
    refine GDv.rows H hf hb n (by omega) _ (fun i hi => ?_) (fun i hi hik => ?_)
    · obtain ⟨c', hc'⟩ := h1 i (by omega)
      exact ⟨c', fun y hy => by unfold rowS; rw [if_neg (by omega)]; exact hc' y hy⟩
    · by_cases e : i = n
      · subst e
        exact ⟨q, hq, fun y hy => by unfold rowS; rw [if_pos rfl]⟩
      · obtain ⟨q', hq', h'⟩ := h2 i (by omega) hik
        exact ⟨q', hq', fun y hy => by unfold rowS; rw [if_neg e]; exact h' y hy⟩
theorem GDv.sp (H : Alt k F) (hf : GDv k F R C f d) (h : ∀ i, i < S → Sp R C f (g i)) : GDv k F S C g d := fun a b ha hb =>
  GDv.rows H hf hb k (Nat.le_refl _) (sub_ g a b) (fun i hi => by
    obtain ⟨c, hc⟩ := h (a i) (ha i hi)
    exact ⟨c, fun y hy => hc (b y) (hb y hy)⟩) fun i h1 h2 => absurd h2 (by omega)
theorem GDv.spn (H : Alt k F) (h : SPN R C f g) : GDv k F R C f d ↔ GDv k F R C g d := ⟨fun k1 => k1.sp H h.1, fun k1 => k1.sp H h.2⟩
theorem GDv.congr (H : Alt k F) (e : EqM R C f g) : GDv k F R C f d ↔ GDv k F R C g d :=
  GDv.spn H ⟨fun i hi => (Sp.row hi).as fun y hy => (e i y hi hy).symm, fun i hi => (Sp.row hi).as fun y hy => e i y hi hy⟩
theorem GDv.tp_ : GDv k F R C f d ↔ GDv k (fun g => F (tp g)) C R (tp f) d := ⟨fun h a b ha hb => h b a hb ha, fun h a b ha hb => h b a hb ha⟩
end
/-- Alternating in the rows and in the columns. -/
structure Alt2 (k : Nat) (F : Fn2 → Int) : Prop where
  r : Alt k F
  c : Alt k (fun g => F (tp g))
theorem Alt2.dt (k : Nat) : Alt2 k (Dt k) := ⟨Dt_alt k, Dt_altC k⟩
theorem Alt2.tp {k : Nat} {F : Fn2 → Int} (h : Alt2 k F) : Alt2 k (fun g => F (tp g)) := ⟨h.c, h.r⟩
/-- What divides the minors of the Smith form divides those of the matrix. -/
theorem GDv.stays {k : Nat} {F : Fn2 → Int} (H : Alt2 k F) (R C t0 : Nat) (d : Int) (f0 : Fn2) : Stays R C t0 (fun s => GDv k F R C s.f d ↔ GDv k F R C f0 d) where
  radd := fun s i j t hi hj _ _ hij hg hk hP => by
    have kf : OKF R C (opA s.f i j t) := hk.f
    exact (GDv.spn H.r ((SPN.refl R C s.f).add (f' := opA s.f i j t) hi hj hij (fun y hy => opA_val kf hi hy) (fun x y _ _ hne => opA_other hne))).symm.trans hP
  rswap := fun s i j hi hj _ _ hij hg hP => (GDv.spn H.r ((SPN.refl R C s.f).swap hi hj)).symm.trans hP
  rneg := fun s i hi _ hg hP => (GDv.spn H.r ((SPN.refl R C s.f).neg (f' := opM s.f i) hi (fun y hy => opM_at (hg.ok.f i y hi hy)) (fun x y _ _ hne => by unfold opM; rw [if_neg hne]))).symm.trans hP
  cadd := fun s i j t hi hj _ _ hij hg hk hP => by
    have kf : OKF C R (opA (tp s.f) i j t) := tp_ok hk.f
    show GDv k F R C (tp (opA (tp s.f) i j t)) d ↔ _
    have h1 := GDv.spn (d := d) H.c ((SPN.refl C R (tp s.f)).add (f' := opA (tp s.f) i j t) hi hj hij (fun y hy => opA_val kf hi hy) (fun x y _ _ hne => opA_other hne))
    exact ((GDv.tp_ (f := tp (opA (tp s.f) i j t))).trans (h1.symm.trans (GDv.tp_ (f := s.f)).symm)).trans hP
  cswap := fun s i j hi hj _ _ hij hg hP => by
    show GDv k F R C (tp (swF (tp s.f) i j)) d ↔ _
    have h1 := GDv.spn (d := d) H.c ((SPN.refl C R (tp s.f)).swap hi hj)
    exact ((GDv.tp_ (f := tp (swF (tp s.f) i j))).trans (h1.symm.trans (GDv.tp_ (f := s.f)).symm)).trans hP
def prodTo (d : Nat → Int) : Nat → Int
  | 0 => 1
  | n + 1 => prodTo d n * d n
theorem prodTo_congr {d e : Nat → Int} : ∀ n, (∀ i, i < n → d i = e i) → prodTo d n = prodTo e n
  | 0, _ => rfl
  | n + 1, h => by
    show prodTo d n * d n = prodTo e n * e n
    rw [prodTo_congr n fun i hi => h i (by omega), h n (by omega)]
theorem prodTo_zero {d : Nat → Int} {i : Nat} (h0 : d i = 0) : ∀ n, i < n → prodTo d n = 0
  | 0, h => absurd h (Nat.not_lt_zero _)
  | n + 1, h => by
    show prodTo d n * d n = 0
    by_cases e : i = n
    · subst e; rw [h0, Int.mul_zero]
    · rw [prodTo_zero h0 n (by omega), Int.zero_mul]
theorem prodTo_nonneg {d : Nat → Int} (h : ∀ i, 0 ≤ d i) : ∀ n, 0 ≤ prodTo d n
  | 0 => by show (0 : Int) ≤ 1; decide
  | n + 1 => Int.mul_nonneg (prodTo_nonneg h n) (h n)
theorem prodTo_ne {d : Nat → Int} : ∀ n, (∀ i, i < n → d i ≠ 0) → prodTo d n ≠ 0
  | 0, _ => by show (1 : Int) ≠ 0; decide
  | n + 1, h => Int.mul_ne_zero (prodTo_ne n fun i hi => h i (by omega)) (h n (by omega))
theorem prodTo_swap {d : Nat → Int} {p m : Nat} (hp : p ≤ m) : prodTo d (m + 1) = prodTo (fun i => if i = p then d m else d i) m * d p := by
  by_cases e : p = m
  · subst e
    show prodTo d p * d p = _
    rw [prodTo_congr p fun i hi => (show d i = (if i = p then d p else d i) by rw [if_neg (by omega)])]
  · have h : ∀ n, n ≤ m → p < n → prodTo (fun i => if i = p then d m else d i) n * d p = prodTo d n * d m := fun n => by
      induction n with
      | zero => intro _ h; exact absurd h (Nat.not_lt_zero _)
      | succ n ih =>
        intro hn hpn
        show prodTo (fun i => if i = p then d m else d i) n * (if n = p then d m else d n) * d p = prodTo d n * d n * d m
        by_cases e2 : n = p
        · subst e2
          rw [if_pos rfl, prodTo_congr n fun i hi => (show (if i = n then d m else d i) = d i by rw [if_neg (by omega)])]
          grind
        · rw [if_neg e2]
          have := ih (by omega) (by omega)
          grind
    have := h m (Nat.le_refl _) (by omega)
    rw [this]; rfl
/-- The pigeon-hole: k different places are not all below k - 1. -/
theorem pigeon : ∀ (k : Nat) (a : Nat → Nat), (∀ i j, i < k + 1 → j < k + 1 → i ≠ j → a i ≠ a j) → ∃ i, i < k + 1 ∧ k ≤ a i
  | 0, a, _ => ⟨0, by omega, Nat.zero_le _⟩
  | k + 1, a, h => by
    apply Classical.byContradiction
    intro hno
    have hlt : ∀ i, i < k + 1 + 1 → a i < k + 1 := fun i hi => Nat.lt_of_not_le fun hh => hno ⟨i, hi, hh⟩
    -- take out the last: those that are above it step down
    obtain ⟨i, hi, hki⟩ := pigeon k (fun i => if a i > a (k + 1) then a i - 1 else a i) fun i j hi hj hij e => by
      have h1 := h i j (by omega) (by omega) hij
      have h2 := h i (k + 1) (by omega) (by omega) (by omega)
      have h3 := h j (k + 1) (by omega) (by omega) (by omega)
      split at e <;> split at e <;> omega
    have h1 := hlt i (by omega)
    have h2 := hlt (k + 1) (by omega)
    have h3 := h i (k + 1) (by omega) (by omega) (by omega)
    split at hki <;> omega
/-- In a chain the first k together divide any k. -/
theorem chain_dvd {d : Nat → Int} (hd : ∀ i j, i ≤ j → d i ∣ d j) : ∀ (k : Nat) (a : Nat → Nat), (∀ i j, i < k → j < k → i ≠ j → a i ≠ a j) → prodTo d k ∣ prodTo (fun i => d (a i)) k
  | 0, _, _ => Int.dvd_refl _
  | k + 1, a, h => by
    obtain ⟨p, hp, hkp⟩ := pigeon k a h
    rw [prodTo_swap (d := fun i => d (a i)) (show p ≤ k by omega)]
    have ih := chain_dvd hd k (fun i => if i = p then a k else a i) fun i j hi hj hij => by
      have h1 := h i j (by omega) (by omega) hij
      have h2 := h i k (by omega) (by omega) (by omega)
      have h3 := h j k (by omega) (by omega) (by omega)
      split <;> split <;> omega
    have e : prodTo (fun i => d (if i = p then a k else a i)) k = prodTo (fun i => if i = p then d (a k) else d (a i)) k := prodTo_congr k fun i _ => by split <;> rfl
    rw [e] at ih
    exact Int.mul_dvd_mul ih (hd k (a p) hkp)
/-- Each row times a number. -/
theorem Alt.scales {k : Nat} {F : Fn2 → Int} (H : Alt k F) {f g : Fn2} {c : Nat → Int} (h : ∀ i y, i < k → y < k → g i y = f i y * c i) : F g = F f * prodTo c k := by
  have hs : ∀ n, n ≤ k → F (fun i y => if i < n then f i y * c i else f i y) = F f * prodTo c n := fun n => by
    induction n with
    | zero =>
      intro _
      rw [H.congr _ f fun i y _ _ => by rw [if_neg (Nat.not_lt_zero _)]]
      show F f = F f * 1
      rw [Int.mul_one]
    | succ n ih =>
      intro hn
      rw [H.scale (i := n) (t := c n) (f := fun i y => if i < n then f i y * c i else f i y) (by omega) (fun y hy => by
        rw [if_pos (by omega), if_neg (Nat.lt_irrefl _)]) (fun x y hx hy hne => by
        by_cases e : x < n
        · rw [if_pos e, if_pos (by omega)]
        · rw [if_neg e, if_neg (by omega)]), ih (by omega)]
      show F f * prodTo c n * c n = F f * (prodTo c n * c n)
      rw [Int.mul_assoc]
  rw [← hs k (Nat.le_refl _)]
  exact H.congr _ _ fun i y hi hy => by rw [if_pos hi]; exact h i y hi hy
theorem Dt_diag (k : Nat) (d : Nat → Int) : Dt k (fun i j => if i = j then d i else 0) = prodTo d k := by
  rw [(Dt_alt k).scales (f := idF) (c := d) fun i y _ _ => by
    unfold idF
    by_cases e : i = y
    · rw [if_pos e, if_pos e, Int.one_mul]
    · rw [if_neg e, if_neg e, Int.zero_mul], Dt_id, Int.one_mul]
/-- The numbers on the diagonal of a Smith form. -/
structure DiaC (R C : Nat) (D : Fn2) : Prop where
  off : ∀ x y, x < R → y < C → x ≠ y → D x y = 0
  nn : ∀ a, 0 ≤ dgF R C D a
  dv : ∀ i j, i ≤ j → dgF R C D i ∣ dgF R C D j
theorem diaC {R C : Nat} {xs : List Int} {s : SS} (h : sfX R C xs = some s) : DiaC R C s.f := by
  obtain ⟨d1, d2⟩ := sfX_dia h
  refine ⟨sfX_diag h, fun a => ?_, fun i j hij => ?_⟩
  · by_cases e : a < R ∧ a < C
    · rw [dgF_in e.1 e.2]; exact d1 a e.1 e.2
    · rw [dgF_out e]; exact Int.le_refl _
  · have hst : ∀ n, dgF R C s.f i ∣ dgF R C s.f (i + n) := fun n => by
      induction n with
      | zero => exact Int.dvd_refl _
      | succ n ih =>
        by_cases e : i + (n + 1) < R ∧ i + (n + 1) < C
        · refine Int.dvd_trans ih ?_
          rw [dgF_in (by omega) (by omega), dgF_in e.1 e.2]
          exact d2 (i + n) (by omega) (by omega)
        · rw [dgF_out e]; exact Int.dvd_zero _
    have := hst (j - i)
    rwa [show i + (j - i) = j by omega] at this
theorem DiaC.tp {R C : Nat} {D : Fn2} (h : DiaC R C D) : DiaC C R (tp D) ∧ ∀ a, dgF C R (tp D) a = dgF R C D a := by
  have e : ∀ a, dgF C R (Go.Proofs.Ytlggfmfelakadaa.tp D) a = dgF R C D a := fun a => by
    by_cases e : a < R ∧ a < C
    · rw [dgF_in e.2 e.1, dgF_in e.1 e.2]; rfl
    · rw [dgF_out (fun q => e ⟨q.2, q.1⟩), dgF_out e]
  exact ⟨⟨fun x y hx hy hne => h.off y x hy hx (fun q => hne q.symm), fun a => by rw [e]; exact h.nn a, fun i j hij => by rw [e, e]; exact h.dv i j hij⟩, e⟩
theorem DiaC.gdv {k R C : Nat} {D : Fn2} (h : DiaC R C D) (d : Int) : GDv k (Dt k) R C D d ↔ d ∣ prodTo (dgF R C D) k := by
  constructor
  · intro hg
    by_cases hk : k ≤ R ∧ k ≤ C
    · have := hg id id (fun i hi => Nat.lt_of_lt_of_le hi hk.1) (fun i hi => Nat.lt_of_lt_of_le hi hk.2)
      rwa [Dt_congr k (g := fun i j => if i = j then dgF R C D i else 0) fun i j hi hj => by
        show D i j = if i = j then dgF R C D i else 0
        by_cases e : i = j
        · subst e; rw [if_pos rfl, dgF_in (by omega) (by omega)]
        · rw [if_neg e]; exact h.off i j (by omega) (by omega) e, Dt_diag] at this
    · rw [prodTo_zero (i := min R C) (dgF_out (by omega)) k (by omega)]
      exact Int.dvd_zero _
  · intro hd a b ha hb
    by_cases hi : ∀ i j, i < k → j < k → i ≠ j → a i ≠ a j
    · have h1 := (Dt_alt k).scales (f := fun i j => if a i = b j then 1 else 0) (g := sub_ D a b) (c := fun i => dgF R C D (a i)) fun i y hik hyk => by
        show D (a i) (b y) = (if a i = b y then 1 else 0) * dgF R C D (a i)
        by_cases e : a i = b y
        · rw [if_pos e, Int.one_mul, dgF_in (ha i hik) (by rw [e]; exact hb y hyk), ← e]
        · rw [if_neg e, Int.zero_mul]; exact h.off _ _ (ha i hik) (hb y hyk) e
      rw [h1]
      exact Int.dvd_trans hd (Int.dvd_trans (chain_dvd h.dv k a hi) ⟨_, Int.mul_comm _ _⟩)
    · have : ∃ i j, i < k ∧ j < k ∧ i ≠ j ∧ a i = a j := by
        apply Classical.byContradiction
        intro hno
        exact hi fun i j h1 h2 h3 h4 => hno ⟨i, j, h1, h2, h3, h4⟩
      obtain ⟨i, j, h1, h2, h3, h4⟩ := this
      rw [(Dt_alt k).same h1 h2 h3 (sub_ D a b) fun y _ => by unfold sub_; rw [h4]]
      exact Int.dvd_zero _
/-- What divides all minors of a matrix divides the product of the first numbers of its Smith form; turned over, too. -/
theorem sf_gdv {k R C : Nat} {xs : List Int} {s : SS} (h : sfX R C xs = some s) (d : Int) : (GDv k (Dt k) R C (fun i j => cel xs C i j) d ↔ d ∣ prodTo (dgF R C s.f) k) ∧ (GDv k (fun g => Dt k (tp g)) R C (fun i j => cel xs C i j) d ↔ d ∣ prodTo (dgF R C s.f) k) := by
  have D := diaC h
  have h1 := Stays.all (fun t => GDv.stays (Alt2.dt k) R C t d (fun i j => cel xs C i j)) h Iff.rfl
  have h2 := Stays.all (fun t => GDv.stays (Alt2.dt k).tp R C t d (fun i j => cel xs C i j)) h Iff.rfl
  refine ⟨h1.symm.trans (D.gdv d), h2.symm.trans ?_⟩
  obtain ⟨D2, e⟩ := D.tp
  have h3 := D2.gdv (k := k) d
  rw [prodTo_congr (e := dgF R C s.f) k fun i _ => e i] at h3
  exact (GDv.tp_ (F := fun g => Dt k (tp g)) (f := s.f)).trans h3
/-- The lists of factors are equal where the products are. -/
theorem facK_eq {d e : Nat → Int} (hd : ∀ i, 0 ≤ d i) (he : ∀ i, 0 ≤ e i) (hdc : ∀ i j, i ≤ j → d i ∣ d j) (hec : ∀ i j, i ≤ j → e i ∣ e j) (h : ∀ k, prodTo d k = prodTo e k) : ∀ i, d i = e i := fun i => by
  by_cases h0 : prodTo d i = 0
  · -- a zero came before
    have hz : ∀ (q : Nat → Int), (∀ i j, i ≤ j → q i ∣ q j) → prodTo q i = 0 → q i = 0 := fun q hq hp => by
      have : ∃ j, j < i ∧ q j = 0 := by
        apply Classical.byContradiction
        intro hno
        exact prodTo_ne i (fun j hj e => hno ⟨j, hj, e⟩) hp
      obtain ⟨j, hj, e⟩ := this
      have := hq j i (by omega)
      rw [e] at this
      exact Int.zero_dvd.1 this
    rw [hz d hdc h0, hz e hec (by rw [← h]; exact h0)]
  · have h1 : prodTo d i * d i = prodTo e i * e i := h (i + 1)
    rw [← h i] at h1
    exact Int.eq_of_mul_eq_mul_left h0 h1
theorem dvd_same {a b : Int} (ha : 0 ≤ a) (hb : 0 ≤ b) (h : ∀ d, d ∣ a ↔ d ∣ b) : a = b := by
  have h1 := (h a).1 (Int.dvd_refl a)
  have h2 := (h b).2 (Int.dvd_refl b)
  have h3 : a.natAbs = b.natAbs := Nat.dvd_antisymm (Int.natAbs_dvd_natAbs.2 h1) (Int.natAbs_dvd_natAbs.2 h2)
  omega
end Go.Proofs.Ytlggfmfelakadaa

/-
  DERIVED. Slices of ratios: their cells, flat; the laws' helpers toRatioS, szRatioS, eqRatioS, markRatioS, heldRatioS.
-/
namespace Go.Proofs.Ytlggfmfelakadaa
open Go.RowKit
set_option linter.unusedVariables false
set_option linter.unusedSimpArgs false
theorem ratio_info : (Try.prog.info? 84).map (fun i => (i.zero, i.size, i.bytes)) = some (some (.agg #[.int .i64 0, .int .i64 0]), 2, 16) := by kernel_rfl
/-- From block B on, the slice value v owns just n ratios, whose cells are xs. -/
def OF (w : World) (B : Nat) (v : Value) (n : Nat) (xs : List Int) : Prop := w.ownsRow B 84 2 v n (xs.map (Value.int .i64))
section
variable {w w' : World} {B n : Nat} {v : Value} {xs : List Int}
theorem OF.len (h : OF w B v n xs) : xs.length = n * 2 := by have := h.1; simpa using this
theorem OF.form (h : OF w B v n xs) : (v = .slice none 0 0 ∧ n = 0) ∨ ∃ g cap, v = .slice (some ⟨g, 0, none⟩) n cap ∧ B ≤ g ∧ g < w.heap.size ∧ n ≤ cap ∧ cap ≤ maxLen := by
  rcases h.2 with ⟨h1, h2⟩ | ⟨g, cap, cur, h1, h2, h3, h4, h5, _⟩
  · exact .inl ⟨h1, h2⟩
  · refine .inr ⟨g, cap, h1, h2, ?_, h4, h5⟩
    rcases Nat.lt_or_ge g w.heap.size with hlt | hge
    · exact hlt
    · rw [Array.getElem?_eq_none hge] at h3; cases h3
theorem OF.kept {row : Option Nat} (h : OF w B v n xs) (hg : w.grownBy w' row) (hne : v.ownBlock = none ∨ v.ownBlock ≠ row) : OF w' B v n xs := World.ownsRow.kept h hg hne
theorem OF.alloc (h : OF w B v n xs) (o : Obj) : OF (w.alloc o) B v n xs := World.ownsRow.alloc h o
theorem OF.drew (h : OF w B v n xs) : OF w.drew B v n xs := h
theorem OF.drewN (h : OF w B v n xs) (k : Nat) : OF (w.drewN k) B v n xs := h
theorem OF.below {C : Nat} (h : OF w B v n xs) (hb : Below C w w') (hC : w.heap.size ≤ C) : OF w' B v n xs :=
  h.kept (row := none) ⟨hb.os, hb.tape, hb.output, hb.size, fun k hk _ => hb.block k (by omega)⟩ (by cases v.ownBlock <;> simp)
theorem OF.far (h : OF w B v n xs) {p : Addr} (hp : v.ownBlock ≠ some p.block) (u : Value) : OF (w.setCell p u) B v n xs :=
  h.kept (row := some p.block) ⟨rfl, rfl, rfl, by simp [World.setCell], fun k hk hne => Below.heap_setCell w p u k (fun e => hne (by rw [e]))⟩ (.inr hp)
theorem OF.mono {B' : Nat} (h : OF w B v n xs) (hB : B' ≤ B) : OF w B' v n xs := by
  refine ⟨h.1, ?_⟩
  rcases h.2 with h1 | ⟨g, cap, cur, h1, h2, h3⟩
  · exact .inl h1
  · exact .inr ⟨g, cap, cur, h1, by omega, h3⟩
theorem OF.low (h : OF w B v n xs) {p : Addr} (hp : p.block < B) (u : Value) : OF (w.setCell p u) B v n xs := ownsRow_setCell_below h hp u
theorem OF.own (h : OF w B v n xs) : Own v B w.heap.size := by
  intro g hg
  rcases h.form with ⟨h1, h2⟩ | ⟨g', cap', h1, h2, h3, _⟩
  · subst h1; cases hg
  · subst h1
    have e : g' = g := by simpa [Value.ownBlock] using hg
    subst e; exact ⟨h2, h3⟩
theorem OF.b_ {w w' : World} {B C n : Nat} {v : Value} {xs : List Int} (h : OF w B v n xs) (hb : Below C w w' := by assumption) (hC : w.heap.size ≤ C := by first | omega | (simp; done) | (simp; omega)) : OF w' B v n xs := OF.below h hb hC
theorem OF.l_ {w : World} {B n : Nat} {v u : Value} {xs : List Int} {p : Addr} (h : OF w B v n xs) (hp : p.block < B := by first | omega | (simp only []; omega) | (simp; omega)) : OF (w.setCell p u) B v n xs := OF.low h hp u
theorem OF.keptOwn {sv : Value} {lo hi lo' hi' : Nat} (h : OF w B v n xs) (hg : w.grownBy w' sv.ownBlock) (a : Own v lo hi) (b : Own sv lo' hi') (hd : hi ≤ lo' ∨ hi' ≤ lo) : OF w' B v n xs := by
  refine h.kept hg ?_
  cases h1 : v.ownBlock with
  | none => exact .inl rfl
  | some g =>
    refine .inr fun e => ?_
    have h2 := a g h1
    have h3 := b g e.symm
    omega
theorem OF.as {ys : List Int} (h : OF w B v n xs) (e : xs = ys) : OF w B v n ys := e ▸ h
theorem OF.nil_ (w : World) (B : Nat) : OF w B (.slice none 0 0) 0 [] := World.ownsRow_nil w B _ _
variable {g cap : Nat} {A : Option Addr} {m : Nat}
theorem OF.lenEq (h : OF w B (.slice A m cap) n xs) : m = n := by
  rcases h.form with ⟨h1, h2⟩ | ⟨g, cap', h1, h2, h3, _⟩
  · injection h1 with e1 e2 e3; omega
  · injection h1
theorem OF.cnt (h : OF w B (.slice A m cap) n xs) : OF w B (.slice A m cap) m xs := by
  have h1 := h.lenEq
  subst h1
  exact h
theorem OF.caps (h : OF w B (.slice A m cap) n xs) : m ≤ cap ∧ cap ≤ 9223372036854775807 := by
  rcases h.form with ⟨h1, h2⟩ | ⟨g, cap', h1, h2, h3, h4, h5⟩
  · injection h1 with e1 e2 e3; omega
  · injection h1 with e1 e2 e3
    unfold maxLen at h5
    omega
theorem OF.begins (h : OF w B (.slice A m cap) n xs) (hp : 0 < n) : ∃ g, A = some ⟨g, 0, none⟩ ∧ B ≤ g ∧ g < w.heap.size := by
  rcases h.form with ⟨h1, h2⟩ | ⟨g, cap', h1, h2, h3, _⟩
  · omega
  · injection h1 with e1 e2 e3
    exact ⟨g, e1, h2, h3⟩
theorem OF.cell (h : OF w B (.slice (some ⟨g, 0, none⟩) m cap) n xs) (k : Nat) (hk : k < n * 2) : w.cell? ⟨g, k, none⟩ = some (.int .i64 (xs.getD k 0)) := by
  have hn := h.lenEq
  subst hn
  have hl := h.len
  have := World.ownsRow.cellAt h k hk
  rw [this]
  simp [show k < xs.length by omega]
theorem OF.frozen (h : OF w B (.slice (some ⟨g, 0, none⟩) m cap) n xs) (k : Nat) : w.frozen? ⟨g, k, none⟩ = false := by
  have hn := h.lenEq
  subst hn
  exact World.ownsRow.frozenAt h k
theorem OF.set_ (h : OF w B (.slice (some ⟨g, 0, none⟩) m cap) n xs) (k : Nat) (u : Int) : OF (w.setCell ⟨g, k, none⟩ (.int .i64 u)) B (.slice (some ⟨g, 0, none⟩) m cap) n (xs.set k u) := by
  have hn := h.lenEq
  subst hn
  have := (World.ownsRow.stored h k (.int .i64 u)).1
  unfold OF
  rw [List.map_set]
  exact this
theorem OF.reads (h : OF w B (.slice A m cap) n xs) : RI w w.heap.size A (m * 2) xs := by
  have hl := h.len
  have hm := h.lenEq
  rcases h.form with ⟨h1, h2⟩ | ⟨g, cap', h1, h2, h3, _⟩
  · injection h1 with e1 e2 e3
    subst e2
    have hx : xs = [] := List.eq_nil_of_length_eq_zero (by omega)
    subst hx
    exact RI.nil_ _ _ _
  · injection h1 with e1 e2 e3
    subst e1; subst e2
    exact ⟨hl, fun hn => ⟨g, 0, rfl, h3, fun k hk => by rw [Nat.zero_add]; exact h.cell k hk⟩⟩
end
theorem made_ratios (n : Nat) : (madeCells #[Value.int .i64 0, Value.int .i64 0] (n * 2)).toList = (List.replicate (n * 2) (0 : Int)).map (Value.int .i64) := by
  rw [List.map_replicate]
  apply List.ext_getElem?
  intro i
  simp only [madeCells]
  by_cases hi : i < n * 2
  · have h2 : i % 2 = 0 ∨ i % 2 = 1 := by omega
    rcases h2 with h2 | h2 <;> simp [hi, h2]
  · simp [hi]
theorem OF.of_made {w : World} {B g n : Nat} (h : w.ownsRow B 84 2 (.slice (some ⟨g, 0, none⟩) n n) n (madeCells #[Value.int .i64 0, Value.int .i64 0] (n * 2)).toList) :
    OF w B (.slice (some ⟨g, 0, none⟩) n n) n (List.replicate (n * 2) 0) := by
  unfold OF
  rw [← made_ratios]
  exact h
/-- The call returned n ratios of its own. -/
def QR (n : Nat) (xs : List Int) (w : World) (e : Ending) (w' : World) : Prop := ∃ A m cap, e = .returned (.slice A m cap) ∧ OF w' w.heap.size (.slice A m cap) n xs ∧ Below w.heap.size w w'
theorem laws_eqRatio (a b : Int) (w : World) : Calls Try.prog 81 #[.agg #[.int .i64 a, .int .i64 b], .agg #[.int .i64 a, .int .i64 b]] w (BV (.bool true) w) := by
  have b1 : (a != a) = false := by simp
  have b2 : (b != b) = false := by simp
  go_enter Try.func81, Try.ntmps81
  go_wp2_with fail
  go_ret
  exact BV.mk rfl Kw
set_option maxRecDepth 100000 in
set_option maxHeartbeats 4000000 in
theorem laws_eqRatioS (A A' : Option Addr) (n c d : Nat) (xs : List Int) (w : World) {C C' : Nat} (h : RI w C A (n * 2) xs) (h' : RI w C' A' (n * 2) xs) (hC : C ≤ w.heap.size) (hC' : C' ≤ w.heap.size) (hn : n ≤ 1048576) :
    Calls Try.prog 29 #[.slice A n c, .slice A' n d] w (BV (.bool true) w) := by
  have H := Lib.hid (h.more hC)
  have H' := Lib.hid (h'.more hC')
  have hb : ((n : Int) != (n : Int)) = false := by simp
  clear h h'
  go_enter Try.func29, Try.ntmps29
  go_wp2_with fail
  go_loopw [5] (fun v wr => ∃ k : Nat, v = .int .i64 k ∧ k ≤ n ∧ Below w.heap.size w wr) (fun v _ => n - (intOf v).toNat)
  case atStart => exact ⟨0, rfl, Nat.zero_le _, Below.refl _ _⟩
  case round =>
    obtain ⟨k, rfl, hk, hbw⟩ := hrel
    have hszw := hbw.size
    by_cases hlt : k < n
    · obtain ⟨b, o, rfl, hbb, hcells⟩ := H.out.2 (by omega)
      obtain ⟨b', o', rfl, hbb', hcells'⟩ := H'.out.2 (by omega)
      have hc1 := (hbw.cell (p := ⟨b, o + k * 2, none⟩) hbb).trans (hcells (k * 2) (by omega))
      have hc2 := (hbw.cell (p := ⟨b, o + k * 2 + 1, none⟩) hbb).trans (hcells (k * 2 + 1) (by omega))
      have hc3 := (hbw.cell (p := ⟨b', o' + k * 2, none⟩) hbb').trans (hcells' (k * 2) (by omega))
      have hc4 := (hbw.cell (p := ⟨b', o' + k * 2 + 1, none⟩) hbb').trans (hcells' (k * 2 + 1) (by omega))
      clear hcells hcells'
      generalize xs.getD (k * 2) 0 = x at *
      generalize xs.getD (k * 2 + 1) 0 = y at *
      go_wp2_with fail
      ((refine wp_region_held_drew (S := (fun w' => w'.cell? ⟨b, o + k * 2, none⟩ = some (.int .i64 x) ∧ w'.cell? ⟨b, o + k * 2 + 1, none⟩ = some (.int .i64 y) ∧ w'.cell? ⟨b', o' + k * 2, none⟩ = some (.int .i64 x) ∧ w'.cell? ⟨b', o' + k * 2 + 1, none⟩ = some (.int .i64 y))) (by kernel_rfl) ?_ (fun hHeld => ?_)); ((focus ((try dsimp only); (go_keep)))); ((refine tk_ (i := 0) (v := ?_) (y := Or.inl ⟨by rfl, ?_⟩) (h := ?_); rotate_left; (focus (((intro w hSw; (try dsimp only at hSw); go_simp) <;> (try with_reducible rfl)); done)); (try simp only [Act.put, p1_, p2_, p3_]))); ((refine tk_ (i := 1) (v := ?_) (y := Or.inl ⟨by rfl, ?_⟩) (h := ?_); rotate_left; (focus (((intro w hSw; (try dsimp only at hSw); go_simp) <;> (try with_reducible rfl)); done)); (try simp only [Act.put, p1_, p2_, p3_]))); ((refine tk_ (i := 2) (v := ?_) (y := Or.inl ⟨by rfl, ?_⟩) (h := ?_); rotate_left; (focus (((intro w hSw; (try dsimp only at hSw); go_simp) <;> (try with_reducible rfl)); done)); (try simp only [Act.put, p1_, p2_, p3_]))); ((refine tk_ (i := 3) (v := ?_) (y := Or.inl ⟨by rfl, ?_⟩) (h := ?_); rotate_left; (focus (((intro w hSw; (try dsimp only at hSw); go_simp) <;> (try with_reducible rfl)); done)); (try simp only [Act.put, p1_, p2_, p3_]))); ((refine tk_ (i := 4) (v := ?_) (y := Or.inl ⟨by rfl, ?_⟩) (h := ?_); rotate_left; (focus (((intro w hSw; (try dsimp only at hSw); go_simp) <;> (try with_reducible rfl)); done)); (try simp only [Act.put, p1_, p2_, p3_]))); ((refine tk_ (i := 5) (v := ?_) (y := Or.inl ⟨by rfl, ?_⟩) (h := ?_); rotate_left; (focus (((intro w hSw; (try dsimp only at hSw); go_simp) <;> (try with_reducible rfl)); done)); (try simp only [Act.put, p1_, p2_, p3_]))); ((refine tk_ (i := 6) (v := ?_) (y := Or.inl ⟨by rfl, ?_⟩) (h := ?_); rotate_left; (focus (((intro w hSw; (try dsimp only at hSw); go_simp) <;> (try with_reducible rfl)); done)); (try simp only [Act.put, p1_, p2_, p3_]))); ((refine tk_ (i := 7) (v := ?_) (y := Or.inl ⟨by rfl, ?_⟩) (h := ?_); rotate_left; (focus (((intro w hSw; (try dsimp only at hSw); go_simp) <;> (try with_reducible rfl)); done)); (try simp only [Act.put, p1_, p2_, p3_]))); ((refine wpAnyH_ready (rs := [8]) (by kernel_rfl) (by simp) ?_; refine AllReadyH.cons (by simp only [e1_, e2_, e3_]; try rfl) (fun K hK => ?_) AllReadyH.nil; go_simp; (refine (laws_eqRatio _ _ _).mono ?_; rintro e w1 ⟨rfl, hb1⟩; have hbw1 : Below w.heap.size w w1 := Kw; have hd1 := (hbw1.cell (p := ⟨b, o + k * 2, none⟩) hbb).trans ((hbw.cell (p := ⟨b, o + k * 2, none⟩) hbb).symm.trans hc1); have hd2 := (hbw1.cell (p := ⟨b, o + k * 2 + 1, none⟩) hbb).trans ((hbw.cell (p := ⟨b, o + k * 2 + 1, none⟩) hbb).symm.trans hc2); have hd3 := (hbw1.cell (p := ⟨b', o' + k * 2, none⟩) hbb').trans ((hbw.cell (p := ⟨b', o' + k * 2, none⟩) hbb').symm.trans hc3); have hd4 := (hbw1.cell (p := ⟨b', o' + k * 2 + 1, none⟩) hbb').trans ((hbw.cell (p := ⟨b', o' + k * 2 + 1, none⟩) hbb').symm.trans hc4)); (try go_wp2_with fail); refine hK.out _ _ ?_ (fun hHeld => ?_); (focus ((try dsimp only); (go_keep))); clear hK K; (try simp only [Act.put, p1_, p2_, p3_]))); ((refine tk_ (i := 9) (v := ?_) (y := Or.inl ⟨by rfl, ?_⟩) (h := ?_); rotate_left; (focus (((intro w hSw; (try dsimp only at hSw); go_simp) <;> (try with_reducible rfl)); done)); (try simp only [Act.put, p1_, p2_, p3_]))); (refine wpAnyH_done (by kernel_rfl) ?_ _))
      go_wp2_with fail
      go_roundw
      case rel => exact ⟨k + 1, by go_num, by omega, Kw⟩
      case measure => simp only [intOf]; omega
    · go_wp2
      go_ret
      exact BV.mk rfl hbw
theorem iota_flat {k : Int} {n j : Nat} (h : j < n) : (iota k n).getD j 0 = k + j := iota_getD h
/-- The call returned the int, having written just the block of an own slice of n ratios, which now holds ys. -/
def WF (k : Int) (sv : Value) (B n : Nat) (ys : List Int) (w : World) (e : Ending) (w' : World) : Prop :=
  e = .returned (.int .i64 k) ∧ OF w' B sv n ys ∧ w.grownBy w' sv.ownBlock ∧ w.heap.size ≤ w'.heap.size
set_option maxRecDepth 100000 in
set_option maxHeartbeats 4000000 in
theorem laws_markRatioS (A : Option Addr) (n cap : Nat) (xs : List Int) (k : Int) (w : World) (B : Nat) (h : OF w B (.slice A n cap) n xs) (hn2 : n ≤ 1048576) (hk0 : 0 ≤ k) (hk1 : k ≤ 1000000000000) :
    Calls Try.prog 34 #[.slice A n cap, .int .i64 k] w (WF (k + (n * 2 : Nat)) (.slice A n cap) B n (iota k (n * 2)) w) := by
  have hlx := h.len
  have hlx1 : n * 2 ≤ xs.length ∧ xs.length ≤ n * 2 := by omega
  have HLX := Lib.hid hlx
  clear hlx
  go_enter Try.func34, Try.ntmps34
  go_wp2_with fail
  go_loopw [1, 5] (fun u v wr => ∃ j : Nat, u = .int .i64 (k + (j * 2 : Nat)) ∧ v = .int .i64 j ∧ j ≤ n ∧ OF wr B (.slice A n cap) n (marked xs k (j * 2)) ∧ w.grownBy wr (Value.slice A n cap).ownBlock ∧ w.heap.size ≤ wr.heap.size) (fun _ v _ => n - (intOf v).toNat)
  case atStart => exact ⟨0, by simp, rfl, Nat.zero_le _, by rw [Nat.zero_mul, marked_zero]; exact h, World.grownBy.refl w _, Nat.le_refl _⟩
  case round =>
    clear h
    obtain ⟨j, rfl, rfl, hj, hown, hgr, hsz⟩ := hrel
    by_cases hlt : j < n
    · obtain ⟨g, rfl, hg1, hg2⟩ := hown.begins (by omega)
      have c1 := hown.cell (j * 2) (by omega)
      have c2 := hown.cell (j * 2 + 1) (by omega)
      have f1 := hown.frozen (j * 2)
      have f2 := hown.frozen (j * 2 + 1)
      have hst := (hown.set_ (j * 2) (k + (j * 2 : Nat))).set_ (j * 2 + 1) (k + (j * 2 + 1 : Nat))
      rw [marked_set (by omega), marked_set (by omega)] at hst
      rw [show k + ((j * 2 : Nat) : Int) = k + (j : Int) * 2 by omega, show k + ((j * 2 + 1 : Nat) : Int) = k + (j : Int) * 2 + 1 by omega] at hst
      have HST := Lib.hid hst
      clear hst
      generalize (marked xs k (j * 2)).getD (j * 2) 0 = z1 at c1
      generalize (marked xs k (j * 2)).getD (j * 2 + 1) 0 = z2 at c2
      go_wp2_with fail
      go_roundw
      case rel => exact ⟨j + 1, by go_num, by go_num, by omega, by rw [show (j + 1) * 2 = j * 2 + 1 + 1 by omega]; exact HST.out, only_set (only_set hgr _ _) _ _, by simp; omega⟩
      case measure => simp only [intOf]; omega
    · obtain rfl : j = n := by omega
      have hfin := hown.as (show marked xs k (j * 2) = iota k (j * 2) by rw [← HLX.out, marked_all])
      clear hown
      go_wp2_with fail
      go_ret
      exact ⟨rfl, hfin, hgr, hsz⟩
set_option maxRecDepth 100000 in
set_option maxHeartbeats 4000000 in
theorem laws_heldRatioS (A : Option Addr) (n cap : Nat) (k : Int) (w : World) (C : Nat) (h : RI w C A (n * 2) (iota k (n * 2))) (hn2 : n ≤ 1048576) (hk0 : 0 ≤ k) (hk1 : k ≤ 1000000000000) :
    Calls Try.prog 35 #[.slice A n cap, .int .i64 k] w (EV (.int .i64 (k + (n * 2 : Nat))) w) := by
  have H := Lib.hid h
  clear h
  go_enter Try.func35, Try.ntmps35
  go_wp2_with fail
  go_loop [1, 5] (fun u v => ∃ j : Nat, u = .int .i64 (k + (j * 2 : Nat)) ∧ v = .int .i64 j ∧ j ≤ n) (fun _ v => n - (intOf v).toNat)
  case atStart => exact ⟨0, by simp, rfl, Nat.zero_le _⟩
  case round =>
    obtain ⟨j, rfl, rfl, hj⟩ := hrel
    by_cases hlt : j < n
    · obtain ⟨b, o, rfl, hbb, hcells⟩ := H.out.2 (by omega)
      have c1 := hcells (j * 2) (by omega)
      have c2 : w.cell? ⟨b, o + j * 2 + 1, none⟩ = _ := hcells (j * 2 + 1) (by omega)
      have heb1 : ((iota k (n * 2)).getD (j * 2) 0 != k + (j : Int) * 2) = false := by rw [iota_getD (by omega)]; simp
      have heb2 : ((iota k (n * 2)).getD (j * 2 + 1) 0 != k + (j : Int) * 2 + 1) = false := by rw [iota_getD (by omega)]; simp; omega
      generalize (iota k (n * 2)).getD (j * 2) 0 = x at *
      generalize (iota k (n * 2)).getD (j * 2 + 1) 0 = y at *
      clear hcells
      go_wp2_with fail
      go_round
      case rel => exact ⟨j + 1, by go_num, by go_num, by omega⟩
      case measure => simp only [intOf]; omega
    · obtain rfl : j = n := by omega
      go_wp2_with fail
      go_ret
      exact EV.mk rfl
theorem run_append_ratio (w : World) (B : Nat) (ty : TypeId) (v : Value) (n : Nat) (xs : List Int) (hown : OF w B v n xs) (g : Nat) (x y : Int) (c0 : w.cell? ⟨g, 0, none⟩ = some (.int .i64 x)) (c1 : w.cell? ⟨g, 1, none⟩ = some (.int .i64 y)) (h63 : n ≤ 1000000000) (hbase : B ≤ w.heap.size) :
    ∃ v' w', (Builtin.append_ #[46, 46] ty #[v, .slice (some ⟨g, 0, none⟩) 1 1]).run Try.prog w = .ok v' w' ∧ OF w' B v' (n + 1) (xs ++ [x, y]) ∧ w.grownBy w' v.ownBlock ∧ (v'.ownBlock = v.ownBlock ∨ v'.ownBlock = some w.heap.size) := by
  obtain ⟨i0, hi, hz0, hz1, hz2⟩ := info_parts ratio_info
  have hcells : ∀ j u, ([Value.int .i64 x, Value.int .i64 y] : List Value)[j]? = some u → w.cell? ((⟨g, 0, none⟩ : Addr).add j) = some u := by
    intro j u hu
    rw [addr_add, Nat.zero_add]
    match j, hu with
    | 0, hu => simp at hu; subst hu; exact c0
    | 1, hu => simp at hu; subst hu; exact c1
    | j + 2, hu => simp at hu
  obtain ⟨v', w', hrun, h2, h3, _, h5⟩ := run_append_own_at (P := Try.prog) w B 46 ty 84 i0 (.agg #[.int .i64 0, .int .i64 0]) 2 16 Try.underlying46 hi hz0 hz1 hz2 rfl (by omega) v n (xs.map (Value.int .i64)) hown ⟨g, 0, none⟩ 1 1 [.int .i64 x, .int .i64 y] rfl hcells (by
    intro u hu
    simp at hu
    rcases hu with rfl | rfl <;> rfl) (by unfold maxLen; omega) (by omega) hbase
  refine ⟨v', w', hrun, ?_, h3, h5⟩
  unfold OF
  rw [List.map_append]
  exact h2
section
variable (w : World)
theorem step_append_ratio {ops : Array Oper} {o : Oper} {a : Act} {K : Act → World → Prop} {Q : Exit → Act → World → Prop} {E : Prop} (hgd : o.guard = none) (s z : Operand)
    (ho : o.op = .call { callee := .builtin .append, args := #[s, z], argTypes := #[46, 46] })
    (B : Nat) (v : Value) (n : Nat) (xs : List Int) (hs : a.eval s = v) (hown : OF w B v n xs) (g : Nat) (x y : Int) (hz : a.eval z = .slice (some ⟨g, 0, none⟩) 1 1) (c0 : w.cell? ⟨g, 0, none⟩ = some (.int .i64 x)) (c1 : w.cell? ⟨g, 1, none⟩ = some (.int .i64 y)) (h63 : n ≤ 1000000000) (hbase : B ≤ w.heap.size)
    (h : ∀ v' w', OF w' B v' (n + 1) (xs ++ [x, y]) → w.grownBy w' v.ownBlock → (v'.ownBlock = v.ownBlock ∨ v'.ownBlock = some w.heap.size) → K (a.put o.dst v') w') :
    if Region.wanted o (yielded ops a.tmps) = true then Oper.wp Try.prog o a w K Q else E := by
  have hw : Region.wanted o (yielded ops a.tmps) = true := by simp [Region.wanted, hgd]
  rw [if_pos hw]
  obtain ⟨v', w', hrun, h2, h3, h4⟩ := run_append_ratio w B o.type v n xs hown g x y c0 c1 h63 hbase
  unfold Oper.wp execOp
  simp only [ho, resolve, invoke, builtin, Sem.run_bind, Sem.run_pure, Result.andThen_ok, List.map_toArray, List.map_cons, List.map_nil, hs, hz, hrun]
  exact h v' w' h2 h3 h4
end
theorem OF.shape {w : World} {B n : Nat} {v : Value} {xs : List Int} (h : OF w B v n xs) : ∃ A c, v = .slice A n c := by
  rcases h.form with ⟨h1, h2⟩ | ⟨g, c, h1, _⟩
  · subst h2; exact ⟨_, _, h1⟩
  · exact ⟨_, _, h1⟩
theorem OF.empty (w : World) (g : Nat) (hg : g = w.heap.size) {B : Nat} (hB : B ≤ w.heap.size) : OF (w.alloc (.cells #[] 84)) B (.slice (some ⟨g, 0, none⟩) 0 0) 0 [] := by
  subst hg
  exact World.ownsRow_made (base := B) (e := 84) (size := 2) w #[] 0 hB (by unfold maxLen; omega) rfl
theorem OF.ne_low {w : World} {B n b : Nat} {v : Value} {xs : List Int} (h : OF w B v n xs) (hb : b < B) : some b ≠ v.ownBlock := fun e => by
  have := (h.own b e.symm).1; omega
theorem OF.below_grown {w w' : World} {B n : Nat} {v : Value} {xs : List Int} (h : OF w B v n xs) (hg : w.grownBy w' v.ownBlock) (hB : B ≤ w.heap.size) : Below B w w' :=
  only_below hg hB fun g e => (h.own g e).1
/-- The call returned n ratios of its own and the flag. -/
def QBR (n : Nat) (xs : List Int) (b : Bool) (w : World) (e : Ending) (w' : World) : Prop := ∃ A m cap, e = .returned (.tuple #[.slice A m cap, .bool b]) ∧ OF w' w.heap.size (.slice A m cap) n xs ∧ Below w.heap.size w w'
end Go.Proofs.Ytlggfmfelakadaa

/-
  DERIVED. append of a ratio, in a region that keeps its order.
-/
namespace Go.Proofs.Ytlggfmfelakadaa
open Go.RowKit
set_option linter.unusedVariables false
set_option linter.unusedSimpArgs false
theorem wpList_append_ratio (w : World) {ops : Array Oper} {rest : List Oper} {o : Oper} {a : Act} {Q : Exit → Act → World → Prop} (hgd : o.guard = none) (s z : Operand)
    (ho : o.op = .call { callee := .builtin .append, args := #[s, z], argTypes := #[46, 46] })
    (B : Nat) (v : Value) (n : Nat) (xs : List Int) (hs : a.eval s = v) (hown : OF w B v n xs) (g : Nat) (x y : Int) (hz : a.eval z = .slice (some ⟨g, 0, none⟩) 1 1) (c0 : w.cell? ⟨g, 0, none⟩ = some (.int .i64 x)) (c1 : w.cell? ⟨g, 1, none⟩ = some (.int .i64 y)) (h63 : n ≤ 1000000000) (hbase : B ≤ w.heap.size)
    (h : ∀ v' w', OF w' B v' (n + 1) (xs ++ [x, y]) → w.grownBy w' v.ownBlock → (v'.ownBlock = v.ownBlock ∨ v'.ownBlock = some w.heap.size) → wpList Try.prog ops Q rest (a.put o.dst v') w') : wpList Try.prog ops Q (o :: rest) a w :=
  wpList_plain hgd fun _ hK => by
    obtain ⟨v', w', hrun, h2, h3, h4⟩ := run_append_ratio w B o.type v n xs hown g x y c0 c1 h63 hbase
    unfold Oper.wp execOp
    simp only [ho, resolve, invoke, builtin, Sem.run_bind, Sem.run_pure, Result.andThen_ok, List.map_toArray, List.map_cons, List.map_nil, hs, hz, hrun]
    exact hK _ _ (h v' w' h2 h3 h4)
end Go.Proofs.Ytlggfmfelakadaa

/-
  DERIVED. The laws' sameRatios of two equal lists.
-/
namespace Go.Proofs.Ytlggfmfelakadaa
open Go.RowKit
set_option linter.unusedVariables false
set_option linter.unusedSimpArgs false
set_option maxRecDepth 100000 in
set_option maxHeartbeats 4000000 in
theorem laws_sameRatios (A A' : Option Addr) (n c d : Nat) (xs : List Int) (w : World) {C C' : Nat} (h : RI w C A (n * 2) xs) (h' : RI w C' A' (n * 2) xs) (hC : C ≤ w.heap.size) (hC' : C' ≤ w.heap.size) (hn : n ≤ 1048576) :
    Calls Try.prog 40 #[.slice A n c, .slice A' n d] w (BV (.bool true) w) := by
  have H := Lib.hid (h.more hC)
  have H' := Lib.hid (h'.more hC')
  have hb : ((n : Int) != (n : Int)) = false := by simp
  clear h h'
  go_enter Try.func40, Try.ntmps40
  go_wp2_with fail
  go_loopw [5] (fun v wr => ∃ k : Nat, v = .int .i64 k ∧ k ≤ n ∧ Below w.heap.size w wr) (fun v _ => n - (intOf v).toNat)
  case atStart => exact ⟨0, rfl, Nat.zero_le _, Below.refl _ _⟩
  case round =>
    obtain ⟨k, rfl, hk, hbw⟩ := hrel
    have hszw := hbw.size
    by_cases hlt : k < n
    · obtain ⟨b, o, rfl, hbb, hcells⟩ := H.out.2 (by omega)
      obtain ⟨b', o', rfl, hbb', hcells'⟩ := H'.out.2 (by omega)
      have hc1 := (hbw.cell (p := ⟨b, o + k * 2, none⟩) hbb).trans (hcells (k * 2) (by omega))
      have hc2 := (hbw.cell (p := ⟨b, o + k * 2 + 1, none⟩) hbb).trans (hcells (k * 2 + 1) (by omega))
      have hc3 := (hbw.cell (p := ⟨b', o' + k * 2, none⟩) hbb').trans (hcells' (k * 2) (by omega))
      have hc4 := (hbw.cell (p := ⟨b', o' + k * 2 + 1, none⟩) hbb').trans (hcells' (k * 2 + 1) (by omega))
      clear hcells hcells'
      generalize xs.getD (k * 2) 0 = x at *
      generalize xs.getD (k * 2 + 1) 0 = y at *
      go_wp2_with fail
      go_quiet (fail)
      go_wp2_with fail
      go_roundw
      case rel => exact ⟨k + 1, by go_num, by omega, Kw⟩
      case measure => simp only [intOf]; omega
    · go_wp2
      go_ret
      exact BV.mk rfl hbw
end Go.Proofs.Ytlggfmfelakadaa

/-
  DERIVED. The number with given residues, step by step: no program in sight.
-/
namespace Go.Proofs.Ytlggfmfelakadaa
set_option linter.unusedVariables false
def chK (x p r n : Int) : Int := ((r - x) * invOf p n) % n
def chF (x p : Int) : List Int → List Int → Int × Int
  | r :: rs, n :: ms => chF (x + p * chK x p r n) (p * n) rs ms
  | _, _ => (x, p)
def chB (rs ms : List Int) : Bool := modsOk ms && decide (rs.length = ms.length) && rs.all isNum
def chV (rs ms : List Int) : Int × Int := if chB rs ms then chF 0 1 rs ms else (0, 0)
theorem invOf_bds (a m : Int) (hm : 1 ≤ m) : 0 ≤ invOf a m ∧ invOf a m < m := emod_bds _ _ hm
theorem chK_bds (x p r n : Int) (hn : 1 ≤ n) : 0 ≤ chK x p r n ∧ chK x p r n < n := emod_bds _ _ hn
theorem tmod_emod (a n : Int) (hn : 0 < n) : a.tmod n % n = a % n := by
  have h := Int.tmod_add_mul_tdiv a n
  conv => rhs; rw [← h]
  rw [Int.add_mul_emod_self_left]
theorem chK_impl (x p r n : Int) (hn : 0 < n) : ((r - x).tmod n * invOf p n) % n = chK x p r n := by
  unfold chK
  rw [Int.mul_emod, tmod_emod _ _ hn, ← Int.mul_emod]
theorem chK_spec (x p r n : Int) : ((r - x) % n * invOf p n) % n = chK x p r n := by
  unfold chK
  rw [Int.mul_emod, Int.emod_emod, ← Int.mul_emod]
/-- One step: the new number is less than the new product, which is within the limit. -/
theorem ch_step {x p r n : Int} (hx : 0 ≤ x) (hxp : x < p) (hn : 2 ≤ n) (hpn : p * n ≤ 400000000) :
    0 ≤ p * chK x p r n ∧ p * chK x p r n ≤ 400000000 ∧ 0 ≤ x + p * chK x p r n ∧ x + p * chK x p r n < p * n := by
  obtain ⟨h1, h2⟩ := chK_bds x p r n (by omega)
  have h3 : 0 ≤ p * chK x p r n := Int.mul_nonneg (by omega) h1
  have h4 : p * (chK x p r n + 1) ≤ p * n := Int.mul_le_mul_of_nonneg_left (by omega) (by omega)
  rw [Int.mul_add, Int.mul_one] at h4
  omega
theorem spF_cons {p n : Int} {ms : List Int} (h : spF p (n :: ms) = true) (hp : 1 ≤ p) : 2 ≤ n ∧ n ≤ 400000000 ∧ p * n ≤ 400000000 ∧ 2 ≤ p * n ∧ spF (p * n) ms = true := by
  unfold spF at h
  split at h
  · cases h
  · rename_i h1
    split at h
    · cases h
    · split at h
      · cases h
      · rename_i h3
        have h4 := (isNum_iff (p * n)).1 (by simpa using h3)
        have h5 : 1 * n ≤ p * n := Int.mul_le_mul_of_nonneg_right hp (by omega)
        exact ⟨by omega, by omega, by omega, by omega, h⟩
theorem chB_iff {rs ms : List Int} : chB rs ms = true ↔ spF 1 ms = true ∧ ms.length ≤ 8 ∧ rs.length = ms.length ∧ rs.all isNum = true := by
  simp only [chB, modsOk, Bool.and_eq_true, decide_eq_true_eq]
  constructor
  · rintro ⟨⟨⟨h1, h2⟩, h3⟩, h4⟩; exact ⟨h2, h1, h3, h4⟩
  · rintro ⟨h2, h1, h3, h4⟩; exact ⟨⟨⟨h1, h2⟩, h3⟩, h4⟩
theorem all_getD {xs : List Int} (h : xs.all isNum = true) (k : Nat) : -400000000 ≤ xs.getD k 0 ∧ xs.getD k 0 ≤ 400000000 := by
  by_cases hk : k < xs.length
  · have h1 : xs.getD k 0 = xs[k] := by simp [List.getD, hk]
    rw [h1]
    exact (isNum_iff _).1 (List.all_eq_true.1 h xs[k] (List.getElem_mem hk))
  · have h1 : xs.getD k 0 = 0 := by simp [List.getD, List.getElem?_eq_none (show xs.length ≤ k by omega)]
    rw [h1]; omega
end Go.Proofs.Ytlggfmfelakadaa

/-
  DERIVED. Solutions and refutations in whole numbers: no program in sight.
-/
namespace Go.Proofs.Ytlggfmfelakadaa
set_option linter.unusedVariables false
theorem tab_ext {n : Nat} {f g : Nat → Int} (h : ∀ k, k < n → f k = g k) : tab n f = tab n g := by
  unfold tab
  exact List.map_congr_left fun k hk => h k (List.mem_range.1 hk)
theorem tab_of {n : Nat} {xs : List Int} (h : xs.length = n) : tab n (fun k => xs.getD k 0) = xs := by
  apply List.ext_getElem?
  intro k
  by_cases hk : k < n
  · unfold tab
    simp [List.getElem?_range hk, List.getD, show k < xs.length by omega]
  · rw [List.getElem?_eq_none (by rw [tab_len]; omega), List.getElem?_eq_none (by omega)]
/-- A matrix times a column, as lists. -/
theorem mulL_col (f : Fn2) {R C : Nat} (z : List Int) : mulL (tb R C f) R C z 1 = tab R fun i => mv C f (fun k => z.getD k 0) i := by
  unfold mulL
  rw [Nat.mul_one]
  refine tab_ext fun q hq => ?_
  rw [Nat.div_one, Nat.mod_one]
  unfold prodAt mv
  refine sumTo_congr C fun k hk => ?_
  rw [cel_tb hq hk, cel_nat, Nat.mul_one, Nat.add_zero]
theorem mulL_cel {xs : List Int} {R C : Nat} (h : xs.length = R * C) (z : List Int) : mulL xs R C z 1 = tab R fun i => mv C (fun i j => cel xs C i j) (fun k => z.getD k 0) i := by
  conv => lhs; rw [tb_of h]
  exact mulL_col _ z
/-- The solution that SolveInteger finds is one. -/
theorem si_solves {R C : Nat} {xs bs x : List Int} (h : siR R C xs bs = (x, 0)) : bs.length = R ∧ x.length = C ∧ ∀ i, i < R → mv C (fun i j => cel xs C i j) (fun k => x.getD k 0) i = bs.getD i 0 := by
  unfold siR at h
  rcases hs : siS R C xs bs with _ | ⟨s, cs⟩
  · rw [hs] at h; cases h
  · rw [hs] at h
    simp only [Int.toNat_natCast] at h
    obtain ⟨k1, k2, k3, k4⟩ := siS_some hs
    rcases hf : fwF (dgF R C s.f) 0 cs with _ | q
    · rw [hf] at h
      dsimp only at h
      split at h
      · rename_i hm
        injection h with h1 _
        have hx : x = tab C fun i => mv C s.h (fun k => (siY R C s cs).getD k 0) i := by
          rw [← h1]
          unfold mulM
          rw [if_pos hm]
          show mulL (tb C C s.h) ((C : Int)).toNat ((C : Int)).toNat _ ((1 : Int)).toNat = _
          rw [Int.toNat_natCast]
          exact mulL_col _ _
        have hcs : cs = tab R fun i => mv R s.g (fun k => bs.getD k 0) i := by rw [k4]; exact mulL_col _ _
        have hcl : cs.length = R := by rw [hcs, tab_len]
        have hdv := fwF_none cs 0 hf
        refine ⟨k2, by rw [hx, tab_len], fun i hi => ?_⟩
        have hdiag := sfX_diag k1
        have key := sf_solves (sfX_umv k1) (b := fun k => bs.getD k 0) (y := fun k => (siY R C s cs).getD k 0) (fun i hi => ?_) i hi
        · rw [← key]
          refine mv_congr (fun _ _ => rfl) fun k hk => ?_
          rw [hx, tab_getD hk]
        · have hc : cs.getD i 0 = mv R s.g (fun k => bs.getD k 0) i := by rw [hcs, tab_getD hi]
          have hd := hdv i (by omega)
          rw [Nat.zero_add] at hd
          rw [← hc]
          by_cases hiC : i < C
          · have e1 : mv C s.f (fun k => (siY R C s cs).getD k 0) i = s.f i i * (siY R C s cs).getD i 0 :=
              sumTo_one (f := fun k => s.f i k * (siY R C s cs).getD k 0) C hiC (fun k hk hne => by
                show s.f i k * _ = 0
                rw [hdiag i k hi hk (fun e => hne e.symm), Int.zero_mul])
            rw [e1]
            unfold siY
            rw [tab_getD hiC]
            rw [dgF_in hi hiC] at hd ⊢
            exact Int.mul_tdiv_cancel' hd
          · rw [dgF_out (by omega)] at hd
            rw [Int.zero_dvd.1 hd]
            exact sumTo_null C fun k hk => by rw [hdiag i k hi hk (by omega), Int.zero_mul]
      · cases h
    · rw [hf] at h
      simp at h
end Go.Proofs.Ytlggfmfelakadaa

/-
  DERIVED. SolveInteger and RefuteInteger together: no program in sight.
-/
namespace Go.Proofs.Ytlggfmfelakadaa
set_option linter.unusedVariables false
theorem lowR_num {n d : Int} (hn : isNum n = true) (hd : isNum d = true) (h0 : d ≠ 0) : ratOk (lowR n d).1 (lowR n d).2 = true := by
  obtain ⟨n1, n2⟩ := (isNum_iff n).1 hn
  obtain ⟨d1, d2⟩ := (isNum_iff d).1 hd
  obtain ⟨g1, g2⟩ := gcd_pos2 (n := n) h0
  have key : ∀ n d : Int, 0 < d → d ≤ 400000000 → n.natAbs ≤ 400000000 → ratOk (lowR n d).1 (lowR n d).2 = true := fun n d hp hq hm => by
    obtain ⟨g1, g2⟩ := gcd_pos2 (n := n) (d := d) (by omega)
    have hr : ratOk (n.tdiv (Int.gcd n d : Nat)) (d.tdiv (Int.gcd n d : Nat)) = true := by
      rw [ratOk_iff]
      have e1 := tdiv_abs n (Int.gcd n d : Nat)
      have e2 := tdiv_abs d (Int.gcd n d : Nat)
      have dv : ((Int.gcd n d : Nat) : Int) ∣ d := Int.gcd_dvd_right ..
      have dn : ((Int.gcd n d : Nat) : Int) ∣ n := Int.gcd_dvd_left ..
      have e3 := Int.tdiv_mul_cancel dv
      have hpos : 0 < d.tdiv (Int.gcd n d : Nat) := by
        refine Int.not_le.1 fun hle => ?_
        have := Int.mul_nonneg (show 0 ≤ -(d.tdiv (Int.gcd n d : Nat)) by omega) (show (0 : Int) ≤ (Int.gcd n d : Nat) by omega)
        rw [Int.neg_mul, e3] at this
        omega
      refine ⟨⟨by omega, by omega⟩, ⟨by omega, by omega⟩, ?_⟩
      rw [Int.tdiv_eq_ediv_of_dvd dn, Int.tdiv_eq_ediv_of_dvd dv]
      exact Int.gcd_ediv_gcd_ediv_gcd (by omega)
    rw [lowR_pos hp, if_pos hr]
    exact hr
  rcases Int.lt_or_le 0 d with hp | hp
  · exact key n d hp d2 (by omega)
  · rw [lowR_flip (by omega)]
    exact key (-n) (-d) (by omega) (by omega) (by omega)
/-- Ratio k of the list. -/
theorem riL_at (R : Nat) (g : Fn2) (k : Nat) (n : Int) : ∀ m j, j < m → fl (riL R g k n m) j = lowR (g k j) n
  | 0, j, h => absurd h (Nat.not_lt_zero _)
  | m + 1, j, h => by
    have hl := riL_len R g k n m
    unfold fl
    show ((riL R g k n m ++ [(lowR (g k m) n).1, (lowR (g k m) n).2]).getD (j * 2) 0, (riL R g k n m ++ [(lowR (g k m) n).1, (lowR (g k m) n).2]).getD (j * 2 + 1) 0) = _
    by_cases e : j = m
    · subst e
      have a1 : ¬ j * 2 < (riL R g k n j).length := by omega
      have a2 : ¬ j * 2 + 1 < (riL R g k n j).length := by omega
      simp only [List.getD, List.getElem?_append, if_neg a1, if_neg a2]
      rw [hl, Nat.sub_self, show j * 2 + 1 - j * 2 = 1 by omega]
      rfl
    · have ih := riL_at R g k n m j (by omega)
      unfold fl at ih
      have a1 : j * 2 < (riL R g k n m).length := by omega
      have a2 : j * 2 + 1 < (riL R g k n m).length := by omega
      simp only [List.getD, List.getElem?_append, if_pos a1, if_pos a2]
      simpa [List.getD] using ih
theorem si_else {r c : Int} {xs bs : List Int} (h : (siR r c xs bs).2 ≠ 0) : (siR r c xs bs).1 = [] := by
  unfold siR at h ⊢
  split
  · rfl
  · rename_i s cs hs
    rw [hs] at h
    dsimp only at h ⊢
    split
    · rfl
    · rename_i hf
      rw [hf] at h
      dsimp only at h
      split
      · rename_i hm
        rw [if_pos hm] at h
        exact absurd rfl h
      · rfl
theorem ri_found {r c : Int} {xs bs : List Int} (h : (siR r c xs bs).2 = 0) : riR r c xs bs = (0, [], 1) := by
  unfold siR at h
  unfold riR
  rcases hs : siS r c xs bs with _ | ⟨s, cs⟩
  · rw [hs] at h; cases h
  · rw [hs] at h
    dsimp only at h ⊢
    rcases hf : fwF (dgF r.toNat c.toNat s.f) 0 cs with _ | k
    · rfl
    · rw [hf] at h; cases h
theorem ri_none {R C : Nat} {xs bs : List Int} (h : (siR R C xs bs).2 = 1) : riR R C xs bs = (0, [], 2) ∨ ((riR R C xs bs).1 = R ∧ (riR R C xs bs).2.2 = 0 ∧ (riR R C xs bs).2.1.length = R * 2 ∧ ∀ j, j < R → ratOk (fl (riR R C xs bs).2.1 j).1 (fl (riR R C xs bs).2.1 j).2 = true) := by
  unfold siR at h
  unfold riR
  rcases hs : siS R C xs bs with _ | ⟨s, cs⟩
  · rw [hs] at h; cases h
  · rw [hs] at h
    simp only [Int.toNat_natCast] at h ⊢
    rcases hf : fwF (dgF R C s.f) 0 cs with _ | k
    · rw [hf] at h
      dsimp only at h
      split at h <;> cases h
    · dsimp only
      by_cases hn : isNum (riN (dgF R C s.f k) (cs.getD k 0)) = true
      · rw [if_pos hn]
        right
        obtain ⟨k1, k2, k3, k4⟩ := siS_some hs
        obtain ⟨_, hR, hC, hg⟩ := sfX_gd k1
        obtain ⟨a, b, d⟩ := fwF_some cs 0 k hf
        rw [Nat.sub_zero] at d
        have hcl : cs.length = R := by rw [k4, mulL_len]; omega
        have h0 : riN (dgF R C s.f k) (cs.getD k 0) ≠ 0 := by
          unfold riN
          split
          · rename_i hz
            intro e
            rw [hz] at d
            exact d (by rw [show cs.getD k 0 = 0 by omega]; exact Int.dvd_zero _)
          · rename_i hz; exact hz
        refine ⟨rfl, rfl, riL_len _ _ _ _ _, fun j hj => ?_⟩
        dsimp only
        rw [riL_at _ _ _ _ _ _ hj]
        exact lowR_num (hg.ok.g k j (by omega) hj).isN hn h0
      · rw [if_neg hn]
        exact .inl rfl
/-- The product with the solution is the right side. -/
theorem si_prod {R C : Nat} {xs bs x : List Int} (h : siR R C xs bs = (x, 0)) (hm : mulB R C xs x.length 1 x = true) : mulM R C xs x.length 1 x = ⟨R, 1, bs⟩ := by
  obtain ⟨h1, h2, h3⟩ := si_solves h
  unfold mulM
  rw [if_pos hm]
  have M : isMat (R : Int) (C : Int) xs = true := by
    unfold mulB at hm
    simp only [Bool.and_eq_true] at hm
    exact hm.1.1.1
  have hl : xs.length = R * C := by
    have := (isMat_iff.1 M).len
    rw [← Int.natCast_mul] at this
    omega
  have e : mulL xs ((R : Int)).toNat ((C : Int)).toNat x ((1 : Int)).toNat = bs := by
    show mulL xs R C x 1 = bs
    rw [mulL_cel hl, tab_ext h3]
    exact tab_of h1
  rw [e]
end Go.Proofs.Ytlggfmfelakadaa

/-
  DERIVED. Elimination over residues: no program in sight.
-/
namespace Go.Proofs.Ytlggfmfelakadaa
set_option linter.unusedVariables false
/-- Row t times x, over residues, in the first k columns. -/
def scK (f : Nat → Nat → Int) (t : Nat) (x p : Int) (k : Nat) : Nat → Nat → Int := fun i c => if i = t ∧ c < k then f t c * x % p else f i c
def scF (f : Nat → Nat → Int) (t : Nat) (x p : Int) : Nat → Nat → Int := fun i c => if i = t then f t c * x % p else f i c
theorem scK_zero (f : Nat → Nat → Int) (t : Nat) (x p : Int) : scK f t x p 0 = f := by funext i c; simp [scK]
theorem scK_at (f : Nat → Nat → Int) (t : Nat) (x p : Int) (k : Nat) : scK f t x p k t k = f t k := by simp [scK]
theorem scK_step (f : Nat → Nat → Int) (t : Nat) (x p : Int) (k : Nat) : upd (scK f t x p k) t k (f t k * x % p) = scK f t x p (k + 1) := by
  funext i c
  unfold upd scK
  grind
theorem scK_end {R C : Nat} (f : Nat → Nat → Int) (t : Nat) (x p : Int) : tb R C (scK f t x p C) = tb R C (scF f t x p) := tb_ext fun i j hi hj => by unfold scK scF; grind
/-- Row t taken from row i, so often as row i has it in column j, over residues. -/
def elAt (f : Nat → Nat → Int) (t j : Nat) (p : Int) (i c : Nat) : Int := (f i c - f i j * f t c) % p
/-- The first m rows done, and of row m the first k columns. -/
def elK (f : Nat → Nat → Int) (t j : Nat) (p : Int) (m k : Nat) : Nat → Nat → Int := fun i c => if i ≠ t ∧ (i < m ∨ i = m ∧ c < k) then elAt f t j p i c else f i c
def elF (f : Nat → Nat → Int) (t j : Nat) (p : Int) : Nat → Nat → Int := fun i c => if i ≠ t then elAt f t j p i c else f i c
theorem elK_zero (f : Nat → Nat → Int) (t j : Nat) (p : Int) : elK f t j p 0 0 = f := by funext i c; unfold elK; grind
theorem elK_at (f : Nat → Nat → Int) (t j : Nat) (p : Int) (m k c : Nat) (h : k ≤ c) : elK f t j p m k m c = f m c := by unfold elK; grind
theorem elK_t (f : Nat → Nat → Int) (t j : Nat) (p : Int) (m k c : Nat) : elK f t j p m k t c = f t c := by unfold elK; grind
theorem elK_step {f : Nat → Nat → Int} {t j m : Nat} (p : Int) (k : Nat) (h : m ≠ t) : upd (elK f t j p m k) m k (elAt f t j p m k) = elK f t j p m (k + 1) := by
  funext i c
  unfold upd elK
  grind
theorem elK_row {R C : Nat} (f : Nat → Nat → Int) (t j : Nat) (p : Int) (m : Nat) : tb R C (elK f t j p m C) = tb R C (elK f t j p (m + 1) 0) := tb_ext fun i c hi hc => by unfold elK; grind
theorem elK_skip {R C : Nat} (f : Nat → Nat → Int) (t j : Nat) (p : Int) : tb R C (elK f t j p t 0) = tb R C (elK f t j p (t + 1) 0) := tb_ext fun i c hi hc => by unfold elK; grind
theorem elK_skip' {R C : Nat} (f : Nat → Nat → Int) {t m : Nat} (j : Nat) (p : Int) (h : m = t) : tb R C (elK f t j p m 0) = tb R C (elK f t j p (m + 1) 0) := by subst h; exact elK_skip f m j p
theorem elK_none {R C : Nat} {f : Nat → Nat → Int} {t j m : Nat} {p : Int} (h0 : f m j = 0) (hf : ∀ i c, 0 ≤ f i c ∧ f i c < p) : tb R C (elK f t j p m 0) = tb R C (elK f t j p (m + 1) 0) := tb_ext fun i c hi hc => by
  unfold elK
  by_cases him : i = m
  · subst him
    have e : elAt f t j p i c = f i c := by unfold elAt; rw [h0, Int.zero_mul, Int.sub_zero]; exact Int.emod_eq_of_lt (hf i c).1 (hf i c).2
    rw [e]; grind
  · grind
theorem elK_end {R C : Nat} (f : Nat → Nat → Int) (t j : Nat) (p : Int) : tb R C (elK f t j p R 0) = tb R C (elF f t j p) := tb_ext fun i c hi hc => by unfold elK elF; grind
structure ESt where
  f : Nat → Nat → Int
  t : Nat
  d : Int
/-- One column. -/
def colE (R : Nat) (p : Int) (s : ESt) (j : Nat) : ESt :=
  let k := fnd s.f j (R - s.t) s.t
  if R ≤ k then s else
    let f1 := swF s.f k s.t
    let d1 := if k = s.t then s.d else (-s.d) % p
    ⟨elF (scF f1 s.t (invOf (f1 s.t j) p) p) s.t j p, s.t + 1, d1 * f1 s.t j % p⟩
/-- n columns from j on. -/
def colsE (R : Nat) (p : Int) : Nat → Nat → ESt → ESt
  | 0, _, s => s
  | n + 1, j, s => colsE R p n (j + 1) (colE R p s j)
def runE (R cols : Nat) (p : Int) (f : Nat → Nat → Int) : ESt := colsE R p cols 0 ⟨f, 0, 1⟩
theorem colE_full {R : Nat} {p : Int} {s : ESt} (h : R ≤ s.t) (j : Nat) : colE R p s j = s := by
  unfold colE
  have := fnd_le s.f j (R - s.t) s.t
  simp only
  rw [if_pos (by omega)]
theorem colsE_full {R : Nat} {p : Int} {s : ESt} (h : R ≤ s.t) : ∀ n j, colsE R p n j s = s
  | 0, _ => rfl
  | n + 1, j => by unfold colsE; rw [colE_full h]; exact colsE_full h n (j + 1)
theorem colsE_next {R cols j : Nat} {p : Int} {s : ESt} (hj : j < cols) : colsE R p (cols - j) j s = colsE R p (cols - (j + 1)) (j + 1) (colE R p s j) := by
  rw [show cols - j = (cols - (j + 1)) + 1 by omega]
  rfl
theorem colsE_end (R cols : Nat) (p : Int) (s : ESt) : colsE R p (cols - cols) cols s = s := by rw [Nat.sub_self]; rfl
theorem colE_yes {R k t j : Nat} {p d : Int} {f : Nat → Nat → Int} (hP : fnd f j (R - t) t = k) (hk : k < R) :
    colE R p ⟨f, t, d⟩ j = ⟨elF (scF (swF f k t) t (invOf (swF f k t t j) p) p) t j p, t + 1, (if k = t then d else (-d) % p) * swF f k t t j % p⟩ := by
  unfold colE
  simp only [hP]
  rw [if_neg (by omega)]
theorem colE_no {R t j : Nat} {p d : Int} {f : Nat → Nat → Int} (hP : fnd f j (R - t) t = R) : colE R p ⟨f, t, d⟩ j = ⟨f, t, d⟩ := by
  unfold colE
  simp only [hP]
  rw [if_pos (Nat.le_refl _)]
/-- What holds of a state. -/
structure EOk (R : Nat) (p : Int) (s : ESt) : Prop where
  f0 : ∀ i c, 0 ≤ s.f i c ∧ s.f i c < p
  t0 : s.t ≤ R
  d0 : 0 ≤ s.d ∧ s.d < p
theorem colE_ok {R : Nat} {p : Int} {s : ESt} (hp : 2 ≤ p) (h : EOk R p s) (j : Nat) : EOk R p (colE R p s j) := by
  unfold colE
  have hk := fnd_le s.f j (R - s.t) s.t
  simp only
  split
  · exact h
  · rename_i h1
    have hf1 : ∀ i c, 0 ≤ swF s.f (fnd s.f j (R - s.t) s.t) s.t i c ∧ swF s.f (fnd s.f j (R - s.t) s.t) s.t i c < p := fun i c => h.f0 _ _
    refine ⟨fun i c => ?_, ?_, ?_⟩
    · show 0 ≤ elF _ _ _ _ i c ∧ elF _ _ _ _ i c < p
      unfold elF elAt scF
      split
      · exact emod_bds _ _ (by omega)
      · split
        · exact emod_bds _ _ (by omega)
        · exact hf1 _ _
    · show s.t + 1 ≤ R
      omega
    · exact emod_bds _ _ (by omega)
theorem colsE_ok {R : Nat} {p : Int} (hp : 2 ≤ p) : ∀ n j s, EOk R p s → EOk R p (colsE R p n j s)
  | 0, _, _, h => h
  | n + 1, j, s, h => colsE_ok hp n (j + 1) _ (colE_ok hp h j)
end Go.Proofs.Ytlggfmfelakadaa

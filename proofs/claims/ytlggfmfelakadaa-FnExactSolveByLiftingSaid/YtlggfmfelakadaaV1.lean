/-
  DERIVED. Several small texts in one: Law2, RIat, Elem, Lawkit, PlainA, PlainH, Rowkit, Fit, PlainE, Sq, Sys, Plain4, PlainN, PlainB, PlainW, CopyW, Recon, PlainI, PlainQ, PlainU.
-/
import Derived.Test.YtlggfmfelakadaaVS
import Derived.Test.YtlggfmfelakadaaImg
import Derived.Test.YtlggfmfelakadaaMem
import Derived.Test.YtlggfmfelakadaaPlainT
import Derived.Test.YtlggfmfelakadaaMatOps
import Derived.Test.YtlggfmfelakadaaOwn
import Derived.Test.YtlggfmfelakadaaRat
import Derived.Test.YtlggfmfelakadaaPlain2
import Derived.Test.YtlggfmfelakadaaRow2
import Derived.Test.YtlggfmfelakadaaRows
import Derived.ProofKit
import Derived.OpenShut
import Derived.Carry
import Derived.ChangeSame
import Derived.Lib.SmallJoins
import Derived.Deep.Slices
import Derived.Test.YtlggfmfelakadaaNum
import Derived.Test.YtlggfmfelakadaaMx2
import Derived.Test.YtlggfmfelakadaaAppend2
import Derived.Test.YtlggfmfelakadaaPlain5
import Derived.Test.YtlggfmfelakadaaRowOp
import Derived.Laws.CopyOwn
import Derived.Laws.IdiomCopy
/-
  DERIVED. The contracts of the laws FnExactSymmetricOf, FnExactIsImage.
-/
namespace Go.Proofs.Ytlggfmfelakadaa
open Go.RowKit
set_option linter.unusedVariables false
end Go.Proofs.Ytlggfmfelakadaa

/-
  DERIVED. A cell of a slice that reads as a list.
-/
namespace Go.Proofs.Ytlggfmfelakadaa
open Go.RowKit
set_option linter.unusedVariables false
theorem RI.at_ {w : World} {B n b o k : Nat} {xs : List Int} (h : RI w B (some ⟨b, o, none⟩) n xs) (hk : k < n) : w.cell? ⟨b, o + k, none⟩ = some (.int .i64 (xs.getD k 0)) := by
  obtain ⟨b', o', e, _, hc⟩ := h.2 (by omega)
  injection e with e
  injection e with e1 e2 e3
  subst e1; subst e2
  exact hc k hk
end Go.Proofs.Ytlggfmfelakadaa

/-
  DERIVED. at and set on a table of the call's own.
-/
namespace Go.Proofs.Ytlggfmfelakadaa
open Go.RowKit
set_option linter.unusedVariables false
theorem impl_at_tb (R C i j : Nat) (A : Option Addr) (n cap : Nat) (F : Nat → Nat → Int) (v : Int) (hv : F i j = v) (w : World) {B : Nat} (h : OR w B (.slice A n cap) (tb R C F)) (hR : R ≤ 48) (hC : C ≤ 48) (hi : i < R) (hj : j < C) :
    Calls Try.prog 53 #[.agg #[.int .i64 R, .int .i64 C, .slice A n cap], .int .i64 i, .int .i64 j] w (BV (.int .i64 v) w) := by
  have hn := h.lenEq
  rw [tb_len] at hn
  have h1 := idx_nat hi hj
  have h2 : i * C ≤ 48 * 48 := Nat.mul_le_mul (by omega) hC
  have e1 : (i : Int) * (C : Int) = ((i * C : Nat) : Int) := by rw [Int.natCast_mul]
  have := impl_at R C i j A n cap (tb R C F) w h.reads (Nat.le_refl _) ⟨by omega, by omega⟩ ⟨by omega, by omega⟩ (by omega)
  rw [cel_tb hi hj, hv] at this
  exact this
theorem impl_set_tb (R C i j : Nat) (v : Int) (A : Option Addr) (n cap : Nat) (F F' : Nat → Nat → Int) (hF : upd F i j v = F') (w : World) {B : Nat} (h : OR w B (.slice A n cap) (tb R C F)) (hR : R ≤ 48) (hC : C ≤ 48) (hi : i < R) (hj : j < C) :
    Calls Try.prog 54 #[.agg #[.int .i64 R, .int .i64 C, .slice A n cap], .int .i64 i, .int .i64 j, .int .i64 v] w (WU (.slice A n cap) B (tb R C F') w) := by
  have hn := h.lenEq
  rw [tb_len] at hn
  have h1 := idx_nat hi hj
  have h2 : i * C ≤ 48 * 48 := Nat.mul_le_mul (by omega) hC
  have e1 : (i : Int) * (C : Int) = ((i * C : Nat) : Int) := by rw [Int.natCast_mul]
  have := impl_set R C i j v A n cap (tb R C F) w h ⟨by omega, by omega⟩ ⟨by omega, by omega⟩ (by omega)
  rw [show ((i : Int) * (C : Int) + (j : Int)).toNat = i * C + j by omega, tb_set hi hj, hF] at this
  exact this
end Go.Proofs.Ytlggfmfelakadaa

/-
  DERIVED. Words for the laws: comparing, marking and holding slices and matrices of the call's own.
-/
namespace Go.Proofs.Ytlggfmfelakadaa
open Go.RowKit
set_option linter.unusedVariables false
theorem eqB_refl (xs : List Int) : eqB xs xs = true := by simp [eqB]
theorem eqM_refl (r c : Int) (xs : List Int) : eqM r c r c xs xs = true := by simp [eqM, eqB]
theorem eqOwnI {A A' : Option Addr} {n n' ca ca' : Nat} {xs : List Int} {w : World} {B B' : Nat} (h : OR w B (.slice A n ca) xs) (h' : OR w B' (.slice A' n' ca') xs) :
    Calls Try.prog 31 #[.slice A n ca, .slice A' n' ca'] w (DV (.bool true) w) := by
  have h1 := h.caps
  have h2 := h'.caps
  have := laws_eqIntS A A' n n' ca ca' xs xs w h.reads h'.reads (by omega) (by omega)
  rw [eqB_refl] at this
  exact this
theorem eqOwnM {r c : Int} {A A' : Option Addr} {n n' ca ca' : Nat} {xs : List Int} {w : World} {B B' : Nat} (h : OR w B (.slice A n ca) xs) (h' : OR w B' (.slice A' n' ca') xs) :
    Calls Try.prog 30 #[.agg #[.int .i64 r, .int .i64 c, .slice A n ca], .agg #[.int .i64 r, .int .i64 c, .slice A' n' ca']] w (BV (.bool true) w) := by
  have h1 := h.caps
  have h2 := h'.caps
  have := laws_eqMatrix r c r c A A' n n' ca ca' xs xs w h.reads h'.reads (by omega) (by omega) (Nat.le_refl _) (Nat.le_refl _)
  rw [eqM_refl] at this
  exact this
/-- The call returned the int, having written just the block of an own slice, which now holds ys. -/
def WI (k : Int) (sv : Value) (B : Nat) (ys : List Int) (w : World) (e : Ending) (w' : World) : Prop :=
  e = .returned (.int .i64 k) ∧ OR w' B sv ys ∧ w.grownBy w' sv.ownBlock ∧ w.heap.size ≤ w'.heap.size
theorem markOwnI {A : Option Addr} {n ca : Nat} {xs : List Int} {k : Int} {w : World} {B : Nat} (h : OR w B (.slice A n ca) xs) (hn2 : n ≤ 1048576) (hk0 : 0 ≤ k) (hk1 : k ≤ 1000000000000) :
    Calls Try.prog 33 #[.slice A n ca, .int .i64 k] w (WI (k + n) (.slice A n ca) B (iota k n) w) :=
  (laws_markIntS A n ca xs k w B h h.lenEq hn2 hk0 hk1).mono fun _ _ ⟨h1, h2, h3⟩ => ⟨h1, h2, h3, h3.size⟩
theorem markOwnM {r c : Int} {A : Option Addr} {n ca : Nat} {xs : List Int} {k : Int} {w : World} {B : Nat} (h : OR w B (.slice A n ca) xs) (hn2 : n ≤ 1048576) (hk0 : 0 ≤ k) (hk1 : k ≤ 1000000000000) :
    Calls Try.prog 32 #[.agg #[.int .i64 r, .int .i64 c, .slice A n ca], .int .i64 k] w (WI (k + n) (.slice A n ca) B (iota k n) w) :=
  (laws_markMatrix r c A n ca xs k w B h h.lenEq hn2 hk0 hk1).mono fun _ _ ⟨h1, h2, h3⟩ => ⟨h1, h2, h3, h3.size⟩
theorem toMatrix_own {r c : Int} {A : Option Addr} {n cap : Nat} {xs : List Int} {w : World} {C : Nat} (h : RI w C A n xs) (hC : C ≤ w.heap.size) (hn : n ≤ 1048576) :
    Calls Try.prog 26 #[.agg #[.int .i64 r, .int .i64 c, .slice A n cap]] w (MR ⟨r, c, xs⟩ w) :=
  (laws_toMatrix r c A n cap xs w h hC hn).mono fun _ _ h => MR.of_MV h
/-- The call returned a slice of its own that holds ys. -/
def IR (ys : List Int) (w : World) (e : Ending) (w' : World) : Prop := ∃ A n cap, e = .returned (.slice A n cap) ∧ OR w' w.heap.size (.slice A n cap) ys ∧ Below w.heap.size w w'
theorem toIntS_own {A : Option Addr} {n cap : Nat} {xs : List Int} {w : World} {C : Nat} (h : RI w C A n xs) (hC : C ≤ w.heap.size) (hn : n ≤ 1048576) :
    Calls Try.prog 27 #[.slice A n cap] w (IR xs w) :=
  (laws_toIntS A n cap xs w h hC hn).mono fun _ _ ⟨g, h1, h2, h3⟩ => ⟨_, _, _, h1, h2, h3⟩
end Go.Proofs.Ytlggfmfelakadaa

/-
  DERIVED. Ratios: lowest terms, sums, products. No program in sight.
-/
namespace Go.Proofs.Ytlggfmfelakadaa
set_option linter.unusedVariables false
/-- n / d in lowest terms; zeros if it is no ratio. -/
def lowR (n d : Int) : Int × Int :=
  let g : Int := ((Int.gcd n d : Nat) : Int)
  let s := if d < 0 then -g else g
  if ratOk (n.tdiv s) (d.tdiv s) then (n.tdiv s, d.tdiv s) else (0, 0)
def addR (a b : Int × Int) : Int × Int := if ratOk a.1 a.2 && ratOk b.1 b.2 then lowR (a.1 * b.2 + b.1 * a.2) (a.2 * b.2) else (0, 0)
def mulR (a b : Int × Int) : Int × Int := if ratOk a.1 a.2 && ratOk b.1 b.2 then lowR (a.1 * b.1) (a.2 * b.2) else (0, 0)
def makR (n d : Int) : Int × Int := if isNum n && isNum d && decide (d ≠ 0) then lowR n d else (0, 0)
theorem tdiv_abs (a b : Int) : (a.tdiv b).natAbs ≤ a.natAbs := by
  rw [Int.natAbs_tdiv]; exact Nat.div_le_self _ _
/-- The gcd of a number and one that is not 0. -/
theorem gcd_pos2 {n d : Int} (hd : d ≠ 0) : 1 ≤ Int.gcd n d ∧ Int.gcd n d ≤ d.natAbs :=
  ⟨Int.gcd_pos_of_ne_zero_right _ hd, Nat.le_of_dvd (by omega) (Int.gcd_dvd_natAbs_right ..)⟩
theorem lowR_pos {n d : Int} (hd : 0 < d) : lowR n d = if ratOk (n.tdiv (Int.gcd n d : Nat)) (d.tdiv (Int.gcd n d : Nat)) then (n.tdiv (Int.gcd n d : Nat), d.tdiv (Int.gcd n d : Nat)) else (0, 0) := by
  unfold lowR
  simp only [if_neg (show ¬ d < 0 by omega)]
theorem lowR_neg {n d : Int} (hd : d < 0) : lowR n d = if ratOk (n.tdiv (-(Int.gcd n d : Nat))) (d.tdiv (-(Int.gcd n d : Nat))) then (n.tdiv (-(Int.gcd n d : Nat)), d.tdiv (-(Int.gcd n d : Nat))) else (0, 0) := by
  unfold lowR
  simp only [if_pos hd]
theorem lowR_neg' {n d : Int} (hd : d < 0) : lowR n d = if ratOk (-n.tdiv (Int.gcd n d : Nat)) (-d.tdiv (Int.gcd n d : Nat)) then (-n.tdiv (Int.gcd n d : Nat), -d.tdiv (Int.gcd n d : Nat)) else (0, 0) := by
  rw [lowR_neg hd]
  simp only [Int.tdiv_neg]
theorem lowR_flip {n d : Int} (hd : d < 0) : lowR n d = lowR (-n) (-d) := by
  rw [lowR_neg hd, lowR_pos (show 0 < -d by omega), Int.neg_gcd, Int.gcd_neg]
  simp only [Int.tdiv_neg, Int.neg_tdiv]
theorem lowR_ok (n d : Int) : (ratOk (lowR n d).1 (lowR n d).2 = true) ∨ lowR n d = (0, 0) := by
  unfold lowR
  simp only
  generalize (if d < 0 then -((Int.gcd n d : Nat) : Int) else ((Int.gcd n d : Nat) : Int)) = s
  by_cases h : ratOk (n.tdiv s) (d.tdiv s) = true
  · rw [if_pos h]; exact .inl h
  · rw [if_neg h]; exact .inr rfl
theorem addR_ok (a b : Int × Int) : (ratOk (addR a b).1 (addR a b).2 = true) ∨ addR a b = (0, 0) := by
  unfold addR
  split
  · exact lowR_ok _ _
  · exact .inr rfl
theorem mulR_ok (a b : Int × Int) : (ratOk (mulR a b).1 (mulR a b).2 = true) ∨ mulR a b = (0, 0) := by
  unfold mulR
  split
  · exact lowR_ok _ _
  · exact .inr rfl
theorem ratOk_zero : ratOk 0 0 = false := rfl
theorem ratOk_whole {n : Int} (h : isNum n = true) : ratOk n 1 = true := by
  rw [ratOk_iff]
  exact ⟨by omega, (isNum_iff n).1 h, by simp⟩
theorem mulR_comm (a b : Int × Int) : mulR a b = mulR b a := by
  unfold mulR
  rw [Bool.and_comm, Int.mul_comm a.1, Int.mul_comm a.2]
/-- Bounds of what is added and multiplied. -/
theorem rat_bd {a b : Int × Int} (h : ratOk a.1 a.2 = true) (h' : ratOk b.1 b.2 = true) :
    (-160000000000000000 ≤ a.1 * b.2 ∧ a.1 * b.2 ≤ 160000000000000000) ∧ (-160000000000000000 ≤ b.1 * a.2 ∧ b.1 * a.2 ≤ 160000000000000000) ∧ (1 ≤ a.2 * b.2 ∧ a.2 * b.2 ≤ 160000000000000000) ∧ (-160000000000000000 ≤ a.1 * b.1 ∧ a.1 * b.1 ≤ 160000000000000000) := by
  obtain ⟨⟨h1, h2⟩, ⟨h3, h4⟩, _⟩ := (ratOk_iff _ _).1 h
  obtain ⟨⟨k1, k2⟩, ⟨k3, k4⟩, _⟩ := (ratOk_iff _ _).1 h'
  have m1 := mul_bd2 a.1 b.2 400000000 400000000 h3 h4 (by omega) k2
  have m2 := mul_bd2 b.1 a.2 400000000 400000000 k3 k4 (by omega) h2
  have m3 := mul_bd a.2 b.2 400000000 400000000 (by omega) h2 (by omega) k2
  have m4 := mul_bd4 a.1 b.1 400000000 400000000 h3 h4 k3 k4
  have m5 : 1 * 1 ≤ a.2 * b.2 := Int.mul_le_mul h1 k1 (by omega) (by omega)
  omega
end Go.Proofs.Ytlggfmfelakadaa

/-
  DERIVED. What a Hermite form asks, row by row: no program in sight.
-/
namespace Go.Proofs.Ytlggfmfelakadaa
set_option linter.unusedVariables false
/-- The pivot of row i: the first column that is not 0, or the number of columns. -/
def pv (xs : List Int) (C i : Nat) : Nat := fcN (rowL xs C i)
def lastP (xs : List Int) (C i : Nat) : Int := if i = 0 then -1 else pv xs C (i - 1)
def hcA (xs : List Int) (C i k : Nat) : Bool := decide (0 ≤ cel xs C k (pv xs C i)) && decide (cel xs C k (pv xs C i) < cel xs C i (pv xs C i))
def hrow (xs : List Int) (C i : Nat) : Bool :=
  if pv xs C i < C then decide (lastP xs C i < pv xs C i) && decide (0 ≤ cel xs C i (pv xs C i)) && (List.range i).all (hcA xs C i) else true
def hcS (xs : List Int) (C i k : Nat) : Bool := if k < i then hcA xs C i k else if k = i then true else decide (cel xs C k (pv xs C i) = 0)
def hrowS (xs : List Int) (R C i : Nat) : Bool :=
  if pv xs C i < C then decide (lastP xs C i < pv xs C i) && decide (0 ≤ cel xs C i (pv xs C i)) && (List.range R).all (hcS xs C i) else true
def hermB (r c : Int) (xs : List Int) : Bool := isMat r c xs && (List.range r.toNat).all (hrow xs c.toNat)
theorem pv_le {xs : List Int} {R C i : Nat} (hl : xs.length = R * C) (hi : i < R) : pv xs C i ≤ C := by
  have h := fcN_le (rowL xs C i)
  rw [rowL_len (by rw [hl]; have := Nat.mul_le_mul_right C (show i + 1 ≤ R by omega); rw [Nat.add_mul, Nat.one_mul] at this; exact this)] at h
  exact h
theorem lastP_zero (xs : List Int) (C : Nat) : lastP xs C 0 = -1 := by simp [lastP]
theorem lastP_succ (xs : List Int) (C i : Nat) : lastP xs C (i + 1) = pv xs C i := by simp [lastP]
theorem pv_zero {xs : List Int} {C i j : Nat} (h : j < pv xs C i) (hj : j < C) : cel xs C i j = 0 := by
  rw [← rowL_getD hj]; exact fcN_zero _ _ h
theorem pv_inc {xs : List Int} {R C : Nat} (hl : xs.length = R * C) (h : (List.range R).all (hrow xs C) = true) {i : Nat} : ∀ k, i < k → k < R → pv xs C k < C → pv xs C i < pv xs C k := by
  intro k
  induction k with
  | zero => intro h1; omega
  | succ k ih =>
    intro h1 h2 h3
    have hk : hrow xs C (k + 1) = true := List.all_eq_true.1 h _ (List.mem_range.2 h2)
    unfold hrow at hk
    rw [if_pos h3, lastP_succ] at hk
    simp only [Bool.and_eq_true, decide_eq_true_eq] at hk
    have h4 := hk.1.1
    by_cases hik : i = k
    · subst hik; omega
    · have := ih (by omega) (by omega) (by omega); omega
theorem herm_iff {xs : List Int} {R C : Nat} (hl : xs.length = R * C) : (List.range R).all (hrow xs C) = (List.range R).all (hrowS xs R C) := by
  rw [Bool.eq_iff_iff]
  constructor
  · intro h
    rw [List.all_eq_true]
    intro i hi
    have hi' := List.mem_range.1 hi
    have h1 : hrow xs C i = true := List.all_eq_true.1 h _ hi
    unfold hrow at h1
    unfold hrowS
    split
    · rename_i hp
      rw [if_pos hp] at h1
      simp only [Bool.and_eq_true] at h1 ⊢
      refine ⟨h1.1, ?_⟩
      rw [List.all_eq_true]
      intro k hk
      have hk' := List.mem_range.1 hk
      unfold hcS
      split
      · rename_i hki
        exact List.all_eq_true.1 h1.2 k (List.mem_range.2 hki)
      · split
        · rfl
        · rw [decide_eq_true_eq]
          apply pv_zero _ hp
          by_cases hc : pv xs C k < C
          · exact pv_inc hl h k (by omega) hk' hc
          · have := pv_le hl hk'; omega
    · rfl
  · intro h
    rw [List.all_eq_true]
    intro i hi
    have hi' := List.mem_range.1 hi
    have h1 : hrowS xs R C i = true := List.all_eq_true.1 h _ hi
    unfold hrowS at h1
    unfold hrow
    split
    · rename_i hp
      rw [if_pos hp] at h1
      simp only [Bool.and_eq_true] at h1 ⊢
      refine ⟨h1.1, ?_⟩
      rw [List.all_eq_true]
      intro k hk
      have hk' := List.mem_range.1 hk
      have h2 : hcS xs C i k = true := List.all_eq_true.1 h1.2 k (List.mem_range.2 (by omega))
      unfold hcS at h2
      rw [if_pos hk'] at h2
      exact h2
    · rfl
theorem hermB_S (r c : Int) (xs : List Int) : hermB r c xs = (isMat r c xs && (List.range r.toNat).all (hrowS xs r.toNat c.toNat)) := by
  unfold hermB
  rcases hm : isMat r c xs with _ | _
  · rfl
  · have M := isMat_iff.1 hm
    rw [herm_iff]
    have h1 := M.len; have h2 := M.r0; have h3 := M.c0
    obtain ⟨R, rfl⟩ := nat_of h2
    obtain ⟨C, rfl⟩ := nat_of h3
    simp only [Int.toNat_natCast]
    rw [← Int.natCast_mul] at h1; omega
end Go.Proofs.Ytlggfmfelakadaa

/-
  DERIVED. The last step from a law's contract to its row: arguments opened, 'post' closed under 'Below'.
-/
namespace Go.Proofs.Ytlggfmfelakadaa
open Go.ChangeShapes Go.WideShapes Go.ChangeAt Go.RowKit Go.Joins
set_option linter.unusedVariables false

theorem own : ownKnob Try.prog.godebug = none := by kernel_rfl
theorem laidOut : laidOutB Try.prog = true := by kernel_rfl

section
variable {H : Type} {enc : TypeId × Value → H} {P : Program}
/-- 'post' of a call that returned, and below whose first heap size nothing has turned. -/
theorem post_below {f : Func} {s : ChangeSpec} {apart fresh handsOn again : Bool} {W W' : World} {args : Array Value} {v : Value} {ds gs : List (DataW H)} {before pa pv : List MemPlace}
    (hW : DataW.Whole enc P f.params.toList s.vars apart W args.toList ds gs before)
    (hres : ∀ (b : Nat) (sp : Nat → Bool) (hd : Bool), DataW.TrodAll enc P W' b sp hd f.resultTypes.toList (v.resultList f.resultTypes.size) (s.fn H (ds ++ gs)).results [])
    (hargs : ∀ sp : Nat → Bool, (∀ p ∈ before, sp p.block = true) → DataW.TrodAll enc P W' 0 sp true f.params.toList args.toList (s.fn H (ds ++ gs)).args pa)
    (hvars : ∀ sp : Nat → Bool, (∀ p ∈ before, sp p.block = true) → DataW.TrodVars enc P W' sp s.vars (s.fn H (ds ++ gs)).vars pv)
    (hps : before = pa ++ pv) (hb : Below W.heap.size W W')
    (hok : ∀ (j : Nat) (t : TypeId) (r : Value), f.resultTypes[j]? = some t → (v.resultList f.resultTypes.size)[j]? = some r → Value.okWide P W' .any 0 t r) :
    s.post enc P f apart fresh handsOn again W args v W' := by
  have hlt : ∀ p ∈ before, p.block < W.heap.size := fun p hp => hW.lt p hp
  have hold : ∀ p ∈ before, (fun b => decide (b < W.heap.size)) p.block = true := fun p hp => by simpa using hlt p hp
  refine ⟨ds, gs, before, [], pa, pv, hW, hres _ _ _, hargs _ hold, hvars _ hold, World.keptBut_mono (fun p hp => ⟨hp, ?_⟩) (hb.frame (· ∈ before)), fun _ => ?_⟩
  · rw [hps, List.mem_append] at hp
    exact Or.inr hp
  · obtain ⟨_, _, _, _, _, hz, hn⟩ := hW
    refine ⟨hok, _, _, ([] ++ pa) ++ pv, ⟨[] ++ pa, pv, trodAll_append (hargs _ (fun _ _ => rfl)) (hres _ _ _), hvars _ (fun _ _ => rfl), rfl, ?_, ?_⟩, ?_⟩
    · intro b off hp
      have hin : MemPlace.cell b off ∈ before := by rw [hps]; simpa using hp
      rw [hb.frozen (hlt _ hin)]
      exact hz b off hin
    · intro ha
      have := hn ha
      rw [hps] at this
      simpa using this
    · intro p hp _
      rw [hps]
      simpa using hp
/-- An argument reads behind the call as it read before it, whatever spare cells are asked for among the old places. -/
theorem same_arg {t : TypeId} (hl : laidOutB P = true) (hr : P.readableRec t = true) (hrow : t < P.types.size) {W W' : World} {v : Value} {d : DataW H} {ps : List MemPlace}
    (h : DataW.Trod enc P W 0 (fun _ => true) true t v d ps) (hb : Below W.heap.size W W') (hlt : ∀ x ∈ ps, x.block < W.heap.size) (sp : Nat → Bool) (hsp : ∀ x ∈ ps, sp x.block = true) :
    DataW.Trod enc P W' 0 sp true t v d ps :=
  WideElems.Trod_stays hl hr hrow h (fun x hx => hb.same (hlt x hx)) hsp
/-- A slice of ints, read. -/
theorem reads_ints {w : World} {base : Nat} {spare : Nat → Bool} {held : Bool} {t e : TypeId} {fuel : Nat} {v : Value} {x : DataW H × List MemPlace}
    (ht : P.underlying t = some (.slice e)) (he : P.underlying e = some (.int .i64)) (hc : P.cellsOf e = 1) (h : DataW.trod enc P w base spare held fuel t [v] = some x)
    (hlt : ∀ p ∈ x.2, p.block < w.heap.size) :
    ∃ A n cap xs, v = .slice A n cap ∧ n ≤ cap ∧ cap ≤ maxLen ∧ RI w w.heap.size A n xs ∧ ∀ z ∈ xs, (Lit.int .i64 z).wf = true := by
  rcases open_ints ht he hc h with ⟨hcs, hx⟩ | ⟨a, len, cap, zs, hcs, hb, hl, hm, hz, hx, hcell, hwf⟩
  · injection hcs with hv
    exact ⟨none, 0, 0, [], hv, Nat.le_refl _, by unfold maxLen; omega, RI.nil_ _ _ _, by simp⟩
  · injection hcs with hv
    have hzl : len ≤ zs.length := by rw [hz]; split <;> omega
    refine ⟨some a, len, cap, zs.take len, hv, hl, hm, ⟨by simp; omega, fun hn => ?_⟩, fun z hz => hwf z (List.mem_of_mem_take hz)⟩
    obtain ⟨b, off, rfl, hc'⟩ := ints_at hcell (by omega)
    refine ⟨b, off, rfl, ?_, fun k hk => ?_⟩
    · have h0 : MemPlace.cell b off ∈ x.2 := by
        rw [hx]
        simp only [MemPlace.row, List.mem_map, List.mem_range]
        exact ⟨0, by omega, rfl⟩
      exact hlt _ h0
    · rw [hc' k (by omega)]
      simp [List.getD, hk]
end
theorem wf_bounds {x : Int} (h : (Lit.int .i64 x).wf = true) : -9223372036854775808 ≤ x ∧ x ≤ 9223372036854775807 := by
  simpa [Lit.wf, IntKind.min, IntKind.max, IntKind.signed, IntKind.bits] using h
end Go.Proofs.Ytlggfmfelakadaa

/-
  DERIVED. The contracts of the reference's marked arithmetic: l1Fit, l1Add, l1Mul.
-/
namespace Go.Proofs.Ytlggfmfelakadaa
open Go.RowKit
set_option linter.unusedVariables false
/-- The mark of a number beyond the limit. -/
def bad : Int := -4611686018427387904
def fit (n : Int) : Int := if isNum n then n else bad
def addB (a b : Int) : Int := if a = bad ∨ b = bad then bad else fit (a + b)
def mulF (a b : Int) : Int := if a = bad ∨ b = bad then bad else fit (a * b)
theorem fit_in {n : Int} (h : -400000000 ≤ n ∧ n ≤ 400000000) : fit n = n := by simp [fit, (isNum_iff n).2 h]
theorem fit_out {n : Int} (h : n < -400000000 ∨ 400000000 < n) : fit n = bad := by simp [fit, (isNum_not n).2 h]
/-- A number within the limit, or the mark. -/
def NB (n : Int) : Prop := n = bad ∨ (-400000000 ≤ n ∧ n ≤ 400000000)
theorem NB.fit (n : Int) : NB (fit n) := by
  by_cases h : -400000000 ≤ n ∧ n ≤ 400000000
  · rw [fit_in h]; exact .inr h
  · rw [fit_out (by omega)]; exact .inl rfl
theorem ne_bad {n : Int} (h : -4000000000000000000 ≤ n) : n ≠ bad := by unfold bad; omega
theorem beq_bad (n : Int) : (n == -4611686018427387904) = decide (n = bad) := rfl

theorem spec_l1Fit (n : Int) (w : World) : Calls Try.prog 105 #[.int .i64 n] w (EV (.int .i64 (fit n)) w) := by
  by_cases h : -400000000 ≤ n ∧ n ≤ 400000000
  · rw [fit_in h]
    obtain ⟨h1, h2⟩ := h
    go_enter Try.func105, Try.ntmps105
    go_wp2_with (first | (go_at_call 101; (first | refine (spec_l1In_yes _ _ _ _ (by omega)).mono ?_ | refine (spec_l1In_no _ _ _ _ (by omega)).mono ?_ | refine (spec_l1In _ _ _ _).mono ?_); rintro e w' ⟨rfl, rfl⟩))
    go_ret
    exact EV.mk rfl
  · rw [fit_out (by omega)]
    have h' : n < -400000000 ∨ 400000000 < n := by omega
    clear h
    rcases h' with h | h
    all_goals
      go_enter Try.func105, Try.ntmps105
      go_wp2_with (first | (go_at_call 101; (first | refine (spec_l1In_yes _ _ _ _ (by omega)).mono ?_ | refine (spec_l1In_no _ _ _ _ (by omega)).mono ?_ | refine (spec_l1In _ _ _ _).mono ?_); rintro e w' ⟨rfl, rfl⟩))
      go_ret
      exact EV.mk rfl

theorem spec_l1Add (a b : Int) (w : World) (ha : NB a) (hb : NB b) : Calls Try.prog 134 #[.int .i64 a, .int .i64 b] w (EV (.int .i64 (addB a b)) w) := by
  unfold addB
  by_cases h1 : a = bad
  · rw [if_pos (.inl h1)]
    have e1 : (a == -4611686018427387904) = true := by rw [beq_bad]; simpa using h1
    clear h1 ha hb
    go_enter Try.func134, Try.ntmps134
    go_wp2
    go_ret
    exact EV.mk rfl
  · have e1 : (a == -4611686018427387904) = false := by rw [beq_bad]; simpa using h1
    by_cases h2 : b = bad
    · rw [if_pos (.inr h2)]
      have e2 : (b == -4611686018427387904) = true := by rw [beq_bad]; simpa using h2
      clear h1 h2 ha hb
      go_enter Try.func134, Try.ntmps134
      go_wp2
      go_ret
      exact EV.mk rfl
    · have e2 : (b == -4611686018427387904) = false := by rw [beq_bad]; simpa using h2
      rw [if_neg (by simp [h1, h2])]
      have ha' := ha.resolve_left h1
      have hb' := hb.resolve_left h2
      clear h1 h2 ha hb
      go_enter Try.func134, Try.ntmps134
      go_wp2_with (go_at_call 105; refine (spec_l1Fit _ _).mono ?_; rintro e w' ⟨rfl, rfl⟩)
      go_ret
      exact EV.mk rfl

theorem spec_l1Mul (a b : Int) (w : World) (ha : NB a) (hb : NB b) : Calls Try.prog 133 #[.int .i64 a, .int .i64 b] w (EV (.int .i64 (mulF a b)) w) := by
  unfold mulF
  by_cases h1 : a = bad
  · rw [if_pos (.inl h1)]
    have e1 : (a == -4611686018427387904) = true := by rw [beq_bad]; simpa using h1
    clear h1 ha hb
    go_enter Try.func133, Try.ntmps133
    go_wp2
    go_ret
    exact EV.mk rfl
  · have e1 : (a == -4611686018427387904) = false := by rw [beq_bad]; simpa using h1
    by_cases h2 : b = bad
    · rw [if_pos (.inr h2)]
      have e2 : (b == -4611686018427387904) = true := by rw [beq_bad]; simpa using h2
      clear h1 h2 ha hb
      go_enter Try.func133, Try.ntmps133
      go_wp2
      go_ret
      exact EV.mk rfl
    · have e2 : (b == -4611686018427387904) = false := by rw [beq_bad]; simpa using h2
      rw [if_neg (by simp [h1, h2])]
      have ha' := ha.resolve_left h1
      have hb' := hb.resolve_left h2
      obtain ⟨c1, c2⟩ := mul_bd4 a b 400000000 400000000 (by omega) (by omega) (by omega) (by omega)
      clear h1 h2 ha hb
      go_enter Try.func133, Try.ntmps133
      go_wp2_with (go_at_call 105; refine (spec_l1Fit _ _).mono ?_; rintro e w' ⟨rfl, rfl⟩)
      go_ret
      exact EV.mk rfl
theorem addB_num {a b : Int} (ha : -400000000 ≤ a ∧ a ≤ 400000000) (hb : -400000000 ≤ b ∧ b ≤ 400000000) : addB a b = fit (a + b) := by
  unfold addB; rw [if_neg]; unfold bad; omega
theorem mulF_num {a b : Int} (ha : -400000000 ≤ a ∧ a ≤ 400000000) (hb : -400000000 ≤ b ∧ b ≤ 400000000) : mulF a b = fit (a * b) := by
  unfold mulF; rw [if_neg]; unfold bad; omega
end Go.Proofs.Ytlggfmfelakadaa

/-
  DERIVED. Primitive rows: no program in sight.
-/
namespace Go.Proofs.Ytlggfmfelakadaa
set_option linter.unusedVariables false
/-- The greatest common divisor of a list. -/
def gcdL (l : List Int) : Nat := l.foldl (fun (g : Nat) (x : Int) => Int.gcd g x) 0
theorem gcdL_nil : gcdL [] = 0 := rfl
theorem gcdL_take {l : List Int} {k : Nat} (h : k < l.length) : gcdL (l.take (k + 1)) = Int.gcd (gcdL (l.take k)) (l.getD k 0) := by
  have e : l[k]? = some (l.getD k 0) := by simp [List.getD, h]
  rw [List.take_add_one, e]
  simp [gcdL, List.foldl_append]
theorem gcdF_dvd (l : List Int) : ∀ a : Nat, (l.foldl (fun (g : Nat) (x : Int) => Int.gcd g x) a) ∣ a ∧ ∀ x ∈ l, ((l.foldl (fun (g : Nat) (x : Int) => Int.gcd g x) a : Nat) : Int) ∣ x := by
  induction l with
  | nil => intro a; simp
  | cons y l ih =>
    intro a
    obtain ⟨h1, h2⟩ := ih (Int.gcd a y)
    have h3 : Int.gcd a y ∣ a := by
      have := Int.gcd_dvd_left (a := (a : Int)) (b := y); exact Int.natCast_dvd_natCast.1 this
    have h4 : ((Int.gcd a y : Nat) : Int) ∣ y := Int.gcd_dvd_right ..
    refine ⟨Nat.dvd_trans h1 h3, fun x hx => ?_⟩
    rcases List.mem_cons.1 hx with rfl | hx
    · exact Int.dvd_trans (Int.natCast_dvd_natCast.2 h1) h4
    · exact h2 x hx
theorem gcdL_dvd {l : List Int} {x : Int} (h : x ∈ l) : (gcdL l : Int) ∣ x := (gcdF_dvd l 0).2 x h
theorem gcdF_greatest (l : List Int) : ∀ (a d : Nat), d ∣ a → (∀ x ∈ l, (d : Int) ∣ x) → d ∣ l.foldl (fun (g : Nat) (x : Int) => Int.gcd g x) a := by
  induction l with
  | nil => intro a d h _; simpa using h
  | cons y l ih =>
    intro a d h h2
    refine ih _ d ?_ (fun x hx => h2 x (List.mem_cons_of_mem _ hx))
    exact Int.natCast_dvd_natCast.1 (Int.dvd_coe_gcd (Int.natCast_dvd_natCast.2 h) (h2 y (List.mem_cons_self ..)))
theorem dvd_gcdL {l : List Int} {d : Nat} (h : ∀ x ∈ l, (d : Int) ∣ x) : d ∣ gcdL l := gcdF_greatest l 0 d (Nat.dvd_zero _) h
theorem gcdL_zero {l : List Int} : gcdL l = 0 ↔ ∀ x ∈ l, x = 0 := by
  constructor
  · intro h x hx
    have := gcdL_dvd hx
    rw [h] at this
    simpa using this
  · intro h
    have : (0 : Nat) ∣ gcdL l := dvd_gcdL fun x hx => by rw [h x hx]; exact Int.dvd_zero _
    simpa using this
theorem mem_getD {l : List Int} {k : Nat} (h : k < l.length) : l.getD k 0 ∈ l := by
  have : l.getD k 0 = l[k] := by simp [List.getD, h]
  rw [this]; exact List.getElem_mem h
theorem fcN_lt_iff {l : List Int} : fcN l < l.length ↔ gcdL l ≠ 0 := by
  constructor
  · intro h h0
    exact fcN_ne l h (gcdL_zero.1 h0 _ (mem_getD h))
  · intro h
    apply Classical.byContradiction
    intro h1
    apply h
    rw [gcdL_zero]
    intro x hx
    obtain ⟨i, hi, rfl⟩ := List.mem_iff_getElem.1 hx
    have := fcN_zero l i (by have := fcN_le l; omega)
    simpa [List.getD, hi] using this
/-- The divisor of a row: its cells' greatest common divisor, with the sign of the first cell that is not 0. -/
def divL (l : List Int) : Int := if l.getD (fcN l) 0 < 0 then -(gcdL l : Int) else gcdL l
/-- The primitive row. -/
def primL (l : List Int) : List Int := if gcdL l = 0 then l else l.map (·.tdiv (divL l))
theorem primL_len (l : List Int) : (primL l).length = l.length := by unfold primL; split <;> simp
theorem divL_dvd {l : List Int} {x : Int} (h : x ∈ l) : divL l ∣ x := by
  unfold divL
  split
  · exact Int.neg_dvd.2 (gcdL_dvd h)
  · exact gcdL_dvd h
theorem divL_abs (l : List Int) : (divL l).natAbs = gcdL l := by unfold divL; split <;> omega
theorem map_tdiv_one {l : List Int} : l.map (·.tdiv 1) = l := by simp
/-- A row is primitive exactly if it is zeros or has no common divisor and begins with a positive number. -/
theorem primL_eq_iff (l : List Int) : primL l = l ↔ gcdL l = 0 ∨ (gcdL l = 1 ∧ 0 ≤ l.getD (fcN l) 0) := by
  unfold primL
  by_cases h0 : gcdL l = 0
  · simp [h0]
  · rw [if_neg h0]
    have hlt := fcN_lt_iff.2 h0
    have hm := mem_getD hlt
    have hne := fcN_ne l hlt
    constructor
    · intro h
      right
      have h1 : (l.map (·.tdiv (divL l))).getD (fcN l) 0 = l.getD (fcN l) 0 := by rw [h]
      have h2 : (l.map (·.tdiv (divL l))).getD (fcN l) 0 = (l.getD (fcN l) 0).tdiv (divL l) := by simp [List.getD, hlt]
      rw [h2] at h1
      obtain ⟨q, hq⟩ := divL_dvd hm
      have hd0 : divL l ≠ 0 := by
        intro e; have := divL_abs l; rw [e] at this; simp at this; omega
      have h3 : (l.getD (fcN l) 0).tdiv (divL l) = q := by rw [hq]; exact Int.mul_tdiv_cancel_left q hd0
      rw [h3] at h1
      have h4 : divL l = 1 := by
        have hq0 : q ≠ 0 := by rw [h1]; exact hne
        have : divL l * q = 1 * q := by rw [Int.one_mul, ← hq, h1]
        exact Int.eq_of_mul_eq_mul_right hq0 this
      have h5 := divL_abs l
      rw [h4] at h5
      refine ⟨by simpa using h5.symm, ?_⟩
      rcases Int.lt_or_le (l.getD (fcN l) 0) 0 with h6 | h6
      · unfold divL at h4; rw [if_pos h6] at h4; omega
      · exact h6
    · rintro (h | ⟨h1, h2⟩)
      · exact absurd h h0
      · have h3 : divL l = 1 := by unfold divL; rw [if_neg (by omega), h1]; rfl
        rw [h3, map_tdiv_one]
end Go.Proofs.Ytlggfmfelakadaa

/-
  DERIVED. The contracts of IsSquare, both; sums of rows.
-/
namespace Go.Proofs.Ytlggfmfelakadaa
open Go.RowKit
set_option linter.unusedVariables false
theorem sq_cases (r c : Int) (xs : List Int) : (isMat r c xs = false ∧ isSq r c xs = false) ∨ (isMat r c xs = true ∧ (r == c) = false ∧ isSq r c xs = false) ∨
    (isMat r c xs = true ∧ (r == c) = true ∧ 6 < r ∧ isSq r c xs = false) ∨ (isMat r c xs = true ∧ (r == c) = true ∧ r ≤ 6 ∧ isSq r c xs = true) := by
  unfold isSq
  rcases hm : isMat r c xs with _ | _
  · left; simp
  · right
    by_cases hrc : r = c
    · right
      by_cases h6 : 6 < r
      · left; simp [hrc] at *; omega
      · right; simp [hrc] at *; omega
    · left; simp [hrc]
theorem impl_IsSquare (r c : Int) (A : Option Addr) (n cap : Nat) (xs : List Int) (w : World) {B : Nat} (h : RI w B A n xs) (hB : B ≤ w.heap.size) (hn : n ≤ 1048576) :
    Calls Try.prog 60 #[.agg #[.int .i64 r, .int .i64 c, .slice A n cap]] w (BV (.bool (isSq r c xs)) w) := by
  have H2 := Lib.hid (h.more hB)
  clear h
  rcases sq_cases r c xs with ⟨hm, hr⟩ | ⟨hm, h1, hr⟩ | ⟨hm, h1, h2, hr⟩ | ⟨hm, h1, h2, hr⟩
  all_goals
    rw [hr]
    have HM := Lib.hid hm
    clear hm hr
    go_enter Try.func60, Try.ntmps60
    go_wp2_with (first | (go_at_call 46; refine (impl_IsMatrix r c A n cap xs _ (C := w.heap.size) (Kr H2.out) Ks hn).mono ?_; rw [HM.out]; rintro e w1 ⟨rfl, hb⟩; have hz := hb.size; (try simp at hz); have kk := bkeep (w := w) hb Ks; obtain ⟨kc, kf⟩ := kk; (try (have kk := bkeepb (w.heap.size) hb Ks; obtain ⟨kc0, kf0, kl0⟩ := kk)); (try (have kk := bkeepb (w.heap.size + 1) hb Ks; obtain ⟨kc1, kf1, kl1⟩ := kk)); (try (have kk := bkeepb (w.heap.size + 1 + 1) hb Ks; obtain ⟨kc2, kf2, kl2⟩ := kk)); (try (have kk := bkeepb (w.heap.size + 1 + 1 + 1) hb Ks; obtain ⟨kc3, kf3, kl3⟩ := kk)); (try (have kk := bkeepb (wr.heap.size) hb Ks; obtain ⟨kr0, ks0, kt0⟩ := kk)); (try (have kk := bkeepb (wr.heap.size + 1) hb Ks; obtain ⟨kr1, ks1, kt1⟩ := kk)); (try (have kk := bkeepb (wr.heap.size + 1 + 1) hb Ks; obtain ⟨kr2, ks2, kt2⟩ := kk))))
    go_ret
    first | exact BV.mk rfl Kw | exact BV.mk (vbool (show decide (r ≤ 6) = _ by simp; omega)) Kw
theorem spec_IsSquare (r c : Int) (A : Option Addr) (n cap : Nat) (xs : List Int) (w : World) {B : Nat} (h : RI w B A n xs) (hB : B ≤ w.heap.size) (hn : n ≤ 1048576) :
    Calls Try.prog 62 #[.agg #[.int .i64 r, .int .i64 c, .slice A n cap]] w (BV (.bool (isSq r c xs)) w) := by
  have H2 := Lib.hid (h.more hB)
  clear h
  rcases sq_cases r c xs with ⟨hm, hr⟩ | ⟨hm, h1, hr⟩ | ⟨hm, h1, h2, hr⟩ | ⟨hm, h1, h2, hr⟩
  all_goals
    rw [hr]
    have HM := Lib.hid hm
    clear hm hr
    go_enter Try.func62, Try.ntmps62
    go_wp2_with (first | (go_at_call 91; refine (spec_IsMatrix r c A n cap xs _ (C := w.heap.size) (Kr H2.out) Ks hn).mono ?_; rw [HM.out]; rintro e w1 ⟨rfl, hb⟩; have hz := hb.size; (try simp at hz); have kk := bkeep (w := w) hb Ks; obtain ⟨kc, kf⟩ := kk; (try (have kk := bkeepb (w.heap.size) hb Ks; obtain ⟨kc0, kf0, kl0⟩ := kk)); (try (have kk := bkeepb (w.heap.size + 1) hb Ks; obtain ⟨kc1, kf1, kl1⟩ := kk)); (try (have kk := bkeepb (w.heap.size + 1 + 1) hb Ks; obtain ⟨kc2, kf2, kl2⟩ := kk)); (try (have kk := bkeepb (w.heap.size + 1 + 1 + 1) hb Ks; obtain ⟨kc3, kf3, kl3⟩ := kk)); (try (have kk := bkeepb (wr.heap.size) hb Ks; obtain ⟨kr0, ks0, kt0⟩ := kk)); (try (have kk := bkeepb (wr.heap.size + 1) hb Ks; obtain ⟨kr1, ks1, kt1⟩ := kk)); (try (have kk := bkeepb (wr.heap.size + 1 + 1) hb Ks; obtain ⟨kr2, ks2, kt2⟩ := kk))))
    go_ret
    first | exact BV.mk rfl Kw | exact BV.mk (vbool (show decide (r ≤ 6) = _ by simp; omega)) Kw
structure IsS (r c : Int) (xs : List Int) : Prop where
  m : IsM r c xs
  e : r = c
  le : r ≤ 6
theorem isSq_iff {r c : Int} {xs : List Int} : isSq r c xs = true ↔ IsS r c xs := by
  simp only [isSq, Bool.and_eq_true, decide_eq_true_eq, isMat_iff]
  exact ⟨fun ⟨⟨h1, h2⟩, h3⟩ => ⟨h1, h2, h3⟩, fun ⟨h1, h2, h3⟩ => ⟨⟨h1, h2⟩, h3⟩⟩
/-- The sum of the absolute values of the first j numbers. -/
def absSum (l : List Int) : Nat → Int
  | 0 => 0
  | j + 1 => absSum l j + (l.getD j 0).natAbs
theorem absSum_bd {l : List Int} (h : ∀ k, -400000000 ≤ l.getD k 0 ∧ l.getD k 0 ≤ 400000000) : ∀ j : Nat, 0 ≤ absSum l j ∧ absSum l j ≤ 400000000 * j
  | 0 => by simp [absSum]
  | j + 1 => by
    have h1 := absSum_bd h j
    have h2 := h j
    unfold absSum
    omega
theorem absSum_mono {l : List Int} (h : ∀ k, -400000000 ≤ l.getD k 0 ∧ l.getD k 0 ≤ 400000000) (j : Nat) : absSum l j ≤ absSum l (j + 1) := by
  show _ ≤ absSum l j + _
  omega
/-- The product of the sums, while all stays within the limit. -/
def bndI (p : Int) : List Int → Option Int
  | [] => some p
  | s :: l => if isNum s = true ∧ isNum (p * s) = true then bndI (p * s) l else none
def rowSums (xs : List Int) (C : Nat) (R : Nat) : List Int := (List.range R).map fun i => absSum (rowL xs C i) C
def bndRes (r c : Int) (xs : List Int) : Option Int := if isSq r c xs then bndI 1 (rowSums xs c.toNat r.toNat) else none
def optV : Option Int → Value
  | none => .tuple #[.int .i64 0, .bool false]
  | some n => .tuple #[.int .i64 n, .bool true]
theorem rowSums_drop {xs : List Int} {C R i : Nat} (h : i < R) : (rowSums xs C R).drop i = absSum (rowL xs C i) C :: (rowSums xs C R).drop (i + 1) := by
  rw [List.drop_eq_getElem_cons (by simp [rowSums]; exact h)]
  simp [rowSums]
theorem rowSums_end (xs : List Int) (C R : Nat) : (rowSums xs C R).drop R = [] := by
  apply List.drop_of_length_le; simp [rowSums]
end Go.Proofs.Ytlggfmfelakadaa

/-
  DERIVED. isSystem, l11Right.
-/
namespace Go.Proofs.Ytlggfmfelakadaa
open Go.RowKit
set_option linter.unusedVariables false
set_option linter.unusedSimpArgs false
/-- Whether there is a system. -/
def sysB (r c : Int) (xs bs : List Int) : Bool := isSq r c xs && decide ((bs.length : Int) = r) && bs.all isNum
theorem sys_cases (r c : Int) (xs bs : List Int) : (isSq r c xs = false ∧ sysB r c xs bs = false) ∨ (isSq r c xs = true ∧ ((bs.length : Int) == r) = false ∧ sysB r c xs bs = false) ∨ (isSq r c xs = true ∧ ((bs.length : Int) == r) = true ∧ sysB r c xs bs = bs.all isNum) := by
  unfold sysB
  rcases isSq r c xs with _ | _
  · left; simp
  · right
    by_cases h : (bs.length : Int) = r
    · right; simp [h]
    · left; simp [h]
set_option maxHeartbeats 4000000 in
theorem impl_isSystem (r c : Int) (A Ab : Option Addr) (n cap nb capb : Nat) (xs bs : List Int) (w : World) {B B' : Nat} (h : RI w B A n xs) (hb : RI w B' Ab nb bs) (hB : B ≤ w.heap.size) (hB' : B' ≤ w.heap.size) (hn : n ≤ 1048576) (hnb : nb ≤ 1048576) :
    Calls Try.prog 77 #[.agg #[.int .i64 r, .int .i64 c, .slice A n cap], .slice Ab nb capb] w (BV (.bool (sysB r c xs bs)) w) := by
  have hlb := hb.len
  have H2 := Lib.hid (h.more hB)
  have H3 := Lib.hid (hb.more hB')
  clear h hb
  rcases sys_cases r c xs bs with ⟨hm, hv⟩ | ⟨hm, hl, hv⟩ | ⟨hm, hl, hv⟩
  all_goals
    have HM := Lib.hid hm
    have HV := Lib.hid hv
    try rw [hlb] at hl
    clear hm hv hlb
    go_enter Try.func77, Try.ntmps77
    go_wp2_with fail
    refine (impl_IsSquare r c A n cap xs _ (B := w.heap.size) (Kr H2.out) Ks hn).mono ?_
    rw [HM.out]
    rintro e w1 ⟨rfl, hb1⟩
    have hsz1 := hb1.size
    simp at hsz1
    have hM : BM w1 w.heap.size r c A n cap := Ka
    have hbw : Below w.heap.size w w1 := Kw
    obtain ⟨ma, mb, mc, mf, ml⟩ := hM.mx
    go_wp2_with fail
  · go_ret
    exact BV.mk (vbool HV.out.symm) Kw
  · go_ret
    exact BV.mk (vbool HV.out.symm) Kw
  · refine (impl_areNumbers Ab nb capb bs _ (C := w.heap.size) (Kr H3.out) hnb).mono ?_
    rintro e w' ⟨rfl, rfl⟩
    go_wp2_with fail
    go_ret
    exact BV.mk (vbool HV.out.symm) Kw
set_option maxHeartbeats 4000000 in
theorem spec_l11Right (r c : Int) (A Ab : Option Addr) (n cap nb capb : Nat) (xs bs : List Int) (w : World) {B B' : Nat} (h : RI w B A n xs) (hb : RI w B' Ab nb bs) (hB : B ≤ w.heap.size) (hB' : B' ≤ w.heap.size) (hn : n ≤ 1048576) (hnb : nb ≤ 1048576) :
    Calls Try.prog 73 #[.agg #[.int .i64 r, .int .i64 c, .slice A n cap], .slice Ab nb capb] w (BV (.bool (sysB r c xs bs)) w) := by
  have hlb := hb.len
  have hlb2 : bs.length ≤ nb ∧ nb ≤ bs.length := by omega
  have H2 := Lib.hid (h.more hB)
  have H3 := Lib.hid (hb.more hB')
  have hsy : sysB r c xs bs = (isSq r c xs && decide ((bs.length : Int) = r) && bs.all isNum) := rfl
  rw [hlb] at hsy
  generalize sysB r c xs bs = vb at *
  have HSY := Lib.hid hsy
  clear h hb hlb hsy
  go_enter Try.func73, Try.ntmps73
  go_wp2_with fail
  go_loopw [5] (fun v wr => ∃ k : Nat, v = .int .i64 k ∧ k ≤ nb ∧ (bs.take k).all isNum = true ∧ BM wr w.heap.size r c A n cap ∧ Below w.heap.size w wr) (fun v _ => nb - (intOf v).toNat)
  case atStart => exact ⟨0, rfl, Nat.zero_le _, by simp, Ka, Kw⟩
  case round =>
    obtain ⟨k, rfl, hk, htk, hM, hbw⟩ := hrel
    have HTK := Lib.hid htk
    clear htk
    by_cases hkn : k < nb
    · obtain ⟨bb, ob, rfl, hbb, _⟩ := H3.out.2 (by omega)
      have hbi : RI wr w.heap.size (some ⟨bb, ob, none⟩) nb bs := Kr H3.out
      have cb := hbi.at_ (k := k) hkn
      have hat := all_take (xs := bs) (p := isNum) (show k < bs.length by omega)
      have hfa := all_false (xs := bs) (p := isNum) (show k < bs.length by omega)
      rw [HTK.out, Bool.true_and] at hat
      generalize bs.getD k 0 = z at cb hat hfa
      rcases hx : isNum z with _ | _
      · have hbad := hfa hx
        have hvv : vb = false := by rw [HSY.out, hbad, Bool.and_false]
        have HVV := Lib.hid hvv
        have hz3 := (isNum_not z).1 hx
        clear hat hfa hbad hvv hx
        go_wp2_with (first | (go_at_call 111; (first | refine (spec_IsNumber_yes _ _ (by omega)).mono ?_ | refine (spec_IsNumber_no _ _ (by omega)).mono ?_ | refine (spec_IsNumber _ _).mono ?_); rintro e w' ⟨rfl, rfl⟩))
        go_ret
        exact BV.mk (vbool HVV.out.symm) Kw
      · have hnx := Lib.hid (hat.trans hx)
        obtain ⟨hz1, hz2⟩ := (isNum_iff z).1 hx
        clear hat hfa hx
        go_wp2_with (first | (go_at_call 111; (first | refine (spec_IsNumber_yes _ _ (by omega)).mono ?_ | refine (spec_IsNumber_no _ _ (by omega)).mono ?_ | refine (spec_IsNumber _ _).mono ?_); rintro e w' ⟨rfl, rfl⟩))
        go_roundw
        case rel => exact ⟨k + 1, by go_num, by omega, hnx.out, Kb hM, Kw⟩
        case measure => simp only [intOf]; omega
    · have hall : bs.all isNum = true := by
        have := HTK.out
        rw [List.take_of_length_le (by omega)] at this
        exact this
      have hvv : vb = (isSq r c xs && decide ((nb : Int) = r)) := by rw [HSY.out, hall, Bool.and_true]
      have HVV := Lib.hid hvv
      have hszr := hbw.size
      have hlM := hM.lt
      obtain ⟨ma, mb, mc, mf, ml⟩ := hM.mx
      clear hall hvv
      go_wp2_with fail
      rcases hq : isSq r c xs with _ | _
      all_goals
        have HQ := Lib.hid hq
        clear hq
        refine (spec_IsSquare r c A n cap xs _ (B := w.heap.size) (Kr H2.out) Ks hn).mono ?_
        rw [HQ.out]
        rintro e w1 ⟨rfl, hb1⟩
        have hsz1 := hb1.size
        have hM1 : BM w1 w.heap.size r c A n cap := Kb hM
        have hbw1 : Below w.heap.size w w1 := Kw
        clear ma mb mc mf ml
        obtain ⟨ma, mb, mc, mf, ml⟩ := hM1.mx
        go_wp2_with fail
        go_ret
        refine BV.mk (vbool ?_) Kw
        rw [HVV.out, HQ.out]
        first | rfl | (rw [Bool.true_and]; by_cases h : (nb : Int) = r <;> simp [h])
/-- What holds of a system. -/
structure SysOk (r c : Int) (xs bs : List Int) : Prop where
  m : IsM r c xs
  rc : r = c
  r6 : r ≤ 6
  bl : (bs.length : Int) = r
  bn : bs.all isNum = true
theorem sysOk {r c : Int} {xs bs : List Int} (h : sysB r c xs bs = true) : SysOk r c xs bs := by
  unfold sysB at h
  rw [Bool.and_eq_true, Bool.and_eq_true] at h
  obtain ⟨⟨h1, h2⟩, h3⟩ := h
  unfold isSq at h1
  rw [Bool.and_eq_true, Bool.and_eq_true] at h1
  obtain ⟨⟨h4, h5⟩, h6⟩ := h1
  exact ⟨isMat_iff.1 h4, of_decide_eq_true h5, of_decide_eq_true h6, of_decide_eq_true h2, h3⟩
end Go.Proofs.Ytlggfmfelakadaa

/-
  DERIVED. A ratio with small parts from its residue: the search over all denominators and Euclid's algorithm find the same. No program in sight.
-/
namespace Go.Proofs.Ytlggfmfelakadaa
set_option linter.unusedVariables false
/-- A ratio with small parts that has the residue a. -/
structure Good (a m b n d : Int) : Prop where
  d1 : 1 ≤ d
  d2 : d ≤ b
  n1 : -b ≤ n
  n2 : n ≤ b
  co : Int.gcd n d = 1
  cm : Int.gcd d m = 1
  im : m ∣ a * d - n
theorem small_of_dvd {m x : Int} (h : m ∣ x) (h1 : -m < x) (h2 : x < m) : x = 0 := by
  obtain ⟨k, rfl⟩ := h
  have hm : 0 < m := by omega
  rcases Int.lt_trichotomy k 0 with hk | hk | hk
  · have := Int.mul_le_mul_of_nonneg_left (show k ≤ -1 by omega) (show 0 ≤ m by omega)
    omega
  · simp [hk]
  · have := Int.mul_le_mul_of_nonneg_left (show 1 ≤ k by omega) (show 0 ≤ m by omega)
    omega
theorem dvd_of_gcd_one {k m n : Int} (h : k ∣ m * n) (hg : Int.gcd k m = 1) : k ∣ n := by
  rw [← Int.natAbs_dvd_natAbs] at h ⊢
  rw [Int.natAbs_mul] at h
  exact Nat.Coprime.dvd_of_dvd_mul_left hg h
theorem Good.uniq {a m b n d n' d' : Int} (hb : 2 * b * b < m) (h : Good a m b n d) (h' : Good a m b n' d') : n = n' ∧ d = d' := by
  have p1 := mul_bd2 n d' b b h.n1 h.n2 (by have := h'.d1; omega) h'.d2
  have p2 := mul_bd2 n' d b b h'.n1 h'.n2 (by have := h.d1; omega) h.d2
  have hd : m ∣ n * d' - n' * d := by
    have e : n * d' - n' * d = (a * d' - n') * d - (a * d - n) * d' := by grind
    rw [e]
    exact Int.dvd_sub (Int.dvd_trans h'.im ⟨d, rfl⟩) (Int.dvd_trans h.im ⟨d', rfl⟩)
  have hbb : 2 * b * b = 2 * (b * b) := by rw [Int.mul_assoc]
  have h0 := small_of_dvd hd (by omega) (by omega)
  have e1 : n * d' = n' * d := by omega
  have g1 : d ∣ d' := by
    have : d ∣ n * d' := ⟨n', by rw [e1, Int.mul_comm]⟩
    exact dvd_of_gcd_one this (by rw [Int.gcd_comm]; exact h.co)
  have g2 : d' ∣ d := by
    have : d' ∣ n' * d := ⟨n, by rw [← e1, Int.mul_comm]⟩
    exact dvd_of_gcd_one this (by rw [Int.gcd_comm]; exact h'.co)
  have e2 : d = d' := Int.dvd_antisymm (by have := h.d1; omega) (by have := h'.d1; omega) g1 g2
  subst e2
  refine ⟨?_, rfl⟩
  exact Int.eq_of_mul_eq_mul_right (by have := h.d1; omega) e1

/-- Euclid's algorithm on the modulus and the residue, till the remainder is small. -/
def rfS (b g x h u : Int) : Int × Int :=
  if hh : b < h ∧ 0 < h then rfS b h u (g - g / h * h) (x - g / h * u) else (h, u)
termination_by h.natAbs
decreasing_by
  have h1 := Int.emod_lt_of_pos g hh.2
  have h2 := Int.emod_nonneg g (show h ≠ 0 by omega)
  have h3 := Int.mul_ediv_add_emod g h
  rw [Int.mul_comm] at h3
  omega
/-- What stays in the rounds; s is the sign of u. -/
structure RfInv (a m b g x h u s : Int) : Prop where
  sg : s = 1 ∨ s = -1
  u0 : 0 ≤ s * u
  x0 : s * x ≤ 0
  e : g * (s * u) - h * (s * x) = m
  h0 : 0 ≤ h
  hg : h < g
  bg : b < g
  gm : g ≤ m
  cg : m ∣ g - x * a
  ch : m ∣ h - u * a
theorem RfInv.start {a m b : Int} (hm : 1 ≤ m) (hb : b < m) : RfInv a m b m 0 (a % m) 1 1 := by
  refine ⟨.inl rfl, by omega, by omega, by omega, Int.emod_nonneg a (by omega), Int.emod_lt_of_pos a (by omega), hb, Int.le_refl _, by simp, ?_⟩
  refine ⟨-(a / m), ?_⟩
  have := Int.mul_ediv_add_emod a m
  rw [Int.mul_neg]; omega
theorem RfInv.bounds {a m b g x h u s : Int} (i : RfInv a m b g x h u s) (hb : 0 ≤ b) : -m ≤ u ∧ u ≤ m ∧ (s * u) * g ≤ m := by
  have hu := i.u0
  have hx := i.x0
  have h1 : 0 ≤ h * -(s * x) := Int.mul_nonneg i.h0 (by omega)
  rw [Int.mul_neg] at h1
  have e := i.e
  have h2 : (s * u) * g ≤ m := by rw [Int.mul_comm]; omega
  have hg : 1 ≤ g := by have := i.bg; omega
  have h3 := Int.mul_le_mul_of_nonneg_left hg hu
  rcases i.sg with rfl | rfl
  · exact ⟨by omega, by omega, h2⟩
  · exact ⟨by omega, by omega, h2⟩
theorem RfInv.step {a m b g x h u s : Int} (i : RfInv a m b g x h u s) (hb : 0 ≤ b) (hh : b < h) : RfInv a m b h u (g - g / h * h) (x - g / h * u) (-s) := by
  have hp : 0 < h := by omega
  have q0 : 0 ≤ g / h := Int.ediv_nonneg (by have := i.bg; omega) (by omega)
  have r0 := Int.emod_nonneg g (show h ≠ 0 by omega)
  have r1 := Int.emod_lt_of_pos g hp
  have r2 := Int.mul_ediv_add_emod g h
  rw [Int.mul_comm] at r2
  have hu := i.u0
  have hx := i.x0
  have qu : 0 ≤ g / h * (s * u) := Int.mul_nonneg q0 hu
  have e := i.e
  refine ⟨by rcases i.sg with h | h <;> omega, ?_, ?_, ?_, by omega, by omega, hh, by have := i.hg; have := i.gm; omega, i.ch, ?_⟩
  · have : -s * (x - g / h * u) = -(s * x) + g / h * (s * u) := by grind
    omega
  · have : -s * u = -(s * u) := by grind
    omega
  · rw [← e]; grind
  · have e1 : g - g / h * h - (x - g / h * u) * a = (g - x * a) - g / h * (h - u * a) := by grind
    rw [e1]
    exact Int.dvd_sub i.cg (Int.dvd_trans i.ch ⟨g / h, by rw [Int.mul_comm]⟩)
theorem rfS_step (b g x h u : Int) (hh : b < h ∧ 0 < h) : rfS b g x h u = rfS b h u (g - g / h * h) (x - g / h * u) := by
  conv => lhs; rw [rfS]
  simp [hh]
theorem rfS_stop (b g x h u : Int) (hh : ¬ (b < h ∧ 0 < h)) : rfS b g x h u = (h, u) := by
  rw [rfS]; simp only [hh, dite_false]
theorem rfS_spec {a m b : Int} (hb : 0 ≤ b) : ∀ (n : Nat) (g x h u s : Int), h.natAbs ≤ n → RfInv a m b g x h u s → ∃ G X H U S : Int, rfS b g x h u = (H, U) ∧ RfInv a m b G X H U S ∧ H ≤ b
  | n, g, x, h, u, s, hn, i => by
    by_cases hh : b < h
    · match n, hn with
      | 0, hn => omega
      | n + 1, hn =>
        rw [rfS_step _ _ _ _ _ ⟨hh, by omega⟩]
        have j := i.step hb hh
        have k1 := j.hg
        have k2 := j.h0
        exact rfS_spec hb n _ _ _ _ _ (by omega) j
    · exact ⟨g, x, h, u, s, rfS_stop _ _ _ _ _ (by omega), i, by omega⟩

/-- A good ratio is what Euclid's algorithm stops at, but for the sign. -/
theorem Good.found {a m b n d g x h u s : Int} (hm : 1 ≤ m) (hb1 : 1 ≤ b) (hb : 2 * b * b < m) (r : Good a m b n d) (i : RfInv a m b g x h u s) (hh : h ≤ b) : n = s * h ∧ d = s * u := by
  have A1 : m ∣ g * d - x * n := by
    have e1 : g * d - x * n = (g - x * a) * d + x * (a * d - n) := by grind
    rw [e1]
    exact Int.dvd_add (Int.dvd_trans i.cg ⟨d, rfl⟩) (Int.dvd_trans r.im ⟨x, by rw [Int.mul_comm]⟩)
  have B1 : m ∣ u * n - h * d := by
    have e1 : u * n - h * d = -(u * (a * d - n)) - (h - u * a) * d := by grind
    rw [e1]
    exact Int.dvd_sub (Int.dvd_neg.2 (Int.dvd_trans r.im ⟨u, by rw [Int.mul_comm]⟩)) (Int.dvd_trans i.ch ⟨d, rfl⟩)
  obtain ⟨al, ha⟩ := A1
  obtain ⟨be, hbe⟩ := B1
  have ss : s * s = 1 := by rcases i.sg with rfl | rfl <;> rfl
  have e := i.e
  have en : n = s * (g * be + h * al) := by
    have k1 : m * (s * (g * be + h * al)) = m * n := by
      have k2 : g * (u * n - h * d) + h * (g * d - x * n) = n * (g * u - h * x) := by grind
      rw [ha, hbe] at k2
      have k3 : g * u - h * x = s * m := by rw [← e]; grind
      rw [k3] at k2
      grind
    exact (Int.eq_of_mul_eq_mul_left (by omega) k1).symm
  have ed : d = s * (x * be + u * al) := by
    have k1 : m * (s * (x * be + u * al)) = m * d := by
      have k2 : x * (u * n - h * d) + u * (g * d - x * n) = d * (g * u - h * x) := by grind
      rw [ha, hbe] at k2
      have k3 : g * u - h * x = s * m := by rw [← e]; grind
      rw [k3] at k2
      grind
    exact (Int.eq_of_mul_eq_mul_left (by omega) k1).symm
  have hS := i.u0
  have hX := i.x0
  have hg1 := i.bg
  have hh0 := i.h0
  have d1 := r.d1
  have d2 := r.d2
  have n1 := r.n1
  have n2 := r.n2
  -- d = S p + X q with S = s u, X = -(s x), p = al, q = -be; n = s (h p - g q)
  have ed2 : d = (s * u) * al + -(s * x) * -be := by rw [ed]; grind
  have en2 : s * n = h * al - g * -be := by rw [en]; grind
  have em : g * (s * u) + h * -(s * x) = m := by rw [← e]; grind
  have sn : -b ≤ s * n ∧ s * n ≤ b := by rcases i.sg with rfl | rfl <;> omega
  generalize s * u = S at *
  have hX' : 0 ≤ -(s * x) := by omega
  generalize -(s * x) = X at *
  generalize -be = q at *
  have hq : q = 0 := by
    rcases Int.lt_trichotomy q 0 with hq | hq | hq
    · exfalso
      have gq : g * 1 ≤ g * -q := Int.mul_le_mul_of_nonneg_left (by omega) (by omega)
      rw [Int.mul_neg] at gq
      rcases Int.lt_or_le al 0 with hp | hp
      · have k1 : 0 ≤ S * -al := Int.mul_nonneg hS (by omega)
        have k2 : 0 ≤ X * -q := Int.mul_nonneg hX' (by omega)
        rw [Int.mul_neg] at k1 k2
        omega
      · have k1 : 0 ≤ h * al := Int.mul_nonneg hh0 hp
        omega
    · exact hq
    · exfalso
      have gq : g * 1 ≤ g * q := Int.mul_le_mul_of_nonneg_left (by omega) (by omega)
      rcases Int.lt_or_le 0 al with hp | hp
      · have k1 : S * 1 ≤ S * al := Int.mul_le_mul_of_nonneg_left (by omega) hS
        have k2 : 0 ≤ X * q := Int.mul_nonneg hX' (by omega)
        have k3 : S ≤ b := by omega
        have k4 : S * (g * q - h * al) + h * d = q * m := by rw [ed2, ← em]; grind
        have k5 : S * (g * q - h * al) ≤ S * b := Int.mul_le_mul_of_nonneg_left (by omega) hS
        have k6 : S * b ≤ b * b := Int.mul_le_mul_of_nonneg_right k3 (by omega)
        have k7 : h * d ≤ b * b := Int.mul_le_mul hh d2 (by omega) (by omega)
        have k8 : 1 * m ≤ q * m := Int.mul_le_mul_of_nonneg_right (by omega) (by omega)
        have k9 : 2 * b * b = 2 * (b * b) := by rw [Int.mul_assoc]
        omega
      · have k1 : 0 ≤ h * -al := Int.mul_nonneg hh0 (by omega)
        rw [Int.mul_neg] at k1
        omega
  subst hq
  have ed3 : d = S * al := by omega
  have en3 : s * n = h * al := by omega
  have hal : al ∣ 1 := by
    have k1 : al ∣ d := ⟨S, by rw [ed3, Int.mul_comm]⟩
    have k2 : al ∣ n := by
      have : n = s * (s * n) := by rw [← Int.mul_assoc, ss, Int.one_mul]
      rw [this, en3]
      exact ⟨s * h, by grind⟩
    have := Int.dvd_coe_gcd k2 k1
    rw [r.co] at this
    exact this
  have hpos : 0 < al := by
    rcases Int.lt_or_le 0 al with hp | hp
    · exact hp
    · have k1 : 0 ≤ S * -al := Int.mul_nonneg hS (by omega)
      rw [Int.mul_neg] at k1
      omega
  have hal1 : al = 1 := by
    have := Int.le_of_dvd (by omega) hal
    omega
  subst hal1
  refine ⟨?_, by omega⟩
  have : n = s * (s * n) := by rw [← Int.mul_assoc, ss, Int.one_mul]
  rw [this, en3, Int.mul_one]
end Go.Proofs.Ytlggfmfelakadaa

/-
  DERIVED. The Hermite form, step by step, as functions of row and column: no program in sight.
-/
namespace Go.Proofs.Ytlggfmfelakadaa
set_option linter.unusedVariables false
abbrev Fn2 := Nat → Nat → Int
/-- Row i plus t times row j, numbers beyond the limit marked. -/
def opA (f : Fn2) (i j : Nat) (t : Int) : Fn2 := fun x y => if x = i then addB (f i y) (mulF (f j y) t) else f x y
/-- Row i negated. -/
def opN (f : Fn2) (i : Nat) : Fn2 := fun x y => if x = i then -f i y else f x y
/-- The same, marks kept. -/
def opM (f : Fn2) (i : Nat) : Fn2 := fun x y => if x = i then (if f i y = bad then bad else -f i y) else f x y
/-- A matrix and the account of what is done to it. -/
structure HS where
  f : Fn2
  g : Fn2
def HS.add (s : HS) (i j : Nat) (t : Int) : HS := ⟨opA s.f i j t, opA s.g i j t⟩
def HS.swap (s : HS) (p t : Nat) : HS := ⟨swF s.f p t, swF s.g p t⟩
def HS.neg (s : HS) (i : Nat) : HS := ⟨opM s.f i, opM s.g i⟩
def Num (n : Int) : Prop := -400000000 ≤ n ∧ n ≤ 400000000
theorem Num.isN {n : Int} (h : Num n) : isNum n = true := (isNum_iff n).2 h
theorem Num.of {n : Int} (h : isNum n = true) : Num n := (isNum_iff n).1 h
theorem Num.ne {n : Int} (h : Num n) : n ≠ bad := by unfold Num at h; unfold bad; omega
theorem Num.nb {n : Int} (h : Num n) : NB n := .inr h
theorem NB.num {n : Int} (h : NB n) (h2 : n ≠ bad) : Num n := h.resolve_left h2
/-- In R rows of C cells all are numbers. -/
def OKF (R C : Nat) (f : Fn2) : Prop := ∀ i j, i < R → j < C → Num (f i j)
def NBF (f : Fn2) : Prop := ∀ i j, NB (f i j)
structure HS.OK (R C : Nat) (s : HS) : Prop where
  f : OKF R C s.f
  g : OKF R R s.g
structure HS.NBS (s : HS) : Prop where
  f : NBF s.f
  g : NBF s.g
theorem NB.addB (a b : Int) : NB (addB a b) := by
  unfold Go.Proofs.Ytlggfmfelakadaa.addB
  split
  · exact .inl rfl
  · exact NB.fit _
theorem NB.mulF (a b : Int) : NB (mulF a b) := by
  unfold Go.Proofs.Ytlggfmfelakadaa.mulF
  split
  · exact .inl rfl
  · exact NB.fit _
theorem opA_nb {f : Fn2} (h : NBF f) (i j : Nat) (t : Int) : NBF (opA f i j t) := by
  intro x y
  unfold opA
  split
  · exact NB.addB _ _
  · exact h x y
theorem HS.NBS.add {s : HS} (h : s.NBS) (i j : Nat) (t : Int) : (s.add i j t).NBS := ⟨opA_nb h.f _ _ _, opA_nb h.g _ _ _⟩
theorem addB_ne {a b : Int} (h : addB a b ≠ bad) : a ≠ bad ∧ b ≠ bad ∧ addB a b = a + b ∧ Num (a + b) := by
  unfold addB at h ⊢
  split at h
  · exact absurd rfl h
  · rename_i h1
    rw [if_neg h1]
    refine ⟨fun e => h1 (.inl e), fun e => h1 (.inr e), ?_⟩
    unfold fit at h ⊢
    split at h
    · rename_i h2
      rw [if_pos h2]
      exact ⟨rfl, Num.of h2⟩
    · exact absurd rfl h
theorem mulF_ne {a b : Int} (h : mulF a b ≠ bad) : a ≠ bad ∧ b ≠ bad ∧ mulF a b = a * b ∧ Num (a * b) := by
  unfold mulF at h ⊢
  split at h
  · exact absurd rfl h
  · rename_i h1
    rw [if_neg h1]
    refine ⟨fun e => h1 (.inl e), fun e => h1 (.inr e), ?_⟩
    unfold fit at h ⊢
    split at h
    · rename_i h2
      rw [if_pos h2]
      exact ⟨rfl, Num.of h2⟩
    · exact absurd rfl h
theorem opA_num {f : Fn2} {i j y : Nat} {t : Int} (h : Num (opA f i j t i y)) : f i y ≠ bad ∧ f j y ≠ bad ∧ opA f i j t i y = f i y + f j y * t ∧ Num (f j y * t) := by
  have h1 := h.ne
  unfold opA at h1 ⊢
  rw [if_pos rfl] at h1 ⊢
  obtain ⟨a1, a2, a3, a4⟩ := addB_ne h1
  obtain ⟨b1, b2, b3, b4⟩ := mulF_ne a2
  rw [a3, b3]
  exact ⟨a1, b1, rfl, b4⟩
theorem opA_back {f : Fn2} {R C i j : Nat} {t : Int} (hn : NBF f) (h : OKF R C (opA f i j t)) : OKF R C f := by
  intro x y hx hy
  by_cases hxi : x = i
  · subst hxi
    exact (hn x y).num (opA_num (h x y hx hy)).1
  · have := h x y hx hy
    unfold opA at this
    rwa [if_neg hxi] at this
theorem HS.OK.back {s : HS} {R C i j : Nat} {t : Int} (hn : s.NBS) (h : (s.add i j t).OK R C) : s.OK R C := ⟨opA_back hn.f h.f, opA_back hn.g h.g⟩
theorem opA_other {f : Fn2} {i j x y : Nat} {t : Int} (h : x ≠ i) : opA f i j t x y = f x y := by unfold opA; rw [if_neg h]
/-- Whether row i can take t times row j. -/
def rowOk (f : Fn2) (i j : Nat) (t : Int) (C : Nat) : Prop := ∀ y, y < C → Num (f j y * t) ∧ Num (f i y + f j y * t)
theorem rowOk_iff {f : Fn2} {R C i j : Nat} {t : Int} (h : OKF R C f) (hi : i < R) (hj : j < R) (ht : Num t) : rowOk f i j t C ↔ OKF R C (opA f i j t) := by
  constructor
  · intro hr x y hx hy
    unfold opA
    split
    · obtain ⟨h1, h2⟩ := hr y hy
      rw [mulF_num (h j y hj hy) ht, fit_in h1, addB_num (h i y hi hy) h1, fit_in h2]
      exact h2
    · exact h x y hx hy
  · intro ho y hy
    obtain ⟨h1, h2, h3, h4⟩ := opA_num (ho i y hi hy)
    refine ⟨h4, ?_⟩
    rw [← h3]
    exact ho i y hi hy
theorem rowOk_val {f : Fn2} {R C i j y : Nat} {t : Int} (h : OKF R C f) (hi : i < R) (hj : j < R) (ht : Num t) (hr : rowOk f i j t C) (hy : y < C) : opA f i j t i y = f i y + f j y * t := by
  obtain ⟨h1, h2⟩ := hr y hy
  unfold opA
  rw [if_pos rfl, mulF_num (h j y hj hy) ht, fit_in h1, addB_num (h i y hi hy) h1, fit_in h2]
/-- The quotient that leaves a remainder from 0 on is no greater. -/
theorem ediv_bd {n d : Int} (h : Num n) (hd : d ≠ 0) : Num (n / d) := by
  unfold Num at *
  have := Int.natAbs_ediv_le_natAbs n d
  omega
theorem Num.neg {n : Int} (h : Num n) : Num (-n) := by unfold Num at *; omega
/-- The row from t on, n of them, with the least absolute value in column j that is not 0; -1 if there is none. -/
def lstK (f : Fn2) (j t : Nat) : Nat → Int
  | 0 => -1
  | n + 1 => if f (t + n) j ≠ 0 ∧ (lstK f j t n < 0 ∨ (f (t + n) j).natAbs < (f (lstK f j t n).toNat j).natAbs) then ((t + n : Nat) : Int) else lstK f j t n
theorem lstK_succ (f : Fn2) (j t n : Nat) : lstK f j t (n + 1) = if f (t + n) j ≠ 0 ∧ (lstK f j t n < 0 ∨ (f (t + n) j).natAbs < (f (lstK f j t n).toNat j).natAbs) then ((t + n : Nat) : Int) else lstK f j t n := rfl
theorem lstK_cases (f : Fn2) (j t : Nat) : ∀ n, (lstK f j t n = -1 ∧ ∀ i, i < n → f (t + i) j = 0) ∨ ∃ p, lstK f j t n = (p : Nat) ∧ t ≤ p ∧ p < t + n ∧ f p j ≠ 0 ∧ ∀ i, i < n → f (t + i) j ≠ 0 → (f p j).natAbs ≤ (f (t + i) j).natAbs
  | 0 => .inl ⟨rfl, fun i h => absurd h (Nat.not_lt_zero _)⟩
  | n + 1 => by
    rw [lstK_succ]
    rcases lstK_cases f j t n with ⟨h1, h2⟩ | ⟨p, h1, h2, h3, h4, h5⟩
    · by_cases hz : f (t + n) j = 0
      · left
        rw [if_neg (by simp [hz])]
        refine ⟨h1, fun i hi => ?_⟩
        rcases Nat.lt_or_ge i n with hi' | hi'
        · exact h2 i hi'
        · rw [show i = n by omega]; exact hz
      · right
        rw [if_pos ⟨hz, .inl (by omega)⟩]
        refine ⟨t + n, rfl, by omega, by omega, hz, fun i hi hne => ?_⟩
        rcases Nat.lt_or_ge i n with hi' | hi'
        · exact absurd (h2 i hi') hne
        · rw [show i = n by omega]; exact Nat.le_refl _
    · right
      rw [h1]
      by_cases hc : f (t + n) j ≠ 0 ∧ ((p : Int) < 0 ∨ (f (t + n) j).natAbs < (f (p : Int).toNat j).natAbs)
      · rw [if_pos hc]
        obtain ⟨hz, hc⟩ := hc
        rw [Int.toNat_natCast] at hc
        have hc' : (f (t + n) j).natAbs < (f p j).natAbs := hc.resolve_left (by omega)
        refine ⟨t + n, rfl, by omega, by omega, hz, fun i hi hne => ?_⟩
        rcases Nat.lt_or_ge i n with hi' | hi'
        · have := h5 i hi' hne; omega
        · rw [show i = n by omega]; exact Nat.le_refl _
      · rw [if_neg hc]
        rw [Int.toNat_natCast] at hc
        refine ⟨p, rfl, h2, by omega, h4, fun i hi hne => ?_⟩
        rcases Nat.lt_or_ge i n with hi' | hi'
        · exact h5 i hi' hne
        · rw [show i = n by omega] at hne ⊢
          refine Nat.le_of_not_lt fun hlt => hc ⟨hne, .inr hlt⟩
def lst (R : Nat) (f : Fn2) (j t : Nat) : Int := lstK f j t (R - t)
/-- Whether another row from t on has something in column j. -/
def oth (R : Nat) (f : Fn2) (j t p : Nat) : Bool := (List.range (R - t)).any fun n => decide (t + n ≠ p) && decide (f (t + n) j ≠ 0)
theorem oth_iff {R : Nat} {f : Fn2} {j t p : Nat} : oth R f j t p = true ↔ ∃ i, t ≤ i ∧ i < R ∧ i ≠ p ∧ f i j ≠ 0 := by
  unfold oth
  rw [List.any_eq_true]
  constructor
  · rintro ⟨n, hn, h⟩
    have hn' := List.mem_range.1 hn
    rw [Bool.and_eq_true, decide_eq_true_eq, decide_eq_true_eq] at h
    exact ⟨t + n, by omega, by omega, h.1, h.2⟩
  · rintro ⟨i, h1, h2, h3, h4⟩
    refine ⟨i - t, List.mem_range.2 (by omega), ?_⟩
    rw [show t + (i - t) = i by omega, Bool.and_eq_true, decide_eq_true_eq, decide_eq_true_eq]
    exact ⟨h3, h4⟩
theorem oth_no {R : Nat} {f : Fn2} {j t p : Nat} (h : ∀ i, t ≤ i → i < R → ¬ (i ≠ p ∧ f i j ≠ 0)) : oth R f j t p = false := by
  refine Bool.eq_false_iff.2 fun hc => ?_
  obtain ⟨i, h1, h2, h3⟩ := oth_iff.1 hc
  exact h i h1 h2 h3
/-- What row t + n takes in a sweep. -/
def swS (j p t : Nat) (s : HS) : Nat → HS
  | 0 => s
  | n + 1 => if t + n ≠ p ∧ (swS j p t s n).f (t + n) j ≠ 0 then (swS j p t s n).add (t + n) p (-((swS j p t s n).f (t + n) j / (swS j p t s n).f p j)) else swS j p t s n
theorem swS_succ (j p t : Nat) (s : HS) (n : Nat) : swS j p t s (n + 1) = if t + n ≠ p ∧ (swS j p t s n).f (t + n) j ≠ 0 then (swS j p t s n).add (t + n) p (-((swS j p t s n).f (t + n) j / (swS j p t s n).f p j)) else swS j p t s n := rfl
theorem swS_nb {j p t : Nat} {s : HS} (h : s.NBS) : ∀ n, (swS j p t s n).NBS
  | 0 => h
  | n + 1 => by
    rw [swS_succ]
    split
    · exact (swS_nb h n).add _ _ _
    · exact swS_nb h n
theorem swS_back {j p t R C : Nat} {s : HS} (h : s.NBS) {n : Nat} (hk : (swS j p t s (n + 1)).OK R C) : (swS j p t s n).OK R C := by
  rw [swS_succ] at hk
  split at hk
  · exact HS.OK.back (swS_nb h n) hk
  · exact hk
theorem swS_back' {j p t R C : Nat} {s : HS} (h : s.NBS) (n : Nat) : ∀ m, (swS j p t s (n + m)).OK R C → (swS j p t s n).OK R C
  | 0, hk => hk
  | m + 1, hk => swS_back' h n m (swS_back h hk)
/-- Row p stays. -/
theorem swS_p {j p t : Nat} {s : HS} (y : Nat) : ∀ n, (swS j p t s n).f p y = s.f p y
  | 0 => rfl
  | n + 1 => by
    rw [swS_succ]
    split
    · rename_i h
      show opA _ _ _ _ p y = _
      rw [opA_other (Ne.symm h.1)]
      exact swS_p y n
    · exact swS_p y n
/-- Rows that have not come up stay. -/
theorem swS_late {j p t : Nat} {s : HS} {x : Nat} (y : Nat) : ∀ n, t + n ≤ x → (swS j p t s n).f x y = s.f x y
  | 0, _ => rfl
  | n + 1, hx => by
    rw [swS_succ]
    split
    · show opA _ _ _ _ x y = _
      rw [opA_other (by omega)]
      exact swS_late y n (by omega)
    · exact swS_late y n (by omega)
theorem swS_early {j p t : Nat} {s : HS} {x : Nat} (y : Nat) (hx : x < t) : ∀ n, (swS j p t s n).f x y = s.f x y
  | 0 => rfl
  | n + 1 => by
    rw [swS_succ]
    split
    · show opA _ _ _ _ x y = _
      rw [opA_other (by omega)]
      exact swS_early y hx n
    · exact swS_early y hx n
/-- What stands in column j behind a sweep. -/
theorem swS_col {j p t R C : Nat} {s : HS} (h : s.NBS) (hj : j < C) (hp : p < R) (hpj : s.f p j ≠ 0) : ∀ n, t + n ≤ R → (swS j p t s n).OK R C → ∀ x, t ≤ x → x < t + n → x ≠ p → (swS j p t s n).f x j = s.f x j % s.f p j
  | 0, _, _, x, h1, h2, _ => by omega
  | n + 1, hn, hk, x, h1, h2, h3 => by
    have hk0 := swS_back h hk
    have hsp := swS_p (j := j) (p := p) (t := t) (s := s) j n
    have hnp : Num (s.f p j) := by rw [← hsp]; exact hk0.f p j hp hj
    by_cases hx : x = t + n
    · subst hx
      have hl := swS_late (j := j) (p := p) (t := t) (s := s) (x := t + n) j n (Nat.le_refl _)
      have hnx : Num (s.f (t + n) j) := by rw [← hl]; exact hk0.f _ j (by omega) hj
      rw [swS_succ] at hk ⊢
      by_cases hz : (swS j p t s n).f (t + n) j = 0
      · rw [if_neg (by simp [hz]), hz]
        rw [← hl, hz, Int.zero_emod]
      · rw [if_pos ⟨h3, hz⟩] at hk ⊢
        have hN := hk.f (t + n) j (by omega) hj
        obtain ⟨-, -, he, -⟩ := opA_num hN
        show opA _ _ _ _ (t + n) j = _
        rw [he, hl, hsp]
        have := Int.mul_ediv_add_emod (s.f (t + n) j) (s.f p j)
        rw [Int.mul_neg]
        omega
    · have hxl : x < t + n := by omega
      have ih := swS_col h hj hp hpj n (by omega) hk0 x h1 hxl h3
      rw [swS_succ]
      split
      · show opA _ _ _ _ x j = _
        rw [opA_other hx]
        exact ih
      · exact ih
/-- What rows 0 to n - 1 take when row t is done. -/
def abS (j t : Nat) (s : HS) : Nat → HS
  | 0 => s
  | n + 1 => (abS j t s n).add n t (-((abS j t s n).f n j / (abS j t s n).f t j))
theorem abS_succ (j t : Nat) (s : HS) (n : Nat) : abS j t s (n + 1) = (abS j t s n).add n t (-((abS j t s n).f n j / (abS j t s n).f t j)) := rfl
theorem abS_nb {j t : Nat} {s : HS} (h : s.NBS) : ∀ n, (abS j t s n).NBS
  | 0 => h
  | n + 1 => (abS_nb h n).add _ _ _
theorem abS_back {j t R C : Nat} {s : HS} (h : s.NBS) {n : Nat} (hk : (abS j t s (n + 1)).OK R C) : (abS j t s n).OK R C := HS.OK.back (abS_nb h n) hk
theorem abS_back' {j t R C : Nat} {s : HS} (h : s.NBS) (n : Nat) : ∀ m, (abS j t s (n + m)).OK R C → (abS j t s n).OK R C
  | 0, hk => hk
  | m + 1, hk => abS_back' h n m (abS_back h hk)
theorem abS_late {j t : Nat} {s : HS} {x : Nat} (y : Nat) : ∀ n, n ≤ x → (abS j t s n).f x y = s.f x y
  | 0, _ => rfl
  | n + 1, hx => by
    rw [abS_succ]
    show opA _ _ _ _ x y = _
    rw [opA_other (by omega)]
    exact abS_late y n (by omega)
def noBad (x : Int) : Bool := !(x == -4611686018427387904)
def HS.ok (R C : Nat) (s : HS) : Bool := (tb R C s.f).all noBad && (tb R R s.g).all noBad
theorem noBad_num {x : Int} (h : NB x) : noBad x = true ↔ Num x := by
  unfold noBad
  rw [Bool.not_eq_true', beq_eq_false_iff_ne]
  exact ⟨fun h2 => h.num h2, fun h2 => h2.ne⟩
theorem tb_all {R C : Nat} {f : Fn2} (h : NBF f) : (tb R C f).all noBad = true ↔ OKF R C f := by
  rw [List.all_eq_true]
  constructor
  · intro ha i j hi hj
    refine (noBad_num (h i j)).1 (ha _ ?_)
    rw [← tb_at (f := f) hi hj]
    have hl := idx_nat hi hj
    have : i * C + j < (tb R C f).length := by rw [tb_len]; exact hl
    rw [List.getD_eq_getElem?_getD, List.getElem?_eq_getElem this]
    exact List.getElem_mem this
  · intro ho x hx
    exact tb_mem (P := fun x => noBad x = true) (fun i j hi hj => (noBad_num (h i j)).2 (ho i j hi hj)) x hx
theorem HS.ok_iff {R C : Nat} {s : HS} (h : s.NBS) : s.ok R C = true ↔ s.OK R C := by
  unfold HS.ok
  rw [Bool.and_eq_true, tb_all h.f, tb_all h.g]
  exact ⟨fun h => ⟨h.1, h.2⟩, fun h => ⟨h.f, h.g⟩⟩
/-- The measure of the inner loop. -/
def hmMs (R j t : Nat) (s : HS) (p : Nat) : Nat := if oth R s.f j t p then (s.f p j).natAbs else 0
theorem hmMs_lt {R C j t : Nat} {s : HS} {p : Nat} (h : s.NBS) (hj : j < C) (hp : p < R) (ht : t ≤ p) (hpj : s.f p j ≠ 0) (ho : oth R s.f j t p = true) (hk : (swS j p t s (R - t)).OK R C) :
    hmMs R j t (swS j p t s (R - t)) (lst R (swS j p t s (R - t)).f j t).toNat < hmMs R j t s p := by
  have hcol := swS_col h hj hp hpj (R - t) (by omega) hk
  have hpp := swS_p (j := j) (p := p) (t := t) (s := s) j (R - t)
  generalize (swS j p t s (R - t)) = s' at *
  unfold hmMs
  rw [if_pos ho]
  by_cases ho2 : oth R s'.f j t (lst R s'.f j t).toNat = true
  · rw [if_pos ho2]
    obtain ⟨i, h1, h2, h3, h4⟩ := oth_iff.1 ho2
    rcases lstK_cases s'.f j t (R - t) with ⟨e1, e2⟩ | ⟨q, e1, e2, e3, e4, e5⟩
    · have := e2 (i - t) (by omega)
      rw [show t + (i - t) = i by omega] at this
      exact absurd this h4
    · have e1' : lst R s'.f j t = (q : Int) := e1
      rw [e1', Int.toNat_natCast] at h3 ⊢
      have hrem : ∀ x, t ≤ x → x < R → x ≠ p → (s'.f x j).natAbs < (s.f p j).natAbs := fun x a b c => by
        rw [hcol x a (by omega) c]
        have h5 := Int.emod_nonneg (s.f x j) hpj
        have h6 := Int.emod_lt (s.f x j) hpj
        omega
      by_cases hqp : q = p
      · subst hqp
        have h7 := hrem i h1 h2 h3
        have h8 := e5 (i - t) (by omega)
        rw [show t + (i - t) = i by omega] at h8
        have := h8 h4
        omega
      · exact hrem q e2 (by omega) hqp
  · rw [if_neg ho2]
    omega
/-- Sweeps till row p alone has something in column j. -/
def hmIn (R C j t : Nat) (s : HS) (p : Nat) : Option (HS × Nat) :=
  if oth R s.f j t p then
    if (swS j p t s (R - t)).ok R C then
      if h : hmMs R j t (swS j p t s (R - t)) (lst R (swS j p t s (R - t)).f j t).toNat < hmMs R j t s p then hmIn R C j t (swS j p t s (R - t)) (lst R (swS j p t s (R - t)).f j t).toNat else none
    else none
  else some (s, p)
termination_by hmMs R j t s p
theorem hmIn_done {R C j t : Nat} {s : HS} {p : Nat} (h : oth R s.f j t p = false) : hmIn R C j t s p = some (s, p) := by
  rw [hmIn, if_neg (by rw [h]; exact Bool.false_ne_true)]
theorem hmIn_bad {R C j t : Nat} {s : HS} {p : Nat} (ho : oth R s.f j t p = true) (h : (swS j p t s (R - t)).ok R C = false) : hmIn R C j t s p = none := by
  rw [hmIn, if_pos ho, if_neg (by rw [h]; exact Bool.false_ne_true)]
theorem hmIn_next {R C j t : Nat} {s : HS} {p : Nat} (hn : s.NBS) (hj : j < C) (hp : p < R) (ht : t ≤ p) (hpj : s.f p j ≠ 0) (ho : oth R s.f j t p = true) (h : (swS j p t s (R - t)).ok R C = true) :
    hmIn R C j t s p = hmIn R C j t (swS j p t s (R - t)) (lst R (swS j p t s (R - t)).f j t).toNat := by
  conv => lhs; rw [hmIn]
  rw [if_pos ho, if_pos h, dif_pos (hmMs_lt hn hj hp ht hpj ho ((HS.ok_iff (swS_nb hn _)).1 h))]
/-- Row p to place t, its sign, the rows above. -/
def hmS1 (t p : Nat) (s : HS) : HS := if p = t then s else s.swap p t
def hmS2 (j t : Nat) (s : HS) : HS := if s.f t j < 0 then s.neg t else s
def hmFin (R C j t : Nat) (p : Nat) (s : HS) : Option HS := if (abS j t (hmS2 j t (hmS1 t p s)) t).ok R C then some (abS j t (hmS2 j t (hmS1 t p s)) t) else none
/-- Columns j and the m - 1 behind it; the number of rows that are done. -/
def hmOut (R C : Nat) : Nat → Nat → Nat → HS → Option (HS × Nat)
  | 0, _, t, s => some (s, t)
  | m + 1, j, t, s =>
    if t < R then
      if lst R s.f j t < 0 then hmOut R C m (j + 1) t s
      else (hmIn R C j t s (lst R s.f j t).toNat).bind fun x => (hmFin R C j t x.2 x.1).bind fun s' => hmOut R C m (j + 1) (t + 1) s'
    else some (s, t)
/-- What follows in a column. -/
def hmGo (R C m j t : Nat) (o : Option (HS × Nat)) : Option (HS × Nat) := o.bind fun x => (hmFin R C j t x.2 x.1).bind fun s' => hmOut R C m (j + 1) (t + 1) s'
theorem hmOut_zero (R C j t : Nat) (s : HS) : hmOut R C 0 j t s = some (s, t) := rfl
theorem hmOut_full {R C m j t : Nat} {s : HS} (h : ¬ t < R) : hmOut R C m j t s = some (s, t) := by
  cases m with
  | zero => rfl
  | succ m => show (if _ then _ else _) = _; rw [if_neg h]
theorem hmOut_skip {R C m j t : Nat} {s : HS} (h : t < R) (h2 : lst R s.f j t < 0) : hmOut R C (m + 1) j t s = hmOut R C m (j + 1) t s := by
  show (if _ then (if _ then _ else _) else _) = _
  rw [if_pos h, if_pos h2]
theorem hmOut_go {R C m j t : Nat} {s : HS} (h : t < R) (h2 : ¬ lst R s.f j t < 0) : hmOut R C (m + 1) j t s = hmGo R C m j t (hmIn R C j t s (lst R s.f j t).toNat) := by
  show (if _ then (if _ then _ else _) else _) = _
  rw [if_pos h, if_neg h2]
  rfl
def idF : Fn2 := fun i j => if i = j then 1 else 0
/-- The Hermite form, what makes it, and the number of rows that are not zeros. -/
def hmRun (R C : Nat) (f : Fn2) : Option (HS × Nat) := hmOut R C C 0 0 ⟨f, idF⟩
end Go.Proofs.Ytlggfmfelakadaa

/-
  DERIVED. Sums of products of ratios. No program in sight.
-/
namespace Go.Proofs.Ytlggfmfelakadaa
set_option linter.unusedVariables false
/-- Ratio k of the flat list. -/
def fl (qs : List Int) (k : Nat) : Int × Int := (qs.getD (k * 2) 0, qs.getD (k * 2 + 1) 0)
def rsum (f g : Nat → Int × Int) : Nat → Int × Int
  | 0 => (0, 1)
  | k + 1 => addR (rsum f g k) (mulR (f k) (g k))
theorem rsum_ok (f g : Nat → Int × Int) : ∀ k, (ratOk (rsum f g k).1 (rsum f g k).2 = true) ∨ rsum f g k = (0, 0)
  | 0 => .inl (by show ratOk 0 1 = true; decide +kernel)
  | k + 1 => addR_ok _ _
def ratRow (xs : List Int) (C : Nat) (qs : List Int) (i : Nat) : Int × Int := rsum (fun k => (cel xs C i k, 1)) (fl qs) C
def ratRows (xs : List Int) (R C : Nat) (bs qs : List Int) : Bool := (List.range R).all fun i => decide (ratRow xs C qs i = (bs.getD i 0, 1))
def irB (r c : Int) (xs bs qs : List Int) : Bool := isMat r c xs && decide ((bs.length : Int) = r) && decide ((qs.length : Int) = c * 2) && ratRows xs r.toNat c.toNat bs qs
theorem ir_cases (r c : Int) (xs bs qs : List Int) : (isMat r c xs = false ∧ irB r c xs bs qs = false) ∨ (isMat r c xs = true ∧ ((bs.length : Int) != r) = true ∧ irB r c xs bs qs = false) ∨
    (isMat r c xs = true ∧ ((bs.length : Int) != r) = false ∧ ¬ (qs.length : Int) = c * 2 ∧ irB r c xs bs qs = false) ∨ (isMat r c xs = true ∧ ((bs.length : Int) != r) = false ∧ (qs.length : Int) = c * 2 ∧ irB r c xs bs qs = ratRows xs r.toNat c.toNat bs qs) := by
  unfold irB
  rcases isMat r c xs with _ | _
  · left; simp
  · right
    by_cases h : (bs.length : Int) = r
    · right
      by_cases h2 : (qs.length : Int) = c * 2
      · right; exact ⟨rfl, by simp [h], h2, by simp [h, h2]⟩
      · left; exact ⟨rfl, by simp [h], h2, by simp [h2]⟩
    · left; simp [h]
theorem ratRows_no {xs : List Int} {R C : Nat} {bs qs : List Int} {i : Nat} (hi : i < R) (h : ¬ ratRow xs C qs i = (bs.getD i 0, 1)) : ratRows xs R C bs qs = false := by
  unfold ratRows
  rw [List.all_eq_false]
  exact ⟨i, List.mem_range.2 hi, by rw [decide_eq_false h]; simp⟩
theorem ratRows_yes {xs : List Int} {R C : Nat} {bs qs : List Int} (h : ∀ i, i < R → ratRow xs C qs i = (bs.getD i 0, 1)) : ratRows xs R C bs qs = true := by
  unfold ratRows
  rw [List.all_eq_true]
  intro i hi
  exact decide_eq_true (h i (List.mem_range.1 hi))
end Go.Proofs.Ytlggfmfelakadaa

/-
  DERIVED. A window of a list: what lies from off on, m of them; the window put back. No program in sight.
-/
namespace Go.Proofs.Ytlggfmfelakadaa
set_option linter.unusedVariables false
def winL (xs : List Int) (off m : Nat) : List Int := (xs.drop off).take m
/-- xs with ys from off on. -/
def splL (xs : List Int) (off : Nat) (ys : List Int) : List Int := xs.take off ++ ys ++ xs.drop (off + ys.length)
theorem winL_len {xs : List Int} {off m : Nat} (h : off + m ≤ xs.length) : (winL xs off m).length = m := by simp [winL]; omega
theorem winL_getD {xs : List Int} {off m k : Nat} (hk : k < m) : (winL xs off m).getD k 0 = xs.getD (off + k) 0 := by
  simp [winL, List.getD, hk, List.getElem?_drop]
theorem splL_len {xs ys : List Int} {off : Nat} (h : off + ys.length ≤ xs.length) : (splL xs off ys).length = xs.length := by
  simp [splL]; omega
theorem splL_win {xs : List Int} {off m : Nat} (h : off + m ≤ xs.length) : splL xs off (winL xs off m) = xs := by
  unfold splL
  rw [winL_len h]
  unfold winL
  rw [List.append_assoc, ← List.drop_drop, List.take_append_drop, List.take_append_drop]
theorem splL_getD {xs ys : List Int} {off k : Nat} (h : off + ys.length ≤ xs.length) (hk : k < ys.length) : (splL xs off ys).getD (off + k) 0 = ys.getD k 0 := by
  unfold splL
  simp only [List.getD]
  rw [List.append_assoc, List.getElem?_append_right (by simp; omega)]
  rw [List.getElem?_append_left (by simp; omega)]
  congr 2
  simp; omega
theorem splL_set {xs ys : List Int} {off k : Nat} {v : Int} (h : off + ys.length ≤ xs.length) (hk : k < ys.length) : (splL xs off ys).set (off + k) v = splL xs off (ys.set k v) := by
  unfold splL
  rw [List.length_set, List.append_assoc, List.append_assoc, List.set_append_right _ _ (by simp; omega)]
  congr 1
  have e : off + k - (xs.take off).length = k := by simp; omega
  rw [e, List.set_append_left _ _ hk]
/-- The first k of ys, then the rest of zs. -/
def mixL (ys zs : List Int) (k : Nat) : List Int := ys.take k ++ zs.drop k
theorem mixL_len {ys zs : List Int} {k : Nat} (h : ys.length = zs.length) (hk : k ≤ zs.length) : (mixL ys zs k).length = zs.length := by simp [mixL]; omega
theorem mixL_zero (ys zs : List Int) : mixL ys zs 0 = zs := by simp [mixL]
theorem mixL_all {ys zs : List Int} {k : Nat} (h : ys.length = zs.length) (hk : zs.length ≤ k) : mixL ys zs k = ys := by
  simp [mixL, List.drop_of_length_le hk, List.take_of_length_le (show ys.length ≤ k by omega)]
theorem mixL_at {ys zs : List Int} {k : Nat} (h : ys.length = zs.length) (hk : k < zs.length) : (mixL ys zs k).getD k 0 = zs.getD k 0 := by
  simp only [mixL, List.getD]
  rw [List.getElem?_append_right (by simp; omega)]
  simp [Nat.min_eq_left (show k ≤ ys.length by omega)]
theorem mixL_set {ys zs : List Int} {k : Nat} (h : ys.length = zs.length) (hk : k < zs.length) : (mixL ys zs k).set k (ys.getD k 0) = mixL ys zs (k + 1) := by
  unfold mixL
  apply List.ext_getElem?
  intro i
  grind
theorem primL_getD {l : List Int} {k : Nat} (hk : k < l.length) (hg : gcdL l ≠ 0) : (primL l).getD k 0 = (l.getD k 0).tdiv (divL l) := by
  unfold primL
  rw [if_neg hg]
  simp [List.getD, hk]
end Go.Proofs.Ytlggfmfelakadaa

/-
  DERIVED. The builtin copy of ints onto a window of an owned block.
-/
namespace Go.Proofs.Ytlggfmfelakadaa
open Go.RowKit
set_option linter.unusedVariables false
theorem splL_nil (xs : List Int) (off : Nat) : splL xs off [] = xs := by simp [splL]
theorem run_copy_win (w : World) (B : Nat) (ty : TypeId) (Av : Option Addr) (n cap : Nat) (xs : List Int) (hown : OR w B (.slice Av n cap) xs) (off m dL dCap sCap : Nat) (hdL : m ≤ dL) (dp A : Option Addr) (C : Nat) (ys : List Int) (hr : RI w C A m ys)
    (hfit : off + m ≤ xs.length) (hd : 0 < m → dp = Av.map fun x => x.add off) :
    ∃ w', (Builtin.copy_ #[24, 24] ty #[.slice dp dL dCap, .slice A m sCap]).run Try.prog w = .ok (goInt m) w' ∧ OR w' B (.slice Av n cap) (splL xs off ys) ∧ w.grownBy w' (Value.slice Av n cap).ownBlock ∧ w.heap.size = w'.heap.size := by
  obtain ⟨i0, hi, hz0, hz1, hz2⟩ := info_parts int_info
  have hs : (Try.prog.info? 3).map (·.size) = some 1 := by rw [hi]; simp [hz1]
  have hl := hr.len
  by_cases h0 : m = 0
  · subst h0
    have hn : ys = [] := List.eq_nil_of_length_eq_zero hl
    subst hn
    refine ⟨w, ?_, by rw [splL_nil]; exact hown, World.grownBy.refl w _, rfl⟩
    exact run_copy_none (P := Try.prog) w 24 24 ty 3 dp A dL dCap 0 sCap Try.underlying24 hs (by simp)
  · obtain ⟨b, o, rfl, hbb, hc⟩ := hr.2 (by omega)
    rcases hown.2 with ⟨h1, h2⟩ | ⟨g, cap', cur, h1, hbg, hg, hnc, hcm, hcs, htake⟩
    · omega
    · injection h1 with e1 e2 e3
      subst e1; subst e2; subst e3
      have e4 := hd (by omega)
      simp only [Option.map_some, addr_add, Nat.zero_add] at e4
      subst e4
      have hcells : ∀ j u, (ys.map (Value.int .i64))[j]? = some u → w.cell? ((⟨b, o, none⟩ : Addr).add j) = some u := by
        intro j u hu
        have hj : j < ys.length := by
          have := (List.getElem?_eq_some_iff.1 hu).1
          simpa using this
        rw [addr_add, hc j (by omega)]
        simp [hj] at hu
        simp [List.getD, hj, hu]
      have hcz : cur.size = cap := by rw [hcs, Nat.mul_one]
      have hone : ∀ v ∈ ys.map (Value.int .i64), v.oneCell' = true := by
        intro u hu
        obtain ⟨y, _, rfl⟩ := List.mem_map.1 hu
        rfl
      have hrun := run_copy_row (P := Try.prog) w 24 24 ty 3 g off dL dCap ⟨b, o, none⟩ m sCap cur 3 (ys.map (Value.int .i64)) Try.underlying24 hs hg (by rw [List.length_map, hl]; exact (Nat.min_eq_left hdL).symm) hcells (by simp [hl]; omega) hone
      have e5 : (ys.map (Value.int .i64)).length = m := by simp [hl]
      rw [e5] at hrun
      refine ⟨_, hrun, ⟨by simp, .inr ⟨g, cap, _, by rw [splL_len (by omega)], hbg, setRow_heap w g cur _ _ _ hg, by rw [splL_len (by omega)]; exact hnc, hcm, ?_, ?_⟩⟩, ⟨rfl, rfl, rfl, by simp, fun k _ hk => setRow_other w g k _ (fun e => hk (by simp [Value.ownBlock, e]))⟩, by simp⟩
      · simp only [List.size_toArray, List.length_append, List.length_take, List.length_drop, Array.length_toList, e5]
        omega
      · have ht : cur.toList.take xs.length = xs.map (Value.int .i64) := by simpa using htake
        have e6 : cur.toList = xs.map (Value.int .i64) ++ cur.toList.drop xs.length := by rw [← ht, List.take_append_drop]
        rw [splL_len (by omega), Nat.mul_one]
        unfold splL
        rw [e6]
        have e7 : (xs.map (Value.int .i64)).length = xs.length := by simp
        rw [List.take_append_of_le_length (i := off) (l₁ := xs.map (Value.int .i64)) (by omega), List.drop_append_of_le_length (i := off + m) (l₁ := xs.map (Value.int .i64)) (by omega)]
        have e8 : (List.take off (xs.map (Value.int .i64)) ++ ys.map (Value.int .i64) ++ (List.drop (off + m) (xs.map (Value.int .i64)) ++ cur.toList.drop xs.length)) = (List.take off (xs.map (Value.int .i64)) ++ ys.map (Value.int .i64) ++ List.drop (off + m) (xs.map (Value.int .i64))) ++ cur.toList.drop xs.length := by simp only [List.append_assoc]
        rw [show ∀ l : List Value, l.toArray.toList = l from fun _ => rfl, e8, List.take_append_of_le_length (by simp [hl]; omega), List.take_of_length_le (by simp [hl]; omega)]
        simp [hl]
theorem OR.win {w : World} {B g n cap off m : Nat} {xs : List Int} (h : OR w B (.slice (some ⟨g, 0, none⟩) n cap) xs) (hf : off + m ≤ xs.length) : RI w (g + 1) (some ⟨g, off, none⟩) m (winL xs off m) :=
  ⟨winL_len hf, fun _ => ⟨g, off, rfl, by omega, fun k hk => by rw [winL_getD hk]; exact h.cell (off + k) (by omega)⟩⟩
section
variable (w : World)
theorem step_copy_win {ops : Array Oper} {o : Oper} {a : Act} {K : Act → World → Prop} {Q : Exit → Act → World → Prop} {E : Prop} (hgd : o.guard = none) (d s : Operand)
    (ho : o.op = .call { callee := .builtin .copy, args := #[d, s], argTypes := #[24, 24] })
    (B : Nat) (Av : Option Addr) (n cap : Nat) (xs : List Int) (hown : OR w B (.slice Av n cap) xs) (off m dL dCap sCap : Nat) (hdL : m ≤ dL) (dp A : Option Addr) (hdv : a.eval d = .slice dp dL dCap) (hsv : a.eval s = .slice A m sCap) (C : Nat) (ys : List Int) (hr : RI w C A m ys)
    (hfit : off + m ≤ xs.length) (hd : 0 < m → dp = Av.map fun x => x.add off)
    (h : ∀ w', OR w' B (.slice Av n cap) (splL xs off ys) → w.grownBy w' (Value.slice Av n cap).ownBlock → w.heap.size = w'.heap.size → K (a.put o.dst (goInt m)) w') :
    if Region.wanted o (yielded ops a.tmps) = true then Oper.wp Try.prog o a w K Q else E := by
  have hw : Region.wanted o (yielded ops a.tmps) = true := by simp [Region.wanted, hgd]
  rw [if_pos hw]
  obtain ⟨w', hrun, h2, h3, h4⟩ := run_copy_win w B o.type Av n cap xs hown off m dL dCap sCap hdL dp A C ys hr hfit hd
  unfold Oper.wp execOp
  simp only [ho, resolve, invoke, builtin, Sem.run_bind, Sem.run_pure, Result.andThen_ok, List.map_toArray, List.map_cons, List.map_nil, hdv, hsv, hrun]
  exact h w' h2 h3 h4
end
end Go.Proofs.Ytlggfmfelakadaa

/-
  DERIVED. RatioFrom: the search of the program and the algorithm of the reference come to one ratio.
-/
namespace Go.Proofs.Ytlggfmfelakadaa
open Go.RowKit
set_option linter.unusedVariables false
/-- The search over the denominators from d on. -/
def rfI (a m b : Int) : Nat → Int → Option (Int × Int)
  | 0, _ => none
  | k + 1, d => if (symOf (a * d % m) m).natAbs ≤ b ∧ imgOk (symOf (a * d % m) m) d a m = true then some (symOf (a * d % m) m, d) else rfI a m b k (d + 1)
/-- What the reference makes of the algorithm's end. -/
def rfEnd (a m b : Int) (r : Int × Int) : Option (Int × Int) :=
  if r.2 < 0 then (if b < -r.2 ∨ imgOk (-r.1) (-r.2) a m = false then none else some (-r.1, -r.2)) else (if b < r.2 ∨ imgOk r.1 r.2 a m = false then none else some r)
structure RfOk (a m b : Int) : Prop where
  a1 : -400000000 ≤ a
  a2 : a ≤ 400000000
  m1 : 1 ≤ m
  m2 : m ≤ 400000000
  b1 : 1 ≤ b
  b2 : b ≤ 20000
  bm : 2 * b * b < m
theorem good_iff {a m b : Int} (g : RfOk a m b) (n d : Int) : Good a m b n d ↔ (1 ≤ d ∧ d ≤ b) ∧ (n.natAbs : Int) ≤ b ∧ imgOk n d a m = true := by
  rw [imgOk_iff, ratOk_iff]
  have hb := g.b2
  constructor
  · intro h
    have h1 := h.d1
    have h2 := h.d2
    have h3 := h.n1
    have h4 := h.n2
    exact ⟨⟨h1, h2⟩, by omega, ⟨⟨h1, by omega⟩, ⟨by omega, by omega⟩, h.co⟩, ⟨g.a1, g.a2⟩, ⟨g.m1, g.m2⟩, h.cm, Int.emod_eq_zero_of_dvd h.im⟩
  · rintro ⟨⟨h1, h2⟩, h3, ⟨_, _, h4⟩, _, _, h5, h6⟩
    exact ⟨h1, h2, by omega, by omega, h4, h5, Int.dvd_of_emod_eq_zero h6⟩
theorem symOf_of {m b n y : Int} (hm : 1 ≤ m) (hb : 2 * b < m) (h1 : -b ≤ n) (h2 : n ≤ b) (hd : m ∣ y - n) : symOf (y % m) m = n := by
  unfold symOf
  rw [Int.emod_emod]
  have e0 := Int.emod_nonneg y (show m ≠ 0 by omega)
  have e1 := Int.emod_lt_of_pos y (show 0 < m by omega)
  have e2 := Int.mul_ediv_add_emod y m
  have e3 : m ∣ y % m - n := by
    have : y % m - n = (y - n) - m * (y / m) := by omega
    rw [this]
    exact Int.dvd_sub hd ⟨_, rfl⟩
  rcases Int.lt_or_le n 0 with hn | hn
  · have e4 : m ∣ y % m - n - m := Int.dvd_sub e3 (Int.dvd_refl m)
    have := small_of_dvd e4 (by omega) (by omega)
    rw [if_pos (by omega)]; omega
  · have := small_of_dvd e3 (by omega) (by omega)
    rw [if_neg (by omega)]; omega
theorem two_b {a m b : Int} (g : RfOk a m b) : 2 * b < m := by
  have h1 := g.b1
  have h2 := g.bm
  have h3 : b * 1 ≤ b * b := Int.mul_le_mul_of_nonneg_left h1 (by omega)
  have h4 : 2 * b * b = 2 * (b * b) := by rw [Int.mul_assoc]
  omega
theorem Good.cond {a m b n d : Int} (g : RfOk a m b) (h : Good a m b n d) : symOf (a * d % m) m = n := symOf_of g.m1 (two_b g) h.n1 h.n2 h.im
theorem rfI_some {a m b : Int} (g : RfOk a m b) : ∀ (k : Nat) (d0 : Int) (r : Int × Int), 1 ≤ d0 → d0 + k ≤ b + 1 → rfI a m b k d0 = some r → Good a m b r.1 r.2
  | 0, d0, r, _, _, h => by simp [rfI] at h
  | k + 1, d0, r, h0, h1, h => by
    unfold rfI at h
    split at h
    · rename_i hc
      injection h with h
      subst h
      exact (good_iff g _ _).2 ⟨⟨h0, by omega⟩, hc.1, hc.2⟩
    · exact rfI_some g k (d0 + 1) r (by omega) (by omega) h
theorem rfI_none {a m b : Int} (g : RfOk a m b) : ∀ (k : Nat) (d0 : Int), rfI a m b k d0 = none → ∀ n d, Good a m b n d → d0 ≤ d → d < d0 + k → False
  | 0, d0, _, n, d, _, h1, h2 => by omega
  | k + 1, d0, h, n, d, hg, h1, h2 => by
    unfold rfI at h
    split at h
    · cases h
    · rename_i hc
      by_cases he : d = d0
      · subst he
        apply hc
        rw [hg.cond g]
        exact ((good_iff g _ _).1 hg).2
      · exact rfI_none g k (d0 + 1) h n d hg (by omega) (by omega)
theorem rf_eq {a m b : Int} (g : RfOk a m b) : rfEnd a m b (rfS b m 0 (a % m) 1) = rfI a m b b.toNat 1 := by
  obtain ⟨G, X, H, U, S, hr, i, hb⟩ := rfS_spec (a := a) (m := m) (b := b) (by have := g.b1; omega) _ _ _ _ _ _ (Nat.le_refl _) (RfInv.start g.m1 (by have := two_b g; have := g.b1; omega))
  rw [hr]
  have hb1 := g.b1
  rcases hI : rfI a m b b.toNat 1 with _ | r
  · -- none is good
    have hno := fun n d (hg : Good a m b n d) => rfI_none g _ _ hI n d hg hg.d1 (by have := hg.d2; omega)
    unfold rfEnd
    have key : ∀ n d : Int, (n.natAbs : Int) ≤ b → ¬ (1 ≤ d ∧ d ≤ b ∧ imgOk n d a m = true) := fun n d hn hd => hno n d ((good_iff g n d).2 ⟨⟨hd.1, hd.2.1⟩, hn, hd.2.2⟩)
    have pos : ∀ n d : Int, imgOk n d a m = true → 1 ≤ d := fun n d h => (ratOk_bds ((imgOk_iff _ _ _ _).1 h).1).1
    have hh0 := i.h0
    dsimp only
    split
    · rw [if_pos]
      rcases hi : imgOk (-H) (-U) a m with _ | _
      · exact .inr rfl
      · left
        have k1 := key (-H) (-U) (by omega)
        have k2 := pos _ _ hi
        rcases Int.lt_or_le b (-U) with k3 | k3
        · exact k3
        · exact absurd ⟨k2, k3, hi⟩ k1
    · rw [if_pos]
      rcases hi : imgOk H U a m with _ | _
      · exact .inr rfl
      · left
        have k1 := key H U (by omega)
        have k2 := pos _ _ hi
        rcases Int.lt_or_le b U with k3 | k3
        · exact k3
        · exact absurd ⟨k2, k3, hi⟩ k1
  · have hg := rfI_some g _ _ r (by omega) (by omega) hI
    obtain ⟨e1, e2⟩ := hg.found g.m1 g.b1 g.bm i hb
    obtain ⟨n, d⟩ := r
    dsimp only at e1 e2 hg
    have hi := ((good_iff g n d).1 hg).2.2
    have h1 := hg.d1
    have h2 := hg.d2
    unfold rfEnd
    dsimp only
    rcases i.sg with rfl | rfl
    · have e1' : n = H := by omega
      have e2' : d = U := by omega
      clear e1 e2
      subst e1'; subst e2'
      have hc : ¬ (b < d ∨ imgOk n d a m = false) := by
        rw [hi]; simp; omega
      rw [if_neg (by omega), if_neg hc]
    · have e1' : n = -H := by omega
      have e2' : d = -U := by omega
      clear e1 e2
      subst e1'; subst e2'
      have hc : ¬ (b < -U ∨ imgOk (-H) (-U) a m = false) := by
        rw [hi]; simp; omega
      rw [if_pos (by omega), if_neg hc]
end Go.Proofs.Ytlggfmfelakadaa

/-
  DERIVED. What an echelon form asks, row by row: no program in sight.
-/
namespace Go.Proofs.Ytlggfmfelakadaa
set_option linter.unusedVariables false
def ezc (xs : List Int) (C i k : Nat) : Bool := decide (k = i) || decide (cel xs C k (pv xs C i) = 0)
def erow (xs : List Int) (R C i : Nat) : Bool :=
  if pv xs C i < C then decide (lastP xs C i < pv xs C i) && decide (0 ≤ cel xs C i (pv xs C i)) && decide (gcdL (rowL xs C i) = 1) && (List.range R).all (ezc xs C i) else true
def echB (r c : Int) (xs : List Int) : Bool := isMat r c xs && (List.range r.toNat).all (erow xs r.toNat c.toNat)
/-- The row is primitive exactly if the reference finds nothing wrong with it. -/
theorem prim_row {xs : List Int} {C i : Nat} (hl : (rowL xs C i).length = C) (hp : pv xs C i < C) : primL (rowL xs C i) = rowL xs C i ↔ (gcdL (rowL xs C i) = 1 ∧ 0 ≤ cel xs C i (pv xs C i)) := by
  have h1 := primL_eq_iff (rowL xs C i)
  have h2 : gcdL (rowL xs C i) ≠ 0 := fcN_lt_iff.1 (by rw [hl]; exact hp)
  rw [h1, ← rowL_getD hp]
  simp only [h2, false_or]
  exact Iff.rfl
theorem prim_row0 {xs : List Int} {C i : Nat} (hl : (rowL xs C i).length = C) (hp : ¬ pv xs C i < C) : primL (rowL xs C i) = rowL xs C i := by
  have h1 := primL_eq_iff (rowL xs C i)
  rw [h1]
  left
  apply Classical.byContradiction
  intro h
  exact hp (by have := fcN_lt_iff.2 h; rw [hl] at this; exact this)
theorem spl_all {xs : List Int} {n : Nat} (h : xs.length = n) : splL xs 0 (primL (winL xs 0 n)) = primL xs := by
  have e : winL xs 0 n = xs := by simp [winL, ← h]
  rw [e]
  simp [splL, primL_len]
theorem gcdF_le' (l : List Int) (M : Nat) (h : ∀ x ∈ l, x.natAbs ≤ M) : ∀ a : Nat, a ≤ M → l.foldl (fun (g : Nat) (x : Int) => Int.gcd g x) a ≤ M := by
  induction l with
  | nil => intro a ha; simpa using ha
  | cons y l ih =>
    intro a ha
    refine ih (fun x hx => h x (List.mem_cons_of_mem _ hx)) _ ?_
    show Int.gcd a y ≤ M
    by_cases hy : y = 0
    · subst hy; simpa using ha
    · have h1 : Int.gcd a y ∣ y.natAbs := Int.gcd_dvd_natAbs_right ..
      have h2 := Nat.le_of_dvd (by omega) h1
      have := h y (List.mem_cons_self ..)
      omega
end Go.Proofs.Ytlggfmfelakadaa

/-
  DERIVED. The reduced echelon form with primitive rows: no program in sight.
-/
namespace Go.Proofs.Ytlggfmfelakadaa
set_option linter.unusedVariables false
/-- Row i, as a list. -/
def rw_ (C : Nat) (f : Nat → Nat → Int) (i : Nat) : List Int := tab C (f i)
theorem rw_len (C : Nat) (f : Nat → Nat → Int) (i : Nat) : (rw_ C f i).length = C := tab_len _ _
theorem rw_at {C : Nat} {f : Nat → Nat → Int} {i c : Nat} (h : c < C) : (rw_ C f i).getD c 0 = f i c := tab_getD h
theorem win_tb {R C i : Nat} {f : Nat → Nat → Int} (hi : i < R) : winL (tb R C f) (i * C) C = rw_ C f i := by
  have hl : i * C + C ≤ (tb R C f).length := by
    rw [tb_len]; have h3 := Nat.mul_le_mul_right C (show i + 1 ≤ R by omega); rw [Nat.add_mul, Nat.one_mul] at h3; exact h3
  apply List.ext_getElem?
  intro c
  by_cases hc : c < C
  · have h1 : (winL (tb R C f) (i * C) C).getD c 0 = f i c := by rw [winL_getD hc, tb_at hi hc]
    have h2 := rw_at (f := f) (i := i) hc
    have l1 := winL_len hl
    have l2 := rw_len C f i
    rw [List.getElem?_eq_getElem (by omega), List.getElem?_eq_getElem (by omega)]
    simp [List.getD, show c < (winL (tb R C f) (i * C) C).length by omega] at h1
    simp [List.getD, show c < (rw_ C f i).length by omega] at h2
    rw [h1, h2]
  · rw [List.getElem?_eq_none (by rw [winL_len hl]; omega), List.getElem?_eq_none (by rw [rw_len]; omega)]
/-- Row i anew. -/
def setR (f : Nat → Nat → Int) (i : Nat) (ys : List Int) : Nat → Nat → Int := fun a c => if a = i then ys.getD c 0 else f a c
theorem spl_tb {R C i : Nat} {f : Nat → Nat → Int} {ys : List Int} (hi : i < R) (hy : ys.length = C) : splL (tb R C f) (i * C) ys = tb R C (setR f i ys) := by
  have hl : i * C + C ≤ R * C := by
    have h3 := Nat.mul_le_mul_right C (show i + 1 ≤ R by omega); rw [Nat.add_mul, Nat.one_mul] at h3; exact h3
  have hlen : (splL (tb R C f) (i * C) ys).length = R * C := by rw [splL_len (by rw [tb_len, hy]; exact hl), tb_len]
  rw [tb_of hlen]
  apply tb_ext
  intro a c ha hc
  rw [cel_nat]
  unfold setR
  by_cases hai : a = i
  · subst hai
    rw [if_pos rfl, splL_getD (by rw [tb_len, hy]; exact hl) (by omega)]
  · rw [if_neg hai]
    have hq := idx_nat ha hc
    rw [← tb_at (f := f) ha hc]
    have htl : ((tb R C f).take (i * C)).length = i * C := by rw [List.length_take, tb_len]; omega
    unfold splL
    simp only [List.getD]
    congr 1
    rcases Nat.lt_or_gt_of_ne hai with h | h
    · have h1 : a * C + c < i * C := by
        have h3 := Nat.mul_le_mul_right C (show a + 1 ≤ i by omega); rw [Nat.add_mul, Nat.one_mul] at h3; omega
      rw [List.append_assoc, List.getElem?_append_left (by rw [htl]; exact h1), List.getElem?_take_of_lt h1]
    · have h1 : i * C + C ≤ a * C + c := by
        have h3 := Nat.mul_le_mul_right C (show i + 1 ≤ a by omega); rw [Nat.add_mul, Nat.one_mul] at h3; omega
      rw [List.getElem?_append_right (by rw [List.length_append, htl, hy]; exact h1), List.getElem?_drop, List.length_append, htl, hy]
      congr 1
      omega
/-- The primitive row i. -/
def prF (C : Nat) (f : Nat → Nat → Int) (i : Nat) : Nat → Nat → Int := setR f i (primL (rw_ C f i))
def prK (C : Nat) (f : Nat → Nat → Int) (m : Nat) : Nat → Nat → Int := fun i c => if i < m then (primL (rw_ C f i)).getD c 0 else f i c
theorem prK_zero (C : Nat) (f : Nat → Nat → Int) : prK C f 0 = f := by funext i c; simp [prK]
theorem rw_ext {C : Nat} {f g : Nat → Nat → Int} {i k : Nat} (h : ∀ c, c < C → f i c = g k c) : rw_ C f i = rw_ C g k := by
  unfold rw_ tab
  apply List.map_congr_left
  intro c hc
  exact h c (List.mem_range.1 hc)
theorem prK_step (C : Nat) (f : Nat → Nat → Int) (m : Nat) : prF C (prK C f m) m = prK C f (m + 1) := by
  have e : rw_ C (prK C f m) m = rw_ C f m := rw_ext fun c hc => by simp [prK]
  funext i c
  unfold prF setR
  rw [e]
  unfold prK
  by_cases h : i = m
  · subst h; simp
  · rw [if_neg h]
    by_cases h2 : i < m
    · rw [if_pos h2, if_pos (by omega)]
    · rw [if_neg h2, if_neg (by omega)]
theorem rw_prK {C : Nat} {f : Nat → Nat → Int} {m i : Nat} (h : i < m) : rw_ C (prK C f m) i = primL (rw_ C f i) := by
  apply List.ext_getElem?
  intro c
  by_cases hc : c < C
  · have h1 := rw_at (f := prK C f m) (i := i) hc
    have h2 : prK C f m i c = (primL (rw_ C f i)).getD c 0 := by simp [prK, h]
    rw [h2] at h1
    have l1 := rw_len C (prK C f m) i
    have l2 := primL_len (rw_ C f i)
    rw [rw_len] at l2
    rw [List.getElem?_eq_getElem (by omega), List.getElem?_eq_getElem (by omega)]
    simp [List.getD, show c < (rw_ C (prK C f m) i).length by omega, show c < (primL (rw_ C f i)).length by omega] at h1
    rw [h1]
  · rw [List.getElem?_eq_none (by rw [rw_len]; omega), List.getElem?_eq_none (by rw [primL_len, rw_len]; omega)]
theorem rw_setR {C : Nat} {f : Nat → Nat → Int} {i : Nat} {ys : List Int} (hy : ys.length = C) : rw_ C (setR f i ys) i = ys := by
  apply List.ext_getElem?
  intro c
  by_cases hc : c < C
  · have h1 := rw_at (f := setR f i ys) (i := i) hc
    have h2 : setR f i ys i c = ys.getD c 0 := by simp [setR]
    rw [h2] at h1
    have l1 := rw_len C (setR f i ys) i
    rw [List.getElem?_eq_getElem (by omega), List.getElem?_eq_getElem (by omega)]
    simp [List.getD, show c < (rw_ C (setR f i ys) i).length by omega, show c < ys.length by omega] at h1
    rw [h1]
  · rw [List.getElem?_eq_none (by rw [rw_len]; omega), List.getElem?_eq_none (by omega)]
theorem rw_setR_ne {C : Nat} {f : Nat → Nat → Int} {i k : Nat} {ys : List Int} (h : k ≠ i) : rw_ C (setR f i ys) k = rw_ C f k := rw_ext fun c hc => by simp [setR, h]
theorem primL_idem (l : List Int) : primL (primL l) = primL l := by
  by_cases h0 : gcdL l = 0
  · have e : primL l = l := (primL_eq_iff l).2 (.inl h0)
    rw [e, e]
  · rw [primL_eq_iff]
    right
    have hlt := fcN_lt_iff.2 h0
    have hd0 : divL l ≠ 0 := by intro e; have := divL_abs l; rw [e] at this; simp at this; omega
    have hab := divL_abs l
    have hmem : ∀ x ∈ l, ∃ q, x = divL l * q ∧ x.tdiv (divL l) = q := fun x hx => by
      obtain ⟨q, hq⟩ := divL_dvd hx
      exact ⟨q, hq, by rw [hq]; exact Int.mul_tdiv_cancel_left q hd0⟩
    have hfc : fcN (primL l) = fcN l := by
      refine fcN_eq (by rw [primL_len]; omega) (fun j hj => ?_) (fun _ => ?_)
      · rw [primL_getD (by omega) h0, fcN_zero l j hj]; simp
      · rw [primL_getD hlt h0]
        obtain ⟨q, hq, hq2⟩ := hmem _ (mem_getD hlt)
        rw [hq2]
        intro e
        rw [e, Int.mul_zero] at hq
        exact fcN_ne l hlt hq
    obtain ⟨q0, hq0, hq02⟩ := hmem _ (mem_getD hlt)
    have hpos : 0 < q0 := by
      have hne := fcN_ne l hlt
      have hg : (0 : Int) < gcdL l := by omega
      by_cases hneg : l.getD (fcN l) 0 < 0
      · have e : divL l = -(gcdL l : Int) := by unfold divL; rw [if_pos hneg]
        rw [e] at hq0
        apply Classical.byContradiction
        intro h
        have h1 : 0 ≤ (gcdL l : Int) * -q0 := Int.mul_nonneg (by omega) (by omega)
        rw [Int.mul_neg] at h1
        rw [Int.neg_mul] at hq0
        omega
      · have e : divL l = (gcdL l : Int) := by unfold divL; rw [if_neg hneg]
        rw [e] at hq0
        apply Classical.byContradiction
        intro h
        have h1 : 0 ≤ (gcdL l : Int) * -q0 := Int.mul_nonneg (by omega) (by omega)
        rw [Int.mul_neg] at h1
        omega
    refine ⟨?_, ?_⟩
    · have hdv : gcdL (primL l) * gcdL l ∣ gcdL l := dvd_gcdL fun x hx => by
        obtain ⟨q, hq, hq2⟩ := hmem x hx
        have hxm : x.tdiv (divL l) ∈ primL l := by unfold primL; rw [if_neg h0]; exact List.mem_map.2 ⟨x, hx, rfl⟩
        have h1 := gcdL_dvd hxm
        rw [hq2] at h1
        rw [hq, Int.natCast_mul, Int.mul_comm]
        refine Int.mul_dvd_mul ?_ h1
        rw [← hab]
        exact Int.natAbs_dvd.2 (Int.dvd_refl _)
      have hle := Nat.le_of_dvd (by omega) hdv
      have hne : gcdL (primL l) ≠ 0 := by
        rw [← fcN_lt_iff, hfc, primL_len]; exact hlt
      have h2 : gcdL (primL l) * gcdL l ≤ 1 * gcdL l := by omega
      have h3 := Nat.le_of_mul_le_mul_right h2 (by omega)
      omega
    · rw [hfc, primL_getD hlt h0, hq02]; omega
theorem primL_bd {l : List Int} {M : Nat} (h : ∀ k, (l.getD k 0).natAbs ≤ M) (k : Nat) : ((primL l).getD k 0).natAbs ≤ M := by
  by_cases h0 : gcdL l = 0
  · rw [(primL_eq_iff l).2 (.inl h0)]; exact h k
  · by_cases hk : k < l.length
    · rw [primL_getD hk h0, Int.natAbs_tdiv]
      exact Nat.le_trans (Nat.div_le_self _ _) (h k)
    · simp [List.getD, List.getElem?_eq_none (show (primL l).length ≤ k by rw [primL_len]; omega)]
end Go.Proofs.Ytlggfmfelakadaa

/-
  DERIVED. A part of a row anew; a matrix of zeros. No program in sight.
-/
namespace Go.Proofs.Ytlggfmfelakadaa
set_option linter.unusedVariables false
theorem splL_get {xs ys : List Int} {off q : Nat} (h : off + ys.length ≤ xs.length) : (splL xs off ys).getD q 0 = if off ≤ q ∧ q < off + ys.length then ys.getD (q - off) 0 else xs.getD q 0 := by
  by_cases h1 : off ≤ q ∧ q < off + ys.length
  · rw [if_pos h1]
    have := splL_getD (xs := xs) (ys := ys) (off := off) (k := q - off) h (by omega)
    rw [show off + (q - off) = q by omega] at this
    exact this
  · rw [if_neg h1]
    have htl : (xs.take off).length = off := by rw [List.length_take]; omega
    unfold splL
    simp only [List.getD]
    congr 1
    by_cases h2 : q < off
    · rw [List.append_assoc, List.getElem?_append_left (by omega), List.getElem?_take_of_lt h2]
    · rw [List.getElem?_append_right (by rw [List.length_append, htl]; omega), List.getElem?_drop, List.length_append, htl]
      congr 1
      omega
/-- Row i anew from place o on. -/
def setW (f : Nat → Nat → Int) (i o : Nat) (ys : List Int) : Nat → Nat → Int := fun a c => if a = i ∧ o ≤ c ∧ c < o + ys.length then ys.getD (c - o) 0 else f a c
theorem spl_tbo {R C i o : Nat} {f : Nat → Nat → Int} {ys : List Int} (hi : i < R) (hy : o + ys.length ≤ C) : splL (tb R C f) (i * C + o) ys = tb R C (setW f i o ys) := by
  have hl : i * C + C ≤ R * C := by
    have h3 := Nat.mul_le_mul_right C (show i + 1 ≤ R by omega); rw [Nat.add_mul, Nat.one_mul] at h3; exact h3
  have hf : i * C + o + ys.length ≤ (tb R C f).length := by rw [tb_len]; omega
  have hlen : (splL (tb R C f) (i * C + o) ys).length = R * C := by rw [splL_len hf, tb_len]
  rw [tb_of hlen]
  apply tb_ext
  intro a c ha hc
  rw [cel_nat, splL_get hf]
  unfold setW
  rcases Nat.lt_trichotomy a i with h | h | h
  · have h3 := Nat.mul_le_mul_right C (show a + 1 ≤ i by omega)
    rw [Nat.add_mul, Nat.one_mul] at h3
    rw [if_neg (by omega), if_neg (by omega), tb_at ha hc]
  · subst h
    by_cases h4 : o ≤ c ∧ c < o + ys.length
    · rw [if_pos (by omega), if_pos ⟨rfl, h4⟩]
      congr 1
      omega
    · rw [if_neg (by omega), if_neg (by omega), tb_at ha hc]
  · have h3 := Nat.mul_le_mul_right C (show i + 1 ≤ a by omega)
    rw [Nat.add_mul, Nat.one_mul] at h3
    rw [if_neg (by omega), if_neg (by omega), tb_at ha hc]
theorem tb_zeros (R C : Nat) : tb R C (fun _ _ => 0) = List.replicate (R * C) 0 := by
  unfold tb tab
  apply List.ext_getElem?
  intro i
  by_cases h : i < R * C <;> simp [h]
end Go.Proofs.Ytlggfmfelakadaa

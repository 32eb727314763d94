/-
  DERIVED. Several small texts in one: Law2, RIat, LawB, RankQi, PlainU, Plain3, Rowkit, Fit, Sq, Plain4, Red, PlainN, Drw, RowB, PlainC, Recon, DrL, PlainO, PlLin, RankI, PlDet, RankS, PlSp, PlainV, PlRk, PlEc.
-/
import Derived.Test.YtacjonkehcamgaaZS
import Derived.Test.YtacjonkehcamgaaImg
import Derived.Test.YtacjonkehcamgaaMem
import Derived.Test.YtacjonkehcamgaaBase
import Derived.Test.YtacjonkehcamgaaEchQ
import Derived.Test.YtacjonkehcamgaaPlainQ
import Derived.Test.YtacjonkehcamgaaPlain2
import Derived.Test.YtacjonkehcamgaaRows
import Derived.ProofKit
import Derived.OpenShut
import Derived.Carry
import Derived.ChangeSame
import Derived.Lib.SmallJoins
import Derived.Deep.Slices
import Derived.Test.YtacjonkehcamgaaNum
import Derived.Test.YtacjonkehcamgaaRow2
import Derived.Test.YtacjonkehcamgaaCopyS
import Derived.Test.YtacjonkehcamgaaMx2
import Derived.Test.YtacjonkehcamgaaInv
import Derived.Test.YtacjonkehcamgaaOwn
import Derived.Test.YtacjonkehcamgaaPlainT
import Derived.Test.YtacjonkehcamgaaAppend2
import Derived.Test.YtacjonkehcamgaaMatOps
import Derived.Test.YtacjonkehcamgaaElim
import Derived.Test.YtacjonkehcamgaaElimS
import Derived.Test.YtacjonkehcamgaaPlainQ2
/-
  DERIVED. The contracts of the laws FnExactSymmetricOf, FnExactIsImage.
-/
namespace Go.Proofs.Ytacjonkehcamgaa
open Go.RowKit
set_option linter.unusedVariables false
end Go.Proofs.Ytacjonkehcamgaa

/-
  DERIVED. A cell of a slice that reads as a list.
-/
namespace Go.Proofs.Ytacjonkehcamgaa
open Go.RowKit
set_option linter.unusedVariables false
theorem RI.at_ {w : World} {B n b o k : Nat} {xs : List Int} (h : RI w B (some ⟨b, o, none⟩) n xs) (hk : k < n) : w.cell? ⟨b, o + k, none⟩ = some (.int .i64 (xs.getD k 0)) := by
  obtain ⟨b', o', e, _, hc⟩ := h.2 (by omega)
  injection e with e
  injection e with e1 e2 e3
  subst e1; subst e2
  exact hc k hk
end Go.Proofs.Ytacjonkehcamgaa

/-
  DERIVED. Small functions of the laws' own package: big, abs.
-/
namespace Go.Proofs.Ytacjonkehcamgaa
open Go.RowKit
set_option linter.unusedVariables false
set_option linter.unusedSimpArgs false
theorem laws_big (A : Option Addr) (n cap : Nat) (w : World) : Calls Try.prog 15 #[.slice A n cap] w (EV (.bool (decide (1048576 < n))) w) := by
  go_enter Try.func15, Try.ntmps15
  go_wp2
  go_ret
  exact EV.mk (vbool (by first | rfl | (simp; omega)))
theorem laws_abs (x : Int) (h1 : -4611686018427387904 ≤ x) (h2 : x ≤ 4611686018427387904) (w : World) : Calls Try.prog 71 #[.int .i64 x] w (EV (.int .i64 (x.natAbs : Nat)) w) := by
  go_enter Try.func71, Try.ntmps71
  go_wp2
  all_goals go_ret
  all_goals exact EV.mk (vint (by omega))
end Go.Proofs.Ytacjonkehcamgaa

/-
  DERIVED. The program's alone: RankOf, both.
-/
namespace Go.Proofs.Ytacjonkehcamgaa
open Go.RowKit
set_option linter.unusedVariables false
theorem impl_RankOf (r c : Int) (A : Option Addr) (n cap : Nat) (xs : List Int) (w : World) {B : Nat} (h : RI w B A n xs) (hB : B ≤ w.heap.size) (hn : n ≤ 1048576) :
    Calls Try.prog 76 #[.agg #[.int .i64 r, .int .i64 c, .slice A n cap]] w (BV (.tuple #[.int .i64 ((psQ (eoX r c xs)).length : Nat), .bool (eoX r c xs).isSome]) w) := by
  have H2 := Lib.hid (h.more hB)
  clear h
  generalize hx : eoX r c xs = X
  have HX := Lib.hid hx
  clear hx
  go_enter Try.func76, Try.ntmps76
  go_wp2_with fail
  refine (impl_EchelonOf r c A n cap xs _ (B := w.heap.size) (Kr H2.out) Ks hn).mono ?_
  rw [HX.out]
  rintro e w1 ⟨A', n', cap', P, k, pc, rfl, ho, hp, ha, hb⟩
  have hk := hp.lenEq
  have hsz := hb.size
  simp at hsz
  clear ho hp ha
  generalize psQ X = ps at *
  generalize X.isSome = b at *
  generalize mxQ r c X = mx at *
  subst hk
  go_wp2_with fail
  go_ret2
  exact BV.mk rfl Kw
end Go.Proofs.Ytacjonkehcamgaa

/-
  DERIVED. A part of a row anew; a matrix of zeros. No program in sight.
-/
namespace Go.Proofs.Ytacjonkehcamgaa
set_option linter.unusedVariables false
theorem splL_get {xs ys : List Int} {off q : Nat} (h : off + ys.length ≤ xs.length) : (splL xs off ys).getD q 0 = if off ≤ q ∧ q < off + ys.length then ys.getD (q - off) 0 else xs.getD q 0 := by
  by_cases h1 : off ≤ q ∧ q < off + ys.length
  · rw [if_pos h1]
    have := splL_getD (xs := xs) (ys := ys) (off := off) (k := q - off) h (by omega)
    rw [show off + (q - off) = q by omega] at this
    exact this
  · rw [if_neg h1]
    have htl : (xs.take off).length = off := by rw [List.length_take]; omega
    unfold splL
    simp only [List.getD]
    congr 1
    by_cases h2 : q < off
    · rw [List.append_assoc, List.getElem?_append_left (by omega), List.getElem?_take_of_lt h2]
    · rw [List.getElem?_append_right (by rw [List.length_append, htl]; omega), List.getElem?_drop, List.length_append, htl]
      congr 1
      omega
/-- Row i anew from place o on. -/
def setW (f : Nat → Nat → Int) (i o : Nat) (ys : List Int) : Nat → Nat → Int := fun a c => if a = i ∧ o ≤ c ∧ c < o + ys.length then ys.getD (c - o) 0 else f a c
theorem spl_tbo {R C i o : Nat} {f : Nat → Nat → Int} {ys : List Int} (hi : i < R) (hy : o + ys.length ≤ C) : splL (tb R C f) (i * C + o) ys = tb R C (setW f i o ys) := by
  have hl : i * C + C ≤ R * C := by
    have h3 := Nat.mul_le_mul_right C (show i + 1 ≤ R by omega); rw [Nat.add_mul, Nat.one_mul] at h3; exact h3
  have hf : i * C + o + ys.length ≤ (tb R C f).length := by rw [tb_len]; omega
  have hlen : (splL (tb R C f) (i * C + o) ys).length = R * C := by rw [splL_len hf, tb_len]
  rw [tb_of hlen]
  apply tb_ext
  intro a c ha hc
  rw [cel_nat, splL_get hf]
  unfold setW
  rcases Nat.lt_trichotomy a i with h | h | h
  · have h3 := Nat.mul_le_mul_right C (show a + 1 ≤ i by omega)
    rw [Nat.add_mul, Nat.one_mul] at h3
    rw [if_neg (by omega), if_neg (by omega), tb_at ha hc]
  · subst h
    by_cases h4 : o ≤ c ∧ c < o + ys.length
    · rw [if_pos (by omega), if_pos ⟨rfl, h4⟩]
      congr 1
      omega
    · rw [if_neg (by omega), if_neg (by omega), tb_at ha hc]
  · have h3 := Nat.mul_le_mul_right C (show i + 1 ≤ a by omega)
    rw [Nat.add_mul, Nat.one_mul] at h3
    rw [if_neg (by omega), if_neg (by omega), tb_at ha hc]
theorem tb_zeros (R C : Nat) : tb R C (fun _ _ => 0) = List.replicate (R * C) 0 := by
  unfold tb tab
  apply List.ext_getElem?
  intro i
  by_cases h : i < R * C <;> simp [h]
end Go.Proofs.Ytacjonkehcamgaa

/-
  DERIVED. Lists of moduli: the program's test and the reference's test agree. No program in sight.
-/
namespace Go.Proofs.Ytacjonkehcamgaa
set_option linter.unusedVariables false
/-- The program's test, from the numbers seen and their product on. -/
def imF (seen : List Int) (prod : Int) : List Int → Bool
  | [] => decide (seen.length ≤ 8)
  | n :: rest => if n < 2 ∨ isNum n = false then false else if isNum (prod * n) = false then false else if seen.any (fun k => decide (1 < Int.gcd n k)) then false else imF (seen ++ [n]) (prod * n) rest
/-- The reference's test. -/
def spF (prod : Int) : List Int → Bool
  | [] => true
  | n :: rest => if n < 2 ∨ 400000000 < n then false else if Int.gcd prod n ≠ 1 then false else if isNum (prod * n) = false then false else spF (prod * n) rest
def modsOk (xs : List Int) : Bool := decide (xs.length ≤ 8) && spF 1 xs

theorem gcd_mul_one (a b n : Int) : Int.gcd (a * b) n = 1 ↔ Int.gcd a n = 1 ∧ Int.gcd b n = 1 := by
  unfold Int.gcd
  rw [Int.natAbs_mul]
  exact Nat.coprime_mul_iff_left
/-- The product of the numbers seen. -/
def prodOf (l : List Int) : Int := l.foldl (· * ·) 1
theorem prodOf_snoc (l : List Int) (n : Int) : prodOf (l ++ [n]) = prodOf l * n := by simp [prodOf]
theorem coprime_from (n : Int) : ∀ (l : List Int) (a : Int), Int.gcd (l.foldl (· * ·) a) n = 1 ↔ Int.gcd a n = 1 ∧ ∀ k ∈ l, Int.gcd k n = 1
  | [], a => by simp
  | b :: l, a => by
    rw [List.foldl_cons, coprime_from n l (a * b), gcd_mul_one]
    simp [and_assoc]
theorem coprime_all (n : Int) (l : List Int) : Int.gcd (prodOf l) n = 1 ↔ ∀ k ∈ l, Int.gcd k n = 1 := by
  unfold prodOf
  rw [coprime_from]
  simp
/-- Some number seen shares a divisor with n exactly if the product does. -/
theorem any_gcd (n : Int) (hn : 2 ≤ n) (l : List Int) : l.any (fun k => decide (1 < Int.gcd n k)) = decide (Int.gcd (prodOf l) n ≠ 1) := by
  have h := coprime_all n l
  rw [Bool.eq_iff_iff]
  simp only [List.any_eq_true, decide_eq_true_eq, ne_eq, h]
  constructor
  · rintro ⟨k, hk, h1⟩ h2
    have := h2 k hk
    rw [Int.gcd_comm] at this
    omega
  · intro h1
    apply Classical.byContradiction
    intro h2
    apply h1
    intro k hk
    have h3 : ¬ 1 < Int.gcd n k := fun h4 => h2 ⟨k, hk, h4⟩
    have h5 : Int.gcd n k ≠ 0 := by
      intro h6
      have := Int.gcd_eq_zero_iff.1 h6
      omega
    rw [Int.gcd_comm]
    omega
theorem imF_spF : ∀ (rest seen : List Int), imF seen (prodOf seen) rest = (spF (prodOf seen) rest && decide ((seen ++ rest).length ≤ 8))
  | [], seen => by simp [imF, spF]
  | n :: rest, seen => by
    unfold imF spF
    by_cases h1 : n < 2
    · simp [h1]
    · by_cases h2 : 400000000 < n
      · have : isNum n = false := (isNum_not n).2 (.inr h2)
        simp [h2, this]
      · have h3 : isNum n = true := (isNum_iff n).2 (by omega)
        have g1 : ¬ (n < 2 ∨ 400000000 < n) := by omega
        have g2 : ¬ (n < 2 ∨ isNum n = false) := by simp [h1, h3]
        rw [if_neg g1, if_neg g2, any_gcd n (by omega) seen]
        rcases h4 : isNum (prodOf seen * n) with _ | _
        · by_cases h5 : Int.gcd (prodOf seen) n = 1 <;> simp [h5]
        · by_cases h5 : Int.gcd (prodOf seen) n = 1
          · have := imF_spF rest (seen ++ [n])
            rw [prodOf_snoc] at this
            simp [h5, this]
          · simp [h5]
theorem imF_mods (xs : List Int) : imF [] 1 xs = modsOk xs := by
  have := imF_spF xs []
  simp only [prodOf, List.foldl_nil, List.nil_append] at this
  rw [this, modsOk, Bool.and_comm]
end Go.Proofs.Ytacjonkehcamgaa

/-
  DERIVED. The last step from a law's contract to its row: arguments opened, 'post' closed under 'Below'.
-/
namespace Go.Proofs.Ytacjonkehcamgaa
open Go.ChangeShapes Go.WideShapes Go.ChangeAt Go.RowKit Go.Joins
set_option linter.unusedVariables false

theorem own : ownKnob Try.prog.godebug = none := by kernel_rfl
theorem laidOut : laidOutB Try.prog = true := by kernel_rfl

section
variable {H : Type} {enc : TypeId × Value → H} {P : Program}
/-- 'post' of a call that returned, and below whose first heap size nothing has turned. -/
theorem post_below {f : Func} {s : ChangeSpec} {apart fresh handsOn again : Bool} {W W' : World} {args : Array Value} {v : Value} {ds gs : List (DataW H)} {before pa pv : List MemPlace}
    (hW : DataW.Whole enc P f.params.toList s.vars apart W args.toList ds gs before)
    (hres : ∀ (b : Nat) (sp : Nat → Bool) (hd : Bool), DataW.TrodAll enc P W' b sp hd f.resultTypes.toList (v.resultList f.resultTypes.size) (s.fn H (ds ++ gs)).results [])
    (hargs : ∀ sp : Nat → Bool, (∀ p ∈ before, sp p.block = true) → DataW.TrodAll enc P W' 0 sp true f.params.toList args.toList (s.fn H (ds ++ gs)).args pa)
    (hvars : ∀ sp : Nat → Bool, (∀ p ∈ before, sp p.block = true) → DataW.TrodVars enc P W' sp s.vars (s.fn H (ds ++ gs)).vars pv)
    (hps : before = pa ++ pv) (hb : Below W.heap.size W W')
    (hok : ∀ (j : Nat) (t : TypeId) (r : Value), f.resultTypes[j]? = some t → (v.resultList f.resultTypes.size)[j]? = some r → Value.okWide P W' .any 0 t r) :
    s.post enc P f apart fresh handsOn again W args v W' := by
  have hlt : ∀ p ∈ before, p.block < W.heap.size := fun p hp => hW.lt p hp
  have hold : ∀ p ∈ before, (fun b => decide (b < W.heap.size)) p.block = true := fun p hp => by simpa using hlt p hp
  refine ⟨ds, gs, before, [], pa, pv, hW, hres _ _ _, hargs _ hold, hvars _ hold, World.keptBut_mono (fun p hp => ⟨hp, ?_⟩) (hb.frame (· ∈ before)), fun _ => ?_⟩
  · rw [hps, List.mem_append] at hp
    exact Or.inr hp
  · obtain ⟨_, _, _, _, _, hz, hn⟩ := hW
    refine ⟨hok, _, _, ([] ++ pa) ++ pv, ⟨[] ++ pa, pv, trodAll_append (hargs _ (fun _ _ => rfl)) (hres _ _ _), hvars _ (fun _ _ => rfl), rfl, ?_, ?_⟩, ?_⟩
    · intro b off hp
      have hin : MemPlace.cell b off ∈ before := by rw [hps]; simpa using hp
      rw [hb.frozen (hlt _ hin)]
      exact hz b off hin
    · intro ha
      have := hn ha
      rw [hps] at this
      simpa using this
    · intro p hp _
      rw [hps]
      simpa using hp
/-- An argument reads behind the call as it read before it, whatever spare cells are asked for among the old places. -/
theorem same_arg {t : TypeId} (hl : laidOutB P = true) (hr : P.readableRec t = true) (hrow : t < P.types.size) {W W' : World} {v : Value} {d : DataW H} {ps : List MemPlace}
    (h : DataW.Trod enc P W 0 (fun _ => true) true t v d ps) (hb : Below W.heap.size W W') (hlt : ∀ x ∈ ps, x.block < W.heap.size) (sp : Nat → Bool) (hsp : ∀ x ∈ ps, sp x.block = true) :
    DataW.Trod enc P W' 0 sp true t v d ps :=
  WideElems.Trod_stays hl hr hrow h (fun x hx => hb.same (hlt x hx)) hsp
/-- A slice of ints, read. -/
theorem reads_ints {w : World} {base : Nat} {spare : Nat → Bool} {held : Bool} {t e : TypeId} {fuel : Nat} {v : Value} {x : DataW H × List MemPlace}
    (ht : P.underlying t = some (.slice e)) (he : P.underlying e = some (.int .i64)) (hc : P.cellsOf e = 1) (h : DataW.trod enc P w base spare held fuel t [v] = some x)
    (hlt : ∀ p ∈ x.2, p.block < w.heap.size) :
    ∃ A n cap xs, v = .slice A n cap ∧ n ≤ cap ∧ cap ≤ maxLen ∧ RI w w.heap.size A n xs ∧ ∀ z ∈ xs, (Lit.int .i64 z).wf = true := by
  rcases open_ints ht he hc h with ⟨hcs, hx⟩ | ⟨a, len, cap, zs, hcs, hb, hl, hm, hz, hx, hcell, hwf⟩
  · injection hcs with hv
    exact ⟨none, 0, 0, [], hv, Nat.le_refl _, by unfold maxLen; omega, RI.nil_ _ _ _, by simp⟩
  · injection hcs with hv
    have hzl : len ≤ zs.length := by rw [hz]; split <;> omega
    refine ⟨some a, len, cap, zs.take len, hv, hl, hm, ⟨by simp; omega, fun hn => ?_⟩, fun z hz => hwf z (List.mem_of_mem_take hz)⟩
    obtain ⟨b, off, rfl, hc'⟩ := ints_at hcell (by omega)
    refine ⟨b, off, rfl, ?_, fun k hk => ?_⟩
    · have h0 : MemPlace.cell b off ∈ x.2 := by
        rw [hx]
        simp only [MemPlace.row, List.mem_map, List.mem_range]
        exact ⟨0, by omega, rfl⟩
      exact hlt _ h0
    · rw [hc' k (by omega)]
      simp [List.getD, hk]
end
theorem wf_bounds {x : Int} (h : (Lit.int .i64 x).wf = true) : -9223372036854775808 ≤ x ∧ x ≤ 9223372036854775807 := by
  simpa [Lit.wf, IntKind.min, IntKind.max, IntKind.signed, IntKind.bits] using h
end Go.Proofs.Ytacjonkehcamgaa

/-
  DERIVED. The contracts of the reference's marked arithmetic: l1Fit, l1Add, l1Mul.
-/
namespace Go.Proofs.Ytacjonkehcamgaa
open Go.RowKit
set_option linter.unusedVariables false
/-- The mark of a number beyond the limit. -/
def bad : Int := -4611686018427387904
def fit (n : Int) : Int := if isNum n then n else bad
def addB (a b : Int) : Int := if a = bad ∨ b = bad then bad else fit (a + b)
def mulF (a b : Int) : Int := if a = bad ∨ b = bad then bad else fit (a * b)
theorem fit_in {n : Int} (h : -400000000 ≤ n ∧ n ≤ 400000000) : fit n = n := by simp [fit, (isNum_iff n).2 h]
theorem fit_out {n : Int} (h : n < -400000000 ∨ 400000000 < n) : fit n = bad := by simp [fit, (isNum_not n).2 h]
/-- A number within the limit, or the mark. -/
def NB (n : Int) : Prop := n = bad ∨ (-400000000 ≤ n ∧ n ≤ 400000000)
theorem NB.fit (n : Int) : NB (fit n) := by
  by_cases h : -400000000 ≤ n ∧ n ≤ 400000000
  · rw [fit_in h]; exact .inr h
  · rw [fit_out (by omega)]; exact .inl rfl
theorem ne_bad {n : Int} (h : -4000000000000000000 ≤ n) : n ≠ bad := by unfold bad; omega
theorem beq_bad (n : Int) : (n == -4611686018427387904) = decide (n = bad) := rfl

theorem spec_l1Fit (n : Int) (w : World) : Calls Try.prog 221 #[.int .i64 n] w (EV (.int .i64 (fit n)) w) := by
  by_cases h : -400000000 ≤ n ∧ n ≤ 400000000
  · rw [fit_in h]
    obtain ⟨h1, h2⟩ := h
    go_enter Try.func221, Try.ntmps221
    go_wp2_with (first | (go_at_call 154; (first | refine (spec_l1In_yes _ _ _ _ (by omega)).mono ?_ | refine (spec_l1In_no _ _ _ _ (by omega)).mono ?_ | refine (spec_l1In _ _ _ _).mono ?_); rintro e w' ⟨rfl, rfl⟩))
    go_ret
    exact EV.mk rfl
  · rw [fit_out (by omega)]
    have h' : n < -400000000 ∨ 400000000 < n := by omega
    clear h
    rcases h' with h | h
    all_goals
      go_enter Try.func221, Try.ntmps221
      go_wp2_with (first | (go_at_call 154; (first | refine (spec_l1In_yes _ _ _ _ (by omega)).mono ?_ | refine (spec_l1In_no _ _ _ _ (by omega)).mono ?_ | refine (spec_l1In _ _ _ _).mono ?_); rintro e w' ⟨rfl, rfl⟩))
      go_ret
      exact EV.mk rfl

theorem spec_l1Add (a b : Int) (w : World) (ha : NB a) (hb : NB b) : Calls Try.prog 232 #[.int .i64 a, .int .i64 b] w (EV (.int .i64 (addB a b)) w) := by
  unfold addB
  by_cases h1 : a = bad
  · rw [if_pos (.inl h1)]
    have e1 : (a == -4611686018427387904) = true := by rw [beq_bad]; simpa using h1
    clear h1 ha hb
    go_enter Try.func232, Try.ntmps232
    go_wp2
    go_ret
    exact EV.mk rfl
  · have e1 : (a == -4611686018427387904) = false := by rw [beq_bad]; simpa using h1
    by_cases h2 : b = bad
    · rw [if_pos (.inr h2)]
      have e2 : (b == -4611686018427387904) = true := by rw [beq_bad]; simpa using h2
      clear h1 h2 ha hb
      go_enter Try.func232, Try.ntmps232
      go_wp2
      go_ret
      exact EV.mk rfl
    · have e2 : (b == -4611686018427387904) = false := by rw [beq_bad]; simpa using h2
      rw [if_neg (by simp [h1, h2])]
      have ha' := ha.resolve_left h1
      have hb' := hb.resolve_left h2
      clear h1 h2 ha hb
      go_enter Try.func232, Try.ntmps232
      go_wp2_with (go_at_call 221; refine (spec_l1Fit _ _).mono ?_; rintro e w' ⟨rfl, rfl⟩)
      go_ret
      exact EV.mk rfl

theorem spec_l1Mul (a b : Int) (w : World) (ha : NB a) (hb : NB b) : Calls Try.prog 190 #[.int .i64 a, .int .i64 b] w (EV (.int .i64 (mulF a b)) w) := by
  unfold mulF
  by_cases h1 : a = bad
  · rw [if_pos (.inl h1)]
    have e1 : (a == -4611686018427387904) = true := by rw [beq_bad]; simpa using h1
    clear h1 ha hb
    go_enter Try.func190, Try.ntmps190
    go_wp2
    go_ret
    exact EV.mk rfl
  · have e1 : (a == -4611686018427387904) = false := by rw [beq_bad]; simpa using h1
    by_cases h2 : b = bad
    · rw [if_pos (.inr h2)]
      have e2 : (b == -4611686018427387904) = true := by rw [beq_bad]; simpa using h2
      clear h1 h2 ha hb
      go_enter Try.func190, Try.ntmps190
      go_wp2
      go_ret
      exact EV.mk rfl
    · have e2 : (b == -4611686018427387904) = false := by rw [beq_bad]; simpa using h2
      rw [if_neg (by simp [h1, h2])]
      have ha' := ha.resolve_left h1
      have hb' := hb.resolve_left h2
      obtain ⟨c1, c2⟩ := mul_bd4 a b 400000000 400000000 (by omega) (by omega) (by omega) (by omega)
      clear h1 h2 ha hb
      go_enter Try.func190, Try.ntmps190
      go_wp2_with (go_at_call 221; refine (spec_l1Fit _ _).mono ?_; rintro e w' ⟨rfl, rfl⟩)
      go_ret
      exact EV.mk rfl
theorem addB_num {a b : Int} (ha : -400000000 ≤ a ∧ a ≤ 400000000) (hb : -400000000 ≤ b ∧ b ≤ 400000000) : addB a b = fit (a + b) := by
  unfold addB; rw [if_neg]; unfold bad; omega
theorem mulF_num {a b : Int} (ha : -400000000 ≤ a ∧ a ≤ 400000000) (hb : -400000000 ≤ b ∧ b ≤ 400000000) : mulF a b = fit (a * b) := by
  unfold mulF; rw [if_neg]; unfold bad; omega
end Go.Proofs.Ytacjonkehcamgaa

/-
  DERIVED. The contracts of IsSquare, both; sums of rows.
-/
namespace Go.Proofs.Ytacjonkehcamgaa
open Go.RowKit
set_option linter.unusedVariables false
theorem sq_cases (r c : Int) (xs : List Int) : (isMat r c xs = false ∧ isSq r c xs = false) ∨ (isMat r c xs = true ∧ (r == c) = false ∧ isSq r c xs = false) ∨
    (isMat r c xs = true ∧ (r == c) = true ∧ 6 < r ∧ isSq r c xs = false) ∨ (isMat r c xs = true ∧ (r == c) = true ∧ r ≤ 6 ∧ isSq r c xs = true) := by
  unfold isSq
  rcases hm : isMat r c xs with _ | _
  · left; simp
  · right
    by_cases hrc : r = c
    · right
      by_cases h6 : 6 < r
      · left; simp [hrc] at *; omega
      · right; simp [hrc] at *; omega
    · left; simp [hrc]
theorem impl_IsSquare (r c : Int) (A : Option Addr) (n cap : Nat) (xs : List Int) (w : World) {B : Nat} (h : RI w B A n xs) (hB : B ≤ w.heap.size) (hn : n ≤ 1048576) :
    Calls Try.prog 162 #[.agg #[.int .i64 r, .int .i64 c, .slice A n cap]] w (BV (.bool (isSq r c xs)) w) := by
  have H2 := Lib.hid (h.more hB)
  clear h
  rcases sq_cases r c xs with ⟨hm, hr⟩ | ⟨hm, h1, hr⟩ | ⟨hm, h1, h2, hr⟩ | ⟨hm, h1, h2, hr⟩
  all_goals
    rw [hr]
    have HM := Lib.hid hm
    clear hm hr
    go_enter Try.func162, Try.ntmps162
    go_wp2_with (first | (go_at_call 103; refine (impl_IsMatrix r c A n cap xs _ (C := w.heap.size) (Kr H2.out) Ks hn).mono ?_; rw [HM.out]; rintro e w1 ⟨rfl, hb⟩; have hz := hb.size; (try simp at hz); have kk := bkeep (w := w) hb Ks; obtain ⟨kc, kf⟩ := kk; (try (have kk := bkeepb (w.heap.size) hb Ks; obtain ⟨kc0, kf0, kl0⟩ := kk)); (try (have kk := bkeepb (w.heap.size + 1) hb Ks; obtain ⟨kc1, kf1, kl1⟩ := kk)); (try (have kk := bkeepb (w.heap.size + 1 + 1) hb Ks; obtain ⟨kc2, kf2, kl2⟩ := kk)); (try (have kk := bkeepb (w.heap.size + 1 + 1 + 1) hb Ks; obtain ⟨kc3, kf3, kl3⟩ := kk)); (try (have kk := bkeepb (wr.heap.size) hb Ks; obtain ⟨kr0, ks0, kt0⟩ := kk)); (try (have kk := bkeepb (wr.heap.size + 1) hb Ks; obtain ⟨kr1, ks1, kt1⟩ := kk)); (try (have kk := bkeepb (wr.heap.size + 1 + 1) hb Ks; obtain ⟨kr2, ks2, kt2⟩ := kk))))
    go_ret
    first | exact BV.mk rfl Kw | exact BV.mk (vbool (show decide (r ≤ 6) = _ by simp; omega)) Kw
theorem spec_IsSquare (r c : Int) (A : Option Addr) (n cap : Nat) (xs : List Int) (w : World) {B : Nat} (h : RI w B A n xs) (hB : B ≤ w.heap.size) (hn : n ≤ 1048576) :
    Calls Try.prog 163 #[.agg #[.int .i64 r, .int .i64 c, .slice A n cap]] w (BV (.bool (isSq r c xs)) w) := by
  have H2 := Lib.hid (h.more hB)
  clear h
  rcases sq_cases r c xs with ⟨hm, hr⟩ | ⟨hm, h1, hr⟩ | ⟨hm, h1, h2, hr⟩ | ⟨hm, h1, h2, hr⟩
  all_goals
    rw [hr]
    have HM := Lib.hid hm
    clear hm hr
    go_enter Try.func163, Try.ntmps163
    go_wp2_with (first | (go_at_call 107; refine (spec_IsMatrix r c A n cap xs _ (C := w.heap.size) (Kr H2.out) Ks hn).mono ?_; rw [HM.out]; rintro e w1 ⟨rfl, hb⟩; have hz := hb.size; (try simp at hz); have kk := bkeep (w := w) hb Ks; obtain ⟨kc, kf⟩ := kk; (try (have kk := bkeepb (w.heap.size) hb Ks; obtain ⟨kc0, kf0, kl0⟩ := kk)); (try (have kk := bkeepb (w.heap.size + 1) hb Ks; obtain ⟨kc1, kf1, kl1⟩ := kk)); (try (have kk := bkeepb (w.heap.size + 1 + 1) hb Ks; obtain ⟨kc2, kf2, kl2⟩ := kk)); (try (have kk := bkeepb (w.heap.size + 1 + 1 + 1) hb Ks; obtain ⟨kc3, kf3, kl3⟩ := kk)); (try (have kk := bkeepb (wr.heap.size) hb Ks; obtain ⟨kr0, ks0, kt0⟩ := kk)); (try (have kk := bkeepb (wr.heap.size + 1) hb Ks; obtain ⟨kr1, ks1, kt1⟩ := kk)); (try (have kk := bkeepb (wr.heap.size + 1 + 1) hb Ks; obtain ⟨kr2, ks2, kt2⟩ := kk))))
    go_ret
    first | exact BV.mk rfl Kw | exact BV.mk (vbool (show decide (r ≤ 6) = _ by simp; omega)) Kw
structure IsS (r c : Int) (xs : List Int) : Prop where
  m : IsM r c xs
  e : r = c
  le : r ≤ 6
theorem isSq_iff {r c : Int} {xs : List Int} : isSq r c xs = true ↔ IsS r c xs := by
  simp only [isSq, Bool.and_eq_true, decide_eq_true_eq, isMat_iff]
  exact ⟨fun ⟨⟨h1, h2⟩, h3⟩ => ⟨h1, h2, h3⟩, fun ⟨h1, h2, h3⟩ => ⟨⟨h1, h2⟩, h3⟩⟩
/-- The sum of the absolute values of the first j numbers. -/
def absSum (l : List Int) : Nat → Int
  | 0 => 0
  | j + 1 => absSum l j + (l.getD j 0).natAbs
theorem absSum_bd {l : List Int} (h : ∀ k, -400000000 ≤ l.getD k 0 ∧ l.getD k 0 ≤ 400000000) : ∀ j : Nat, 0 ≤ absSum l j ∧ absSum l j ≤ 400000000 * j
  | 0 => by simp [absSum]
  | j + 1 => by
    have h1 := absSum_bd h j
    have h2 := h j
    unfold absSum
    omega
theorem absSum_mono {l : List Int} (h : ∀ k, -400000000 ≤ l.getD k 0 ∧ l.getD k 0 ≤ 400000000) (j : Nat) : absSum l j ≤ absSum l (j + 1) := by
  show _ ≤ absSum l j + _
  omega
/-- The product of the sums, while all stays within the limit. -/
def bndI (p : Int) : List Int → Option Int
  | [] => some p
  | s :: l => if isNum s = true ∧ isNum (p * s) = true then bndI (p * s) l else none
def rowSums (xs : List Int) (C : Nat) (R : Nat) : List Int := (List.range R).map fun i => absSum (rowL xs C i) C
def bndRes (r c : Int) (xs : List Int) : Option Int := if isSq r c xs then bndI 1 (rowSums xs c.toNat r.toNat) else none
def optV : Option Int → Value
  | none => .tuple #[.int .i64 0, .bool false]
  | some n => .tuple #[.int .i64 n, .bool true]
theorem rowSums_drop {xs : List Int} {C R i : Nat} (h : i < R) : (rowSums xs C R).drop i = absSum (rowL xs C i) C :: (rowSums xs C R).drop (i + 1) := by
  rw [List.drop_eq_getElem_cons (by simp [rowSums]; exact h)]
  simp [rowSums]
theorem rowSums_end (xs : List Int) (C R : Nat) : (rowSums xs C R).drop R = [] := by
  apply List.drop_of_length_le; simp [rowSums]
end Go.Proofs.Ytacjonkehcamgaa

/-
  DERIVED. A ratio with small parts from its residue: the search over all denominators and Euclid's algorithm find the same. No program in sight.
-/
namespace Go.Proofs.Ytacjonkehcamgaa
set_option linter.unusedVariables false
/-- A ratio with small parts that has the residue a. -/
structure Good (a m b n d : Int) : Prop where
  d1 : 1 ≤ d
  d2 : d ≤ b
  n1 : -b ≤ n
  n2 : n ≤ b
  co : Int.gcd n d = 1
  cm : Int.gcd d m = 1
  im : m ∣ a * d - n
theorem small_of_dvd {m x : Int} (h : m ∣ x) (h1 : -m < x) (h2 : x < m) : x = 0 := by
  obtain ⟨k, rfl⟩ := h
  have hm : 0 < m := by omega
  rcases Int.lt_trichotomy k 0 with hk | hk | hk
  · have := Int.mul_le_mul_of_nonneg_left (show k ≤ -1 by omega) (show 0 ≤ m by omega)
    omega
  · simp [hk]
  · have := Int.mul_le_mul_of_nonneg_left (show 1 ≤ k by omega) (show 0 ≤ m by omega)
    omega
theorem dvd_of_gcd_one {k m n : Int} (h : k ∣ m * n) (hg : Int.gcd k m = 1) : k ∣ n := by
  rw [← Int.natAbs_dvd_natAbs] at h ⊢
  rw [Int.natAbs_mul] at h
  exact Nat.Coprime.dvd_of_dvd_mul_left hg h
theorem Good.uniq {a m b n d n' d' : Int} (hb : 2 * b * b < m) (h : Good a m b n d) (h' : Good a m b n' d') : n = n' ∧ d = d' := by
  have p1 := mul_bd2 n d' b b h.n1 h.n2 (by have := h'.d1; omega) h'.d2
  have p2 := mul_bd2 n' d b b h'.n1 h'.n2 (by have := h.d1; omega) h.d2
  have hd : m ∣ n * d' - n' * d := by
    have e : n * d' - n' * d = (a * d' - n') * d - (a * d - n) * d' := by grind
    rw [e]
    exact Int.dvd_sub (Int.dvd_trans h'.im ⟨d, rfl⟩) (Int.dvd_trans h.im ⟨d', rfl⟩)
  have hbb : 2 * b * b = 2 * (b * b) := by rw [Int.mul_assoc]
  have h0 := small_of_dvd hd (by omega) (by omega)
  have e1 : n * d' = n' * d := by omega
  have g1 : d ∣ d' := by
    have : d ∣ n * d' := ⟨n', by rw [e1, Int.mul_comm]⟩
    exact dvd_of_gcd_one this (by rw [Int.gcd_comm]; exact h.co)
  have g2 : d' ∣ d := by
    have : d' ∣ n' * d := ⟨n, by rw [← e1, Int.mul_comm]⟩
    exact dvd_of_gcd_one this (by rw [Int.gcd_comm]; exact h'.co)
  have e2 : d = d' := Int.dvd_antisymm (by have := h.d1; omega) (by have := h'.d1; omega) g1 g2
  subst e2
  refine ⟨?_, rfl⟩
  exact Int.eq_of_mul_eq_mul_right (by have := h.d1; omega) e1

/-- Euclid's algorithm on the modulus and the residue, till the remainder is small. -/
def rfS (b g x h u : Int) : Int × Int :=
  if hh : b < h ∧ 0 < h then rfS b h u (g - g / h * h) (x - g / h * u) else (h, u)
termination_by h.natAbs
decreasing_by
  have h1 := Int.emod_lt_of_pos g hh.2
  have h2 := Int.emod_nonneg g (show h ≠ 0 by omega)
  have h3 := Int.mul_ediv_add_emod g h
  rw [Int.mul_comm] at h3
  omega
/-- What stays in the rounds; s is the sign of u. -/
structure RfInv (a m b g x h u s : Int) : Prop where
  sg : s = 1 ∨ s = -1
  u0 : 0 ≤ s * u
  x0 : s * x ≤ 0
  e : g * (s * u) - h * (s * x) = m
  h0 : 0 ≤ h
  hg : h < g
  bg : b < g
  gm : g ≤ m
  cg : m ∣ g - x * a
  ch : m ∣ h - u * a
theorem RfInv.start {a m b : Int} (hm : 1 ≤ m) (hb : b < m) : RfInv a m b m 0 (a % m) 1 1 := by
  refine ⟨.inl rfl, by omega, by omega, by omega, Int.emod_nonneg a (by omega), Int.emod_lt_of_pos a (by omega), hb, Int.le_refl _, by simp, ?_⟩
  refine ⟨-(a / m), ?_⟩
  have := Int.mul_ediv_add_emod a m
  rw [Int.mul_neg]; omega
theorem RfInv.bounds {a m b g x h u s : Int} (i : RfInv a m b g x h u s) (hb : 0 ≤ b) : -m ≤ u ∧ u ≤ m ∧ (s * u) * g ≤ m := by
  have hu := i.u0
  have hx := i.x0
  have h1 : 0 ≤ h * -(s * x) := Int.mul_nonneg i.h0 (by omega)
  rw [Int.mul_neg] at h1
  have e := i.e
  have h2 : (s * u) * g ≤ m := by rw [Int.mul_comm]; omega
  have hg : 1 ≤ g := by have := i.bg; omega
  have h3 := Int.mul_le_mul_of_nonneg_left hg hu
  rcases i.sg with rfl | rfl
  · exact ⟨by omega, by omega, h2⟩
  · exact ⟨by omega, by omega, h2⟩
theorem RfInv.step {a m b g x h u s : Int} (i : RfInv a m b g x h u s) (hb : 0 ≤ b) (hh : b < h) : RfInv a m b h u (g - g / h * h) (x - g / h * u) (-s) := by
  have hp : 0 < h := by omega
  have q0 : 0 ≤ g / h := Int.ediv_nonneg (by have := i.bg; omega) (by omega)
  have r0 := Int.emod_nonneg g (show h ≠ 0 by omega)
  have r1 := Int.emod_lt_of_pos g hp
  have r2 := Int.mul_ediv_add_emod g h
  rw [Int.mul_comm] at r2
  have hu := i.u0
  have hx := i.x0
  have qu : 0 ≤ g / h * (s * u) := Int.mul_nonneg q0 hu
  have e := i.e
  refine ⟨by rcases i.sg with h | h <;> omega, ?_, ?_, ?_, by omega, by omega, hh, by have := i.hg; have := i.gm; omega, i.ch, ?_⟩
  · have : -s * (x - g / h * u) = -(s * x) + g / h * (s * u) := by grind
    omega
  · have : -s * u = -(s * u) := by grind
    omega
  · rw [← e]; grind
  · have e1 : g - g / h * h - (x - g / h * u) * a = (g - x * a) - g / h * (h - u * a) := by grind
    rw [e1]
    exact Int.dvd_sub i.cg (Int.dvd_trans i.ch ⟨g / h, by rw [Int.mul_comm]⟩)
theorem rfS_step (b g x h u : Int) (hh : b < h ∧ 0 < h) : rfS b g x h u = rfS b h u (g - g / h * h) (x - g / h * u) := by
  conv => lhs; rw [rfS]
  simp [hh]
theorem rfS_stop (b g x h u : Int) (hh : ¬ (b < h ∧ 0 < h)) : rfS b g x h u = (h, u) := by
  rw [rfS]; simp only [hh, dite_false]
theorem rfS_spec {a m b : Int} (hb : 0 ≤ b) : ∀ (n : Nat) (g x h u s : Int), h.natAbs ≤ n → RfInv a m b g x h u s → ∃ G X H U S : Int, rfS b g x h u = (H, U) ∧ RfInv a m b G X H U S ∧ H ≤ b
  | n, g, x, h, u, s, hn, i => by
    by_cases hh : b < h
    · match n, hn with
      | 0, hn => omega
      | n + 1, hn =>
        rw [rfS_step _ _ _ _ _ ⟨hh, by omega⟩]
        have j := i.step hb hh
        have k1 := j.hg
        have k2 := j.h0
        exact rfS_spec hb n _ _ _ _ _ (by omega) j
    · exact ⟨g, x, h, u, s, rfS_stop _ _ _ _ _ (by omega), i, by omega⟩

/-- A good ratio is what Euclid's algorithm stops at, but for the sign. -/
theorem Good.found {a m b n d g x h u s : Int} (hm : 1 ≤ m) (hb1 : 1 ≤ b) (hb : 2 * b * b < m) (r : Good a m b n d) (i : RfInv a m b g x h u s) (hh : h ≤ b) : n = s * h ∧ d = s * u := by
  have A1 : m ∣ g * d - x * n := by
    have e1 : g * d - x * n = (g - x * a) * d + x * (a * d - n) := by grind
    rw [e1]
    exact Int.dvd_add (Int.dvd_trans i.cg ⟨d, rfl⟩) (Int.dvd_trans r.im ⟨x, by rw [Int.mul_comm]⟩)
  have B1 : m ∣ u * n - h * d := by
    have e1 : u * n - h * d = -(u * (a * d - n)) - (h - u * a) * d := by grind
    rw [e1]
    exact Int.dvd_sub (Int.dvd_neg.2 (Int.dvd_trans r.im ⟨u, by rw [Int.mul_comm]⟩)) (Int.dvd_trans i.ch ⟨d, rfl⟩)
  obtain ⟨al, ha⟩ := A1
  obtain ⟨be, hbe⟩ := B1
  have ss : s * s = 1 := by rcases i.sg with rfl | rfl <;> rfl
  have e := i.e
  have en : n = s * (g * be + h * al) := by
    have k1 : m * (s * (g * be + h * al)) = m * n := by
      have k2 : g * (u * n - h * d) + h * (g * d - x * n) = n * (g * u - h * x) := by grind
      rw [ha, hbe] at k2
      have k3 : g * u - h * x = s * m := by rw [← e]; grind
      rw [k3] at k2
      grind
    exact (Int.eq_of_mul_eq_mul_left (by omega) k1).symm
  have ed : d = s * (x * be + u * al) := by
    have k1 : m * (s * (x * be + u * al)) = m * d := by
      have k2 : x * (u * n - h * d) + u * (g * d - x * n) = d * (g * u - h * x) := by grind
      rw [ha, hbe] at k2
      have k3 : g * u - h * x = s * m := by rw [← e]; grind
      rw [k3] at k2
      grind
    exact (Int.eq_of_mul_eq_mul_left (by omega) k1).symm
  have hS := i.u0
  have hX := i.x0
  have hg1 := i.bg
  have hh0 := i.h0
  have d1 := r.d1
  have d2 := r.d2
  have n1 := r.n1
  have n2 := r.n2
  -- d = S p + X q with S = s u, X = -(s x), p = al, q = -be; n = s (h p - g q)
  have ed2 : d = (s * u) * al + -(s * x) * -be := by rw [ed]; grind
  have en2 : s * n = h * al - g * -be := by rw [en]; grind
  have em : g * (s * u) + h * -(s * x) = m := by rw [← e]; grind
  have sn : -b ≤ s * n ∧ s * n ≤ b := by rcases i.sg with rfl | rfl <;> omega
  generalize s * u = S at *
  have hX' : 0 ≤ -(s * x) := by omega
  generalize -(s * x) = X at *
  generalize -be = q at *
  have hq : q = 0 := by
    rcases Int.lt_trichotomy q 0 with hq | hq | hq
    · exfalso
      have gq : g * 1 ≤ g * -q := Int.mul_le_mul_of_nonneg_left (by omega) (by omega)
      rw [Int.mul_neg] at gq
      rcases Int.lt_or_le al 0 with hp | hp
      · have k1 : 0 ≤ S * -al := Int.mul_nonneg hS (by omega)
        have k2 : 0 ≤ X * -q := Int.mul_nonneg hX' (by omega)
        rw [Int.mul_neg] at k1 k2
        omega
      · have k1 : 0 ≤ h * al := Int.mul_nonneg hh0 hp
        omega
    · exact hq
    · exfalso
      have gq : g * 1 ≤ g * q := Int.mul_le_mul_of_nonneg_left (by omega) (by omega)
      rcases Int.lt_or_le 0 al with hp | hp
      · have k1 : S * 1 ≤ S * al := Int.mul_le_mul_of_nonneg_left (by omega) hS
        have k2 : 0 ≤ X * q := Int.mul_nonneg hX' (by omega)
        have k3 : S ≤ b := by omega
        have k4 : S * (g * q - h * al) + h * d = q * m := by rw [ed2, ← em]; grind
        have k5 : S * (g * q - h * al) ≤ S * b := Int.mul_le_mul_of_nonneg_left (by omega) hS
        have k6 : S * b ≤ b * b := Int.mul_le_mul_of_nonneg_right k3 (by omega)
        have k7 : h * d ≤ b * b := Int.mul_le_mul hh d2 (by omega) (by omega)
        have k8 : 1 * m ≤ q * m := Int.mul_le_mul_of_nonneg_right (by omega) (by omega)
        have k9 : 2 * b * b = 2 * (b * b) := by rw [Int.mul_assoc]
        omega
      · have k1 : 0 ≤ h * -al := Int.mul_nonneg hh0 (by omega)
        rw [Int.mul_neg] at k1
        omega
  subst hq
  have ed3 : d = S * al := by omega
  have en3 : s * n = h * al := by omega
  have hal : al ∣ 1 := by
    have k1 : al ∣ d := ⟨S, by rw [ed3, Int.mul_comm]⟩
    have k2 : al ∣ n := by
      have : n = s * (s * n) := by rw [← Int.mul_assoc, ss, Int.one_mul]
      rw [this, en3]
      exact ⟨s * h, by grind⟩
    have := Int.dvd_coe_gcd k2 k1
    rw [r.co] at this
    exact this
  have hpos : 0 < al := by
    rcases Int.lt_or_le 0 al with hp | hp
    · exact hp
    · have k1 : 0 ≤ S * -al := Int.mul_nonneg hS (by omega)
      rw [Int.mul_neg] at k1
      omega
  have hal1 : al = 1 := by
    have := Int.le_of_dvd (by omega) hal
    omega
  subst hal1
  refine ⟨?_, by omega⟩
  have : n = s * (s * n) := by rw [← Int.mul_assoc, ss, Int.one_mul]
  rw [this, en3, Int.mul_one]
end Go.Proofs.Ytacjonkehcamgaa

/-
  DERIVED. The contracts of ReduceMod, both.
-/
namespace Go.Proofs.Ytacjonkehcamgaa
open Go.RowKit
set_option linter.unusedVariables false
/-- The residues of a list. -/
def redL (xs : List Int) (p : Int) : List Int := xs.map (· % p)
def redK (xs : List Int) (p : Int) (k : Nat) : List Int := redL (xs.take k) p ++ xs.drop k
def redB (r c : Int) (xs : List Int) (p : Int) : Bool := isMat r c xs && isPr p
def redM (r c : Int) (xs : List Int) (p : Int) : Mx := if redB r c xs p then ⟨r, c, redL xs p⟩ else .none
theorem redK_len (xs : List Int) (p : Int) (k : Nat) : (redK xs p k).length = xs.length := by
  simp [redK, redL]; omega
theorem redK_set (xs : List Int) (p : Int) (k : Nat) (hk : k < xs.length) : (redK xs p k).set k (xs.getD k 0 % p) = redK xs p (k + 1) := by
  unfold redK redL
  apply List.ext_getElem?
  intro i
  grind
theorem redK_end (xs : List Int) (p : Int) {k : Nat} (hk : xs.length ≤ k) : redK xs p k = redL xs p := by
  simp [redK, List.take_of_length_le hk, List.drop_of_length_le hk]
theorem redK_at (xs : List Int) (p : Int) (k : Nat) : (redK xs p k).getD k 0 = xs.getD k 0 := by
  simp only [redK, redL, List.getD]
  rcases Nat.lt_or_ge k xs.length with h | h
  · rw [List.getElem?_append_right (by simp; omega)]
    simp [Nat.min_eq_left (Nat.le_of_lt h)]
  · simp [h]
theorem redM_len (r c : Int) (xs : List Int) (p : Int) : (redM r c xs p).xs.length ≤ xs.length := by
  unfold redM
  split
  · simp [redL]
  · simp [Mx.none]
set_option maxRecDepth 100000 in
set_option maxHeartbeats 2000000 in
theorem spec_ReduceMod (r c p : Int) (A : Option Addr) (n cap : Nat) (xs : List Int) (w : World) {B : Nat} (h : RI w B A n xs) (hB : B ≤ w.heap.size) (hn : n ≤ 1048576) :
    Calls Try.prog 127 #[.agg #[.int .i64 r, .int .i64 c, .slice A n cap], .int .i64 p] w (MBR (redM r c xs p) (redB r c xs p) w) := by
  have hlx : xs.length ≤ 1048576 := by have := h.len; omega
  have H2 := Lib.hid (h.more hB)
  clear h
  rcases hm : isMat r c xs && isPr p with _ | _
  · have hb0 : redB r c xs p = false := hm
    have hm0 : redM r c xs p = .none := by unfold redM; rw [hb0]; rfl
    rw [hb0, hm0]
    clear hb0 hm0
    have hcs : isMat r c xs = false ∨ (isMat r c xs = true ∧ isPr p = false) := by
      cases h1 : isMat r c xs <;> cases h2 : isPr p <;> simp_all
    have hcs' : isPr p = false ∨ (isPr p = true ∧ isMat r c xs = false) := by
      cases h1 : isMat r c xs <;> cases h2 : isPr p <;> simp_all
    clear hm
    rcases hcs with hm | ⟨hm, hp⟩
    all_goals
      have HM := Lib.hid hm
      try have HP := Lib.hid hp
      clear hcs'
      go_enter Try.func127, Try.ntmps127
      go_wp2_with (first | (go_at_call 107; refine (spec_IsMatrix r c A n cap xs _ (C := w.heap.size) (Kr H2.out) Ks hn).mono ?_; rw [HM.out]; rintro e w1 ⟨rfl, hb⟩; have hz := hb.size; (try simp at hz); have kk := bkeep (w := w) hb Ks; obtain ⟨kc, kf⟩ := kk; (try (have kk := bkeepb (w.heap.size) hb Ks; obtain ⟨kc0, kf0, kl0⟩ := kk)); (try (have kk := bkeepb (w.heap.size + 1) hb Ks; obtain ⟨kc1, kf1, kl1⟩ := kk)); (try (have kk := bkeepb (w.heap.size + 1 + 1) hb Ks; obtain ⟨kc2, kf2, kl2⟩ := kk)); (try (have kk := bkeepb (w.heap.size + 1 + 1 + 1) hb Ks; obtain ⟨kc3, kf3, kl3⟩ := kk)); (try (have kk := bkeepb (wr.heap.size) hb Ks; obtain ⟨kr0, ks0, kt0⟩ := kk)); (try (have kk := bkeepb (wr.heap.size + 1) hb Ks; obtain ⟨kr1, ks1, kt1⟩ := kk)); (try (have kk := bkeepb (wr.heap.size + 1 + 1) hb Ks; obtain ⟨kr2, ks2, kt2⟩ := kk))) | (go_at_call 202; refine (spec_IsPrime _ _).mono ?_; rintro e w' ⟨rfl, rfl⟩))
      refine ret_MB (r := 0) (c := 0) (A := none) (n := 0) (cap := 0) Try.results127 rfl Ka rfl ?_
      exact MBR.mk rfl (OR.nil_ _ _) Kw
  · have hb0 : redB r c xs p = true := hm
    have hm0 : redM r c xs p = ⟨r, c, redL xs p⟩ := by unfold redM; rw [hb0]; rfl
    rw [hb0, hm0]
    clear hb0 hm0
    rw [Bool.and_eq_true] at hm
    obtain ⟨hm, hp⟩ := hm
    have M := isMat_iff.1 hm
    have HM := Lib.hid hm
    have HP := Lib.hid hp
    clear hm
    go_enter Try.func127, Try.ntmps127
    go_wp2_with (first | (go_at_call 107; refine (spec_IsMatrix r c A n cap xs _ (C := w.heap.size) (Kr H2.out) Ks hn).mono ?_; rw [HM.out]; rintro e w1 ⟨rfl, hb⟩; have hz := hb.size; (try simp at hz); have kk := bkeep (w := w) hb Ks; obtain ⟨kc, kf⟩ := kk; (try (have kk := bkeepb (w.heap.size) hb Ks; obtain ⟨kc0, kf0, kl0⟩ := kk)); (try (have kk := bkeepb (w.heap.size + 1) hb Ks; obtain ⟨kc1, kf1, kl1⟩ := kk)); (try (have kk := bkeepb (w.heap.size + 1 + 1) hb Ks; obtain ⟨kc2, kf2, kl2⟩ := kk)); (try (have kk := bkeepb (w.heap.size + 1 + 1 + 1) hb Ks; obtain ⟨kc3, kf3, kl3⟩ := kk)); (try (have kk := bkeepb (wr.heap.size) hb Ks; obtain ⟨kr0, ks0, kt0⟩ := kk)); (try (have kk := bkeepb (wr.heap.size + 1) hb Ks; obtain ⟨kr1, ks1, kt1⟩ := kk)); (try (have kk := bkeepb (wr.heap.size + 1 + 1) hb Ks; obtain ⟨kr2, ks2, kt2⟩ := kk))) | (go_at_call 202; refine (spec_IsPrime _ _).mono ?_; rintro e w' ⟨rfl, rfl⟩) | (go_at_call 150; refine (spec_l3Copy r c A n cap xs _ (B := w.heap.size) (Kr H2.out) Ks hn).mono ?_; rintro e w2 ⟨A2, n2, cap2, rfl, hn2, hown, hb2⟩; have hz2 := hb2.size; (try simp at hz2); have kk := bkeep (w := w) hb2 Ks; obtain ⟨kc2_, kf2_⟩ := kk; have kk := bkeepb (w.heap.size) hb2 Ks; obtain ⟨kc2_0, kf2_0, kl2_0⟩ := kk; have kk := bkeepb (w.heap.size + 1) hb2 Ks; obtain ⟨kc2_1, kf2_1, kl2_1⟩ := kk))
    have hR : BM (w2.alloc (Obj.cells #[Value.int IntKind.i64 r, Value.int IntKind.i64 c, Value.slice A2 xs.length cap2] 26)) (w.heap.size + 1) 0 0 none 0 0 := Ka
    have hO : BM (w2.alloc (Obj.cells #[Value.int IntKind.i64 r, Value.int IntKind.i64 c, Value.slice A2 xs.length cap2] 26)) w2.heap.size r c A2 xs.length cap2 := Ka
    have hb02 : Below w.heap.size w w2 := Kw
    have hown' : OR w2 w1.heap.size (.slice A2 xs.length cap2) xs := hn2 ▸ hown
    go_loopw [7] (fun v wr => ∃ k : Nat, v = .int .i64 k ∧ k ≤ xs.length ∧ OR wr w1.heap.size (.slice A2 xs.length cap2) (redK xs p k) ∧ BM wr w2.heap.size r c A2 xs.length cap2 ∧ BM wr (w.heap.size + 1) 0 0 none 0 0 ∧ Below w.heap.size w wr) (fun v _ => xs.length - (intOf v).toNat)
    case atStart => exact ⟨0, rfl, Nat.zero_le _, (hown'.alloc _).as (by simp [redK, redL]), hO, hR, Kw⟩
    case round =>
      clear hO hR
      obtain ⟨k, rfl, hk, hownk, hO, hR, hbk⟩ := hrel
      obtain ⟨o0, o1, o2, of, ol⟩ := hO.mx
      obtain ⟨r0, r1, r2, rf, rl⟩ := hR.mx
      by_cases hlt : k < xs.length
      · obtain ⟨g, rfl, hg1, hg2⟩ := hown.begins (by omega)
        have hc0 := hownk.cell k (by rw [redK_len]; omega)
        rw [redK_at xs p k] at hc0
        obtain ⟨hx1, hx2⟩ := M.nums k
        have hst := hownk.set_ k (xs.getD k 0 % p)
        rw [redK_set xs p k hlt] at hst
        generalize xs.getD k 0 = x at hc0 hx1 hx2 hst
        obtain ⟨hq1, hq2⟩ := isPr_bds hp
        have hf1 := hownk.frozen k
        go_wp2
        go_still_tail 11, (by kernel_rfl)
        still_call (still_ev (spec_l8Mod x p _ (by omega) (by omega) (by omega) (by omega)))
        repeat still_step
        refine wpStill_nil ?_
        change wpList _ _ _ _ _ wr.drew
        go_wp2
        go_roundw
        case rel => exact ⟨k + 1, by go_num, by omega, hst, Kb hO, Kb hR, Kw⟩
        case measure => simp only [intOf]; omega
      · go_wp2
        refine ret_MB Try.results127 rfl (Kb hR) rfl ?_
        have hend := hownk.as (redK_end xs p (show xs.length ≤ k by omega))
        exact MBR.mk rfl (OR.mono (B := w1.heap.size) (Ko hend) (by omega)) Kw

set_option maxRecDepth 100000 in
set_option maxHeartbeats 2000000 in
theorem impl_ReduceMod (r c p : Int) (A : Option Addr) (n cap : Nat) (xs : List Int) (w : World) {B : Nat} (h : RI w B A n xs) (hB : B ≤ w.heap.size) (hn : n ≤ 1048576) :
    Calls Try.prog 39 #[.agg #[.int .i64 r, .int .i64 c, .slice A n cap], .int .i64 p] w (MBR (redM r c xs p) (redB r c xs p) w) := by
  have hlx : xs.length ≤ 1048576 := by have := h.len; omega
  have H2 := Lib.hid (h.more hB)
  clear h
  rcases hm : isMat r c xs && isPr p with _ | _
  · have hb0 : redB r c xs p = false := hm
    have hm0 : redM r c xs p = .none := by unfold redM; rw [hb0]; rfl
    rw [hb0, hm0]
    clear hb0 hm0
    have hcs : isMat r c xs = false ∨ (isMat r c xs = true ∧ isPr p = false) := by
      cases h1 : isMat r c xs <;> cases h2 : isPr p <;> simp_all
    have hcs' : isPr p = false ∨ (isPr p = true ∧ isMat r c xs = false) := by
      cases h1 : isMat r c xs <;> cases h2 : isPr p <;> simp_all
    clear hm
    rcases hcs' with hp | ⟨hp, hm⟩
    all_goals
      have HP := Lib.hid hp
      try have HM := Lib.hid hm
      clear hcs
      go_enter Try.func39, Try.ntmps39
      go_wp2_with (first | (go_at_call 132; refine (impl_IsPrime _ _).mono ?_; rintro e w' ⟨rfl, rfl⟩) | (go_at_call 103; refine (impl_IsMatrix r c A n cap xs _ (C := w.heap.size) (Kr H2.out) Ks hn).mono ?_; rw [HM.out]; rintro e w1 ⟨rfl, hb⟩; have hz := hb.size; (try simp at hz); have kk := bkeep (w := w) hb Ks; obtain ⟨kc, kf⟩ := kk; (try (have kk := bkeepb (w.heap.size) hb Ks; obtain ⟨kc0, kf0, kl0⟩ := kk)); (try (have kk := bkeepb (w.heap.size + 1) hb Ks; obtain ⟨kc1, kf1, kl1⟩ := kk)); (try (have kk := bkeepb (w.heap.size + 1 + 1) hb Ks; obtain ⟨kc2, kf2, kl2⟩ := kk)); (try (have kk := bkeepb (w.heap.size + 1 + 1 + 1) hb Ks; obtain ⟨kc3, kf3, kl3⟩ := kk)); (try (have kk := bkeepb (wr.heap.size) hb Ks; obtain ⟨kr0, ks0, kt0⟩ := kk)); (try (have kk := bkeepb (wr.heap.size + 1) hb Ks; obtain ⟨kr1, ks1, kt1⟩ := kk)); (try (have kk := bkeepb (wr.heap.size + 1 + 1) hb Ks; obtain ⟨kr2, ks2, kt2⟩ := kk))))
      refine ret_MB (r := 0) (c := 0) (A := none) (n := 0) (cap := 0) Try.results39 rfl Ka rfl ?_
      exact MBR.mk rfl (OR.nil_ _ _) Kw
  · have hb0 : redB r c xs p = true := hm
    have hm0 : redM r c xs p = ⟨r, c, redL xs p⟩ := by unfold redM; rw [hb0]; rfl
    rw [hb0, hm0]
    clear hb0 hm0
    rw [Bool.and_eq_true] at hm
    obtain ⟨hm, hp⟩ := hm
    have M := isMat_iff.1 hm
    have HM := Lib.hid hm
    have HP := Lib.hid hp
    clear hm
    go_enter Try.func39, Try.ntmps39
    go_wp2_with (first | (go_at_call 132; refine (impl_IsPrime _ _).mono ?_; rintro e w' ⟨rfl, rfl⟩) | (go_at_call 103; refine (impl_IsMatrix r c A n cap xs _ (C := w.heap.size) (Kr H2.out) Ks hn).mono ?_; rw [HM.out]; rintro e w1 ⟨rfl, hb⟩; have hz := hb.size; (try simp at hz); have kk := bkeep (w := w) hb Ks; obtain ⟨kc, kf⟩ := kk; (try (have kk := bkeepb (w.heap.size) hb Ks; obtain ⟨kc0, kf0, kl0⟩ := kk)); (try (have kk := bkeepb (w.heap.size + 1) hb Ks; obtain ⟨kc1, kf1, kl1⟩ := kk)); (try (have kk := bkeepb (w.heap.size + 1 + 1) hb Ks; obtain ⟨kc2, kf2, kl2⟩ := kk)); (try (have kk := bkeepb (w.heap.size + 1 + 1 + 1) hb Ks; obtain ⟨kc3, kf3, kl3⟩ := kk)); (try (have kk := bkeepb (wr.heap.size) hb Ks; obtain ⟨kr0, ks0, kt0⟩ := kk)); (try (have kk := bkeepb (wr.heap.size + 1) hb Ks; obtain ⟨kr1, ks1, kt1⟩ := kk)); (try (have kk := bkeepb (wr.heap.size + 1 + 1) hb Ks; obtain ⟨kr2, ks2, kt2⟩ := kk))) | (go_at_call 133; refine (impl_copyMatrix r c A n cap xs _ (B := w.heap.size) (Kr H2.out) Ks hn).mono ?_; rintro e w2 ⟨A2, n2, cap2, rfl, hn2, hown, hb2⟩; have hz2 := hb2.size; (try simp at hz2); have kk := bkeep (w := w) hb2 Ks; obtain ⟨kc2_, kf2_⟩ := kk; have kk := bkeepb (w.heap.size) hb2 Ks; obtain ⟨kc2_0, kf2_0, kl2_0⟩ := kk; have kk := bkeepb (w.heap.size + 1) hb2 Ks; obtain ⟨kc2_1, kf2_1, kl2_1⟩ := kk))
    have hR : BM (w2.alloc (Obj.cells #[Value.int IntKind.i64 r, Value.int IntKind.i64 c, Value.slice A2 xs.length cap2] 26)) (w.heap.size + 1) 0 0 none 0 0 := Ka
    have hO : BM (w2.alloc (Obj.cells #[Value.int IntKind.i64 r, Value.int IntKind.i64 c, Value.slice A2 xs.length cap2] 26)) w2.heap.size r c A2 xs.length cap2 := Ka
    have hb02 : Below w.heap.size w w2 := Kw
    have hown' : OR w2 w1.heap.size (.slice A2 xs.length cap2) xs := hn2 ▸ hown
    go_loopw [7, 22] (fun v u wr => ∃ k : Nat, u = .int .i64 k ∧ k ≤ xs.length ∧ OR wr w1.heap.size (.slice A2 xs.length cap2) (redK xs p k) ∧ BM wr w2.heap.size r c A2 xs.length cap2 ∧ BM wr (w.heap.size + 1) 0 0 none 0 0 ∧ Below w.heap.size w wr) (fun _ v _ => xs.length - (intOf v).toNat)
    case atStart => exact ⟨0, rfl, Nat.zero_le _, (hown'.alloc _).as (by simp [redK, redL]), hO, hR, Kw⟩
    case round =>
      clear hO hR
      obtain ⟨k, rfl, hk, hownk, hO, hR, hbk⟩ := hrel
      obtain ⟨o0, o1, o2, of, ol⟩ := hO.mx
      obtain ⟨r0, r1, r2, rf, rl⟩ := hR.mx
      by_cases hlt : k < xs.length
      · obtain ⟨g, rfl, hg1, hg2⟩ := hown.begins (by omega)
        have hc0 := hownk.cell k (by rw [redK_len]; omega)
        rw [redK_at xs p k] at hc0
        obtain ⟨hx1, hx2⟩ := M.nums k
        have hst := hownk.set_ k (xs.getD k 0 % p)
        rw [redK_set xs p k hlt] at hst
        generalize xs.getD k 0 = x at hc0 hx1 hx2 hst
        obtain ⟨hq1, hq2⟩ := isPr_bds hp
        have hf1 := hownk.frozen k
        go_wp2
        go_still_tail 11, (by kernel_rfl)
        still_call (still_ev (impl_mod x p _ (by omega) (by omega) (by omega) (by omega)))
        repeat still_step
        refine wpStill_nil ?_
        change wpList _ _ _ _ _ wr.drew
        go_wp2
        go_roundw
        case rel => exact ⟨k + 1, by go_num, by omega, hst, Kb hO, Kb hR, Kw⟩
        case measure => simp only [intOf]; omega
      · go_wp2
        refine ret_MB Try.results39 rfl (Kb hR) rfl ?_
        have hend := hownk.as (redK_end xs p (show xs.length ≤ k by omega))
        exact MBR.mk rfl (OR.mono (B := w1.heap.size) (Ko hend) (by omega)) Kw

end Go.Proofs.Ytacjonkehcamgaa

/-
  DERIVED. The Hermite form, step by step, as functions of row and column: no program in sight.
-/
namespace Go.Proofs.Ytacjonkehcamgaa
set_option linter.unusedVariables false
abbrev Fn2 := Nat → Nat → Int
/-- Row i plus t times row j, numbers beyond the limit marked. -/
def opA (f : Fn2) (i j : Nat) (t : Int) : Fn2 := fun x y => if x = i then addB (f i y) (mulF (f j y) t) else f x y
/-- Row i negated. -/
def opN (f : Fn2) (i : Nat) : Fn2 := fun x y => if x = i then -f i y else f x y
/-- The same, marks kept. -/
def opM (f : Fn2) (i : Nat) : Fn2 := fun x y => if x = i then (if f i y = bad then bad else -f i y) else f x y
/-- A matrix and the account of what is done to it. -/
structure HS where
  f : Fn2
  g : Fn2
def HS.add (s : HS) (i j : Nat) (t : Int) : HS := ⟨opA s.f i j t, opA s.g i j t⟩
def HS.swap (s : HS) (p t : Nat) : HS := ⟨swF s.f p t, swF s.g p t⟩
def HS.neg (s : HS) (i : Nat) : HS := ⟨opM s.f i, opM s.g i⟩
def Num (n : Int) : Prop := -400000000 ≤ n ∧ n ≤ 400000000
theorem Num.isN {n : Int} (h : Num n) : isNum n = true := (isNum_iff n).2 h
theorem Num.of {n : Int} (h : isNum n = true) : Num n := (isNum_iff n).1 h
theorem Num.ne {n : Int} (h : Num n) : n ≠ bad := by unfold Num at h; unfold bad; omega
theorem Num.nb {n : Int} (h : Num n) : NB n := .inr h
theorem NB.num {n : Int} (h : NB n) (h2 : n ≠ bad) : Num n := h.resolve_left h2
/-- In R rows of C cells all are numbers. -/
def OKF (R C : Nat) (f : Fn2) : Prop := ∀ i j, i < R → j < C → Num (f i j)
def NBF (f : Fn2) : Prop := ∀ i j, NB (f i j)
structure HS.OK (R C : Nat) (s : HS) : Prop where
  f : OKF R C s.f
  g : OKF R R s.g
structure HS.NBS (s : HS) : Prop where
  f : NBF s.f
  g : NBF s.g
theorem NB.addB (a b : Int) : NB (addB a b) := by
  unfold Go.Proofs.Ytacjonkehcamgaa.addB
  split
  · exact .inl rfl
  · exact NB.fit _
theorem NB.mulF (a b : Int) : NB (mulF a b) := by
  unfold Go.Proofs.Ytacjonkehcamgaa.mulF
  split
  · exact .inl rfl
  · exact NB.fit _
theorem opA_nb {f : Fn2} (h : NBF f) (i j : Nat) (t : Int) : NBF (opA f i j t) := by
  intro x y
  unfold opA
  split
  · exact NB.addB _ _
  · exact h x y
theorem HS.NBS.add {s : HS} (h : s.NBS) (i j : Nat) (t : Int) : (s.add i j t).NBS := ⟨opA_nb h.f _ _ _, opA_nb h.g _ _ _⟩
theorem addB_ne {a b : Int} (h : addB a b ≠ bad) : a ≠ bad ∧ b ≠ bad ∧ addB a b = a + b ∧ Num (a + b) := by
  unfold addB at h ⊢
  split at h
  · exact absurd rfl h
  · rename_i h1
    rw [if_neg h1]
    refine ⟨fun e => h1 (.inl e), fun e => h1 (.inr e), ?_⟩
    unfold fit at h ⊢
    split at h
    · rename_i h2
      rw [if_pos h2]
      exact ⟨rfl, Num.of h2⟩
    · exact absurd rfl h
theorem mulF_ne {a b : Int} (h : mulF a b ≠ bad) : a ≠ bad ∧ b ≠ bad ∧ mulF a b = a * b ∧ Num (a * b) := by
  unfold mulF at h ⊢
  split at h
  · exact absurd rfl h
  · rename_i h1
    rw [if_neg h1]
    refine ⟨fun e => h1 (.inl e), fun e => h1 (.inr e), ?_⟩
    unfold fit at h ⊢
    split at h
    · rename_i h2
      rw [if_pos h2]
      exact ⟨rfl, Num.of h2⟩
    · exact absurd rfl h
theorem opA_num {f : Fn2} {i j y : Nat} {t : Int} (h : Num (opA f i j t i y)) : f i y ≠ bad ∧ f j y ≠ bad ∧ opA f i j t i y = f i y + f j y * t ∧ Num (f j y * t) := by
  have h1 := h.ne
  unfold opA at h1 ⊢
  rw [if_pos rfl] at h1 ⊢
  obtain ⟨a1, a2, a3, a4⟩ := addB_ne h1
  obtain ⟨b1, b2, b3, b4⟩ := mulF_ne a2
  rw [a3, b3]
  exact ⟨a1, b1, rfl, b4⟩
theorem opA_back {f : Fn2} {R C i j : Nat} {t : Int} (hn : NBF f) (h : OKF R C (opA f i j t)) : OKF R C f := by
  intro x y hx hy
  by_cases hxi : x = i
  · subst hxi
    exact (hn x y).num (opA_num (h x y hx hy)).1
  · have := h x y hx hy
    unfold opA at this
    rwa [if_neg hxi] at this
theorem HS.OK.back {s : HS} {R C i j : Nat} {t : Int} (hn : s.NBS) (h : (s.add i j t).OK R C) : s.OK R C := ⟨opA_back hn.f h.f, opA_back hn.g h.g⟩
theorem opA_other {f : Fn2} {i j x y : Nat} {t : Int} (h : x ≠ i) : opA f i j t x y = f x y := by unfold opA; rw [if_neg h]
/-- Whether row i can take t times row j. -/
def rowOk (f : Fn2) (i j : Nat) (t : Int) (C : Nat) : Prop := ∀ y, y < C → Num (f j y * t) ∧ Num (f i y + f j y * t)
theorem rowOk_iff {f : Fn2} {R C i j : Nat} {t : Int} (h : OKF R C f) (hi : i < R) (hj : j < R) (ht : Num t) : rowOk f i j t C ↔ OKF R C (opA f i j t) := by
  constructor
  · intro hr x y hx hy
    unfold opA
    split
    · obtain ⟨h1, h2⟩ := hr y hy
      rw [mulF_num (h j y hj hy) ht, fit_in h1, addB_num (h i y hi hy) h1, fit_in h2]
      exact h2
    · exact h x y hx hy
  · intro ho y hy
    obtain ⟨h1, h2, h3, h4⟩ := opA_num (ho i y hi hy)
    refine ⟨h4, ?_⟩
    rw [← h3]
    exact ho i y hi hy
theorem rowOk_val {f : Fn2} {R C i j y : Nat} {t : Int} (h : OKF R C f) (hi : i < R) (hj : j < R) (ht : Num t) (hr : rowOk f i j t C) (hy : y < C) : opA f i j t i y = f i y + f j y * t := by
  obtain ⟨h1, h2⟩ := hr y hy
  unfold opA
  rw [if_pos rfl, mulF_num (h j y hj hy) ht, fit_in h1, addB_num (h i y hi hy) h1, fit_in h2]
/-- The quotient that leaves a remainder from 0 on is no greater. -/
theorem ediv_bd {n d : Int} (h : Num n) (hd : d ≠ 0) : Num (n / d) := by
  unfold Num at *
  have := Int.natAbs_ediv_le_natAbs n d
  omega
theorem Num.neg {n : Int} (h : Num n) : Num (-n) := by unfold Num at *; omega
/-- The row from t on, n of them, with the least absolute value in column j that is not 0; -1 if there is none. -/
def lstK (f : Fn2) (j t : Nat) : Nat → Int
  | 0 => -1
  | n + 1 => if f (t + n) j ≠ 0 ∧ (lstK f j t n < 0 ∨ (f (t + n) j).natAbs < (f (lstK f j t n).toNat j).natAbs) then ((t + n : Nat) : Int) else lstK f j t n
theorem lstK_succ (f : Fn2) (j t n : Nat) : lstK f j t (n + 1) = if f (t + n) j ≠ 0 ∧ (lstK f j t n < 0 ∨ (f (t + n) j).natAbs < (f (lstK f j t n).toNat j).natAbs) then ((t + n : Nat) : Int) else lstK f j t n := rfl
theorem lstK_cases (f : Fn2) (j t : Nat) : ∀ n, (lstK f j t n = -1 ∧ ∀ i, i < n → f (t + i) j = 0) ∨ ∃ p, lstK f j t n = (p : Nat) ∧ t ≤ p ∧ p < t + n ∧ f p j ≠ 0 ∧ ∀ i, i < n → f (t + i) j ≠ 0 → (f p j).natAbs ≤ (f (t + i) j).natAbs
  | 0 => .inl ⟨rfl, fun i h => absurd h (Nat.not_lt_zero _)⟩
  | n + 1 => by
    rw [lstK_succ]
    rcases lstK_cases f j t n with ⟨h1, h2⟩ | ⟨p, h1, h2, h3, h4, h5⟩
    · by_cases hz : f (t + n) j = 0
      · left
        rw [if_neg (by simp [hz])]
        refine ⟨h1, fun i hi => ?_⟩
        rcases Nat.lt_or_ge i n with hi' | hi'
        · exact h2 i hi'
        · rw [show i = n by omega]; exact hz
      · right
        rw [if_pos ⟨hz, .inl (by omega)⟩]
        refine ⟨t + n, rfl, by omega, by omega, hz, fun i hi hne => ?_⟩
        rcases Nat.lt_or_ge i n with hi' | hi'
        · exact absurd (h2 i hi') hne
        · rw [show i = n by omega]; exact Nat.le_refl _
    · right
      rw [h1]
      by_cases hc : f (t + n) j ≠ 0 ∧ ((p : Int) < 0 ∨ (f (t + n) j).natAbs < (f (p : Int).toNat j).natAbs)
      · rw [if_pos hc]
        obtain ⟨hz, hc⟩ := hc
        rw [Int.toNat_natCast] at hc
        have hc' : (f (t + n) j).natAbs < (f p j).natAbs := hc.resolve_left (by omega)
        refine ⟨t + n, rfl, by omega, by omega, hz, fun i hi hne => ?_⟩
        rcases Nat.lt_or_ge i n with hi' | hi'
        · have := h5 i hi' hne; omega
        · rw [show i = n by omega]; exact Nat.le_refl _
      · rw [if_neg hc]
        rw [Int.toNat_natCast] at hc
        refine ⟨p, rfl, h2, by omega, h4, fun i hi hne => ?_⟩
        rcases Nat.lt_or_ge i n with hi' | hi'
        · exact h5 i hi' hne
        · rw [show i = n by omega] at hne ⊢
          refine Nat.le_of_not_lt fun hlt => hc ⟨hne, .inr hlt⟩
def lst (R : Nat) (f : Fn2) (j t : Nat) : Int := lstK f j t (R - t)
/-- Whether another row from t on has something in column j. -/
def oth (R : Nat) (f : Fn2) (j t p : Nat) : Bool := (List.range (R - t)).any fun n => decide (t + n ≠ p) && decide (f (t + n) j ≠ 0)
theorem oth_iff {R : Nat} {f : Fn2} {j t p : Nat} : oth R f j t p = true ↔ ∃ i, t ≤ i ∧ i < R ∧ i ≠ p ∧ f i j ≠ 0 := by
  unfold oth
  rw [List.any_eq_true]
  constructor
  · rintro ⟨n, hn, h⟩
    have hn' := List.mem_range.1 hn
    rw [Bool.and_eq_true, decide_eq_true_eq, decide_eq_true_eq] at h
    exact ⟨t + n, by omega, by omega, h.1, h.2⟩
  · rintro ⟨i, h1, h2, h3, h4⟩
    refine ⟨i - t, List.mem_range.2 (by omega), ?_⟩
    rw [show t + (i - t) = i by omega, Bool.and_eq_true, decide_eq_true_eq, decide_eq_true_eq]
    exact ⟨h3, h4⟩
theorem oth_no {R : Nat} {f : Fn2} {j t p : Nat} (h : ∀ i, t ≤ i → i < R → ¬ (i ≠ p ∧ f i j ≠ 0)) : oth R f j t p = false := by
  refine Bool.eq_false_iff.2 fun hc => ?_
  obtain ⟨i, h1, h2, h3⟩ := oth_iff.1 hc
  exact h i h1 h2 h3
/-- What row t + n takes in a sweep. -/
def swS (j p t : Nat) (s : HS) : Nat → HS
  | 0 => s
  | n + 1 => if t + n ≠ p ∧ (swS j p t s n).f (t + n) j ≠ 0 then (swS j p t s n).add (t + n) p (-((swS j p t s n).f (t + n) j / (swS j p t s n).f p j)) else swS j p t s n
theorem swS_succ (j p t : Nat) (s : HS) (n : Nat) : swS j p t s (n + 1) = if t + n ≠ p ∧ (swS j p t s n).f (t + n) j ≠ 0 then (swS j p t s n).add (t + n) p (-((swS j p t s n).f (t + n) j / (swS j p t s n).f p j)) else swS j p t s n := rfl
theorem swS_nb {j p t : Nat} {s : HS} (h : s.NBS) : ∀ n, (swS j p t s n).NBS
  | 0 => h
  | n + 1 => by
    rw [swS_succ]
    split
    · exact (swS_nb h n).add _ _ _
    · exact swS_nb h n
theorem swS_back {j p t R C : Nat} {s : HS} (h : s.NBS) {n : Nat} (hk : (swS j p t s (n + 1)).OK R C) : (swS j p t s n).OK R C := by
  rw [swS_succ] at hk
  split at hk
  · exact HS.OK.back (swS_nb h n) hk
  · exact hk
theorem swS_back' {j p t R C : Nat} {s : HS} (h : s.NBS) (n : Nat) : ∀ m, (swS j p t s (n + m)).OK R C → (swS j p t s n).OK R C
  | 0, hk => hk
  | m + 1, hk => swS_back' h n m (swS_back h hk)
/-- Row p stays. -/
theorem swS_p {j p t : Nat} {s : HS} (y : Nat) : ∀ n, (swS j p t s n).f p y = s.f p y
  | 0 => rfl
  | n + 1 => by
    rw [swS_succ]
    split
    · rename_i h
      show opA _ _ _ _ p y = _
      rw [opA_other (Ne.symm h.1)]
      exact swS_p y n
    · exact swS_p y n
/-- Rows that have not come up stay. -/
theorem swS_late {j p t : Nat} {s : HS} {x : Nat} (y : Nat) : ∀ n, t + n ≤ x → (swS j p t s n).f x y = s.f x y
  | 0, _ => rfl
  | n + 1, hx => by
    rw [swS_succ]
    split
    · show opA _ _ _ _ x y = _
      rw [opA_other (by omega)]
      exact swS_late y n (by omega)
    · exact swS_late y n (by omega)
theorem swS_early {j p t : Nat} {s : HS} {x : Nat} (y : Nat) (hx : x < t) : ∀ n, (swS j p t s n).f x y = s.f x y
  | 0 => rfl
  | n + 1 => by
    rw [swS_succ]
    split
    · show opA _ _ _ _ x y = _
      rw [opA_other (by omega)]
      exact swS_early y hx n
    · exact swS_early y hx n
/-- What stands in column j behind a sweep. -/
theorem swS_col {j p t R C : Nat} {s : HS} (h : s.NBS) (hj : j < C) (hp : p < R) (hpj : s.f p j ≠ 0) : ∀ n, t + n ≤ R → (swS j p t s n).OK R C → ∀ x, t ≤ x → x < t + n → x ≠ p → (swS j p t s n).f x j = s.f x j % s.f p j
  | 0, _, _, x, h1, h2, _ => by omega
  | n + 1, hn, hk, x, h1, h2, h3 => by
    have hk0 := swS_back h hk
    have hsp := swS_p (j := j) (p := p) (t := t) (s := s) j n
    have hnp : Num (s.f p j) := by rw [← hsp]; exact hk0.f p j hp hj
    by_cases hx : x = t + n
    · subst hx
      have hl := swS_late (j := j) (p := p) (t := t) (s := s) (x := t + n) j n (Nat.le_refl _)
      have hnx : Num (s.f (t + n) j) := by rw [← hl]; exact hk0.f _ j (by omega) hj
      rw [swS_succ] at hk ⊢
      by_cases hz : (swS j p t s n).f (t + n) j = 0
      · rw [if_neg (by simp [hz]), hz]
        rw [← hl, hz, Int.zero_emod]
      · rw [if_pos ⟨h3, hz⟩] at hk ⊢
        have hN := hk.f (t + n) j (by omega) hj
        obtain ⟨-, -, he, -⟩ := opA_num hN
        show opA _ _ _ _ (t + n) j = _
        rw [he, hl, hsp]
        have := Int.mul_ediv_add_emod (s.f (t + n) j) (s.f p j)
        rw [Int.mul_neg]
        omega
    · have hxl : x < t + n := by omega
      have ih := swS_col h hj hp hpj n (by omega) hk0 x h1 hxl h3
      rw [swS_succ]
      split
      · show opA _ _ _ _ x j = _
        rw [opA_other hx]
        exact ih
      · exact ih
/-- What rows 0 to n - 1 take when row t is done. -/
def abS (j t : Nat) (s : HS) : Nat → HS
  | 0 => s
  | n + 1 => (abS j t s n).add n t (-((abS j t s n).f n j / (abS j t s n).f t j))
theorem abS_succ (j t : Nat) (s : HS) (n : Nat) : abS j t s (n + 1) = (abS j t s n).add n t (-((abS j t s n).f n j / (abS j t s n).f t j)) := rfl
theorem abS_nb {j t : Nat} {s : HS} (h : s.NBS) : ∀ n, (abS j t s n).NBS
  | 0 => h
  | n + 1 => (abS_nb h n).add _ _ _
theorem abS_back {j t R C : Nat} {s : HS} (h : s.NBS) {n : Nat} (hk : (abS j t s (n + 1)).OK R C) : (abS j t s n).OK R C := HS.OK.back (abS_nb h n) hk
theorem abS_back' {j t R C : Nat} {s : HS} (h : s.NBS) (n : Nat) : ∀ m, (abS j t s (n + m)).OK R C → (abS j t s n).OK R C
  | 0, hk => hk
  | m + 1, hk => abS_back' h n m (abS_back h hk)
theorem abS_late {j t : Nat} {s : HS} {x : Nat} (y : Nat) : ∀ n, n ≤ x → (abS j t s n).f x y = s.f x y
  | 0, _ => rfl
  | n + 1, hx => by
    rw [abS_succ]
    show opA _ _ _ _ x y = _
    rw [opA_other (by omega)]
    exact abS_late y n (by omega)
def noBad (x : Int) : Bool := !(x == -4611686018427387904)
def HS.ok (R C : Nat) (s : HS) : Bool := (tb R C s.f).all noBad && (tb R R s.g).all noBad
theorem noBad_num {x : Int} (h : NB x) : noBad x = true ↔ Num x := by
  unfold noBad
  rw [Bool.not_eq_true', beq_eq_false_iff_ne]
  exact ⟨fun h2 => h.num h2, fun h2 => h2.ne⟩
theorem tb_all {R C : Nat} {f : Fn2} (h : NBF f) : (tb R C f).all noBad = true ↔ OKF R C f := by
  rw [List.all_eq_true]
  constructor
  · intro ha i j hi hj
    refine (noBad_num (h i j)).1 (ha _ ?_)
    rw [← tb_at (f := f) hi hj]
    have hl := idx_nat hi hj
    have : i * C + j < (tb R C f).length := by rw [tb_len]; exact hl
    rw [List.getD_eq_getElem?_getD, List.getElem?_eq_getElem this]
    exact List.getElem_mem this
  · intro ho x hx
    exact tb_mem (P := fun x => noBad x = true) (fun i j hi hj => (noBad_num (h i j)).2 (ho i j hi hj)) x hx
theorem HS.ok_iff {R C : Nat} {s : HS} (h : s.NBS) : s.ok R C = true ↔ s.OK R C := by
  unfold HS.ok
  rw [Bool.and_eq_true, tb_all h.f, tb_all h.g]
  exact ⟨fun h => ⟨h.1, h.2⟩, fun h => ⟨h.f, h.g⟩⟩
/-- The measure of the inner loop. -/
def hmMs (R j t : Nat) (s : HS) (p : Nat) : Nat := if oth R s.f j t p then (s.f p j).natAbs else 0
theorem hmMs_lt {R C j t : Nat} {s : HS} {p : Nat} (h : s.NBS) (hj : j < C) (hp : p < R) (ht : t ≤ p) (hpj : s.f p j ≠ 0) (ho : oth R s.f j t p = true) (hk : (swS j p t s (R - t)).OK R C) :
    hmMs R j t (swS j p t s (R - t)) (lst R (swS j p t s (R - t)).f j t).toNat < hmMs R j t s p := by
  have hcol := swS_col h hj hp hpj (R - t) (by omega) hk
  have hpp := swS_p (j := j) (p := p) (t := t) (s := s) j (R - t)
  generalize (swS j p t s (R - t)) = s' at *
  unfold hmMs
  rw [if_pos ho]
  by_cases ho2 : oth R s'.f j t (lst R s'.f j t).toNat = true
  · rw [if_pos ho2]
    obtain ⟨i, h1, h2, h3, h4⟩ := oth_iff.1 ho2
    rcases lstK_cases s'.f j t (R - t) with ⟨e1, e2⟩ | ⟨q, e1, e2, e3, e4, e5⟩
    · have := e2 (i - t) (by omega)
      rw [show t + (i - t) = i by omega] at this
      exact absurd this h4
    · have e1' : lst R s'.f j t = (q : Int) := e1
      rw [e1', Int.toNat_natCast] at h3 ⊢
      have hrem : ∀ x, t ≤ x → x < R → x ≠ p → (s'.f x j).natAbs < (s.f p j).natAbs := fun x a b c => by
        rw [hcol x a (by omega) c]
        have h5 := Int.emod_nonneg (s.f x j) hpj
        have h6 := Int.emod_lt (s.f x j) hpj
        omega
      by_cases hqp : q = p
      · subst hqp
        have h7 := hrem i h1 h2 h3
        have h8 := e5 (i - t) (by omega)
        rw [show t + (i - t) = i by omega] at h8
        have := h8 h4
        omega
      · exact hrem q e2 (by omega) hqp
  · rw [if_neg ho2]
    omega
/-- Sweeps till row p alone has something in column j. -/
def hmIn (R C j t : Nat) (s : HS) (p : Nat) : Option (HS × Nat) :=
  if oth R s.f j t p then
    if (swS j p t s (R - t)).ok R C then
      if h : hmMs R j t (swS j p t s (R - t)) (lst R (swS j p t s (R - t)).f j t).toNat < hmMs R j t s p then hmIn R C j t (swS j p t s (R - t)) (lst R (swS j p t s (R - t)).f j t).toNat else none
    else none
  else some (s, p)
termination_by hmMs R j t s p
theorem hmIn_done {R C j t : Nat} {s : HS} {p : Nat} (h : oth R s.f j t p = false) : hmIn R C j t s p = some (s, p) := by
  rw [hmIn, if_neg (by rw [h]; exact Bool.false_ne_true)]
theorem hmIn_bad {R C j t : Nat} {s : HS} {p : Nat} (ho : oth R s.f j t p = true) (h : (swS j p t s (R - t)).ok R C = false) : hmIn R C j t s p = none := by
  rw [hmIn, if_pos ho, if_neg (by rw [h]; exact Bool.false_ne_true)]
theorem hmIn_next {R C j t : Nat} {s : HS} {p : Nat} (hn : s.NBS) (hj : j < C) (hp : p < R) (ht : t ≤ p) (hpj : s.f p j ≠ 0) (ho : oth R s.f j t p = true) (h : (swS j p t s (R - t)).ok R C = true) :
    hmIn R C j t s p = hmIn R C j t (swS j p t s (R - t)) (lst R (swS j p t s (R - t)).f j t).toNat := by
  conv => lhs; rw [hmIn]
  rw [if_pos ho, if_pos h, dif_pos (hmMs_lt hn hj hp ht hpj ho ((HS.ok_iff (swS_nb hn _)).1 h))]
/-- Row p to place t, its sign, the rows above. -/
def hmS1 (t p : Nat) (s : HS) : HS := if p = t then s else s.swap p t
def hmS2 (j t : Nat) (s : HS) : HS := if s.f t j < 0 then s.neg t else s
def hmFin (R C j t : Nat) (p : Nat) (s : HS) : Option HS := if (abS j t (hmS2 j t (hmS1 t p s)) t).ok R C then some (abS j t (hmS2 j t (hmS1 t p s)) t) else none
/-- Columns j and the m - 1 behind it; the number of rows that are done. -/
def hmOut (R C : Nat) : Nat → Nat → Nat → HS → Option (HS × Nat)
  | 0, _, t, s => some (s, t)
  | m + 1, j, t, s =>
    if t < R then
      if lst R s.f j t < 0 then hmOut R C m (j + 1) t s
      else (hmIn R C j t s (lst R s.f j t).toNat).bind fun x => (hmFin R C j t x.2 x.1).bind fun s' => hmOut R C m (j + 1) (t + 1) s'
    else some (s, t)
/-- What follows in a column. -/
def hmGo (R C m j t : Nat) (o : Option (HS × Nat)) : Option (HS × Nat) := o.bind fun x => (hmFin R C j t x.2 x.1).bind fun s' => hmOut R C m (j + 1) (t + 1) s'
theorem hmOut_zero (R C j t : Nat) (s : HS) : hmOut R C 0 j t s = some (s, t) := rfl
theorem hmOut_full {R C m j t : Nat} {s : HS} (h : ¬ t < R) : hmOut R C m j t s = some (s, t) := by
  cases m with
  | zero => rfl
  | succ m => show (if _ then _ else _) = _; rw [if_neg h]
theorem hmOut_skip {R C m j t : Nat} {s : HS} (h : t < R) (h2 : lst R s.f j t < 0) : hmOut R C (m + 1) j t s = hmOut R C m (j + 1) t s := by
  show (if _ then (if _ then _ else _) else _) = _
  rw [if_pos h, if_pos h2]
theorem hmOut_go {R C m j t : Nat} {s : HS} (h : t < R) (h2 : ¬ lst R s.f j t < 0) : hmOut R C (m + 1) j t s = hmGo R C m j t (hmIn R C j t s (lst R s.f j t).toNat) := by
  show (if _ then (if _ then _ else _) else _) = _
  rw [if_pos h, if_neg h2]
  rfl
def idF : Fn2 := fun i j => if i = j then 1 else 0
/-- The Hermite form, what makes it, and the number of rows that are not zeros. -/
def hmRun (R C : Nat) (f : Fn2) : Option (HS × Nat) := hmOut R C C 0 0 ⟨f, idF⟩
end Go.Proofs.Ytacjonkehcamgaa

/-
  DERIVED. The cursor that draws numbers out of bytes: what the reference's l1New, l1Byte, l1Below, l1Once, l1PickInt, l1Odd, l1Num return, and that they turn the cursor alone.
-/
namespace Go.Proofs.Ytacjonkehcamgaa
open Go.RowKit
set_option linter.unusedVariables false
set_option linter.unusedSimpArgs false
/-- A slice of bytes reads as xs. -/
def RB (w : World) (B : Nat) (A : Option Addr) (n : Nat) (xs : List Int) : Prop :=
  xs.length = n ∧ (0 < n → ∃ b o, A = some ⟨b, o, none⟩ ∧ b < B ∧ ∀ k, k < n → w.cell? ⟨b, o + k, none⟩ = some (.int .u8 (xs.getD k 0))) ∧ ∀ k, 0 ≤ xs.getD k 0 ∧ xs.getD k 0 ≤ 255
section
variable {w w' : World} {B n : Nat} {A : Option Addr} {xs : List Int}
theorem RB.keep (h : RB w B A n xs) (hk : ∀ p : Addr, p.block < B → w'.cell? p = w.cell? p) : RB w' B A n xs :=
  ⟨h.1, fun hn => by
    obtain ⟨b, o, e, hb, hc⟩ := h.2.1 hn
    exact ⟨b, o, e, hb, fun k hk' => (hk _ hb).trans (hc k hk')⟩, h.2.2⟩
theorem RB.below {C : Nat} (h : RB w B A n xs) (hb : Below C w w') (hC : B ≤ C) : RB w' B A n xs := h.keep fun _ hp => hb.cell (by omega)
theorem RB.grown {row : Option Nat} (h : RB w B A n xs) (hg : w.grownBy w' row) (hB : B ≤ w.heap.size) (hr : ∀ g, row = some g → B ≤ g) : RB w' B A n xs :=
  h.keep fun p hp => World.cell?_of_block (hg.block p.block (by omega) (fun e => by have := hr _ e.symm; omega))
theorem RB.drew (h : RB w B A n xs) : RB w.drew B A n xs := h
theorem RB.drewN (h : RB w B A n xs) (k : Nat) : RB (w.drewN k) B A n xs := h
theorem RB.alloc (h : RB w B A n xs) (hB : B ≤ w.heap.size) (o : Obj) : RB (w.alloc o) B A n xs := h.keep fun p hp => World.cell?_alloc_lt w o p (by omega)
theorem RB.setCell (h : RB w B A n xs) {p : Addr} (hB : B ≤ p.block) (u : Value) : RB (w.setCell p u) B A n xs := h.keep fun q hq => by
  have : q.block ≠ p.block := by omega
  exact World.cell?_of_block (Below.heap_setCell w p u q.block this)
end
/-- Block b is a cursor upon the bytes of a slice. -/
def CU (w : World) (b : Nat) (A : Option Addr) (n cap : Nat) : Prop :=
  ∃ i h : Int, (0 ≤ i ∧ i ≤ n) ∧ Blk w b 157 #[.slice A n cap, .int .i64 i, .int .i64 h]
theorem bits_and_bd (x : Int) (m : Nat) (hm : m < 4611686018427387904) : 0 ≤ bits .and .i64 x m ∧ bits .and .i64 x m ≤ m := by
  have h1 : bits .and .i64 x m = IntKind.wrap .i64 ((BitVec.ofInt 64 x &&& BitVec.ofInt 64 (m : Int)).toNat : Int) := rfl
  have h2 : (BitVec.ofInt 64 x &&& BitVec.ofInt 64 (m : Int)).toNat ≤ m := by
    rw [BitVec.toNat_and]
    refine Nat.le_trans Nat.and_le_right ?_
    have : BitVec.ofInt 64 (m : Int) = BitVec.ofNat 64 m := by simp
    rw [this, BitVec.toNat_ofNat]
    exact Nat.mod_le _ _
  rw [h1, IntWalk.i64_in _ (by omega)]
  omega
section
variable {w w' w'' : World} {b n cap : Nat} {A : Option Addr}
theorem CU.lt (h : CU w b A n cap) : b < w.heap.size := by obtain ⟨i, q, _, h⟩ := h; exact h.lt
theorem CU.drew (h : CU w b A n cap) : CU w.drew b A n cap := by obtain ⟨i, q, a, h⟩ := h; exact ⟨i, q, a, h.drew⟩
theorem CU.drewN (h : CU w b A n cap) (k : Nat) : CU (w.drewN k) b A n cap := by obtain ⟨i, q, a, h⟩ := h; exact ⟨i, q, a, h.drewN k⟩
theorem CU.alloc (h : CU w b A n cap) (o : Obj) : CU (w.alloc o) b A n cap := by obtain ⟨i, q, a, h⟩ := h; exact ⟨i, q, a, h.alloc o⟩
theorem CU.grown {row : Option Nat} (h : CU w b A n cap) (hg : w.grownBy w' row) (hne : some b ≠ row) : CU w' b A n cap := by obtain ⟨i, q, a, h⟩ := h; exact ⟨i, q, a, h.grown hg hne⟩
theorem CU.below {D : Nat} (h : CU w b A n cap) (hb : Below D w w') (hD : b < D) : CU w' b A n cap := by obtain ⟨i, q, a, h⟩ := h; exact ⟨i, q, a, h.below hb hD⟩
theorem CU.far (h : CU w b A n cap) {p : Addr} (hp : b ≠ p.block) (u : Value) : CU (w.setCell p u) b A n cap := by obtain ⟨i, q, a, h⟩ := h; exact ⟨i, q, a, h.far hp u⟩
end
theorem grown_setLater {a w : World} {row : Option Nat} (h : a.grownBy w row) {p : Addr} (hp : a.heap.size ≤ p.block) (u : Value) : a.grownBy (w.setCell p u) row :=
  ⟨h.os, h.tape, h.output, by simpa [World.setCell] using h.size, fun i hi hne => (Below.heap_setCell w p u i (by omega)).trans (h.block i hi hne)⟩
/-- From world w0 to world w the cursor alone has turned, and blocks were laid; the cursor's bytes read as they did. -/
structure CT (w0 w : World) (B b n cap : Nat) (A : Option Addr) (xs : List Int) : Prop where
  cu : CU w b A n cap
  rb : RB w B A n xs
  gr : w0.grownBy w (some b)
  hB : B ≤ b
  hb : b < w0.heap.size
  hn : n ≤ 2000000
section
variable {w0 w w' : World} {B b n cap : Nat} {A : Option Addr} {xs : List Int}
theorem CT.self (h : CT w0 w B b n cap A xs) : CT w w B b n cap A xs := ⟨h.cu, h.rb, World.grownBy.refl _ _, h.hB, h.cu.lt, h.hn⟩
theorem CT.trans (h : CT w0 w B b n cap A xs) (k : CT w w' B b n cap A xs) : CT w0 w' B b n cap A xs := ⟨k.cu, k.rb, only_trans h.gr k.gr, h.hB, h.hb, h.hn⟩
theorem CT.size (h : CT w0 w B b n cap A xs) : w0.heap.size ≤ w.heap.size := h.gr.size
theorem CT.drew (h : CT w0 w B b n cap A xs) : CT w0 w.drew B b n cap A xs := ⟨h.cu.drew, h.rb.drew, only_drew h.gr, h.hB, h.hb, h.hn⟩
theorem CT.drewN (h : CT w0 w B b n cap A xs) (k : Nat) : CT w0 (w.drewN k) B b n cap A xs := ⟨h.cu.drewN k, h.rb.drewN k, only_drewN h.gr k, h.hB, h.hb, h.hn⟩
theorem CT.alloc (h : CT w0 w B b n cap A xs) (o : Obj) : CT w0 (w.alloc o) B b n cap A xs :=
  ⟨h.cu.alloc o, h.rb.alloc (by have := h.hB; have := h.cu.lt; omega) o, only_alloc h.gr o, h.hB, h.hb, h.hn⟩
theorem CT.far (h : CT w0 w B b n cap A xs) {p : Addr} (hp : w0.heap.size ≤ p.block) (u : Value) : CT w0 (w.setCell p u) B b n cap A xs :=
  have h1 := h.hb
  have h2 := h.hB
  ⟨h.cu.far (by omega) u, h.rb.setCell (by omega) u, grown_setLater h.gr hp u, h.hB, h.hb, h.hn⟩
theorem CT.below {D : Nat} (h : CT w0 w B b n cap A xs) (hb : Below D w w') (hD : w0.heap.size ≤ D) : CT w0 w' B b n cap A xs :=
  have h1 := h.hb
  have h2 := h.hB
  have hs := h.size
  ⟨h.cu.below hb (by omega), h.rb.below hb (by omega), ⟨hb.os.trans h.gr.os, hb.tape.trans h.gr.tape, hb.output.trans h.gr.output, Nat.le_trans h.gr.size hb.size, fun i hi hne => (hb.block i (by omega)).trans (h.gr.block i hi hne)⟩, h.hB, h.hb, h.hn⟩
theorem CT.grown {g : Nat} (h : CT w0 w B b n cap A xs) (hg : w.grownBy w' (some g)) (hD : w0.heap.size ≤ g) : CT w0 w' B b n cap A xs :=
  have h1 := h.hb
  have h2 := h.hB
  ⟨h.cu.grown hg (by intro e; cases e; omega), h.rb.grown hg (by have := h.cu.lt; omega) (fun q e => by cases e; omega), ⟨hg.os.trans h.gr.os, hg.tape.trans h.gr.tape, hg.output.trans h.gr.output, Nat.le_trans h.gr.size hg.size, fun i hi hne => (hg.block i (by have := h.gr.size; omega) (by intro e; cases e; omega)).trans (h.gr.block i hi hne)⟩, h.hB, h.hb, h.hn⟩
end
/-- A call that turned just the cursor, and returned what P says. -/
def DRV (P : World → Value → Prop) (B b n cap : Nat) (A : Option Addr) (xs : List Int) (w : World) (e : Ending) (w' : World) : Prop :=
  ∃ v, e = .returned v ∧ P w' v ∧ CT w w' B b n cap A xs
/-- A number from 0 on less than k, or 0. -/
def Upto (k : Int) (v : Value) : Prop := ∃ x : Int, v = .int .i64 x ∧ 0 ≤ x ∧ (x < k ∨ x = 0)
/-- An int within some bounds. -/
def I64 (lo hi : Int) (v : Value) : Prop := ∃ x : Int, v = .int .i64 x ∧ lo ≤ x ∧ x ≤ hi
def IsB (v : Value) : Prop := ∃ b : Bool, v = .bool b
theorem wrap64_bd (x : Int) : -9223372036854775808 ≤ wrap64 x ∧ wrap64 x ≤ 9223372036854775807 := by unfold wrap64; omega
set_option maxRecDepth 100000 in
set_option maxHeartbeats 4000000 in
theorem spec_l1Byte (b n cap : Nat) (A : Option Addr) (xs : List Int) (w : World) {B : Nat} (hct : CT w w B b n cap A xs) :
    Calls Try.prog 229 #[.pointer (some ⟨b, 0, none⟩)] w (DRV (fun _ => Upto 256) B b n cap A xs w) := by
  have hB := hct.hB
  have hn := hct.hn
  have hby := hct.rb
  obtain ⟨i, h, ⟨h1, h2⟩, hX⟩ := hct.cu
  clear hct
  have HBY := Lib.hid hby
  have x0 := hX.cell 0
  have x1 := hX.cell 1
  have x2 := hX.cell 2
  have xf := hX.frozen
  have hl := hX.lt
  simp at x0 x1 x2
  by_cases hi : i < n
  · obtain ⟨g, o, rfl, hg, hc⟩ := hby.2.1 (by omega)
    have hv := hc i.toNat (by omega)
    obtain ⟨v1, v2⟩ := hby.2.2 i.toNat
    generalize xs.getD i.toNat 0 = v at *
    clear hc hby
    have hgb : ¬ g = b := by omega
    go_enter Try.func229, Try.ntmps229
    go_wp2_with fail
    have hq := wrap64_bd (wrap64 (h * 6364136223846793005) + 1442695040888963407)
    generalize wrap64 (wrap64 (h * 6364136223846793005) + 1442695040888963407) = q at hq
    go_region
    all_goals go_wp2
    all_goals have hy := bits_and_bd (bits BinOp.xor IntKind.i64 (q / 8589934592) (q / 35184372088832)) 255 (by decide)
    all_goals generalize bits BinOp.and IntKind.i64 (bits BinOp.xor IntKind.i64 (q / 8589934592) (q / 35184372088832)) 255 = y at hy
    go_region
    all_goals go_wp2
    go_region
    all_goals go_wp2
    have hz := bits_and_bd (y + v) 255 (by decide)
    generalize bits BinOp.and IntKind.i64 (y + v) 255 = z at hz
    go_ret
    refine ⟨_, rfl, ⟨z, rfl, by omega, .inl (by omega)⟩, ⟨i + 1, q, by omega, ?_⟩, ?_, ?_, hB, hl, hn⟩
    · exact ((hX.set_ 2 (.int .i64 q)).set_ 1 (.int .i64 (i + 1))).as rfl
    · exact RB.setCell (RB.setCell HBY.out (by simp; omega) _) (by simp; omega) _
    · exact only_drew (only_drew (only_drew (only_set (only_set (World.grownBy.refl w _) 2 _) 1 _)))
  · clear hby
    go_enter Try.func229, Try.ntmps229
    go_wp2_with fail
    have hq := wrap64_bd (wrap64 (h * 6364136223846793005) + 1442695040888963407)
    generalize wrap64 (wrap64 (h * 6364136223846793005) + 1442695040888963407) = q at hq
    go_region
    all_goals go_wp2
    have hy := bits_and_bd (bits BinOp.xor IntKind.i64 (q / 8589934592) (q / 35184372088832)) 255 (by decide)
    generalize bits BinOp.and IntKind.i64 (bits BinOp.xor IntKind.i64 (q / 8589934592) (q / 35184372088832)) 255 = y at hy
    go_region
    all_goals go_wp2
    go_ret
    refine ⟨_, rfl, ⟨y, rfl, by omega, .inl (by omega)⟩, ⟨i, q, by omega, ?_⟩, ?_, ?_, hB, hl, hn⟩
    · exact (hX.set_ 2 (.int .i64 q)).as rfl
    · exact RB.setCell HBY.out (by simp; omega) _
    · exact only_drew (only_drew (only_set (World.grownBy.refl w _) 2 _))
theorem tmod_bd {x n : Int} (hx : 0 ≤ x) (hn : 0 < n) : 0 ≤ x.tmod n ∧ x.tmod n < n := ⟨Int.tmod_nonneg n hx, Int.tmod_lt_of_pos x hn⟩
set_option maxRecDepth 100000 in
set_option maxHeartbeats 4000000 in
theorem spec_l1Below (b n cap : Nat) (A : Option Addr) (xs : List Int) (k : Int) (w : World) {B : Nat} (hct : CT w w B b n cap A xs) :
    Calls Try.prog 197 #[.pointer (some ⟨b, 0, none⟩), .int .i64 k] w (DRV (fun _ => Upto k) B b n cap A xs w) := by
  have hsz := hct.size
  by_cases h0 : k ≤ 0
  · go_enter Try.func197, Try.ntmps197
    go_wp2_with fail
    go_ret
    exact ⟨_, rfl, ⟨0, rfl, by omega, .inr rfl⟩, by (with_reducible (repeat (first | exact hct | refine CT.drew ?_ | refine CT.drewN ?_ _ | refine CT.alloc ?_ _ | refine CT.far ?_ Ks _ | refine CT.below ?_ (by assumption) Ks)))⟩
  · have hk : ¬ k = 0 := by omega
    by_cases h1 : k ≤ 256
    · go_enter Try.func197, Try.ntmps197
      go_wp2_with (go_at_call 229; refine (spec_l1Byte b n cap A xs _ (CT.self (w0 := w) (B := B) (by (with_reducible (repeat (first | exact hct | refine CT.drew ?_ | refine CT.drewN ?_ _ | refine CT.alloc ?_ _ | refine CT.far ?_ Ks _ | refine CT.below ?_ (by assumption) Ks)))))).mono ?_; rintro e w1 ⟨v, rfl, ⟨x, rfl, hx0, hx1⟩, hc1⟩; have hct_1 : CT w w1 B b n cap A xs := CT.trans (by (with_reducible (repeat (first | exact hct | refine CT.drew ?_ | refine CT.drewN ?_ _ | refine CT.alloc ?_ _ | refine CT.far ?_ Ks _ | refine CT.below ?_ (by assumption) Ks)))) hc1; clear hct hc1; have hct := hct_1; clear hct_1; have hsz := hct.size)
      have he1 := Int.emod_nonneg x hk
      have he2 := Int.emod_lt_of_pos x (show 0 < k by omega)
      go_ret
      exact ⟨_, rfl, ⟨_, rfl, he1, .inl he2⟩, by (with_reducible (repeat (first | exact hct | refine CT.drew ?_ | refine CT.drewN ?_ _ | refine CT.alloc ?_ _ | refine CT.far ?_ Ks _ | refine CT.below ?_ (by assumption) Ks)))⟩
    · go_enter Try.func197, Try.ntmps197
      go_wp2_with (go_at_call 229; refine (spec_l1Byte b n cap A xs _ (CT.self (w0 := w) (B := B) (by (with_reducible (repeat (first | exact hct | refine CT.drew ?_ | refine CT.drewN ?_ _ | refine CT.alloc ?_ _ | refine CT.far ?_ Ks _ | refine CT.below ?_ (by assumption) Ks)))))).mono ?_; rintro e w1 ⟨v, rfl, ⟨x, rfl, hx0, hx1⟩, hc1⟩; have hct_1 : CT w w1 B b n cap A xs := CT.trans (by (with_reducible (repeat (first | exact hct | refine CT.drew ?_ | refine CT.drewN ?_ _ | refine CT.alloc ?_ _ | refine CT.far ?_ Ks _ | refine CT.below ?_ (by assumption) Ks)))) hc1; clear hct hc1; have hct := hct_1; clear hct_1; have hsz := hct.size)
      go_ret
      exact ⟨_, rfl, ⟨_, rfl, Int.emod_nonneg _ hk, .inl (Int.emod_lt_of_pos _ (by omega))⟩, by (with_reducible (repeat (first | exact hct | refine CT.drew ?_ | refine CT.drewN ?_ _ | refine CT.alloc ?_ _ | refine CT.far ?_ Ks _ | refine CT.below ?_ (by assumption) Ks)))⟩
theorem spec_l1Once (b n cap : Nat) (A : Option Addr) (xs : List Int) (k : Int) (w : World) {B : Nat} (hct : CT w w B b n cap A xs) :
    Calls Try.prog 170 #[.pointer (some ⟨b, 0, none⟩), .int .i64 k] w (DRV (fun _ => IsB) B b n cap A xs w) := by
  have hsz := hct.size
  go_enter Try.func170, Try.ntmps170
  go_wp2_with (go_at_call 197; refine (spec_l1Below b n cap A xs k _ (CT.self (w0 := w) (B := B) (by (with_reducible (repeat (first | exact hct | refine CT.drew ?_ | refine CT.drewN ?_ _ | refine CT.alloc ?_ _ | refine CT.far ?_ Ks _ | refine CT.below ?_ (by assumption) Ks)))))).mono ?_; rintro e w1 ⟨v, rfl, ⟨x, rfl, hx0, hx1⟩, hc1⟩; have hct_1 : CT w w1 B b n cap A xs := CT.trans (by (with_reducible (repeat (first | exact hct | refine CT.drew ?_ | refine CT.drewN ?_ _ | refine CT.alloc ?_ _ | refine CT.far ?_ Ks _ | refine CT.below ?_ (by assumption) Ks)))) hc1; clear hct hc1; have hct := hct_1; clear hct_1; have hsz := hct.size)
  go_ret
  exact ⟨_, rfl, ⟨_, rfl⟩, by (with_reducible (repeat (first | exact hct | refine CT.drew ?_ | refine CT.drewN ?_ _ | refine CT.alloc ?_ _ | refine CT.far ?_ Ks _ | refine CT.below ?_ (by assumption) Ks)))⟩
/-- One of the numbers of a list. -/
def OneOf (ys : List Int) (v : Value) : Prop := ∃ x : Int, v = .int .i64 x ∧ x ∈ ys
set_option maxRecDepth 100000 in
set_option maxHeartbeats 4000000 in
theorem spec_l1PickInt (b n cap : Nat) (A : Option Addr) (xs : List Int) (A2 : Option Addr) (n2 cap2 : Nat) (ys : List Int) (w : World) {B B2 : Nat} (hct : CT w w B b n cap A xs) (hri : RI w B2 A2 n2 ys) (hB2 : B2 ≤ w.heap.size) (hne : ∀ p : Addr, (∃ o c, A2 = some ⟨b, o, c⟩) → False) (hn2 : 0 < n2) (hn3 : n2 ≤ 100) :
    Calls Try.prog 198 #[.pointer (some ⟨b, 0, none⟩), .slice A2 n2 cap2] w (DRV (fun _ => OneOf ys) B b n cap A xs w) := by
  have hsz := hct.size
  have hlen := hri.len
  obtain ⟨g, o, rfl, hg, hc⟩ := hri.2 hn2
  have hgb : g ≠ b := fun e => hne ⟨0, 0, none⟩ ⟨o, none, by rw [e]⟩
  have HC := Lib.hid hc
  have HLEN := Lib.hid hlen
  clear hc hri hne hlen
  go_enter Try.func198, Try.ntmps198
  go_wp2_with (go_at_call 197; refine (spec_l1Below b n cap A xs (n2 : Int) _ (CT.self (w0 := w) (B := B) (by (with_reducible (repeat (first | exact hct | refine CT.drew ?_ | refine CT.drewN ?_ _ | refine CT.alloc ?_ _ | refine CT.far ?_ Ks _ | refine CT.below ?_ (by assumption) Ks)))))).mono ?_; rintro e w1 ⟨v, rfl, ⟨x, rfl, hx0, hx1⟩, hc1⟩; have hct_1 : CT w w1 B b n cap A xs := CT.trans (by (with_reducible (repeat (first | exact hct | refine CT.drew ?_ | refine CT.drewN ?_ _ | refine CT.alloc ?_ _ | refine CT.far ?_ Ks _ | refine CT.below ?_ (by assumption) Ks)))) hc1; clear hct hc1; have hct := hct_1; clear hct_1; have hsz := hct.size; have hlt : x < n2 := (by omega); have hcell : w1.cell? ⟨g, o + x.toNat, none⟩ = some (.int .i64 (ys.getD x.toNat 0)) := (World.cell?_of_block (hct.gr.block g (by omega) (by simp; omega))).trans (HC.out x.toNat (by omega)))
  go_ret
  have hm : ys[x.toNat]?.getD 0 ∈ ys := by
    have h2 := HLEN.out
    rw [← getD_nat]
    have h3 : x.toNat < ys.length := by omega
    simp only [List.getD, List.getElem?_eq_getElem h3, Option.getD_some]
    exact List.getElem_mem h3
  exact ⟨_, rfl, ⟨_, rfl, hm⟩, by (with_reducible (repeat (first | exact hct | refine CT.drew ?_ | refine CT.drewN ?_ _ | refine CT.alloc ?_ _ | refine CT.far ?_ Ks _ | refine CT.below ?_ (by assumption) Ks)))⟩
theorem RI.lit {w : World} {g : Nat} {t : TypeId} {ys : List Int} (h : Blk w g t (ys.map (Value.int .i64)).toArray) : RI w (g + 1) (some ⟨g, 0, none⟩) ys.length ys :=
  ⟨rfl, fun _ => ⟨g, 0, rfl, by omega, fun k hk => by rw [Nat.zero_add, h.cell]; simp [hk]⟩⟩
theorem not_at {b g : Nat} (h : b < g) : ∀ p : Addr, (∃ o c, (some ⟨g, 0, none⟩ : Option Addr) = some ⟨b, o, c⟩) → False := fun _ ⟨_, _, e⟩ => by
  injection e with e; injection e with e1; omega
set_option maxRecDepth 100000 in
set_option maxHeartbeats 4000000 in
theorem spec_l1Odd (b n cap : Nat) (A : Option Addr) (xs : List Int) (w : World) {B : Nat} (hct : CT w w B b n cap A xs) :
    Calls Try.prog 230 #[.pointer (some ⟨b, 0, none⟩)] w (DRV (fun _ => I64 (-9223372036854775808) 9223372036854775807) B b n cap A xs w) := by
  have hsz := hct.size
  have hb := hct.hb
  go_enter Try.func230, Try.ntmps230
  go_wp2_with (go_at_call 198; refine (spec_l1PickInt b n cap A xs (some ⟨(w.heap.size), 0, none⟩) _ _ ([0, 1, -1, 2, 400000000, -400000000, 400000001, -400000001, 399999999, 9223372036854775807, -9223372036854775808]) _ (B2 := (w.heap.size) + 1) (CT.self (w0 := w) (B := B) (by (with_reducible (repeat (first | exact hct | refine CT.drew ?_ | refine CT.drewN ?_ _ | refine CT.alloc ?_ _ | refine CT.far ?_ Ks _ | refine CT.below ?_ (by assumption) Ks))))) ?h2 ?h3 ?h4 ?h5 ?h6).mono ?h7; (case h2 => (exact (RI.lit (Blk.new _ _ _)))); (case h3 => (exact Ks)); (case h4 => (exact (not_at Ks))); (case h5 => decide); (case h6 => decide); rintro e w1 ⟨v, rfl, ⟨x, rfl, hx0⟩, hc1⟩; have hct_1 : CT w w1 B b n cap A xs := CT.trans (by (with_reducible (repeat (first | exact hct | refine CT.drew ?_ | refine CT.drewN ?_ _ | refine CT.alloc ?_ _ | refine CT.far ?_ Ks _ | refine CT.below ?_ (by assumption) Ks)))) hc1; clear hct hc1; have hct := hct_1; clear hct_1; have hsz := hct.size)
  go_ret
  refine ⟨_, rfl, ⟨x, rfl, ?_⟩, by (with_reducible (repeat (first | exact hct | refine CT.drew ?_ | refine CT.drewN ?_ _ | refine CT.alloc ?_ _ | refine CT.far ?_ Ks _ | refine CT.below ?_ (by assumption) Ks)))⟩
  simp only [List.mem_cons, List.not_mem_nil, or_false] at hx0
  omega
set_option maxRecDepth 100000 in
set_option maxHeartbeats 4000000 in
theorem spec_l1Num (b n cap : Nat) (A : Option Addr) (xs : List Int) (most : Int) (w : World) {B : Nat} (hct : CT w w B b n cap A xs) (hm : 0 ≤ most ∧ most ≤ 1000000) :
    Calls Try.prog 200 #[.pointer (some ⟨b, 0, none⟩), .int .i64 most] w (DRV (fun _ => I64 (-9223372036854775808) 9223372036854775807) B b n cap A xs w) := by
  have hsz := hct.size
  obtain ⟨hm1, hm2⟩ := hm
  go_enter Try.func200, Try.ntmps200
  go_wp2_with (first | (go_at_call 170; refine (spec_l1Once b n cap A xs 40 _ (CT.self (w0 := w) (B := B) (by (with_reducible (repeat (first | exact hct | refine CT.drew ?_ | refine CT.drewN ?_ _ | refine CT.alloc ?_ _ | refine CT.far ?_ Ks _ | refine CT.below ?_ (by assumption) Ks)))))).mono ?_; rintro e w1 ⟨v, rfl, ⟨q, rfl⟩, hc1⟩; have hct_1 : CT w w1 B b n cap A xs := CT.trans (by (with_reducible (repeat (first | exact hct | refine CT.drew ?_ | refine CT.drewN ?_ _ | refine CT.alloc ?_ _ | refine CT.far ?_ Ks _ | refine CT.below ?_ (by assumption) Ks)))) hc1; clear hct hc1; have hct := hct_1; clear hct_1; have hsz := hct.size) | (go_at_call 197; refine (spec_l1Below b n cap A xs (2 * most + 1) _ (CT.self (w0 := w) (B := B) (by (with_reducible (repeat (first | exact hct | refine CT.drew ?_ | refine CT.drewN ?_ _ | refine CT.alloc ?_ _ | refine CT.far ?_ Ks _ | refine CT.below ?_ (by assumption) Ks)))))).mono ?_; rintro e w1 ⟨v, rfl, ⟨x, rfl, hx0, hx1⟩, hc1⟩; have hct_1 : CT w w1 B b n cap A xs := CT.trans (by (with_reducible (repeat (first | exact hct | refine CT.drew ?_ | refine CT.drewN ?_ _ | refine CT.alloc ?_ _ | refine CT.far ?_ Ks _ | refine CT.below ?_ (by assumption) Ks)))) hc1; clear hct hc1; have hct := hct_1; clear hct_1; have hsz := hct.size) | (go_at_call 230; refine (spec_l1Odd b n cap A xs _ (CT.self (w0 := w) (B := B) (by (with_reducible (repeat (first | exact hct | refine CT.drew ?_ | refine CT.drewN ?_ _ | refine CT.alloc ?_ _ | refine CT.far ?_ Ks _ | refine CT.below ?_ (by assumption) Ks)))))).mono ?_; rintro e w1 ⟨v, rfl, ⟨x, rfl, hx0, hx1⟩, hc1⟩; have hct_1 : CT w w1 B b n cap A xs := CT.trans (by (with_reducible (repeat (first | exact hct | refine CT.drew ?_ | refine CT.drewN ?_ _ | refine CT.alloc ?_ _ | refine CT.far ?_ Ks _ | refine CT.below ?_ (by assumption) Ks)))) hc1; clear hct hc1; have hct := hct_1; clear hct_1; have hsz := hct.size))
  all_goals go_ret
  all_goals exact ⟨_, rfl, ⟨_, rfl, by omega, by omega⟩, by (with_reducible (repeat (first | exact hct | refine CT.drew ?_ | refine CT.drewN ?_ _ | refine CT.alloc ?_ _ | refine CT.far ?_ Ks _ | refine CT.below ?_ (by assumption) Ks)))⟩
theorem CU.new {w : World} {b n cap : Nat} {A : Option Addr} {h : Int} (k : Blk w b 157 #[.slice A n cap, .int .i64 0, .int .i64 h]) : CU w b A n cap := ⟨0, h, by omega, k⟩
/-- The call laid a cursor. -/
def CUR (n cap : Nat) (A : Option Addr) (w : World) (e : Ending) (w' : World) : Prop := ∃ b, e = .returned (.pointer (some ⟨b, 0, none⟩)) ∧ CU w' b A n cap ∧ w.heap.size ≤ b ∧ Below w.heap.size w w'
set_option maxRecDepth 100000 in
set_option maxHeartbeats 4000000 in
theorem spec_l1New (n cap : Nat) (A : Option Addr) (xs : List Int) (w : World) {B : Nat} (hby : RB w B A n xs) (hn : n ≤ 2000000) :
    Calls Try.prog 120 #[.slice A n cap] w (CUR n cap A w) := by
  have HBY := Lib.hid hby
  clear hby
  go_enter Try.func120, Try.ntmps120
  go_wp2
  go_loopw [3, 4] (fun u v wr => ∃ (h : Int) (i : Nat), u = .int .i64 h ∧ v = .int .i64 i ∧ 0 ≤ h ∧ h ≤ 2000000000 ∧ i ≤ n ∧ wr = w) (fun _ v _ => n - (intOf v).toNat)
  case atStart => exact ⟨_, 0, rfl, rfl, by omega, by omega, by omega, rfl⟩
  case round =>
    obtain ⟨h, i, rfl, rfl, h1, h2, h3, rfl⟩ := hrel
    by_cases hi : i < n
    · by_cases hi4 : i < 4000
      · obtain ⟨g, o, rfl, hg, hc⟩ := HBY.out.2.1 (by omega)
        have hv := hc i hi
        obtain ⟨v1, v2⟩ := HBY.out.2.2 i
        generalize xs.getD i 0 = v at *
        clear hc
        go_wp2
        have hz := bits_and_bd (h * 131 + v + 7) 1073741823 (by decide)
        generalize bits BinOp.and IntKind.i64 (h * 131 + v + 7) 1073741823 = z at hz
        exact ⟨⟨_, i + 1, rfl, by simp, by omega, by omega, by omega, trivial⟩, by simp only [intOf]; omega⟩
      · go_wp2
        go_ret
        exact ⟨_, rfl, CU.new (Blk.new _ _ _), Nat.le_refl _, Kw⟩
    · go_wp2
      go_ret
      exact ⟨_, rfl, CU.new (Blk.new _ _ _), Nat.le_refl _, Kw⟩
theorem CT.new {w : World} {B b n cap : Nat} {A : Option Addr} {xs : List Int} (hcu : CU w b A n cap) (hby : RB w B A n xs) (hB : B ≤ b) (hn : n ≤ 2000000) : CT w w B b n cap A xs := ⟨hcu, hby, World.grownBy.refl _ _, hB, hcu.lt, hn⟩
/-- What is below the cursor is as it was. -/
theorem CT.under {w w' : World} {B b n cap D : Nat} {A : Option Addr} {xs : List Int} (h : CT w w' B b n cap A xs) (hD : D ≤ b) : Below D w w' := only_below h.gr (by have := h.hb; omega) fun g e => by cases e; exact hD
end Go.Proofs.Ytacjonkehcamgaa

/-
  DERIVED. A slice of bytes that came in, read.
-/
namespace Go.Proofs.Ytacjonkehcamgaa
open Go.ChangeShapes Go.WideShapes Go.ChangeAt Go.RowKit Go.Joins
set_option linter.unusedVariables false
section
variable {H : Type} {enc : TypeId × Value → H} {P : Program}
theorem reads_bytes {w : World} {base : Nat} {spare : Nat → Bool} {held : Bool} {t e : TypeId} {fuel : Nat} {v : Value} {x : DataW H × List MemPlace}
    (ht : P.underlying t = some (.slice e)) (he : P.underlying e = some (.int .u8)) (hc : P.cellsOf e = 1) (h : DataW.trod enc P w base spare held fuel t [v] = some x)
    (hlt : ∀ p ∈ x.2, p.block < w.heap.size) :
    ∃ A n cap xs, v = .slice A n cap ∧ n ≤ cap ∧ cap ≤ maxLen ∧ RB w w.heap.size A n xs := by
  rcases open_ints ht he hc h with ⟨hcs, hx⟩ | ⟨a, len, cap, zs, hcs, hb, hl, hm, hz, hx, hcell, hwf⟩
  · injection hcs with hv
    exact ⟨none, 0, 0, [], hv, Nat.le_refl _, by unfold maxLen; omega, rfl, fun h => absurd h (by omega), fun k => by simp⟩
  · injection hcs with hv
    have hzl : len ≤ zs.length := by rw [hz]; split <;> omega
    refine ⟨some a, len, cap, zs.take len, hv, hl, hm, by simp; omega, fun hn => ?_, fun k => ?_⟩
    · obtain ⟨b, off, rfl, hc'⟩ := ints_at hcell (by omega)
      refine ⟨b, off, rfl, ?_, fun k hk => ?_⟩
      · have h0 : MemPlace.cell b off ∈ x.2 := by
          rw [hx]
          simp only [MemPlace.row, List.mem_map, List.mem_range]
          exact ⟨0, by omega, rfl⟩
        exact hlt _ h0
      · rw [hc' k (by omega)]
        simp [List.getD, hk]
    · by_cases hk : k < (zs.take len).length
      · have h1 : (zs.take len).getD k 0 ∈ zs := by
          have : (zs.take len).getD k 0 = (zs.take len)[k] := by unfold List.getD; rw [List.getElem?_eq_getElem hk]; rfl
          rw [this]
          exact List.mem_of_mem_take (List.getElem_mem hk)
        simpa [Lit.wf, IntKind.min, IntKind.max, IntKind.signed, IntKind.bits] using hwf _ h1
      · have : (zs.take len).getD k 0 = 0 := by simp [List.getD, List.getElem?_eq_none (show (zs.take len).length ≤ k by omega)]
        rw [this]; omega
end
end Go.Proofs.Ytacjonkehcamgaa

/-
  DERIVED. The number with given residues, step by step: no program in sight.
-/
namespace Go.Proofs.Ytacjonkehcamgaa
set_option linter.unusedVariables false
def chK (x p r n : Int) : Int := ((r - x) * invOf p n) % n
def chF (x p : Int) : List Int → List Int → Int × Int
  | r :: rs, n :: ms => chF (x + p * chK x p r n) (p * n) rs ms
  | _, _ => (x, p)
def chB (rs ms : List Int) : Bool := modsOk ms && decide (rs.length = ms.length) && rs.all isNum
def chV (rs ms : List Int) : Int × Int := if chB rs ms then chF 0 1 rs ms else (0, 0)
theorem invOf_bds (a m : Int) (hm : 1 ≤ m) : 0 ≤ invOf a m ∧ invOf a m < m := emod_bds _ _ hm
theorem chK_bds (x p r n : Int) (hn : 1 ≤ n) : 0 ≤ chK x p r n ∧ chK x p r n < n := emod_bds _ _ hn
theorem tmod_emod (a n : Int) (hn : 0 < n) : a.tmod n % n = a % n := by
  have h := Int.tmod_add_mul_tdiv a n
  conv => rhs; rw [← h]
  rw [Int.add_mul_emod_self_left]
theorem chK_impl (x p r n : Int) (hn : 0 < n) : ((r - x).tmod n * invOf p n) % n = chK x p r n := by
  unfold chK
  rw [Int.mul_emod, tmod_emod _ _ hn, ← Int.mul_emod]
theorem chK_spec (x p r n : Int) : ((r - x) % n * invOf p n) % n = chK x p r n := by
  unfold chK
  rw [Int.mul_emod, Int.emod_emod, ← Int.mul_emod]
/-- One step: the new number is less than the new product, which is within the limit. -/
theorem ch_step {x p r n : Int} (hx : 0 ≤ x) (hxp : x < p) (hn : 2 ≤ n) (hpn : p * n ≤ 400000000) :
    0 ≤ p * chK x p r n ∧ p * chK x p r n ≤ 400000000 ∧ 0 ≤ x + p * chK x p r n ∧ x + p * chK x p r n < p * n := by
  obtain ⟨h1, h2⟩ := chK_bds x p r n (by omega)
  have h3 : 0 ≤ p * chK x p r n := Int.mul_nonneg (by omega) h1
  have h4 : p * (chK x p r n + 1) ≤ p * n := Int.mul_le_mul_of_nonneg_left (by omega) (by omega)
  rw [Int.mul_add, Int.mul_one] at h4
  omega
theorem spF_cons {p n : Int} {ms : List Int} (h : spF p (n :: ms) = true) (hp : 1 ≤ p) : 2 ≤ n ∧ n ≤ 400000000 ∧ p * n ≤ 400000000 ∧ 2 ≤ p * n ∧ spF (p * n) ms = true := by
  unfold spF at h
  split at h
  · cases h
  · rename_i h1
    split at h
    · cases h
    · split at h
      · cases h
      · rename_i h3
        have h4 := (isNum_iff (p * n)).1 (by simpa using h3)
        have h5 : 1 * n ≤ p * n := Int.mul_le_mul_of_nonneg_right hp (by omega)
        exact ⟨by omega, by omega, by omega, by omega, h⟩
theorem chB_iff {rs ms : List Int} : chB rs ms = true ↔ spF 1 ms = true ∧ ms.length ≤ 8 ∧ rs.length = ms.length ∧ rs.all isNum = true := by
  simp only [chB, modsOk, Bool.and_eq_true, decide_eq_true_eq]
  constructor
  · rintro ⟨⟨⟨h1, h2⟩, h3⟩, h4⟩; exact ⟨h2, h1, h3, h4⟩
  · rintro ⟨h2, h1, h3, h4⟩; exact ⟨⟨⟨h1, h2⟩, h3⟩, h4⟩
theorem all_getD {xs : List Int} (h : xs.all isNum = true) (k : Nat) : -400000000 ≤ xs.getD k 0 ∧ xs.getD k 0 ≤ 400000000 := by
  by_cases hk : k < xs.length
  · have h1 : xs.getD k 0 = xs[k] := by simp [List.getD, hk]
    rw [h1]
    exact (isNum_iff _).1 (List.all_eq_true.1 h xs[k] (List.getElem_mem hk))
  · have h1 : xs.getD k 0 = 0 := by simp [List.getD, List.getElem?_eq_none (show xs.length ≤ k by omega)]
    rw [h1]; omega
end Go.Proofs.Ytacjonkehcamgaa

/-
  DERIVED. RatioFrom: the search of the program and the algorithm of the reference come to one ratio.
-/
namespace Go.Proofs.Ytacjonkehcamgaa
open Go.RowKit
set_option linter.unusedVariables false
/-- The search over the denominators from d on. -/
def rfI (a m b : Int) : Nat → Int → Option (Int × Int)
  | 0, _ => none
  | k + 1, d => if (symOf (a * d % m) m).natAbs ≤ b ∧ imgOk (symOf (a * d % m) m) d a m = true then some (symOf (a * d % m) m, d) else rfI a m b k (d + 1)
/-- What the reference makes of the algorithm's end. -/
def rfEnd (a m b : Int) (r : Int × Int) : Option (Int × Int) :=
  if r.2 < 0 then (if b < -r.2 ∨ imgOk (-r.1) (-r.2) a m = false then none else some (-r.1, -r.2)) else (if b < r.2 ∨ imgOk r.1 r.2 a m = false then none else some r)
structure RfOk (a m b : Int) : Prop where
  a1 : -400000000 ≤ a
  a2 : a ≤ 400000000
  m1 : 1 ≤ m
  m2 : m ≤ 400000000
  b1 : 1 ≤ b
  b2 : b ≤ 20000
  bm : 2 * b * b < m
theorem good_iff {a m b : Int} (g : RfOk a m b) (n d : Int) : Good a m b n d ↔ (1 ≤ d ∧ d ≤ b) ∧ (n.natAbs : Int) ≤ b ∧ imgOk n d a m = true := by
  rw [imgOk_iff, ratOk_iff]
  have hb := g.b2
  constructor
  · intro h
    have h1 := h.d1
    have h2 := h.d2
    have h3 := h.n1
    have h4 := h.n2
    exact ⟨⟨h1, h2⟩, by omega, ⟨⟨h1, by omega⟩, ⟨by omega, by omega⟩, h.co⟩, ⟨g.a1, g.a2⟩, ⟨g.m1, g.m2⟩, h.cm, Int.emod_eq_zero_of_dvd h.im⟩
  · rintro ⟨⟨h1, h2⟩, h3, ⟨_, _, h4⟩, _, _, h5, h6⟩
    exact ⟨h1, h2, by omega, by omega, h4, h5, Int.dvd_of_emod_eq_zero h6⟩
theorem symOf_of {m b n y : Int} (hm : 1 ≤ m) (hb : 2 * b < m) (h1 : -b ≤ n) (h2 : n ≤ b) (hd : m ∣ y - n) : symOf (y % m) m = n := by
  unfold symOf
  rw [Int.emod_emod]
  have e0 := Int.emod_nonneg y (show m ≠ 0 by omega)
  have e1 := Int.emod_lt_of_pos y (show 0 < m by omega)
  have e2 := Int.mul_ediv_add_emod y m
  have e3 : m ∣ y % m - n := by
    have : y % m - n = (y - n) - m * (y / m) := by omega
    rw [this]
    exact Int.dvd_sub hd ⟨_, rfl⟩
  rcases Int.lt_or_le n 0 with hn | hn
  · have e4 : m ∣ y % m - n - m := Int.dvd_sub e3 (Int.dvd_refl m)
    have := small_of_dvd e4 (by omega) (by omega)
    rw [if_pos (by omega)]; omega
  · have := small_of_dvd e3 (by omega) (by omega)
    rw [if_neg (by omega)]; omega
theorem two_b {a m b : Int} (g : RfOk a m b) : 2 * b < m := by
  have h1 := g.b1
  have h2 := g.bm
  have h3 : b * 1 ≤ b * b := Int.mul_le_mul_of_nonneg_left h1 (by omega)
  have h4 : 2 * b * b = 2 * (b * b) := by rw [Int.mul_assoc]
  omega
theorem Good.cond {a m b n d : Int} (g : RfOk a m b) (h : Good a m b n d) : symOf (a * d % m) m = n := symOf_of g.m1 (two_b g) h.n1 h.n2 h.im
theorem rfI_some {a m b : Int} (g : RfOk a m b) : ∀ (k : Nat) (d0 : Int) (r : Int × Int), 1 ≤ d0 → d0 + k ≤ b + 1 → rfI a m b k d0 = some r → Good a m b r.1 r.2
  | 0, d0, r, _, _, h => by simp [rfI] at h
  | k + 1, d0, r, h0, h1, h => by
    unfold rfI at h
    split at h
    · rename_i hc
      injection h with h
      subst h
      exact (good_iff g _ _).2 ⟨⟨h0, by omega⟩, hc.1, hc.2⟩
    · exact rfI_some g k (d0 + 1) r (by omega) (by omega) h
theorem rfI_none {a m b : Int} (g : RfOk a m b) : ∀ (k : Nat) (d0 : Int), rfI a m b k d0 = none → ∀ n d, Good a m b n d → d0 ≤ d → d < d0 + k → False
  | 0, d0, _, n, d, _, h1, h2 => by omega
  | k + 1, d0, h, n, d, hg, h1, h2 => by
    unfold rfI at h
    split at h
    · cases h
    · rename_i hc
      by_cases he : d = d0
      · subst he
        apply hc
        rw [hg.cond g]
        exact ((good_iff g _ _).1 hg).2
      · exact rfI_none g k (d0 + 1) h n d hg (by omega) (by omega)
theorem rf_eq {a m b : Int} (g : RfOk a m b) : rfEnd a m b (rfS b m 0 (a % m) 1) = rfI a m b b.toNat 1 := by
  obtain ⟨G, X, H, U, S, hr, i, hb⟩ := rfS_spec (a := a) (m := m) (b := b) (by have := g.b1; omega) _ _ _ _ _ _ (Nat.le_refl _) (RfInv.start g.m1 (by have := two_b g; have := g.b1; omega))
  rw [hr]
  have hb1 := g.b1
  rcases hI : rfI a m b b.toNat 1 with _ | r
  · -- none is good
    have hno := fun n d (hg : Good a m b n d) => rfI_none g _ _ hI n d hg hg.d1 (by have := hg.d2; omega)
    unfold rfEnd
    have key : ∀ n d : Int, (n.natAbs : Int) ≤ b → ¬ (1 ≤ d ∧ d ≤ b ∧ imgOk n d a m = true) := fun n d hn hd => hno n d ((good_iff g n d).2 ⟨⟨hd.1, hd.2.1⟩, hn, hd.2.2⟩)
    have pos : ∀ n d : Int, imgOk n d a m = true → 1 ≤ d := fun n d h => (ratOk_bds ((imgOk_iff _ _ _ _).1 h).1).1
    have hh0 := i.h0
    dsimp only
    split
    · rw [if_pos]
      rcases hi : imgOk (-H) (-U) a m with _ | _
      · exact .inr rfl
      · left
        have k1 := key (-H) (-U) (by omega)
        have k2 := pos _ _ hi
        rcases Int.lt_or_le b (-U) with k3 | k3
        · exact k3
        · exact absurd ⟨k2, k3, hi⟩ k1
    · rw [if_pos]
      rcases hi : imgOk H U a m with _ | _
      · exact .inr rfl
      · left
        have k1 := key H U (by omega)
        have k2 := pos _ _ hi
        rcases Int.lt_or_le b U with k3 | k3
        · exact k3
        · exact absurd ⟨k2, k3, hi⟩ k1
  · have hg := rfI_some g _ _ r (by omega) (by omega) hI
    obtain ⟨e1, e2⟩ := hg.found g.m1 g.b1 g.bm i hb
    obtain ⟨n, d⟩ := r
    dsimp only at e1 e2 hg
    have hi := ((good_iff g n d).1 hg).2.2
    have h1 := hg.d1
    have h2 := hg.d2
    unfold rfEnd
    dsimp only
    rcases i.sg with rfl | rfl
    · have e1' : n = H := by omega
      have e2' : d = U := by omega
      clear e1 e2
      subst e1'; subst e2'
      have hc : ¬ (b < d ∨ imgOk n d a m = false) := by
        rw [hi]; simp; omega
      rw [if_neg (by omega), if_neg hc]
    · have e1' : n = -H := by omega
      have e2' : d = -U := by omega
      clear e1 e2
      subst e1'; subst e2'
      have hc : ¬ (b < -U ∨ imgOk (-H) (-U) a m = false) := by
        rw [hi]; simp; omega
      rw [if_pos (by omega), if_neg hc]
end Go.Proofs.Ytacjonkehcamgaa

/-
  DERIVED. Slices of ints that are drawn: moduli, right sides.
-/
namespace Go.Proofs.Ytacjonkehcamgaa
open Go.RowKit
set_option linter.unusedVariables false
set_option linter.unusedSimpArgs false
/-- What the call lays from block B0 on is a slice of at most lim ints. -/
def OIs (B0 lim : Nat) (w' : World) (v : Value) : Prop := ∃ A m c ys, v = .slice A m c ∧ OR w' B0 (.slice A m c) ys ∧ ys.length ≤ lim
theorem OIs.mk {B0 lim : Nat} {w' : World} {v : Value} {ys : List Int} (h : OR w' B0 v ys) (hl : ys.length ≤ lim) : OIs B0 lim w' v := by
  rcases h.form with ⟨h1, h2⟩ | ⟨g, cap, h1, _⟩ <;> subst h1 <;> exact ⟨_, _, _, ys, rfl, h, hl⟩
theorem CT.own {w0 w w' : World} {B b n cap : Nat} {A : Option Addr} {xs : List Int} {v : Value} {B1 : Nat} {ys : List Int} (h : CT w0 w B b n cap A xs) (hg : w.grownBy w' v.ownBlock) (ho : OR w B1 v ys) (hB : w0.heap.size ≤ B1) : CT w0 w' B b n cap A xs :=
  h.below (only_below hg (Nat.le_trans h.size (Nat.le_refl _)) fun g e => by have := (ho.own g e).1; omega) (Nat.le_refl _)
/-- The turning of the cursor keeps what is owned above it. -/
theorem OR.turned {w w' : World} {B B1 b n cap : Nat} {A : Option Addr} {xs ys : List Int} {v : Value} (h : OR w B1 v ys) (hc : CT w w' B b n cap A xs) (hb : b < B1) : OR w' B1 v ys :=
  h.kept hc.gr (.inr fun e => by have := (h.own b e).1; omega)
set_option maxRecDepth 100000 in
set_option maxHeartbeats 4000000 in
theorem spec_l8Right (b n cap : Nat) (A : Option Addr) (xs : List Int) (m : Int) (w : World) {B : Nat} (hct : CT w w B b n cap A xs) (hm : m ≤ 1000) :
    Calls Try.prog 122 #[.pointer (some ⟨b, 0, none⟩), .int .i64 m] w (DRV (OIs w.heap.size (m.toNat + 1)) B b n cap A xs w) := by
  have hsz := hct.size
  have hb := hct.hb
  go_enter Try.func122, Try.ntmps122
  go_wp2_with fail
  have ho : OR (w.alloc (.cells #[] 3)) w.heap.size (.slice (some ⟨w.heap.size, 0, none⟩) 0 0) [] := OR.empty w (Nat.le_refl _)
  go_loopw [5, 6] (fun u v wr => ∃ (k : Nat) (ys : List Int), v = .int .i64 k ∧ k ≤ m.toNat ∧ OR wr w.heap.size u ys ∧ ys.length = k ∧ CT w wr B b n cap A xs) (fun _ v _ => m.toNat - (intOf v).toNat)
  case atStart => exact ⟨0, [], rfl, by omega, ho, rfl, by (with_reducible (repeat (first | exact hct | refine CT.drew ?_ | refine CT.drewN ?_ _ | refine CT.alloc ?_ _ | refine CT.far ?_ Ks _ | refine CT.below ?_ (by assumption) Ks)))⟩
  case round =>
    clear hct ho
    obtain ⟨k, ys, rfl, hk0, ho, hl, hct⟩ := hrel
    have HL := Lib.hid hl
    have hl2 : ys.length ≤ 1000 := by omega
    clear hl
    have hsz := hct.size
    by_cases hk : (k : Int) < m
    · go_wp2_with (first | (go_at_call 200; refine (spec_l1Num b n cap A xs 9 _ (CT.self (w0 := w) (B := B) (by (with_reducible (repeat (first | exact hct | refine CT.drew ?_ | refine CT.drewN ?_ _ | refine CT.alloc ?_ _ | refine CT.far ?_ Ks _ | refine CT.below ?_ (by assumption) Ks))))) (by omega)).mono ?_; rintro e w1 ⟨v, rfl, ⟨x, rfl, hx0, hx1⟩, hc1⟩; have hct_1 : CT w w1 B b n cap A xs := CT.trans (by (with_reducible (repeat (first | exact hct | refine CT.drew ?_ | refine CT.drewN ?_ _ | refine CT.alloc ?_ _ | refine CT.far ?_ Ks _ | refine CT.below ?_ (by assumption) Ks)))) hc1; (first | have ho_1 := OR.turned ho hc1 hb | have ho_1 := OR.turned (OR.alloc ho _) hc1 hb | have ho_1 := OR.turned (OR.drew ho) hc1 hb); clear hct ho hc1; have hct := hct_1; have ho := ho_1; clear hct_1 ho_1; have hsz := hct.size) | (at_builtin; refine wpList_append_one _ rfl (.tmp 13) (.tmp 16) rfl w.heap.size _ _ rfl (ho.alloc _) _ x rfl ?f1 ?f2 ?f3 ?_; (case f1 => (simp [go_sem])); (case f2 => omega); (case f3 => (simp; omega)); intro v1 w2 hown1 hgr hat; (have hct_1 : CT w w2 B b n cap A xs := CT.own (by (with_reducible (repeat (first | exact hct | refine CT.drew ?_ | refine CT.drewN ?_ _ | refine CT.alloc ?_ _ | refine CT.far ?_ Ks _ | refine CT.below ?_ (by assumption) Ks)))) hgr (ho.alloc _) (Nat.le_refl _)); clear hct ho hgr hat; have hct := hct_1; have ho := hown1; clear hct_1 hown1; have hsz := hct.size))
      go_roundw
      case rel => exact ⟨k + 1, _, by go_num, by omega, ho, by simp [HL.out], hct⟩
      case measure => simp only [intOf]; omega
    · go_wp2_with (first | (go_at_call 170; refine (spec_l1Once b n cap A xs 24 _ (CT.self (w0 := w) (B := B) (by (with_reducible (repeat (first | exact hct | refine CT.drew ?_ | refine CT.drewN ?_ _ | refine CT.alloc ?_ _ | refine CT.far ?_ Ks _ | refine CT.below ?_ (by assumption) Ks)))))).mono ?_; rintro e w1 ⟨v, rfl, ⟨q, rfl⟩, hc1⟩; have hct_1 : CT w w1 B b n cap A xs := CT.trans (by (with_reducible (repeat (first | exact hct | refine CT.drew ?_ | refine CT.drewN ?_ _ | refine CT.alloc ?_ _ | refine CT.far ?_ Ks _ | refine CT.below ?_ (by assumption) Ks)))) hc1; (first | have ho_1 := OR.turned ho hc1 hb | have ho_1 := OR.turned (OR.alloc ho _) hc1 hb | have ho_1 := OR.turned (OR.drew ho) hc1 hb); clear hct ho hc1; have hct := hct_1; have ho := ho_1; clear hct_1 ho_1; have hsz := hct.size) | (at_builtin; refine wpList_append_one _ rfl (.tmp 20) (.tmp 21) rfl w.heap.size _ _ rfl (ho.alloc _) _ 1 rfl ?f1 ?f2 ?f3 ?_; (case f1 => (simp [go_sem])); (case f2 => omega); (case f3 => (simp; omega)); intro v1 w2 hown1 hgr hat; (have hct_1 : CT w w2 B b n cap A xs := CT.own (by (with_reducible (repeat (first | exact hct | refine CT.drew ?_ | refine CT.drewN ?_ _ | refine CT.alloc ?_ _ | refine CT.far ?_ Ks _ | refine CT.below ?_ (by assumption) Ks)))) hgr (ho.alloc _) (Nat.le_refl _)); clear hct ho hgr hat; have hct := hct_1; have ho := hown1; clear hct_1 hown1; have hsz := hct.size))
      all_goals go_ret
      all_goals exact ⟨_, rfl, OIs.mk ho (by have := HL.out; first | omega | (simp; omega)), by (with_reducible (repeat (first | exact hct | refine CT.drew ?_ | refine CT.drewN ?_ _ | refine CT.alloc ?_ _ | refine CT.far ?_ Ks _ | refine CT.below ?_ (by assumption) Ks)))⟩
end Go.Proofs.Ytacjonkehcamgaa

/-
  DERIVED. The Hermite form, what stays in a round: no program in sight.
-/
namespace Go.Proofs.Ytacjonkehcamgaa
set_option linter.unusedVariables false
theorem opM_nb {f : Fn2} (h : NBF f) (i : Nat) : NBF (opM f i) := by
  intro x y
  unfold opM
  split
  · split
    · exact .inl rfl
    · rename_i h2; exact ((h i y).num h2).neg.nb
  · exact h x y
theorem opM_ok {f : Fn2} {R C : Nat} (h : OKF R C f) (i : Nat) (hi : i < R) : OKF R C (opM f i) := by
  intro x y hx hy
  unfold opM
  split
  · rw [if_neg (h i y hi hy).ne]; exact (h i y hi hy).neg
  · exact h x y hx hy
theorem opM_eq {f : Fn2} {R C : Nat} (h : OKF R C f) (i : Nat) (hi : i < R) : tb R C (opN f i) = tb R C (opM f i) := tb_ext fun x y hx hy => by
  unfold opN opM
  split
  · rw [if_neg (h i y hi hy).ne]
  · rfl
theorem opM_at {f : Fn2} {i y : Nat} (h : Num (f i y)) : opM f i i y = -f i y := by unfold opM; rw [if_pos rfl, if_neg h.ne]
theorem swF_nb {f : Fn2} (h : NBF f) (p t : Nat) : NBF (swF f p t) := fun x y => h _ _
theorem swF_ok {f : Fn2} {R C p t : Nat} (h : OKF R C f) (hp : p < R) (ht : t < R) : OKF R C (swF f p t) := by
  intro x y hx hy
  unfold swF
  refine h _ _ ?_ hy
  split
  · exact ht
  · split
    · exact hp
    · exact hx
/-- All numbers, and no mark that is none. -/
structure GD (R C : Nat) (s : HS) : Prop where
  ok : s.OK R C
  nb : s.NBS
theorem GD.swap {R C p t : Nat} {s : HS} (h : GD R C s) (hp : p < R) (ht : t < R) : GD R C (s.swap p t) :=
  ⟨⟨swF_ok h.ok.f hp ht, swF_ok h.ok.g hp ht⟩, ⟨swF_nb h.nb.f p t, swF_nb h.nb.g p t⟩⟩
theorem GD.neg {R C i : Nat} {s : HS} (h : GD R C s) (hi : i < R) : GD R C (s.neg i) :=
  ⟨⟨opM_ok h.ok.f i hi, opM_ok h.ok.g i hi⟩, ⟨opM_nb h.nb.f i, opM_nb h.nb.g i⟩⟩
theorem GD.s1 {R C p t : Nat} {s : HS} (h : GD R C s) (hp : p < R) (ht : t < R) : GD R C (hmS1 t p s) := by
  unfold hmS1
  split
  · exact h
  · exact h.swap hp ht
theorem GD.s2 {R C j t : Nat} {s : HS} (h : GD R C s) (ht : t < R) : GD R C (hmS2 j t s) := by
  unfold hmS2
  split
  · exact h.neg ht
  · exact h
theorem hmS1_piv (t p j : Nat) (s : HS) : (hmS1 t p s).f t j = s.f p j := by
  unfold hmS1
  split
  · rename_i h; rw [h]
  · exact swF_t s.f p t j
theorem hmS2_piv {t j : Nat} {s : HS} (h : Num (s.f t j)) (h0 : s.f t j ≠ 0) : (hmS2 j t s).f t j ≠ 0 := by
  unfold hmS2
  split
  · show opM s.f t t j ≠ 0
    rw [opM_at h]; omega
  · exact h0
theorem lst_cases (R : Nat) (f : Fn2) (j t : Nat) (ht : t ≤ R) : (lst R f j t = -1 ∧ ∀ i, t ≤ i → i < R → f i j = 0) ∨ ∃ p, lst R f j t = (p : Nat) ∧ t ≤ p ∧ p < R ∧ f p j ≠ 0 := by
  rcases lstK_cases f j t (R - t) with ⟨h1, h2⟩ | ⟨p, h1, h2, h3, h4, _⟩
  · refine .inl ⟨h1, fun i hi hR => ?_⟩
    have := h2 (i - t) (by omega)
    rwa [show t + (i - t) = i by omega] at this
  · exact .inr ⟨p, h1, h2, by omega, h4⟩
/-- A step of a sweep. -/
theorem sw_add {j p t n : Nat} {s : HS} (h1 : t + n ≠ p) (h2 : s.f (t + n) j ≠ 0) : swS j p t s (n + 1) = (swS j p t s n).add (t + n) p (-(s.f (t + n) j / s.f p j)) := by
  rw [swS_succ, swS_late j n (Nat.le_refl _), swS_p, if_pos ⟨h1, h2⟩]
theorem sw_skip {j p t n : Nat} {s : HS} (h : t + n = p ∨ s.f (t + n) j = 0) : swS j p t s (n + 1) = swS j p t s n := by
  rw [swS_succ, swS_late j n (Nat.le_refl _), if_neg]
  rintro ⟨h1, h2⟩
  rcases h with h | h
  · exact h1 h
  · exact h2 h
theorem sw_no {R C j p t n : Nat} {s : HS} (hn : s.NBS) (hk : n ≤ R - t) (h : ¬ (swS j p t s n).OK R C) : (swS j p t s (R - t)).ok R C = false := by
  refine Bool.eq_false_iff.2 fun hc => h ?_
  have h2 := (HS.ok_iff (swS_nb hn _)).1 hc
  rw [show R - t = n + (R - t - n) by omega] at h2
  exact swS_back' hn n _ h2
theorem sw_yes {R C j p t : Nat} {s : HS} (hn : s.NBS) (h : (swS j p t s (R - t)).OK R C) : (swS j p t s (R - t)).ok R C = true := (HS.ok_iff (swS_nb hn _)).2 h
theorem ab_add {j t n : Nat} {s : HS} (h : n < t) : abS j t s (n + 1) = (abS j t s n).add n t (-(s.f n j / s.f t j)) := by
  rw [abS_succ, abS_late j n (Nat.le_refl _), abS_late j n (by omega)]
theorem ab_no {R C j t p n : Nat} {s : HS} (hg : GD R C (hmS2 j t (hmS1 t p s))) (hk : n ≤ t) (h : ¬ (abS j t (hmS2 j t (hmS1 t p s)) n).OK R C) : hmFin R C j t p s = none := by
  unfold hmFin
  rw [if_neg]
  intro hc
  refine h ?_
  have h2 := (HS.ok_iff (abS_nb hg.nb _)).1 hc
  have h3 : (abS j t (hmS2 j t (hmS1 t p s)) (n + (t - n))).OK R C := by rw [show n + (t - n) = t by omega]; exact h2
  exact abS_back' hg.nb n _ h3
theorem ab_yes {R C j t p : Nat} {s : HS} (hg : GD R C (hmS2 j t (hmS1 t p s))) (h : (abS j t (hmS2 j t (hmS1 t p s)) t).OK R C) : hmFin R C j t p s = some (abS j t (hmS2 j t (hmS1 t p s)) t) := by
  unfold hmFin
  rw [if_pos ((HS.ok_iff (abS_nb hg.nb _)).2 h)]
theorem hmGo_some (R C m j t p : Nat) (s : HS) : hmGo R C m j t (some (s, p)) = (hmFin R C j t p s).bind fun s' => hmOut R C m (j + 1) (t + 1) s' := rfl
theorem hmGo_none (R C m j t : Nat) : hmGo R C m j t none = none := rfl
theorem hmGo_bad {R C m j t p : Nat} {s : HS} (h : hmFin R C j t p s = none) : hmGo R C m j t (some (s, p)) = none := by rw [hmGo_some, h]; rfl
theorem hmGo_next {R C m j t p : Nat} {s s' : HS} (h : hmFin R C j t p s = some s') : hmGo R C m j t (some (s, p)) = hmOut R C m (j + 1) (t + 1) s' := by rw [hmGo_some, h]; rfl
theorem Num.zero : Num 0 := ⟨by omega, by omega⟩
theorem Num.one : Num 1 := ⟨by omega, by omega⟩
theorem idF_num (i j : Nat) : Num (idF i j) := by
  unfold idF
  split
  · exact Num.one
  · exact Num.zero
theorem getD_num {xs : List Int} (h : xs.all isNum = true) (k : Nat) : Num (xs.getD k 0) := by
  rw [List.getD_eq_getElem?_getD]
  rcases hc : xs[k]? with _ | v
  · exact Num.zero
  · exact Num.of (List.all_eq_true.1 h v (List.mem_of_getElem? hc))
theorem start_gd {xs : List Int} {R C : Nat} (h : xs.all isNum = true) : GD R C ⟨fun i j => cel xs C i j, idF⟩ :=
  ⟨⟨fun i j _ _ => getD_num h _, fun i j _ _ => idF_num i j⟩, ⟨fun i j => (getD_num h _).nb, fun i j => (idF_num i j).nb⟩⟩
end Go.Proofs.Ytacjonkehcamgaa

/-
  DERIVED. Sums and products of matrices as functions of row and column: no program in sight.
-/
namespace Go.Proofs.Ytacjonkehcamgaa
set_option linter.unusedVariables false
theorem sumTo_succ (f : Nat → Int) (n : Nat) : sumTo f (n + 1) = sumTo f n + f n := rfl
theorem sumTo_zero' (f : Nat → Int) : sumTo f 0 = 0 := rfl
theorem sumTo_congr {f g : Nat → Int} : ∀ n, (∀ k, k < n → f k = g k) → sumTo f n = sumTo g n
  | 0, _ => rfl
  | n + 1, h => by rw [sumTo_succ, sumTo_succ, sumTo_congr n (fun k hk => h k (by omega)), h n (by omega)]
theorem sumTo_add (f g : Nat → Int) : ∀ n, sumTo (fun k => f k + g k) n = sumTo f n + sumTo g n
  | 0 => rfl
  | n + 1 => by rw [sumTo_succ, sumTo_succ, sumTo_succ, sumTo_add f g n]; omega
theorem sumTo_mul (f : Nat → Int) (t : Int) : ∀ n, sumTo (fun k => f k * t) n = sumTo f n * t
  | 0 => by rw [sumTo_zero', sumTo_zero', Int.zero_mul]
  | n + 1 => by rw [sumTo_succ, sumTo_succ, sumTo_mul f t n, Int.add_mul]
theorem sumTo_mul' (f : Nat → Int) (t : Int) (n : Nat) : sumTo (fun k => t * f k) n = t * sumTo f n := by
  rw [Int.mul_comm, ← sumTo_mul]
  exact sumTo_congr n fun k _ => Int.mul_comm _ _
theorem sumTo_neg (f : Nat → Int) : ∀ n, sumTo (fun k => -f k) n = -sumTo f n
  | 0 => rfl
  | n + 1 => by rw [sumTo_succ, sumTo_succ, sumTo_neg f n]; omega
theorem sumTo_sub (f g : Nat → Int) (n : Nat) : sumTo (fun k => f k - g k) n = sumTo f n - sumTo g n := by
  have h := sumTo_add f (fun k => -g k) n
  rw [sumTo_neg] at h
  rw [Int.sub_eq_add_neg, ← h]
  exact sumTo_congr n fun k _ => Int.sub_eq_add_neg
theorem sumTo_null {f : Nat → Int} (n : Nat) (h : ∀ k, k < n → f k = 0) : sumTo f n = 0 := by
  induction n with
  | zero => rfl
  | succ n ih => rw [sumTo_succ, ih (fun k hk => h k (by omega)), h n (by omega)]; rfl
/-- One summand only. -/
theorem sumTo_one {f : Nat → Int} {i : Nat} : ∀ n, i < n → (∀ k, k < n → k ≠ i → f k = 0) → sumTo f n = f i
  | 0, hi, _ => absurd hi (Nat.not_lt_zero _)
  | n + 1, hi, h => by
    rw [sumTo_succ]
    by_cases e : i = n
    · subst e
      rw [sumTo_null i (fun k hk => h k (by omega) (by omega)), Int.zero_add]
    · rw [sumTo_one n (by omega) (fun k hk hne => h k (by omega) hne), h n (by omega) (fun e2 => e e2.symm), Int.add_zero]
theorem sumTo_swap (f : Nat → Nat → Int) (m : Nat) : ∀ n, sumTo (fun i => sumTo (fun j => f i j) m) n = sumTo (fun j => sumTo (fun i => f i j) n) m
  | 0 => by
    rw [sumTo_zero']
    exact (sumTo_null m fun k _ => rfl).symm
  | n + 1 => by
    rw [sumTo_succ, sumTo_swap f m n, ← sumTo_add]
    rfl
/-- The product over n places. -/
def mm (n : Nat) (f g : Fn2) : Fn2 := fun i j => sumTo (fun k => f i k * g k j) n
/-- A matrix times a column. -/
def mv (n : Nat) (f : Fn2) (z : Nat → Int) : Nat → Int := fun i => sumTo (fun k => f i k * z k) n
theorem mm_assoc (n m : Nat) (f g h : Fn2) (i j : Nat) : mm n (mm m f g) h i j = mm m f (mm n g h) i j := by
  unfold mm
  have e1 : ∀ k, sumTo (fun l => f i l * g l k) m * h k j = sumTo (fun l => f i l * g l k * h k j) m := fun k => (sumTo_mul _ _ _).symm
  have e2 : ∀ l, f i l * sumTo (fun k => g l k * h k j) n = sumTo (fun k => f i l * g l k * h k j) n := fun l => by
    rw [← sumTo_mul']
    exact sumTo_congr n fun k _ => by rw [Int.mul_assoc]
  rw [sumTo_congr n (fun k _ => e1 k), sumTo_congr m (fun l _ => e2 l), sumTo_swap]
theorem mv_mm (n m : Nat) (f g : Fn2) (z : Nat → Int) (i : Nat) : mv n (mm m f g) z i = mv m f (mv n g z) i := mm_assoc n m f g (fun k _ => z k) i 0
theorem mv_congr {n : Nat} {f g : Fn2} {y z : Nat → Int} {i : Nat} (h : ∀ k, k < n → f i k = g i k) (h2 : ∀ k, k < n → y k = z k) : mv n f y i = mv n g z i :=
  sumTo_congr n fun k hk => by rw [h k hk, h2 k hk]
theorem mv_sub (n : Nat) (f : Fn2) (y z : Nat → Int) (i : Nat) : mv n f (fun k => y k - z k) i = mv n f y i - mv n f z i := by
  unfold mv
  rw [← sumTo_sub]
  exact sumTo_congr n fun k _ => by rw [Int.mul_sub]
/-- Equal in R rows of C cells. -/
def EqM (R C : Nat) (f g : Fn2) : Prop := ∀ i j, i < R → j < C → f i j = g i j
/-- No column but that of zeros is taken to zeros. -/
def INJ (R : Nat) (g : Fn2) : Prop := ∀ z : Nat → Int, (∀ i, i < R → mv R g z i = 0) → ∀ k, k < R → z k = 0
theorem INJ.eq {R : Nat} {g : Fn2} (h : INJ R g) {y z : Nat → Int} (e : ∀ i, i < R → mv R g y i = mv R g z i) : ∀ k, k < R → y k = z k := fun k hk => by
  have := h (fun k => y k - z k) (fun i hi => by rw [mv_sub, e i hi, Int.sub_self]) k hk
  omega
theorem mv_id {R : Nat} (z : Nat → Int) {i : Nat} (hi : i < R) : mv R idF z i = z i := by
  unfold mv
  rw [sumTo_one R hi]
  · unfold idF; rw [if_pos rfl, Int.one_mul]
  · intro k hk hne
    unfold idF
    rw [if_neg (fun e => hne e.symm), Int.zero_mul]
theorem INJ.id (R : Nat) : INJ R idF := fun z h k hk => by rw [← mv_id z hk]; exact h k hk
-- operations on rows
theorem mv_add {R i j : Nat} {t : Int} {g g' : Fn2} (h1 : ∀ y, y < R → g' i y = g i y + g j y * t) (z : Nat → Int) : mv R g' z i = mv R g z i + mv R g z j * t := by
  unfold mv
  rw [← sumTo_mul, ← sumTo_add]
  exact sumTo_congr R fun k hk => by rw [h1 k hk]; grind
theorem INJ.add {R i j : Nat} {t : Int} {g g' : Fn2} (h : INJ R g) (hi : i < R) (hj : j < R) (hij : i ≠ j) (h1 : ∀ y, y < R → g' i y = g i y + g j y * t) (h2 : ∀ x y, x < R → y < R → x ≠ i → g' x y = g x y) : INJ R g' := fun z hz => by
  have e : ∀ x, x < R → x ≠ i → mv R g z x = 0 := fun x hx hne => by
    rw [← hz x hx]
    exact mv_congr (fun k hk => (h2 x k hx hk hne).symm) (fun _ _ => rfl)
  refine h z fun x hx => ?_
  by_cases hxi : x = i
  · subst hxi
    have := mv_add h1 z
    rw [hz x hx, e j hj (fun e => hij e.symm), Int.zero_mul, Int.add_zero] at this
    exact this.symm
  · exact e x hx hxi
theorem INJ.swap {R p t : Nat} {g : Fn2} (h : INJ R g) (hp : p < R) (ht : t < R) : INJ R (swF g p t) := fun z hz => by
  refine h z fun x hx => ?_
  by_cases h1 : x = p
  · subst h1
    rw [← hz t ht]
    exact sumTo_congr R fun k hk => by rw [swF_t]
  · by_cases h2 : x = t
    · subst h2
      rw [← hz p hp]
      refine sumTo_congr R fun k hk => ?_
      have e : swF g p x p k = g x k := by unfold swF; rw [if_pos rfl]
      rw [e]
    · rw [← hz x hx]
      refine mv_congr (fun k hk => ?_) (fun _ _ => rfl)
      unfold swF
      rw [if_neg h1, if_neg h2]
theorem INJ.neg {R i : Nat} {g g' : Fn2} (h : INJ R g) (h1 : ∀ y, y < R → g' i y = -g i y) (h2 : ∀ x y, x < R → y < R → x ≠ i → g' x y = g x y) : INJ R g' := fun z hz => by
  refine h z fun x hx => ?_
  by_cases hxi : x = i
  · subst hxi
    have e : mv R g' z x = -mv R g z x := by
      unfold mv
      rw [← sumTo_neg]
      exact sumTo_congr R fun k hk => by rw [h1 k hk, Int.neg_mul]
    rw [hz x hx] at e
    omega
  · rw [← hz x hx]
    exact mv_congr (fun k hk => (h2 x k hx hk hxi).symm) (fun _ _ => rfl)
end Go.Proofs.Ytacjonkehcamgaa

/-
  DERIVED. RankMod and DeterminantMod of the program.
-/
namespace Go.Proofs.Ytacjonkehcamgaa
open Go.RowKit
set_option linter.unusedVariables false
set_option linter.unusedSimpArgs false
/-- The end of the elimination over residues. -/
def rmF (c : Int) (xs : List Int) (p : Int) : Nat → Nat → Int := fun i j => cel (redL xs p) c.toNat i j
def rmS (r c : Int) (xs : List Int) (p : Int) : ESt := runE r.toNat c.toNat p (rmF c xs p)
def rankM (r c : Int) (xs : List Int) (p : Int) : Int := if redB r c xs p then ((rmS r c xs p).t : Int) else 0
def detMB (r c : Int) (xs : List Int) (p : Int) : Bool := redB r c xs p && decide (r = c)
def detM (r c : Int) (xs : List Int) (p : Int) : Int := if detMB r c xs p then (if ((rmS r c xs p).t : Int) < r then 0 else (rmS r c xs p).d) else 0
theorem redL_at (xs : List Int) (p : Int) (hp : 2 ≤ p) (k : Nat) : 0 ≤ (redL xs p).getD k 0 ∧ (redL xs p).getD k 0 < p := by
  unfold redL
  by_cases hk : k < xs.length
  · have : (xs.map (· % p)).getD k 0 = xs[k] % p := by simp [List.getD, hk]
    rw [this]
    exact emod_bds _ _ (by omega)
  · have : (xs.map (· % p)).getD k 0 = 0 := by simp [List.getD, List.getElem?_eq_none (show xs.length ≤ k by omega)]
    rw [this]; omega
structure RedOk (r c : Int) (xs : List Int) (p : Int) : Prop where
  m : IsM r c xs
  pr : isPr p = true
  pb : 2 ≤ p ∧ p ≤ 10000
  mx : redM r c xs p = ⟨r, c, redL xs p⟩
  tb_ : redL xs p = tb r.toNat c.toNat (rmF c xs p)
  f0 : ∀ i j : Nat, 0 ≤ rmF c xs p i j ∧ rmF c xs p i j < p
  ok : EOk r.toNat p (rmS r c xs p)
theorem redOk {r c : Int} {xs : List Int} {p : Int} (h : redB r c xs p = true) : RedOk r c xs p := by
  have h0 := h
  unfold redB at h0
  rw [Bool.and_eq_true] at h0
  have M := isMat_iff.1 h0.1
  have hp := isPr_bds h0.2
  have hf : ∀ i j : Nat, 0 ≤ rmF c xs p i j ∧ rmF c xs p i j < p := fun i j => redL_at xs p hp.1 _
  refine ⟨M, h0.2, hp, ?_, ?_, hf, ?_⟩
  · unfold redM; rw [if_pos h]
  · unfold rmF
    apply tb_of
    have h1 := M.len; have h2 := M.r0; have h3 := M.c0
    obtain ⟨R, rfl⟩ := nat_of h2
    obtain ⟨C, rfl⟩ := nat_of h3
    simp only [Int.toNat_natCast]
    rw [← Int.natCast_mul] at h1
    simp [redL]; omega
  · exact colsE_ok hp.1 _ _ _ ⟨hf, Nat.zero_le _, by show (0 : Int) ≤ 1 ∧ (1 : Int) < p; omega⟩
theorem redM_no {r c : Int} {xs : List Int} {p : Int} (h : redB r c xs p = false) : redM r c xs p = .none := by
  unfold redM; rw [h]; rfl
set_option maxRecDepth 100000 in
set_option maxHeartbeats 2000000 in
theorem impl_RankMod (r c p : Int) (A : Option Addr) (n cap : Nat) (xs : List Int) (w : World) {B : Nat} (h : RI w B A n xs) (hB : B ≤ w.heap.size) (hn : n ≤ 1048576) :
    Calls Try.prog 84 #[.agg #[.int .i64 r, .int .i64 c, .slice A n cap], .int .i64 p] w (BV (.tuple #[.int .i64 (rankM r c xs p), .bool (redB r c xs p)]) w) := by
  have H2 := Lib.hid (h.more hB)
  clear h
  rcases hb : redB r c xs p with _ | _
  · have hv : rankM r c xs p = 0 := by unfold rankM; rw [hb]; rfl
    rw [hv]
    have HB := Lib.hid hb
    have HX := Lib.hid (redM_no hb)
    clear hb hv
    go_enter Try.func84, Try.ntmps84
    go_wp2_with fail
    refine (impl_ReduceMod r c p A n cap xs _ (B := w.heap.size) (Kr H2.out) Ks hn).mono ?_
    rw [HB.out, HX.out]
    rintro e w1 ⟨A', n', cap', rfl, hown, hb1⟩
    have hsz1 := hb1.size
    simp at hsz1
    go_wp2_with fail
    go_ret2
    exact BV.mk rfl Kw
  · have K := redOk hb
    have hv : rankM r c xs p = ((rmS r c xs p).t : Int) := by unfold rankM; rw [hb]; rfl
    rw [hv]
    have HB := Lib.hid hb
    have HX := Lib.hid K.mx
    have HT := Lib.hid K.tb_
    have HF := Lib.hid K.f0
    have HR : Hid (runE r.toNat c.toNat p (rmF c xs p) = rmS r c xs p) := Lib.hid rfl
    obtain ⟨hp1, hp2⟩ := K.pb
    have hR := K.m.r1
    have hC := K.m.c1
    obtain ⟨R, rfl⟩ := nat_of K.m.r0
    obtain ⟨C, rfl⟩ := nat_of K.m.c0
    clear hb hv K
    generalize rmS (R : Int) (C : Int) xs p = X at *
    simp only [Int.toNat_natCast] at HT HF HR
    generalize rmF (C : Int) xs p = f at *
    go_enter Try.func84, Try.ntmps84
    go_wp2_with fail
    refine (impl_ReduceMod R C p A n cap xs _ (B := w.heap.size) (Kr H2.out) Ks hn).mono ?_
    rw [HB.out, HX.out]
    rintro e w1 ⟨A', n', cap', rfl, hown, hb1⟩
    have hsz1 := hb1.size
    simp at hsz1
    have hown1 : OR w1 (w.heap.size + 1) (.slice A' n' cap') (tb R C f) := by
      have := hown
      rw [show (⟨(R : Int), (C : Int), redL xs p⟩ : Mx).xs = redL xs p from rfl, HT.out] at this
      simpa using this
    clear hown
    go_wp2_with fail
    refine (impl_eliminate R C C p A' n' cap' f _ (B := w.heap.size + 1) (Ko hown1) (by omega) (by omega) (Nat.le_refl _) ⟨hp1, hp2⟩ HF.out).mono ?_
    rw [HR.out]
    rintro e w2 ⟨rfl, hown2, hgr2, hsz2⟩
    have hbw : Below w.heap.size w w2 := Below.trans (show Below w.heap.size w (w1.alloc (.cells #[.int .i64 R, .int .i64 C, .slice A' n' cap'] 26)) from Kw) ((OR.below_grown (hown1.alloc (.cells #[.int .i64 R, .int .i64 C, .slice A' n' cap'] 26)) hgr2 (by simp; omega)).mono (by omega))
    clear hgr2
    go_wp2_with fail
    go_ret2
    exact BV.mk rfl hbw
theorem det_cases (r c : Int) (xs : List Int) (p : Int) : (redB r c xs p = false ∧ detMB r c xs p = false) ∨ (redB r c xs p = true ∧ (r != c) = true ∧ detMB r c xs p = false) ∨ (redB r c xs p = true ∧ r = c ∧ detMB r c xs p = true) := by
  unfold detMB
  rcases redB r c xs p with _ | _
  · left; simp
  · right
    by_cases h : r = c
    · right; simp [h]
    · left; simp [h]
theorem detM_no {r c : Int} {xs : List Int} {p : Int} (h : detMB r c xs p = false) : detM r c xs p = 0 := by unfold detM; rw [h]; rfl
set_option maxRecDepth 100000 in
set_option maxHeartbeats 2000000 in
theorem impl_DeterminantMod (r c p : Int) (A : Option Addr) (n cap : Nat) (xs : List Int) (w : World) {B : Nat} (h : RI w B A n xs) (hB : B ≤ w.heap.size) (hn : n ≤ 1048576) :
    Calls Try.prog 37 #[.agg #[.int .i64 r, .int .i64 c, .slice A n cap], .int .i64 p] w (BV (.tuple #[.int .i64 (detM r c xs p), .bool (detMB r c xs p)]) w) := by
  have H2 := Lib.hid (h.more hB)
  clear h
  rcases det_cases r c xs p with ⟨hb, hd⟩ | ⟨hb, hne, hd⟩ | ⟨hb, rfl, hd⟩
  · rw [detM_no hd, hd]
    have HB := Lib.hid hb
    have HX := Lib.hid (redM_no hb)
    clear hb hd
    go_enter Try.func37, Try.ntmps37
    go_wp2_with fail
    refine (impl_ReduceMod r c p A n cap xs _ (B := w.heap.size) (Kr H2.out) Ks hn).mono ?_
    rw [HB.out, HX.out]
    rintro e w1 ⟨A', n', cap', rfl, hown, hb1⟩
    have hsz1 := hb1.size
    simp at hsz1
    go_wp2_with fail
    go_ret2
    exact BV.mk rfl Kw
  · rw [detM_no hd, hd]
    have HB := Lib.hid hb
    have HX := Lib.hid (redOk hb).mx
    clear hb hd
    go_enter Try.func37, Try.ntmps37
    go_wp2_with fail
    refine (impl_ReduceMod r c p A n cap xs _ (B := w.heap.size) (Kr H2.out) Ks hn).mono ?_
    rw [HB.out, HX.out]
    rintro e w1 ⟨A', n', cap', rfl, hown, hb1⟩
    have hsz1 := hb1.size
    simp at hsz1
    have hM : BM w1 w.heap.size r c A n cap := Ka
    obtain ⟨oa, ob, oc, of, ol⟩ := hM.mx
    go_wp2_with fail
    go_ret2
    exact BV.mk rfl Kw
  · have K := redOk hb
    have hv : detM r r xs p = (if ((rmS r r xs p).t : Int) < r then 0 else (rmS r r xs p).d) := by unfold detM; rw [hd]; rfl
    rw [hv, hd]
    have HB := Lib.hid hb
    have HX := Lib.hid K.mx
    have HT := Lib.hid K.tb_
    have HF := Lib.hid K.f0
    have HR : Hid (runE r.toNat r.toNat p (rmF r xs p) = rmS r r xs p) := Lib.hid rfl
    obtain ⟨hp1, hp2⟩ := K.pb
    have hR := K.m.r1
    have hd0 := K.ok.d0
    have ht0 := K.ok.t0
    obtain ⟨R, rfl⟩ := nat_of K.m.r0
    clear hb hv K hd
    generalize rmS (R : Int) (R : Int) xs p = X at *
    simp only [Int.toNat_natCast] at HT HF HR ht0
    generalize rmF (R : Int) xs p = f at *
    obtain ⟨hd1, hd2⟩ := hd0
    generalize hvv : (if ((X.t : Nat) : Int) < (R : Int) then 0 else X.d) = V
    have HVV := Lib.hid hvv
    clear hvv
    go_enter Try.func37, Try.ntmps37
    go_wp2_with fail
    refine (impl_ReduceMod R R p A n cap xs _ (B := w.heap.size) (Kr H2.out) Ks hn).mono ?_
    rw [HB.out, HX.out]
    rintro e w1 ⟨A', n', cap', rfl, hown, hb1⟩
    have hsz1 := hb1.size
    simp at hsz1
    have hown1 : OR w1 (w.heap.size + 1) (.slice A' n' cap') (tb R R f) := by
      have := hown
      rw [show (⟨(R : Int), (R : Int), redL xs p⟩ : Mx).xs = redL xs p from rfl, HT.out] at this
      simpa using this
    have hM : BM w1 w.heap.size R R A n cap := Ka
    obtain ⟨oa, ob, oc, of, ol⟩ := hM.mx
    clear hown
    go_wp2_with fail
    refine (impl_eliminate R R R p A' n' cap' f _ (B := w.heap.size + 1) (Ko hown1) (by omega) (by omega) (Nat.le_refl _) ⟨hp1, hp2⟩ HF.out).mono ?_
    rw [HR.out]
    rintro e w2 ⟨rfl, hown2, hgr2, hsz2⟩
    have hbw : Below w.heap.size w w2 := Below.trans (show Below w.heap.size w (w1.alloc (.cells #[.int .i64 R, .int .i64 R, .slice A' n' cap'] 26)) from Kw) ((OR.below_grown (hown1.alloc (.cells #[.int .i64 R, .int .i64 R, .slice A' n' cap'] 26)) hgr2 (by simp; omega)).mono (by omega))
    have hM2 : BM w2 w.heap.size R R A n cap := (hM.alloc (.cells #[.int .i64 R, .int .i64 R, .slice A' n' cap'] 26)).grown hgr2 (OR.ne_low (hown1.alloc (.cells #[.int .i64 R, .int .i64 R, .slice A' n' cap'] 26)) (by omega))
    clear hgr2 oa ob oc of ol
    obtain ⟨oa, ob, oc, of, ol⟩ := hM2.mx
    by_cases hlt : X.t < R
    · have HV : Hid (V = 0) := Lib.hid (by rw [← HVV.out, if_pos (by omega)])
      generalize X.t = XT at *
      go_wp2_with fail
      go_ret2
      refine BV.mk ?_ hbw
      exact vib HV.out.symm rfl
    · have HV : Hid (V = X.d) := Lib.hid (by rw [← HVV.out, if_neg (by omega)])
      have HE : Hid (X.d % p = X.d) := Lib.hid (Int.emod_eq_of_lt hd1 hd2)
      generalize X.t = XT at *
      generalize X.d = XD at *
      go_wp2_with (first | (go_at_call 130; refine (impl_mod _ _ _ (by omega) (by omega) (by omega) (by omega)).mono ?_; rintro e w' ⟨rfl, rfl⟩))
      go_ret2
      refine BV.mk ?_ hbw
      exact vib (HV.out.trans HE.out.symm).symm rfl
end Go.Proofs.Ytacjonkehcamgaa

/-
  DERIVED. Determinants by expansion along the first row: linear in rows and columns, zero where two rows or two columns are equal. No program in sight.
-/
namespace Go.Proofs.Ytacjonkehcamgaa
set_option linter.unusedVariables false
def sg (j : Nat) : Int := if j % 2 = 1 then -1 else 1
theorem sg_succ (j : Nat) : sg (j + 1) = -sg j := by
  unfold sg
  rcases Nat.mod_two_eq_zero_or_one j with h | h
  · rw [if_pos (by omega), if_neg (by omega)]
  · rw [if_neg (by omega), if_pos (by omega)]; rfl
/-- The column behind the one that is left out. -/
def sk (j b : Nat) : Nat := if b < j then b else b + 1
/-- Without the first row and column j. -/
def mnr (f : Fn2) (j : Nat) : Fn2 := fun a b => f (a + 1) (sk j b)
def Dt : Nat → Fn2 → Int
  | 0, _ => 1
  | n + 1, f => sumTo (fun j => sg j * f 0 j * Dt n (mnr f j)) (n + 1)
theorem Dt_succ (n : Nat) (f : Fn2) : Dt (n + 1) f = sumTo (fun j => sg j * f 0 j * Dt n (mnr f j)) (n + 1) := rfl
theorem sk_lt {j b n : Nat} (h : b < n) : sk j b < n + 1 := by unfold sk; split <;> omega
theorem sk_ne (j b : Nat) : sk j b ≠ j := by unfold sk; split <;> omega
theorem Dt_congr : ∀ (n : Nat) {f g : Fn2}, EqM n n f g → Dt n f = Dt n g
  | 0, _, _, _ => rfl
  | n + 1, f, g, h => by
    rw [Dt_succ, Dt_succ]
    refine sumTo_congr (n + 1) fun j hj => ?_
    have ih : Dt n (mnr f j) = Dt n (mnr g j) := Dt_congr n fun a b ha hb => h (a + 1) (sk j b) (by omega) (sk_lt hb)
    rw [h 0 j (by omega) hj, ih]
/-- Linear in row i. -/
theorem Dt_row : ∀ (n i : Nat) (t : Int) {f g h : Fn2}, i < n → (∀ y, y < n → f i y = g i y + h i y * t) → (∀ x y, x < n → y < n → x ≠ i → f x y = g x y ∧ f x y = h x y) → Dt n f = Dt n g + Dt n h * t
  | 0, i, _, _, _, _, hi, _, _ => absurd hi (Nat.not_lt_zero _)
  | n + 1, 0, t, f, g, h, _, h1, h2 => by
    rw [Dt_succ, Dt_succ, Dt_succ, ← sumTo_mul, ← sumTo_add]
    refine sumTo_congr (n + 1) fun j hj => ?_
    have e1 : Dt n (mnr g j) = Dt n (mnr f j) := Dt_congr n fun a b ha hb => (h2 (a + 1) (sk j b) (by omega) (sk_lt hb) (by omega)).1.symm
    have e2 : Dt n (mnr h j) = Dt n (mnr f j) := Dt_congr n fun a b ha hb => (h2 (a + 1) (sk j b) (by omega) (sk_lt hb) (by omega)).2.symm
    rw [e1, e2, h1 j hj]
    grind
  | n + 1, i + 1, t, f, g, h, hi, h1, h2 => by
    rw [Dt_succ, Dt_succ, Dt_succ, ← sumTo_mul, ← sumTo_add]
    refine sumTo_congr (n + 1) fun j hj => ?_
    have e1 := (h2 0 j (by omega) hj (by omega)).1
    have e2 := (h2 0 j (by omega) hj (by omega)).2
    have ih := Dt_row n i t (f := mnr f j) (g := mnr g j) (h := mnr h j) (by omega) (fun y hy => h1 (sk j y) (sk_lt hy)) (fun x y hx hy hne => h2 (x + 1) (sk j y) (by omega) (sk_lt hy) (by omega))
    rw [ih, ← e1, ← e2]
    grind
/-- Linear in column c. -/
theorem Dt_col : ∀ (n c : Nat) (t : Int) {f g h : Fn2}, c < n → (∀ x, x < n → f x c = g x c + h x c * t) → (∀ x y, x < n → y < n → y ≠ c → f x y = g x y ∧ f x y = h x y) → Dt n f = Dt n g + Dt n h * t
  | 0, c, _, _, _, _, hc, _, _ => absurd hc (Nat.not_lt_zero _)
  | n + 1, c, t, f, g, h, hc, h1, h2 => by
    rw [Dt_succ, Dt_succ, Dt_succ, ← sumTo_mul, ← sumTo_add]
    refine sumTo_congr (n + 1) fun j hj => ?_
    by_cases e : j = c
    · subst e
      have e1 : Dt n (mnr g j) = Dt n (mnr f j) := Dt_congr n fun a b ha hb => (h2 (a + 1) (sk j b) (by omega) (sk_lt hb) (sk_ne j b)).1.symm
      have e2 : Dt n (mnr h j) = Dt n (mnr f j) := Dt_congr n fun a b ha hb => (h2 (a + 1) (sk j b) (by omega) (sk_lt hb) (sk_ne j b)).2.symm
      rw [e1, e2, h1 0 (by omega)]
      grind
    · have e1 := (h2 0 j (by omega) hj e).1
      have e2 := (h2 0 j (by omega) hj e).2
      obtain ⟨c', hc', hk, hk2⟩ : ∃ c', c' < n ∧ sk j c' = c ∧ ∀ y, sk j y = c → y = c' := by
        by_cases hlt : c < j
        · exact ⟨c, by omega, by unfold sk; rw [if_pos hlt], fun y hy => by unfold sk at hy; split at hy <;> omega⟩
        · refine ⟨c - 1, by omega, by unfold sk; rw [if_neg (by omega)]; omega, fun y hy => by unfold sk at hy; split at hy <;> omega⟩
      have ih := Dt_col n c' t (f := mnr f j) (g := mnr g j) (h := mnr h j) hc' (fun x hx => by
        show f (x + 1) (sk j c') = g (x + 1) (sk j c') + h (x + 1) (sk j c') * t
        rw [hk]
        exact h1 (x + 1) (by omega)) (fun x y hx hy hne => h2 (x + 1) (sk j y) (by omega) (sk_lt hy) (fun e2 => hne (hk2 y e2)))
      rw [ih, ← e1, ← e2]
      grind
/-- Two summands only. -/
theorem sumTo_two {f : Nat → Int} {i : Nat} (n : Nat) (hi : i + 1 < n) (h : ∀ k, k < n → k ≠ i → k ≠ i + 1 → f k = 0) : sumTo f n = f i + f (i + 1) := by
  induction n with
  | zero => omega
  | succ n ih =>
    rw [sumTo_succ]
    by_cases e : i + 1 = n
    · subst e
      rw [sumTo_one (i := i) (i + 1) (by omega) (fun k hk hne => h k (by omega) hne (by omega))]
    · rw [ih (by omega) (fun k hk h1 h2 => h k (by omega) h1 h2), h n (by omega) (by omega) (by omega), Int.add_zero]
/-- Zero where two columns beside each other are equal. -/
theorem Dt_col_eq : ∀ (n c : Nat) {f : Fn2}, c + 1 < n → (∀ x, x < n → f x c = f x (c + 1)) → Dt n f = 0
  | 0, c, _, hc, _ => absurd hc (Nat.not_lt_zero _)
  | n + 1, c, f, hc, h => by
    rw [Dt_succ, sumTo_two (i := c) (n + 1) hc (fun j hj h1 h2 => ?_)]
    · have e : Dt n (mnr f c) = Dt n (mnr f (c + 1)) := Dt_congr n fun a b ha hb => by
        show f (a + 1) (sk c b) = f (a + 1) (sk (c + 1) b)
        by_cases hbc : b = c
        · subst hbc
          have e1 : sk b b = b + 1 := by unfold sk; rw [if_neg (Nat.lt_irrefl _)]
          have e2 : sk (b + 1) b = b := by unfold sk; rw [if_pos (by omega)]
          rw [e1, e2]
          exact (h (a + 1) (by omega)).symm
        · have e3 : sk c b = sk (c + 1) b := by unfold sk; split <;> split <;> omega
          rw [e3]
      rw [e, sg_succ, h 0 (by omega)]
      grind
    · have hz : Dt n (mnr f j) = 0 := by
        obtain ⟨c', hc', e1, e2⟩ : ∃ c', c' + 1 < n ∧ sk j c' = c ∧ sk j (c' + 1) = c + 1 := by
          by_cases hlt : c < j
          · exact ⟨c, by omega, by unfold sk; rw [if_pos hlt], by unfold sk; rw [if_pos (by omega)]⟩
          · exact ⟨c - 1, by omega, by unfold sk; rw [if_neg (by omega)]; omega, by unfold sk; rw [if_neg (by omega)]; omega⟩
        refine Dt_col_eq n c' hc' fun x hx => ?_
        show f (x + 1) (sk j c') = f (x + 1) (sk j (c' + 1))
        rw [e1, e2]
        exact h (x + 1) (by omega)
      rw [hz, Int.mul_zero]
/-- A sum over pairs that change sign when turned is zero. -/
theorem sumTo_anti {g : Nat → Nat → Int} (n : Nat) (h : ∀ a b, a < n → b < n → g a b = -g b a) : sumTo (fun a => sumTo (fun b => g a b) n) n = 0 := by
  have e : sumTo (fun a => sumTo (fun b => g a b) n) n = sumTo (fun a => -sumTo (fun b => g b a) n) n :=
    sumTo_congr n fun a ha => by
      rw [← sumTo_neg]
      exact sumTo_congr n fun b hb => h a b ha hb
  rw [sumTo_neg, sumTo_swap (fun a b => g b a) n n] at e
  omega
/-- A sum that leaves one place out. -/
theorem sumTo_skip {g : Nat → Int} {j : Nat} : ∀ n, j < n + 1 → sumTo (fun k => g (sk j k)) n = sumTo (fun b => if b = j then 0 else g b) (n + 1)
  | 0, hj => by
    have : j = 0 := by omega
    subst this
    rfl
  | n + 1, hj => by
    by_cases e : j = n + 1
    · subst e
      rw [sumTo_succ _ (n + 1), if_pos rfl, Int.add_zero]
      refine sumTo_congr (n + 1) fun k hk => ?_
      unfold sk
      rw [if_pos hk, if_neg (by omega)]
    · rw [sumTo_succ _ n, sumTo_skip n (by omega), sumTo_succ _ (n + 1), if_neg (by omega)]
      have : sk j n = n + 1 := by unfold sk; rw [if_neg (by omega)]
      rw [this]
/-- Without two rows and two columns, whichever goes first. -/
theorem mnr_two {f : Fn2} {a b : Nat} (h : a < b) : mnr (mnr f b) a = mnr (mnr f a) (b - 1) := by
  funext x y
  show f (x + 1 + 1) (sk b (sk a y)) = f (x + 1 + 1) (sk a (sk (b - 1) y))
  have : sk b (sk a y) = sk a (sk (b - 1) y) := by
    unfold sk
    repeat' split
    all_goals omega
  rw [this]
/-- Zero where two rows beside each other are equal. -/
theorem Dt_row_eq : ∀ (n i : Nat) {f : Fn2}, i + 1 < n → (∀ y, y < n → f i y = f (i + 1) y) → Dt n f = 0
  | 0, i, _, hi, _ => absurd hi (Nat.not_lt_zero _)
  | n + 1, i + 1, f, hi, h => by
    rw [Dt_succ]
    refine sumTo_null (n + 1) fun j hj => ?_
    rw [Dt_row_eq n i (f := mnr f j) (by omega) (fun y hy => h (sk j y) (sk_lt hy)), Int.mul_zero]
  | 1, 0, f, hi, h => by omega
  | n + 2, 0, f, hi, h => by
    rw [Dt_succ]
    -- the summand for the columns a of row 0 and b of row 1
    have key : ∀ a, a < n + 2 → sg a * f 0 a * Dt (n + 1) (mnr f a) = sumTo (fun b => if b = a then 0 else sg a * f 0 a * ((if b < a then sg b else sg (b - 1)) * f 0 b * Dt n (mnr (mnr f a) (if b < a then b else b - 1)))) (n + 2) := fun a ha => by
      rw [← sumTo_skip (g := fun b => sg a * f 0 a * ((if b < a then sg b else sg (b - 1)) * f 0 b * Dt n (mnr (mnr f a) (if b < a then b else b - 1)))) (n + 1) ha, Dt_succ, ← sumTo_mul']
      refine sumTo_congr (n + 1) fun k hk => ?_
      have e0 : mnr f a 0 k = f 0 (sk a k) := (h (sk a k) (sk_lt hk)).symm
      have e1 : (if sk a k < a then sk a k else sk a k - 1) = k := by
        unfold sk
        repeat' split
        all_goals omega
      have e2 : (if sk a k < a then sg (sk a k) else sg (sk a k - 1)) = sg k := by
        by_cases hka : k < a
        · have : sk a k = k := by unfold sk; rw [if_pos hka]
          rw [this, if_pos hka]
        · have : sk a k = k + 1 := by unfold sk; rw [if_neg hka]
          rw [this, if_neg (by omega), Nat.add_sub_cancel]
      rw [e0, e1, e2]
    rw [sumTo_congr (n + 2) key]
    refine sumTo_anti (n + 2) fun a b ha hb => ?_
    by_cases e : b = a
    · subst e; rw [if_pos rfl]; rfl
    · rw [if_neg e, if_neg (show ¬ a = b from fun e2 => e e2.symm)]
      by_cases hlt : b < a
      · rw [if_pos hlt, if_pos hlt, if_neg (show ¬ a < b by omega), if_neg (show ¬ a < b by omega), mnr_two hlt]
        have : sg a = -sg (a - 1) := by
          have := sg_succ (a - 1)
          rwa [Nat.sub_add_cancel (by omega)] at this
        rw [this]
        grind
      · have hlt2 : a < b := by omega
        rw [if_neg hlt, if_neg hlt, if_pos hlt2, if_pos hlt2, mnr_two hlt2]
        have : sg b = -sg (b - 1) := by
          have := sg_succ (b - 1)
          rwa [Nat.sub_add_cancel (by omega)] at this
        rw [this]
        grind
/-- Linear in each row, zero where two rows beside each other are equal. -/
structure Alt (n : Nat) (F : Fn2 → Int) : Prop where
  congr : ∀ (f g : Fn2), EqM n n f g → F f = F g
  lin : ∀ (i : Nat) (t : Int) (f g h : Fn2), i < n → (∀ y, y < n → f i y = g i y + h i y * t) → (∀ x y, x < n → y < n → x ≠ i → f x y = g x y ∧ f x y = h x y) → F f = F g + F h * t
  alt : ∀ (i : Nat) (f : Fn2), i + 1 < n → (∀ y, y < n → f i y = f (i + 1) y) → F f = 0
theorem Dt_alt (n : Nat) : Alt n (Dt n) :=
  ⟨fun f g h => Dt_congr n h, fun i t f g h hi h1 h2 => Dt_row n i t hi h1 h2, fun i f hi h => Dt_row_eq n i hi h⟩
theorem Dt_altC (n : Nat) : Alt n (fun f => Dt n (fun a b => f b a)) :=
  ⟨fun f g h => Dt_congr n fun a b ha hb => h b a hb ha, fun i t f g h hi h1 h2 => Dt_col n i t hi (fun x hx => h1 x hx) (fun x y hx hy hne => h2 y x hy hx hne), fun i f hi h => Dt_col_eq n i hi fun x hx => h x hx⟩
/-- Rows i and j anew. -/
def rw2 (f : Fn2) (i j : Nat) (a b : Nat → Int) : Fn2 := fun x y => if x = i then a y else if x = j then b y else f x y
section
variable {n : Nat} {F : Fn2 → Int}
/-- The exchange of two rows, if equal ones give zero there. -/
theorem Alt.turn (H : Alt n F) {i j : Nat} (hi : i < n) (hj : j < n) (hij : i ≠ j) (hz : ∀ f : Fn2, (∀ y, y < n → f i y = f j y) → F f = 0) (f : Fn2) (a b : Nat → Int) : F (rw2 f i j b a) = -F (rw2 f i j a b) := by
  have hji : j ≠ i := fun e => hij e.symm
  have z : ∀ c, F (rw2 f i j c c) = 0 := fun c => hz _ fun y _ => by unfold rw2; rw [if_pos rfl, if_neg hji, if_pos rfl]
  have l1 : ∀ c, F (rw2 f i j (fun y => a y + b y) c) = F (rw2 f i j a c) + F (rw2 f i j b c) := fun c => by
    have := H.lin i 1 (rw2 f i j (fun y => a y + b y) c) (rw2 f i j a c) (rw2 f i j b c) hi (fun y _ => by unfold rw2; rw [if_pos rfl, if_pos rfl, if_pos rfl, Int.mul_one]) (fun x y _ _ hne => by unfold rw2; rw [if_neg hne, if_neg hne, if_neg hne]; exact ⟨rfl, rfl⟩)
    rw [this, Int.mul_one]
  have l2 : ∀ c, F (rw2 f i j c (fun y => a y + b y)) = F (rw2 f i j c a) + F (rw2 f i j c b) := fun c => by
    have := H.lin j 1 (rw2 f i j c (fun y => a y + b y)) (rw2 f i j c a) (rw2 f i j c b) hj (fun y _ => by unfold rw2; rw [if_neg hji, if_pos rfl, if_neg hji, if_pos rfl, if_neg hji, if_pos rfl, Int.mul_one]) (fun x y _ _ hne => by unfold rw2; rw [if_neg hne, if_neg hne, if_neg hne]; exact ⟨rfl, rfl⟩)
    rw [this, Int.mul_one]
  have h0 := z (fun y => a y + b y)
  rw [l1, l2, l2, z, z] at h0
  omega
theorem rw2_self (f : Fn2) (i j : Nat) : rw2 f i j (f i) (f j) = f := by
  funext x y
  unfold rw2
  split
  · rename_i h; rw [h]
  · split
    · rename_i h; rw [h]
    · rfl
theorem rw2_swap (f : Fn2) {i j : Nat} : rw2 f i j (f j) (f i) = swF f i j := by
  funext x y
  unfold rw2 swF
  split
  · rfl
  · split
    · rfl
    · rfl
theorem Alt.adj (H : Alt n F) {i : Nat} (hi : i + 1 < n) (f : Fn2) : F (swF f i (i + 1)) = -F f := by
  have := H.turn (i := i) (j := i + 1) (by omega) hi (by omega) (fun f h => H.alt i f hi h) f (f i) (f (i + 1))
  rw [rw2_self, rw2_swap] at this
  exact this
/-- Zero where two rows are equal. -/
theorem Alt.same_lt (H : Alt n F) : ∀ (d i : Nat) (f : Fn2), i + d + 1 < n → (∀ y, y < n → f i y = f (i + d + 1) y) → F f = 0
  | 0, i, f, hi, h => H.alt i f hi h
  | d + 1, i, f, hi, h => by
    have h1 := H.adj (i := i + d + 1) (by omega) f
    have h2 : F (swF f (i + d + 1) (i + d + 1 + 1)) = 0 := H.same_lt d i _ (by omega) fun y hy => by
      have e1 : swF f (i + d + 1) (i + d + 1 + 1) i y = f i y := by unfold swF; rw [if_neg (by omega), if_neg (by omega)]
      have e2 : swF f (i + d + 1) (i + d + 1 + 1) (i + d + 1) y = f (i + d + 1 + 1) y := by unfold swF; rw [if_pos rfl]
      rw [e1, e2]
      exact h y hy
    rw [h2] at h1
    omega
theorem Alt.same (H : Alt n F) {i j : Nat} (hi : i < n) (hj : j < n) (hij : i ≠ j) (f : Fn2) (h : ∀ y, y < n → f i y = f j y) : F f = 0 := by
  rcases Nat.lt_or_ge i j with hlt | hge
  · exact H.same_lt (j - i - 1) i f (by omega) (by rw [show i + (j - i - 1) + 1 = j by omega]; exact h)
  · exact H.same_lt (i - j - 1) j f (by omega) (by rw [show j + (i - j - 1) + 1 = i by omega]; exact fun y hy => (h y hy).symm)
theorem Alt.swap (H : Alt n F) {i j : Nat} (hi : i < n) (hj : j < n) (hij : i ≠ j) (f : Fn2) : F (swF f i j) = -F f := by
  have := H.turn hi hj hij (fun f h => H.same hi hj hij f h) f (f i) (f j)
  rw [rw2_self, rw2_swap] at this
  exact this
/-- A multiple of a row added to another one. -/
theorem Alt.add (H : Alt n F) {i j : Nat} {t : Int} {f g : Fn2} (hi : i < n) (hj : j < n) (hij : i ≠ j) (h1 : ∀ y, y < n → g i y = f i y + f j y * t) (h2 : ∀ x y, x < n → y < n → x ≠ i → g x y = f x y) : F g = F f := by
  have h3 := H.lin i t g f (fun x y => if x = i then f j y else f x y) hi (fun y hy => by
    show g i y = f i y + (if i = i then f j y else f i y) * t
    rw [if_pos rfl]
    exact h1 y hy) (fun x y hx hy hne => ⟨h2 x y hx hy hne, by show g x y = if x = i then f j y else f x y; rw [if_neg hne]; exact h2 x y hx hy hne⟩)
  have h4 : F (fun x y => if x = i then f j y else f x y) = 0 := H.same hi hj hij _ fun y hy => by
    show (if i = i then f j y else f i y) = if j = i then f j y else f j y
    rw [if_pos rfl, if_neg (fun e => hij e.symm)]
  rw [h3, h4, Int.zero_mul, Int.add_zero]
theorem Alt.zero (H : Alt n F) {i : Nat} {f : Fn2} (hi : i < n) (h : ∀ y, y < n → f i y = 0) : F f = 0 := by
  have h3 := H.lin i 1 f f f hi (fun y hy => by rw [h y hy]; rfl) (fun x y hx hy hne => ⟨rfl, rfl⟩)
  omega
theorem Alt.scale (H : Alt n F) {i : Nat} {t : Int} {f g : Fn2} (hi : i < n) (h1 : ∀ y, y < n → g i y = f i y * t) (h2 : ∀ x y, x < n → y < n → x ≠ i → g x y = f x y) : F g = F f * t := by
  have h3 := H.lin i t g (fun x y => if x = i then 0 else f x y) f hi (fun y hy => by
    show g i y = (if i = i then 0 else f i y) + f i y * t
    rw [if_pos rfl, h1 y hy, Int.zero_add]) (fun x y hx hy hne => ⟨by show g x y = if x = i then 0 else f x y; rw [if_neg hne]; exact h2 x y hx hy hne, h2 x y hx hy hne⟩)
  have h4 : F (fun x y => if x = i then 0 else f x y) = 0 := H.zero hi fun y hy => by
    show (if i = i then (0 : Int) else f i y) = 0
    rw [if_pos rfl]
  rw [h3, h4, Int.zero_add]
end
/-- A matrix with zeros below the diagonal: the product of the diagonal. -/
theorem Dt_id : ∀ n, Dt n idF = 1
  | 0 => rfl
  | n + 1 => by
    rw [Dt_succ, sumTo_one (i := 0) (n + 1) (by omega) (fun k hk hne => ?_)]
    · have e : Dt n (mnr idF 0) = Dt n idF := Dt_congr n fun a b ha hb => by
        show idF (a + 1) (sk 0 b) = idF a b
        unfold idF sk
        rw [if_neg (Nat.not_lt_zero _)]
        by_cases h : a = b
        · rw [if_pos h, if_pos (by omega)]
        · rw [if_neg h, if_neg (by omega)]
      rw [e, Dt_id n]
      rfl
    · have : idF 0 k = 0 := by unfold idF; rw [if_neg (fun e => hne e.symm)]
      rw [this]
      grind
end Go.Proofs.Ytacjonkehcamgaa

/-
  DERIVED. RankMod and DeterminantMod of the reference.
-/
namespace Go.Proofs.Ytacjonkehcamgaa
open Go.RowKit
set_option linter.unusedVariables false
set_option linter.unusedSimpArgs false
set_option maxRecDepth 100000 in
set_option maxHeartbeats 2000000 in
theorem spec_DeterminantMod (r c p : Int) (A : Option Addr) (n cap : Nat) (xs : List Int) (w : World) {B : Nat} (h : RI w B A n xs) (hB : B ≤ w.heap.size) (hn : n ≤ 1048576) :
    Calls Try.prog 83 #[.agg #[.int .i64 r, .int .i64 c, .slice A n cap], .int .i64 p] w (BV (.tuple #[.int .i64 (detM r c xs p), .bool (detMB r c xs p)]) w) := by
  have hlx := h.len
  have H2 := Lib.hid (h.more hB)
  clear h
  rcases det_cases r c xs p with ⟨hb, hd⟩ | ⟨hb, hne, hd⟩ | ⟨hb, rfl, hd⟩
  · rw [detM_no hd, hd]
    have HB := Lib.hid hb
    have HX := Lib.hid (redM_no hb)
    clear hb hd hlx
    go_enter Try.func83, Try.ntmps83
    go_wp2_with fail
    refine (spec_ReduceMod r c p A n cap xs _ (B := w.heap.size) (Kr H2.out) Ks hn).mono ?_
    rw [HB.out, HX.out]
    rintro e w1 ⟨A', n', cap', rfl, hown, hb1⟩
    have hsz1 := hb1.size
    simp at hsz1
    go_wp2_with fail
    go_ret2
    exact BV.mk rfl Kw
  · rw [detM_no hd, hd]
    have HB := Lib.hid hb
    have HX := Lib.hid (redOk hb).mx
    clear hb hd hlx
    go_enter Try.func83, Try.ntmps83
    go_wp2_with fail
    refine (spec_ReduceMod r c p A n cap xs _ (B := w.heap.size) (Kr H2.out) Ks hn).mono ?_
    rw [HB.out, HX.out]
    rintro e w1 ⟨A', n', cap', rfl, hown, hb1⟩
    have hsz1 := hb1.size
    simp at hsz1
    have hM : BM w1 w.heap.size r c A n cap := Ka
    obtain ⟨oa, ob, oc, of, ol⟩ := hM.mx
    go_wp2_with fail
    go_ret2
    exact BV.mk rfl Kw
  · have K := redOk hb
    have hv : detM r r xs p = (if ((rmS r r xs p).t : Int) < r then 0 else (rmS r r xs p).d) := by unfold detM; rw [hd]; rfl
    rw [hv, hd]
    have HB := Lib.hid hb
    have HX := Lib.hid K.mx
    have HT := Lib.hid K.tb_
    have HF := Lib.hid K.f0
    have HP := Lib.hid K.pr
    have HR : Hid (runE r.toNat r.toNat p (rmF r xs p) = rmS r r xs p) := Lib.hid rfl
    have hR := K.m.r1
    have ht0 := K.ok.t0
    obtain ⟨R, rfl⟩ := nat_of K.m.r0
    have HLR : Hid ((redL xs p).length ≤ 1048576) := Lib.hid (by simp [redL]; omega)
    clear hb hv K hd hlx
    generalize rmS (R : Int) (R : Int) xs p = X at *
    simp only [Int.toNat_natCast] at HT HF HR ht0
    generalize rmF (R : Int) xs p = f at *
    generalize hvv : (if ((X.t : Nat) : Int) < (R : Int) then 0 else X.d) = V
    have HVV := Lib.hid hvv
    clear hvv
    go_enter Try.func83, Try.ntmps83
    go_wp2_with fail
    refine (spec_ReduceMod R R p A n cap xs _ (B := w.heap.size) (Kr H2.out) Ks hn).mono ?_
    rw [HB.out, HX.out]
    rintro e w1 ⟨A', n', cap', rfl, hown, hb1⟩
    have hsz1 := hb1.size
    simp at hsz1
    have hown1 : OR w1 (w.heap.size + 1) (.slice A' n' cap') (tb R R f) := by
      have := hown
      rw [show (⟨(R : Int), (R : Int), redL xs p⟩ : Mx).xs = redL xs p from rfl, HT.out] at this
      simpa using this
    have hn1 : n' ≤ 1048576 := by have h1 := hown1.lenEq; have h2 := HLR.out; rw [HT.out] at h2; omega
    have hri := hown1.reads
    have hM : BM w1 w.heap.size R R A n cap := Ka
    obtain ⟨oa, ob, oc, of, ol⟩ := hM.mx
    clear hown
    go_wp2_with fail
    refine (spec_l8Eliminate R R R p A' n' cap' f _ (B := w1.heap.size) (Kr hri) Ks hn1 (by omega) (by omega) (Nat.le_refl _) HP.out HF.out).mono ?_
    rw [HR.out]
    rintro e w2 ⟨A2, n2, cap2, P, m2, pc, ps, rfl, hownA, hownP, hps, hb2⟩
    have hsz2 := hb2.size
    simp at hsz2
    have hm2 := hownP.lenEq
    have hm3 : m2 = X.t := by omega
    clear hm2 hps hownA
    subst hm3
    have hM2 : BM w2 w.heap.size R R A n cap := Kb hM
    have hbw : Below w.heap.size w w2 := Kw
    clear oa ob oc of ol hM
    obtain ⟨oa, ob, oc, of, ol⟩ := hM2.mx
    by_cases hlt : X.t < R
    · have HV : Hid (V = 0) := Lib.hid (by rw [← HVV.out, if_pos (by omega)])
      clear HVV
      generalize X.t = XT at *
      go_wp2_with fail
      go_ret2
      refine BV.mk ?_ Kw
      exact vib HV.out.symm rfl
    · have HV : Hid (V = X.d) := Lib.hid (by rw [← HVV.out, if_neg (by omega)])
      clear HVV
      generalize X.t = XT at *
      generalize X.d = XD at *
      go_wp2_with fail
      go_ret2
      refine BV.mk ?_ Kw
      exact vib HV.out.symm rfl
end Go.Proofs.Ytacjonkehcamgaa

/-
  DERIVED. Sums of rows; two matrices whose rows span the same. No program in sight.
-/
namespace Go.Proofs.Ytacjonkehcamgaa
set_option linter.unusedVariables false
/-- v is a sum of rows. -/
def Sp (R C : Nat) (f : Fn2) (v : Nat → Int) : Prop := ∃ c : Nat → Int, ∀ y, y < C → v y = sumTo (fun k => c k * f k y) R
theorem Sp.row {R C : Nat} {f : Fn2} {i : Nat} (hi : i < R) : Sp R C f (f i) := ⟨idF i, fun y hy => by
  rw [sumTo_one (i := i) R hi (fun k hk hne => by unfold idF; rw [if_neg (fun e => hne e.symm), Int.zero_mul])]
  unfold idF; rw [if_pos rfl, Int.one_mul]⟩
theorem Sp.add {R C : Nat} {f : Fn2} {u v z : Nat → Int} {t : Int} (h : Sp R C f u) (h2 : Sp R C f v) (e : ∀ y, y < C → z y = u y + v y * t) : Sp R C f z := by
  obtain ⟨c, hc⟩ := h
  obtain ⟨d, hd⟩ := h2
  refine ⟨fun k => c k + d k * t, fun y hy => ?_⟩
  rw [e y hy, hc y hy, hd y hy, ← sumTo_mul, ← sumTo_add]
  exact sumTo_congr R fun k _ => by grind
theorem Sp.neg {R C : Nat} {f : Fn2} {u z : Nat → Int} (h : Sp R C f u) (e : ∀ y, y < C → z y = -u y) : Sp R C f z := by
  obtain ⟨c, hc⟩ := h
  refine ⟨fun k => -c k, fun y hy => ?_⟩
  rw [e y hy, hc y hy, ← sumTo_neg]
  exact sumTo_congr R fun k _ => by grind
theorem Sp.as {R C : Nat} {f : Fn2} {u z : Nat → Int} (h : Sp R C f u) (e : ∀ y, y < C → z y = u y) : Sp R C f z := by
  obtain ⟨c, hc⟩ := h
  exact ⟨c, fun y hy => by rw [e y hy, hc y hy]⟩
theorem Sp.trans {R R' C : Nat} {f g : Fn2} {v : Nat → Int} (h : Sp R C f v) (k : ∀ i, i < R → Sp R' C g (f i)) : Sp R' C g v := by
  obtain ⟨c, hc⟩ := h
  have hd : ∀ i, ∃ d : Nat → Int, i < R → ∀ y, y < C → f i y = sumTo (fun l => d l * g l y) R' := fun i => by
    by_cases hi : i < R
    · obtain ⟨d, hd⟩ := k i hi
      exact ⟨d, fun _ => hd⟩
    · exact ⟨fun _ => 0, fun h => absurd h hi⟩
  let d : Fn2 := fun i => Classical.choose (hd i)
  have hdd : ∀ i, i < R → ∀ y, y < C → f i y = sumTo (fun l => d i l * g l y) R' := fun i => Classical.choose_spec (hd i)
  refine ⟨fun l => sumTo (fun i => c i * d i l) R, fun y hy => ?_⟩
  rw [hc y hy]
  have e1 : sumTo (fun k => c k * f k y) R = sumTo (fun k => sumTo (fun l => c k * (d k l * g l y)) R') R := sumTo_congr R fun k hk => by
    rw [hdd k hk y hy, sumTo_mul']
  rw [e1, sumTo_swap]
  refine sumTo_congr R' fun l hl => ?_
  rw [← sumTo_mul]
  exact sumTo_congr R fun k hk => by grind
theorem Sp.mm {R n C : Nat} {a f : Fn2} {i : Nat} (hi : i < n) : Sp R C f (mm R a f i) := ⟨a i, fun y _ => rfl⟩
/-- Rows of both span the same. -/
def SPN (R C : Nat) (m f : Fn2) : Prop := (∀ i, i < R → Sp R C m (f i)) ∧ ∀ i, i < R → Sp R C f (m i)
theorem SPN.add {R C i j : Nat} {t : Int} {m f f' : Fn2} (h : SPN R C m f) (hi : i < R) (hj : j < R) (hij : i ≠ j) (h1 : ∀ y, y < C → f' i y = f i y + f j y * t) (h2 : ∀ x y, x < R → y < C → x ≠ i → f' x y = f x y) : SPN R C m f' := by
  have hr : ∀ x, x < R → Sp R C f' (f x) := fun x hx => by
    by_cases e : x = i
    · subst e
      exact Sp.add (t := -t) (Sp.row hi) (Sp.row (i := j) hj) fun y hy => by rw [h1 y hy, h2 j y hj hy (fun e => hij e.symm)]; grind
    · exact (Sp.row hx).as fun y hy => (h2 x y hx hy e).symm
  refine ⟨fun x hx => ?_, fun x hx => (h.2 x hx).trans hr⟩
  by_cases e : x = i
  · subst e
    exact Sp.add (h.1 x hx) (h.1 j hj) h1
  · exact (h.1 x hx).as fun y hy => h2 x y hx hy e
theorem SPN.neg {R C i : Nat} {m f f' : Fn2} (h : SPN R C m f) (hi : i < R) (h1 : ∀ y, y < C → f' i y = -f i y) (h2 : ∀ x y, x < R → y < C → x ≠ i → f' x y = f x y) : SPN R C m f' := by
  have hr : ∀ x, x < R → Sp R C f' (f x) := fun x hx => by
    by_cases e : x = i
    · subst e
      exact Sp.neg (Sp.row hx) fun y hy => by rw [h1 y hy]; omega
    · exact (Sp.row hx).as fun y hy => (h2 x y hx hy e).symm
  refine ⟨fun x hx => ?_, fun x hx => (h.2 x hx).trans hr⟩
  by_cases e : x = i
  · subst e
    exact Sp.neg (h.1 x hx) h1
  · exact (h.1 x hx).as fun y hy => h2 x y hx hy e
theorem SPN.swap {R C i j : Nat} {m f : Fn2} (h : SPN R C m f) (hi : i < R) (hj : j < R) : SPN R C m (swF f i j) := by
  have e1 : ∀ x, ∃ z, (x < R → z < R) ∧ swF f i j x = f z := fun x => ⟨if x = i then j else if x = j then i else x, fun hx => (by (split; exact hj; split; exact hi; exact hx)), rfl⟩
  have e2 : ∀ x, ∃ z, (x < R → z < R) ∧ f x = swF f i j z := fun x => by
    refine ⟨if x = i then j else if x = j then i else x, fun hx => (by (split; exact hj; split; exact hi; exact hx)), ?_⟩
    funext y
    unfold swF
    congr 1
    by_cases a : x = i
    · subst a
      rw [if_pos rfl]
      by_cases b : j = x
      · rw [if_pos b, b]
      · rw [if_neg b, if_pos rfl]
    · rw [if_neg a]
      by_cases b : x = j
      · subst b
        rw [if_pos rfl, if_pos rfl]
      · rw [if_neg b, if_neg a, if_neg b]
  refine ⟨fun x hx => ?_, fun x hx => (h.2 x hx).trans fun k hk => ?_⟩
  · obtain ⟨z, hz, e⟩ := e1 x
    rw [e]; exact h.1 z (hz hx)
  · obtain ⟨z, hz, e⟩ := e2 k
    rw [e]; exact Sp.row (hz hk)
theorem SPN.refl (R C : Nat) (m : Fn2) : SPN R C m m := ⟨fun i hi => Sp.row hi, fun i hi => Sp.row hi⟩
theorem SPN.symm {R C : Nat} {m f : Fn2} (h : SPN R C m f) : SPN R C f m := ⟨h.2, h.1⟩
theorem SPN.trans {R C : Nat} {m f g : Fn2} (h : SPN R C m f) (k : SPN R C f g) : SPN R C m g := ⟨fun i hi => (k.1 i hi).trans h.1, fun i hi => (h.2 i hi).trans k.2⟩
/-- A unimodular matrix times another one: the same rows are spanned. -/
theorem SPN.left {n C : Nat} {u m : Fn2} (h : SPN n n idF u) : SPN n C m (mm n u m) := by
  refine ⟨fun i hi => Sp.mm hi, fun i hi => ?_⟩
  obtain ⟨c, hc⟩ := h.2 i hi
  refine ⟨c, fun y hy => ?_⟩
  have e1 : m i y = sumTo (fun l => idF i l * m l y) n := by
    rw [sumTo_one (i := i) n hi (fun k hk hne => by unfold idF; rw [if_neg (fun e => hne e.symm), Int.zero_mul])]
    unfold idF; rw [if_pos rfl, Int.one_mul]
  rw [e1]
  have e2 : sumTo (fun l => idF i l * m l y) n = sumTo (fun l => sumTo (fun k => c k * (u k l * m l y)) n) n := sumTo_congr n fun l hl => by
    rw [hc l hl, ← sumTo_mul]
    exact sumTo_congr n fun k _ => by grind
  rw [e2, sumTo_swap]
  exact sumTo_congr n fun k hk => by rw [sumTo_mul']; rfl
end Go.Proofs.Ytacjonkehcamgaa

/-
  DERIVED. The inverse over residues: the wide matrix, the part at the right. No program in sight.
-/
namespace Go.Proofs.Ytacjonkehcamgaa
set_option linter.unusedVariables false
/-- f and, at its right, ones in the diagonal. -/
def wideF (n : Nat) (f : Nat → Nat → Int) : Nat → Nat → Int := fun i c => if c < n then f i c else if c = n + i then 1 else 0
/-- The first m rows of it, zeros below. -/
def wK (n : Nat) (f : Nat → Nat → Int) (m : Nat) : Nat → Nat → Int := fun i c => if i < m then wideF n f i c else 0
/-- Row m, too, up to cell k of f. -/
def wR (n : Nat) (f : Nat → Nat → Int) (m k : Nat) : Nat → Nat → Int := fun i c => if i < m then wideF n f i c else if i = m ∧ c < k then f i c else 0
theorem wK_zero (n : Nat) (f : Nat → Nat → Int) : wK n f 0 = fun _ _ => 0 := by funext i c; simp [wK]
theorem wK_end {R C : Nat} (n : Nat) (f : Nat → Nat → Int) : tb R C (wK n f R) = tb R C (wideF n f) := tb_ext fun i c hi hc => by unfold wK; rw [if_pos hi]
theorem wR_zero (n : Nat) (f : Nat → Nat → Int) (m : Nat) : wR n f m 0 = wK n f m := by funext i c; unfold wR wK; grind
theorem wR_step {n : Nat} {f : Nat → Nat → Int} {m k : Nat} : upd (wR n f m k) m k (f m k) = wR n f m (k + 1) := by funext i c; unfold upd wR; grind
theorem wR_end {n : Nat} {f : Nat → Nat → Int} {m : Nat} : upd (wR n f m n) m (n + m) 1 = wK n f (m + 1) := by funext i c; unfold upd wR wK wideF; grind
theorem wR_row {n D m : Nat} {f : Nat → Nat → Int} (hm : m < n) (hD : n ≤ D) : splL (tb n D (wK n f m)) (m * D) (rowL (tb n n f) n m) = tb n D (wR n f m n) := by
  have hl : m * n + n ≤ n * n := by
    have h3 := Nat.mul_le_mul_right n (show m + 1 ≤ n by omega); rw [Nat.add_mul, Nat.one_mul] at h3; exact h3
  have hlen : (rowL (tb n n f) n m).length = n := rowL_len (by rw [tb_len]; exact hl)
  have := spl_tbo (R := n) (C := D) (i := m) (o := 0) (f := wK n f m) (ys := rowL (tb n n f) n m) hm (by omega)
  rw [Nat.add_zero] at this
  rw [this]
  apply tb_ext
  intro i c hi hc
  unfold setW wR
  by_cases h : i = m ∧ c < n
  · obtain ⟨rfl, h2⟩ := h
    rw [if_pos (by omega), if_neg (by omega), if_pos ⟨rfl, h2⟩, Nat.sub_zero, rowL_getD h2, cel_tb hi h2]
  · rw [if_neg (by omega)]
    unfold wK
    grind
/-- The first m rows of g, from column n on; zeros below. -/
def oK (n : Nat) (g : Nat → Nat → Int) (m : Nat) : Nat → Nat → Int := fun i c => if i < m then g i (n + c) else 0
def oR (n : Nat) (g : Nat → Nat → Int) (m k : Nat) : Nat → Nat → Int := fun i c => if i < m ∨ i = m ∧ c < k then g i (n + c) else 0
theorem oK_zero (n : Nat) (g : Nat → Nat → Int) : oK n g 0 = fun _ _ => 0 := by funext i c; simp [oK]
theorem oK_end {R C : Nat} (n : Nat) (g : Nat → Nat → Int) : tb R C (oK n g R) = tb R C (fun i c => g i (n + c)) := tb_ext fun i c hi hc => by unfold oK; rw [if_pos hi]
theorem oR_zero (n : Nat) (g : Nat → Nat → Int) (m : Nat) : oR n g m 0 = oK n g m := by funext i c; unfold oR oK; grind
theorem oR_step {n : Nat} {g : Nat → Nat → Int} {m k : Nat} : upd (oR n g m k) m k (g m (n + k)) = oR n g m (k + 1) := by funext i c; unfold upd oR; grind
theorem oR_end {R n : Nat} {g : Nat → Nat → Int} {m : Nat} : tb R n (oR n g m n) = tb R n (oK n g (m + 1)) := tb_ext fun i c hi hc => by unfold oR oK; grind
theorem oK_row {n D m : Nat} {g : Nat → Nat → Int} (hm : m < n) (hD : n + n ≤ D) : splL (tb n n (oK n g m)) (m * n) (winL (tb n D g) (m * D + n) n) = tb n n (oK n g (m + 1)) := by
  have hl : m * D + D ≤ n * D := by
    have h3 := Nat.mul_le_mul_right D (show m + 1 ≤ n by omega); rw [Nat.add_mul, Nat.one_mul] at h3; exact h3
  have hlen : (winL (tb n D g) (m * D + n) n).length = n := winL_len (by rw [tb_len]; omega)
  rw [spl_tb hm hlen]
  apply tb_ext
  intro i c hi hc
  unfold setR oK
  by_cases h : i = m
  · subst h
    rw [if_pos rfl, if_pos (by omega), winL_getD hc, Nat.add_assoc, tb_at hi (by omega)]
  · rw [if_neg h]
    grind
/-- Whether there is something to invert. -/
def imOk (r c : Int) (xs : List Int) (p : Int) : Bool := redB r c xs p && decide (r = c) && decide (r ≤ 12)
def imS (r c : Int) (xs : List Int) (p : Int) : ESt := runE r.toNat r.toNat p (wideF r.toNat (rmF c xs p))
def imB (r c : Int) (xs : List Int) (p : Int) : Bool := imOk r c xs p && decide (r ≤ (imS r c xs p).t)
def imM (r c : Int) (xs : List Int) (p : Int) : Mx := if imB r c xs p then ⟨r, r, tb r.toNat r.toNat (fun i j => (imS r c xs p).f i (r.toNat + j))⟩ else .none
theorem im_cases (r c : Int) (xs : List Int) (p : Int) : (redB r c xs p = false ∧ imB r c xs p = false) ∨ (redB r c xs p = true ∧ (r != c) = true ∧ imB r c xs p = false) ∨ (redB r c xs p = true ∧ r = c ∧ 12 < r ∧ imB r c xs p = false) ∨
    (redB r c xs p = true ∧ r = c ∧ r ≤ 12 ∧ imB r c xs p = decide (r ≤ (imS r c xs p).t)) := by
  unfold imB imOk
  rcases redB r c xs p with _ | _
  · left; simp
  · right
    by_cases h : r = c
    · right
      by_cases h2 : r ≤ 12
      · right; exact ⟨rfl, h, h2, by simp [h, show c ≤ 12 by omega]⟩
      · left; exact ⟨rfl, h, by omega, by simp [h, show ¬ c ≤ 12 by omega]⟩
    · left; simp [h]
theorem imM_no {r c : Int} {xs : List Int} {p : Int} (h : imB r c xs p = false) : imM r c xs p = .none := by unfold imM; rw [h]; rfl
theorem imM_yes {r c : Int} {xs : List Int} {p : Int} (h : imB r c xs p = true) : imM r c xs p = ⟨r, r, tb r.toNat r.toNat (fun i j => (imS r c xs p).f i (r.toNat + j))⟩ := by unfold imM; rw [h]; rfl
theorem imM_len (r c : Int) (xs : List Int) (p : Int) : (imM r c xs p).xs.length ≤ 1048576 := by
  rcases im_cases r c xs p with ⟨_, hi⟩ | ⟨_, _, hi⟩ | ⟨_, _, _, hi⟩ | ⟨hb, _, h12, hi⟩
  iterate 3
    · rw [imM_no hi]; exact Nat.zero_le _
  · rcases hv : imB r c xs p with _ | _
    · rw [imM_no hv]; exact Nat.zero_le _
    · rw [imM_yes hv]
      have h1 := (redOk hb).m.r0
      obtain ⟨R, rfl⟩ := nat_of h1
      have : R * R ≤ 12 * 12 := Nat.mul_le_mul (by omega) (by omega)
      simp only [Int.toNat_natCast, tb_len]
      omega
theorem wideF_bd {n : Nat} {f : Nat → Nat → Int} {p : Int} (hp : 2 ≤ p) (hf : ∀ i c : Nat, 0 ≤ f i c ∧ f i c < p) (i c : Nat) : 0 ≤ wideF n f i c ∧ wideF n f i c < p := by
  unfold wideF
  split
  · exact hf i c
  · split <;> omega
end Go.Proofs.Ytacjonkehcamgaa

/-
  DERIVED. More unknowns than equations have a solution that is not all zeros; how many rows can be independent. No program in sight.
-/
namespace Go.Proofs.Ytacjonkehcamgaa
set_option linter.unusedVariables false
/-- The place that sk leaves out is put back. -/
def unsk (c : Nat) (v : Int) (z : Nat → Int) (j : Nat) : Int := if j < c then z j else if j = c then v else z (j - 1)
theorem unsk_sk (c : Nat) (v : Int) (z : Nat → Int) (k : Nat) : unsk c v z (sk c k) = z k := by
  unfold unsk sk
  by_cases h : k < c
  · rw [if_pos h, if_pos h]
  · rw [if_neg h, if_neg (by omega), if_neg (by omega), Nat.add_sub_cancel]
theorem unsk_at (c : Nat) (v : Int) (z : Nat → Int) : unsk c v z c = v := by
  unfold unsk
  rw [if_neg (Nat.lt_irrefl _), if_pos rfl]
/-- A sum with one place set apart. -/
theorem sumTo_out {g : Nat → Int} {c n : Nat} (hc : c < n + 1) : sumTo g (n + 1) = g c + sumTo (fun k => g (sk c k)) n := by
  rw [sumTo_skip n hc]
  have h1 : sumTo g (n + 1) = sumTo (fun b => (if b = c then g c else 0) + (if b = c then 0 else g b)) (n + 1) := sumTo_congr (n + 1) fun k _ => by
    by_cases h : k = c
    · rw [if_pos h, if_pos h, h, Int.add_zero]
    · rw [if_neg h, if_neg h, Int.zero_add]
  rw [h1, sumTo_add, sumTo_one (i := c) (n + 1) hc (fun k _ hne => if_neg hne), if_pos rfl]
/-- More unknowns than equations. -/
theorem sys_zero : ∀ (m : Nat) (f : Fn2), ∃ z : Nat → Int, (∃ k, k < m + 1 ∧ z k ≠ 0) ∧ ∀ i, i < m → mv (m + 1) f z i = 0
  | 0, f => ⟨fun _ => 1, ⟨0, by omega, by decide⟩, fun i hi => absurd hi (Nat.not_lt_zero _)⟩
  | m + 1, f => by
    by_cases hp : ∃ c, c < m + 2 ∧ f 0 c ≠ 0
    · obtain ⟨c, hc, hne⟩ := hp
      obtain ⟨z, ⟨k, hk, hkz⟩, hz⟩ := sys_zero m fun i j => f 0 c * f (i + 1) (sk c j) - f (i + 1) c * f 0 (sk c j)
      refine ⟨unsk c (-sumTo (fun k => f 0 (sk c k) * z k) (m + 1)) fun k => f 0 c * z k, ⟨sk c k, sk_lt hk, ?_⟩, fun i hi => ?_⟩
      · rw [unsk_sk]
        exact Int.mul_ne_zero hne hkz
      · unfold mv
        rw [sumTo_out (n := m + 1) hc, unsk_at]
        have e1 : sumTo (fun k => f i (sk c k) * unsk c (-sumTo (fun k => f 0 (sk c k) * z k) (m + 1)) (fun k => f 0 c * z k) (sk c k)) (m + 1) = sumTo (fun k => f 0 c * (f i (sk c k) * z k)) (m + 1) := sumTo_congr (m + 1) fun k _ => by
          rw [unsk_sk]; grind
        rw [e1, sumTo_mul']
        rcases Nat.eq_zero_or_pos i with h0 | h0
        · subst h0
          grind
        · obtain ⟨i', rfl⟩ : ∃ i', i = i' + 1 := ⟨i - 1, by omega⟩
          have h2 := hz i' (by omega)
          unfold mv at h2
          have e2 : sumTo (fun k => (f 0 c * f (i' + 1) (sk c k) - f (i' + 1) c * f 0 (sk c k)) * z k) (m + 1) = f 0 c * sumTo (fun k => f (i' + 1) (sk c k) * z k) (m + 1) - f (i' + 1) c * sumTo (fun k => f 0 (sk c k) * z k) (m + 1) := by
            rw [← sumTo_mul', ← sumTo_mul', ← sumTo_sub]
            exact sumTo_congr (m + 1) fun k _ => by grind
          rw [e2] at h2
          grind
    · have h0 : ∀ c, c < m + 2 → f 0 c = 0 := fun c hc => Decidable.byContradiction fun hne => hp ⟨c, hc, hne⟩
      obtain ⟨z, ⟨k, hk, hkz⟩, hz⟩ := sys_zero m fun i j => f (i + 1) j
      refine ⟨fun j => if j < m + 1 then z j else 0, ⟨k, by omega, by show (if _ then _ else _) ≠ _; rw [if_pos hk]; exact hkz⟩, fun i hi => ?_⟩
      show sumTo (fun k => f i k * (if k < m + 1 then z k else 0)) (m + 1 + 1) = 0
      rw [sumTo_succ, if_neg (by omega), Int.mul_zero, Int.add_zero]
      have e1 : sumTo (fun k => f i k * (if k < m + 1 then z k else 0)) (m + 1) = sumTo (fun k => f i k * z k) (m + 1) := sumTo_congr (m + 1) fun k hk => by rw [if_pos hk]
      rw [e1]
      rcases Nat.eq_zero_or_pos i with hi0 | hi0
      · subst hi0
        exact sumTo_null (m + 1) fun k hk => by rw [h0 k (by omega), Int.zero_mul]
      · obtain ⟨i', rfl⟩ : ∃ i', i = i' + 1 := ⟨i - 1, by omega⟩
        exact hz i' (by omega)
/-- The first n rows of C cells are independent. -/
def Ind (n C : Nat) (v : Fn2) : Prop := ∀ z : Nat → Int, (∀ y, y < C → sumTo (fun k => z k * v k y) n = 0) → ∀ k, k < n → z k = 0
/-- Each of the first n rows of v, some times, is a sum of the first m rows of u. -/
def Span (n m C : Nat) (v u : Fn2) : Prop := ∀ i, i < n → ∃ (d : Int) (c : Nat → Int), d ≠ 0 ∧ ∀ y, y < C → d * v i y = sumTo (fun k => c k * u k y) m
theorem Ind.take {n m C : Nat} {v : Fn2} (h : Ind n C v) (hm : m ≤ n) : Ind m C v := fun z hz k hk => by
  have hs : ∀ y (q : Nat), m ≤ q → sumTo (fun k => (if k < m then z k else 0) * v k y) q = sumTo (fun k => z k * v k y) m := fun y q => by
    induction q with
    | zero => intro hq; obtain rfl : m = 0 := by omega
              rfl
    | succ q ih =>
      intro hq
      by_cases e : m = q + 1
      · subst e
        exact sumTo_congr (q + 1) fun k hk => by rw [if_pos hk]
      · rw [sumTo_succ, ih (by omega), if_neg (by omega), Int.zero_mul, Int.add_zero]
  have := h (fun k => if k < m then z k else 0) (fun y hy => by rw [hs y n hm]; exact hz y hy) k (by omega)
  simpa [hk] using this
/-- There are no more independent rows than rows that they are sums of. -/
theorem Ind.le {n m C : Nat} {v u : Fn2} (hi : Ind n C v) (hs : Span n m C v u) : n ≤ m := by
  refine Nat.le_of_not_lt fun hlt => ?_
  have hi' := hi.take (show m + 1 ≤ n by omega)
  have hch : ∀ i, ∃ (d : Int) (c : Nat → Int), i < m + 1 → d ≠ 0 ∧ ∀ y, y < C → d * v i y = sumTo (fun k => c k * u k y) m := fun i => by
    by_cases h : i < m + 1
    · obtain ⟨d, c, h1, h2⟩ := hs i (by omega)
      exact ⟨d, c, fun _ => ⟨h1, h2⟩⟩
    · exact ⟨0, fun _ => 0, fun h2 => absurd h2 h⟩
  obtain ⟨d, hd⟩ := Classical.axiomOfChoice hch
  obtain ⟨c, hc⟩ := Classical.axiomOfChoice hd
  obtain ⟨z, ⟨k, hk, hkz⟩, hz⟩ := sys_zero m fun k i => c i k
  have h0 := hi' (fun i => z i * d i) (fun y hy => by
    have e1 : sumTo (fun i => z i * d i * v i y) (m + 1) = sumTo (fun i => sumTo (fun k => z i * c i k * u k y) m) (m + 1) := sumTo_congr (m + 1) fun i hi => by
      rw [Int.mul_assoc, (hc i hi).2 y hy, ← sumTo_mul']
      exact sumTo_congr m fun k _ => by rw [Int.mul_assoc]
    rw [e1, sumTo_swap]
    refine sumTo_null m fun k hk => ?_
    have e2 : sumTo (fun i => z i * c i k * u k y) (m + 1) = sumTo (fun i => c i k * z i) (m + 1) * u k y := by
      rw [← sumTo_mul]
      exact sumTo_congr (m + 1) fun i _ => by grind
    rw [e2]
    have := hz k hk
    unfold mv at this
    rw [this, Int.zero_mul]) k hk
  exact (Int.mul_ne_zero hkz (hc k hk).1) h0
end Go.Proofs.Ytacjonkehcamgaa

/-
  DERIVED. The echelon form with primitive rows: its shape, what its rows span, that two of one space are equal. No program in sight.
-/
namespace Go.Proofs.Ytacjonkehcamgaa
set_option linter.unusedVariables false
/-- Some multiple of v is a sum of rows. -/
def QS (R C : Nat) (f : Fn2) (v : Nat → Int) : Prop := ∃ (d : Int) (c : Nat → Int), d ≠ 0 ∧ ∀ y, y < C → d * v y = sumTo (fun k => c k * f k y) R
section
variable {R S C r s : Nat} {p q : Nat → Nat} {f g : Fn2} {u v z : Nat → Int}
theorem QS.row {i : Nat} (hi : i < R) : QS R C f (f i) := ⟨1, idF i, by decide, fun y hy => by
  rw [sumTo_one (i := i) R hi (fun k hk hne => by unfold idF; rw [if_neg (fun e => hne e.symm), Int.zero_mul])]
  unfold idF; rw [if_pos rfl]⟩
/-- a u + b v, divided by d. -/
theorem QS.lin (h : QS R C f u) (h2 : QS R C f v) {a b d : Int} (hd : d ≠ 0) (e : ∀ y, y < C → d * z y = a * u y + b * v y) : QS R C f z := by
  obtain ⟨d1, c1, h1, hc1⟩ := h
  obtain ⟨d2, c2, h2, hc2⟩ := h2
  refine ⟨d1 * d2 * d, fun k => a * d2 * c1 k + b * d1 * c2 k, Int.mul_ne_zero (Int.mul_ne_zero h1 h2) hd, fun y hy => ?_⟩
  have e1 : sumTo (fun k => (a * d2 * c1 k + b * d1 * c2 k) * f k y) R = a * d2 * sumTo (fun k => c1 k * f k y) R + b * d1 * sumTo (fun k => c2 k * f k y) R := by
    rw [← sumTo_mul', ← sumTo_mul', ← sumTo_add]
    exact sumTo_congr R fun k _ => by grind
  rw [e1, ← hc1 y hy, ← hc2 y hy, show d1 * d2 * d * z y = d1 * d2 * (d * z y) by grind, e y hy]
  grind
theorem QS.zero (h : ∀ y, y < C → v y = 0) : QS R C f v := ⟨1, fun _ => 0, by decide, fun y hy => by
  rw [h y hy, sumTo_null R fun k _ => Int.zero_mul _]; rfl⟩
theorem QS.as {d : Int} (h : QS R C f u) (hd : d ≠ 0) (e : ∀ y, y < C → d * z y = u y) : QS R C f z :=
  h.lin h (a := 1) (b := 0) hd fun y hy => by rw [e y hy]; omega
theorem QS.sum {c : Nat → Int} {g : Fn2} : ∀ n, (∀ k, k < n → QS R C f (g k)) → QS R C f (fun y => sumTo (fun k => c k * g k y) n)
  | 0, _ => QS.zero fun _ _ => rfl
  | n + 1, h => (QS.sum (c := c) n fun k hk => h k (by omega)).lin (h n (by omega)) (a := 1) (b := c n) (d := 1) (by decide) fun y _ => by rw [sumTo_succ]; omega
theorem QS.trans (h : QS S C g v) (k : ∀ i, i < S → QS R C f (g i)) : QS R C f v := by
  obtain ⟨d, c, hd, hc⟩ := h
  exact (QS.sum (c := c) S k).as hd hc
/-- The rows of f and of g span one space. -/
def QSP (R S C : Nat) (f g : Fn2) : Prop := (∀ i, i < R → QS S C g (f i)) ∧ ∀ i, i < S → QS R C f (g i)
theorem QSP.refl (R C : Nat) (f : Fn2) : QSP R R C f f := ⟨fun i hi => QS.row hi, fun i hi => QS.row hi⟩
theorem QSP.symm (h : QSP R S C f g) : QSP S R C g f := ⟨h.2, h.1⟩
theorem QSP.trans {T : Nat} {h : Fn2} (a : QSP R S C f g) (b : QSP S T C g h) : QSP R T C f h := ⟨fun i hi => (a.1 i hi).trans b.1, fun i hi => (b.2 i hi).trans a.2⟩
theorem QSP.swap {i j : Nat} (hi : i < R) (hj : j < R) : QSP R R C f (swF f i j) := by
  have hx : ∀ x, x < R → (if x = i then j else if x = j then i else x) < R := fun x hx => by split; exact hj; split; exact hi; exact hx
  refine ⟨fun x hx' => ?_, fun x hx' => QS.row (f := f) (hx x hx')⟩
  have e : f x = swF f i j (if x = i then j else if x = j then i else x) := by
    funext y
    unfold swF
    grind
  rw [e]
  exact QS.row (hx x hx')
/-- Row i was turned into a multiple of itself and of row t, divided. -/
structure CMB (C : Nat) (f f' : Fn2) (i t : Nat) (d a b : Int) : Prop where
  d0 : d ≠ 0
  a0 : a ≠ 0
  at_ : ∀ c, c < C → d * f' i c = a * f i c + b * f t c
  other : ∀ x, x ≠ i → f' x = f x
theorem CMB.span {f' : Fn2} {i t : Nat} {d a b : Int} (h : CMB C f f' i t d a b) (hi : i < R) (ht : t < R) (hit : i ≠ t) : QSP R R C f f' := by
  have hT : QS R C f' (f t) := by rw [← h.other t (fun e => hit e.symm)]; exact QS.row ht
  refine ⟨fun x hx => ?_, fun x hx => ?_⟩
  · by_cases e : x = i
    · subst e
      exact (QS.row (f := f') hx).lin hT (a := d) (b := -b) h.a0 fun y hy => by rw [h.at_ y hy]; grind
    · rw [← h.other x e]; exact QS.row hx
  · by_cases e : x = i
    · subst e
      exact (QS.row (f := f) hx).lin (QS.row ht) h.d0 fun y hy => h.at_ y hy
    · rw [h.other x e]; exact QS.row hx
/-- Echelon form with the pivots p 0 .. p (r - 1), as far as C columns. -/
structure EF (R C r : Nat) (p : Nat → Nat) (f : Fn2) : Prop where
  le : r ≤ R
  lt : ∀ i, i < r → p i < C
  mono : ∀ i k, i < k → k < r → p i < p k
  left : ∀ i y, i < r → y < p i → f i y = 0
  ne : ∀ i, i < r → f i (p i) ≠ 0
  oth : ∀ i k, i < r → k < R → k ≠ i → f k (p i) = 0
  zero : ∀ i y, r ≤ i → i < R → y < C → f i y = 0
theorem EF.congr (H : EF R C r p f) (e : EqM R C g f) : EF R C r p g where
  le := H.le
  lt := H.lt
  mono := H.mono
  left := fun i y hi hy => by rw [e i y (Nat.lt_of_lt_of_le hi H.le) (Nat.lt_trans hy (H.lt i hi))]; exact H.left i y hi hy
  ne := fun i hi => by rw [e i (p i) (Nat.lt_of_lt_of_le hi H.le) (H.lt i hi)]; exact H.ne i hi
  oth := fun i k hi hk hne => by rw [e k (p i) hk (H.lt i hi)]; exact H.oth i k hi hk hne
  zero := fun i y h1 h2 h3 => by rw [e i y h2 h3]; exact H.zero i y h1 h2 h3
theorem EF.piv (H : EF R C r p f) (e : ∀ i, i < r → q i = p i) : EF R C r q f where
  le := H.le
  lt := fun i hi => by rw [e i hi]; exact H.lt i hi
  mono := fun i k hik hk => by rw [e i (by omega), e k hk]; exact H.mono i k hik hk
  left := fun i y hi hy => H.left i y hi (by rw [← e i hi]; exact hy)
  ne := fun i hi => by rw [e i hi]; exact H.ne i hi
  oth := fun i k hi hk hne => by rw [e i hi]; exact H.oth i k hi hk hne
  zero := H.zero
/-- The value at a pivot of a sum of rows. -/
theorem EF.at_ (H : EF R C r p f) {c : Nat → Int} {i : Nat} (hi : i < r) : sumTo (fun k => c k * f k (p i)) R = c i * f i (p i) :=
  sumTo_one R (Nat.lt_of_lt_of_le hi H.le) fun k hk hne => by rw [H.oth i k hi hk hne, Int.mul_zero]
/-- Where a vector of the space is 0 at a pivot, the coefficient is 0. -/
theorem EF.coef (H : EF R C r p f) {c : Nat → Int} {d : Int} (hv : ∀ y, y < C → d * v y = sumTo (fun k => c k * f k y) R) {i : Nat} (hi : i < r) (h0 : v (p i) = 0) : c i = 0 := by
  have := hv _ (H.lt i hi)
  rw [H.at_ hi, h0, Int.mul_zero] at this
  rcases Int.mul_eq_zero.1 this.symm with h | h
  · exact h
  · exact absurd h (H.ne i hi)
theorem EF.ind (H : EF R C r p f) : Ind r C f := fun z hz k hk => by
  have h1 := hz _ (H.lt k hk)
  rw [sumTo_one r hk (fun i hi hne => by rw [H.oth k i hk (Nat.lt_of_lt_of_le hi H.le) hne, Int.mul_zero])] at h1
  rcases Int.mul_eq_zero.1 h1 with h | h
  · exact h
  · exact absurd h (H.ne k hk)
theorem EF.next (H : EF R C r p f) (K : EF S C s q g) (hf : ∀ i, i < R → QS S C g (f i)) {i : Nat} (hi : i < r) (hs : i ≤ s) (hpq : ∀ k, k < i → p k = q k) : i < s ∧ q i ≤ p i := by
  have hiR := Nat.lt_of_lt_of_le hi H.le
  obtain ⟨d, c, hd, hc⟩ := hf i hiR
  have h0 : ∀ k, k < i → c k = 0 := fun k hk => K.coef hc (show k < s by omega) (by rw [← hpq k hk]; exact H.oth k i (by omega) hiR (by omega))
  have hz : ∀ y, y < C → (∀ k, k < S → i ≤ k → g k y = 0) → f i y = 0 := fun y hy h => by
    have e := hc y hy
    rw [sumTo_null S fun k hk => by
      rcases Nat.lt_or_ge k i with h1 | h1
      · rw [h0 k h1, Int.zero_mul]
      · rw [h k hk h1, Int.mul_zero]] at e
    rcases Int.mul_eq_zero.1 e with h1 | h1
    · exact absurd h1 hd
    · exact h1
  have his : i < s := by
    refine Nat.lt_of_not_le fun h => H.ne i hi (hz _ (H.lt i hi) fun k hk hik => K.zero k _ (by omega) hk (H.lt i hi))
  refine ⟨his, Nat.le_of_not_lt fun h => H.ne i hi (hz _ (H.lt i hi) fun k hk hik => ?_)⟩
  rcases Nat.lt_or_ge k s with h1 | h1
  · refine K.left k _ h1 ?_
    rcases Nat.lt_or_ge i k with h2 | h2
    · exact Nat.lt_trans h (K.mono i k h2 h1)
    · obtain rfl : k = i := by omega
      exact h
  · exact K.zero k _ h1 hk (H.lt i hi)
theorem EF.pivs (H : EF R C r p f) (K : EF S C s q g) (h : QSP R S C f g) : ∀ i, i ≤ r → i ≤ s ∧ ∀ k, k < i → p k = q k
  | 0, _ => ⟨Nat.zero_le _, fun k hk => absurd hk (Nat.not_lt_zero _)⟩
  | i + 1, hi => by
    obtain ⟨h1, h2⟩ := EF.pivs H K h i (by omega)
    obtain ⟨h3, h4⟩ := H.next K h.1 (show i < r by omega) h1 h2
    obtain ⟨-, h5⟩ := K.next H h.2 h3 (by omega) (fun k hk => (h2 k hk).symm)
    refine ⟨h3, fun k hk => ?_⟩
    rcases Nat.lt_or_ge k i with h6 | h6
    · exact h2 k h6
    · obtain rfl : k = i := by omega
      omega
/-- Two echelon forms of one space: as many rows, the same pivots, each row a multiple. -/
theorem EF.uniq (H : EF R C r p f) (K : EF S C s q g) (h : QSP R S C f g) : r = s ∧ (∀ k, k < r → p k = q k) ∧ ∀ i, i < r → ∃ d c : Int, d ≠ 0 ∧ c ≠ 0 ∧ ∀ y, y < C → d * f i y = c * g i y := by
  obtain ⟨h1, h2⟩ := H.pivs K h r (Nat.le_refl _)
  obtain ⟨h3, -⟩ := K.pivs H h.symm s (Nat.le_refl _)
  refine ⟨by omega, h2, fun i hi => ?_⟩
  have hiR := Nat.lt_of_lt_of_le hi H.le
  obtain ⟨d, c, hd, hc⟩ := h.1 i hiR
  have h0 : ∀ k, k < s → k ≠ i → c k = 0 := fun k hk hne => K.coef hc hk (by rw [← h2 k (by omega)]; exact H.oth k i (by omega) hiR (fun e => hne e.symm))
  have hv : ∀ y, y < C → d * f i y = c i * g i y := fun y hy => by
    rw [hc y hy]
    refine sumTo_one S (Nat.lt_of_lt_of_le (show i < s by omega) K.le) fun k hk hne => ?_
    rcases Nat.lt_or_ge k s with h4 | h4
    · rw [h0 k h4 hne, Int.zero_mul]
    · rw [K.zero k y h4 hk hy, Int.mul_zero]
  refine ⟨d, c i, hd, fun e => ?_, hv⟩
  have := hv _ (H.lt i hi)
  rw [e, Int.zero_mul] at this
  rcases Int.mul_eq_zero.1 this with h4 | h4
  · exact hd h4
  · exact H.ne i hi h4
end
/-- What divides all multiples divides the multiple of the divisor. -/
theorem gcdF_mul (c d : Int) (l : List Int) : ∀ a : Nat, d ∣ c * a → (∀ x ∈ l, d ∣ c * x) → d ∣ c * (l.foldl (fun (g : Nat) (x : Int) => Int.gcd g x) a : Nat) := by
  induction l with
  | nil => intro a h _; simpa using h
  | cons y l ih =>
    intro a h h2
    refine ih _ ?_ (fun x hx => h2 x (List.mem_cons_of_mem _ hx))
    have h3 : d ∣ (Int.gcd (c * a) (c * y) : Nat) := by
      have := Int.dvd_coe_gcd h (h2 y (List.mem_cons_self ..))
      exact this
    rw [Int.gcd_mul_left] at h3
    have h4 : ((c.natAbs * Int.gcd a y : Nat) : Int) ∣ c * (Int.gcd a y : Nat) := by
      rw [Int.natCast_mul]
      exact Int.mul_dvd_mul (Int.natAbs_dvd.2 (Int.dvd_refl c)) (Int.dvd_refl _)
    exact Int.dvd_trans h3 h4
theorem gcdL_mul {c d : Int} {l : List Int} (h : ∀ x ∈ l, d ∣ c * x) : d ∣ c * (gcdL l : Nat) := gcdF_mul c d l 0 (by simp) h
/-- Two primitive rows that are multiples of each other are equal. -/
theorem prim_uniq {l m : List Int} {d c : Int} (hl : primL l = l) (hm : primL m = m) (hlen : l.length = m.length) (hd : d ≠ 0) (hc : c ≠ 0) (e : ∀ k, k < l.length → d * l.getD k 0 = c * m.getD k 0) : l = m := by
  have hext : (∀ k, k < l.length → l.getD k 0 = m.getD k 0) → l = m := fun h => by
    refine List.ext_getElem hlen fun k h1 h2 => ?_
    have := h k h1
    simpa [List.getD, h1, h2] using this
  have hz : ∀ k, k < l.length → (l.getD k 0 = 0 ↔ m.getD k 0 = 0) := fun k hk => by
    have := e k hk
    constructor
    · intro h; rw [h, Int.mul_zero] at this
      rcases Int.mul_eq_zero.1 this.symm with h1 | h1
      · exact absurd h1 hc
      · exact h1
    · intro h; rw [h, Int.mul_zero] at this
      rcases Int.mul_eq_zero.1 this with h1 | h1
      · exact absurd h1 hd
      · exact h1
  rcases (primL_eq_iff l).1 hl with h0 | ⟨h1, h2⟩
  · refine hext fun k hk => ?_
    have h3 := gcdL_zero.1 h0 _ (mem_getD hk)
    rw [h3]; exact ((hz k hk).1 h3).symm
  · have hlt : fcN l < l.length := fcN_lt_iff.2 (by omega)
    have hfc : fcN m = fcN l := fcN_eq (by omega) (fun j hj => (hz j (by omega)).1 (fcN_zero l j hj)) (fun _ h => fcN_ne l hlt ((hz _ hlt).2 h))
    have hml : gcdL m ≠ 0 := fcN_lt_iff.1 (by omega)
    obtain ⟨m1, m2⟩ := ((primL_eq_iff m).1 hm).resolve_left hml
    have k1 : c ∣ d * (gcdL l : Nat) := gcdL_mul fun x hx => by
      obtain ⟨k, hk, rfl⟩ := List.mem_iff_getElem.1 hx
      have := e k hk
      rw [show l.getD k 0 = l[k] by simp [List.getD, hk]] at this
      rw [this]; exact Int.dvd_mul_right _ _
    have k2 : d ∣ c * (gcdL m : Nat) := gcdL_mul fun x hx => by
      obtain ⟨k, hk, rfl⟩ := List.mem_iff_getElem.1 hx
      have := e k (by omega)
      rw [show m.getD k 0 = m[k] by simp [List.getD, hk]] at this
      rw [← this]; exact Int.dvd_mul_right _ _
    rw [h1] at k1
    rw [m1] at k2
    have k3 : c ∣ d := by simpa using k1
    have k4 : d ∣ c := by simpa using k2
    have k5 : d.natAbs = c.natAbs := Nat.dvd_antisymm (Int.natAbs_dvd_natAbs.2 k4) (Int.natAbs_dvd_natAbs.2 k3)
    have k6 := e _ hlt
    have k7 := fcN_ne l hlt
    rw [hfc] at m2
    rcases (show d = c ∨ d = -c by omega) with k8 | k8
    · subst k8
      exact hext fun k hk => Int.eq_of_mul_eq_mul_left hd (e k hk)
    · exfalso
      subst k8
      have k9 : c * (m.getD (fcN l) 0 + l.getD (fcN l) 0) = 0 := by rw [Int.mul_add]; rw [Int.neg_mul] at k6; omega
      rcases Int.mul_eq_zero.1 k9 with k10 | k10
      · exact hc k10
      · omega
end Go.Proofs.Ytacjonkehcamgaa

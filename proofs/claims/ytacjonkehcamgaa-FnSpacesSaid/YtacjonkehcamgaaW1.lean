/-
  DERIVED. Several small texts in one: LawB, RankQi, EchL, PlainU, Rowkit, Fit, EchW, Stk, PlainN, Ops, Drw, OpsS, EchR, RowB, DrL, PlLin, Iden, PlDet, Same.
-/
import Derived.Test.YtacjonkehcamgaaWS
import Derived.Test.YtacjonkehcamgaaBase
import Derived.Test.YtacjonkehcamgaaEchQ
import Derived.Test.YtacjonkehcamgaaEchT
import Derived.Test.YtacjonkehcamgaaPlainQ
import Derived.Test.YtacjonkehcamgaaRows
import Derived.Test.YtacjonkehcamgaaMem
import Derived.ProofKit
import Derived.OpenShut
import Derived.Carry
import Derived.ChangeSame
import Derived.Lib.SmallJoins
import Derived.Deep.Slices
import Derived.Test.YtacjonkehcamgaaNum
import Derived.Test.YtacjonkehcamgaaEchP
import Derived.Test.YtacjonkehcamgaaAppend
import Derived.Test.YtacjonkehcamgaaMatOps
import Derived.Test.YtacjonkehcamgaaPlainT
import Derived.Test.YtacjonkehcamgaaRowOp
import Derived.Test.YtacjonkehcamgaaOwn
import Derived.Test.YtacjonkehcamgaaAppend2
import Derived.Test.YtacjonkehcamgaaElem
/-
  DERIVED. Small functions of the laws' own package: big, abs.
-/
namespace Go.Proofs.Ytacjonkehcamgaa
open Go.RowKit
set_option linter.unusedVariables false
set_option linter.unusedSimpArgs false
theorem laws_big (A : Option Addr) (n cap : Nat) (w : World) : Calls Try.prog 15 #[.slice A n cap] w (EV (.bool (decide (1048576 < n))) w) := by
  go_enter Try.func15, Try.ntmps15
  go_wp2
  go_ret
  exact EV.mk (vbool (by first | rfl | (simp; omega)))
theorem laws_abs (x : Int) (h1 : -4611686018427387904 ≤ x) (h2 : x ≤ 4611686018427387904) (w : World) : Calls Try.prog 71 #[.int .i64 x] w (EV (.int .i64 (x.natAbs : Nat)) w) := by
  go_enter Try.func71, Try.ntmps71
  go_wp2
  all_goals go_ret
  all_goals exact EV.mk (vint (by omega))
end Go.Proofs.Ytacjonkehcamgaa

/-
  DERIVED. The program's alone: RankOf, both.
-/
namespace Go.Proofs.Ytacjonkehcamgaa
open Go.RowKit
set_option linter.unusedVariables false
theorem impl_RankOf (r c : Int) (A : Option Addr) (n cap : Nat) (xs : List Int) (w : World) {B : Nat} (h : RI w B A n xs) (hB : B ≤ w.heap.size) (hn : n ≤ 1048576) :
    Calls Try.prog 76 #[.agg #[.int .i64 r, .int .i64 c, .slice A n cap]] w (BV (.tuple #[.int .i64 ((psQ (eoX r c xs)).length : Nat), .bool (eoX r c xs).isSome]) w) := by
  have H2 := Lib.hid (h.more hB)
  clear h
  generalize hx : eoX r c xs = X
  have HX := Lib.hid hx
  clear hx
  go_enter Try.func76, Try.ntmps76
  go_wp2_with fail
  refine (impl_EchelonOf r c A n cap xs _ (B := w.heap.size) (Kr H2.out) Ks hn).mono ?_
  rw [HX.out]
  rintro e w1 ⟨A', n', cap', P, k, pc, rfl, ho, hp, ha, hb⟩
  have hk := hp.lenEq
  have hsz := hb.size
  simp at hsz
  clear ho hp ha
  generalize psQ X = ps at *
  generalize X.isSome = b at *
  generalize mxQ r c X = mx at *
  subst hk
  go_wp2_with fail
  go_ret2
  exact BV.mk rfl Kw
end Go.Proofs.Ytacjonkehcamgaa

/-
  DERIVED. How long the results of EchelonOf are: no program in sight.
-/
namespace Go.Proofs.Ytacjonkehcamgaa
open Go.RowKit
set_option linter.unusedVariables false
theorem colsQ_len {R C : Nat} : ∀ (n j : Nat) (s s' : QSt), colsQ R C n j s = some s' → s'.ps.length ≤ s.ps.length + n
  | 0, j, s, s', h => by
    unfold colsQ at h
    injection h with h
    subst h; omega
  | n + 1, j, s, s', h => by
    unfold colsQ at h
    split at h
    · have := colsQ_len n (j + 1) s s' h; omega
    · split at h
      · cases h
      · have := colsQ_len n (j + 1) _ s' h
        simp at this
        omega
theorem colsQ_le {R C : Nat} : ∀ (n j : Nat) (s s' : QSt), s.ps.length ≤ R → colsQ R C n j s = some s' → s'.ps.length ≤ R
  | 0, j, s, s', hs, h => by
    unfold colsQ at h
    injection h with h
    subst h; exact hs
  | n + 1, j, s, s', hs, h => by
    unfold colsQ at h
    split at h
    · exact colsQ_le n (j + 1) s s' hs h
    · rename_i hk
      split at h
      · cases h
      · refine colsQ_le n (j + 1) _ s' ?_ h
        have := fnd_le s.f j (R - s.ps.length) s.ps.length
        simp
        omega
theorem eoX_len (r c : Int) (xs : List Int) : (mxQ r c (eoX r c xs)).xs.length ≤ 1048576 ∧ (psQ (eoX r c xs)).length ≤ 1048576 := by
  unfold eoX
  by_cases hm : isMat r c xs = true
  · rw [if_pos hm]
    have M := isMat_iff.1 hm
    have h1 := M.r0; have h2 := M.r1; have h3 := M.c0; have h4 := M.c1
    obtain ⟨R, rfl⟩ := nat_of h1
    obtain ⟨C, rfl⟩ := nat_of h3
    simp only [Int.toNat_natCast]
    have h5 : R * C ≤ 24 * 24 := Nat.mul_le_mul (by omega) (by omega)
    cases hx : echQ R C (fun i j : Nat => cel xs C i j) with
    | none => exact ⟨Nat.zero_le _, Nat.zero_le _⟩
    | some s =>
      have h6 := colsQ_len _ _ _ _ hx
      simp at h6
      refine ⟨?_, ?_⟩
      · show (tb (R : Int).toNat (C : Int).toNat s.f).length ≤ 1048576
        rw [tb_len]
        simp only [Int.toNat_natCast]
        omega
      · show s.ps.length ≤ 1048576
        omega
  · rw [if_neg hm]; exact ⟨Nat.zero_le _, Nat.zero_le _⟩
end Go.Proofs.Ytacjonkehcamgaa

/-
  DERIVED. A part of a row anew; a matrix of zeros. No program in sight.
-/
namespace Go.Proofs.Ytacjonkehcamgaa
set_option linter.unusedVariables false
theorem splL_get {xs ys : List Int} {off q : Nat} (h : off + ys.length ≤ xs.length) : (splL xs off ys).getD q 0 = if off ≤ q ∧ q < off + ys.length then ys.getD (q - off) 0 else xs.getD q 0 := by
  by_cases h1 : off ≤ q ∧ q < off + ys.length
  · rw [if_pos h1]
    have := splL_getD (xs := xs) (ys := ys) (off := off) (k := q - off) h (by omega)
    rw [show off + (q - off) = q by omega] at this
    exact this
  · rw [if_neg h1]
    have htl : (xs.take off).length = off := by rw [List.length_take]; omega
    unfold splL
    simp only [List.getD]
    congr 1
    by_cases h2 : q < off
    · rw [List.append_assoc, List.getElem?_append_left (by omega), List.getElem?_take_of_lt h2]
    · rw [List.getElem?_append_right (by rw [List.length_append, htl]; omega), List.getElem?_drop, List.length_append, htl]
      congr 1
      omega
/-- Row i anew from place o on. -/
def setW (f : Nat → Nat → Int) (i o : Nat) (ys : List Int) : Nat → Nat → Int := fun a c => if a = i ∧ o ≤ c ∧ c < o + ys.length then ys.getD (c - o) 0 else f a c
theorem spl_tbo {R C i o : Nat} {f : Nat → Nat → Int} {ys : List Int} (hi : i < R) (hy : o + ys.length ≤ C) : splL (tb R C f) (i * C + o) ys = tb R C (setW f i o ys) := by
  have hl : i * C + C ≤ R * C := by
    have h3 := Nat.mul_le_mul_right C (show i + 1 ≤ R by omega); rw [Nat.add_mul, Nat.one_mul] at h3; exact h3
  have hf : i * C + o + ys.length ≤ (tb R C f).length := by rw [tb_len]; omega
  have hlen : (splL (tb R C f) (i * C + o) ys).length = R * C := by rw [splL_len hf, tb_len]
  rw [tb_of hlen]
  apply tb_ext
  intro a c ha hc
  rw [cel_nat, splL_get hf]
  unfold setW
  rcases Nat.lt_trichotomy a i with h | h | h
  · have h3 := Nat.mul_le_mul_right C (show a + 1 ≤ i by omega)
    rw [Nat.add_mul, Nat.one_mul] at h3
    rw [if_neg (by omega), if_neg (by omega), tb_at ha hc]
  · subst h
    by_cases h4 : o ≤ c ∧ c < o + ys.length
    · rw [if_pos (by omega), if_pos ⟨rfl, h4⟩]
      congr 1
      omega
    · rw [if_neg (by omega), if_neg (by omega), tb_at ha hc]
  · have h3 := Nat.mul_le_mul_right C (show i + 1 ≤ a by omega)
    rw [Nat.add_mul, Nat.one_mul] at h3
    rw [if_neg (by omega), if_neg (by omega), tb_at ha hc]
theorem tb_zeros (R C : Nat) : tb R C (fun _ _ => 0) = List.replicate (R * C) 0 := by
  unfold tb tab
  apply List.ext_getElem?
  intro i
  by_cases h : i < R * C <;> simp [h]
end Go.Proofs.Ytacjonkehcamgaa

/-
  DERIVED. The last step from a law's contract to its row: arguments opened, 'post' closed under 'Below'.
-/
namespace Go.Proofs.Ytacjonkehcamgaa
open Go.ChangeShapes Go.WideShapes Go.ChangeAt Go.RowKit Go.Joins
set_option linter.unusedVariables false

theorem own : ownKnob Try.prog.godebug = none := by kernel_rfl
theorem laidOut : laidOutB Try.prog = true := by kernel_rfl

section
variable {H : Type} {enc : TypeId × Value → H} {P : Program}
/-- 'post' of a call that returned, and below whose first heap size nothing has turned. -/
theorem post_below {f : Func} {s : ChangeSpec} {apart fresh handsOn again : Bool} {W W' : World} {args : Array Value} {v : Value} {ds gs : List (DataW H)} {before pa pv : List MemPlace}
    (hW : DataW.Whole enc P f.params.toList s.vars apart W args.toList ds gs before)
    (hres : ∀ (b : Nat) (sp : Nat → Bool) (hd : Bool), DataW.TrodAll enc P W' b sp hd f.resultTypes.toList (v.resultList f.resultTypes.size) (s.fn H (ds ++ gs)).results [])
    (hargs : ∀ sp : Nat → Bool, (∀ p ∈ before, sp p.block = true) → DataW.TrodAll enc P W' 0 sp true f.params.toList args.toList (s.fn H (ds ++ gs)).args pa)
    (hvars : ∀ sp : Nat → Bool, (∀ p ∈ before, sp p.block = true) → DataW.TrodVars enc P W' sp s.vars (s.fn H (ds ++ gs)).vars pv)
    (hps : before = pa ++ pv) (hb : Below W.heap.size W W')
    (hok : ∀ (j : Nat) (t : TypeId) (r : Value), f.resultTypes[j]? = some t → (v.resultList f.resultTypes.size)[j]? = some r → Value.okWide P W' .any 0 t r) :
    s.post enc P f apart fresh handsOn again W args v W' := by
  have hlt : ∀ p ∈ before, p.block < W.heap.size := fun p hp => hW.lt p hp
  have hold : ∀ p ∈ before, (fun b => decide (b < W.heap.size)) p.block = true := fun p hp => by simpa using hlt p hp
  refine ⟨ds, gs, before, [], pa, pv, hW, hres _ _ _, hargs _ hold, hvars _ hold, World.keptBut_mono (fun p hp => ⟨hp, ?_⟩) (hb.frame (· ∈ before)), fun _ => ?_⟩
  · rw [hps, List.mem_append] at hp
    exact Or.inr hp
  · obtain ⟨_, _, _, _, _, hz, hn⟩ := hW
    refine ⟨hok, _, _, ([] ++ pa) ++ pv, ⟨[] ++ pa, pv, trodAll_append (hargs _ (fun _ _ => rfl)) (hres _ _ _), hvars _ (fun _ _ => rfl), rfl, ?_, ?_⟩, ?_⟩
    · intro b off hp
      have hin : MemPlace.cell b off ∈ before := by rw [hps]; simpa using hp
      rw [hb.frozen (hlt _ hin)]
      exact hz b off hin
    · intro ha
      have := hn ha
      rw [hps] at this
      simpa using this
    · intro p hp _
      rw [hps]
      simpa using hp
/-- An argument reads behind the call as it read before it, whatever spare cells are asked for among the old places. -/
theorem same_arg {t : TypeId} (hl : laidOutB P = true) (hr : P.readableRec t = true) (hrow : t < P.types.size) {W W' : World} {v : Value} {d : DataW H} {ps : List MemPlace}
    (h : DataW.Trod enc P W 0 (fun _ => true) true t v d ps) (hb : Below W.heap.size W W') (hlt : ∀ x ∈ ps, x.block < W.heap.size) (sp : Nat → Bool) (hsp : ∀ x ∈ ps, sp x.block = true) :
    DataW.Trod enc P W' 0 sp true t v d ps :=
  WideElems.Trod_stays hl hr hrow h (fun x hx => hb.same (hlt x hx)) hsp
/-- A slice of ints, read. -/
theorem reads_ints {w : World} {base : Nat} {spare : Nat → Bool} {held : Bool} {t e : TypeId} {fuel : Nat} {v : Value} {x : DataW H × List MemPlace}
    (ht : P.underlying t = some (.slice e)) (he : P.underlying e = some (.int .i64)) (hc : P.cellsOf e = 1) (h : DataW.trod enc P w base spare held fuel t [v] = some x)
    (hlt : ∀ p ∈ x.2, p.block < w.heap.size) :
    ∃ A n cap xs, v = .slice A n cap ∧ n ≤ cap ∧ cap ≤ maxLen ∧ RI w w.heap.size A n xs ∧ ∀ z ∈ xs, (Lit.int .i64 z).wf = true := by
  rcases open_ints ht he hc h with ⟨hcs, hx⟩ | ⟨a, len, cap, zs, hcs, hb, hl, hm, hz, hx, hcell, hwf⟩
  · injection hcs with hv
    exact ⟨none, 0, 0, [], hv, Nat.le_refl _, by unfold maxLen; omega, RI.nil_ _ _ _, by simp⟩
  · injection hcs with hv
    have hzl : len ≤ zs.length := by rw [hz]; split <;> omega
    refine ⟨some a, len, cap, zs.take len, hv, hl, hm, ⟨by simp; omega, fun hn => ?_⟩, fun z hz => hwf z (List.mem_of_mem_take hz)⟩
    obtain ⟨b, off, rfl, hc'⟩ := ints_at hcell (by omega)
    refine ⟨b, off, rfl, ?_, fun k hk => ?_⟩
    · have h0 : MemPlace.cell b off ∈ x.2 := by
        rw [hx]
        simp only [MemPlace.row, List.mem_map, List.mem_range]
        exact ⟨0, by omega, rfl⟩
      exact hlt _ h0
    · rw [hc' k (by omega)]
      simp [List.getD, hk]
end
theorem wf_bounds {x : Int} (h : (Lit.int .i64 x).wf = true) : -9223372036854775808 ≤ x ∧ x ≤ 9223372036854775807 := by
  simpa [Lit.wf, IntKind.min, IntKind.max, IntKind.signed, IntKind.bits] using h
end Go.Proofs.Ytacjonkehcamgaa

/-
  DERIVED. The contracts of the reference's marked arithmetic: l1Fit, l1Add, l1Mul.
-/
namespace Go.Proofs.Ytacjonkehcamgaa
open Go.RowKit
set_option linter.unusedVariables false
/-- The mark of a number beyond the limit. -/
def bad : Int := -4611686018427387904
def fit (n : Int) : Int := if isNum n then n else bad
def addB (a b : Int) : Int := if a = bad ∨ b = bad then bad else fit (a + b)
def mulF (a b : Int) : Int := if a = bad ∨ b = bad then bad else fit (a * b)
theorem fit_in {n : Int} (h : -400000000 ≤ n ∧ n ≤ 400000000) : fit n = n := by simp [fit, (isNum_iff n).2 h]
theorem fit_out {n : Int} (h : n < -400000000 ∨ 400000000 < n) : fit n = bad := by simp [fit, (isNum_not n).2 h]
/-- A number within the limit, or the mark. -/
def NB (n : Int) : Prop := n = bad ∨ (-400000000 ≤ n ∧ n ≤ 400000000)
theorem NB.fit (n : Int) : NB (fit n) := by
  by_cases h : -400000000 ≤ n ∧ n ≤ 400000000
  · rw [fit_in h]; exact .inr h
  · rw [fit_out (by omega)]; exact .inl rfl
theorem ne_bad {n : Int} (h : -4000000000000000000 ≤ n) : n ≠ bad := by unfold bad; omega
theorem beq_bad (n : Int) : (n == -4611686018427387904) = decide (n = bad) := rfl

theorem spec_l1Fit (n : Int) (w : World) : Calls Try.prog 221 #[.int .i64 n] w (EV (.int .i64 (fit n)) w) := by
  by_cases h : -400000000 ≤ n ∧ n ≤ 400000000
  · rw [fit_in h]
    obtain ⟨h1, h2⟩ := h
    go_enter Try.func221, Try.ntmps221
    go_wp2_with (first | (go_at_call 154; (first | refine (spec_l1In_yes _ _ _ _ (by omega)).mono ?_ | refine (spec_l1In_no _ _ _ _ (by omega)).mono ?_ | refine (spec_l1In _ _ _ _).mono ?_); rintro e w' ⟨rfl, rfl⟩))
    go_ret
    exact EV.mk rfl
  · rw [fit_out (by omega)]
    have h' : n < -400000000 ∨ 400000000 < n := by omega
    clear h
    rcases h' with h | h
    all_goals
      go_enter Try.func221, Try.ntmps221
      go_wp2_with (first | (go_at_call 154; (first | refine (spec_l1In_yes _ _ _ _ (by omega)).mono ?_ | refine (spec_l1In_no _ _ _ _ (by omega)).mono ?_ | refine (spec_l1In _ _ _ _).mono ?_); rintro e w' ⟨rfl, rfl⟩))
      go_ret
      exact EV.mk rfl

theorem spec_l1Add (a b : Int) (w : World) (ha : NB a) (hb : NB b) : Calls Try.prog 232 #[.int .i64 a, .int .i64 b] w (EV (.int .i64 (addB a b)) w) := by
  unfold addB
  by_cases h1 : a = bad
  · rw [if_pos (.inl h1)]
    have e1 : (a == -4611686018427387904) = true := by rw [beq_bad]; simpa using h1
    clear h1 ha hb
    go_enter Try.func232, Try.ntmps232
    go_wp2
    go_ret
    exact EV.mk rfl
  · have e1 : (a == -4611686018427387904) = false := by rw [beq_bad]; simpa using h1
    by_cases h2 : b = bad
    · rw [if_pos (.inr h2)]
      have e2 : (b == -4611686018427387904) = true := by rw [beq_bad]; simpa using h2
      clear h1 h2 ha hb
      go_enter Try.func232, Try.ntmps232
      go_wp2
      go_ret
      exact EV.mk rfl
    · have e2 : (b == -4611686018427387904) = false := by rw [beq_bad]; simpa using h2
      rw [if_neg (by simp [h1, h2])]
      have ha' := ha.resolve_left h1
      have hb' := hb.resolve_left h2
      clear h1 h2 ha hb
      go_enter Try.func232, Try.ntmps232
      go_wp2_with (go_at_call 221; refine (spec_l1Fit _ _).mono ?_; rintro e w' ⟨rfl, rfl⟩)
      go_ret
      exact EV.mk rfl

theorem spec_l1Mul (a b : Int) (w : World) (ha : NB a) (hb : NB b) : Calls Try.prog 190 #[.int .i64 a, .int .i64 b] w (EV (.int .i64 (mulF a b)) w) := by
  unfold mulF
  by_cases h1 : a = bad
  · rw [if_pos (.inl h1)]
    have e1 : (a == -4611686018427387904) = true := by rw [beq_bad]; simpa using h1
    clear h1 ha hb
    go_enter Try.func190, Try.ntmps190
    go_wp2
    go_ret
    exact EV.mk rfl
  · have e1 : (a == -4611686018427387904) = false := by rw [beq_bad]; simpa using h1
    by_cases h2 : b = bad
    · rw [if_pos (.inr h2)]
      have e2 : (b == -4611686018427387904) = true := by rw [beq_bad]; simpa using h2
      clear h1 h2 ha hb
      go_enter Try.func190, Try.ntmps190
      go_wp2
      go_ret
      exact EV.mk rfl
    · have e2 : (b == -4611686018427387904) = false := by rw [beq_bad]; simpa using h2
      rw [if_neg (by simp [h1, h2])]
      have ha' := ha.resolve_left h1
      have hb' := hb.resolve_left h2
      obtain ⟨c1, c2⟩ := mul_bd4 a b 400000000 400000000 (by omega) (by omega) (by omega) (by omega)
      clear h1 h2 ha hb
      go_enter Try.func190, Try.ntmps190
      go_wp2_with (go_at_call 221; refine (spec_l1Fit _ _).mono ?_; rintro e w' ⟨rfl, rfl⟩)
      go_ret
      exact EV.mk rfl
theorem addB_num {a b : Int} (ha : -400000000 ≤ a ∧ a ≤ 400000000) (hb : -400000000 ≤ b ∧ b ≤ 400000000) : addB a b = fit (a + b) := by
  unfold addB; rw [if_neg]; unfold bad; omega
theorem mulF_num {a b : Int} (ha : -400000000 ≤ a ∧ a ≤ 400000000) (hb : -400000000 ≤ b ∧ b ≤ 400000000) : mulF a b = fit (a * b) := by
  unfold mulF; rw [if_neg]; unfold bad; omega
end Go.Proofs.Ytacjonkehcamgaa

/-
  DERIVED. EchelonOf of the reference.
-/
namespace Go.Proofs.Ytacjonkehcamgaa
open Go.RowKit
set_option linter.unusedVariables false
set_option linter.unusedSimpArgs false
set_option maxRecDepth 100000 in
set_option maxHeartbeats 2000000 in
theorem spec_EchelonOf (r c : Int) (A : Option Addr) (n cap : Nat) (xs : List Int) (w : World) {B : Nat} (h : RI w B A n xs) (hB : B ≤ w.heap.size) (hn : n ≤ 1048576) :
    Calls Try.prog 79 #[.agg #[.int .i64 r, .int .i64 c, .slice A n cap]] w (MIBR (mxQ r c (eoX r c xs)) (psQ (eoX r c xs)) (eoX r c xs).isSome w) := by
  have hlen := h.len
  have H2 := Lib.hid (h.more hB)
  clear h
  rcases hm : isMat r c xs with _ | _
  · have hx : eoX r c xs = none := by unfold eoX; rw [hm]; rfl
    rw [hx]
    have HM := Lib.hid hm
    clear hm hx hlen
    go_enter Try.func79, Try.ntmps79
    go_wp2_with (go_at_call 107; refine (spec_IsMatrix r c A n cap xs _ (C := w.heap.size) (Kr H2.out) Ks hn).mono ?_; rw [HM.out]; rintro e w1 ⟨rfl, hb⟩; have hz := hb.size; (try simp at hz); have kk := bkeep (w := w) hb Ks; obtain ⟨kc, kf⟩ := kk; (try (have kk := bkeepb (w.heap.size) hb Ks; obtain ⟨kc0, kf0, kl0⟩ := kk)); (try (have kk := bkeepb (w.heap.size + 1) hb Ks; obtain ⟨kc1, kf1, kl1⟩ := kk)); (try (have kk := bkeepb (w.heap.size + 1 + 1) hb Ks; obtain ⟨kc2, kf2, kl2⟩ := kk)); (try (have kk := bkeepb (w.heap.size + 1 + 1 + 1) hb Ks; obtain ⟨kc3, kf3, kl3⟩ := kk)); (try (have kk := bkeepb (wr.heap.size) hb Ks; obtain ⟨kr0, ks0, kt0⟩ := kk)); (try (have kk := bkeepb (wr.heap.size + 1) hb Ks; obtain ⟨kr1, ks1, kt1⟩ := kk)); (try (have kk := bkeepb (wr.heap.size + 1 + 1) hb Ks; obtain ⟨kr2, ks2, kt2⟩ := kk)))
    refine ret_MTT' (b := w.heap.size + 1) Try.results79 rfl Ka rfl ?_
    exact MIBR.none_ (OR.empty' _ w1.heap.size (by simp [World.setCell]) (by simp [World.setCell]; omega)) Kw
  · have M := isMat_iff.1 hm
    have hx : eoX r c xs = echQ r.toNat c.toNat (fun i j => cel xs c.toNat i j) := by unfold eoX; rw [if_pos hm]
    rw [hx]
    clear hx
    have HM := Lib.hid hm
    obtain ⟨R, rfl⟩ := nat_of M.r0
    obtain ⟨C, rfl⟩ := nat_of M.c0
    have hR := M.r1
    have hC := M.c1
    have HT : Hid (xs = tb R C (fun i j => cel xs C i j)) := Lib.hid (tb_of (by have := M.len; rw [← Int.natCast_mul] at this; omega))
    simp only [Int.toNat_natCast]
    have HBD : Hid (∀ i c : Nat, i < R → c < C → -400000000 ≤ (fun i j : Nat => cel xs C i j) i c ∧ (fun i j : Nat => cel xs C i j) i c ≤ 400000000) := Lib.hid (fun i c _ _ => M.cel_bd i c)
    generalize (fun i j : Nat => cel xs C i j) = f0 at *
    generalize hX : echQ R C f0 = X at *
    have HX := Lib.hid hX
    clear hm M hlen hX
    go_enter Try.func79, Try.ntmps79
    go_wp2_with (go_at_call 107; refine (spec_IsMatrix R C A n cap xs _ (C := w.heap.size) (Kr H2.out) Ks hn).mono ?_; rw [HM.out]; rintro e w1 ⟨rfl, hb⟩; have hz := hb.size; (try simp at hz); have kk := bkeep (w := w) hb Ks; obtain ⟨kc, kf⟩ := kk; (try (have kk := bkeepb (w.heap.size) hb Ks; obtain ⟨kc0, kf0, kl0⟩ := kk)); (try (have kk := bkeepb (w.heap.size + 1) hb Ks; obtain ⟨kc1, kf1, kl1⟩ := kk)); (try (have kk := bkeepb (w.heap.size + 1 + 1) hb Ks; obtain ⟨kc2, kf2, kl2⟩ := kk)); (try (have kk := bkeepb (w.heap.size + 1 + 1 + 1) hb Ks; obtain ⟨kc3, kf3, kl3⟩ := kk)); (try (have kk := bkeepb (wr.heap.size) hb Ks; obtain ⟨kr0, ks0, kt0⟩ := kk)); (try (have kk := bkeepb (wr.heap.size + 1) hb Ks; obtain ⟨kr1, ks1, kt1⟩ := kk)); (try (have kk := bkeepb (wr.heap.size + 1 + 1) hb Ks; obtain ⟨kr2, ks2, kt2⟩ := kk)))
    have hsz1 := hb.size
    simp at hsz1
    have hR1 : BM w1 (w.heap.size + 1) 0 0 none 0 0 := Ka
    have hri1 : RI w1 w.heap.size A n (tb R C f0) := by
      have : RI w1 w.heap.size A n xs := Kr H2.out
      rw [HT.out] at this; exact this
    have hbw1 : Below w.heap.size w w1 := Kw
    go_wp2_with fail
    refine (spec_l7Echelon R C A n cap f0 _ (B := w.heap.size) hri1 Ks hn (by omega) (by omega) HBD.out).mono ?_
    rw [HX.out]
    rintro e w2 ⟨A', n', cap', P, k, pc, rfl, ho, hp, hap, hb2⟩
    have hsz2 := hb2.size
    have hl1 := hR1.lt
    have hR2 : BM w2 (w.heap.size + 1) 0 0 none 0 0 := Kb hR1
    have hbw2 : Below w.heap.size w w2 := hbw1.trans (hb2.mono (by omega))
    have ho2 : OR w2 w1.heap.size (.slice A' n' cap') (mxQ R C X).xs := ho
    have hp2 : OR w2 w1.heap.size (.slice P k pc) (psQ X) := hp
    obtain ⟨ra, rb, rc, rf, rl⟩ := hR2.mx
    clear ho hp hb2 hbw1 hR1
    generalize psQ X = ps at *
    generalize X.isSome = b at *
    generalize hmx : mxQ R C X = mx at *
    clear hmx
    obtain ⟨mr, mc, mxs⟩ := mx
    go_wp2_with fail
    refine ret_MTT' (b := w.heap.size + 1) Try.results79 rfl (Kb hR2) rfl ?_
    exact ⟨A', n', cap', P, k, pc, rfl, OR.mono (B := w1.heap.size) (Ko ho2) (by omega), OR.mono (B := w1.heap.size) (Ko hp2) (by omega), hap, Kw⟩
end Go.Proofs.Ytacjonkehcamgaa

/-
  DERIVED. StackRows of the program.
-/
namespace Go.Proofs.Ytacjonkehcamgaa
open Go.RowKit
set_option linter.unusedVariables false
set_option linter.unusedSimpArgs false
theorem OR.sliceFormK {w : World} {B : Nat} {v : Value} {xs : List Int} (h : OR w B v xs) : ∃ A m c, v = .slice A m c := by
  rcases h.form with ⟨h1, _⟩ | ⟨g, c, h1, _⟩
  · exact ⟨_, _, _, h1⟩
  · exact ⟨_, _, _, h1⟩
def stB (r c : Int) (xs : List Int) (r2 c2 : Int) (ys : List Int) : Bool := isMat r c xs && isMat r2 c2 ys && decide (c = c2) && decide (r + r2 ≤ 24)
def stM (r c : Int) (xs : List Int) (r2 c2 : Int) (ys : List Int) : Mx := if stB r c xs r2 c2 ys then ⟨r + r2, c, xs ++ ys⟩ else .none
set_option maxRecDepth 100000 in
set_option maxHeartbeats 4000000 in
theorem impl_StackRows (r c r2 c2 : Int) (A A' : Option Addr) (n cap n' cap' : Nat) (xs ys : List Int) (w : World) {B B' : Nat} (h : RI w B A n xs) (h' : RI w B' A' n' ys) (hB : B ≤ w.heap.size) (hB' : B' ≤ w.heap.size) (hn : n ≤ 1048576) (hn' : n' ≤ 1048576) :
    Calls Try.prog 75 #[.agg #[.int .i64 r, .int .i64 c, .slice A n cap], .agg #[.int .i64 r2, .int .i64 c2, .slice A' n' cap']] w (MBR (stM r c xs r2 c2 ys) (stB r c xs r2 c2 ys) w) := by
  have hlx := h.len
  have hly := h'.len
  have H2 := Lib.hid (h.more hB)
  have H3 := Lib.hid (h'.more hB')
  clear h h'
  have hSB : stB r c xs r2 c2 ys = (isMat r c xs && isMat r2 c2 ys && decide (c = c2) && decide (r + r2 ≤ 24)) := rfl
  have hSM : stM r c xs r2 c2 ys = if stB r c xs r2 c2 ys then ⟨r + r2, c, xs ++ ys⟩ else .none := rfl
  rcases hm1 : isMat r c xs with _ | _
  · have e1 : stB r c xs r2 c2 ys = false := by rw [hSB, hm1]; rfl
    have e2 : stM r c xs r2 c2 ys = .none := by rw [hSM, e1]; rfl
    rw [e1, e2]
    have HM1 := Lib.hid hm1
    clear hm1 e1 e2 hSB hSM hlx hly
    go_enter Try.func75, Try.ntmps75
    go_wp2_with fail
    refine (impl_IsMatrix r c A n cap xs _ (C := w.heap.size) (Kr H2.out) Ks hn).mono ?_; rw [HM1.out]; rintro e w1 ⟨rfl, hb1⟩; have hs1 := hb1.size; simp at hs1; have hA : BM w1 w.heap.size r c A n cap := Ka; have hB_ : BM w1 (w.heap.size + 1) r2 c2 A' n' cap' := Ka; have hR : BM w1 (w.heap.size + 1 + 1) 0 0 none 0 0 := Ka; have hbw : Below w.heap.size w w1 := Kw; clear hb1; obtain ⟨aa, ab, ac, af, al⟩ := hA.mx; obtain ⟨ba, bb, bc, bf, bl⟩ := hB_.mx; obtain ⟨ra, rb, rc, rf, rl⟩ := hR.mx
    have hvr := B3.of hR
    go_wp2_with fail
    refine ret_MB (r := 0) (c := 0) (A := none) (n := 0) (cap := 0) Try.results75 rfl (Kb hvr) rfl ?_; exact MBR.mk rfl (OR.nil_ _ _) Kw
  · have M := isMat_iff.1 hm1
    have HM1 := Lib.hid hm1
    rcases hm2 : isMat r2 c2 ys with _ | _
    · have e1 : stB r c xs r2 c2 ys = false := by rw [hSB, hm1, hm2]; rfl
      have e2 : stM r c xs r2 c2 ys = .none := by rw [hSM, e1]; rfl
      rw [e1, e2]
      have HM2 := Lib.hid hm2
      clear hm1 hm2 e1 e2 hSB hSM M hlx hly
      go_enter Try.func75, Try.ntmps75
      go_wp2_with fail
      refine (impl_IsMatrix r c A n cap xs _ (C := w.heap.size) (Kr H2.out) Ks hn).mono ?_; rw [HM1.out]; rintro e w1 ⟨rfl, hb1⟩; have hs1 := hb1.size; simp at hs1; have hA : BM w1 w.heap.size r c A n cap := Ka; have hB_ : BM w1 (w.heap.size + 1) r2 c2 A' n' cap' := Ka; have hR : BM w1 (w.heap.size + 1 + 1) 0 0 none 0 0 := Ka; have hbw : Below w.heap.size w w1 := Kw; clear hb1; obtain ⟨aa, ab, ac, af, al⟩ := hA.mx; obtain ⟨ba, bb, bc, bf, bl⟩ := hB_.mx; obtain ⟨ra, rb, rc, rf, rl⟩ := hR.mx
      go_wp2_with fail
      refine (impl_IsMatrix r2 c2 A' n' cap' ys _ (C := w.heap.size) (Kr H3.out) Ks hn').mono ?_; rw [HM2.out]; rintro e w2 ⟨rfl, hb2⟩; have hs2 := hb2.size; (try simp at hs2); have hA2 : BM w2 w.heap.size r c A n cap := (Kb hA); have hB2 : BM w2 (w.heap.size + 1) r2 c2 A' n' cap' := (Kb hB_); have hR2 : BM w2 (w.heap.size + 1 + 1) 0 0 none 0 0 := (Kb hR); have hbw2 : Below w.heap.size w w2 := Kw; clear hb2 hA hB_ hR hbw aa ab ac af al ba bb bc bf bl ra rb rc rf rl; obtain ⟨aa, ab, ac, af, al⟩ := hA2.mx; obtain ⟨ba, bb, bc, bf, bl⟩ := hB2.mx; obtain ⟨ra, rb, rc, rf, rl⟩ := hR2.mx; have hvr := B3.of hR2
      go_wp2_with fail
      refine ret_MB (r := 0) (c := 0) (A := none) (n := 0) (cap := 0) Try.results75 rfl (Kb hvr) rfl ?_; exact MBR.mk rfl (OR.nil_ _ _) Kw
    · have M2 := isMat_iff.1 hm2
      have HM2 := Lib.hid hm2
      have b1 := M.r0; have b2 := M.r1; have b3 := M2.r0; have b4 := M2.r1
      have hw : IntKind.i64.wrap (r + r2) = r + r2 := IntWalk.i64_in _ (by omega)
      by_cases hc : c = c2
      · have hcb : (c != c2) = false := by simp [hc]
        have HC := Lib.hid hc
        by_cases hr : r + r2 ≤ 24
        · have hrb : decide (r + r2 > 24) = false := decide_eq_false (by omega)
          have e1 : stB r c xs r2 c2 ys = true := by rw [hSB, hm1, hm2, decide_eq_true hc, decide_eq_true hr]; rfl
          have e2 : stM r c xs r2 c2 ys = ⟨r + r2, c, xs ++ ys⟩ := by rw [hSM, e1]; rfl
          rw [e1, e2]
          clear hm1 hm2 e1 e2 hSB hSM M M2 hc b1 b2 b3 b4
          have HLX := Lib.hid hlx
          have HLY := Lib.hid hly
          clear hlx hly
          go_enter Try.func75, Try.ntmps75
          go_wp2_with fail
          refine (impl_IsMatrix r c A n cap xs _ (C := w.heap.size) (Kr H2.out) Ks hn).mono ?_; rw [HM1.out]; rintro e w1 ⟨rfl, hb1⟩; have hs1 := hb1.size; simp at hs1; have hA : BM w1 w.heap.size r c A n cap := Ka; have hB_ : BM w1 (w.heap.size + 1) r2 c2 A' n' cap' := Ka; have hR : BM w1 (w.heap.size + 1 + 1) 0 0 none 0 0 := Ka; have hbw : Below w.heap.size w w1 := Kw; clear hb1; obtain ⟨aa, ab, ac, af, al⟩ := hA.mx; obtain ⟨ba, bb, bc, bf, bl⟩ := hB_.mx; obtain ⟨ra, rb, rc, rf, rl⟩ := hR.mx
          go_wp2_with fail
          refine (impl_IsMatrix r2 c2 A' n' cap' ys _ (C := w.heap.size) (Kr H3.out) Ks hn').mono ?_; rw [HM2.out]; rintro e w2 ⟨rfl, hb2⟩; have hs2 := hb2.size; (try simp at hs2); have hA2 : BM w2 w.heap.size r c A n cap := (Kb hA); have hB2 : BM w2 (w.heap.size + 1) r2 c2 A' n' cap' := (Kb hB_); have hR2 : BM w2 (w.heap.size + 1 + 1) 0 0 none 0 0 := (Kb hR); have hbw2 : Below w.heap.size w w2 := Kw; clear hb2 hA hB_ hR hbw aa ab ac af al ba bb bc bf bl ra rb rc rf rl; obtain ⟨aa, ab, ac, af, al⟩ := hA2.mx; obtain ⟨ba, bb, bc, bf, bl⟩ := hB2.mx; obtain ⟨ra, rb, rc, rf, rl⟩ := hR2.mx; have hvr := B3.of hR2
          clear hvr
          go_wp2_with fail
          have ne1 : ¬ w.heap.size = w.heap.size + 1 + 1 := by omega
          have ne2 : ¬ w.heap.size + 1 + 1 = w.heap.size := by omega
          have ne3 : ¬ w.heap.size + 1 = w.heap.size + 1 + 1 := by omega
          have ne4 : ¬ w.heap.size + 1 + 1 = w.heap.size + 1 := by omega
          ((refine wp_region_held_drew (S := (fun w' => w'.cell? ⟨w.heap.size, 0, none⟩ = some (.int .i64 r) ∧ w'.cell? ⟨w.heap.size, 1, none⟩ = some (.int .i64 c) ∧ w'.cell? ⟨w.heap.size, 2, none⟩ = some (.slice A n cap) ∧ w'.cell? ⟨w.heap.size + 1, 0, none⟩ = some (.int .i64 r2) ∧ w'.cell? ⟨w.heap.size + 1, 2, none⟩ = some (.slice A' n' cap'))) (by kernel_rfl) ?_ (fun hHeld => ?_)); ((focus ((try dsimp only); ((first | (go_keep; done) | exact ⟨aa, ab, ac, ba, bc⟩ | (simp [go_sem, ne1, ne2, ne3, ne4, aa, ab, ac, ba, bc]; done)))))); ((refine tk_ (i := 0) (v := ?_) (y := Or.inl ⟨by rfl, ?_⟩) (h := ?_); rotate_left; (focus (((intro w hSw; (try dsimp only at hSw); go_simp) <;> (try with_reducible rfl)); done)); (try simp only [Act.put, p1_, p2_, p3_]))); ((refine tk_ (i := 1) (v := ?_) (y := Or.inl ⟨by rfl, ?_⟩) (h := ?_); rotate_left; (focus (((intro w hSw; (try dsimp only at hSw); go_simp) <;> (try with_reducible rfl)); done)); (try simp only [Act.put, p1_, p2_, p3_]))); ((refine tk_ (i := 2) (v := ?_) (y := Or.inl ⟨by rfl, ?_⟩) (h := ?_); rotate_left; (focus (((intro w hSw; (try dsimp only at hSw); go_simp) <;> (try with_reducible rfl)); done)); (try simp only [Act.put, p1_, p2_, p3_]))); ((refine tk_ (i := 3) (v := ?_) (y := Or.inl ⟨by rfl, ?_⟩) (h := ?_); rotate_left; (focus (((intro w hSw; (try dsimp only at hSw); go_simp) <;> (try with_reducible rfl)); done)); (try simp only [Act.put, p1_, p2_, p3_]))); ((refine tk_ (i := 4) (v := ?_) (y := Or.inl ⟨by rfl, ?_⟩) (h := ?_); rotate_left; (focus (((intro w hSw; (try dsimp only at hSw); go_simp) <;> (try with_reducible rfl)); done)); (try simp only [Act.put, p1_, p2_, p3_]))); ((refine tk_ (i := 5) (v := ?_) (y := Or.inl ⟨by rfl, ?_⟩) (h := ?_); rotate_left; (focus (((intro w hSw; (try dsimp only at hSw); go_simp) <;> (try with_reducible rfl)); done)); (try simp only [Act.put, p1_, p2_, p3_]))); ((refine tk_ (i := 6) (v := ?_) (y := Or.inl ⟨by rfl, ?_⟩) (h := ?_); rotate_left; (focus (((intro w hSw; (try dsimp only at hSw); go_simp) <;> (try with_reducible rfl)); done)); (try simp only [Act.put, p1_, p2_, p3_]))); ((refine tk_ (i := 8) (v := ?_) (y := Or.inl ⟨by rfl, ?_⟩) (h := ?_); rotate_left; (focus (((intro w hSw; (try dsimp only at hSw); go_simp) <;> (try with_reducible rfl)); done)); (try simp only [Act.put, p1_, p2_, p3_]))); ((refine tk_ (i := 9) (v := ?_) (y := Or.inl ⟨by rfl, ?_⟩) (h := ?_); rotate_left; (focus (((intro w hSw; (try dsimp only at hSw); go_simp) <;> (try with_reducible rfl)); done)); (try simp only [Act.put, p1_, p2_, p3_]))); ((refine tk_ (i := 11) (v := ?_) (y := Or.inl ⟨by rfl, ?_⟩) (h := ?_); rotate_left; (focus (((intro w hSw; (try dsimp only at hSw); go_simp) <;> (try with_reducible rfl)); done)); (try simp only [Act.put, p1_, p2_, p3_]))); ((refine tk_ (i := 12) (v := ?_) (y := Or.inl ⟨by rfl, ?_⟩) (h := ?_); rotate_left; (focus (((intro w hSw; (try dsimp only at hSw); go_simp) <;> (try with_reducible rfl)); done)); (try simp only [Act.put, p1_, p2_, p3_]))); ((refine wpAnyH_ready (rs := [7]) (by kernel_rfl) (by simp) ?_; refine AllReadyH.cons (by simp only [e1_, e2_, e3_]; try rfl) (fun K hK => ?_) AllReadyH.nil; go_simp; (try go_wp2_with fail); refine hK.out _ _ ?_ (fun hHeld => ?_); (focus ((try dsimp only); ((first | (go_keep; done) | exact ⟨aa, ab, ac, ba, bc⟩ | (simp [go_sem, ne1, ne2, ne3, ne4, aa, ab, ac, ba, bc]; done))))); clear hK K; (try simp only [Act.put, p1_, p2_, p3_]))); ((refine wpAnyH_ready (rs := [10]) (by kernel_rfl) (by simp) ?_; refine AllReadyH.cons (by simp only [e1_, e2_, e3_]; try rfl) (fun K hK => ?_) AllReadyH.nil; (refine step_append_ints _ rfl (.tmp 37) (.tmp 39) rfl w2.heap.size _ [] rfl (by first | exact OR.drew (OR.empty' _ w2.heap.size (by simp) Ks) | exact OR.empty' _ w2.heap.size (by simp) Ks) w.heap.size A n cap xs rfl (Kr H2.out) (by simp; omega) Ks ?_; intro v1 w4 hown hgr hat; simp only [List.nil_append] at hown; go_loud (obtain ⟨g, cap1, rfl, hg1, hg2⟩ := hown.notNil hat); go_loud (have hb4 : Below w2.heap.size _ w4 := only_below hgr Ks (by intro g h; cases h; exact Nat.le_refl _)); have hz4 := hb4.size; (try simp at hz4); have hA4 : BM w4 w.heap.size r c A n cap := (Kb hA2); have hB4 : BM w4 (w.heap.size + 1) r2 c2 A' n' cap' := (Kb hB2); have hR4 : BM w4 (w.heap.size + 1 + 1) 0 0 none 0 0 := (Kb hR2); have hbw4 : Below w.heap.size w w4 := (by refine Below.trans ?_ (hb4.mono (by omega)); (repeat (first | (with_reducible (first | exact Below.refl _ _ | assumption | refine below_drewN ?_ _ | refine Below.drew ?_ | refine Below.alloc ?_ ?_ _ | refine Below.setCell ?_ ?_ _ | refine below_i ?_)) | go_size))); clear hgr hat hb4 hA2 hB2 hR2 hbw2 aa ab ac af al ba bb bc bf bl ra rb rc rf rl; obtain ⟨aa, ab, ac, af, al⟩ := hA4.mx; obtain ⟨ba, bb, bc, bf, bl⟩ := hB4.mx; obtain ⟨ra, rb, rc, rf, rl⟩ := hR4.mx); refine hK.out _ _ ?_ (fun hHeld => ?_); (focus ((try dsimp only); ((first | (go_keep; done) | exact ⟨aa, ab, ac, ba, bc⟩ | (simp [go_sem, ne1, ne2, ne3, ne4, aa, ab, ac, ba, bc]; done))))); clear hK K; (try simp only [Act.put, p1_, p2_, p3_]))); ((refine wpAnyH_ready (rs := [13]) (by kernel_rfl) (by simp) ?_; refine AllReadyH.cons (by simp only [e1_, e2_, e3_]; try rfl) (fun K hK => ?_) AllReadyH.nil; (refine step_append_ints _ rfl (.tmp 40) (.tmp 42) rfl w2.heap.size _ xs rfl (by first | exact hown | exact OR.drew hown | exact OR.drewN hown _) w.heap.size A' n' cap' ys rfl (Kr H3.out) (by have := HLX.out; omega) Ks ?_; intro v2 w5 hown2 hgr2 hat2; go_loud (obtain ⟨A5, n5, c5, rfl⟩ := hown2.sliceFormK); go_loud (have hb5 : Below w2.heap.size _ w5 := only_below hgr2 Ks (by intro g h; cases h; exact hg1)); have hz5 := hb5.size; (try simp at hz5); have hA5 : BM w5 w.heap.size r c A n cap := (Kb hA4); have hB5 : BM w5 (w.heap.size + 1) r2 c2 A' n' cap' := (Kb hB4); have hR5 : BM w5 (w.heap.size + 1 + 1) 0 0 none 0 0 := (Kb hR4); have hbw5 : Below w.heap.size w w5 := (by refine Below.trans ?_ (hb5.mono (by omega)); (repeat (first | (with_reducible (first | exact Below.refl _ _ | assumption | refine below_drewN ?_ _ | refine Below.drew ?_ | refine Below.alloc ?_ ?_ _ | refine Below.setCell ?_ ?_ _ | refine below_i ?_)) | go_size))); clear hgr2 hat2 hb5 hA4 hB4 hR4 hbw4 aa ab ac af al ba bb bc bf bl ra rb rc rf rl; obtain ⟨aa, ab, ac, af, al⟩ := hA5.mx; obtain ⟨ba, bb, bc, bf, bl⟩ := hB5.mx; obtain ⟨ra, rb, rc, rf, rl⟩ := hR5.mx); refine hK.out _ _ ?_ (fun hHeld => ?_); (focus ((try dsimp only); ((first | (go_keep; done) | exact ⟨aa, ab, ac, ba, bc⟩ | (simp [go_sem, ne1, ne2, ne3, ne4, aa, ab, ac, ba, bc]; done))))); clear hK K; (try simp only [Act.put, p1_, p2_, p3_]))); ((refine tk_ (i := 14) (v := ?_) (y := Or.inl ⟨by rfl, ?_⟩) (h := ?_); rotate_left; (focus (((intro w hSw; (try dsimp only at hSw); go_simp) <;> (try with_reducible rfl)); done)); (try simp only [Act.put, p1_, p2_, p3_]))); ((refine wpAnyH_ready (rs := [15]) (by kernel_rfl) (by simp) ?_; refine AllReadyH.cons (by simp only [e1_, e2_, e3_]; try rfl) (fun K hK => ?_) AllReadyH.nil; go_simp; (try go_wp2_with fail); refine hK.out _ _ ?_ (fun hHeld => ?_); (focus ((try dsimp only); ((first | (go_keep; done) | exact ⟨aa, ab, ac, ba, bc⟩ | (simp [go_sem, ne1, ne2, ne3, ne4, aa, ab, ac, ba, bc]; done))))); clear hK K; (try simp only [Act.put, p1_, p2_, p3_]))); ((refine tk_ (i := 16) (v := ?_) (y := Or.inl ⟨by rfl, ?_⟩) (h := ?_); rotate_left; (focus (((intro w hSw; (try dsimp only at hSw); go_simp) <;> (try with_reducible rfl)); done)); (try simp only [Act.put, p1_, p2_, p3_]))); (refine wpAnyH_done (by kernel_rfl) ?_ _))
          have hvr := B3.of hR5
          go_wp2_with fail
          refine ret_MB (r := r + r2) (c := c) (A := A5) (n := n5) (cap := c5) Try.results75 rfl (by first | exact BX.put hvr | (with_reducible (repeat (first | exact hvr | refine BX.n_ | refine BX.b_ ?_ | apply BX.drew | apply BX.drewN | refine BX.put ?_ | refine BX.put2 ?_ | refine BX.f_ ?_ | apply BX.alloc | refine B3.n_ | exact B3.of hvr | refine B3.b_ ?_ | apply B3.drew | apply B3.drewN | refine B3.f_ ?_ | apply B3.alloc)))) rfl ?_
          exact MBR.mk rfl (OR.mono (B := w2.heap.size) (Ko hown2) (by omega)) Kw
        · have hrb : decide (r + r2 > 24) = true := decide_eq_true (by omega)
          have e1 : stB r c xs r2 c2 ys = false := by rw [hSB, hm1, hm2, decide_eq_false hr]; simp
          have e2 : stM r c xs r2 c2 ys = .none := by rw [hSM, e1]; rfl
          rw [e1, e2]
          clear hm1 hm2 e1 e2 hSB hSM M M2 hc hlx hly
          go_enter Try.func75, Try.ntmps75
          go_wp2_with fail
          refine (impl_IsMatrix r c A n cap xs _ (C := w.heap.size) (Kr H2.out) Ks hn).mono ?_; rw [HM1.out]; rintro e w1 ⟨rfl, hb1⟩; have hs1 := hb1.size; simp at hs1; have hA : BM w1 w.heap.size r c A n cap := Ka; have hB_ : BM w1 (w.heap.size + 1) r2 c2 A' n' cap' := Ka; have hR : BM w1 (w.heap.size + 1 + 1) 0 0 none 0 0 := Ka; have hbw : Below w.heap.size w w1 := Kw; clear hb1; obtain ⟨aa, ab, ac, af, al⟩ := hA.mx; obtain ⟨ba, bb, bc, bf, bl⟩ := hB_.mx; obtain ⟨ra, rb, rc, rf, rl⟩ := hR.mx
          go_wp2_with fail
          refine (impl_IsMatrix r2 c2 A' n' cap' ys _ (C := w.heap.size) (Kr H3.out) Ks hn').mono ?_; rw [HM2.out]; rintro e w2 ⟨rfl, hb2⟩; have hs2 := hb2.size; (try simp at hs2); have hA2 : BM w2 w.heap.size r c A n cap := (Kb hA); have hB2 : BM w2 (w.heap.size + 1) r2 c2 A' n' cap' := (Kb hB_); have hR2 : BM w2 (w.heap.size + 1 + 1) 0 0 none 0 0 := (Kb hR); have hbw2 : Below w.heap.size w w2 := Kw; clear hb2 hA hB_ hR hbw aa ab ac af al ba bb bc bf bl ra rb rc rf rl; obtain ⟨aa, ab, ac, af, al⟩ := hA2.mx; obtain ⟨ba, bb, bc, bf, bl⟩ := hB2.mx; obtain ⟨ra, rb, rc, rf, rl⟩ := hR2.mx; have hvr := B3.of hR2
          go_wp2_with fail
          refine ret_MB (r := 0) (c := 0) (A := none) (n := 0) (cap := 0) Try.results75 rfl (Kb hvr) rfl ?_; exact MBR.mk rfl (OR.nil_ _ _) Kw
      · have hcb : (c != c2) = true := by simp [hc]
        have e1 : stB r c xs r2 c2 ys = false := by rw [hSB, hm1, hm2, decide_eq_false hc]; rfl
        have e2 : stM r c xs r2 c2 ys = .none := by rw [hSM, e1]; rfl
        rw [e1, e2]
        clear hm1 hm2 e1 e2 hSB hSM M M2 hlx hly
        go_enter Try.func75, Try.ntmps75
        go_wp2_with fail
        refine (impl_IsMatrix r c A n cap xs _ (C := w.heap.size) (Kr H2.out) Ks hn).mono ?_; rw [HM1.out]; rintro e w1 ⟨rfl, hb1⟩; have hs1 := hb1.size; simp at hs1; have hA : BM w1 w.heap.size r c A n cap := Ka; have hB_ : BM w1 (w.heap.size + 1) r2 c2 A' n' cap' := Ka; have hR : BM w1 (w.heap.size + 1 + 1) 0 0 none 0 0 := Ka; have hbw : Below w.heap.size w w1 := Kw; clear hb1; obtain ⟨aa, ab, ac, af, al⟩ := hA.mx; obtain ⟨ba, bb, bc, bf, bl⟩ := hB_.mx; obtain ⟨ra, rb, rc, rf, rl⟩ := hR.mx
        go_wp2_with fail
        refine (impl_IsMatrix r2 c2 A' n' cap' ys _ (C := w.heap.size) (Kr H3.out) Ks hn').mono ?_; rw [HM2.out]; rintro e w2 ⟨rfl, hb2⟩; have hs2 := hb2.size; (try simp at hs2); have hA2 : BM w2 w.heap.size r c A n cap := (Kb hA); have hB2 : BM w2 (w.heap.size + 1) r2 c2 A' n' cap' := (Kb hB_); have hR2 : BM w2 (w.heap.size + 1 + 1) 0 0 none 0 0 := (Kb hR); have hbw2 : Below w.heap.size w w2 := Kw; clear hb2 hA hB_ hR hbw aa ab ac af al ba bb bc bf bl ra rb rc rf rl; obtain ⟨aa, ab, ac, af, al⟩ := hA2.mx; obtain ⟨ba, bb, bc, bf, bl⟩ := hB2.mx; obtain ⟨ra, rb, rc, rf, rl⟩ := hR2.mx; have hvr := B3.of hR2
        go_wp2_with fail
        refine ret_MB (r := 0) (c := 0) (A := none) (n := 0) (cap := 0) Try.results75 rfl (Kb hvr) rfl ?_; exact MBR.mk rfl (OR.nil_ _ _) Kw
end Go.Proofs.Ytacjonkehcamgaa

/-
  DERIVED. The Hermite form, step by step, as functions of row and column: no program in sight.
-/
namespace Go.Proofs.Ytacjonkehcamgaa
set_option linter.unusedVariables false
abbrev Fn2 := Nat → Nat → Int
/-- Row i plus t times row j, numbers beyond the limit marked. -/
def opA (f : Fn2) (i j : Nat) (t : Int) : Fn2 := fun x y => if x = i then addB (f i y) (mulF (f j y) t) else f x y
/-- Row i negated. -/
def opN (f : Fn2) (i : Nat) : Fn2 := fun x y => if x = i then -f i y else f x y
/-- The same, marks kept. -/
def opM (f : Fn2) (i : Nat) : Fn2 := fun x y => if x = i then (if f i y = bad then bad else -f i y) else f x y
/-- A matrix and the account of what is done to it. -/
structure HS where
  f : Fn2
  g : Fn2
def HS.add (s : HS) (i j : Nat) (t : Int) : HS := ⟨opA s.f i j t, opA s.g i j t⟩
def HS.swap (s : HS) (p t : Nat) : HS := ⟨swF s.f p t, swF s.g p t⟩
def HS.neg (s : HS) (i : Nat) : HS := ⟨opM s.f i, opM s.g i⟩
def Num (n : Int) : Prop := -400000000 ≤ n ∧ n ≤ 400000000
theorem Num.isN {n : Int} (h : Num n) : isNum n = true := (isNum_iff n).2 h
theorem Num.of {n : Int} (h : isNum n = true) : Num n := (isNum_iff n).1 h
theorem Num.ne {n : Int} (h : Num n) : n ≠ bad := by unfold Num at h; unfold bad; omega
theorem Num.nb {n : Int} (h : Num n) : NB n := .inr h
theorem NB.num {n : Int} (h : NB n) (h2 : n ≠ bad) : Num n := h.resolve_left h2
/-- In R rows of C cells all are numbers. -/
def OKF (R C : Nat) (f : Fn2) : Prop := ∀ i j, i < R → j < C → Num (f i j)
def NBF (f : Fn2) : Prop := ∀ i j, NB (f i j)
structure HS.OK (R C : Nat) (s : HS) : Prop where
  f : OKF R C s.f
  g : OKF R R s.g
structure HS.NBS (s : HS) : Prop where
  f : NBF s.f
  g : NBF s.g
theorem NB.addB (a b : Int) : NB (addB a b) := by
  unfold Go.Proofs.Ytacjonkehcamgaa.addB
  split
  · exact .inl rfl
  · exact NB.fit _
theorem NB.mulF (a b : Int) : NB (mulF a b) := by
  unfold Go.Proofs.Ytacjonkehcamgaa.mulF
  split
  · exact .inl rfl
  · exact NB.fit _
theorem opA_nb {f : Fn2} (h : NBF f) (i j : Nat) (t : Int) : NBF (opA f i j t) := by
  intro x y
  unfold opA
  split
  · exact NB.addB _ _
  · exact h x y
theorem HS.NBS.add {s : HS} (h : s.NBS) (i j : Nat) (t : Int) : (s.add i j t).NBS := ⟨opA_nb h.f _ _ _, opA_nb h.g _ _ _⟩
theorem addB_ne {a b : Int} (h : addB a b ≠ bad) : a ≠ bad ∧ b ≠ bad ∧ addB a b = a + b ∧ Num (a + b) := by
  unfold addB at h ⊢
  split at h
  · exact absurd rfl h
  · rename_i h1
    rw [if_neg h1]
    refine ⟨fun e => h1 (.inl e), fun e => h1 (.inr e), ?_⟩
    unfold fit at h ⊢
    split at h
    · rename_i h2
      rw [if_pos h2]
      exact ⟨rfl, Num.of h2⟩
    · exact absurd rfl h
theorem mulF_ne {a b : Int} (h : mulF a b ≠ bad) : a ≠ bad ∧ b ≠ bad ∧ mulF a b = a * b ∧ Num (a * b) := by
  unfold mulF at h ⊢
  split at h
  · exact absurd rfl h
  · rename_i h1
    rw [if_neg h1]
    refine ⟨fun e => h1 (.inl e), fun e => h1 (.inr e), ?_⟩
    unfold fit at h ⊢
    split at h
    · rename_i h2
      rw [if_pos h2]
      exact ⟨rfl, Num.of h2⟩
    · exact absurd rfl h
theorem opA_num {f : Fn2} {i j y : Nat} {t : Int} (h : Num (opA f i j t i y)) : f i y ≠ bad ∧ f j y ≠ bad ∧ opA f i j t i y = f i y + f j y * t ∧ Num (f j y * t) := by
  have h1 := h.ne
  unfold opA at h1 ⊢
  rw [if_pos rfl] at h1 ⊢
  obtain ⟨a1, a2, a3, a4⟩ := addB_ne h1
  obtain ⟨b1, b2, b3, b4⟩ := mulF_ne a2
  rw [a3, b3]
  exact ⟨a1, b1, rfl, b4⟩
theorem opA_back {f : Fn2} {R C i j : Nat} {t : Int} (hn : NBF f) (h : OKF R C (opA f i j t)) : OKF R C f := by
  intro x y hx hy
  by_cases hxi : x = i
  · subst hxi
    exact (hn x y).num (opA_num (h x y hx hy)).1
  · have := h x y hx hy
    unfold opA at this
    rwa [if_neg hxi] at this
theorem HS.OK.back {s : HS} {R C i j : Nat} {t : Int} (hn : s.NBS) (h : (s.add i j t).OK R C) : s.OK R C := ⟨opA_back hn.f h.f, opA_back hn.g h.g⟩
theorem opA_other {f : Fn2} {i j x y : Nat} {t : Int} (h : x ≠ i) : opA f i j t x y = f x y := by unfold opA; rw [if_neg h]
/-- Whether row i can take t times row j. -/
def rowOk (f : Fn2) (i j : Nat) (t : Int) (C : Nat) : Prop := ∀ y, y < C → Num (f j y * t) ∧ Num (f i y + f j y * t)
theorem rowOk_iff {f : Fn2} {R C i j : Nat} {t : Int} (h : OKF R C f) (hi : i < R) (hj : j < R) (ht : Num t) : rowOk f i j t C ↔ OKF R C (opA f i j t) := by
  constructor
  · intro hr x y hx hy
    unfold opA
    split
    · obtain ⟨h1, h2⟩ := hr y hy
      rw [mulF_num (h j y hj hy) ht, fit_in h1, addB_num (h i y hi hy) h1, fit_in h2]
      exact h2
    · exact h x y hx hy
  · intro ho y hy
    obtain ⟨h1, h2, h3, h4⟩ := opA_num (ho i y hi hy)
    refine ⟨h4, ?_⟩
    rw [← h3]
    exact ho i y hi hy
theorem rowOk_val {f : Fn2} {R C i j y : Nat} {t : Int} (h : OKF R C f) (hi : i < R) (hj : j < R) (ht : Num t) (hr : rowOk f i j t C) (hy : y < C) : opA f i j t i y = f i y + f j y * t := by
  obtain ⟨h1, h2⟩ := hr y hy
  unfold opA
  rw [if_pos rfl, mulF_num (h j y hj hy) ht, fit_in h1, addB_num (h i y hi hy) h1, fit_in h2]
/-- The quotient that leaves a remainder from 0 on is no greater. -/
theorem ediv_bd {n d : Int} (h : Num n) (hd : d ≠ 0) : Num (n / d) := by
  unfold Num at *
  have := Int.natAbs_ediv_le_natAbs n d
  omega
theorem Num.neg {n : Int} (h : Num n) : Num (-n) := by unfold Num at *; omega
/-- The row from t on, n of them, with the least absolute value in column j that is not 0; -1 if there is none. -/
def lstK (f : Fn2) (j t : Nat) : Nat → Int
  | 0 => -1
  | n + 1 => if f (t + n) j ≠ 0 ∧ (lstK f j t n < 0 ∨ (f (t + n) j).natAbs < (f (lstK f j t n).toNat j).natAbs) then ((t + n : Nat) : Int) else lstK f j t n
theorem lstK_succ (f : Fn2) (j t n : Nat) : lstK f j t (n + 1) = if f (t + n) j ≠ 0 ∧ (lstK f j t n < 0 ∨ (f (t + n) j).natAbs < (f (lstK f j t n).toNat j).natAbs) then ((t + n : Nat) : Int) else lstK f j t n := rfl
theorem lstK_cases (f : Fn2) (j t : Nat) : ∀ n, (lstK f j t n = -1 ∧ ∀ i, i < n → f (t + i) j = 0) ∨ ∃ p, lstK f j t n = (p : Nat) ∧ t ≤ p ∧ p < t + n ∧ f p j ≠ 0 ∧ ∀ i, i < n → f (t + i) j ≠ 0 → (f p j).natAbs ≤ (f (t + i) j).natAbs
  | 0 => .inl ⟨rfl, fun i h => absurd h (Nat.not_lt_zero _)⟩
  | n + 1 => by
    rw [lstK_succ]
    rcases lstK_cases f j t n with ⟨h1, h2⟩ | ⟨p, h1, h2, h3, h4, h5⟩
    · by_cases hz : f (t + n) j = 0
      · left
        rw [if_neg (by simp [hz])]
        refine ⟨h1, fun i hi => ?_⟩
        rcases Nat.lt_or_ge i n with hi' | hi'
        · exact h2 i hi'
        · rw [show i = n by omega]; exact hz
      · right
        rw [if_pos ⟨hz, .inl (by omega)⟩]
        refine ⟨t + n, rfl, by omega, by omega, hz, fun i hi hne => ?_⟩
        rcases Nat.lt_or_ge i n with hi' | hi'
        · exact absurd (h2 i hi') hne
        · rw [show i = n by omega]; exact Nat.le_refl _
    · right
      rw [h1]
      by_cases hc : f (t + n) j ≠ 0 ∧ ((p : Int) < 0 ∨ (f (t + n) j).natAbs < (f (p : Int).toNat j).natAbs)
      · rw [if_pos hc]
        obtain ⟨hz, hc⟩ := hc
        rw [Int.toNat_natCast] at hc
        have hc' : (f (t + n) j).natAbs < (f p j).natAbs := hc.resolve_left (by omega)
        refine ⟨t + n, rfl, by omega, by omega, hz, fun i hi hne => ?_⟩
        rcases Nat.lt_or_ge i n with hi' | hi'
        · have := h5 i hi' hne; omega
        · rw [show i = n by omega]; exact Nat.le_refl _
      · rw [if_neg hc]
        rw [Int.toNat_natCast] at hc
        refine ⟨p, rfl, h2, by omega, h4, fun i hi hne => ?_⟩
        rcases Nat.lt_or_ge i n with hi' | hi'
        · exact h5 i hi' hne
        · rw [show i = n by omega] at hne ⊢
          refine Nat.le_of_not_lt fun hlt => hc ⟨hne, .inr hlt⟩
def lst (R : Nat) (f : Fn2) (j t : Nat) : Int := lstK f j t (R - t)
/-- Whether another row from t on has something in column j. -/
def oth (R : Nat) (f : Fn2) (j t p : Nat) : Bool := (List.range (R - t)).any fun n => decide (t + n ≠ p) && decide (f (t + n) j ≠ 0)
theorem oth_iff {R : Nat} {f : Fn2} {j t p : Nat} : oth R f j t p = true ↔ ∃ i, t ≤ i ∧ i < R ∧ i ≠ p ∧ f i j ≠ 0 := by
  unfold oth
  rw [List.any_eq_true]
  constructor
  · rintro ⟨n, hn, h⟩
    have hn' := List.mem_range.1 hn
    rw [Bool.and_eq_true, decide_eq_true_eq, decide_eq_true_eq] at h
    exact ⟨t + n, by omega, by omega, h.1, h.2⟩
  · rintro ⟨i, h1, h2, h3, h4⟩
    refine ⟨i - t, List.mem_range.2 (by omega), ?_⟩
    rw [show t + (i - t) = i by omega, Bool.and_eq_true, decide_eq_true_eq, decide_eq_true_eq]
    exact ⟨h3, h4⟩
theorem oth_no {R : Nat} {f : Fn2} {j t p : Nat} (h : ∀ i, t ≤ i → i < R → ¬ (i ≠ p ∧ f i j ≠ 0)) : oth R f j t p = false := by
  refine Bool.eq_false_iff.2 fun hc => ?_
  obtain ⟨i, h1, h2, h3⟩ := oth_iff.1 hc
  exact h i h1 h2 h3
/-- What row t + n takes in a sweep. -/
def swS (j p t : Nat) (s : HS) : Nat → HS
  | 0 => s
  | n + 1 => if t + n ≠ p ∧ (swS j p t s n).f (t + n) j ≠ 0 then (swS j p t s n).add (t + n) p (-((swS j p t s n).f (t + n) j / (swS j p t s n).f p j)) else swS j p t s n
theorem swS_succ (j p t : Nat) (s : HS) (n : Nat) : swS j p t s (n + 1) = if t + n ≠ p ∧ (swS j p t s n).f (t + n) j ≠ 0 then (swS j p t s n).add (t + n) p (-((swS j p t s n).f (t + n) j / (swS j p t s n).f p j)) else swS j p t s n := rfl
theorem swS_nb {j p t : Nat} {s : HS} (h : s.NBS) : ∀ n, (swS j p t s n).NBS
  | 0 => h
  | n + 1 => by
    rw [swS_succ]
    split
    · exact (swS_nb h n).add _ _ _
    · exact swS_nb h n
theorem swS_back {j p t R C : Nat} {s : HS} (h : s.NBS) {n : Nat} (hk : (swS j p t s (n + 1)).OK R C) : (swS j p t s n).OK R C := by
  rw [swS_succ] at hk
  split at hk
  · exact HS.OK.back (swS_nb h n) hk
  · exact hk
theorem swS_back' {j p t R C : Nat} {s : HS} (h : s.NBS) (n : Nat) : ∀ m, (swS j p t s (n + m)).OK R C → (swS j p t s n).OK R C
  | 0, hk => hk
  | m + 1, hk => swS_back' h n m (swS_back h hk)
/-- Row p stays. -/
theorem swS_p {j p t : Nat} {s : HS} (y : Nat) : ∀ n, (swS j p t s n).f p y = s.f p y
  | 0 => rfl
  | n + 1 => by
    rw [swS_succ]
    split
    · rename_i h
      show opA _ _ _ _ p y = _
      rw [opA_other (Ne.symm h.1)]
      exact swS_p y n
    · exact swS_p y n
/-- Rows that have not come up stay. -/
theorem swS_late {j p t : Nat} {s : HS} {x : Nat} (y : Nat) : ∀ n, t + n ≤ x → (swS j p t s n).f x y = s.f x y
  | 0, _ => rfl
  | n + 1, hx => by
    rw [swS_succ]
    split
    · show opA _ _ _ _ x y = _
      rw [opA_other (by omega)]
      exact swS_late y n (by omega)
    · exact swS_late y n (by omega)
theorem swS_early {j p t : Nat} {s : HS} {x : Nat} (y : Nat) (hx : x < t) : ∀ n, (swS j p t s n).f x y = s.f x y
  | 0 => rfl
  | n + 1 => by
    rw [swS_succ]
    split
    · show opA _ _ _ _ x y = _
      rw [opA_other (by omega)]
      exact swS_early y hx n
    · exact swS_early y hx n
/-- What stands in column j behind a sweep. -/
theorem swS_col {j p t R C : Nat} {s : HS} (h : s.NBS) (hj : j < C) (hp : p < R) (hpj : s.f p j ≠ 0) : ∀ n, t + n ≤ R → (swS j p t s n).OK R C → ∀ x, t ≤ x → x < t + n → x ≠ p → (swS j p t s n).f x j = s.f x j % s.f p j
  | 0, _, _, x, h1, h2, _ => by omega
  | n + 1, hn, hk, x, h1, h2, h3 => by
    have hk0 := swS_back h hk
    have hsp := swS_p (j := j) (p := p) (t := t) (s := s) j n
    have hnp : Num (s.f p j) := by rw [← hsp]; exact hk0.f p j hp hj
    by_cases hx : x = t + n
    · subst hx
      have hl := swS_late (j := j) (p := p) (t := t) (s := s) (x := t + n) j n (Nat.le_refl _)
      have hnx : Num (s.f (t + n) j) := by rw [← hl]; exact hk0.f _ j (by omega) hj
      rw [swS_succ] at hk ⊢
      by_cases hz : (swS j p t s n).f (t + n) j = 0
      · rw [if_neg (by simp [hz]), hz]
        rw [← hl, hz, Int.zero_emod]
      · rw [if_pos ⟨h3, hz⟩] at hk ⊢
        have hN := hk.f (t + n) j (by omega) hj
        obtain ⟨-, -, he, -⟩ := opA_num hN
        show opA _ _ _ _ (t + n) j = _
        rw [he, hl, hsp]
        have := Int.mul_ediv_add_emod (s.f (t + n) j) (s.f p j)
        rw [Int.mul_neg]
        omega
    · have hxl : x < t + n := by omega
      have ih := swS_col h hj hp hpj n (by omega) hk0 x h1 hxl h3
      rw [swS_succ]
      split
      · show opA _ _ _ _ x j = _
        rw [opA_other hx]
        exact ih
      · exact ih
/-- What rows 0 to n - 1 take when row t is done. -/
def abS (j t : Nat) (s : HS) : Nat → HS
  | 0 => s
  | n + 1 => (abS j t s n).add n t (-((abS j t s n).f n j / (abS j t s n).f t j))
theorem abS_succ (j t : Nat) (s : HS) (n : Nat) : abS j t s (n + 1) = (abS j t s n).add n t (-((abS j t s n).f n j / (abS j t s n).f t j)) := rfl
theorem abS_nb {j t : Nat} {s : HS} (h : s.NBS) : ∀ n, (abS j t s n).NBS
  | 0 => h
  | n + 1 => (abS_nb h n).add _ _ _
theorem abS_back {j t R C : Nat} {s : HS} (h : s.NBS) {n : Nat} (hk : (abS j t s (n + 1)).OK R C) : (abS j t s n).OK R C := HS.OK.back (abS_nb h n) hk
theorem abS_back' {j t R C : Nat} {s : HS} (h : s.NBS) (n : Nat) : ∀ m, (abS j t s (n + m)).OK R C → (abS j t s n).OK R C
  | 0, hk => hk
  | m + 1, hk => abS_back' h n m (abS_back h hk)
theorem abS_late {j t : Nat} {s : HS} {x : Nat} (y : Nat) : ∀ n, n ≤ x → (abS j t s n).f x y = s.f x y
  | 0, _ => rfl
  | n + 1, hx => by
    rw [abS_succ]
    show opA _ _ _ _ x y = _
    rw [opA_other (by omega)]
    exact abS_late y n (by omega)
def noBad (x : Int) : Bool := !(x == -4611686018427387904)
def HS.ok (R C : Nat) (s : HS) : Bool := (tb R C s.f).all noBad && (tb R R s.g).all noBad
theorem noBad_num {x : Int} (h : NB x) : noBad x = true ↔ Num x := by
  unfold noBad
  rw [Bool.not_eq_true', beq_eq_false_iff_ne]
  exact ⟨fun h2 => h.num h2, fun h2 => h2.ne⟩
theorem tb_all {R C : Nat} {f : Fn2} (h : NBF f) : (tb R C f).all noBad = true ↔ OKF R C f := by
  rw [List.all_eq_true]
  constructor
  · intro ha i j hi hj
    refine (noBad_num (h i j)).1 (ha _ ?_)
    rw [← tb_at (f := f) hi hj]
    have hl := idx_nat hi hj
    have : i * C + j < (tb R C f).length := by rw [tb_len]; exact hl
    rw [List.getD_eq_getElem?_getD, List.getElem?_eq_getElem this]
    exact List.getElem_mem this
  · intro ho x hx
    exact tb_mem (P := fun x => noBad x = true) (fun i j hi hj => (noBad_num (h i j)).2 (ho i j hi hj)) x hx
theorem HS.ok_iff {R C : Nat} {s : HS} (h : s.NBS) : s.ok R C = true ↔ s.OK R C := by
  unfold HS.ok
  rw [Bool.and_eq_true, tb_all h.f, tb_all h.g]
  exact ⟨fun h => ⟨h.1, h.2⟩, fun h => ⟨h.f, h.g⟩⟩
/-- The measure of the inner loop. -/
def hmMs (R j t : Nat) (s : HS) (p : Nat) : Nat := if oth R s.f j t p then (s.f p j).natAbs else 0
theorem hmMs_lt {R C j t : Nat} {s : HS} {p : Nat} (h : s.NBS) (hj : j < C) (hp : p < R) (ht : t ≤ p) (hpj : s.f p j ≠ 0) (ho : oth R s.f j t p = true) (hk : (swS j p t s (R - t)).OK R C) :
    hmMs R j t (swS j p t s (R - t)) (lst R (swS j p t s (R - t)).f j t).toNat < hmMs R j t s p := by
  have hcol := swS_col h hj hp hpj (R - t) (by omega) hk
  have hpp := swS_p (j := j) (p := p) (t := t) (s := s) j (R - t)
  generalize (swS j p t s (R - t)) = s' at *
  unfold hmMs
  rw [if_pos ho]
  by_cases ho2 : oth R s'.f j t (lst R s'.f j t).toNat = true
  · rw [if_pos ho2]
    obtain ⟨i, h1, h2, h3, h4⟩ := oth_iff.1 ho2
    rcases lstK_cases s'.f j t (R - t) with ⟨e1, e2⟩ | ⟨q, e1, e2, e3, e4, e5⟩
    · have := e2 (i - t) (by omega)
      rw [show t + (i - t) = i by omega] at this
      exact absurd this h4
    · have e1' : lst R s'.f j t = (q : Int) := e1
      rw [e1', Int.toNat_natCast] at h3 ⊢
      have hrem : ∀ x, t ≤ x → x < R → x ≠ p → (s'.f x j).natAbs < (s.f p j).natAbs := fun x a b c => by
        rw [hcol x a (by omega) c]
        have h5 := Int.emod_nonneg (s.f x j) hpj
        have h6 := Int.emod_lt (s.f x j) hpj
        omega
      by_cases hqp : q = p
      · subst hqp
        have h7 := hrem i h1 h2 h3
        have h8 := e5 (i - t) (by omega)
        rw [show t + (i - t) = i by omega] at h8
        have := h8 h4
        omega
      · exact hrem q e2 (by omega) hqp
  · rw [if_neg ho2]
    omega
/-- Sweeps till row p alone has something in column j. -/
def hmIn (R C j t : Nat) (s : HS) (p : Nat) : Option (HS × Nat) :=
  if oth R s.f j t p then
    if (swS j p t s (R - t)).ok R C then
      if h : hmMs R j t (swS j p t s (R - t)) (lst R (swS j p t s (R - t)).f j t).toNat < hmMs R j t s p then hmIn R C j t (swS j p t s (R - t)) (lst R (swS j p t s (R - t)).f j t).toNat else none
    else none
  else some (s, p)
termination_by hmMs R j t s p
theorem hmIn_done {R C j t : Nat} {s : HS} {p : Nat} (h : oth R s.f j t p = false) : hmIn R C j t s p = some (s, p) := by
  rw [hmIn, if_neg (by rw [h]; exact Bool.false_ne_true)]
theorem hmIn_bad {R C j t : Nat} {s : HS} {p : Nat} (ho : oth R s.f j t p = true) (h : (swS j p t s (R - t)).ok R C = false) : hmIn R C j t s p = none := by
  rw [hmIn, if_pos ho, if_neg (by rw [h]; exact Bool.false_ne_true)]
theorem hmIn_next {R C j t : Nat} {s : HS} {p : Nat} (hn : s.NBS) (hj : j < C) (hp : p < R) (ht : t ≤ p) (hpj : s.f p j ≠ 0) (ho : oth R s.f j t p = true) (h : (swS j p t s (R - t)).ok R C = true) :
    hmIn R C j t s p = hmIn R C j t (swS j p t s (R - t)) (lst R (swS j p t s (R - t)).f j t).toNat := by
  conv => lhs; rw [hmIn]
  rw [if_pos ho, if_pos h, dif_pos (hmMs_lt hn hj hp ht hpj ho ((HS.ok_iff (swS_nb hn _)).1 h))]
/-- Row p to place t, its sign, the rows above. -/
def hmS1 (t p : Nat) (s : HS) : HS := if p = t then s else s.swap p t
def hmS2 (j t : Nat) (s : HS) : HS := if s.f t j < 0 then s.neg t else s
def hmFin (R C j t : Nat) (p : Nat) (s : HS) : Option HS := if (abS j t (hmS2 j t (hmS1 t p s)) t).ok R C then some (abS j t (hmS2 j t (hmS1 t p s)) t) else none
/-- Columns j and the m - 1 behind it; the number of rows that are done. -/
def hmOut (R C : Nat) : Nat → Nat → Nat → HS → Option (HS × Nat)
  | 0, _, t, s => some (s, t)
  | m + 1, j, t, s =>
    if t < R then
      if lst R s.f j t < 0 then hmOut R C m (j + 1) t s
      else (hmIn R C j t s (lst R s.f j t).toNat).bind fun x => (hmFin R C j t x.2 x.1).bind fun s' => hmOut R C m (j + 1) (t + 1) s'
    else some (s, t)
/-- What follows in a column. -/
def hmGo (R C m j t : Nat) (o : Option (HS × Nat)) : Option (HS × Nat) := o.bind fun x => (hmFin R C j t x.2 x.1).bind fun s' => hmOut R C m (j + 1) (t + 1) s'
theorem hmOut_zero (R C j t : Nat) (s : HS) : hmOut R C 0 j t s = some (s, t) := rfl
theorem hmOut_full {R C m j t : Nat} {s : HS} (h : ¬ t < R) : hmOut R C m j t s = some (s, t) := by
  cases m with
  | zero => rfl
  | succ m => show (if _ then _ else _) = _; rw [if_neg h]
theorem hmOut_skip {R C m j t : Nat} {s : HS} (h : t < R) (h2 : lst R s.f j t < 0) : hmOut R C (m + 1) j t s = hmOut R C m (j + 1) t s := by
  show (if _ then (if _ then _ else _) else _) = _
  rw [if_pos h, if_pos h2]
theorem hmOut_go {R C m j t : Nat} {s : HS} (h : t < R) (h2 : ¬ lst R s.f j t < 0) : hmOut R C (m + 1) j t s = hmGo R C m j t (hmIn R C j t s (lst R s.f j t).toNat) := by
  show (if _ then (if _ then _ else _) else _) = _
  rw [if_pos h, if_neg h2]
  rfl
def idF : Fn2 := fun i j => if i = j then 1 else 0
/-- The Hermite form, what makes it, and the number of rows that are not zeros. -/
def hmRun (R C : Nat) (f : Fn2) : Option (HS × Nat) := hmOut R C C 0 0 ⟨f, idF⟩
end Go.Proofs.Ytacjonkehcamgaa

/-
  DERIVED. Operations on rows: IsRowOp and DivideFloor of both, rowOp and l5Do for sums and signs.
-/
namespace Go.Proofs.Ytacjonkehcamgaa
open Go.RowKit
set_option linter.unusedVariables false
set_option linter.unusedSimpArgs false
theorem impl_IsRowOp_add (R i j : Nat) (t : Int) (w : World) (hi : i < R) (hj : j < R) (hij : i ≠ j) (ht : Num t) (hR : R ≤ 24) :
    Calls Try.prog 142 #[.agg #[.int .i64 2, .int .i64 i, .int .i64 j, .int .i64 t], .int .i64 R] w (BV (.bool true) w) := by
  obtain ⟨ht1, ht2⟩ := ht
  have hb : ((i : Int) != (j : Int)) = true := by simp; omega
  clear hij
  go_enter Try.func142, Try.ntmps142
  go_wp2_with (first | (go_at_call 166; (first | refine (impl_IsNumber_yes _ _ (by omega)).mono ?_ | refine (impl_IsNumber_no _ _ (by omega)).mono ?_ | refine (impl_IsNumber _ _).mono ?_); rintro e w' ⟨rfl, rfl⟩))
  go_ret
  exact BV.mk rfl Kw
theorem impl_IsRowOp_swap (R i j : Nat) (w : World) (hi : i < R) (hj : j < R) (hij : i ≠ j) (hR : R ≤ 24) :
    Calls Try.prog 142 #[.agg #[.int .i64 0, .int .i64 i, .int .i64 j, .int .i64 0], .int .i64 R] w (BV (.bool true) w) := by
  have hb : ((i : Int) != (j : Int)) = true := by simp; omega
  clear hij
  go_enter Try.func142, Try.ntmps142
  go_wp2_with (first | (go_at_call 166; (first | refine (impl_IsNumber_yes _ _ (by omega)).mono ?_ | refine (impl_IsNumber_no _ _ (by omega)).mono ?_ | refine (impl_IsNumber _ _).mono ?_); rintro e w' ⟨rfl, rfl⟩))
  go_ret
  exact BV.mk rfl Kw
theorem impl_IsRowOp_neg (R i : Nat) (w : World) (hi : i < R) (hR : R ≤ 24) :
    Calls Try.prog 142 #[.agg #[.int .i64 1, .int .i64 i, .int .i64 i, .int .i64 0], .int .i64 R] w (BV (.bool true) w) := by
  go_enter Try.func142, Try.ntmps142
  go_wp2_with (first | (go_at_call 166; (first | refine (impl_IsNumber_yes _ _ (by omega)).mono ?_ | refine (impl_IsNumber_no _ _ (by omega)).mono ?_ | refine (impl_IsNumber _ _).mono ?_); rintro e w' ⟨rfl, rfl⟩))
  go_ret
  exact BV.mk rfl Kw
/-- Three results: two numbers and a flag. -/
def IIE (a b : Int) (c : Bool) (w : World) (e : Ending) (w' : World) : Prop := e = .returned (.tuple #[.int .i64 a, .int .i64 b, .bool c]) ∧ w = w'
theorem IIE.mk {a a' b b' : Int} {c : Bool} {w : World} (h : a = a') (h' : b = b') : IIE a' b' c w (.returned (.tuple #[.int .i64 a, .int .i64 b, .bool c])) w := by
  subst h; subst h'; exact ⟨rfl, rfl⟩
theorem emod_eq_abs {a d : Int} (h1 : 0 ≤ a) (h2 : a < d.natAbs) : a % d = a := by
  rcases Int.natAbs_eq d with e | e
  · exact Int.emod_eq_of_lt h1 (by omega)
  · rw [show d = -(d.natAbs : Int) from e, Int.emod_neg]; exact Int.emod_eq_of_lt h1 h2
theorem emod_of_tmod_ge {n d : Int} (h : 0 ≤ n.tmod d) (hd : d ≠ 0) : n.tmod d = n % d := by
  have h1 := Int.tmod_add_mul_tdiv n d
  have h2 : (n.tmod d).natAbs < d.natAbs := by rw [Int.natAbs_tmod]; exact Nat.mod_lt _ (by omega)
  have h3 : n % d = n.tmod d := by
    have : n % d = (n.tmod d) % d := by
      conv => lhs; rw [← h1]
      rw [Int.add_mul_emod_self_left]
    rw [this, emod_eq_abs h (by omega)]
  exact h3.symm
theorem emod_of_tmod_lt {n d : Int} (h : n.tmod d < 0) (hd : d ≠ 0) : n.tmod d + d.natAbs = n % d := by
  have h1 := Int.tmod_add_mul_tdiv n d
  have h2 : (n.tmod d).natAbs < d.natAbs := by rw [Int.natAbs_tmod]; exact Nat.mod_lt _ (by omega)
  have h3 : n % d = (n.tmod d + d.natAbs) % d := by
    have e0 : n % d = (n.tmod d) % d := by
      conv => lhs; rw [← h1]
      rw [Int.add_mul_emod_self_left]
    rw [e0]
    rcases Int.natAbs_eq d with e | e
    · rw [← e]; simp
    · have : ((d.natAbs : Nat) : Int) = -d := by omega
      rw [this, ← Int.sub_eq_add_neg]; simp
  rw [h3, emod_eq_abs (by omega) (by omega)]
theorem tdiv_of_rem {n d : Int} (hd : d ≠ 0) : (n - n % d).tdiv d = n / d := by
  have h := Int.mul_ediv_add_emod n d
  rw [show n - n % d = d * (n / d) by omega, Int.mul_tdiv_cancel_left _ hd]
theorem floor_pos {n d : Int} (hd : 0 < d) : (if n.tmod d < 0 then n.tdiv d - 1 else n.tdiv d) = n / d := by
  have h1 := Int.tmod_add_mul_tdiv n d
  have h0 := Int.mul_ediv_add_emod n d
  split
  · rename_i h
    have h2 := emod_of_tmod_lt h (by omega)
    have : d * (n / d) = d * (n.tdiv d - 1) := by rw [Int.mul_sub, Int.mul_one]; omega
    exact (Int.eq_of_mul_eq_mul_left (by omega) this).symm
  · rename_i h
    have h2 := emod_of_tmod_ge (n := n) (d := d) (by omega) (by omega)
    have : d * (n / d) = d * (n.tdiv d) := by omega
    exact (Int.eq_of_mul_eq_mul_left (by omega) this).symm
theorem ediv_abs {n d : Int} (hd : d < 0) : n / d = -(n / (d.natAbs : Int)) := by
  rw [show d = -(d.natAbs : Int) by omega, Int.ediv_neg]; simp
set_option maxHeartbeats 1000000 in
theorem impl_DivideFloor (n d : Int) (w : World) (hn : Num n) (hd : Num d) (h0 : d ≠ 0) : Calls Try.prog 147 #[.int .i64 n, .int .i64 d] w (IIE (n / d) (n % d) true w) := by
  obtain ⟨n1, n2⟩ := hn
  obtain ⟨d1, d2⟩ := hd
  have hdb : (d == 0) = false := by simpa using h0
  have hd0 : ¬ d = 0 := h0
  have hT : (n.tmod d).natAbs < d.natAbs := by rw [Int.natAbs_tmod]; exact Nat.mod_lt _ (by omega)
  have hE := Int.emod_nonneg n h0
  have hE2 := Int.emod_lt n h0
  have hq := tdiv_of_rem (n := n) h0
  have HQ := Lib.hid hq
  have hqb := ediv_bd (n := n) (d := d) ⟨n1, n2⟩ h0
  obtain ⟨q1, q2⟩ := hqb
  clear hq h0
  by_cases hs : n.tmod d < 0
  · have hm := emod_of_tmod_lt hs hd0
    have HM := Lib.hid hm
    have g2 : IntKind.i64.wrap (n.tmod d + d.natAbs) = n.tmod d + d.natAbs := IntWalk.i64_in _ (by omega)
    have hb3 : n.tmod d + d.natAbs = n % d := hm
    have g3 : -800000000 ≤ (n - (n.tmod d + d.natAbs)).tdiv d ∧ (n - (n.tmod d + d.natAbs)).tdiv d ≤ 800000000 := by rw [hm, HQ.out]; omega
    obtain ⟨g3, g4⟩ := g3
    clear hm hb3
    go_enter Try.func147, Try.ntmps147
    go_wp2_with (first | (go_at_call 166; (first | refine (impl_IsNumber_yes _ _ (by omega)).mono ?_ | refine (impl_IsNumber_no _ _ (by omega)).mono ?_ | refine (impl_IsNumber _ _).mono ?_); rintro e w' ⟨rfl, rfl⟩) | (go_at_call 169; refine (impl_absInt _ _ (by omega) (by omega)).mono ?_; rintro e w' ⟨rfl, rfl⟩))
    go_ret3
    exact IIE.mk (by rw [HM.out, HQ.out]) (by rw [HM.out])
  · have hm := emod_of_tmod_ge (n := n) (d := d) (by omega) hd0
    have HM := Lib.hid hm
    have g3 : -800000000 ≤ (n - n.tmod d).tdiv d ∧ (n - n.tmod d).tdiv d ≤ 800000000 := by rw [hm, HQ.out]; omega
    obtain ⟨g3, g4⟩ := g3
    clear hm
    go_enter Try.func147, Try.ntmps147
    go_wp2_with (first | (go_at_call 166; (first | refine (impl_IsNumber_yes _ _ (by omega)).mono ?_ | refine (impl_IsNumber_no _ _ (by omega)).mono ?_ | refine (impl_IsNumber _ _).mono ?_); rintro e w' ⟨rfl, rfl⟩) | (go_at_call 169; refine (impl_absInt _ _ (by omega) (by omega)).mono ?_; rintro e w' ⟨rfl, rfl⟩))
    go_ret3
    exact IIE.mk (by rw [HM.out, HQ.out]) (by rw [HM.out])
theorem spec_l1Floor (n d : Int) (w : World) (hn : Num n) (hd : Num d) (h0 : 0 < d) : Calls Try.prog 234 #[.int .i64 n, .int .i64 d] w (EV (.int .i64 (n / d)) w) := by
  obtain ⟨n1, n2⟩ := hn
  obtain ⟨d1, d2⟩ := hd
  have hF := floor_pos (n := n) h0
  have hd0 : ¬ d = 0 := by omega
  have hdb : (d == 0) = false := by simpa using hd0
  have hT : (n.tmod d).natAbs < d.natAbs := by rw [Int.natAbs_tmod]; exact Nat.mod_lt _ (by omega)
  have hD : (n.tdiv d).natAbs ≤ n.natAbs := by rw [Int.natAbs_tdiv]; exact Nat.div_le_self _ _
  by_cases hs : n.tmod d < 0
  · rw [if_pos hs] at hF
    have HF := Lib.hid hF
    clear hF
    go_enter Try.func234, Try.ntmps234
    go_wp2
    go_ret
    exact EV.mk (vint HF.out)
  · rw [if_neg hs] at hF
    have HF := Lib.hid hF
    clear hF
    go_enter Try.func234, Try.ntmps234
    go_wp2
    go_ret
    exact EV.mk (vint HF.out)
set_option maxHeartbeats 1000000 in
theorem spec_DivideFloor (n d : Int) (w : World) (hn : Num n) (hd : Num d) (h0 : d ≠ 0) : Calls Try.prog 208 #[.int .i64 n, .int .i64 d] w (IIE (n / d) (n % d) true w) := by
  have hna := hn
  obtain ⟨n1, n2⟩ := hn
  obtain ⟨d1, d2⟩ := hd
  have hdb : (d == 0) = false := by simpa using h0
  have hab : Num (d.natAbs : Int) ∧ 0 < (d.natAbs : Int) := by unfold Num; omega
  have HAB := Lib.hid hab
  have HNA := Lib.hid hna
  have hm := Int.mul_ediv_add_emod n d
  have hE := Int.emod_nonneg n h0
  have hE2 := Int.emod_lt n h0
  by_cases hs : d < 0
  · have hq := ediv_abs (n := n) hs
    have hdn : (d.natAbs : Int) = -d := by omega
    have hqb := ediv_bd (n := n) (d := (d.natAbs : Int)) hna (by omega)
    obtain ⟨q1, q2⟩ := hqb
    have hm2 : (d.natAbs : Int) * (n / (d.natAbs : Int)) = n - n % d := by
      rw [hq] at hm
      rw [hdn] at hm ⊢
      rw [Int.mul_neg, ← Int.neg_mul] at hm
      omega
    have HM := Lib.hid hm2
    have HQ := Lib.hid hq
    have hm3 : -2000000000 ≤ (d.natAbs : Int) * (n / (d.natAbs : Int)) ∧ (d.natAbs : Int) * (n / (d.natAbs : Int)) ≤ 2000000000 := by omega
    obtain ⟨m1, m2⟩ := hm3
    have g1 : IntKind.i64.wrap ((d.natAbs : Int) * (n / (d.natAbs : Int))) = (d.natAbs : Int) * (n / (d.natAbs : Int)) := IntWalk.i64_in _ (by omega)
    clear hm hm2 hq h0 hdn hab hna
    go_enter Try.func208, Try.ntmps208
    go_wp2_with (first | (go_at_call 194; (first | refine (spec_IsNumber_yes _ _ (by omega)).mono ?_ | refine (spec_IsNumber_no _ _ (by omega)).mono ?_ | refine (spec_IsNumber _ _).mono ?_); rintro e w' ⟨rfl, rfl⟩) | (go_at_call 224; refine (spec_l1Abs _ _ (by omega) (by omega)).mono ?_; rintro e w' ⟨rfl, rfl⟩))
    refine (spec_l1Floor n d.natAbs _ HNA.out HAB.out.1 HAB.out.2).mono ?_
    rintro e w' ⟨rfl, rfl⟩
    go_wp2_with (first | (go_at_call 224; refine (spec_l1Abs _ _ (by omega) (by omega)).mono ?_; rintro e w' ⟨rfl, rfl⟩))
    go_ret3
    exact IIE.mk (by rw [HQ.out]) (by rw [HM.out]; omega)
  · have hdn : (d.natAbs : Int) = d := by omega
    have HDN := Lib.hid hdn
    have hqb := ediv_bd (n := n) (d := d) hna h0
    obtain ⟨q1, q2⟩ := hqb
    have hm2 : d * (n / d) = n - n % d := by omega
    have HM := Lib.hid hm2
    have hm3 : -2000000000 ≤ d * (n / d) ∧ d * (n / d) ≤ 2000000000 := by omega
    obtain ⟨m1, m2⟩ := hm3
    have g1 : IntKind.i64.wrap (d * (n / d)) = d * (n / d) := IntWalk.i64_in _ (by omega)
    clear hm hm2 h0 hdn hab hna
    go_enter Try.func208, Try.ntmps208
    go_wp2_with (first | (go_at_call 194; (first | refine (spec_IsNumber_yes _ _ (by omega)).mono ?_ | refine (spec_IsNumber_no _ _ (by omega)).mono ?_ | refine (spec_IsNumber _ _).mono ?_); rintro e w' ⟨rfl, rfl⟩) | (go_at_call 224; refine (spec_l1Abs _ _ (by omega) (by omega)).mono ?_; rintro e w' ⟨rfl, rfl⟩))
    refine (spec_l1Floor n d.natAbs _ HNA.out HAB.out.1 HAB.out.2).mono ?_
    rintro e w' ⟨rfl, rfl⟩
    rw [HDN.out]
    go_wp2_with (first | (go_at_call 224; refine (spec_l1Abs _ _ (by omega) (by omega)).mono ?_; rintro e w' ⟨rfl, rfl⟩))
    go_ret3
    exact IIE.mk rfl (by rw [HM.out]; omega)
/-- Row i done in its first k columns. -/
def opK (f : Fn2) (i j : Nat) (t : Int) (k : Nat) : Fn2 := fun x y => if x = i ∧ y < k then f i y + f j y * t else f x y
theorem opK_zero (f : Fn2) (i j : Nat) (t : Int) : opK f i j t 0 = f := by funext x y; simp [opK]
theorem opK_step (f : Fn2) (i j : Nat) (t : Int) (k : Nat) : upd (opK f i j t k) i k (f i k + f j k * t) = opK f i j t (k + 1) := by
  funext x y
  unfold upd opK
  by_cases h : x = i ∧ y = k
  · rw [if_pos h, if_pos ⟨h.1, by omega⟩, h.2]
  · rw [if_neg h]
    by_cases h2 : x = i ∧ y < k
    · rw [if_pos h2, if_pos ⟨h2.1, by omega⟩]
    · rw [if_neg h2, if_neg]
      rintro ⟨h3, h4⟩
      exact h2 ⟨h3, by have : y ≠ k := fun e => h ⟨h3, e⟩; omega⟩
theorem opK_at (f : Fn2) (i j : Nat) (t : Int) (k : Nat) : opK f i j t k i k = f i k := by simp [opK]
theorem opK_atj {f : Fn2} {i j : Nat} (h : i ≠ j) (t : Int) (k : Nat) : opK f i j t k j k = f j k := by simp [opK, Ne.symm h]
theorem opK_end {f : Fn2} {R C i j : Nat} {t : Int} (h : OKF R C f) (hi : i < R) (hj : j < R) (ht : Num t) (hr : rowOk f i j t C) : tb R C (opK f i j t C) = tb R C (opA f i j t) :=
  tb_ext fun x y hx hy => by
    unfold opK
    by_cases h2 : x = i
    · subst h2
      rw [if_pos ⟨rfl, hy⟩, rowOk_val h hi hj ht hr hy]
    · rw [if_neg (fun h3 => h2 h3.1), opA_other h2]
/-- A sum of rows, as far as it goes. -/
def RO (f : Fn2) (i j : Nat) (t : Int) (R C : Nat) (sv : Value) (B : Nat) (w : World) (e : Ending) (w' : World) : Prop :=
  (rowOk f i j t C ∧ WW (.bool true) sv B (tb R C (opA f i j t)) w e w') ∨ (¬ rowOk f i j t C ∧ ∃ f', WW (.bool false) sv B (tb R C f') w e w')
set_option maxRecDepth 100000 in
set_option maxHeartbeats 4000000 in
theorem impl_rowOp_add (R C p t : Nat) (m : Int) (A : Option Addr) (n cap : Nat) (f : Fn2) (w : World) {B : Nat} (h : OR w B (.slice A n cap) (tb R C f)) (hp : p < R) (ht : t < R) (hpt : p ≠ t) (hm : Num m) (hf : OKF R C f) (hC0 : 0 < C) (hC : C ≤ 24) (hR : R ≤ 24) :
    Calls Try.prog 165 #[.agg #[.int .i64 R, .int .i64 C, .slice A n cap], .agg #[.int .i64 2, .int .i64 p, .int .i64 t, .int .i64 m]] w (RO f p t m R C (.slice A n cap) B w) := by
  have hn := h.lenEq
  rw [tb_len] at hn
  have hcaps := h.caps
  have hP := idx_nat hp (show C - 1 < C by omega)
  have hT := idx_nat ht (show C - 1 < C by omega)
  obtain ⟨g, rfl, hg1, hg2⟩ := h.begins (by rw [tb_len]; omega)
  have hP2 : p * C + C ≤ n := by omega
  have hT2 : t * C + C ≤ n := by omega
  have HN := Lib.hid hn
  have HPT := Lib.hid hpt
  have HF := Lib.hid hf
  have HM := Lib.hid hm
  obtain ⟨m1, m2⟩ := hm
  have HEND := Lib.hid (fun hr => opK_end hf hp ht ⟨m1, m2⟩ hr)
  clear hn hpt hP hT hf
  go_enter Try.func165, Try.ntmps165
  go_wp2_with fail
  refine (impl_row_own R C p g n cap _ Ks (by omega) (by omega) hC0 (by omega) (by omega) hP2).mono ?_
  rintro e w1 ⟨rfl, hb1⟩
  have hsz1 := hb1.size
  simp at hsz1
  have hO1 : Blk w1 (w.heap.size + 1) 66 #[.int .i64 2, .int .i64 p, .int .i64 t, .int .i64 m] := by (with_reducible (repeat (first | assumption | refine Blk.new_at _ _ _ _ Ks | refine Blk.below ?_ (by assumption) Ks | apply Blk.drew | apply Blk.drewN | refine Blk.far ?_ (by simp only [ne_eq]; omega) _ | apply Blk.alloc)))
  have hM1 : BM w1 w.heap.size R C (some ⟨g, 0, none⟩) n cap := Ka
  have hown1 : OR w1 B (.slice (some ⟨g, 0, none⟩) n cap) (tb R C f) := Ko h
  have hgr1 : w.grownBy w1 (some g) := by (with_reducible (repeat (first | assumption | exact World.grownBy.refl _ _ | refine only_alloc ?_ _ | refine only_drewN ?_ _ | refine only_drew ?_ | refine only_set ?_ _ _ | refine grown_far ?_ Ks _ | refine only_trans ?_ (only_of_below (by assumption) _) | refine only_trans ?_ (by assumption))))
  obtain ⟨oa, ob, oc, of, ol⟩ := hM1.mx
  have x0 := hO1.cell 0
  have x1 := hO1.cell 1
  have x2 := hO1.cell 2
  have x3 := hO1.cell 3
  simp at x0 x1 x2 x3
  clear hb1
  go_wp2_with fail
  refine (impl_row_own R C t g n cap _ Ks (by omega) (by omega) hC0 (by omega) (by omega) hT2).mono ?_
  rintro e w2 ⟨rfl, hb2⟩
  have hsz2 := hb2.size
  have hO2 : Blk w2 (w.heap.size + 1) 66 #[.int .i64 2, .int .i64 p, .int .i64 t, .int .i64 m] := by (with_reducible (repeat (first | exact hO1 | refine Blk.new_at _ _ _ _ Ks | refine Blk.below ?_ (by assumption) Ks | apply Blk.drew | apply Blk.drewN | refine Blk.far ?_ (by simp only [ne_eq]; omega) _ | apply Blk.alloc)))
  have hown2 : OR w2 B (.slice (some ⟨g, 0, none⟩) n cap) (tb R C f) := Ko hown1
  have hgr2 : w.grownBy w2 (some g) := by (with_reducible (repeat (first | assumption | exact World.grownBy.refl _ _ | refine only_alloc ?_ _ | refine only_drewN ?_ _ | refine only_drew ?_ | refine only_set ?_ _ _ | refine grown_far ?_ Ks _ | refine only_trans ?_ (only_of_below (by assumption) _) | refine only_trans ?_ (by assumption))))
  clear hb2 hown1 hgr1 hO1 hM1 x0 x1 x2 x3 oa ob oc of ol
  go_wp2_with fail
  go_loopw [7, 19] (fun _ u wr => ∃ k : Nat, u = .int .i64 k ∧ k ≤ C ∧ (∀ y, y < k → Num (f t y * m) ∧ Num (f p y + f t y * m)) ∧ OR wr B (.slice (some ⟨g, 0, none⟩) n cap) (tb R C (opK f p t m k)) ∧ Blk wr (w.heap.size + 1) 66 #[.int .i64 2, .int .i64 p, .int .i64 t, .int .i64 m] ∧ w.grownBy wr (some g) ∧ w.heap.size ≤ wr.heap.size) (fun _ v _ => C - (intOf v).toNat)
  case atStart => exact ⟨0, rfl, Nat.zero_le _, fun y hy => absurd hy (Nat.not_lt_zero _), by rw [opK_zero]; exact hown2, hO2, hgr2, by omega⟩
  case round =>
    clear hown2 hO2 hgr2 h
    obtain ⟨k, rfl, hk, hok, hown, hO, hgr, hsz⟩ := hrel
    have HOK := Lib.hid hok
    clear hok
    have x0 := hO.cell 0
    have x1 := hO.cell 1
    have x2 := hO.cell 2
    have x3 := hO.cell 3
    have hl := hO.lt
    simp at x0 x1 x2 x3
    by_cases hkC : k < C
    · have c1 := hown.cell (p * C + k) (by rw [tb_len]; exact idx_nat hp hkC)
      have c2 := hown.cell (t * C + k) (by rw [tb_len]; exact idx_nat ht hkC)
      rw [tb_at hp hkC, opK_at] at c1
      rw [tb_at ht hkC, opK_atj HPT.out] at c2
      have f1 := hown.frozen (p * C + k)
      have hs1 := hown.set_ (p * C + k) (f p k + f t k * m)
      rw [tb_set hp hkC, opK_step] at hs1
      have hn1 := HF.out p k hp hkC
      have hn2 := HF.out t k ht hkC
      have HS : Hid (∀ y, y < k + 1 → (Num (f t k * m) ∧ Num (f p k + f t k * m)) → Num (f t y * m) ∧ Num (f p y + f t y * m)) := Lib.hid (fun y hy h3 => by
        by_cases e : y = k
        · rw [e]; exact h3
        · exact HOK.out y (by omega))
      have HNO : Hid (¬ (Num (f t k * m) ∧ Num (f p k + f t k * m)) → ¬ rowOk f p t m C) := Lib.hid (fun h3 h4 => h3 (h4 k hkC))
      generalize hx : f p k = x at *
      generalize hy : f t k = y at *
      clear hx hy
      obtain ⟨n1, n2⟩ := hn1
      obtain ⟨n3, n4⟩ := hn2
      obtain ⟨z1, z2⟩ := mul_bd4 y m 400000000 400000000 n3 n4 m1 m2
      have g1 : IntKind.i64.wrap (y * m) = y * m := IntWalk.i64_in _ (by omega)
      have g2 : IntKind.i64.wrap (x + y * m) = x + y * m := IntWalk.i64_in _ (by omega)
      by_cases hq1 : Num (y * m)
      · have hq1' := hq1
        obtain ⟨q1, q2⟩ := hq1'
        by_cases hq2 : Num (x + y * m)
        · have HQ := Lib.hid (fun y' hy' => HS.out y' hy' ⟨hq1, hq2⟩)
          obtain ⟨q3, q4⟩ := hq2
          clear hq1 HS HNO
          go_wp2; go_region; go_wp2_with (first | (go_at_call 166; (first | refine (impl_IsNumber_yes _ _ (by omega)).mono ?_ | refine (impl_IsNumber_no _ _ (by omega)).mono ?_ | refine (impl_IsNumber _ _).mono ?_); rintro e w' ⟨rfl, rfl⟩))
          go_roundw
          case rel => exact ⟨k + 1, by go_num, by omega, HQ.out, OR.drew hs1, by (with_reducible (repeat (first | exact hO | refine Blk.new_at _ _ _ _ Ks | refine Blk.below ?_ (by assumption) Ks | apply Blk.drew | apply Blk.drewN | refine Blk.far ?_ (by simp only [ne_eq]; omega) _ | apply Blk.alloc))), by (with_reducible (repeat (first | assumption | exact World.grownBy.refl _ _ | refine only_alloc ?_ _ | refine only_drewN ?_ _ | refine only_drew ?_ | refine only_set ?_ _ _ | refine grown_far ?_ Ks _ | refine only_trans ?_ (only_of_below (by assumption) _) | refine only_trans ?_ (by assumption)))), by simpa [World.setCell] using hsz⟩
          case measure => simp only [intOf]; omega
        · have HX := Lib.hid (HNO.out (fun h => hq2 h.2))
          have hq3 : x + y * m < -400000000 ∨ 400000000 < x + y * m := by unfold Num at hq2; omega
          clear hq1 hq2 HS HNO
          rcases hq3 with hq3 | hq3
          all_goals
            go_wp2; go_region; go_wp2_with (first | (go_at_call 166; (first | refine (impl_IsNumber_yes _ _ (by omega)).mono ?_ | refine (impl_IsNumber_no _ _ (by omega)).mono ?_ | refine (impl_IsNumber _ _).mono ?_); rintro e w' ⟨rfl, rfl⟩))
            go_ret
            exact .inr ⟨HX.out, _, WW.mk rfl (OR.drew hs1) (by (show w.grownBy _ (some g)); (with_reducible (repeat (first | assumption | exact World.grownBy.refl _ _ | refine only_alloc ?_ _ | refine only_drewN ?_ _ | refine only_drew ?_ | refine only_set ?_ _ _ | refine grown_far ?_ Ks _ | refine only_trans ?_ (only_of_below (by assumption) _) | refine only_trans ?_ (by assumption))))) (by simpa [World.setCell] using hsz)⟩
      · have HX := Lib.hid (HNO.out (fun h => hq1 h.1))
        have hq3 : y * m < -400000000 ∨ 400000000 < y * m := by unfold Num at hq1; omega
        clear hq1 HS HNO
        rcases hq3 with hq3 | hq3
        all_goals
          go_wp2; go_region; go_wp2_with (first | (go_at_call 166; (first | refine (impl_IsNumber_yes _ _ (by omega)).mono ?_ | refine (impl_IsNumber_no _ _ (by omega)).mono ?_ | refine (impl_IsNumber _ _).mono ?_); rintro e w' ⟨rfl, rfl⟩))
          go_ret
          exact .inr ⟨HX.out, _, WW.mk rfl (OR.drew hs1) (by (show w.grownBy _ (some g)); (with_reducible (repeat (first | assumption | exact World.grownBy.refl _ _ | refine only_alloc ?_ _ | refine only_drewN ?_ _ | refine only_drew ?_ | refine only_set ?_ _ _ | refine grown_far ?_ Ks _ | refine only_trans ?_ (only_of_below (by assumption) _) | refine only_trans ?_ (by assumption))))) (by simpa [World.setCell] using hsz)⟩
    · obtain rfl : k = C := by omega
      have hfin := hown.as (HEND.out HOK.out)
      clear hown
      go_wp2
      go_ret
      exact .inl ⟨HOK.out, WW.mk rfl hfin hgr hsz⟩
end Go.Proofs.Ytacjonkehcamgaa

/-
  DERIVED. The cursor that draws numbers out of bytes: what the reference's l1New, l1Byte, l1Below, l1Once, l1PickInt, l1Odd, l1Num return, and that they turn the cursor alone.
-/
namespace Go.Proofs.Ytacjonkehcamgaa
open Go.RowKit
set_option linter.unusedVariables false
set_option linter.unusedSimpArgs false
/-- A slice of bytes reads as xs. -/
def RB (w : World) (B : Nat) (A : Option Addr) (n : Nat) (xs : List Int) : Prop :=
  xs.length = n ∧ (0 < n → ∃ b o, A = some ⟨b, o, none⟩ ∧ b < B ∧ ∀ k, k < n → w.cell? ⟨b, o + k, none⟩ = some (.int .u8 (xs.getD k 0))) ∧ ∀ k, 0 ≤ xs.getD k 0 ∧ xs.getD k 0 ≤ 255
section
variable {w w' : World} {B n : Nat} {A : Option Addr} {xs : List Int}
theorem RB.keep (h : RB w B A n xs) (hk : ∀ p : Addr, p.block < B → w'.cell? p = w.cell? p) : RB w' B A n xs :=
  ⟨h.1, fun hn => by
    obtain ⟨b, o, e, hb, hc⟩ := h.2.1 hn
    exact ⟨b, o, e, hb, fun k hk' => (hk _ hb).trans (hc k hk')⟩, h.2.2⟩
theorem RB.below {C : Nat} (h : RB w B A n xs) (hb : Below C w w') (hC : B ≤ C) : RB w' B A n xs := h.keep fun _ hp => hb.cell (by omega)
theorem RB.grown {row : Option Nat} (h : RB w B A n xs) (hg : w.grownBy w' row) (hB : B ≤ w.heap.size) (hr : ∀ g, row = some g → B ≤ g) : RB w' B A n xs :=
  h.keep fun p hp => World.cell?_of_block (hg.block p.block (by omega) (fun e => by have := hr _ e.symm; omega))
theorem RB.drew (h : RB w B A n xs) : RB w.drew B A n xs := h
theorem RB.drewN (h : RB w B A n xs) (k : Nat) : RB (w.drewN k) B A n xs := h
theorem RB.alloc (h : RB w B A n xs) (hB : B ≤ w.heap.size) (o : Obj) : RB (w.alloc o) B A n xs := h.keep fun p hp => World.cell?_alloc_lt w o p (by omega)
theorem RB.setCell (h : RB w B A n xs) {p : Addr} (hB : B ≤ p.block) (u : Value) : RB (w.setCell p u) B A n xs := h.keep fun q hq => by
  have : q.block ≠ p.block := by omega
  exact World.cell?_of_block (Below.heap_setCell w p u q.block this)
end
/-- Block b is a cursor upon the bytes of a slice. -/
def CU (w : World) (b : Nat) (A : Option Addr) (n cap : Nat) : Prop :=
  ∃ i h : Int, (0 ≤ i ∧ i ≤ n) ∧ Blk w b 157 #[.slice A n cap, .int .i64 i, .int .i64 h]
theorem bits_and_bd (x : Int) (m : Nat) (hm : m < 4611686018427387904) : 0 ≤ bits .and .i64 x m ∧ bits .and .i64 x m ≤ m := by
  have h1 : bits .and .i64 x m = IntKind.wrap .i64 ((BitVec.ofInt 64 x &&& BitVec.ofInt 64 (m : Int)).toNat : Int) := rfl
  have h2 : (BitVec.ofInt 64 x &&& BitVec.ofInt 64 (m : Int)).toNat ≤ m := by
    rw [BitVec.toNat_and]
    refine Nat.le_trans Nat.and_le_right ?_
    have : BitVec.ofInt 64 (m : Int) = BitVec.ofNat 64 m := by simp
    rw [this, BitVec.toNat_ofNat]
    exact Nat.mod_le _ _
  rw [h1, IntWalk.i64_in _ (by omega)]
  omega
section
variable {w w' w'' : World} {b n cap : Nat} {A : Option Addr}
theorem CU.lt (h : CU w b A n cap) : b < w.heap.size := by obtain ⟨i, q, _, h⟩ := h; exact h.lt
theorem CU.drew (h : CU w b A n cap) : CU w.drew b A n cap := by obtain ⟨i, q, a, h⟩ := h; exact ⟨i, q, a, h.drew⟩
theorem CU.drewN (h : CU w b A n cap) (k : Nat) : CU (w.drewN k) b A n cap := by obtain ⟨i, q, a, h⟩ := h; exact ⟨i, q, a, h.drewN k⟩
theorem CU.alloc (h : CU w b A n cap) (o : Obj) : CU (w.alloc o) b A n cap := by obtain ⟨i, q, a, h⟩ := h; exact ⟨i, q, a, h.alloc o⟩
theorem CU.grown {row : Option Nat} (h : CU w b A n cap) (hg : w.grownBy w' row) (hne : some b ≠ row) : CU w' b A n cap := by obtain ⟨i, q, a, h⟩ := h; exact ⟨i, q, a, h.grown hg hne⟩
theorem CU.below {D : Nat} (h : CU w b A n cap) (hb : Below D w w') (hD : b < D) : CU w' b A n cap := by obtain ⟨i, q, a, h⟩ := h; exact ⟨i, q, a, h.below hb hD⟩
theorem CU.far (h : CU w b A n cap) {p : Addr} (hp : b ≠ p.block) (u : Value) : CU (w.setCell p u) b A n cap := by obtain ⟨i, q, a, h⟩ := h; exact ⟨i, q, a, h.far hp u⟩
end
theorem grown_setLater {a w : World} {row : Option Nat} (h : a.grownBy w row) {p : Addr} (hp : a.heap.size ≤ p.block) (u : Value) : a.grownBy (w.setCell p u) row :=
  ⟨h.os, h.tape, h.output, by simpa [World.setCell] using h.size, fun i hi hne => (Below.heap_setCell w p u i (by omega)).trans (h.block i hi hne)⟩
/-- From world w0 to world w the cursor alone has turned, and blocks were laid; the cursor's bytes read as they did. -/
structure CT (w0 w : World) (B b n cap : Nat) (A : Option Addr) (xs : List Int) : Prop where
  cu : CU w b A n cap
  rb : RB w B A n xs
  gr : w0.grownBy w (some b)
  hB : B ≤ b
  hb : b < w0.heap.size
  hn : n ≤ 2000000
section
variable {w0 w w' : World} {B b n cap : Nat} {A : Option Addr} {xs : List Int}
theorem CT.self (h : CT w0 w B b n cap A xs) : CT w w B b n cap A xs := ⟨h.cu, h.rb, World.grownBy.refl _ _, h.hB, h.cu.lt, h.hn⟩
theorem CT.trans (h : CT w0 w B b n cap A xs) (k : CT w w' B b n cap A xs) : CT w0 w' B b n cap A xs := ⟨k.cu, k.rb, only_trans h.gr k.gr, h.hB, h.hb, h.hn⟩
theorem CT.size (h : CT w0 w B b n cap A xs) : w0.heap.size ≤ w.heap.size := h.gr.size
theorem CT.drew (h : CT w0 w B b n cap A xs) : CT w0 w.drew B b n cap A xs := ⟨h.cu.drew, h.rb.drew, only_drew h.gr, h.hB, h.hb, h.hn⟩
theorem CT.drewN (h : CT w0 w B b n cap A xs) (k : Nat) : CT w0 (w.drewN k) B b n cap A xs := ⟨h.cu.drewN k, h.rb.drewN k, only_drewN h.gr k, h.hB, h.hb, h.hn⟩
theorem CT.alloc (h : CT w0 w B b n cap A xs) (o : Obj) : CT w0 (w.alloc o) B b n cap A xs :=
  ⟨h.cu.alloc o, h.rb.alloc (by have := h.hB; have := h.cu.lt; omega) o, only_alloc h.gr o, h.hB, h.hb, h.hn⟩
theorem CT.far (h : CT w0 w B b n cap A xs) {p : Addr} (hp : w0.heap.size ≤ p.block) (u : Value) : CT w0 (w.setCell p u) B b n cap A xs :=
  have h1 := h.hb
  have h2 := h.hB
  ⟨h.cu.far (by omega) u, h.rb.setCell (by omega) u, grown_setLater h.gr hp u, h.hB, h.hb, h.hn⟩
theorem CT.below {D : Nat} (h : CT w0 w B b n cap A xs) (hb : Below D w w') (hD : w0.heap.size ≤ D) : CT w0 w' B b n cap A xs :=
  have h1 := h.hb
  have h2 := h.hB
  have hs := h.size
  ⟨h.cu.below hb (by omega), h.rb.below hb (by omega), ⟨hb.os.trans h.gr.os, hb.tape.trans h.gr.tape, hb.output.trans h.gr.output, Nat.le_trans h.gr.size hb.size, fun i hi hne => (hb.block i (by omega)).trans (h.gr.block i hi hne)⟩, h.hB, h.hb, h.hn⟩
theorem CT.grown {g : Nat} (h : CT w0 w B b n cap A xs) (hg : w.grownBy w' (some g)) (hD : w0.heap.size ≤ g) : CT w0 w' B b n cap A xs :=
  have h1 := h.hb
  have h2 := h.hB
  ⟨h.cu.grown hg (by intro e; cases e; omega), h.rb.grown hg (by have := h.cu.lt; omega) (fun q e => by cases e; omega), ⟨hg.os.trans h.gr.os, hg.tape.trans h.gr.tape, hg.output.trans h.gr.output, Nat.le_trans h.gr.size hg.size, fun i hi hne => (hg.block i (by have := h.gr.size; omega) (by intro e; cases e; omega)).trans (h.gr.block i hi hne)⟩, h.hB, h.hb, h.hn⟩
end
/-- A call that turned just the cursor, and returned what P says. -/
def DRV (P : World → Value → Prop) (B b n cap : Nat) (A : Option Addr) (xs : List Int) (w : World) (e : Ending) (w' : World) : Prop :=
  ∃ v, e = .returned v ∧ P w' v ∧ CT w w' B b n cap A xs
/-- A number from 0 on less than k, or 0. -/
def Upto (k : Int) (v : Value) : Prop := ∃ x : Int, v = .int .i64 x ∧ 0 ≤ x ∧ (x < k ∨ x = 0)
/-- An int within some bounds. -/
def I64 (lo hi : Int) (v : Value) : Prop := ∃ x : Int, v = .int .i64 x ∧ lo ≤ x ∧ x ≤ hi
def IsB (v : Value) : Prop := ∃ b : Bool, v = .bool b
theorem wrap64_bd (x : Int) : -9223372036854775808 ≤ wrap64 x ∧ wrap64 x ≤ 9223372036854775807 := by unfold wrap64; omega
set_option maxRecDepth 100000 in
set_option maxHeartbeats 4000000 in
theorem spec_l1Byte (b n cap : Nat) (A : Option Addr) (xs : List Int) (w : World) {B : Nat} (hct : CT w w B b n cap A xs) :
    Calls Try.prog 229 #[.pointer (some ⟨b, 0, none⟩)] w (DRV (fun _ => Upto 256) B b n cap A xs w) := by
  have hB := hct.hB
  have hn := hct.hn
  have hby := hct.rb
  obtain ⟨i, h, ⟨h1, h2⟩, hX⟩ := hct.cu
  clear hct
  have HBY := Lib.hid hby
  have x0 := hX.cell 0
  have x1 := hX.cell 1
  have x2 := hX.cell 2
  have xf := hX.frozen
  have hl := hX.lt
  simp at x0 x1 x2
  by_cases hi : i < n
  · obtain ⟨g, o, rfl, hg, hc⟩ := hby.2.1 (by omega)
    have hv := hc i.toNat (by omega)
    obtain ⟨v1, v2⟩ := hby.2.2 i.toNat
    generalize xs.getD i.toNat 0 = v at *
    clear hc hby
    have hgb : ¬ g = b := by omega
    go_enter Try.func229, Try.ntmps229
    go_wp2_with fail
    have hq := wrap64_bd (wrap64 (h * 6364136223846793005) + 1442695040888963407)
    generalize wrap64 (wrap64 (h * 6364136223846793005) + 1442695040888963407) = q at hq
    go_region
    all_goals go_wp2
    all_goals have hy := bits_and_bd (bits BinOp.xor IntKind.i64 (q / 8589934592) (q / 35184372088832)) 255 (by decide)
    all_goals generalize bits BinOp.and IntKind.i64 (bits BinOp.xor IntKind.i64 (q / 8589934592) (q / 35184372088832)) 255 = y at hy
    go_region
    all_goals go_wp2
    go_region
    all_goals go_wp2
    have hz := bits_and_bd (y + v) 255 (by decide)
    generalize bits BinOp.and IntKind.i64 (y + v) 255 = z at hz
    go_ret
    refine ⟨_, rfl, ⟨z, rfl, by omega, .inl (by omega)⟩, ⟨i + 1, q, by omega, ?_⟩, ?_, ?_, hB, hl, hn⟩
    · exact ((hX.set_ 2 (.int .i64 q)).set_ 1 (.int .i64 (i + 1))).as rfl
    · exact RB.setCell (RB.setCell HBY.out (by simp; omega) _) (by simp; omega) _
    · exact only_drew (only_drew (only_drew (only_set (only_set (World.grownBy.refl w _) 2 _) 1 _)))
  · clear hby
    go_enter Try.func229, Try.ntmps229
    go_wp2_with fail
    have hq := wrap64_bd (wrap64 (h * 6364136223846793005) + 1442695040888963407)
    generalize wrap64 (wrap64 (h * 6364136223846793005) + 1442695040888963407) = q at hq
    go_region
    all_goals go_wp2
    have hy := bits_and_bd (bits BinOp.xor IntKind.i64 (q / 8589934592) (q / 35184372088832)) 255 (by decide)
    generalize bits BinOp.and IntKind.i64 (bits BinOp.xor IntKind.i64 (q / 8589934592) (q / 35184372088832)) 255 = y at hy
    go_region
    all_goals go_wp2
    go_ret
    refine ⟨_, rfl, ⟨y, rfl, by omega, .inl (by omega)⟩, ⟨i, q, by omega, ?_⟩, ?_, ?_, hB, hl, hn⟩
    · exact (hX.set_ 2 (.int .i64 q)).as rfl
    · exact RB.setCell HBY.out (by simp; omega) _
    · exact only_drew (only_drew (only_set (World.grownBy.refl w _) 2 _))
theorem tmod_bd {x n : Int} (hx : 0 ≤ x) (hn : 0 < n) : 0 ≤ x.tmod n ∧ x.tmod n < n := ⟨Int.tmod_nonneg n hx, Int.tmod_lt_of_pos x hn⟩
set_option maxRecDepth 100000 in
set_option maxHeartbeats 4000000 in
theorem spec_l1Below (b n cap : Nat) (A : Option Addr) (xs : List Int) (k : Int) (w : World) {B : Nat} (hct : CT w w B b n cap A xs) :
    Calls Try.prog 197 #[.pointer (some ⟨b, 0, none⟩), .int .i64 k] w (DRV (fun _ => Upto k) B b n cap A xs w) := by
  have hsz := hct.size
  by_cases h0 : k ≤ 0
  · go_enter Try.func197, Try.ntmps197
    go_wp2_with fail
    go_ret
    exact ⟨_, rfl, ⟨0, rfl, by omega, .inr rfl⟩, by (with_reducible (repeat (first | exact hct | refine CT.drew ?_ | refine CT.drewN ?_ _ | refine CT.alloc ?_ _ | refine CT.far ?_ Ks _ | refine CT.below ?_ (by assumption) Ks)))⟩
  · have hk : ¬ k = 0 := by omega
    by_cases h1 : k ≤ 256
    · go_enter Try.func197, Try.ntmps197
      go_wp2_with (go_at_call 229; refine (spec_l1Byte b n cap A xs _ (CT.self (w0 := w) (B := B) (by (with_reducible (repeat (first | exact hct | refine CT.drew ?_ | refine CT.drewN ?_ _ | refine CT.alloc ?_ _ | refine CT.far ?_ Ks _ | refine CT.below ?_ (by assumption) Ks)))))).mono ?_; rintro e w1 ⟨v, rfl, ⟨x, rfl, hx0, hx1⟩, hc1⟩; have hct_1 : CT w w1 B b n cap A xs := CT.trans (by (with_reducible (repeat (first | exact hct | refine CT.drew ?_ | refine CT.drewN ?_ _ | refine CT.alloc ?_ _ | refine CT.far ?_ Ks _ | refine CT.below ?_ (by assumption) Ks)))) hc1; clear hct hc1; have hct := hct_1; clear hct_1; have hsz := hct.size)
      have he1 := Int.emod_nonneg x hk
      have he2 := Int.emod_lt_of_pos x (show 0 < k by omega)
      go_ret
      exact ⟨_, rfl, ⟨_, rfl, he1, .inl he2⟩, by (with_reducible (repeat (first | exact hct | refine CT.drew ?_ | refine CT.drewN ?_ _ | refine CT.alloc ?_ _ | refine CT.far ?_ Ks _ | refine CT.below ?_ (by assumption) Ks)))⟩
    · go_enter Try.func197, Try.ntmps197
      go_wp2_with (go_at_call 229; refine (spec_l1Byte b n cap A xs _ (CT.self (w0 := w) (B := B) (by (with_reducible (repeat (first | exact hct | refine CT.drew ?_ | refine CT.drewN ?_ _ | refine CT.alloc ?_ _ | refine CT.far ?_ Ks _ | refine CT.below ?_ (by assumption) Ks)))))).mono ?_; rintro e w1 ⟨v, rfl, ⟨x, rfl, hx0, hx1⟩, hc1⟩; have hct_1 : CT w w1 B b n cap A xs := CT.trans (by (with_reducible (repeat (first | exact hct | refine CT.drew ?_ | refine CT.drewN ?_ _ | refine CT.alloc ?_ _ | refine CT.far ?_ Ks _ | refine CT.below ?_ (by assumption) Ks)))) hc1; clear hct hc1; have hct := hct_1; clear hct_1; have hsz := hct.size)
      go_ret
      exact ⟨_, rfl, ⟨_, rfl, Int.emod_nonneg _ hk, .inl (Int.emod_lt_of_pos _ (by omega))⟩, by (with_reducible (repeat (first | exact hct | refine CT.drew ?_ | refine CT.drewN ?_ _ | refine CT.alloc ?_ _ | refine CT.far ?_ Ks _ | refine CT.below ?_ (by assumption) Ks)))⟩
theorem spec_l1Once (b n cap : Nat) (A : Option Addr) (xs : List Int) (k : Int) (w : World) {B : Nat} (hct : CT w w B b n cap A xs) :
    Calls Try.prog 170 #[.pointer (some ⟨b, 0, none⟩), .int .i64 k] w (DRV (fun _ => IsB) B b n cap A xs w) := by
  have hsz := hct.size
  go_enter Try.func170, Try.ntmps170
  go_wp2_with (go_at_call 197; refine (spec_l1Below b n cap A xs k _ (CT.self (w0 := w) (B := B) (by (with_reducible (repeat (first | exact hct | refine CT.drew ?_ | refine CT.drewN ?_ _ | refine CT.alloc ?_ _ | refine CT.far ?_ Ks _ | refine CT.below ?_ (by assumption) Ks)))))).mono ?_; rintro e w1 ⟨v, rfl, ⟨x, rfl, hx0, hx1⟩, hc1⟩; have hct_1 : CT w w1 B b n cap A xs := CT.trans (by (with_reducible (repeat (first | exact hct | refine CT.drew ?_ | refine CT.drewN ?_ _ | refine CT.alloc ?_ _ | refine CT.far ?_ Ks _ | refine CT.below ?_ (by assumption) Ks)))) hc1; clear hct hc1; have hct := hct_1; clear hct_1; have hsz := hct.size)
  go_ret
  exact ⟨_, rfl, ⟨_, rfl⟩, by (with_reducible (repeat (first | exact hct | refine CT.drew ?_ | refine CT.drewN ?_ _ | refine CT.alloc ?_ _ | refine CT.far ?_ Ks _ | refine CT.below ?_ (by assumption) Ks)))⟩
/-- One of the numbers of a list. -/
def OneOf (ys : List Int) (v : Value) : Prop := ∃ x : Int, v = .int .i64 x ∧ x ∈ ys
set_option maxRecDepth 100000 in
set_option maxHeartbeats 4000000 in
theorem spec_l1PickInt (b n cap : Nat) (A : Option Addr) (xs : List Int) (A2 : Option Addr) (n2 cap2 : Nat) (ys : List Int) (w : World) {B B2 : Nat} (hct : CT w w B b n cap A xs) (hri : RI w B2 A2 n2 ys) (hB2 : B2 ≤ w.heap.size) (hne : ∀ p : Addr, (∃ o c, A2 = some ⟨b, o, c⟩) → False) (hn2 : 0 < n2) (hn3 : n2 ≤ 100) :
    Calls Try.prog 198 #[.pointer (some ⟨b, 0, none⟩), .slice A2 n2 cap2] w (DRV (fun _ => OneOf ys) B b n cap A xs w) := by
  have hsz := hct.size
  have hlen := hri.len
  obtain ⟨g, o, rfl, hg, hc⟩ := hri.2 hn2
  have hgb : g ≠ b := fun e => hne ⟨0, 0, none⟩ ⟨o, none, by rw [e]⟩
  have HC := Lib.hid hc
  have HLEN := Lib.hid hlen
  clear hc hri hne hlen
  go_enter Try.func198, Try.ntmps198
  go_wp2_with (go_at_call 197; refine (spec_l1Below b n cap A xs (n2 : Int) _ (CT.self (w0 := w) (B := B) (by (with_reducible (repeat (first | exact hct | refine CT.drew ?_ | refine CT.drewN ?_ _ | refine CT.alloc ?_ _ | refine CT.far ?_ Ks _ | refine CT.below ?_ (by assumption) Ks)))))).mono ?_; rintro e w1 ⟨v, rfl, ⟨x, rfl, hx0, hx1⟩, hc1⟩; have hct_1 : CT w w1 B b n cap A xs := CT.trans (by (with_reducible (repeat (first | exact hct | refine CT.drew ?_ | refine CT.drewN ?_ _ | refine CT.alloc ?_ _ | refine CT.far ?_ Ks _ | refine CT.below ?_ (by assumption) Ks)))) hc1; clear hct hc1; have hct := hct_1; clear hct_1; have hsz := hct.size; have hlt : x < n2 := (by omega); have hcell : w1.cell? ⟨g, o + x.toNat, none⟩ = some (.int .i64 (ys.getD x.toNat 0)) := (World.cell?_of_block (hct.gr.block g (by omega) (by simp; omega))).trans (HC.out x.toNat (by omega)))
  go_ret
  have hm : ys[x.toNat]?.getD 0 ∈ ys := by
    have h2 := HLEN.out
    rw [← getD_nat]
    have h3 : x.toNat < ys.length := by omega
    simp only [List.getD, List.getElem?_eq_getElem h3, Option.getD_some]
    exact List.getElem_mem h3
  exact ⟨_, rfl, ⟨_, rfl, hm⟩, by (with_reducible (repeat (first | exact hct | refine CT.drew ?_ | refine CT.drewN ?_ _ | refine CT.alloc ?_ _ | refine CT.far ?_ Ks _ | refine CT.below ?_ (by assumption) Ks)))⟩
theorem RI.lit {w : World} {g : Nat} {t : TypeId} {ys : List Int} (h : Blk w g t (ys.map (Value.int .i64)).toArray) : RI w (g + 1) (some ⟨g, 0, none⟩) ys.length ys :=
  ⟨rfl, fun _ => ⟨g, 0, rfl, by omega, fun k hk => by rw [Nat.zero_add, h.cell]; simp [hk]⟩⟩
theorem not_at {b g : Nat} (h : b < g) : ∀ p : Addr, (∃ o c, (some ⟨g, 0, none⟩ : Option Addr) = some ⟨b, o, c⟩) → False := fun _ ⟨_, _, e⟩ => by
  injection e with e; injection e with e1; omega
set_option maxRecDepth 100000 in
set_option maxHeartbeats 4000000 in
theorem spec_l1Odd (b n cap : Nat) (A : Option Addr) (xs : List Int) (w : World) {B : Nat} (hct : CT w w B b n cap A xs) :
    Calls Try.prog 230 #[.pointer (some ⟨b, 0, none⟩)] w (DRV (fun _ => I64 (-9223372036854775808) 9223372036854775807) B b n cap A xs w) := by
  have hsz := hct.size
  have hb := hct.hb
  go_enter Try.func230, Try.ntmps230
  go_wp2_with (go_at_call 198; refine (spec_l1PickInt b n cap A xs (some ⟨(w.heap.size), 0, none⟩) _ _ ([0, 1, -1, 2, 400000000, -400000000, 400000001, -400000001, 399999999, 9223372036854775807, -9223372036854775808]) _ (B2 := (w.heap.size) + 1) (CT.self (w0 := w) (B := B) (by (with_reducible (repeat (first | exact hct | refine CT.drew ?_ | refine CT.drewN ?_ _ | refine CT.alloc ?_ _ | refine CT.far ?_ Ks _ | refine CT.below ?_ (by assumption) Ks))))) ?h2 ?h3 ?h4 ?h5 ?h6).mono ?h7; (case h2 => (exact (RI.lit (Blk.new _ _ _)))); (case h3 => (exact Ks)); (case h4 => (exact (not_at Ks))); (case h5 => decide); (case h6 => decide); rintro e w1 ⟨v, rfl, ⟨x, rfl, hx0⟩, hc1⟩; have hct_1 : CT w w1 B b n cap A xs := CT.trans (by (with_reducible (repeat (first | exact hct | refine CT.drew ?_ | refine CT.drewN ?_ _ | refine CT.alloc ?_ _ | refine CT.far ?_ Ks _ | refine CT.below ?_ (by assumption) Ks)))) hc1; clear hct hc1; have hct := hct_1; clear hct_1; have hsz := hct.size)
  go_ret
  refine ⟨_, rfl, ⟨x, rfl, ?_⟩, by (with_reducible (repeat (first | exact hct | refine CT.drew ?_ | refine CT.drewN ?_ _ | refine CT.alloc ?_ _ | refine CT.far ?_ Ks _ | refine CT.below ?_ (by assumption) Ks)))⟩
  simp only [List.mem_cons, List.not_mem_nil, or_false] at hx0
  omega
set_option maxRecDepth 100000 in
set_option maxHeartbeats 4000000 in
theorem spec_l1Num (b n cap : Nat) (A : Option Addr) (xs : List Int) (most : Int) (w : World) {B : Nat} (hct : CT w w B b n cap A xs) (hm : 0 ≤ most ∧ most ≤ 1000000) :
    Calls Try.prog 200 #[.pointer (some ⟨b, 0, none⟩), .int .i64 most] w (DRV (fun _ => I64 (-9223372036854775808) 9223372036854775807) B b n cap A xs w) := by
  have hsz := hct.size
  obtain ⟨hm1, hm2⟩ := hm
  go_enter Try.func200, Try.ntmps200
  go_wp2_with (first | (go_at_call 170; refine (spec_l1Once b n cap A xs 40 _ (CT.self (w0 := w) (B := B) (by (with_reducible (repeat (first | exact hct | refine CT.drew ?_ | refine CT.drewN ?_ _ | refine CT.alloc ?_ _ | refine CT.far ?_ Ks _ | refine CT.below ?_ (by assumption) Ks)))))).mono ?_; rintro e w1 ⟨v, rfl, ⟨q, rfl⟩, hc1⟩; have hct_1 : CT w w1 B b n cap A xs := CT.trans (by (with_reducible (repeat (first | exact hct | refine CT.drew ?_ | refine CT.drewN ?_ _ | refine CT.alloc ?_ _ | refine CT.far ?_ Ks _ | refine CT.below ?_ (by assumption) Ks)))) hc1; clear hct hc1; have hct := hct_1; clear hct_1; have hsz := hct.size) | (go_at_call 197; refine (spec_l1Below b n cap A xs (2 * most + 1) _ (CT.self (w0 := w) (B := B) (by (with_reducible (repeat (first | exact hct | refine CT.drew ?_ | refine CT.drewN ?_ _ | refine CT.alloc ?_ _ | refine CT.far ?_ Ks _ | refine CT.below ?_ (by assumption) Ks)))))).mono ?_; rintro e w1 ⟨v, rfl, ⟨x, rfl, hx0, hx1⟩, hc1⟩; have hct_1 : CT w w1 B b n cap A xs := CT.trans (by (with_reducible (repeat (first | exact hct | refine CT.drew ?_ | refine CT.drewN ?_ _ | refine CT.alloc ?_ _ | refine CT.far ?_ Ks _ | refine CT.below ?_ (by assumption) Ks)))) hc1; clear hct hc1; have hct := hct_1; clear hct_1; have hsz := hct.size) | (go_at_call 230; refine (spec_l1Odd b n cap A xs _ (CT.self (w0 := w) (B := B) (by (with_reducible (repeat (first | exact hct | refine CT.drew ?_ | refine CT.drewN ?_ _ | refine CT.alloc ?_ _ | refine CT.far ?_ Ks _ | refine CT.below ?_ (by assumption) Ks)))))).mono ?_; rintro e w1 ⟨v, rfl, ⟨x, rfl, hx0, hx1⟩, hc1⟩; have hct_1 : CT w w1 B b n cap A xs := CT.trans (by (with_reducible (repeat (first | exact hct | refine CT.drew ?_ | refine CT.drewN ?_ _ | refine CT.alloc ?_ _ | refine CT.far ?_ Ks _ | refine CT.below ?_ (by assumption) Ks)))) hc1; clear hct hc1; have hct := hct_1; clear hct_1; have hsz := hct.size))
  all_goals go_ret
  all_goals exact ⟨_, rfl, ⟨_, rfl, by omega, by omega⟩, by (with_reducible (repeat (first | exact hct | refine CT.drew ?_ | refine CT.drewN ?_ _ | refine CT.alloc ?_ _ | refine CT.far ?_ Ks _ | refine CT.below ?_ (by assumption) Ks)))⟩
theorem CU.new {w : World} {b n cap : Nat} {A : Option Addr} {h : Int} (k : Blk w b 157 #[.slice A n cap, .int .i64 0, .int .i64 h]) : CU w b A n cap := ⟨0, h, by omega, k⟩
/-- The call laid a cursor. -/
def CUR (n cap : Nat) (A : Option Addr) (w : World) (e : Ending) (w' : World) : Prop := ∃ b, e = .returned (.pointer (some ⟨b, 0, none⟩)) ∧ CU w' b A n cap ∧ w.heap.size ≤ b ∧ Below w.heap.size w w'
set_option maxRecDepth 100000 in
set_option maxHeartbeats 4000000 in
theorem spec_l1New (n cap : Nat) (A : Option Addr) (xs : List Int) (w : World) {B : Nat} (hby : RB w B A n xs) (hn : n ≤ 2000000) :
    Calls Try.prog 120 #[.slice A n cap] w (CUR n cap A w) := by
  have HBY := Lib.hid hby
  clear hby
  go_enter Try.func120, Try.ntmps120
  go_wp2
  go_loopw [3, 4] (fun u v wr => ∃ (h : Int) (i : Nat), u = .int .i64 h ∧ v = .int .i64 i ∧ 0 ≤ h ∧ h ≤ 2000000000 ∧ i ≤ n ∧ wr = w) (fun _ v _ => n - (intOf v).toNat)
  case atStart => exact ⟨_, 0, rfl, rfl, by omega, by omega, by omega, rfl⟩
  case round =>
    obtain ⟨h, i, rfl, rfl, h1, h2, h3, rfl⟩ := hrel
    by_cases hi : i < n
    · by_cases hi4 : i < 4000
      · obtain ⟨g, o, rfl, hg, hc⟩ := HBY.out.2.1 (by omega)
        have hv := hc i hi
        obtain ⟨v1, v2⟩ := HBY.out.2.2 i
        generalize xs.getD i 0 = v at *
        clear hc
        go_wp2
        have hz := bits_and_bd (h * 131 + v + 7) 1073741823 (by decide)
        generalize bits BinOp.and IntKind.i64 (h * 131 + v + 7) 1073741823 = z at hz
        exact ⟨⟨_, i + 1, rfl, by simp, by omega, by omega, by omega, trivial⟩, by simp only [intOf]; omega⟩
      · go_wp2
        go_ret
        exact ⟨_, rfl, CU.new (Blk.new _ _ _), Nat.le_refl _, Kw⟩
    · go_wp2
      go_ret
      exact ⟨_, rfl, CU.new (Blk.new _ _ _), Nat.le_refl _, Kw⟩
theorem CT.new {w : World} {B b n cap : Nat} {A : Option Addr} {xs : List Int} (hcu : CU w b A n cap) (hby : RB w B A n xs) (hB : B ≤ b) (hn : n ≤ 2000000) : CT w w B b n cap A xs := ⟨hcu, hby, World.grownBy.refl _ _, hB, hcu.lt, hn⟩
/-- What is below the cursor is as it was. -/
theorem CT.under {w w' : World} {B b n cap D : Nat} {A : Option Addr} {xs : List Int} (h : CT w w' B b n cap A xs) (hD : D ≤ b) : Below D w w' := only_below h.gr (by have := h.hb; omega) fun g e => by cases e; exact hD
end Go.Proofs.Ytacjonkehcamgaa

/-
  DERIVED. l5Do for sums and signs; rowOp for signs.
-/
namespace Go.Proofs.Ytacjonkehcamgaa
open Go.RowKit
set_option linter.unusedVariables false
set_option linter.unusedSimpArgs false
/-- The first k columns of row i as in F. -/
def roK (f F : Fn2) (i k : Nat) : Fn2 := fun x y => if x = i ∧ y < k then F i y else f x y
theorem roK_zero (f F : Fn2) (i : Nat) : roK f F i 0 = f := by funext x y; simp [roK]
theorem roK_step (f F : Fn2) (i k : Nat) : upd (roK f F i k) i k (F i k) = roK f F i (k + 1) := by
  funext x y
  unfold upd roK
  by_cases h : x = i ∧ y = k
  · rw [if_pos h, if_pos ⟨h.1, by omega⟩, h.2]
  · rw [if_neg h]
    by_cases h2 : x = i ∧ y < k
    · rw [if_pos h2, if_pos ⟨h2.1, by omega⟩]
    · rw [if_neg h2, if_neg]
      rintro ⟨h3, h4⟩
      exact h2 ⟨h3, by have : y ≠ k := fun e => h ⟨h3, e⟩; omega⟩
theorem roK_at (f F : Fn2) (i k : Nat) : roK f F i k i k = f i k := by simp [roK]
theorem roK_atj {f F : Fn2} {i j : Nat} (h : i ≠ j) (k : Nat) : roK f F i k j k = f j k := by simp [roK, Ne.symm h]
theorem roK_end {f F : Fn2} {R C i : Nat} (h : ∀ x y, x ≠ i → F x y = f x y) : tb R C (roK f F i C) = tb R C F :=
  tb_ext fun x y hx hy => by
    unfold roK
    by_cases h2 : x = i
    · subst h2; rw [if_pos ⟨rfl, hy⟩]
    · rw [if_neg (fun h3 => h2 h3.1), h x y h2]
theorem NB.one : NB (-1) := .inr (by omega)
theorem opN_other {f : Fn2} {i x y : Nat} (h : x ≠ i) : opN f i x y = f x y := by unfold opN; rw [if_neg h]
set_option maxRecDepth 100000 in
set_option maxHeartbeats 4000000 in
theorem spec_l5Do_add (R C p t : Nat) (ti : Int) (A : Option Addr) (n cap : Nat) (f : Nat → Nat → Int) (w : World) {B : Nat} (h : OR w B (.slice A n cap) (tb R C f)) (hp : p < R) (ht : t < R) (hpt : p ≠ t) (hm : Num ti) (hf : NBF f) (hC0 : 0 < C) (hC : C ≤ 24) (hR : R ≤ 24) :
    Calls Try.prog 203 #[.agg #[.int .i64 R, .int .i64 C, .slice A n cap], .agg #[.int .i64 2, .int .i64 p, .int .i64 t, .int .i64 ti]] w (WW (.tuple #[]) (.slice A n cap) B (tb R C (opA f p t ti)) w) := by
  have hn := h.lenEq
  rw [tb_len] at hn
  have hcaps := h.caps
  have hP := idx_nat hp (show C - 1 < C by omega)
  have hT := idx_nat ht (show C - 1 < C by omega)
  obtain ⟨g, rfl, hg1, hg2⟩ := h.begins (by rw [tb_len]; omega)
  have hP2 : p * C + C ≤ n := by omega
  have hT2 : t * C + C ≤ n := by omega
  have HN := Lib.hid hn
  have HPT := Lib.hid hpt
  have HF := Lib.hid hf
  have HM := Lib.hid hm
  have hm : R * C ≤ 24 * 24 := Nat.mul_le_mul hR hC
  have p1 : (p : Int) * (C : Int) = ((p * C : Nat) : Int) := by rw [Int.natCast_mul]
  have t1 : (t : Int) * (C : Int) = ((t * C : Nat) : Int) := by rw [Int.natCast_mul]
  have P1 := Lib.hid p1
  have T1 := Lib.hid t1
  have b1 : 0 ≤ (p : Int) * (C : Int) ∧ (p : Int) * (C : Int) + C ≤ n ∧ (p : Int) * (C : Int) ≤ 10000 := by omega
  have b2 : 0 ≤ (t : Int) * (C : Int) ∧ (t : Int) * (C : Int) + C ≤ n ∧ (t : Int) * (C : Int) ≤ 10000 := by omega
  obtain ⟨b1a, b1b, b1c⟩ := b1
  obtain ⟨b2a, b2b, b2c⟩ := b2
  clear hn hpt hP hT p1 t1 hf hm
  go_enter Try.func203, Try.ntmps203
  go_wp2_with fail
  go_loopw [4] (fun u wr => ∃ k : Nat, u = .int .i64 k ∧ k ≤ C ∧ OR wr B (.slice (some ⟨g, 0, none⟩) n cap) (tb R C (roK f (opA f p t ti) p k)) ∧ BM wr w.heap.size R C (some ⟨g, 0, none⟩) n cap ∧ Blk wr (w.heap.size + 1) 66 #[.int .i64 2, .int .i64 p, .int .i64 t, .int .i64 ti] ∧ w.grownBy wr (some g) ∧ w.heap.size ≤ wr.heap.size) (fun v _ => C - (intOf v).toNat)
  case atStart => exact ⟨0, rfl, Nat.zero_le _, by rw [roK_zero]; (with_reducible (repeat (first | exact h | refine OR.drew ?_ | refine OR.drewN ?_ _ | refine OR.alloc ?_ _ | refine OR.b_ ?_ | refine OR.l_ ?_))), Ka, by (with_reducible (repeat (first | assumption | refine Blk.new_at _ _ _ _ Ks | refine Blk.below ?_ (by assumption) Ks | apply Blk.drew | apply Blk.drewN | refine Blk.far ?_ (by simp only [ne_eq]; omega) _ | apply Blk.alloc))), by (with_reducible (repeat (first | assumption | exact World.grownBy.refl _ _ | refine only_alloc ?_ _ | refine only_drewN ?_ _ | refine only_drew ?_ | refine only_set ?_ _ _ | refine grown_far ?_ Ks _ | refine only_trans ?_ (only_of_below (by assumption) _) | refine only_trans ?_ (by assumption)))), by simp; omega⟩
  case round =>
    clear h
    obtain ⟨k, rfl, hk, hown, hM, hO, hgr, hsz⟩ := hrel
    obtain ⟨oa, ob, oc, of, ol⟩ := hM.mx
    have x0 := hO.cell 0
    have x1 := hO.cell 1
    have x2 := hO.cell 2
    have x3 := hO.cell 3
    have hl := hO.lt
    simp at x0 x1 x2 x3
    by_cases hkC : k < C
    · have c1 := hown.cell (p * C + k) (by rw [tb_len]; exact idx_nat hp hkC)
      have c2 := hown.cell (t * C + k) (by rw [tb_len]; exact idx_nat ht hkC)
      rw [tb_at hp hkC] at c1
      rw [tb_at ht hkC] at c2
      rw [roK_at] at c1
      rw [roK_atj HPT.out] at c2
      have f1 := hown.frozen (p * C + k)
      have hs1 := hown.set_ (p * C + k) (opA f p t ti p k)
      rw [tb_set hp hkC, roK_step] at hs1
      have HX := Lib.hid (HF.out p k)
      have HY := Lib.hid (HF.out t k)
      have HE : Hid (opA f p t ti p k = addB (f p k) (mulF (f t k) ti)) := Lib.hid (by unfold opA; rw [if_pos rfl])
      have hne2 : ¬ g = w.heap.size + 1 := by omega
      generalize opA f p t ti p k = v at *
      generalize f t k = y at *
      generalize f p k = x at *
      go_wp2
      have i1 := P1.out
      have hpk : p * C + k < n := by omega
      have g1 : IntKind.i64.wrap ((p : Int) * (C : Int)) = (p : Int) * (C : Int) := IntWalk.i64_in _ (by omega)
      have g2 : IntKind.i64.wrap ((p : Int) * (C : Int) + (k : Int)) = (p : Int) * (C : Int) + (k : Int) := IntWalk.i64_in _ (by omega)
      have g6 : 0 ≤ (p : Int) * (C : Int) + (k : Int) ∧ (p : Int) * (C : Int) + (k : Int) < (n : Int) := by omega
      have e5 : ((p : Int) * (C : Int) + (k : Int)).toNat = p * C + k := by omega
      rw [← e5] at c1 f1 hs1
      clear i1 e5
      have hne3 : ¬ g = w.heap.size := by omega
      have hne4 : ¬ w.heap.size = g := by omega
      have hne5 : ¬ w.heap.size + 1 = g := by omega
      ((refine wp_region_held_drew (S := (fun w' => w'.cell? ⟨w.heap.size, 1, none⟩ = some (.int .i64 C) ∧ w'.cell? ⟨w.heap.size, 2, none⟩ = some (.slice (some ⟨g, 0, none⟩) n cap) ∧ w'.cell? ⟨w.heap.size + 1, 1, none⟩ = some (.int .i64 p) ∧ w'.cell? ⟨w.heap.size + 1, 3, none⟩ = some (.int .i64 ti))) (by kernel_rfl) ?_ (fun hHeld => ?_)); ((focus ((try dsimp only); (go_keep)))); ((refine tk_ (i := 0) (v := ?_) (y := Or.inl ⟨by rfl, ?_⟩) (h := ?_); rotate_left; (focus (((intro w hSw; (try dsimp only at hSw); go_simp) <;> (try with_reducible rfl)); done)); (try simp only [Act.put, p1_, p2_, p3_]))); ((refine tk_ (i := 1) (v := ?_) (y := Or.inl ⟨by rfl, ?_⟩) (h := ?_); rotate_left; (focus (((intro w hSw; (try dsimp only at hSw); go_simp) <;> (try with_reducible rfl)); done)); (try simp only [Act.put, p1_, p2_, p3_]))); ((refine tk_ (i := 2) (v := ?_) (y := Or.inl ⟨by rfl, ?_⟩) (h := ?_); rotate_left; (focus (((intro w hSw; (try dsimp only at hSw); go_simp) <;> (try with_reducible rfl)); done)); (try simp only [Act.put, p1_, p2_, p3_]))); ((refine tk_ (i := 3) (v := ?_) (y := Or.inl ⟨by rfl, ?_⟩) (h := ?_); rotate_left; (focus (((intro w hSw; (try dsimp only at hSw); go_simp) <;> (try with_reducible rfl)); done)); (try simp only [Act.put, p1_, p2_, p3_]))); ((refine tk_ (i := 4) (v := ?_) (y := Or.inl ⟨by rfl, ?_⟩) (h := ?_); rotate_left; (focus (((intro w hSw; (try dsimp only at hSw); go_simp) <;> (try with_reducible rfl)); done)); (try simp only [Act.put, p1_, p2_, p3_]))); ((refine tk_ (i := 5) (v := ?_) (y := Or.inl ⟨by rfl, ?_⟩) (h := ?_); rotate_left; (focus (((intro w hSw; (try dsimp only at hSw); go_simp) <;> (try with_reducible rfl)); done)); (try simp only [Act.put, p1_, p2_, p3_]))); ((refine tk_ (i := 6) (v := ?_) (y := Or.inl ⟨by rfl, ?_⟩) (h := ?_); rotate_left; (focus (((intro w hSw; (try dsimp only at hSw); go_simp) <;> (try with_reducible rfl)); done)); (try simp only [Act.put, p1_, p2_, p3_]))); ((refine tk_ (i := 7) (v := ?_) (y := Or.inl ⟨by rfl, ?_⟩) (h := ?_); rotate_left; (focus (((intro w hSw; (try dsimp only at hSw); go_simp) <;> (try with_reducible rfl)); done)); (try simp only [Act.put, p1_, p2_, p3_]))); ((refine tk_ (i := 8) (v := ?_) (y := Or.inl ⟨by rfl, ?_⟩) (h := ?_); rotate_left; (focus (((intro w hSw; (try dsimp only at hSw); go_simp) <;> (try with_reducible rfl)); done)); (try simp only [Act.put, p1_, p2_, p3_]))); ((refine tk_ (i := 9) (v := ?_) (y := Or.inl ⟨by rfl, ?_⟩) (h := ?_); rotate_left; (focus (((intro w hSw; (try dsimp only at hSw); go_simp) <;> (try with_reducible rfl)); done)); (try simp only [Act.put, p1_, p2_, p3_]))); ((refine tk_ (i := 10) (v := ?_) (y := Or.inl ⟨by rfl, ?_⟩) (h := ?_); rotate_left; (focus (((intro w hSw; (try dsimp only at hSw); go_simp) <;> (try with_reducible rfl)); done)); (try simp only [Act.put, p1_, p2_, p3_]))); ((refine tk_ (i := 11) (v := ?_) (y := Or.inl ⟨by rfl, ?_⟩) (h := ?_); rotate_left; (focus (((intro w hSw; (try dsimp only at hSw); go_simp) <;> (try with_reducible rfl)); done)); (try simp only [Act.put, p1_, p2_, p3_]))); ((refine tk_ (i := 12) (v := ?_) (y := Or.inl ⟨by rfl, ?_⟩) (h := ?_); rotate_left; (focus (((intro w hSw; (try dsimp only at hSw); go_simp) <;> (try with_reducible rfl)); done)); (try simp only [Act.put, p1_, p2_, p3_]))); ((refine wpAnyH_ready (rs := [13]) (by kernel_rfl) (by simp) ?_; refine AllReadyH.cons (by simp only [e1_, e2_, e3_]; try rfl) (fun K hK => ?_) AllReadyH.nil; go_simp; (go_at_call 190; refine (spec_l1Mul y ti _ HY.out HM.out.nb).mono ?_; rintro e w' ⟨rfl, rfl⟩); (try go_wp2_with fail); refine hK.out _ _ ?_ (fun hHeld => ?_); (focus ((try dsimp only); (go_keep))); clear hK K; (try simp only [Act.put, p1_, p2_, p3_]))); ((refine wpAnyH_ready (rs := [14]) (by kernel_rfl) (by simp) ?_; refine AllReadyH.cons (by simp only [e1_, e2_, e3_]; try rfl) (fun K hK => ?_) AllReadyH.nil; go_simp; (go_at_call 232; refine (spec_l1Add x _ _ HX.out (NB.mulF y ti)).mono ?_; rw [← HE.out]; rintro e w' ⟨rfl, rfl⟩); (try go_wp2_with fail); refine hK.out _ _ ?_ (fun hHeld => ?_); (focus ((try dsimp only); (go_keep))); clear hK K; (try simp only [Act.put, p1_, p2_, p3_]))); ((refine tk_ (i := 15) (v := ?_) (y := Or.inl ⟨by rfl, ?_⟩) (h := ?_); rotate_left; (focus (((intro w hSw; (try dsimp only at hSw); go_simp) <;> (try with_reducible rfl)); done)); (try simp only [Act.put, p1_, p2_, p3_]))); ((refine wpAnyH_ready (rs := [16]) (by kernel_rfl) (by simp) ?_; refine AllReadyH.cons (by simp only [e1_, e2_, e3_]; try rfl) (fun K hK => ?_) AllReadyH.nil; go_simp; (try go_wp2_with fail); refine hK.out _ _ ?_ (fun hHeld => ?_); (focus ((try dsimp only); (go_keep))); clear hK K; (try simp only [Act.put, p1_, p2_, p3_]))); (refine wpAnyH_done (by kernel_rfl) ?_ _))
      go_wp2
      go_roundw
      case rel => exact ⟨k + 1, by go_num, by omega, hs1, Kb hM, by (with_reducible (repeat (first | exact hO | refine Blk.new_at _ _ _ _ Ks | refine Blk.below ?_ (by assumption) Ks | apply Blk.drew | apply Blk.drewN | refine Blk.far ?_ (by simp only [ne_eq]; omega) _ | apply Blk.alloc))), by (with_reducible (repeat (first | assumption | exact World.grownBy.refl _ _ | refine only_alloc ?_ _ | refine only_drewN ?_ _ | refine only_drew ?_ | refine only_set ?_ _ _ | refine grown_far ?_ Ks _ | refine only_trans ?_ (only_of_below (by assumption) _) | refine only_trans ?_ (by assumption)))), by simpa [World.setCell] using hsz⟩
      case measure => simp only [intOf]; omega
    · have hfin := hown.as (show _ = tb R C (opA f p t ti) by rw [show k = C by omega]; exact roK_end (fun x y hx => opA_other hx))
      clear hown
      go_wp2
      go_end0
      exact WW.mk rfl hfin hgr hsz
set_option maxRecDepth 100000 in
set_option maxHeartbeats 4000000 in
theorem spec_l5Do_neg (R C p : Nat) (ti : Int) (A : Option Addr) (n cap : Nat) (f : Nat → Nat → Int) (w : World) {B : Nat} (h : OR w B (.slice A n cap) (tb R C f)) (hp : p < R) (hf : ∀ k, k < C → Num (f p k)) (hC0 : 0 < C) (hC : C ≤ 24) (hR : R ≤ 24) :
    Calls Try.prog 203 #[.agg #[.int .i64 R, .int .i64 C, .slice A n cap], .agg #[.int .i64 1, .int .i64 p, .int .i64 p, .int .i64 ti]] w (WW (.tuple #[]) (.slice A n cap) B (tb R C (opN f p)) w) := by
  have hn := h.lenEq
  rw [tb_len] at hn
  have hcaps := h.caps
  have hP := idx_nat hp (show C - 1 < C by omega)
  obtain ⟨g, rfl, hg1, hg2⟩ := h.begins (by rw [tb_len]; omega)
  have hP2 : p * C + C ≤ n := by omega
  have HN := Lib.hid hn
  have HF := Lib.hid hf
  have hm : R * C ≤ 24 * 24 := Nat.mul_le_mul hR hC
  have p1 : (p : Int) * (C : Int) = ((p * C : Nat) : Int) := by rw [Int.natCast_mul]
  have P1 := Lib.hid p1
  have b1 : 0 ≤ (p : Int) * (C : Int) ∧ (p : Int) * (C : Int) + C ≤ n ∧ (p : Int) * (C : Int) ≤ 10000 := by omega
  obtain ⟨b1a, b1b, b1c⟩ := b1
  clear hn hP p1 hf
  go_enter Try.func203, Try.ntmps203
  go_wp2_with fail
  go_loopw [4] (fun u wr => ∃ k : Nat, u = .int .i64 k ∧ k ≤ C ∧ OR wr B (.slice (some ⟨g, 0, none⟩) n cap) (tb R C (roK f (opN f p) p k)) ∧ BM wr w.heap.size R C (some ⟨g, 0, none⟩) n cap ∧ Blk wr (w.heap.size + 1) 66 #[.int .i64 1, .int .i64 p, .int .i64 p, .int .i64 ti] ∧ w.grownBy wr (some g) ∧ w.heap.size ≤ wr.heap.size) (fun v _ => C - (intOf v).toNat)
  case atStart => exact ⟨0, rfl, Nat.zero_le _, by rw [roK_zero]; (with_reducible (repeat (first | exact h | refine OR.drew ?_ | refine OR.drewN ?_ _ | refine OR.alloc ?_ _ | refine OR.b_ ?_ | refine OR.l_ ?_))), Ka, by (with_reducible (repeat (first | assumption | refine Blk.new_at _ _ _ _ Ks | refine Blk.below ?_ (by assumption) Ks | apply Blk.drew | apply Blk.drewN | refine Blk.far ?_ (by simp only [ne_eq]; omega) _ | apply Blk.alloc))), by (with_reducible (repeat (first | assumption | exact World.grownBy.refl _ _ | refine only_alloc ?_ _ | refine only_drewN ?_ _ | refine only_drew ?_ | refine only_set ?_ _ _ | refine grown_far ?_ Ks _ | refine only_trans ?_ (only_of_below (by assumption) _) | refine only_trans ?_ (by assumption)))), by simp; omega⟩
  case round =>
    clear h
    obtain ⟨k, rfl, hk, hown, hM, hO, hgr, hsz⟩ := hrel
    obtain ⟨oa, ob, oc, of, ol⟩ := hM.mx
    have x0 := hO.cell 0
    have x1 := hO.cell 1
    have x2 := hO.cell 2
    have x3 := hO.cell 3
    have hl := hO.lt
    simp at x0 x1 x2 x3
    by_cases hkC : k < C
    · have c1 := hown.cell (p * C + k) (by rw [tb_len]; exact idx_nat hp hkC)
      rw [tb_at hp hkC] at c1
      rw [roK_at] at c1
      have f1 := hown.frozen (p * C + k)
      have hs1 := hown.set_ (p * C + k) (opN f p p k)
      rw [tb_set hp hkC, roK_step] at hs1
      have HX := Lib.hid (HF.out k hkC)
      have HE : Hid (opN f p p k = mulF (f p k) (-1)) := Lib.hid (by unfold opN; rw [if_pos rfl, mulF_num HX.out ⟨by omega, by omega⟩, fit_in (by have := HX.out; unfold Num at this; omega)]; omega)
      have hne2 : ¬ g = w.heap.size + 1 := by omega
      generalize opN f p p k = v at *
      generalize f p k = x at *
      go_wp2
      have i1 := P1.out
      have hpk : p * C + k < n := by omega
      have g1 : IntKind.i64.wrap ((p : Int) * (C : Int)) = (p : Int) * (C : Int) := IntWalk.i64_in _ (by omega)
      have g2 : IntKind.i64.wrap ((p : Int) * (C : Int) + (k : Int)) = (p : Int) * (C : Int) + (k : Int) := IntWalk.i64_in _ (by omega)
      have g6 : 0 ≤ (p : Int) * (C : Int) + (k : Int) ∧ (p : Int) * (C : Int) + (k : Int) < (n : Int) := by omega
      have e5 : ((p : Int) * (C : Int) + (k : Int)).toNat = p * C + k := by omega
      rw [← e5] at c1 f1 hs1
      clear i1 e5
      have hne3 : ¬ g = w.heap.size := by omega
      have hne4 : ¬ w.heap.size = g := by omega
      have hne5 : ¬ w.heap.size + 1 = g := by omega
      ((refine wp_region_held_drew (S := (fun w' => w'.cell? ⟨w.heap.size, 1, none⟩ = some (.int .i64 C) ∧ w'.cell? ⟨w.heap.size, 2, none⟩ = some (.slice (some ⟨g, 0, none⟩) n cap) ∧ w'.cell? ⟨w.heap.size + 1, 1, none⟩ = some (.int .i64 p))) (by kernel_rfl) ?_ (fun hHeld => ?_)); ((focus ((try dsimp only); (go_keep)))); ((refine tk_ (i := 0) (v := ?_) (y := Or.inl ⟨by rfl, ?_⟩) (h := ?_); rotate_left; (focus (((intro w hSw; (try dsimp only at hSw); go_simp) <;> (try with_reducible rfl)); done)); (try simp only [Act.put, p1_, p2_, p3_]))); ((refine tk_ (i := 1) (v := ?_) (y := Or.inl ⟨by rfl, ?_⟩) (h := ?_); rotate_left; (focus (((intro w hSw; (try dsimp only at hSw); go_simp) <;> (try with_reducible rfl)); done)); (try simp only [Act.put, p1_, p2_, p3_]))); ((refine tk_ (i := 2) (v := ?_) (y := Or.inl ⟨by rfl, ?_⟩) (h := ?_); rotate_left; (focus (((intro w hSw; (try dsimp only at hSw); go_simp) <;> (try with_reducible rfl)); done)); (try simp only [Act.put, p1_, p2_, p3_]))); ((refine tk_ (i := 3) (v := ?_) (y := Or.inl ⟨by rfl, ?_⟩) (h := ?_); rotate_left; (focus (((intro w hSw; (try dsimp only at hSw); go_simp) <;> (try with_reducible rfl)); done)); (try simp only [Act.put, p1_, p2_, p3_]))); ((refine tk_ (i := 4) (v := ?_) (y := Or.inl ⟨by rfl, ?_⟩) (h := ?_); rotate_left; (focus (((intro w hSw; (try dsimp only at hSw); go_simp) <;> (try with_reducible rfl)); done)); (try simp only [Act.put, p1_, p2_, p3_]))); ((refine tk_ (i := 5) (v := ?_) (y := Or.inl ⟨by rfl, ?_⟩) (h := ?_); rotate_left; (focus (((intro w hSw; (try dsimp only at hSw); go_simp) <;> (try with_reducible rfl)); done)); (try simp only [Act.put, p1_, p2_, p3_]))); ((refine tk_ (i := 6) (v := ?_) (y := Or.inl ⟨by rfl, ?_⟩) (h := ?_); rotate_left; (focus (((intro w hSw; (try dsimp only at hSw); go_simp) <;> (try with_reducible rfl)); done)); (try simp only [Act.put, p1_, p2_, p3_]))); ((refine tk_ (i := 7) (v := ?_) (y := Or.inl ⟨by rfl, ?_⟩) (h := ?_); rotate_left; (focus (((intro w hSw; (try dsimp only at hSw); go_simp) <;> (try with_reducible rfl)); done)); (try simp only [Act.put, p1_, p2_, p3_]))); ((refine tk_ (i := 8) (v := ?_) (y := Or.inl ⟨by rfl, ?_⟩) (h := ?_); rotate_left; (focus (((intro w hSw; (try dsimp only at hSw); go_simp) <;> (try with_reducible rfl)); done)); (try simp only [Act.put, p1_, p2_, p3_]))); ((refine tk_ (i := 9) (v := ?_) (y := Or.inl ⟨by rfl, ?_⟩) (h := ?_); rotate_left; (focus (((intro w hSw; (try dsimp only at hSw); go_simp) <;> (try with_reducible rfl)); done)); (try simp only [Act.put, p1_, p2_, p3_]))); ((refine wpAnyH_ready (rs := [10]) (by kernel_rfl) (by simp) ?_; refine AllReadyH.cons (by simp only [e1_, e2_, e3_]; try rfl) (fun K hK => ?_) AllReadyH.nil; go_simp; (go_at_call 190; refine (spec_l1Mul x (-1) _ HX.out.nb (NB.one)).mono ?_; rw [← HE.out]; rintro e w' ⟨rfl, rfl⟩); (try go_wp2_with fail); refine hK.out _ _ ?_ (fun hHeld => ?_); (focus ((try dsimp only); (go_keep))); clear hK K; (try simp only [Act.put, p1_, p2_, p3_]))); ((refine tk_ (i := 11) (v := ?_) (y := Or.inl ⟨by rfl, ?_⟩) (h := ?_); rotate_left; (focus (((intro w hSw; (try dsimp only at hSw); go_simp) <;> (try with_reducible rfl)); done)); (try simp only [Act.put, p1_, p2_, p3_]))); ((refine wpAnyH_ready (rs := [12]) (by kernel_rfl) (by simp) ?_; refine AllReadyH.cons (by simp only [e1_, e2_, e3_]; try rfl) (fun K hK => ?_) AllReadyH.nil; go_simp; (try go_wp2_with fail); refine hK.out _ _ ?_ (fun hHeld => ?_); (focus ((try dsimp only); (go_keep))); clear hK K; (try simp only [Act.put, p1_, p2_, p3_]))); (refine wpAnyH_done (by kernel_rfl) ?_ _))
      go_wp2
      go_roundw
      case rel => exact ⟨k + 1, by go_num, by omega, hs1, Kb hM, by (with_reducible (repeat (first | exact hO | refine Blk.new_at _ _ _ _ Ks | refine Blk.below ?_ (by assumption) Ks | apply Blk.drew | apply Blk.drewN | refine Blk.far ?_ (by simp only [ne_eq]; omega) _ | apply Blk.alloc))), by (with_reducible (repeat (first | assumption | exact World.grownBy.refl _ _ | refine only_alloc ?_ _ | refine only_drewN ?_ _ | refine only_drew ?_ | refine only_set ?_ _ _ | refine grown_far ?_ Ks _ | refine only_trans ?_ (only_of_below (by assumption) _) | refine only_trans ?_ (by assumption)))), by simpa [World.setCell] using hsz⟩
      case measure => simp only [intOf]; omega
    · have hfin := hown.as (show _ = tb R C (opN f p) by rw [show k = C by omega]; exact roK_end (fun x y hx => opN_other hx))
      clear hown
      go_wp2
      go_end0
      exact WW.mk rfl hfin hgr hsz
set_option maxRecDepth 100000 in
set_option maxHeartbeats 4000000 in
theorem impl_rowOp_neg (R C p : Nat) (m : Int) (A : Option Addr) (n cap : Nat) (f : Fn2) (w : World) {B : Nat} (h : OR w B (.slice A n cap) (tb R C f)) (hp : p < R) (hf : ∀ k, k < C → Num (f p k)) (hC0 : 0 < C) (hC : C ≤ 24) (hR : R ≤ 24) :
    Calls Try.prog 165 #[.agg #[.int .i64 R, .int .i64 C, .slice A n cap], .agg #[.int .i64 1, .int .i64 p, .int .i64 p, .int .i64 m]] w (WW (.bool true) (.slice A n cap) B (tb R C (opN f p)) w) := by
  have hn := h.lenEq
  rw [tb_len] at hn
  have hcaps := h.caps
  have hP := idx_nat hp (show C - 1 < C by omega)
  obtain ⟨g, rfl, hg1, hg2⟩ := h.begins (by rw [tb_len]; omega)
  have hP2 : p * C + C ≤ n := by omega
  have HN := Lib.hid hn
  have HF := Lib.hid hf
  clear hn hP hf
  go_enter Try.func165, Try.ntmps165
  go_wp2_with fail
  refine (impl_row_own R C p g n cap _ Ks (by omega) (by omega) hC0 (by omega) (by omega) hP2).mono ?_
  rintro e w1 ⟨rfl, hb1⟩
  have hsz1 := hb1.size
  simp at hsz1
  have hO1 : Blk w1 (w.heap.size + 1) 66 #[.int .i64 1, .int .i64 p, .int .i64 p, .int .i64 m] := by (with_reducible (repeat (first | assumption | refine Blk.new_at _ _ _ _ Ks | refine Blk.below ?_ (by assumption) Ks | apply Blk.drew | apply Blk.drewN | refine Blk.far ?_ (by simp only [ne_eq]; omega) _ | apply Blk.alloc)))
  have hM1 : BM w1 w.heap.size R C (some ⟨g, 0, none⟩) n cap := Ka
  have hown1 : OR w1 B (.slice (some ⟨g, 0, none⟩) n cap) (tb R C f) := Ko h
  have hgr1 : w.grownBy w1 (some g) := by (with_reducible (repeat (first | assumption | exact World.grownBy.refl _ _ | refine only_alloc ?_ _ | refine only_drewN ?_ _ | refine only_drew ?_ | refine only_set ?_ _ _ | refine grown_far ?_ Ks _ | refine only_trans ?_ (only_of_below (by assumption) _) | refine only_trans ?_ (by assumption))))
  obtain ⟨oa, ob, oc, of, ol⟩ := hM1.mx
  have x0 := hO1.cell 0
  have x1 := hO1.cell 1
  have x2 := hO1.cell 2
  have x3 := hO1.cell 3
  simp at x0 x1 x2 x3
  clear hb1
  go_wp2_with fail
  refine (impl_row_own R C p g n cap _ Ks (by omega) (by omega) hC0 (by omega) (by omega) hP2).mono ?_
  rintro e w2 ⟨rfl, hb2⟩
  have hsz2 := hb2.size
  have hO2 : Blk w2 (w.heap.size + 1) 66 #[.int .i64 1, .int .i64 p, .int .i64 p, .int .i64 m] := by (with_reducible (repeat (first | exact hO1 | refine Blk.new_at _ _ _ _ Ks | refine Blk.below ?_ (by assumption) Ks | apply Blk.drew | apply Blk.drewN | refine Blk.far ?_ (by simp only [ne_eq]; omega) _ | apply Blk.alloc)))
  have hown2 : OR w2 B (.slice (some ⟨g, 0, none⟩) n cap) (tb R C f) := Ko hown1
  have hgr2 : w.grownBy w2 (some g) := by (with_reducible (repeat (first | assumption | exact World.grownBy.refl _ _ | refine only_alloc ?_ _ | refine only_drewN ?_ _ | refine only_drew ?_ | refine only_set ?_ _ _ | refine grown_far ?_ Ks _ | refine only_trans ?_ (only_of_below (by assumption) _) | refine only_trans ?_ (by assumption))))
  clear hb2 hown1 hgr1 hO1 hM1 x0 x1 x2 x3 oa ob oc of ol
  go_wp2_with fail
  go_loopw [7, 19] (fun _ u wr => ∃ k : Nat, u = .int .i64 k ∧ k ≤ C ∧ OR wr B (.slice (some ⟨g, 0, none⟩) n cap) (tb R C (roK f (opN f p) p k)) ∧ Blk wr (w.heap.size + 1) 66 #[.int .i64 1, .int .i64 p, .int .i64 p, .int .i64 m] ∧ w.grownBy wr (some g) ∧ w.heap.size ≤ wr.heap.size) (fun _ v _ => C - (intOf v).toNat)
  case atStart => exact ⟨0, rfl, Nat.zero_le _, by rw [roK_zero]; exact hown2, hO2, hgr2, by omega⟩
  case round =>
    clear hown2 hO2 hgr2 h
    obtain ⟨k, rfl, hk, hown, hO, hgr, hsz⟩ := hrel
    have x0 := hO.cell 0
    have x1 := hO.cell 1
    have x2 := hO.cell 2
    have x3 := hO.cell 3
    have hl := hO.lt
    simp at x0 x1 x2 x3
    by_cases hkC : k < C
    · have c1 := hown.cell (p * C + k) (by rw [tb_len]; exact idx_nat hp hkC)
      rw [tb_at hp hkC, roK_at] at c1
      have f1 := hown.frozen (p * C + k)
      have he : opN f p p k = -f p k := by unfold opN; rw [if_pos rfl]
      have hs1 := hown.set_ (p * C + k) (opN f p p k)
      rw [tb_set hp hkC, roK_step, he] at hs1
      obtain ⟨n1, n2⟩ := HF.out k hkC
      generalize f p k = x at *
      clear he
      go_wp2
      go_roundw
      case rel => exact ⟨k + 1, by go_num, by omega, hs1, by (with_reducible (repeat (first | exact hO | refine Blk.new_at _ _ _ _ Ks | refine Blk.below ?_ (by assumption) Ks | apply Blk.drew | apply Blk.drewN | refine Blk.far ?_ (by simp only [ne_eq]; omega) _ | apply Blk.alloc))), by (with_reducible (repeat (first | assumption | exact World.grownBy.refl _ _ | refine only_alloc ?_ _ | refine only_drewN ?_ _ | refine only_drew ?_ | refine only_set ?_ _ _ | refine grown_far ?_ Ks _ | refine only_trans ?_ (only_of_below (by assumption) _) | refine only_trans ?_ (by assumption)))), by simpa [World.setCell] using hsz⟩
      case measure => simp only [intOf]; omega
    · obtain rfl : k = C := by omega
      have hfin := hown.as (roK_end (fun x y hx => opN_other hx))
      clear hown
      go_wp2
      go_ret
      exact WW.mk rfl hfin hgr hsz
end Go.Proofs.Ytacjonkehcamgaa

/-
  DERIVED. EchelonOf, both.
-/
namespace Go.Proofs.Ytacjonkehcamgaa
end Go.Proofs.Ytacjonkehcamgaa

/-
  DERIVED. A slice of bytes that came in, read.
-/
namespace Go.Proofs.Ytacjonkehcamgaa
open Go.ChangeShapes Go.WideShapes Go.ChangeAt Go.RowKit Go.Joins
set_option linter.unusedVariables false
section
variable {H : Type} {enc : TypeId × Value → H} {P : Program}
theorem reads_bytes {w : World} {base : Nat} {spare : Nat → Bool} {held : Bool} {t e : TypeId} {fuel : Nat} {v : Value} {x : DataW H × List MemPlace}
    (ht : P.underlying t = some (.slice e)) (he : P.underlying e = some (.int .u8)) (hc : P.cellsOf e = 1) (h : DataW.trod enc P w base spare held fuel t [v] = some x)
    (hlt : ∀ p ∈ x.2, p.block < w.heap.size) :
    ∃ A n cap xs, v = .slice A n cap ∧ n ≤ cap ∧ cap ≤ maxLen ∧ RB w w.heap.size A n xs := by
  rcases open_ints ht he hc h with ⟨hcs, hx⟩ | ⟨a, len, cap, zs, hcs, hb, hl, hm, hz, hx, hcell, hwf⟩
  · injection hcs with hv
    exact ⟨none, 0, 0, [], hv, Nat.le_refl _, by unfold maxLen; omega, rfl, fun h => absurd h (by omega), fun k => by simp⟩
  · injection hcs with hv
    have hzl : len ≤ zs.length := by rw [hz]; split <;> omega
    refine ⟨some a, len, cap, zs.take len, hv, hl, hm, by simp; omega, fun hn => ?_, fun k => ?_⟩
    · obtain ⟨b, off, rfl, hc'⟩ := ints_at hcell (by omega)
      refine ⟨b, off, rfl, ?_, fun k hk => ?_⟩
      · have h0 : MemPlace.cell b off ∈ x.2 := by
          rw [hx]
          simp only [MemPlace.row, List.mem_map, List.mem_range]
          exact ⟨0, by omega, rfl⟩
        exact hlt _ h0
      · rw [hc' k (by omega)]
        simp [List.getD, hk]
    · by_cases hk : k < (zs.take len).length
      · have h1 : (zs.take len).getD k 0 ∈ zs := by
          have : (zs.take len).getD k 0 = (zs.take len)[k] := by unfold List.getD; rw [List.getElem?_eq_getElem hk]; rfl
          rw [this]
          exact List.mem_of_mem_take (List.getElem_mem hk)
        simpa [Lit.wf, IntKind.min, IntKind.max, IntKind.signed, IntKind.bits] using hwf _ h1
      · have : (zs.take len).getD k 0 = 0 := by simp [List.getD, List.getElem?_eq_none (show (zs.take len).length ≤ k by omega)]
        rw [this]; omega
end
end Go.Proofs.Ytacjonkehcamgaa

/-
  DERIVED. Slices of ints that are drawn: moduli, right sides.
-/
namespace Go.Proofs.Ytacjonkehcamgaa
open Go.RowKit
set_option linter.unusedVariables false
set_option linter.unusedSimpArgs false
/-- What the call lays from block B0 on is a slice of at most lim ints. -/
def OIs (B0 lim : Nat) (w' : World) (v : Value) : Prop := ∃ A m c ys, v = .slice A m c ∧ OR w' B0 (.slice A m c) ys ∧ ys.length ≤ lim
theorem OIs.mk {B0 lim : Nat} {w' : World} {v : Value} {ys : List Int} (h : OR w' B0 v ys) (hl : ys.length ≤ lim) : OIs B0 lim w' v := by
  rcases h.form with ⟨h1, h2⟩ | ⟨g, cap, h1, _⟩ <;> subst h1 <;> exact ⟨_, _, _, ys, rfl, h, hl⟩
theorem CT.own {w0 w w' : World} {B b n cap : Nat} {A : Option Addr} {xs : List Int} {v : Value} {B1 : Nat} {ys : List Int} (h : CT w0 w B b n cap A xs) (hg : w.grownBy w' v.ownBlock) (ho : OR w B1 v ys) (hB : w0.heap.size ≤ B1) : CT w0 w' B b n cap A xs :=
  h.below (only_below hg (Nat.le_trans h.size (Nat.le_refl _)) fun g e => by have := (ho.own g e).1; omega) (Nat.le_refl _)
/-- The turning of the cursor keeps what is owned above it. -/
theorem OR.turned {w w' : World} {B B1 b n cap : Nat} {A : Option Addr} {xs ys : List Int} {v : Value} (h : OR w B1 v ys) (hc : CT w w' B b n cap A xs) (hb : b < B1) : OR w' B1 v ys :=
  h.kept hc.gr (.inr fun e => by have := (h.own b e).1; omega)
set_option maxRecDepth 100000 in
set_option maxHeartbeats 4000000 in
theorem spec_l8Right (b n cap : Nat) (A : Option Addr) (xs : List Int) (m : Int) (w : World) {B : Nat} (hct : CT w w B b n cap A xs) (hm : m ≤ 1000) :
    Calls Try.prog 122 #[.pointer (some ⟨b, 0, none⟩), .int .i64 m] w (DRV (OIs w.heap.size (m.toNat + 1)) B b n cap A xs w) := by
  have hsz := hct.size
  have hb := hct.hb
  go_enter Try.func122, Try.ntmps122
  go_wp2_with fail
  have ho : OR (w.alloc (.cells #[] 3)) w.heap.size (.slice (some ⟨w.heap.size, 0, none⟩) 0 0) [] := OR.empty w (Nat.le_refl _)
  go_loopw [5, 6] (fun u v wr => ∃ (k : Nat) (ys : List Int), v = .int .i64 k ∧ k ≤ m.toNat ∧ OR wr w.heap.size u ys ∧ ys.length = k ∧ CT w wr B b n cap A xs) (fun _ v _ => m.toNat - (intOf v).toNat)
  case atStart => exact ⟨0, [], rfl, by omega, ho, rfl, by (with_reducible (repeat (first | exact hct | refine CT.drew ?_ | refine CT.drewN ?_ _ | refine CT.alloc ?_ _ | refine CT.far ?_ Ks _ | refine CT.below ?_ (by assumption) Ks)))⟩
  case round =>
    clear hct ho
    obtain ⟨k, ys, rfl, hk0, ho, hl, hct⟩ := hrel
    have HL := Lib.hid hl
    have hl2 : ys.length ≤ 1000 := by omega
    clear hl
    have hsz := hct.size
    by_cases hk : (k : Int) < m
    · go_wp2_with (first | (go_at_call 200; refine (spec_l1Num b n cap A xs 9 _ (CT.self (w0 := w) (B := B) (by (with_reducible (repeat (first | exact hct | refine CT.drew ?_ | refine CT.drewN ?_ _ | refine CT.alloc ?_ _ | refine CT.far ?_ Ks _ | refine CT.below ?_ (by assumption) Ks))))) (by omega)).mono ?_; rintro e w1 ⟨v, rfl, ⟨x, rfl, hx0, hx1⟩, hc1⟩; have hct_1 : CT w w1 B b n cap A xs := CT.trans (by (with_reducible (repeat (first | exact hct | refine CT.drew ?_ | refine CT.drewN ?_ _ | refine CT.alloc ?_ _ | refine CT.far ?_ Ks _ | refine CT.below ?_ (by assumption) Ks)))) hc1; (first | have ho_1 := OR.turned ho hc1 hb | have ho_1 := OR.turned (OR.alloc ho _) hc1 hb | have ho_1 := OR.turned (OR.drew ho) hc1 hb); clear hct ho hc1; have hct := hct_1; have ho := ho_1; clear hct_1 ho_1; have hsz := hct.size) | (at_builtin; refine wpList_append_one _ rfl (.tmp 13) (.tmp 16) rfl w.heap.size _ _ rfl (ho.alloc _) _ x rfl ?f1 ?f2 ?f3 ?_; (case f1 => (simp [go_sem])); (case f2 => omega); (case f3 => (simp; omega)); intro v1 w2 hown1 hgr hat; (have hct_1 : CT w w2 B b n cap A xs := CT.own (by (with_reducible (repeat (first | exact hct | refine CT.drew ?_ | refine CT.drewN ?_ _ | refine CT.alloc ?_ _ | refine CT.far ?_ Ks _ | refine CT.below ?_ (by assumption) Ks)))) hgr (ho.alloc _) (Nat.le_refl _)); clear hct ho hgr hat; have hct := hct_1; have ho := hown1; clear hct_1 hown1; have hsz := hct.size))
      go_roundw
      case rel => exact ⟨k + 1, _, by go_num, by omega, ho, by simp [HL.out], hct⟩
      case measure => simp only [intOf]; omega
    · go_wp2_with (first | (go_at_call 170; refine (spec_l1Once b n cap A xs 24 _ (CT.self (w0 := w) (B := B) (by (with_reducible (repeat (first | exact hct | refine CT.drew ?_ | refine CT.drewN ?_ _ | refine CT.alloc ?_ _ | refine CT.far ?_ Ks _ | refine CT.below ?_ (by assumption) Ks)))))).mono ?_; rintro e w1 ⟨v, rfl, ⟨q, rfl⟩, hc1⟩; have hct_1 : CT w w1 B b n cap A xs := CT.trans (by (with_reducible (repeat (first | exact hct | refine CT.drew ?_ | refine CT.drewN ?_ _ | refine CT.alloc ?_ _ | refine CT.far ?_ Ks _ | refine CT.below ?_ (by assumption) Ks)))) hc1; (first | have ho_1 := OR.turned ho hc1 hb | have ho_1 := OR.turned (OR.alloc ho _) hc1 hb | have ho_1 := OR.turned (OR.drew ho) hc1 hb); clear hct ho hc1; have hct := hct_1; have ho := ho_1; clear hct_1 ho_1; have hsz := hct.size) | (at_builtin; refine wpList_append_one _ rfl (.tmp 20) (.tmp 21) rfl w.heap.size _ _ rfl (ho.alloc _) _ 1 rfl ?f1 ?f2 ?f3 ?_; (case f1 => (simp [go_sem])); (case f2 => omega); (case f3 => (simp; omega)); intro v1 w2 hown1 hgr hat; (have hct_1 : CT w w2 B b n cap A xs := CT.own (by (with_reducible (repeat (first | exact hct | refine CT.drew ?_ | refine CT.drewN ?_ _ | refine CT.alloc ?_ _ | refine CT.far ?_ Ks _ | refine CT.below ?_ (by assumption) Ks)))) hgr (ho.alloc _) (Nat.le_refl _)); clear hct ho hgr hat; have hct := hct_1; have ho := hown1; clear hct_1 hown1; have hsz := hct.size))
      all_goals go_ret
      all_goals exact ⟨_, rfl, OIs.mk ho (by have := HL.out; first | omega | (simp; omega)), by (with_reducible (repeat (first | exact hct | refine CT.drew ?_ | refine CT.drewN ?_ _ | refine CT.alloc ?_ _ | refine CT.far ?_ Ks _ | refine CT.below ?_ (by assumption) Ks)))⟩
end Go.Proofs.Ytacjonkehcamgaa

/-
  DERIVED. Sums and products of matrices as functions of row and column: no program in sight.
-/
namespace Go.Proofs.Ytacjonkehcamgaa
set_option linter.unusedVariables false
theorem sumTo_succ (f : Nat → Int) (n : Nat) : sumTo f (n + 1) = sumTo f n + f n := rfl
theorem sumTo_zero' (f : Nat → Int) : sumTo f 0 = 0 := rfl
theorem sumTo_congr {f g : Nat → Int} : ∀ n, (∀ k, k < n → f k = g k) → sumTo f n = sumTo g n
  | 0, _ => rfl
  | n + 1, h => by rw [sumTo_succ, sumTo_succ, sumTo_congr n (fun k hk => h k (by omega)), h n (by omega)]
theorem sumTo_add (f g : Nat → Int) : ∀ n, sumTo (fun k => f k + g k) n = sumTo f n + sumTo g n
  | 0 => rfl
  | n + 1 => by rw [sumTo_succ, sumTo_succ, sumTo_succ, sumTo_add f g n]; omega
theorem sumTo_mul (f : Nat → Int) (t : Int) : ∀ n, sumTo (fun k => f k * t) n = sumTo f n * t
  | 0 => by rw [sumTo_zero', sumTo_zero', Int.zero_mul]
  | n + 1 => by rw [sumTo_succ, sumTo_succ, sumTo_mul f t n, Int.add_mul]
theorem sumTo_mul' (f : Nat → Int) (t : Int) (n : Nat) : sumTo (fun k => t * f k) n = t * sumTo f n := by
  rw [Int.mul_comm, ← sumTo_mul]
  exact sumTo_congr n fun k _ => Int.mul_comm _ _
theorem sumTo_neg (f : Nat → Int) : ∀ n, sumTo (fun k => -f k) n = -sumTo f n
  | 0 => rfl
  | n + 1 => by rw [sumTo_succ, sumTo_succ, sumTo_neg f n]; omega
theorem sumTo_sub (f g : Nat → Int) (n : Nat) : sumTo (fun k => f k - g k) n = sumTo f n - sumTo g n := by
  have h := sumTo_add f (fun k => -g k) n
  rw [sumTo_neg] at h
  rw [Int.sub_eq_add_neg, ← h]
  exact sumTo_congr n fun k _ => Int.sub_eq_add_neg
theorem sumTo_null {f : Nat → Int} (n : Nat) (h : ∀ k, k < n → f k = 0) : sumTo f n = 0 := by
  induction n with
  | zero => rfl
  | succ n ih => rw [sumTo_succ, ih (fun k hk => h k (by omega)), h n (by omega)]; rfl
/-- One summand only. -/
theorem sumTo_one {f : Nat → Int} {i : Nat} : ∀ n, i < n → (∀ k, k < n → k ≠ i → f k = 0) → sumTo f n = f i
  | 0, hi, _ => absurd hi (Nat.not_lt_zero _)
  | n + 1, hi, h => by
    rw [sumTo_succ]
    by_cases e : i = n
    · subst e
      rw [sumTo_null i (fun k hk => h k (by omega) (by omega)), Int.zero_add]
    · rw [sumTo_one n (by omega) (fun k hk hne => h k (by omega) hne), h n (by omega) (fun e2 => e e2.symm), Int.add_zero]
theorem sumTo_swap (f : Nat → Nat → Int) (m : Nat) : ∀ n, sumTo (fun i => sumTo (fun j => f i j) m) n = sumTo (fun j => sumTo (fun i => f i j) n) m
  | 0 => by
    rw [sumTo_zero']
    exact (sumTo_null m fun k _ => rfl).symm
  | n + 1 => by
    rw [sumTo_succ, sumTo_swap f m n, ← sumTo_add]
    rfl
/-- The product over n places. -/
def mm (n : Nat) (f g : Fn2) : Fn2 := fun i j => sumTo (fun k => f i k * g k j) n
/-- A matrix times a column. -/
def mv (n : Nat) (f : Fn2) (z : Nat → Int) : Nat → Int := fun i => sumTo (fun k => f i k * z k) n
theorem mm_assoc (n m : Nat) (f g h : Fn2) (i j : Nat) : mm n (mm m f g) h i j = mm m f (mm n g h) i j := by
  unfold mm
  have e1 : ∀ k, sumTo (fun l => f i l * g l k) m * h k j = sumTo (fun l => f i l * g l k * h k j) m := fun k => (sumTo_mul _ _ _).symm
  have e2 : ∀ l, f i l * sumTo (fun k => g l k * h k j) n = sumTo (fun k => f i l * g l k * h k j) n := fun l => by
    rw [← sumTo_mul']
    exact sumTo_congr n fun k _ => by rw [Int.mul_assoc]
  rw [sumTo_congr n (fun k _ => e1 k), sumTo_congr m (fun l _ => e2 l), sumTo_swap]
theorem mv_mm (n m : Nat) (f g : Fn2) (z : Nat → Int) (i : Nat) : mv n (mm m f g) z i = mv m f (mv n g z) i := mm_assoc n m f g (fun k _ => z k) i 0
theorem mv_congr {n : Nat} {f g : Fn2} {y z : Nat → Int} {i : Nat} (h : ∀ k, k < n → f i k = g i k) (h2 : ∀ k, k < n → y k = z k) : mv n f y i = mv n g z i :=
  sumTo_congr n fun k hk => by rw [h k hk, h2 k hk]
theorem mv_sub (n : Nat) (f : Fn2) (y z : Nat → Int) (i : Nat) : mv n f (fun k => y k - z k) i = mv n f y i - mv n f z i := by
  unfold mv
  rw [← sumTo_sub]
  exact sumTo_congr n fun k _ => by rw [Int.mul_sub]
/-- Equal in R rows of C cells. -/
def EqM (R C : Nat) (f g : Fn2) : Prop := ∀ i j, i < R → j < C → f i j = g i j
/-- No column but that of zeros is taken to zeros. -/
def INJ (R : Nat) (g : Fn2) : Prop := ∀ z : Nat → Int, (∀ i, i < R → mv R g z i = 0) → ∀ k, k < R → z k = 0
theorem INJ.eq {R : Nat} {g : Fn2} (h : INJ R g) {y z : Nat → Int} (e : ∀ i, i < R → mv R g y i = mv R g z i) : ∀ k, k < R → y k = z k := fun k hk => by
  have := h (fun k => y k - z k) (fun i hi => by rw [mv_sub, e i hi, Int.sub_self]) k hk
  omega
theorem mv_id {R : Nat} (z : Nat → Int) {i : Nat} (hi : i < R) : mv R idF z i = z i := by
  unfold mv
  rw [sumTo_one R hi]
  · unfold idF; rw [if_pos rfl, Int.one_mul]
  · intro k hk hne
    unfold idF
    rw [if_neg (fun e => hne e.symm), Int.zero_mul]
theorem INJ.id (R : Nat) : INJ R idF := fun z h k hk => by rw [← mv_id z hk]; exact h k hk
-- operations on rows
theorem mv_add {R i j : Nat} {t : Int} {g g' : Fn2} (h1 : ∀ y, y < R → g' i y = g i y + g j y * t) (z : Nat → Int) : mv R g' z i = mv R g z i + mv R g z j * t := by
  unfold mv
  rw [← sumTo_mul, ← sumTo_add]
  exact sumTo_congr R fun k hk => by rw [h1 k hk]; grind
theorem INJ.add {R i j : Nat} {t : Int} {g g' : Fn2} (h : INJ R g) (hi : i < R) (hj : j < R) (hij : i ≠ j) (h1 : ∀ y, y < R → g' i y = g i y + g j y * t) (h2 : ∀ x y, x < R → y < R → x ≠ i → g' x y = g x y) : INJ R g' := fun z hz => by
  have e : ∀ x, x < R → x ≠ i → mv R g z x = 0 := fun x hx hne => by
    rw [← hz x hx]
    exact mv_congr (fun k hk => (h2 x k hx hk hne).symm) (fun _ _ => rfl)
  refine h z fun x hx => ?_
  by_cases hxi : x = i
  · subst hxi
    have := mv_add h1 z
    rw [hz x hx, e j hj (fun e => hij e.symm), Int.zero_mul, Int.add_zero] at this
    exact this.symm
  · exact e x hx hxi
theorem INJ.swap {R p t : Nat} {g : Fn2} (h : INJ R g) (hp : p < R) (ht : t < R) : INJ R (swF g p t) := fun z hz => by
  refine h z fun x hx => ?_
  by_cases h1 : x = p
  · subst h1
    rw [← hz t ht]
    exact sumTo_congr R fun k hk => by rw [swF_t]
  · by_cases h2 : x = t
    · subst h2
      rw [← hz p hp]
      refine sumTo_congr R fun k hk => ?_
      have e : swF g p x p k = g x k := by unfold swF; rw [if_pos rfl]
      rw [e]
    · rw [← hz x hx]
      refine mv_congr (fun k hk => ?_) (fun _ _ => rfl)
      unfold swF
      rw [if_neg h1, if_neg h2]
theorem INJ.neg {R i : Nat} {g g' : Fn2} (h : INJ R g) (h1 : ∀ y, y < R → g' i y = -g i y) (h2 : ∀ x y, x < R → y < R → x ≠ i → g' x y = g x y) : INJ R g' := fun z hz => by
  refine h z fun x hx => ?_
  by_cases hxi : x = i
  · subst hxi
    have e : mv R g' z x = -mv R g z x := by
      unfold mv
      rw [← sumTo_neg]
      exact sumTo_congr R fun k hk => by rw [h1 k hk, Int.neg_mul]
    rw [hz x hx] at e
    omega
  · rw [← hz x hx]
    exact mv_congr (fun k hk => (h2 x k hx hk hxi).symm) (fun _ _ => rfl)
end Go.Proofs.Ytacjonkehcamgaa

/-
  DERIVED. IdentityMatrix of both.
-/
namespace Go.Proofs.Ytacjonkehcamgaa
open Go.RowKit
set_option linter.unusedVariables false
set_option linter.unusedSimpArgs false
def idK (k : Nat) : Fn2 := fun i j => if i = j ∧ i < k then 1 else 0
theorem idK_zero : idK 0 = fun _ _ => 0 := by funext i j; simp [idK]
theorem idK_step (k : Nat) : upd (idK k) k k 1 = idK (k + 1) := by
  funext i j
  unfold upd idK
  by_cases h : i = k ∧ j = k
  · rw [if_pos h, if_pos ⟨by omega, by omega⟩]
  · rw [if_neg h]
    by_cases h2 : i = j ∧ i < k
    · rw [if_pos h2, if_pos ⟨h2.1, by omega⟩]
    · rw [if_neg h2, if_neg]
      rintro ⟨h3, h4⟩
      exact h2 ⟨h3, by have : i ≠ k := fun e => h ⟨e, by omega⟩; omega⟩
theorem idK_end (n : Nat) : tb n n (idK n) = tb n n idF := tb_ext fun i j hi hj => by
  unfold idK idF
  by_cases h : i = j
  · rw [if_pos ⟨h, hi⟩, if_pos h]
  · rw [if_neg (fun k => h k.1), if_neg h]
set_option maxHeartbeats 4000000 in
theorem impl_IdentityMatrix (n : Nat) (w : World) (hn : n ≤ 24) :
    Calls Try.prog 141 #[.int .i64 n] w (MBR ⟨n, n, tb n n idF⟩ true w) := by
  have hnn : n * n ≤ 24 * 24 := Nat.mul_le_mul hn hn
  go_enter Try.func141, Try.ntmps141
  go_wp2_with fail
  refine (impl_newMatrix n n _ (by omega) (by omega) (by omega)).mono ?_
  rintro e w1 ⟨A, m, cap, rfl, how0, hb1⟩
  have hsz1 := hb1.size
  simp at hsz1
  have hR1 : BM w1 w.heap.size 0 0 none 0 0 := Ka
  have hbw1 : Below w.heap.size w w1 := Kw
  generalize hbO : w1.heap.size = bO at *
  have hR : BM (w1.alloc (.cells #[.int .i64 n, .int .i64 n, .slice A m cap] 26)) w.heap.size 0 0 none 0 0 := Kb hR1
  have hO : BM (w1.alloc (.cells #[.int .i64 n, .int .i64 n, .slice A m cap] 26)) bO n n A m cap := Ka
  have hown : OR (w1.alloc (.cells #[.int .i64 n, .int .i64 n, .slice A m cap] 26)) (w.heap.size + 1) (.slice A m cap) (tb n n (idK 0)) := by
    rw [idK_zero, tb_zeros]; exact OR.alloc (OR.mono (xs := List.replicate (n * n) 0) how0 (by simp)) _
  have hbw : Below w.heap.size w (w1.alloc (.cells #[.int .i64 n, .int .i64 n, .slice A m cap] 26)) := Kw
  have HU : Hid (Own (.slice A m cap) (w.heap.size + 1) bO) := Lib.hid (by rw [← hbO]; exact (OR.own (xs := List.replicate (n * n) 0) how0).wide (by simp) (Nat.le_refl _))
  have hbO2 : w.heap.size + 1 ≤ bO := by omega
  clear hR1 hbw1 how0 hb1
  obtain ⟨oa, ob, oc, of, ol⟩ := hO.mx; obtain ⟨ra, rb, rc, rf, rl⟩ := hR.mx
  go_wp2_with fail
  generalize w1.alloc (.cells #[.int .i64 n, .int .i64 n, .slice A m cap] 26) = wo at *
  go_loopw [5] (fun v wr => ∃ k : Nat, v = .int .i64 k ∧ k ≤ n ∧ BM wr w.heap.size 0 0 none 0 0 ∧ BM wr bO n n A m cap ∧ OR wr (w.heap.size + 1) (.slice A m cap) (tb n n (idK k)) ∧ Below w.heap.size w wr) (fun v _ => n - (intOf v).toNat)
  case atStart => exact ⟨0, rfl, Nat.zero_le _, hR, hO, hown, hbw⟩
  case round =>
    clear hR hO hown hbw oa ob oc of ol ra rb rc rf rl
    obtain ⟨k, rfl, hk, hR, hO, hown, hbw⟩ := hrel
    obtain ⟨oa, ob, oc, of, ol⟩ := hO.mx; obtain ⟨ra, rb, rc, rf, rl⟩ := hR.mx
    have hszw := hbw.size
    by_cases hkn : k < n
    · have HST := Lib.hid (idK_step k)
      go_wp2_with fail
      refine (impl_set_tb n n k k 1 A m cap (idK k) (idK (k + 1)) HST.out _ (B := w.heap.size + 1) (Ko hown) (by omega) (by omega) hkn hkn).mono ?_
      rintro e w2 ⟨rfl, hown2, hgr, hsz2⟩
      have hR2 : BM w2 w.heap.size 0 0 none 0 0 := BX.keptOwn (Kb hR) hgr HU.out (by omega)
      have hO2 : BM w2 bO n n A m cap := BX.keptOwn (Kb hO) hgr HU.out (by omega)
      have hbw2 : Below w.heap.size w w2 := Below.trans Kw (below_keptOwn hgr HU.out (by omega) Ks)
      go_wp2_with fail
      go_roundw
      case rel => exact ⟨k + 1, by go_num, by omega, Kb hR2, Kb hO2, Ko hown2, Kw⟩
      case measure => simp only [intOf]; omega
    · obtain rfl : k = n := by omega
      have hown2 := hown.as (idK_end k)
      clear hown
      go_wp2_with fail
      refine ret_MB (r := k) (c := k) (A := A) (n := m) (cap := cap) Try.results141 rfl (Kb hR) rfl ?_
      exact MBR.mk rfl (OR.mono (B := w.heap.size + 1) (Ko hown2) (by omega)) Kw
set_option maxHeartbeats 4000000 in
theorem spec_IdentityMatrix (n : Nat) (w : World) (hn : n ≤ 24) :
    Calls Try.prog 136 #[.int .i64 n] w (MBR ⟨n, n, tb n n idF⟩ true w) := by
  have hnn : n * n ≤ 24 * 24 := Nat.mul_le_mul hn hn
  go_enter Try.func136, Try.ntmps136
  go_wp2_with (first | (go_at_call 154; (first | refine (spec_l1In_yes _ _ _ _ (by omega)).mono ?_ | refine (spec_l1In_no _ _ _ _ (by omega)).mono ?_ | refine (spec_l1In _ _ _ _).mono ?_); rintro e w' ⟨rfl, rfl⟩))
  refine (spec_l3New n n _ (by omega) (by omega) (by omega)).mono ?_
  rintro e w1 ⟨A, m, cap, rfl, how0, hb1⟩
  have hsz1 := hb1.size
  simp at hsz1
  have hR1 : BM w1 w.heap.size 0 0 none 0 0 := Ka
  have hbw1 : Below w.heap.size w w1 := Kw
  generalize hbO : w1.heap.size = bO at *
  have hR : BM (w1.alloc (.cells #[.int .i64 n, .int .i64 n, .slice A m cap] 26)) w.heap.size 0 0 none 0 0 := Kb hR1
  have hO : BM (w1.alloc (.cells #[.int .i64 n, .int .i64 n, .slice A m cap] 26)) bO n n A m cap := Ka
  have hown : OR (w1.alloc (.cells #[.int .i64 n, .int .i64 n, .slice A m cap] 26)) (w.heap.size + 1) (.slice A m cap) (tb n n (idK 0)) := by
    rw [idK_zero, tb_zeros]; exact OR.alloc (OR.mono (xs := List.replicate (n * n) 0) how0 (by simp)) _
  have hbw : Below w.heap.size w (w1.alloc (.cells #[.int .i64 n, .int .i64 n, .slice A m cap] 26)) := Kw
  have HU : Hid (Own (.slice A m cap) (w.heap.size + 1) bO) := Lib.hid (by rw [← hbO]; exact (OR.own (xs := List.replicate (n * n) 0) how0).wide (by simp) (Nat.le_refl _))
  have hbO2 : w.heap.size + 1 ≤ bO := by omega
  clear hR1 hbw1 how0 hb1
  obtain ⟨oa, ob, oc, of, ol⟩ := hO.mx; obtain ⟨ra, rb, rc, rf, rl⟩ := hR.mx
  go_wp2_with fail
  generalize w1.alloc (.cells #[.int .i64 n, .int .i64 n, .slice A m cap] 26) = wo at *
  go_loopw [5] (fun v wr => ∃ k : Nat, v = .int .i64 k ∧ k ≤ n ∧ BM wr w.heap.size 0 0 none 0 0 ∧ BM wr bO n n A m cap ∧ OR wr (w.heap.size + 1) (.slice A m cap) (tb n n (idK k)) ∧ Below w.heap.size w wr) (fun v _ => n - (intOf v).toNat)
  case atStart => exact ⟨0, rfl, Nat.zero_le _, hR, hO, hown, hbw⟩
  case round =>
    clear hR hO hown hbw oa ob oc of ol ra rb rc rf rl
    obtain ⟨k, rfl, hk, hR, hO, hown, hbw⟩ := hrel
    obtain ⟨oa, ob, oc, of, ol⟩ := hO.mx; obtain ⟨ra, rb, rc, rf, rl⟩ := hR.mx
    have hszw := hbw.size
    by_cases hkn : k < n
    · have hln := hown.lenEq
      rw [tb_len] at hln
      obtain ⟨g, rfl, hg1, hg2⟩ := hown.begins (by rw [tb_len]; exact Nat.mul_pos (by omega) (by omega))
      have hix := idx_nat hkn hkn
      have c1 := hown.cell (k * n + k) (by rw [tb_len]; exact hix)
      have f1 := hown.frozen (k * n + k)
      have hst := hown.set_ (k * n + k) 1
      rw [tb_set hkn hkn, idK_step] at hst
      have i1 : (k : Int) * (n : Int) = ((k * n : Nat) : Int) := by rw [Int.natCast_mul]
      have i2 : 0 ≤ (k : Int) * (n : Int) ∧ (k : Int) * (n : Int) + (k : Int) < (m : Int) ∧ (k : Int) * (n : Int) ≤ 10000 := by omega
      obtain ⟨i2, i3, i4⟩ := i2
      have hgU := HU.out g rfl
      have hgO : ¬ g = bO := by omega
      have hg0 : ¬ g = w.heap.size := by omega
      generalize hcv : (tb n n (idK k)).getD (k * n + k) 0 = cv at c1
      clear i1 hix hln hcv
      go_wp2_with fail
      go_roundw
      case rel => exact ⟨k + 1, by go_num, by omega, Kb hR, Kb hO, hst, Kw⟩
      case measure => simp only [intOf]; omega
    · obtain rfl : k = n := by omega
      have hown2 := hown.as (idK_end k)
      clear hown
      go_wp2_with fail
      refine ret_MB (r := k) (c := k) (A := A) (n := m) (cap := cap) Try.results136 rfl (Kb hR) rfl ?_
      exact MBR.mk rfl (OR.mono (B := w.heap.size + 1) (Ko hown2) (by omega)) Kw
end Go.Proofs.Ytacjonkehcamgaa

/-
  DERIVED. Determinants by expansion along the first row: linear in rows and columns, zero where two rows or two columns are equal. No program in sight.
-/
namespace Go.Proofs.Ytacjonkehcamgaa
set_option linter.unusedVariables false
def sg (j : Nat) : Int := if j % 2 = 1 then -1 else 1
theorem sg_succ (j : Nat) : sg (j + 1) = -sg j := by
  unfold sg
  rcases Nat.mod_two_eq_zero_or_one j with h | h
  · rw [if_pos (by omega), if_neg (by omega)]
  · rw [if_neg (by omega), if_pos (by omega)]; rfl
/-- The column behind the one that is left out. -/
def sk (j b : Nat) : Nat := if b < j then b else b + 1
/-- Without the first row and column j. -/
def mnr (f : Fn2) (j : Nat) : Fn2 := fun a b => f (a + 1) (sk j b)
def Dt : Nat → Fn2 → Int
  | 0, _ => 1
  | n + 1, f => sumTo (fun j => sg j * f 0 j * Dt n (mnr f j)) (n + 1)
theorem Dt_succ (n : Nat) (f : Fn2) : Dt (n + 1) f = sumTo (fun j => sg j * f 0 j * Dt n (mnr f j)) (n + 1) := rfl
theorem sk_lt {j b n : Nat} (h : b < n) : sk j b < n + 1 := by unfold sk; split <;> omega
theorem sk_ne (j b : Nat) : sk j b ≠ j := by unfold sk; split <;> omega
theorem Dt_congr : ∀ (n : Nat) {f g : Fn2}, EqM n n f g → Dt n f = Dt n g
  | 0, _, _, _ => rfl
  | n + 1, f, g, h => by
    rw [Dt_succ, Dt_succ]
    refine sumTo_congr (n + 1) fun j hj => ?_
    have ih : Dt n (mnr f j) = Dt n (mnr g j) := Dt_congr n fun a b ha hb => h (a + 1) (sk j b) (by omega) (sk_lt hb)
    rw [h 0 j (by omega) hj, ih]
/-- Linear in row i. -/
theorem Dt_row : ∀ (n i : Nat) (t : Int) {f g h : Fn2}, i < n → (∀ y, y < n → f i y = g i y + h i y * t) → (∀ x y, x < n → y < n → x ≠ i → f x y = g x y ∧ f x y = h x y) → Dt n f = Dt n g + Dt n h * t
  | 0, i, _, _, _, _, hi, _, _ => absurd hi (Nat.not_lt_zero _)
  | n + 1, 0, t, f, g, h, _, h1, h2 => by
    rw [Dt_succ, Dt_succ, Dt_succ, ← sumTo_mul, ← sumTo_add]
    refine sumTo_congr (n + 1) fun j hj => ?_
    have e1 : Dt n (mnr g j) = Dt n (mnr f j) := Dt_congr n fun a b ha hb => (h2 (a + 1) (sk j b) (by omega) (sk_lt hb) (by omega)).1.symm
    have e2 : Dt n (mnr h j) = Dt n (mnr f j) := Dt_congr n fun a b ha hb => (h2 (a + 1) (sk j b) (by omega) (sk_lt hb) (by omega)).2.symm
    rw [e1, e2, h1 j hj]
    grind
  | n + 1, i + 1, t, f, g, h, hi, h1, h2 => by
    rw [Dt_succ, Dt_succ, Dt_succ, ← sumTo_mul, ← sumTo_add]
    refine sumTo_congr (n + 1) fun j hj => ?_
    have e1 := (h2 0 j (by omega) hj (by omega)).1
    have e2 := (h2 0 j (by omega) hj (by omega)).2
    have ih := Dt_row n i t (f := mnr f j) (g := mnr g j) (h := mnr h j) (by omega) (fun y hy => h1 (sk j y) (sk_lt hy)) (fun x y hx hy hne => h2 (x + 1) (sk j y) (by omega) (sk_lt hy) (by omega))
    rw [ih, ← e1, ← e2]
    grind
/-- Linear in column c. -/
theorem Dt_col : ∀ (n c : Nat) (t : Int) {f g h : Fn2}, c < n → (∀ x, x < n → f x c = g x c + h x c * t) → (∀ x y, x < n → y < n → y ≠ c → f x y = g x y ∧ f x y = h x y) → Dt n f = Dt n g + Dt n h * t
  | 0, c, _, _, _, _, hc, _, _ => absurd hc (Nat.not_lt_zero _)
  | n + 1, c, t, f, g, h, hc, h1, h2 => by
    rw [Dt_succ, Dt_succ, Dt_succ, ← sumTo_mul, ← sumTo_add]
    refine sumTo_congr (n + 1) fun j hj => ?_
    by_cases e : j = c
    · subst e
      have e1 : Dt n (mnr g j) = Dt n (mnr f j) := Dt_congr n fun a b ha hb => (h2 (a + 1) (sk j b) (by omega) (sk_lt hb) (sk_ne j b)).1.symm
      have e2 : Dt n (mnr h j) = Dt n (mnr f j) := Dt_congr n fun a b ha hb => (h2 (a + 1) (sk j b) (by omega) (sk_lt hb) (sk_ne j b)).2.symm
      rw [e1, e2, h1 0 (by omega)]
      grind
    · have e1 := (h2 0 j (by omega) hj e).1
      have e2 := (h2 0 j (by omega) hj e).2
      obtain ⟨c', hc', hk, hk2⟩ : ∃ c', c' < n ∧ sk j c' = c ∧ ∀ y, sk j y = c → y = c' := by
        by_cases hlt : c < j
        · exact ⟨c, by omega, by unfold sk; rw [if_pos hlt], fun y hy => by unfold sk at hy; split at hy <;> omega⟩
        · refine ⟨c - 1, by omega, by unfold sk; rw [if_neg (by omega)]; omega, fun y hy => by unfold sk at hy; split at hy <;> omega⟩
      have ih := Dt_col n c' t (f := mnr f j) (g := mnr g j) (h := mnr h j) hc' (fun x hx => by
        show f (x + 1) (sk j c') = g (x + 1) (sk j c') + h (x + 1) (sk j c') * t
        rw [hk]
        exact h1 (x + 1) (by omega)) (fun x y hx hy hne => h2 (x + 1) (sk j y) (by omega) (sk_lt hy) (fun e2 => hne (hk2 y e2)))
      rw [ih, ← e1, ← e2]
      grind
/-- Two summands only. -/
theorem sumTo_two {f : Nat → Int} {i : Nat} (n : Nat) (hi : i + 1 < n) (h : ∀ k, k < n → k ≠ i → k ≠ i + 1 → f k = 0) : sumTo f n = f i + f (i + 1) := by
  induction n with
  | zero => omega
  | succ n ih =>
    rw [sumTo_succ]
    by_cases e : i + 1 = n
    · subst e
      rw [sumTo_one (i := i) (i + 1) (by omega) (fun k hk hne => h k (by omega) hne (by omega))]
    · rw [ih (by omega) (fun k hk h1 h2 => h k (by omega) h1 h2), h n (by omega) (by omega) (by omega), Int.add_zero]
/-- Zero where two columns beside each other are equal. -/
theorem Dt_col_eq : ∀ (n c : Nat) {f : Fn2}, c + 1 < n → (∀ x, x < n → f x c = f x (c + 1)) → Dt n f = 0
  | 0, c, _, hc, _ => absurd hc (Nat.not_lt_zero _)
  | n + 1, c, f, hc, h => by
    rw [Dt_succ, sumTo_two (i := c) (n + 1) hc (fun j hj h1 h2 => ?_)]
    · have e : Dt n (mnr f c) = Dt n (mnr f (c + 1)) := Dt_congr n fun a b ha hb => by
        show f (a + 1) (sk c b) = f (a + 1) (sk (c + 1) b)
        by_cases hbc : b = c
        · subst hbc
          have e1 : sk b b = b + 1 := by unfold sk; rw [if_neg (Nat.lt_irrefl _)]
          have e2 : sk (b + 1) b = b := by unfold sk; rw [if_pos (by omega)]
          rw [e1, e2]
          exact (h (a + 1) (by omega)).symm
        · have e3 : sk c b = sk (c + 1) b := by unfold sk; split <;> split <;> omega
          rw [e3]
      rw [e, sg_succ, h 0 (by omega)]
      grind
    · have hz : Dt n (mnr f j) = 0 := by
        obtain ⟨c', hc', e1, e2⟩ : ∃ c', c' + 1 < n ∧ sk j c' = c ∧ sk j (c' + 1) = c + 1 := by
          by_cases hlt : c < j
          · exact ⟨c, by omega, by unfold sk; rw [if_pos hlt], by unfold sk; rw [if_pos (by omega)]⟩
          · exact ⟨c - 1, by omega, by unfold sk; rw [if_neg (by omega)]; omega, by unfold sk; rw [if_neg (by omega)]; omega⟩
        refine Dt_col_eq n c' hc' fun x hx => ?_
        show f (x + 1) (sk j c') = f (x + 1) (sk j (c' + 1))
        rw [e1, e2]
        exact h (x + 1) (by omega)
      rw [hz, Int.mul_zero]
/-- A sum over pairs that change sign when turned is zero. -/
theorem sumTo_anti {g : Nat → Nat → Int} (n : Nat) (h : ∀ a b, a < n → b < n → g a b = -g b a) : sumTo (fun a => sumTo (fun b => g a b) n) n = 0 := by
  have e : sumTo (fun a => sumTo (fun b => g a b) n) n = sumTo (fun a => -sumTo (fun b => g b a) n) n :=
    sumTo_congr n fun a ha => by
      rw [← sumTo_neg]
      exact sumTo_congr n fun b hb => h a b ha hb
  rw [sumTo_neg, sumTo_swap (fun a b => g b a) n n] at e
  omega
/-- A sum that leaves one place out. -/
theorem sumTo_skip {g : Nat → Int} {j : Nat} : ∀ n, j < n + 1 → sumTo (fun k => g (sk j k)) n = sumTo (fun b => if b = j then 0 else g b) (n + 1)
  | 0, hj => by
    have : j = 0 := by omega
    subst this
    rfl
  | n + 1, hj => by
    by_cases e : j = n + 1
    · subst e
      rw [sumTo_succ _ (n + 1), if_pos rfl, Int.add_zero]
      refine sumTo_congr (n + 1) fun k hk => ?_
      unfold sk
      rw [if_pos hk, if_neg (by omega)]
    · rw [sumTo_succ _ n, sumTo_skip n (by omega), sumTo_succ _ (n + 1), if_neg (by omega)]
      have : sk j n = n + 1 := by unfold sk; rw [if_neg (by omega)]
      rw [this]
/-- Without two rows and two columns, whichever goes first. -/
theorem mnr_two {f : Fn2} {a b : Nat} (h : a < b) : mnr (mnr f b) a = mnr (mnr f a) (b - 1) := by
  funext x y
  show f (x + 1 + 1) (sk b (sk a y)) = f (x + 1 + 1) (sk a (sk (b - 1) y))
  have : sk b (sk a y) = sk a (sk (b - 1) y) := by
    unfold sk
    repeat' split
    all_goals omega
  rw [this]
/-- Zero where two rows beside each other are equal. -/
theorem Dt_row_eq : ∀ (n i : Nat) {f : Fn2}, i + 1 < n → (∀ y, y < n → f i y = f (i + 1) y) → Dt n f = 0
  | 0, i, _, hi, _ => absurd hi (Nat.not_lt_zero _)
  | n + 1, i + 1, f, hi, h => by
    rw [Dt_succ]
    refine sumTo_null (n + 1) fun j hj => ?_
    rw [Dt_row_eq n i (f := mnr f j) (by omega) (fun y hy => h (sk j y) (sk_lt hy)), Int.mul_zero]
  | 1, 0, f, hi, h => by omega
  | n + 2, 0, f, hi, h => by
    rw [Dt_succ]
    -- the summand for the columns a of row 0 and b of row 1
    have key : ∀ a, a < n + 2 → sg a * f 0 a * Dt (n + 1) (mnr f a) = sumTo (fun b => if b = a then 0 else sg a * f 0 a * ((if b < a then sg b else sg (b - 1)) * f 0 b * Dt n (mnr (mnr f a) (if b < a then b else b - 1)))) (n + 2) := fun a ha => by
      rw [← sumTo_skip (g := fun b => sg a * f 0 a * ((if b < a then sg b else sg (b - 1)) * f 0 b * Dt n (mnr (mnr f a) (if b < a then b else b - 1)))) (n + 1) ha, Dt_succ, ← sumTo_mul']
      refine sumTo_congr (n + 1) fun k hk => ?_
      have e0 : mnr f a 0 k = f 0 (sk a k) := (h (sk a k) (sk_lt hk)).symm
      have e1 : (if sk a k < a then sk a k else sk a k - 1) = k := by
        unfold sk
        repeat' split
        all_goals omega
      have e2 : (if sk a k < a then sg (sk a k) else sg (sk a k - 1)) = sg k := by
        by_cases hka : k < a
        · have : sk a k = k := by unfold sk; rw [if_pos hka]
          rw [this, if_pos hka]
        · have : sk a k = k + 1 := by unfold sk; rw [if_neg hka]
          rw [this, if_neg (by omega), Nat.add_sub_cancel]
      rw [e0, e1, e2]
    rw [sumTo_congr (n + 2) key]
    refine sumTo_anti (n + 2) fun a b ha hb => ?_
    by_cases e : b = a
    · subst e; rw [if_pos rfl]; rfl
    · rw [if_neg e, if_neg (show ¬ a = b from fun e2 => e e2.symm)]
      by_cases hlt : b < a
      · rw [if_pos hlt, if_pos hlt, if_neg (show ¬ a < b by omega), if_neg (show ¬ a < b by omega), mnr_two hlt]
        have : sg a = -sg (a - 1) := by
          have := sg_succ (a - 1)
          rwa [Nat.sub_add_cancel (by omega)] at this
        rw [this]
        grind
      · have hlt2 : a < b := by omega
        rw [if_neg hlt, if_neg hlt, if_pos hlt2, if_pos hlt2, mnr_two hlt2]
        have : sg b = -sg (b - 1) := by
          have := sg_succ (b - 1)
          rwa [Nat.sub_add_cancel (by omega)] at this
        rw [this]
        grind
/-- Linear in each row, zero where two rows beside each other are equal. -/
structure Alt (n : Nat) (F : Fn2 → Int) : Prop where
  congr : ∀ (f g : Fn2), EqM n n f g → F f = F g
  lin : ∀ (i : Nat) (t : Int) (f g h : Fn2), i < n → (∀ y, y < n → f i y = g i y + h i y * t) → (∀ x y, x < n → y < n → x ≠ i → f x y = g x y ∧ f x y = h x y) → F f = F g + F h * t
  alt : ∀ (i : Nat) (f : Fn2), i + 1 < n → (∀ y, y < n → f i y = f (i + 1) y) → F f = 0
theorem Dt_alt (n : Nat) : Alt n (Dt n) :=
  ⟨fun f g h => Dt_congr n h, fun i t f g h hi h1 h2 => Dt_row n i t hi h1 h2, fun i f hi h => Dt_row_eq n i hi h⟩
theorem Dt_altC (n : Nat) : Alt n (fun f => Dt n (fun a b => f b a)) :=
  ⟨fun f g h => Dt_congr n fun a b ha hb => h b a hb ha, fun i t f g h hi h1 h2 => Dt_col n i t hi (fun x hx => h1 x hx) (fun x y hx hy hne => h2 y x hy hx hne), fun i f hi h => Dt_col_eq n i hi fun x hx => h x hx⟩
/-- Rows i and j anew. -/
def rw2 (f : Fn2) (i j : Nat) (a b : Nat → Int) : Fn2 := fun x y => if x = i then a y else if x = j then b y else f x y
section
variable {n : Nat} {F : Fn2 → Int}
/-- The exchange of two rows, if equal ones give zero there. -/
theorem Alt.turn (H : Alt n F) {i j : Nat} (hi : i < n) (hj : j < n) (hij : i ≠ j) (hz : ∀ f : Fn2, (∀ y, y < n → f i y = f j y) → F f = 0) (f : Fn2) (a b : Nat → Int) : F (rw2 f i j b a) = -F (rw2 f i j a b) := by
  have hji : j ≠ i := fun e => hij e.symm
  have z : ∀ c, F (rw2 f i j c c) = 0 := fun c => hz _ fun y _ => by unfold rw2; rw [if_pos rfl, if_neg hji, if_pos rfl]
  have l1 : ∀ c, F (rw2 f i j (fun y => a y + b y) c) = F (rw2 f i j a c) + F (rw2 f i j b c) := fun c => by
    have := H.lin i 1 (rw2 f i j (fun y => a y + b y) c) (rw2 f i j a c) (rw2 f i j b c) hi (fun y _ => by unfold rw2; rw [if_pos rfl, if_pos rfl, if_pos rfl, Int.mul_one]) (fun x y _ _ hne => by unfold rw2; rw [if_neg hne, if_neg hne, if_neg hne]; exact ⟨rfl, rfl⟩)
    rw [this, Int.mul_one]
  have l2 : ∀ c, F (rw2 f i j c (fun y => a y + b y)) = F (rw2 f i j c a) + F (rw2 f i j c b) := fun c => by
    have := H.lin j 1 (rw2 f i j c (fun y => a y + b y)) (rw2 f i j c a) (rw2 f i j c b) hj (fun y _ => by unfold rw2; rw [if_neg hji, if_pos rfl, if_neg hji, if_pos rfl, if_neg hji, if_pos rfl, Int.mul_one]) (fun x y _ _ hne => by unfold rw2; rw [if_neg hne, if_neg hne, if_neg hne]; exact ⟨rfl, rfl⟩)
    rw [this, Int.mul_one]
  have h0 := z (fun y => a y + b y)
  rw [l1, l2, l2, z, z] at h0
  omega
theorem rw2_self (f : Fn2) (i j : Nat) : rw2 f i j (f i) (f j) = f := by
  funext x y
  unfold rw2
  split
  · rename_i h; rw [h]
  · split
    · rename_i h; rw [h]
    · rfl
theorem rw2_swap (f : Fn2) {i j : Nat} : rw2 f i j (f j) (f i) = swF f i j := by
  funext x y
  unfold rw2 swF
  split
  · rfl
  · split
    · rfl
    · rfl
theorem Alt.adj (H : Alt n F) {i : Nat} (hi : i + 1 < n) (f : Fn2) : F (swF f i (i + 1)) = -F f := by
  have := H.turn (i := i) (j := i + 1) (by omega) hi (by omega) (fun f h => H.alt i f hi h) f (f i) (f (i + 1))
  rw [rw2_self, rw2_swap] at this
  exact this
/-- Zero where two rows are equal. -/
theorem Alt.same_lt (H : Alt n F) : ∀ (d i : Nat) (f : Fn2), i + d + 1 < n → (∀ y, y < n → f i y = f (i + d + 1) y) → F f = 0
  | 0, i, f, hi, h => H.alt i f hi h
  | d + 1, i, f, hi, h => by
    have h1 := H.adj (i := i + d + 1) (by omega) f
    have h2 : F (swF f (i + d + 1) (i + d + 1 + 1)) = 0 := H.same_lt d i _ (by omega) fun y hy => by
      have e1 : swF f (i + d + 1) (i + d + 1 + 1) i y = f i y := by unfold swF; rw [if_neg (by omega), if_neg (by omega)]
      have e2 : swF f (i + d + 1) (i + d + 1 + 1) (i + d + 1) y = f (i + d + 1 + 1) y := by unfold swF; rw [if_pos rfl]
      rw [e1, e2]
      exact h y hy
    rw [h2] at h1
    omega
theorem Alt.same (H : Alt n F) {i j : Nat} (hi : i < n) (hj : j < n) (hij : i ≠ j) (f : Fn2) (h : ∀ y, y < n → f i y = f j y) : F f = 0 := by
  rcases Nat.lt_or_ge i j with hlt | hge
  · exact H.same_lt (j - i - 1) i f (by omega) (by rw [show i + (j - i - 1) + 1 = j by omega]; exact h)
  · exact H.same_lt (i - j - 1) j f (by omega) (by rw [show j + (i - j - 1) + 1 = i by omega]; exact fun y hy => (h y hy).symm)
theorem Alt.swap (H : Alt n F) {i j : Nat} (hi : i < n) (hj : j < n) (hij : i ≠ j) (f : Fn2) : F (swF f i j) = -F f := by
  have := H.turn hi hj hij (fun f h => H.same hi hj hij f h) f (f i) (f j)
  rw [rw2_self, rw2_swap] at this
  exact this
/-- A multiple of a row added to another one. -/
theorem Alt.add (H : Alt n F) {i j : Nat} {t : Int} {f g : Fn2} (hi : i < n) (hj : j < n) (hij : i ≠ j) (h1 : ∀ y, y < n → g i y = f i y + f j y * t) (h2 : ∀ x y, x < n → y < n → x ≠ i → g x y = f x y) : F g = F f := by
  have h3 := H.lin i t g f (fun x y => if x = i then f j y else f x y) hi (fun y hy => by
    show g i y = f i y + (if i = i then f j y else f i y) * t
    rw [if_pos rfl]
    exact h1 y hy) (fun x y hx hy hne => ⟨h2 x y hx hy hne, by show g x y = if x = i then f j y else f x y; rw [if_neg hne]; exact h2 x y hx hy hne⟩)
  have h4 : F (fun x y => if x = i then f j y else f x y) = 0 := H.same hi hj hij _ fun y hy => by
    show (if i = i then f j y else f i y) = if j = i then f j y else f j y
    rw [if_pos rfl, if_neg (fun e => hij e.symm)]
  rw [h3, h4, Int.zero_mul, Int.add_zero]
theorem Alt.zero (H : Alt n F) {i : Nat} {f : Fn2} (hi : i < n) (h : ∀ y, y < n → f i y = 0) : F f = 0 := by
  have h3 := H.lin i 1 f f f hi (fun y hy => by rw [h y hy]; rfl) (fun x y hx hy hne => ⟨rfl, rfl⟩)
  omega
theorem Alt.scale (H : Alt n F) {i : Nat} {t : Int} {f g : Fn2} (hi : i < n) (h1 : ∀ y, y < n → g i y = f i y * t) (h2 : ∀ x y, x < n → y < n → x ≠ i → g x y = f x y) : F g = F f * t := by
  have h3 := H.lin i t g (fun x y => if x = i then 0 else f x y) f hi (fun y hy => by
    show g i y = (if i = i then 0 else f i y) + f i y * t
    rw [if_pos rfl, h1 y hy, Int.zero_add]) (fun x y hx hy hne => ⟨by show g x y = if x = i then 0 else f x y; rw [if_neg hne]; exact h2 x y hx hy hne, h2 x y hx hy hne⟩)
  have h4 : F (fun x y => if x = i then 0 else f x y) = 0 := H.zero hi fun y hy => by
    show (if i = i then (0 : Int) else f i y) = 0
    rw [if_pos rfl]
  rw [h3, h4, Int.zero_add]
end
/-- A matrix with zeros below the diagonal: the product of the diagonal. -/
theorem Dt_id : ∀ n, Dt n idF = 1
  | 0 => rfl
  | n + 1 => by
    rw [Dt_succ, sumTo_one (i := 0) (n + 1) (by omega) (fun k hk hne => ?_)]
    · have e : Dt n (mnr idF 0) = Dt n idF := Dt_congr n fun a b ha hb => by
        show idF (a + 1) (sk 0 b) = idF a b
        unfold idF sk
        rw [if_neg (Nat.not_lt_zero _)]
        by_cases h : a = b
        · rw [if_pos h, if_pos (by omega)]
        · rw [if_neg h, if_neg (by omega)]
      rw [e, Dt_id n]
      rfl
    · have : idF 0 k = 0 := by unfold idF; rw [if_neg (fun e => hne e.symm)]
      rw [this]
      grind
end Go.Proofs.Ytacjonkehcamgaa

/-
  DERIVED. SameSpace, both.
-/
namespace Go.Proofs.Ytacjonkehcamgaa
open Go.RowKit
set_option linter.unusedVariables false
set_option linter.unusedSimpArgs false
theorem RI.first {w : World} {B n m : Nat} {A : Option Addr} {xs : List Int} (h : RI w B A n xs) (hm : m ≤ n) : RI w B A m (xs.take m) := by
  refine ⟨by rw [List.length_take, h.len]; omega, fun h0 => ?_⟩
  obtain ⟨b, o, e, hb, hc⟩ := h.2 (by omega)
  refine ⟨b, o, e, hb, fun k hk => ?_⟩
  rw [hc k (by omega)]
  simp [List.getD, hk]
/-- Whether both have an echelon form, and as many columns. -/
def ssOk (r c : Int) (xs : List Int) (r2 c2 : Int) (ys : List Int) : Bool := (eoX r c xs).isSome && (eoX r2 c2 ys).isSome && decide (c = c2)
/-- Whether the forms have the same rows that are not zeros. -/
def ssE (c : Int) (X Y : Option QSt) (mx my : Mx) : Bool := decide ((psQ X).length = (psQ Y).length) && eqB (mx.xs.take ((psQ X).length * c.toNat)) (my.xs.take ((psQ X).length * c.toNat))
def ssB (r c : Int) (xs : List Int) (r2 c2 : Int) (ys : List Int) : Bool := ssOk r c xs r2 c2 ys && ssE c (eoX r c xs) (eoX r2 c2 ys) (mxQ r c (eoX r c xs)) (mxQ r2 c2 (eoX r2 c2 ys))
theorem eoX_some {r c : Int} {xs : List Int} (h : (eoX r c xs).isSome = true) : ∃ (R C : Nat) (s : QSt), r = (R : Int) ∧ c = (C : Int) ∧ R ≤ 24 ∧ C ≤ 24 ∧ eoX r c xs = some s ∧ s.ps.length ≤ R ∧ (mxQ r c (eoX r c xs)) = ⟨R, C, tb R C s.f⟩ := by
  unfold eoX at h ⊢
  by_cases hm : isMat r c xs = true
  · rw [if_pos hm] at h ⊢
    have M := isMat_iff.1 hm
    have h1 := M.r0; have h2 := M.r1; have h3 := M.c0; have h4 := M.c1
    obtain ⟨R, rfl⟩ := nat_of h1
    obtain ⟨C, rfl⟩ := nat_of h3
    simp only [Int.toNat_natCast] at h ⊢
    cases hx : echQ R C (fun i j : Nat => cel xs C i j) with
    | none => rw [hx] at h; cases h
    | some s => exact ⟨R, C, s, rfl, rfl, by omega, by omega, rfl, colsQ_le _ _ _ _ (Nat.zero_le _) hx, rfl⟩
  · rw [if_neg hm] at h; cases h
set_option maxRecDepth 100000 in
set_option maxHeartbeats 8000000 in
theorem impl_SameSpace (r c r2 c2 : Int) (A A' : Option Addr) (n cap n' cap' : Nat) (xs ys : List Int) (w : World) {B B' : Nat} (h : RI w B A n xs) (h' : RI w B' A' n' ys) (hB : B ≤ w.heap.size) (hB' : B' ≤ w.heap.size) (hn : n ≤ 1048576) (hn' : n' ≤ 1048576) :
    Calls Try.prog 73 #[.agg #[.int .i64 r, .int .i64 c, .slice A n cap], .agg #[.int .i64 r2, .int .i64 c2, .slice A' n' cap']] w (BV (.tuple #[.bool (ssB r c xs r2 c2 ys), .bool (ssOk r c xs r2 c2 ys)]) w) := by
  have H2 := Lib.hid (h.more hB)
  have H3 := Lib.hid (h'.more hB')
  clear h h' hB hB'
  have hsome := @eoX_some r c xs
  have hsome2 := @eoX_some r2 c2 ys
  have hOk : ssOk r c xs r2 c2 ys = ((eoX r c xs).isSome && (eoX r2 c2 ys).isSome && decide (c = c2)) := rfl
  have hBB : ssB r c xs r2 c2 ys = (ssOk r c xs r2 c2 ys && ssE c (eoX r c xs) (eoX r2 c2 ys) (mxQ r c (eoX r c xs)) (mxQ r2 c2 (eoX r2 c2 ys))) := rfl
  generalize ssOk r c xs r2 c2 ys = vo at *
  generalize ssB r c xs r2 c2 ys = vb at *
  generalize hx : eoX r c xs = X at *
  generalize hy : eoX r2 c2 ys = Y at *
  have HX := Lib.hid hx
  have HY := Lib.hid hy
  clear hx hy
  have hno : (X.isSome && Y.isSome) = false → vo = false ∧ vb = false := by
    intro e
    rw [e, Bool.false_and] at hOk
    rw [hOk, Bool.false_and] at hBB
    exact ⟨hOk, hBB⟩
  rcases hX : X.isSome with _ | _
  · obtain ⟨rfl, rfl⟩ := hno (by rw [hX]; rfl)
    have HXS := Lib.hid hX
    clear hX hsome hsome2 hno hOk hBB
    rcases hY : Y.isSome with _ | _
    all_goals
      have HYS := Lib.hid hY
      clear hY
      go_enter Try.func73, Try.ntmps73
      go_wp2_with fail
      refine (impl_EchelonOf r c A n cap xs _ (B := w.heap.size) (Kr H2.out) Ks hn).mono ?_; rw [HX.out, HXS.out]; rintro e w1 ⟨Ax, nx, capx, P, k, pc, rfl, ho1, hp1, hap1, hb1⟩; have hsz1 := hb1.size; simp at hsz1; have hA1 : BM w1 w.heap.size r c A n cap := Ka; have hB1 : BM w1 (w.heap.size + 1) r2 c2 A' n' cap' := Ka; have hbw1 : Below w.heap.size w w1 := Kw; clear ho1 hp1 hap1; obtain ⟨aa, ab, ac, af, al⟩ := hA1.mx; obtain ⟨ba, bb, bc, bf, bl⟩ := hB1.mx
      go_wp2_with fail
      refine (impl_EchelonOf r2 c2 A' n' cap' ys _ (B := w.heap.size) (Kr H3.out) Ks hn').mono ?_; rw [HY.out, HYS.out]; rintro e w2 ⟨Ay, ny, capy, Q, k2, pc2, rfl, ho2, hp2, hap2, hb2⟩; have hsz2 := hb2.size; simp at hsz2; have hbw2 : Below w.heap.size w w2 := Kw; clear ho2 hp2 hap2 aa ab ac af al ba bb bc bf bl
      go_wp2_with fail
      go_ret2
      exact BV.mk rfl Kw
  · rcases hY : Y.isSome with _ | _
    · obtain ⟨rfl, rfl⟩ := hno (by rw [hX, hY]; rfl)
      have HXS := Lib.hid hX
      have HYS := Lib.hid hY
      clear hX hY hsome hsome2 hno hOk hBB
      go_enter Try.func73, Try.ntmps73
      go_wp2_with fail
      refine (impl_EchelonOf r c A n cap xs _ (B := w.heap.size) (Kr H2.out) Ks hn).mono ?_; rw [HX.out, HXS.out]; rintro e w1 ⟨Ax, nx, capx, P, k, pc, rfl, ho1, hp1, hap1, hb1⟩; have hsz1 := hb1.size; simp at hsz1; have hA1 : BM w1 w.heap.size r c A n cap := Ka; have hB1 : BM w1 (w.heap.size + 1) r2 c2 A' n' cap' := Ka; have hbw1 : Below w.heap.size w w1 := Kw; clear ho1 hp1 hap1; obtain ⟨aa, ab, ac, af, al⟩ := hA1.mx; obtain ⟨ba, bb, bc, bf, bl⟩ := hB1.mx
      go_wp2_with fail
      refine (impl_EchelonOf r2 c2 A' n' cap' ys _ (B := w.heap.size) (Kr H3.out) Ks hn').mono ?_; rw [HY.out, HYS.out]; rintro e w2 ⟨Ay, ny, capy, Q, k2, pc2, rfl, ho2, hp2, hap2, hb2⟩; have hsz2 := hb2.size; simp at hsz2; have hbw2 : Below w.heap.size w w2 := Kw; clear ho2 hp2 hap2 aa ab ac af al ba bb bc bf bl
      go_wp2_with fail
      go_ret2
      exact BV.mk rfl Kw
    · obtain ⟨R, C, s, rfl, rfl, hR, hC, hs, hps, hmx⟩ := hsome hX
      obtain ⟨R2, C2, s2, rfl, rfl, hR2, hC2, hs2, hps2, hmx2⟩ := hsome2 hY
      rw [hX, hY, Bool.and_self, Bool.true_and] at hOk
      have HXS := Lib.hid hX
      have HYS := Lib.hid hY
      have HPX : Hid (psQ X = s.ps) := Lib.hid (by rw [hs]; rfl)
      have HPY : Hid (psQ Y = s2.ps) := Lib.hid (by rw [hs2]; rfl)
      have HMX := Lib.hid hmx
      have HMY := Lib.hid hmx2
      have hRC : R * C ≤ 24 * 24 := Nat.mul_le_mul hR hC
      have hRC2 : R2 * C2 ≤ 24 * 24 := Nat.mul_le_mul hR2 hC2
      clear hX hY hsome hsome2 hs hs2 hmx hmx2 hno
      by_cases hcc : C = C2
      · rw [decide_eq_true (show (C : Int) = (C2 : Int) by omega)] at hOk
        rw [hOk, Bool.true_and] at hBB
        subst hOk
        rw [HMX.out, HMY.out] at hBB
        unfold ssE at hBB
        rw [HPX.out, HPY.out] at hBB
        simp only [Int.toNat_natCast] at hBB
        have hcb : ((C : Int) != (C2 : Int)) = false := by simp; omega
        by_cases hll : s.ps.length = s2.ps.length
        · rw [decide_eq_true hll, Bool.true_and] at hBB
          have HBB := Lib.hid hBB
          have hkC : s.ps.length * C ≤ R * C := Nat.mul_le_mul_right C hps
          have hkC2 : s.ps.length * C ≤ R2 * C2 := by subst hcc; exact Nat.mul_le_mul_right C (by omega)
          have hlb : ((s.ps.length : Int) == (s2.ps.length : Int)) = true := by simp; omega
          have e1 : (s.ps.length : Int) * (C : Int) = ((s.ps.length * C : Nat) : Int) := by rw [Int.natCast_mul]
          have e2 : (s2.ps.length : Int) * (C2 : Int) = ((s.ps.length * C : Nat) : Int) := by rw [Int.natCast_mul, hll, hcc]
          generalize hq : s.ps.length * C = q at *
          have HQ := Lib.hid hq
          clear hBB hll hcc hq
          go_enter Try.func73, Try.ntmps73
          go_wp2_with fail
          refine (impl_EchelonOf R C A n cap xs _ (B := w.heap.size) (Kr H2.out) Ks hn).mono ?_; rw [HX.out, HXS.out, HMX.out, HPX.out]; rintro e w1 ⟨Ax, nx, capx, P, k, pc, rfl, ho1, hp1, hap1, hb1⟩; have hsz1 := hb1.size; simp at hsz1; have hA1 : BM w1 w.heap.size R C A n cap := Ka; have hB1 : BM w1 (w.heap.size + 1) R2 C2 A' n' cap' := Ka; have hbw1 : Below w.heap.size w w1 := Kw; have ho1' : OR w1 (w.heap.size + 1 + 1) (.slice Ax nx capx) (tb R C s.f) := OR.mono ho1 Ks; have hk1 := hp1.lenEq; clear ho1 hp1 hap1; obtain ⟨aa, ab, ac, af, al⟩ := hA1.mx; obtain ⟨ba, bb, bc, bf, bl⟩ := hB1.mx
          go_wp2_with fail
          refine (impl_EchelonOf R2 C2 A' n' cap' ys _ (B := w.heap.size) (Kr H3.out) Ks hn').mono ?_; rw [HY.out, HYS.out, HMY.out, HPY.out]; rintro e w2 ⟨Ay, ny, capy, Q, k2, pc2, rfl, ho2, hp2, hap2, hb2⟩; have hsz2 := hb2.size; simp at hsz2; have hA2 : BM w2 w.heap.size R C A n cap := (Kb hA1); have hB2 : BM w2 (w.heap.size + 1) R2 C2 A' n' cap' := (Kb hB1); have hX2 : BM w2 w1.heap.size R C Ax nx capx := Ka; have ho1'' : OR w2 (w.heap.size + 1 + 1) (.slice Ax nx capx) (tb R C s.f) := (Ko ho1'); have hbw2 : Below w.heap.size w w2 := Kw; have ho2' : OR w2 (w.heap.size + 1 + 1) (.slice Ay ny capy) (tb R2 C2 s2.f) := OR.mono ho2 Ks; have hk2 := hp2.lenEq; clear ho1' ho2 hp2 hap2 hA1 hB1 aa ab ac af al ba bb bc bf bl; obtain ⟨aa, ab, ac, af, al⟩ := hA2.mx; obtain ⟨ba, bb, bc, bf, bl⟩ := hB2.mx; obtain ⟨xa, xb, xc, xf, xl⟩ := hX2.mx
          have hln := ho1''.lenEq
          have hln2 := ho2'.lenEq
          rw [tb_len] at hln hln2
          have hcx := ho1''.caps
          have hcy := ho2'.caps
          subst hk1; subst hk2
          have hq1 : 0 ≤ (s.ps.length : Int) * (C : Int) ∧ (s.ps.length : Int) * (C : Int) ≤ (capx : Int) := by omega
          have hq2 : 0 ≤ (s2.ps.length : Int) * (C2 : Int) ∧ (s2.ps.length : Int) * (C2 : Int) ≤ (capy : Int) := by omega
          have g1 : IntKind.i64.wrap ((s.ps.length : Int) * (C : Int)) = (s.ps.length : Int) * (C : Int) := IntWalk.i64_in _ (by omega)
          have g2 : IntKind.i64.wrap ((s2.ps.length : Int) * (C2 : Int)) = (s2.ps.length : Int) * (C2 : Int) := IntWalk.i64_in _ (by omega)
          have E1 := Lib.hid e1
          have E2 := Lib.hid e2
          have HLN := Lib.hid hln
          have HLN2 := Lib.hid hln2
          clear e1 e2 hln hln2 hcx hcy
          go_wp2_with fail
          ((refine wp_region_held_drew (S := (fun w' => w'.cell? ⟨w1.heap.size, 1, none⟩ = some (.int .i64 C) ∧ w'.cell? ⟨w1.heap.size, 2, none⟩ = some (.slice Ax nx capx) ∧ w'.cell? ⟨w2.heap.size, 1, none⟩ = some (.int .i64 C2) ∧ w'.cell? ⟨w2.heap.size, 2, none⟩ = some (.slice Ay ny capy))) (by kernel_rfl) ?_ (fun hHeld => ?_)); ((focus ((try dsimp only); (go_keep)))); ((refine tk_ (i := 0) (v := ?_) (y := Or.inl ⟨by rfl, ?_⟩) (h := ?_); rotate_left; (focus (((intro w hSw; (try dsimp only at hSw); go_simp) <;> (try with_reducible rfl)); done)); (try simp only [Act.put, p1_, p2_, p3_]))); ((refine tk_ (i := 1) (v := ?_) (y := Or.inl ⟨by rfl, ?_⟩) (h := ?_); rotate_left; (focus (((intro w hSw; (try dsimp only at hSw); go_simp) <;> (try with_reducible rfl)); done)); (try simp only [Act.put, p1_, p2_, p3_]))); ((refine tk_ (i := 2) (v := ?_) (y := Or.inl ⟨by rfl, ?_⟩) (h := ?_); rotate_left; (focus (((intro w hSw; (try dsimp only at hSw); go_simp) <;> (try with_reducible rfl)); done)); (try simp only [Act.put, p1_, p2_, p3_]))); ((refine tk_ (i := 3) (v := ?_) (y := Or.inl ⟨by rfl, ?_⟩) (h := ?_); rotate_left; (focus (((intro w hSw; (try dsimp only at hSw); go_simp) <;> (try with_reducible rfl)); done)); (try simp only [Act.put, p1_, p2_, p3_]))); ((refine tk_ (i := 4) (v := ?_) (y := Or.inl ⟨by rfl, ?_⟩) (h := ?_); rotate_left; (focus (((intro w hSw; (try dsimp only at hSw); go_simp) <;> (try with_reducible rfl)); done)); (try simp only [Act.put, p1_, p2_, p3_]))); ((refine tk_ (i := 5) (v := ?_) (y := Or.inl ⟨by rfl, ?_⟩) (h := ?_); rotate_left; (focus (((intro w hSw; (try dsimp only at hSw); go_simp) <;> (try with_reducible rfl)); done)); (try simp only [Act.put, p1_, p2_, p3_]))); ((refine tk_ (i := 6) (v := ?_) (y := Or.inl ⟨by rfl, ?_⟩) (h := ?_); rotate_left; (focus (((intro w hSw; (try dsimp only at hSw); go_simp) <;> (try with_reducible rfl)); done)); (try simp only [Act.put, p1_, p2_, p3_]))); ((refine tk_ (i := 7) (v := ?_) (y := Or.inl ⟨by rfl, ?_⟩) (h := ?_); rotate_left; (focus (((intro w hSw; (try dsimp only at hSw); go_simp) <;> (try with_reducible rfl)); done)); (try simp only [Act.put, p1_, p2_, p3_]))); ((refine tk_ (i := 8) (v := ?_) (y := Or.inl ⟨by rfl, ?_⟩) (h := ?_); rotate_left; (focus (((intro w hSw; (try dsimp only at hSw); go_simp) <;> (try with_reducible rfl)); done)); (try simp only [Act.put, p1_, p2_, p3_]))); ((refine tk_ (i := 9) (v := ?_) (y := Or.inl ⟨by rfl, ?_⟩) (h := ?_); rotate_left; (focus (((intro w hSw; (try dsimp only at hSw); go_simp) <;> (try with_reducible rfl)); done)); (try simp only [Act.put, p1_, p2_, p3_]))); ((refine tk_ (i := 10) (v := ?_) (y := Or.inl ⟨by rfl, ?_⟩) (h := ?_); rotate_left; (focus (((intro w hSw; (try dsimp only at hSw); go_simp) <;> (try with_reducible rfl)); done)); (try simp only [Act.put, p1_, p2_, p3_]))); ((refine tk_ (i := 11) (v := ?_) (y := Or.inl ⟨by rfl, ?_⟩) (h := ?_); rotate_left; (focus (((intro w hSw; (try dsimp only at hSw); go_simp) <;> (try with_reducible rfl)); done)); (try simp only [Act.put, p1_, p2_, p3_]))); ((refine tk_ (i := 12) (v := ?_) (y := Or.inl ⟨by rfl, ?_⟩) (h := ?_); rotate_left; (focus (((intro w hSw; (try dsimp only at hSw); go_simp) <;> (try with_reducible rfl)); done)); (try simp only [Act.put, p1_, p2_, p3_]))); ((refine tk_ (i := 13) (v := ?_) (y := Or.inl ⟨by rfl, ?_⟩) (h := ?_); rotate_left; (focus (((intro w hSw; (try dsimp only at hSw); go_simp) <;> (try with_reducible rfl)); done)); (try simp only [Act.put, p1_, p2_, p3_]))); ((refine tk_ (i := 14) (v := ?_) (y := Or.inl ⟨by rfl, ?_⟩) (h := ?_); rotate_left; (focus (((intro w hSw; (try dsimp only at hSw); go_simp) <;> (try with_reducible rfl)); done)); (try simp only [Act.put, p1_, p2_, p3_]))); ((refine tk_ (i := 15) (v := ?_) (y := Or.inl ⟨by rfl, ?_⟩) (h := ?_); rotate_left; (focus (((intro w hSw; (try dsimp only at hSw); go_simp) <;> (try with_reducible rfl)); done)); (try simp only [Act.put, p1_, p2_, p3_]))); ((refine tk_ (i := 16) (v := ?_) (y := Or.inl ⟨by rfl, ?_⟩) (h := ?_); rotate_left; (focus (((intro w hSw; (try dsimp only at hSw); go_simp) <;> (try with_reducible rfl)); done)); (try simp only [Act.put, p1_, p2_, p3_]))); ((refine tk_ (i := 17) (v := ?_) (y := Or.inl ⟨by rfl, ?_⟩) (h := ?_); rotate_left; (focus (((intro w hSw; (try dsimp only at hSw); go_simp) <;> (try with_reducible rfl)); done)); (try simp only [Act.put, p1_, p2_, p3_]))); ((refine tk_ (i := 18) (v := ?_) (y := Or.inl ⟨by rfl, ?_⟩) (h := ?_); rotate_left; (focus (((intro w hSw; (try dsimp only at hSw); go_simp) <;> (try with_reducible rfl)); done)); (try simp only [Act.put, p1_, p2_, p3_]))); ((refine tk_ (i := 19) (v := ?_) (y := Or.inl ⟨by rfl, ?_⟩) (h := ?_); rotate_left; (focus (((intro w hSw; (try dsimp only at hSw); go_simp) <;> (try with_reducible rfl)); done)); (try simp only [Act.put, p1_, p2_, p3_]))); ((refine tk_ (i := 20) (v := ?_) (y := Or.inl ⟨by rfl, ?_⟩) (h := ?_); rotate_left; (focus (((intro w hSw; (try dsimp only at hSw); go_simp) <;> (try with_reducible rfl)); done)); (try simp only [Act.put, p1_, p2_, p3_]))); ((refine tk_ (i := 21) (v := ?_) (y := Or.inl ⟨by rfl, ?_⟩) (h := ?_); rotate_left; (focus (((intro w hSw; (try dsimp only at hSw); go_simp) <;> (try with_reducible rfl)); done)); (try simp only [Act.put, p1_, p2_, p3_]))); ((refine wpAnyH_ready (rs := [22]) (by kernel_rfl) (by simp) ?_; refine AllReadyH.cons (by simp only [e1_, e2_, e3_]; try rfl) (fun K hK => ?_) AllReadyH.nil; go_simp; (rw [show ((s.ps.length : Int) * (C : Int)).toNat = q by have := E1.out; omega, show ((s2.ps.length : Int) * (C2 : Int)).toNat = q by have := E2.out; omega]; refine (slices_Equal _ _ _ _ _ _ ((tb R C s.f).take q) ((tb R2 C2 s2.f).take q) _ (C := (w2.alloc (Obj.cells #[Value.int IntKind.i64 ↑R2, Value.int IntKind.i64 ↑C2, Value.slice Ay ny capy] 26)).heap.size) (C' := (w2.alloc (Obj.cells #[Value.int IntKind.i64 ↑R2, Value.int IntKind.i64 ↑C2, Value.slice Ay ny capy] 26)).heap.size) (by exact (OR.reads (B := w.heap.size + 1 + 1) (cap := capx) (Ko ho1'')).first (by have := HLN.out; omega)) (by exact (OR.reads (B := w.heap.size + 1 + 1) (cap := capy) (Ko ho2')).first (by have := HLN2.out; omega)) (by omega) (by omega)).mono ?_; rintro e w3 ⟨rfl, nd, rfl⟩); (try go_wp2_with fail); refine hK.out _ _ ?_ (fun hHeld => ?_); (focus ((try dsimp only); (go_keep))); clear hK K; (try simp only [Act.put, p1_, p2_, p3_]))); ((refine tk_ (i := 23) (v := ?_) (y := Or.inl ⟨by rfl, ?_⟩) (h := ?_); rotate_left; (focus (((intro w hSw; (try dsimp only at hSw); go_simp) <;> (try with_reducible rfl)); done)); (try simp only [Act.put, p1_, p2_, p3_]))); ((refine tk_ (i := 24) (v := ?_) (y := Or.inl ⟨by rfl, ?_⟩) (h := ?_); rotate_left; (focus (((intro w hSw; (try dsimp only at hSw); go_simp) <;> (try with_reducible rfl)); done)); (try simp only [Act.put, p1_, p2_, p3_]))); ((refine tk_ (i := 25) (v := ?_) (y := Or.inl ⟨by rfl, ?_⟩) (h := ?_); rotate_left; (focus (((intro w hSw; (try dsimp only at hSw); go_simp) <;> (try with_reducible rfl)); done)); (try simp only [Act.put, p1_, p2_, p3_]))); (refine wpAnyH_done (by kernel_rfl) ?_ _))
          go_wp2_with fail
          go_ret2
          exact BV.mk (by rw [HBB.out]; rfl) Kw
        · rw [decide_eq_false hll, Bool.false_and] at hBB
          subst hBB
          have hlb : ((s.ps.length : Int) == (s2.ps.length : Int)) = false := by simp; omega
          clear hll hcc
          go_enter Try.func73, Try.ntmps73
          go_wp2_with fail
          refine (impl_EchelonOf R C A n cap xs _ (B := w.heap.size) (Kr H2.out) Ks hn).mono ?_; rw [HX.out, HXS.out, HMX.out, HPX.out]; rintro e w1 ⟨Ax, nx, capx, P, k, pc, rfl, ho1, hp1, hap1, hb1⟩; have hsz1 := hb1.size; simp at hsz1; have hA1 : BM w1 w.heap.size R C A n cap := Ka; have hB1 : BM w1 (w.heap.size + 1) R2 C2 A' n' cap' := Ka; have hbw1 : Below w.heap.size w w1 := Kw; have ho1' : OR w1 (w.heap.size + 1 + 1) (.slice Ax nx capx) (tb R C s.f) := OR.mono ho1 Ks; have hk1 := hp1.lenEq; clear ho1 hp1 hap1; obtain ⟨aa, ab, ac, af, al⟩ := hA1.mx; obtain ⟨ba, bb, bc, bf, bl⟩ := hB1.mx
          go_wp2_with fail
          refine (impl_EchelonOf R2 C2 A' n' cap' ys _ (B := w.heap.size) (Kr H3.out) Ks hn').mono ?_; rw [HY.out, HYS.out, HMY.out, HPY.out]; rintro e w2 ⟨Ay, ny, capy, Q, k2, pc2, rfl, ho2, hp2, hap2, hb2⟩; have hsz2 := hb2.size; simp at hsz2; have hA2 : BM w2 w.heap.size R C A n cap := (Kb hA1); have hB2 : BM w2 (w.heap.size + 1) R2 C2 A' n' cap' := (Kb hB1); have hX2 : BM w2 w1.heap.size R C Ax nx capx := Ka; have ho1'' : OR w2 (w.heap.size + 1 + 1) (.slice Ax nx capx) (tb R C s.f) := (Ko ho1'); have hbw2 : Below w.heap.size w w2 := Kw; have ho2' : OR w2 (w.heap.size + 1 + 1) (.slice Ay ny capy) (tb R2 C2 s2.f) := OR.mono ho2 Ks; have hk2 := hp2.lenEq; clear ho1' ho2 hp2 hap2 hA1 hB1 aa ab ac af al ba bb bc bf bl; obtain ⟨aa, ab, ac, af, al⟩ := hA2.mx; obtain ⟨ba, bb, bc, bf, bl⟩ := hB2.mx; obtain ⟨xa, xb, xc, xf, xl⟩ := hX2.mx
          subst hk1; subst hk2
          go_wp2_with fail
          ((refine wp_region_held_drew (S := (fun w' => w'.cell? ⟨w1.heap.size, 1, none⟩ = some (.int .i64 C) ∧ w'.cell? ⟨w1.heap.size, 2, none⟩ = some (.slice Ax nx capx) ∧ w'.cell? ⟨w2.heap.size, 1, none⟩ = some (.int .i64 C2) ∧ w'.cell? ⟨w2.heap.size, 2, none⟩ = some (.slice Ay ny capy))) (by kernel_rfl) ?_ (fun hHeld => ?_)); ((focus ((try dsimp only); (go_keep)))); ((refine tk_ (i := 0) (v := ?_) (y := Or.inl ⟨by rfl, ?_⟩) (h := ?_); rotate_left; (focus (((intro w hSw; (try dsimp only at hSw); go_simp) <;> (try with_reducible rfl)); done)); (try simp only [Act.put, p1_, p2_, p3_]))); ((refine tk_ (i := 1) (v := ?_) (y := Or.inl ⟨by rfl, ?_⟩) (h := ?_); rotate_left; (focus (((intro w hSw; (try dsimp only at hSw); go_simp) <;> (try with_reducible rfl)); done)); (try simp only [Act.put, p1_, p2_, p3_]))); ((refine tk_ (i := 2) (v := ?_) (y := Or.inl ⟨by rfl, ?_⟩) (h := ?_); rotate_left; (focus (((intro w hSw; (try dsimp only at hSw); go_simp) <;> (try with_reducible rfl)); done)); (try simp only [Act.put, p1_, p2_, p3_]))); ((refine tk_ (i := 3) (v := ?_) (y := Or.inl ⟨by rfl, ?_⟩) (h := ?_); rotate_left; (focus (((intro w hSw; (try dsimp only at hSw); go_simp) <;> (try with_reducible rfl)); done)); (try simp only [Act.put, p1_, p2_, p3_]))); ((refine tk_ (i := 4) (v := ?_) (y := Or.inl ⟨by rfl, ?_⟩) (h := ?_); rotate_left; (focus (((intro w hSw; (try dsimp only at hSw); go_simp) <;> (try with_reducible rfl)); done)); (try simp only [Act.put, p1_, p2_, p3_]))); ((refine tk_ (i := 5) (v := ?_) (y := Or.inl ⟨by rfl, ?_⟩) (h := ?_); rotate_left; (focus (((intro w hSw; (try dsimp only at hSw); go_simp) <;> (try with_reducible rfl)); done)); (try simp only [Act.put, p1_, p2_, p3_]))); ((refine wpAnyH_take (i := 6) (by simp only [e1_, e2_, e3_]; try rfl) (by kernel_rfl) (by kernel_rfl) (by kernel_rfl) (by exact fun _ _ _ h => h) (Or.inr ⟨by rfl, rfl⟩) (by assumption) ?_; (try simp only [Act.put, p1_, p2_, p3_]))); ((refine wpAnyH_take (i := 7) (by simp only [e1_, e2_, e3_]; try rfl) (by kernel_rfl) (by kernel_rfl) (by kernel_rfl) (by exact fun _ _ _ h => h) (Or.inr ⟨by rfl, rfl⟩) (by assumption) ?_; (try simp only [Act.put, p1_, p2_, p3_]))); ((refine wpAnyH_take (i := 8) (by simp only [e1_, e2_, e3_]; try rfl) (by kernel_rfl) (by kernel_rfl) (by kernel_rfl) (by exact fun _ _ _ h => h) (Or.inr ⟨by rfl, rfl⟩) (by assumption) ?_; (try simp only [Act.put, p1_, p2_, p3_]))); ((refine wpAnyH_take (i := 9) (by simp only [e1_, e2_, e3_]; try rfl) (by kernel_rfl) (by kernel_rfl) (by kernel_rfl) (by exact fun _ _ _ h => h) (Or.inr ⟨by rfl, rfl⟩) (by assumption) ?_; (try simp only [Act.put, p1_, p2_, p3_]))); ((refine wpAnyH_take (i := 10) (by simp only [e1_, e2_, e3_]; try rfl) (by kernel_rfl) (by kernel_rfl) (by kernel_rfl) (by exact fun _ _ _ h => h) (Or.inr ⟨by rfl, rfl⟩) (by assumption) ?_; (try simp only [Act.put, p1_, p2_, p3_]))); ((refine wpAnyH_take (i := 11) (by simp only [e1_, e2_, e3_]; try rfl) (by kernel_rfl) (by kernel_rfl) (by kernel_rfl) (by exact fun _ _ _ h => h) (Or.inr ⟨by rfl, rfl⟩) (by assumption) ?_; (try simp only [Act.put, p1_, p2_, p3_]))); ((refine wpAnyH_take (i := 12) (by simp only [e1_, e2_, e3_]; try rfl) (by kernel_rfl) (by kernel_rfl) (by kernel_rfl) (by exact fun _ _ _ h => h) (Or.inr ⟨by rfl, rfl⟩) (by assumption) ?_; (try simp only [Act.put, p1_, p2_, p3_]))); ((refine wpAnyH_take (i := 13) (by simp only [e1_, e2_, e3_]; try rfl) (by kernel_rfl) (by kernel_rfl) (by kernel_rfl) (by exact fun _ _ _ h => h) (Or.inr ⟨by rfl, rfl⟩) (by assumption) ?_; (try simp only [Act.put, p1_, p2_, p3_]))); ((refine wpAnyH_take (i := 14) (by simp only [e1_, e2_, e3_]; try rfl) (by kernel_rfl) (by kernel_rfl) (by kernel_rfl) (by exact fun _ _ _ h => h) (Or.inr ⟨by rfl, rfl⟩) (by assumption) ?_; (try simp only [Act.put, p1_, p2_, p3_]))); ((refine wpAnyH_take (i := 15) (by simp only [e1_, e2_, e3_]; try rfl) (by kernel_rfl) (by kernel_rfl) (by kernel_rfl) (by exact fun _ _ _ h => h) (Or.inr ⟨by rfl, rfl⟩) (by assumption) ?_; (try simp only [Act.put, p1_, p2_, p3_]))); ((refine wpAnyH_take (i := 16) (by simp only [e1_, e2_, e3_]; try rfl) (by kernel_rfl) (by kernel_rfl) (by kernel_rfl) (by exact fun _ _ _ h => h) (Or.inr ⟨by rfl, rfl⟩) (by assumption) ?_; (try simp only [Act.put, p1_, p2_, p3_]))); ((refine wpAnyH_take (i := 17) (by simp only [e1_, e2_, e3_]; try rfl) (by kernel_rfl) (by kernel_rfl) (by kernel_rfl) (by exact fun _ _ _ h => h) (Or.inr ⟨by rfl, rfl⟩) (by assumption) ?_; (try simp only [Act.put, p1_, p2_, p3_]))); ((refine wpAnyH_take (i := 18) (by simp only [e1_, e2_, e3_]; try rfl) (by kernel_rfl) (by kernel_rfl) (by kernel_rfl) (by exact fun _ _ _ h => h) (Or.inr ⟨by rfl, rfl⟩) (by assumption) ?_; (try simp only [Act.put, p1_, p2_, p3_]))); ((refine wpAnyH_take (i := 19) (by simp only [e1_, e2_, e3_]; try rfl) (by kernel_rfl) (by kernel_rfl) (by kernel_rfl) (by exact fun _ _ _ h => h) (Or.inr ⟨by rfl, rfl⟩) (by assumption) ?_; (try simp only [Act.put, p1_, p2_, p3_]))); ((refine wpAnyH_take (i := 20) (by simp only [e1_, e2_, e3_]; try rfl) (by kernel_rfl) (by kernel_rfl) (by kernel_rfl) (by exact fun _ _ _ h => h) (Or.inr ⟨by rfl, rfl⟩) (by assumption) ?_; (try simp only [Act.put, p1_, p2_, p3_]))); ((refine wpAnyH_take (i := 21) (by simp only [e1_, e2_, e3_]; try rfl) (by kernel_rfl) (by kernel_rfl) (by kernel_rfl) (by exact fun _ _ _ h => h) (Or.inr ⟨by rfl, rfl⟩) (by assumption) ?_; (try simp only [Act.put, p1_, p2_, p3_]))); ((refine wpAnyH_ready (rs := [22]) (by kernel_rfl) (by simp) ?_; refine AllReadyH.cons (by simp only [e1_, e2_, e3_]; try rfl) (fun K hK => ?_) AllReadyH.nil; go_simp; with_reducible refine hK.out _ _ ?_ (fun hHeld => ?_); (focus ((try dsimp only); (go_keep))); clear hK K; (try simp only [Act.put, p1_, p2_, p3_]))); ((refine tk_ (i := 23) (v := ?_) (y := Or.inl ⟨by rfl, ?_⟩) (h := ?_); rotate_left; (focus (((intro w hSw; (try dsimp only at hSw); go_simp) <;> (try with_reducible rfl)); done)); (try simp only [Act.put, p1_, p2_, p3_]))); ((refine tk_ (i := 24) (v := ?_) (y := Or.inl ⟨by rfl, ?_⟩) (h := ?_); rotate_left; (focus (((intro w hSw; (try dsimp only at hSw); go_simp) <;> (try with_reducible rfl)); done)); (try simp only [Act.put, p1_, p2_, p3_]))); ((refine tk_ (i := 25) (v := ?_) (y := Or.inl ⟨by rfl, ?_⟩) (h := ?_); rotate_left; (focus (((intro w hSw; (try dsimp only at hSw); go_simp) <;> (try with_reducible rfl)); done)); (try simp only [Act.put, p1_, p2_, p3_]))); (refine wpAnyH_done (by kernel_rfl) ?_ _))
          go_wp2_with fail
          go_ret2
          exact BV.mk rfl Kw
      · rw [decide_eq_false (show ¬ (C : Int) = (C2 : Int) by omega)] at hOk
        rw [hOk, Bool.false_and] at hBB
        subst hOk; subst hBB
        have hcb : ((C : Int) != (C2 : Int)) = true := by simp; omega
        clear hcc
        go_enter Try.func73, Try.ntmps73
        go_wp2_with fail
        refine (impl_EchelonOf R C A n cap xs _ (B := w.heap.size) (Kr H2.out) Ks hn).mono ?_; rw [HX.out, HXS.out, HMX.out, HPX.out]; rintro e w1 ⟨Ax, nx, capx, P, k, pc, rfl, ho1, hp1, hap1, hb1⟩; have hsz1 := hb1.size; simp at hsz1; have hA1 : BM w1 w.heap.size R C A n cap := Ka; have hB1 : BM w1 (w.heap.size + 1) R2 C2 A' n' cap' := Ka; have hbw1 : Below w.heap.size w w1 := Kw; have ho1' : OR w1 (w.heap.size + 1 + 1) (.slice Ax nx capx) (tb R C s.f) := OR.mono ho1 Ks; have hk1 := hp1.lenEq; clear ho1 hp1 hap1; obtain ⟨aa, ab, ac, af, al⟩ := hA1.mx; obtain ⟨ba, bb, bc, bf, bl⟩ := hB1.mx
        go_wp2_with fail
        refine (impl_EchelonOf R2 C2 A' n' cap' ys _ (B := w.heap.size) (Kr H3.out) Ks hn').mono ?_; rw [HY.out, HYS.out, HMY.out, HPY.out]; rintro e w2 ⟨Ay, ny, capy, Q, k2, pc2, rfl, ho2, hp2, hap2, hb2⟩; have hsz2 := hb2.size; simp at hsz2; have hA2 : BM w2 w.heap.size R C A n cap := (Kb hA1); have hB2 : BM w2 (w.heap.size + 1) R2 C2 A' n' cap' := (Kb hB1); have hX2 : BM w2 w1.heap.size R C Ax nx capx := Ka; have ho1'' : OR w2 (w.heap.size + 1 + 1) (.slice Ax nx capx) (tb R C s.f) := (Ko ho1'); have hbw2 : Below w.heap.size w w2 := Kw; have ho2' : OR w2 (w.heap.size + 1 + 1) (.slice Ay ny capy) (tb R2 C2 s2.f) := OR.mono ho2 Ks; have hk2 := hp2.lenEq; clear ho1' ho2 hp2 hap2 hA1 hB1 aa ab ac af al ba bb bc bf bl; obtain ⟨aa, ab, ac, af, al⟩ := hA2.mx; obtain ⟨ba, bb, bc, bf, bl⟩ := hB2.mx; obtain ⟨xa, xb, xc, xf, xl⟩ := hX2.mx
        go_wp2_with fail
        go_ret2
        exact BV.mk rfl Kw
end Go.Proofs.Ytacjonkehcamgaa

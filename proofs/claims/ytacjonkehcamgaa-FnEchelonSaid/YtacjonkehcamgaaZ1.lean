/-
  DERIVED. Several small texts in one: LawB, EchL, Smt, PlainU, Lsi, Rowkit, Fit, EchW, PlainN, EchR, RankQ, PlLin, Iden, PlDet, Unit, PlSp, PlRk, PlEc.
-/
import Derived.Test.YtacjonkehcamgaaZS
import Derived.Test.YtacjonkehcamgaaBase
import Derived.Test.YtacjonkehcamgaaEchT
import Derived.Test.YtacjonkehcamgaaMatOps
import Derived.Test.YtacjonkehcamgaaPlainQ
import Derived.Test.YtacjonkehcamgaaRows
import Derived.Test.YtacjonkehcamgaaMem
import Derived.ProofKit
import Derived.OpenShut
import Derived.Carry
import Derived.ChangeSame
import Derived.Lib.SmallJoins
import Derived.Deep.Slices
import Derived.Test.YtacjonkehcamgaaNum
import Derived.Test.YtacjonkehcamgaaEchP
import Derived.Test.YtacjonkehcamgaaPlainT
import Derived.Test.YtacjonkehcamgaaEchQ
import Derived.Test.YtacjonkehcamgaaElem
import Derived.Test.YtacjonkehcamgaaRowOp
import Derived.Test.YtacjonkehcamgaaPlainQ2
/-
  DERIVED. Small functions of the laws' own package: big, abs.
-/
namespace Go.Proofs.Ytacjonkehcamgaa
open Go.RowKit
set_option linter.unusedVariables false
set_option linter.unusedSimpArgs false
theorem laws_big (A : Option Addr) (n cap : Nat) (w : World) : Calls Try.prog 15 #[.slice A n cap] w (EV (.bool (decide (1048576 < n))) w) := by
  go_enter Try.func15, Try.ntmps15
  go_wp2
  go_ret
  exact EV.mk (vbool (by first | rfl | (simp; omega)))
theorem laws_abs (x : Int) (h1 : -4611686018427387904 ≤ x) (h2 : x ≤ 4611686018427387904) (w : World) : Calls Try.prog 71 #[.int .i64 x] w (EV (.int .i64 (x.natAbs : Nat)) w) := by
  go_enter Try.func71, Try.ntmps71
  go_wp2
  all_goals go_ret
  all_goals exact EV.mk (vint (by omega))
end Go.Proofs.Ytacjonkehcamgaa

/-
  DERIVED. How long the results of EchelonOf are: no program in sight.
-/
namespace Go.Proofs.Ytacjonkehcamgaa
open Go.RowKit
set_option linter.unusedVariables false
theorem colsQ_len {R C : Nat} : ∀ (n j : Nat) (s s' : QSt), colsQ R C n j s = some s' → s'.ps.length ≤ s.ps.length + n
  | 0, j, s, s', h => by
    unfold colsQ at h
    injection h with h
    subst h; omega
  | n + 1, j, s, s', h => by
    unfold colsQ at h
    split at h
    · have := colsQ_len n (j + 1) s s' h; omega
    · split at h
      · cases h
      · have := colsQ_len n (j + 1) _ s' h
        simp at this
        omega
theorem colsQ_le {R C : Nat} : ∀ (n j : Nat) (s s' : QSt), s.ps.length ≤ R → colsQ R C n j s = some s' → s'.ps.length ≤ R
  | 0, j, s, s', hs, h => by
    unfold colsQ at h
    injection h with h
    subst h; exact hs
  | n + 1, j, s, s', hs, h => by
    unfold colsQ at h
    split at h
    · exact colsQ_le n (j + 1) s s' hs h
    · rename_i hk
      split at h
      · cases h
      · refine colsQ_le n (j + 1) _ s' ?_ h
        have := fnd_le s.f j (R - s.ps.length) s.ps.length
        simp
        omega
theorem eoX_len (r c : Int) (xs : List Int) : (mxQ r c (eoX r c xs)).xs.length ≤ 1048576 ∧ (psQ (eoX r c xs)).length ≤ 1048576 := by
  unfold eoX
  by_cases hm : isMat r c xs = true
  · rw [if_pos hm]
    have M := isMat_iff.1 hm
    have h1 := M.r0; have h2 := M.r1; have h3 := M.c0; have h4 := M.c1
    obtain ⟨R, rfl⟩ := nat_of h1
    obtain ⟨C, rfl⟩ := nat_of h3
    simp only [Int.toNat_natCast]
    have h5 : R * C ≤ 24 * 24 := Nat.mul_le_mul (by omega) (by omega)
    cases hx : echQ R C (fun i j : Nat => cel xs C i j) with
    | none => exact ⟨Nat.zero_le _, Nat.zero_le _⟩
    | some s =>
      have h6 := colsQ_len _ _ _ _ hx
      simp at h6
      refine ⟨?_, ?_⟩
      · show (tb (R : Int).toNat (C : Int).toNat s.f).length ≤ 1048576
        rw [tb_len]
        simp only [Int.toNat_natCast]
        omega
      · show s.ps.length ≤ 1048576
        omega
  · rw [if_neg hm]; exact ⟨Nat.zero_le _, Nat.zero_le _⟩
end Go.Proofs.Ytacjonkehcamgaa

/-
  DERIVED. SameMatrix of the program.
-/
namespace Go.Proofs.Ytacjonkehcamgaa
open Go.RowKit
set_option linter.unusedVariables false
set_option linter.unusedSimpArgs false
def sameB (r c : Int) (xs : List Int) (r2 c2 : Int) (ys : List Int) : Bool := decide (r = r2) && decide (c = c2) && eqB xs ys
theorem sameB_r {r c : Int} {xs : List Int} {r2 c2 : Int} {ys : List Int} (h : ¬ r = r2) : sameB r c xs r2 c2 ys = false := by simp [sameB, h]
theorem sameB_c {r c : Int} {xs : List Int} {r2 c2 : Int} {ys : List Int} (h : ¬ c = c2) : sameB r c xs r2 c2 ys = false := by simp [sameB, h]
theorem sameB_e {r c : Int} {xs ys : List Int} : sameB r c xs r c ys = eqB xs ys := by simp [sameB]
set_option maxRecDepth 100000 in
set_option maxHeartbeats 4000000 in
theorem impl_SameMatrix (r c r2 c2 : Int) (A A' : Option Addr) (n cap n' cap' : Nat) (xs ys : List Int) (w : World) {B B' : Nat} (h : RI w B A n xs) (h' : RI w B' A' n' ys) (hB : B ≤ w.heap.size) (hB' : B' ≤ w.heap.size) (hn : n ≤ 1048576) (hn' : n' ≤ 1048576) :
    Calls Try.prog 41 #[.agg #[.int .i64 r, .int .i64 c, .slice A n cap], .agg #[.int .i64 r2, .int .i64 c2, .slice A' n' cap']] w (BV (.bool (sameB r c xs r2 c2 ys)) w) := by
  have H2 := Lib.hid (h.more hB)
  have H3 := Lib.hid (h'.more hB')
  clear h h'
  by_cases hr : r = r2
  · subst hr
    by_cases hc : c = c2
    · subst hc
      have HE := Lib.hid (sameB_e (r := r) (c := c) (xs := xs) (ys := ys))
      go_enter Try.func41, Try.ntmps41
      go_wp2_with fail
      refine (slices_Equal A A' n n' cap cap' xs ys _ (C := w.heap.size) (C' := w.heap.size) (Kr H2.out) (Kr H3.out) (by omega) (by omega)).mono ?_
      rintro e w2 ⟨rfl, nd, rfl⟩
      go_wp2_with fail
      go_ret
      exact BV.mk (vbool (by rw [HE.out])) Kw
    · have HE := Lib.hid (sameB_c (r := r) (xs := xs) (r2 := r) (ys := ys) hc)
      have hb : (c == c2) = false := by simp [hc]
      clear hc
      go_enter Try.func41, Try.ntmps41
      go_wp2_with fail
      go_ret
      exact BV.mk (vbool (by rw [HE.out])) Kw
  · have HE := Lib.hid (sameB_r (c := c) (xs := xs) (c2 := c2) (ys := ys) hr)
    have hb : (r == r2) = false := by simp [hr]
    clear hr
    go_enter Try.func41, Try.ntmps41
    go_wp2_with fail
    go_ret
    exact BV.mk (vbool (by rw [HE.out])) Kw
end Go.Proofs.Ytacjonkehcamgaa

/-
  DERIVED. A part of a row anew; a matrix of zeros. No program in sight.
-/
namespace Go.Proofs.Ytacjonkehcamgaa
set_option linter.unusedVariables false
theorem splL_get {xs ys : List Int} {off q : Nat} (h : off + ys.length ≤ xs.length) : (splL xs off ys).getD q 0 = if off ≤ q ∧ q < off + ys.length then ys.getD (q - off) 0 else xs.getD q 0 := by
  by_cases h1 : off ≤ q ∧ q < off + ys.length
  · rw [if_pos h1]
    have := splL_getD (xs := xs) (ys := ys) (off := off) (k := q - off) h (by omega)
    rw [show off + (q - off) = q by omega] at this
    exact this
  · rw [if_neg h1]
    have htl : (xs.take off).length = off := by rw [List.length_take]; omega
    unfold splL
    simp only [List.getD]
    congr 1
    by_cases h2 : q < off
    · rw [List.append_assoc, List.getElem?_append_left (by omega), List.getElem?_take_of_lt h2]
    · rw [List.getElem?_append_right (by rw [List.length_append, htl]; omega), List.getElem?_drop, List.length_append, htl]
      congr 1
      omega
/-- Row i anew from place o on. -/
def setW (f : Nat → Nat → Int) (i o : Nat) (ys : List Int) : Nat → Nat → Int := fun a c => if a = i ∧ o ≤ c ∧ c < o + ys.length then ys.getD (c - o) 0 else f a c
theorem spl_tbo {R C i o : Nat} {f : Nat → Nat → Int} {ys : List Int} (hi : i < R) (hy : o + ys.length ≤ C) : splL (tb R C f) (i * C + o) ys = tb R C (setW f i o ys) := by
  have hl : i * C + C ≤ R * C := by
    have h3 := Nat.mul_le_mul_right C (show i + 1 ≤ R by omega); rw [Nat.add_mul, Nat.one_mul] at h3; exact h3
  have hf : i * C + o + ys.length ≤ (tb R C f).length := by rw [tb_len]; omega
  have hlen : (splL (tb R C f) (i * C + o) ys).length = R * C := by rw [splL_len hf, tb_len]
  rw [tb_of hlen]
  apply tb_ext
  intro a c ha hc
  rw [cel_nat, splL_get hf]
  unfold setW
  rcases Nat.lt_trichotomy a i with h | h | h
  · have h3 := Nat.mul_le_mul_right C (show a + 1 ≤ i by omega)
    rw [Nat.add_mul, Nat.one_mul] at h3
    rw [if_neg (by omega), if_neg (by omega), tb_at ha hc]
  · subst h
    by_cases h4 : o ≤ c ∧ c < o + ys.length
    · rw [if_pos (by omega), if_pos ⟨rfl, h4⟩]
      congr 1
      omega
    · rw [if_neg (by omega), if_neg (by omega), tb_at ha hc]
  · have h3 := Nat.mul_le_mul_right C (show i + 1 ≤ a by omega)
    rw [Nat.add_mul, Nat.one_mul] at h3
    rw [if_neg (by omega), if_neg (by omega), tb_at ha hc]
theorem tb_zeros (R C : Nat) : tb R C (fun _ _ => 0) = List.replicate (R * C) 0 := by
  unfold tb tab
  apply List.ext_getElem?
  intro i
  by_cases h : i < R * C <;> simp [h]
end Go.Proofs.Ytacjonkehcamgaa

/-
  DERIVED. The laws' sameInts: whether two lists are equal.
-/
namespace Go.Proofs.Ytacjonkehcamgaa
open Go.RowKit
set_option linter.unusedVariables false
set_option linter.unusedSimpArgs false
set_option maxHeartbeats 400000 in
theorem laws_sameInts (A B : Option Addr) (n m c d : Nat) (xs ys : List Int) (w : World) {C C' : Nat} (h : RI w C A n xs) (h' : RI w C' B m ys) (hn : n ≤ 1048576) (hm : m ≤ 1048576) :
    Calls Try.prog 64 #[.slice A n c, .slice B m d] w (DV (.bool (eqB xs ys)) w) := by
  have hlx := h.len
  have hly := h'.len
  by_cases hnm : n = m
  · subst hnm
    have H := Lib.hid h
    have H' := Lib.hid h'
    clear h h'
    have hb : ((n : Int) != (n : Int)) = false := by simp
    go_enter Try.func64, Try.ntmps64
    go_wp2
    go_loopw [5] (fun v wr => ∃ k nd : Nat, v = .int .i64 k ∧ k ≤ n ∧ xs.take k = ys.take k ∧ wr = w.drewN nd) (fun v _ => n - (intOf v).toNat)
    case atStart => exact ⟨0, 0, rfl, Nat.zero_le _, by simp, rfl⟩
    case round =>
      obtain ⟨k, nd, rfl, hk, heq0, rfl⟩ := hrel
      have heq := Lib.hid heq0
      clear heq0
      by_cases hlt : k < n
      · obtain ⟨b, o, rfl, hbb, hcells⟩ := H.out.2 (by omega)
        obtain ⟨b', o', rfl, hbb', hcells'⟩ := H'.out.2 (by omega)
        have c1 := hcells k hlt
        have c2 := hcells' k hlt
        clear hcells hcells'
        have hkx : k < xs.length := by omega
        have hky : k < ys.length := by omega
        by_cases he : xs.getD k 0 = ys.getD k 0
        · have hnext := Lib.hid (take_next hkx hky heq.out he)
          have heb : (xs.getD k 0 != ys.getD k 0) = false := by simp only [bne_eq_false_iff_eq]; exact he
          clear he
          generalize xs.getD k 0 = x at c1 heb
          generalize ys.getD k 0 = y at c2 heb
          go_wp2
          go_region
          all_goals go_wp2
          go_roundw
          case rel => exact ⟨k + 1, nd + 1, by go_num, by omega, hnext.out, rfl⟩
          case measure => simp only [intOf]; omega
        · have hne : eqB xs ys = false := by
            unfold eqB
            rw [decide_eq_false_iff_not]
            intro e
            exact he (by rw [e])
          have heb : (xs.getD k 0 != ys.getD k 0) = true := by simp only [bne_iff_ne, ne_eq]; exact he
          clear he
          generalize xs.getD k 0 = x at c1 heb
          generalize ys.getD k 0 = y at c2 heb
          go_wp2
          go_region
          all_goals go_wp2
          go_ret
          exact DV.mk (nd + 1) (vbool hne.symm)
      · have hall : eqB xs ys = true := by
          unfold eqB
          have := heq.out
          rw [List.take_of_length_le (by omega), List.take_of_length_le (by omega)] at this
          simpa using this
        go_wp2
        go_ret
        exact DV.mk nd (vbool hall.symm)
  · have hb : ((n : Int) != (m : Int)) = true := by simp; omega
    have hne : eqB xs ys = false := by
      unfold eqB
      rw [decide_eq_false_iff_not]
      intro e
      rw [e] at hlx
      omega
    go_enter Try.func64, Try.ntmps64
    go_wp2
    go_ret
    exact DV.mk0 (vbool hne.symm)
end Go.Proofs.Ytacjonkehcamgaa

/-
  DERIVED. The last step from a law's contract to its row: arguments opened, 'post' closed under 'Below'.
-/
namespace Go.Proofs.Ytacjonkehcamgaa
open Go.ChangeShapes Go.WideShapes Go.ChangeAt Go.RowKit Go.Joins
set_option linter.unusedVariables false

theorem own : ownKnob Try.prog.godebug = none := by kernel_rfl
theorem laidOut : laidOutB Try.prog = true := by kernel_rfl

section
variable {H : Type} {enc : TypeId × Value → H} {P : Program}
/-- 'post' of a call that returned, and below whose first heap size nothing has turned. -/
theorem post_below {f : Func} {s : ChangeSpec} {apart fresh handsOn again : Bool} {W W' : World} {args : Array Value} {v : Value} {ds gs : List (DataW H)} {before pa pv : List MemPlace}
    (hW : DataW.Whole enc P f.params.toList s.vars apart W args.toList ds gs before)
    (hres : ∀ (b : Nat) (sp : Nat → Bool) (hd : Bool), DataW.TrodAll enc P W' b sp hd f.resultTypes.toList (v.resultList f.resultTypes.size) (s.fn H (ds ++ gs)).results [])
    (hargs : ∀ sp : Nat → Bool, (∀ p ∈ before, sp p.block = true) → DataW.TrodAll enc P W' 0 sp true f.params.toList args.toList (s.fn H (ds ++ gs)).args pa)
    (hvars : ∀ sp : Nat → Bool, (∀ p ∈ before, sp p.block = true) → DataW.TrodVars enc P W' sp s.vars (s.fn H (ds ++ gs)).vars pv)
    (hps : before = pa ++ pv) (hb : Below W.heap.size W W')
    (hok : ∀ (j : Nat) (t : TypeId) (r : Value), f.resultTypes[j]? = some t → (v.resultList f.resultTypes.size)[j]? = some r → Value.okWide P W' .any 0 t r) :
    s.post enc P f apart fresh handsOn again W args v W' := by
  have hlt : ∀ p ∈ before, p.block < W.heap.size := fun p hp => hW.lt p hp
  have hold : ∀ p ∈ before, (fun b => decide (b < W.heap.size)) p.block = true := fun p hp => by simpa using hlt p hp
  refine ⟨ds, gs, before, [], pa, pv, hW, hres _ _ _, hargs _ hold, hvars _ hold, World.keptBut_mono (fun p hp => ⟨hp, ?_⟩) (hb.frame (· ∈ before)), fun _ => ?_⟩
  · rw [hps, List.mem_append] at hp
    exact Or.inr hp
  · obtain ⟨_, _, _, _, _, hz, hn⟩ := hW
    refine ⟨hok, _, _, ([] ++ pa) ++ pv, ⟨[] ++ pa, pv, trodAll_append (hargs _ (fun _ _ => rfl)) (hres _ _ _), hvars _ (fun _ _ => rfl), rfl, ?_, ?_⟩, ?_⟩
    · intro b off hp
      have hin : MemPlace.cell b off ∈ before := by rw [hps]; simpa using hp
      rw [hb.frozen (hlt _ hin)]
      exact hz b off hin
    · intro ha
      have := hn ha
      rw [hps] at this
      simpa using this
    · intro p hp _
      rw [hps]
      simpa using hp
/-- An argument reads behind the call as it read before it, whatever spare cells are asked for among the old places. -/
theorem same_arg {t : TypeId} (hl : laidOutB P = true) (hr : P.readableRec t = true) (hrow : t < P.types.size) {W W' : World} {v : Value} {d : DataW H} {ps : List MemPlace}
    (h : DataW.Trod enc P W 0 (fun _ => true) true t v d ps) (hb : Below W.heap.size W W') (hlt : ∀ x ∈ ps, x.block < W.heap.size) (sp : Nat → Bool) (hsp : ∀ x ∈ ps, sp x.block = true) :
    DataW.Trod enc P W' 0 sp true t v d ps :=
  WideElems.Trod_stays hl hr hrow h (fun x hx => hb.same (hlt x hx)) hsp
/-- A slice of ints, read. -/
theorem reads_ints {w : World} {base : Nat} {spare : Nat → Bool} {held : Bool} {t e : TypeId} {fuel : Nat} {v : Value} {x : DataW H × List MemPlace}
    (ht : P.underlying t = some (.slice e)) (he : P.underlying e = some (.int .i64)) (hc : P.cellsOf e = 1) (h : DataW.trod enc P w base spare held fuel t [v] = some x)
    (hlt : ∀ p ∈ x.2, p.block < w.heap.size) :
    ∃ A n cap xs, v = .slice A n cap ∧ n ≤ cap ∧ cap ≤ maxLen ∧ RI w w.heap.size A n xs ∧ ∀ z ∈ xs, (Lit.int .i64 z).wf = true := by
  rcases open_ints ht he hc h with ⟨hcs, hx⟩ | ⟨a, len, cap, zs, hcs, hb, hl, hm, hz, hx, hcell, hwf⟩
  · injection hcs with hv
    exact ⟨none, 0, 0, [], hv, Nat.le_refl _, by unfold maxLen; omega, RI.nil_ _ _ _, by simp⟩
  · injection hcs with hv
    have hzl : len ≤ zs.length := by rw [hz]; split <;> omega
    refine ⟨some a, len, cap, zs.take len, hv, hl, hm, ⟨by simp; omega, fun hn => ?_⟩, fun z hz => hwf z (List.mem_of_mem_take hz)⟩
    obtain ⟨b, off, rfl, hc'⟩ := ints_at hcell (by omega)
    refine ⟨b, off, rfl, ?_, fun k hk => ?_⟩
    · have h0 : MemPlace.cell b off ∈ x.2 := by
        rw [hx]
        simp only [MemPlace.row, List.mem_map, List.mem_range]
        exact ⟨0, by omega, rfl⟩
      exact hlt _ h0
    · rw [hc' k (by omega)]
      simp [List.getD, hk]
end
theorem wf_bounds {x : Int} (h : (Lit.int .i64 x).wf = true) : -9223372036854775808 ≤ x ∧ x ≤ 9223372036854775807 := by
  simpa [Lit.wf, IntKind.min, IntKind.max, IntKind.signed, IntKind.bits] using h
end Go.Proofs.Ytacjonkehcamgaa

/-
  DERIVED. The contracts of the reference's marked arithmetic: l1Fit, l1Add, l1Mul.
-/
namespace Go.Proofs.Ytacjonkehcamgaa
open Go.RowKit
set_option linter.unusedVariables false
/-- The mark of a number beyond the limit. -/
def bad : Int := -4611686018427387904
def fit (n : Int) : Int := if isNum n then n else bad
def addB (a b : Int) : Int := if a = bad ∨ b = bad then bad else fit (a + b)
def mulF (a b : Int) : Int := if a = bad ∨ b = bad then bad else fit (a * b)
theorem fit_in {n : Int} (h : -400000000 ≤ n ∧ n ≤ 400000000) : fit n = n := by simp [fit, (isNum_iff n).2 h]
theorem fit_out {n : Int} (h : n < -400000000 ∨ 400000000 < n) : fit n = bad := by simp [fit, (isNum_not n).2 h]
/-- A number within the limit, or the mark. -/
def NB (n : Int) : Prop := n = bad ∨ (-400000000 ≤ n ∧ n ≤ 400000000)
theorem NB.fit (n : Int) : NB (fit n) := by
  by_cases h : -400000000 ≤ n ∧ n ≤ 400000000
  · rw [fit_in h]; exact .inr h
  · rw [fit_out (by omega)]; exact .inl rfl
theorem ne_bad {n : Int} (h : -4000000000000000000 ≤ n) : n ≠ bad := by unfold bad; omega
theorem beq_bad (n : Int) : (n == -4611686018427387904) = decide (n = bad) := rfl

theorem spec_l1Fit (n : Int) (w : World) : Calls Try.prog 221 #[.int .i64 n] w (EV (.int .i64 (fit n)) w) := by
  by_cases h : -400000000 ≤ n ∧ n ≤ 400000000
  · rw [fit_in h]
    obtain ⟨h1, h2⟩ := h
    go_enter Try.func221, Try.ntmps221
    go_wp2_with (first | (go_at_call 154; (first | refine (spec_l1In_yes _ _ _ _ (by omega)).mono ?_ | refine (spec_l1In_no _ _ _ _ (by omega)).mono ?_ | refine (spec_l1In _ _ _ _).mono ?_); rintro e w' ⟨rfl, rfl⟩))
    go_ret
    exact EV.mk rfl
  · rw [fit_out (by omega)]
    have h' : n < -400000000 ∨ 400000000 < n := by omega
    clear h
    rcases h' with h | h
    all_goals
      go_enter Try.func221, Try.ntmps221
      go_wp2_with (first | (go_at_call 154; (first | refine (spec_l1In_yes _ _ _ _ (by omega)).mono ?_ | refine (spec_l1In_no _ _ _ _ (by omega)).mono ?_ | refine (spec_l1In _ _ _ _).mono ?_); rintro e w' ⟨rfl, rfl⟩))
      go_ret
      exact EV.mk rfl

theorem spec_l1Add (a b : Int) (w : World) (ha : NB a) (hb : NB b) : Calls Try.prog 232 #[.int .i64 a, .int .i64 b] w (EV (.int .i64 (addB a b)) w) := by
  unfold addB
  by_cases h1 : a = bad
  · rw [if_pos (.inl h1)]
    have e1 : (a == -4611686018427387904) = true := by rw [beq_bad]; simpa using h1
    clear h1 ha hb
    go_enter Try.func232, Try.ntmps232
    go_wp2
    go_ret
    exact EV.mk rfl
  · have e1 : (a == -4611686018427387904) = false := by rw [beq_bad]; simpa using h1
    by_cases h2 : b = bad
    · rw [if_pos (.inr h2)]
      have e2 : (b == -4611686018427387904) = true := by rw [beq_bad]; simpa using h2
      clear h1 h2 ha hb
      go_enter Try.func232, Try.ntmps232
      go_wp2
      go_ret
      exact EV.mk rfl
    · have e2 : (b == -4611686018427387904) = false := by rw [beq_bad]; simpa using h2
      rw [if_neg (by simp [h1, h2])]
      have ha' := ha.resolve_left h1
      have hb' := hb.resolve_left h2
      clear h1 h2 ha hb
      go_enter Try.func232, Try.ntmps232
      go_wp2_with (go_at_call 221; refine (spec_l1Fit _ _).mono ?_; rintro e w' ⟨rfl, rfl⟩)
      go_ret
      exact EV.mk rfl

theorem spec_l1Mul (a b : Int) (w : World) (ha : NB a) (hb : NB b) : Calls Try.prog 190 #[.int .i64 a, .int .i64 b] w (EV (.int .i64 (mulF a b)) w) := by
  unfold mulF
  by_cases h1 : a = bad
  · rw [if_pos (.inl h1)]
    have e1 : (a == -4611686018427387904) = true := by rw [beq_bad]; simpa using h1
    clear h1 ha hb
    go_enter Try.func190, Try.ntmps190
    go_wp2
    go_ret
    exact EV.mk rfl
  · have e1 : (a == -4611686018427387904) = false := by rw [beq_bad]; simpa using h1
    by_cases h2 : b = bad
    · rw [if_pos (.inr h2)]
      have e2 : (b == -4611686018427387904) = true := by rw [beq_bad]; simpa using h2
      clear h1 h2 ha hb
      go_enter Try.func190, Try.ntmps190
      go_wp2
      go_ret
      exact EV.mk rfl
    · have e2 : (b == -4611686018427387904) = false := by rw [beq_bad]; simpa using h2
      rw [if_neg (by simp [h1, h2])]
      have ha' := ha.resolve_left h1
      have hb' := hb.resolve_left h2
      obtain ⟨c1, c2⟩ := mul_bd4 a b 400000000 400000000 (by omega) (by omega) (by omega) (by omega)
      clear h1 h2 ha hb
      go_enter Try.func190, Try.ntmps190
      go_wp2_with (go_at_call 221; refine (spec_l1Fit _ _).mono ?_; rintro e w' ⟨rfl, rfl⟩)
      go_ret
      exact EV.mk rfl
theorem addB_num {a b : Int} (ha : -400000000 ≤ a ∧ a ≤ 400000000) (hb : -400000000 ≤ b ∧ b ≤ 400000000) : addB a b = fit (a + b) := by
  unfold addB; rw [if_neg]; unfold bad; omega
theorem mulF_num {a b : Int} (ha : -400000000 ≤ a ∧ a ≤ 400000000) (hb : -400000000 ≤ b ∧ b ≤ 400000000) : mulF a b = fit (a * b) := by
  unfold mulF; rw [if_neg]; unfold bad; omega
end Go.Proofs.Ytacjonkehcamgaa

/-
  DERIVED. EchelonOf of the reference.
-/
namespace Go.Proofs.Ytacjonkehcamgaa
open Go.RowKit
set_option linter.unusedVariables false
set_option linter.unusedSimpArgs false
set_option maxRecDepth 100000 in
set_option maxHeartbeats 2000000 in
theorem spec_EchelonOf (r c : Int) (A : Option Addr) (n cap : Nat) (xs : List Int) (w : World) {B : Nat} (h : RI w B A n xs) (hB : B ≤ w.heap.size) (hn : n ≤ 1048576) :
    Calls Try.prog 79 #[.agg #[.int .i64 r, .int .i64 c, .slice A n cap]] w (MIBR (mxQ r c (eoX r c xs)) (psQ (eoX r c xs)) (eoX r c xs).isSome w) := by
  have hlen := h.len
  have H2 := Lib.hid (h.more hB)
  clear h
  rcases hm : isMat r c xs with _ | _
  · have hx : eoX r c xs = none := by unfold eoX; rw [hm]; rfl
    rw [hx]
    have HM := Lib.hid hm
    clear hm hx hlen
    go_enter Try.func79, Try.ntmps79
    go_wp2_with (go_at_call 107; refine (spec_IsMatrix r c A n cap xs _ (C := w.heap.size) (Kr H2.out) Ks hn).mono ?_; rw [HM.out]; rintro e w1 ⟨rfl, hb⟩; have hz := hb.size; (try simp at hz); have kk := bkeep (w := w) hb Ks; obtain ⟨kc, kf⟩ := kk; (try (have kk := bkeepb (w.heap.size) hb Ks; obtain ⟨kc0, kf0, kl0⟩ := kk)); (try (have kk := bkeepb (w.heap.size + 1) hb Ks; obtain ⟨kc1, kf1, kl1⟩ := kk)); (try (have kk := bkeepb (w.heap.size + 1 + 1) hb Ks; obtain ⟨kc2, kf2, kl2⟩ := kk)); (try (have kk := bkeepb (w.heap.size + 1 + 1 + 1) hb Ks; obtain ⟨kc3, kf3, kl3⟩ := kk)); (try (have kk := bkeepb (wr.heap.size) hb Ks; obtain ⟨kr0, ks0, kt0⟩ := kk)); (try (have kk := bkeepb (wr.heap.size + 1) hb Ks; obtain ⟨kr1, ks1, kt1⟩ := kk)); (try (have kk := bkeepb (wr.heap.size + 1 + 1) hb Ks; obtain ⟨kr2, ks2, kt2⟩ := kk)))
    refine ret_MTT' (b := w.heap.size + 1) Try.results79 rfl Ka rfl ?_
    exact MIBR.none_ (OR.empty' _ w1.heap.size (by simp [World.setCell]) (by simp [World.setCell]; omega)) Kw
  · have M := isMat_iff.1 hm
    have hx : eoX r c xs = echQ r.toNat c.toNat (fun i j => cel xs c.toNat i j) := by unfold eoX; rw [if_pos hm]
    rw [hx]
    clear hx
    have HM := Lib.hid hm
    obtain ⟨R, rfl⟩ := nat_of M.r0
    obtain ⟨C, rfl⟩ := nat_of M.c0
    have hR := M.r1
    have hC := M.c1
    have HT : Hid (xs = tb R C (fun i j => cel xs C i j)) := Lib.hid (tb_of (by have := M.len; rw [← Int.natCast_mul] at this; omega))
    simp only [Int.toNat_natCast]
    have HBD : Hid (∀ i c : Nat, i < R → c < C → -400000000 ≤ (fun i j : Nat => cel xs C i j) i c ∧ (fun i j : Nat => cel xs C i j) i c ≤ 400000000) := Lib.hid (fun i c _ _ => M.cel_bd i c)
    generalize (fun i j : Nat => cel xs C i j) = f0 at *
    generalize hX : echQ R C f0 = X at *
    have HX := Lib.hid hX
    clear hm M hlen hX
    go_enter Try.func79, Try.ntmps79
    go_wp2_with (go_at_call 107; refine (spec_IsMatrix R C A n cap xs _ (C := w.heap.size) (Kr H2.out) Ks hn).mono ?_; rw [HM.out]; rintro e w1 ⟨rfl, hb⟩; have hz := hb.size; (try simp at hz); have kk := bkeep (w := w) hb Ks; obtain ⟨kc, kf⟩ := kk; (try (have kk := bkeepb (w.heap.size) hb Ks; obtain ⟨kc0, kf0, kl0⟩ := kk)); (try (have kk := bkeepb (w.heap.size + 1) hb Ks; obtain ⟨kc1, kf1, kl1⟩ := kk)); (try (have kk := bkeepb (w.heap.size + 1 + 1) hb Ks; obtain ⟨kc2, kf2, kl2⟩ := kk)); (try (have kk := bkeepb (w.heap.size + 1 + 1 + 1) hb Ks; obtain ⟨kc3, kf3, kl3⟩ := kk)); (try (have kk := bkeepb (wr.heap.size) hb Ks; obtain ⟨kr0, ks0, kt0⟩ := kk)); (try (have kk := bkeepb (wr.heap.size + 1) hb Ks; obtain ⟨kr1, ks1, kt1⟩ := kk)); (try (have kk := bkeepb (wr.heap.size + 1 + 1) hb Ks; obtain ⟨kr2, ks2, kt2⟩ := kk)))
    have hsz1 := hb.size
    simp at hsz1
    have hR1 : BM w1 (w.heap.size + 1) 0 0 none 0 0 := Ka
    have hri1 : RI w1 w.heap.size A n (tb R C f0) := by
      have : RI w1 w.heap.size A n xs := Kr H2.out
      rw [HT.out] at this; exact this
    have hbw1 : Below w.heap.size w w1 := Kw
    go_wp2_with fail
    refine (spec_l7Echelon R C A n cap f0 _ (B := w.heap.size) hri1 Ks hn (by omega) (by omega) HBD.out).mono ?_
    rw [HX.out]
    rintro e w2 ⟨A', n', cap', P, k, pc, rfl, ho, hp, hap, hb2⟩
    have hsz2 := hb2.size
    have hl1 := hR1.lt
    have hR2 : BM w2 (w.heap.size + 1) 0 0 none 0 0 := Kb hR1
    have hbw2 : Below w.heap.size w w2 := hbw1.trans (hb2.mono (by omega))
    have ho2 : OR w2 w1.heap.size (.slice A' n' cap') (mxQ R C X).xs := ho
    have hp2 : OR w2 w1.heap.size (.slice P k pc) (psQ X) := hp
    obtain ⟨ra, rb, rc, rf, rl⟩ := hR2.mx
    clear ho hp hb2 hbw1 hR1
    generalize psQ X = ps at *
    generalize X.isSome = b at *
    generalize hmx : mxQ R C X = mx at *
    clear hmx
    obtain ⟨mr, mc, mxs⟩ := mx
    go_wp2_with fail
    refine ret_MTT' (b := w.heap.size + 1) Try.results79 rfl (Kb hR2) rfl ?_
    exact ⟨A', n', cap', P, k, pc, rfl, OR.mono (B := w1.heap.size) (Ko ho2) (by omega), OR.mono (B := w1.heap.size) (Ko hp2) (by omega), hap, Kw⟩
end Go.Proofs.Ytacjonkehcamgaa

/-
  DERIVED. The Hermite form, step by step, as functions of row and column: no program in sight.
-/
namespace Go.Proofs.Ytacjonkehcamgaa
set_option linter.unusedVariables false
abbrev Fn2 := Nat → Nat → Int
/-- Row i plus t times row j, numbers beyond the limit marked. -/
def opA (f : Fn2) (i j : Nat) (t : Int) : Fn2 := fun x y => if x = i then addB (f i y) (mulF (f j y) t) else f x y
/-- Row i negated. -/
def opN (f : Fn2) (i : Nat) : Fn2 := fun x y => if x = i then -f i y else f x y
/-- The same, marks kept. -/
def opM (f : Fn2) (i : Nat) : Fn2 := fun x y => if x = i then (if f i y = bad then bad else -f i y) else f x y
/-- A matrix and the account of what is done to it. -/
structure HS where
  f : Fn2
  g : Fn2
def HS.add (s : HS) (i j : Nat) (t : Int) : HS := ⟨opA s.f i j t, opA s.g i j t⟩
def HS.swap (s : HS) (p t : Nat) : HS := ⟨swF s.f p t, swF s.g p t⟩
def HS.neg (s : HS) (i : Nat) : HS := ⟨opM s.f i, opM s.g i⟩
def Num (n : Int) : Prop := -400000000 ≤ n ∧ n ≤ 400000000
theorem Num.isN {n : Int} (h : Num n) : isNum n = true := (isNum_iff n).2 h
theorem Num.of {n : Int} (h : isNum n = true) : Num n := (isNum_iff n).1 h
theorem Num.ne {n : Int} (h : Num n) : n ≠ bad := by unfold Num at h; unfold bad; omega
theorem Num.nb {n : Int} (h : Num n) : NB n := .inr h
theorem NB.num {n : Int} (h : NB n) (h2 : n ≠ bad) : Num n := h.resolve_left h2
/-- In R rows of C cells all are numbers. -/
def OKF (R C : Nat) (f : Fn2) : Prop := ∀ i j, i < R → j < C → Num (f i j)
def NBF (f : Fn2) : Prop := ∀ i j, NB (f i j)
structure HS.OK (R C : Nat) (s : HS) : Prop where
  f : OKF R C s.f
  g : OKF R R s.g
structure HS.NBS (s : HS) : Prop where
  f : NBF s.f
  g : NBF s.g
theorem NB.addB (a b : Int) : NB (addB a b) := by
  unfold Go.Proofs.Ytacjonkehcamgaa.addB
  split
  · exact .inl rfl
  · exact NB.fit _
theorem NB.mulF (a b : Int) : NB (mulF a b) := by
  unfold Go.Proofs.Ytacjonkehcamgaa.mulF
  split
  · exact .inl rfl
  · exact NB.fit _
theorem opA_nb {f : Fn2} (h : NBF f) (i j : Nat) (t : Int) : NBF (opA f i j t) := by
  intro x y
  unfold opA
  split
  · exact NB.addB _ _
  · exact h x y
theorem HS.NBS.add {s : HS} (h : s.NBS) (i j : Nat) (t : Int) : (s.add i j t).NBS := ⟨opA_nb h.f _ _ _, opA_nb h.g _ _ _⟩
theorem addB_ne {a b : Int} (h : addB a b ≠ bad) : a ≠ bad ∧ b ≠ bad ∧ addB a b = a + b ∧ Num (a + b) := by
  unfold addB at h ⊢
  split at h
  · exact absurd rfl h
  · rename_i h1
    rw [if_neg h1]
    refine ⟨fun e => h1 (.inl e), fun e => h1 (.inr e), ?_⟩
    unfold fit at h ⊢
    split at h
    · rename_i h2
      rw [if_pos h2]
      exact ⟨rfl, Num.of h2⟩
    · exact absurd rfl h
theorem mulF_ne {a b : Int} (h : mulF a b ≠ bad) : a ≠ bad ∧ b ≠ bad ∧ mulF a b = a * b ∧ Num (a * b) := by
  unfold mulF at h ⊢
  split at h
  · exact absurd rfl h
  · rename_i h1
    rw [if_neg h1]
    refine ⟨fun e => h1 (.inl e), fun e => h1 (.inr e), ?_⟩
    unfold fit at h ⊢
    split at h
    · rename_i h2
      rw [if_pos h2]
      exact ⟨rfl, Num.of h2⟩
    · exact absurd rfl h
theorem opA_num {f : Fn2} {i j y : Nat} {t : Int} (h : Num (opA f i j t i y)) : f i y ≠ bad ∧ f j y ≠ bad ∧ opA f i j t i y = f i y + f j y * t ∧ Num (f j y * t) := by
  have h1 := h.ne
  unfold opA at h1 ⊢
  rw [if_pos rfl] at h1 ⊢
  obtain ⟨a1, a2, a3, a4⟩ := addB_ne h1
  obtain ⟨b1, b2, b3, b4⟩ := mulF_ne a2
  rw [a3, b3]
  exact ⟨a1, b1, rfl, b4⟩
theorem opA_back {f : Fn2} {R C i j : Nat} {t : Int} (hn : NBF f) (h : OKF R C (opA f i j t)) : OKF R C f := by
  intro x y hx hy
  by_cases hxi : x = i
  · subst hxi
    exact (hn x y).num (opA_num (h x y hx hy)).1
  · have := h x y hx hy
    unfold opA at this
    rwa [if_neg hxi] at this
theorem HS.OK.back {s : HS} {R C i j : Nat} {t : Int} (hn : s.NBS) (h : (s.add i j t).OK R C) : s.OK R C := ⟨opA_back hn.f h.f, opA_back hn.g h.g⟩
theorem opA_other {f : Fn2} {i j x y : Nat} {t : Int} (h : x ≠ i) : opA f i j t x y = f x y := by unfold opA; rw [if_neg h]
/-- Whether row i can take t times row j. -/
def rowOk (f : Fn2) (i j : Nat) (t : Int) (C : Nat) : Prop := ∀ y, y < C → Num (f j y * t) ∧ Num (f i y + f j y * t)
theorem rowOk_iff {f : Fn2} {R C i j : Nat} {t : Int} (h : OKF R C f) (hi : i < R) (hj : j < R) (ht : Num t) : rowOk f i j t C ↔ OKF R C (opA f i j t) := by
  constructor
  · intro hr x y hx hy
    unfold opA
    split
    · obtain ⟨h1, h2⟩ := hr y hy
      rw [mulF_num (h j y hj hy) ht, fit_in h1, addB_num (h i y hi hy) h1, fit_in h2]
      exact h2
    · exact h x y hx hy
  · intro ho y hy
    obtain ⟨h1, h2, h3, h4⟩ := opA_num (ho i y hi hy)
    refine ⟨h4, ?_⟩
    rw [← h3]
    exact ho i y hi hy
theorem rowOk_val {f : Fn2} {R C i j y : Nat} {t : Int} (h : OKF R C f) (hi : i < R) (hj : j < R) (ht : Num t) (hr : rowOk f i j t C) (hy : y < C) : opA f i j t i y = f i y + f j y * t := by
  obtain ⟨h1, h2⟩ := hr y hy
  unfold opA
  rw [if_pos rfl, mulF_num (h j y hj hy) ht, fit_in h1, addB_num (h i y hi hy) h1, fit_in h2]
/-- The quotient that leaves a remainder from 0 on is no greater. -/
theorem ediv_bd {n d : Int} (h : Num n) (hd : d ≠ 0) : Num (n / d) := by
  unfold Num at *
  have := Int.natAbs_ediv_le_natAbs n d
  omega
theorem Num.neg {n : Int} (h : Num n) : Num (-n) := by unfold Num at *; omega
/-- The row from t on, n of them, with the least absolute value in column j that is not 0; -1 if there is none. -/
def lstK (f : Fn2) (j t : Nat) : Nat → Int
  | 0 => -1
  | n + 1 => if f (t + n) j ≠ 0 ∧ (lstK f j t n < 0 ∨ (f (t + n) j).natAbs < (f (lstK f j t n).toNat j).natAbs) then ((t + n : Nat) : Int) else lstK f j t n
theorem lstK_succ (f : Fn2) (j t n : Nat) : lstK f j t (n + 1) = if f (t + n) j ≠ 0 ∧ (lstK f j t n < 0 ∨ (f (t + n) j).natAbs < (f (lstK f j t n).toNat j).natAbs) then ((t + n : Nat) : Int) else lstK f j t n := rfl
theorem lstK_cases (f : Fn2) (j t : Nat) : ∀ n, (lstK f j t n = -1 ∧ ∀ i, i < n → f (t + i) j = 0) ∨ ∃ p, lstK f j t n = (p : Nat) ∧ t ≤ p ∧ p < t + n ∧ f p j ≠ 0 ∧ ∀ i, i < n → f (t + i) j ≠ 0 → (f p j).natAbs ≤ (f (t + i) j).natAbs
  | 0 => .inl ⟨rfl, fun i h => absurd h (Nat.not_lt_zero _)⟩
  | n + 1 => by
    rw [lstK_succ]
    rcases lstK_cases f j t n with ⟨h1, h2⟩ | ⟨p, h1, h2, h3, h4, h5⟩
    · by_cases hz : f (t + n) j = 0
      · left
        rw [if_neg (by simp [hz])]
        refine ⟨h1, fun i hi => ?_⟩
        rcases Nat.lt_or_ge i n with hi' | hi'
        · exact h2 i hi'
        · rw [show i = n by omega]; exact hz
      · right
        rw [if_pos ⟨hz, .inl (by omega)⟩]
        refine ⟨t + n, rfl, by omega, by omega, hz, fun i hi hne => ?_⟩
        rcases Nat.lt_or_ge i n with hi' | hi'
        · exact absurd (h2 i hi') hne
        · rw [show i = n by omega]; exact Nat.le_refl _
    · right
      rw [h1]
      by_cases hc : f (t + n) j ≠ 0 ∧ ((p : Int) < 0 ∨ (f (t + n) j).natAbs < (f (p : Int).toNat j).natAbs)
      · rw [if_pos hc]
        obtain ⟨hz, hc⟩ := hc
        rw [Int.toNat_natCast] at hc
        have hc' : (f (t + n) j).natAbs < (f p j).natAbs := hc.resolve_left (by omega)
        refine ⟨t + n, rfl, by omega, by omega, hz, fun i hi hne => ?_⟩
        rcases Nat.lt_or_ge i n with hi' | hi'
        · have := h5 i hi' hne; omega
        · rw [show i = n by omega]; exact Nat.le_refl _
      · rw [if_neg hc]
        rw [Int.toNat_natCast] at hc
        refine ⟨p, rfl, h2, by omega, h4, fun i hi hne => ?_⟩
        rcases Nat.lt_or_ge i n with hi' | hi'
        · exact h5 i hi' hne
        · rw [show i = n by omega] at hne ⊢
          refine Nat.le_of_not_lt fun hlt => hc ⟨hne, .inr hlt⟩
def lst (R : Nat) (f : Fn2) (j t : Nat) : Int := lstK f j t (R - t)
/-- Whether another row from t on has something in column j. -/
def oth (R : Nat) (f : Fn2) (j t p : Nat) : Bool := (List.range (R - t)).any fun n => decide (t + n ≠ p) && decide (f (t + n) j ≠ 0)
theorem oth_iff {R : Nat} {f : Fn2} {j t p : Nat} : oth R f j t p = true ↔ ∃ i, t ≤ i ∧ i < R ∧ i ≠ p ∧ f i j ≠ 0 := by
  unfold oth
  rw [List.any_eq_true]
  constructor
  · rintro ⟨n, hn, h⟩
    have hn' := List.mem_range.1 hn
    rw [Bool.and_eq_true, decide_eq_true_eq, decide_eq_true_eq] at h
    exact ⟨t + n, by omega, by omega, h.1, h.2⟩
  · rintro ⟨i, h1, h2, h3, h4⟩
    refine ⟨i - t, List.mem_range.2 (by omega), ?_⟩
    rw [show t + (i - t) = i by omega, Bool.and_eq_true, decide_eq_true_eq, decide_eq_true_eq]
    exact ⟨h3, h4⟩
theorem oth_no {R : Nat} {f : Fn2} {j t p : Nat} (h : ∀ i, t ≤ i → i < R → ¬ (i ≠ p ∧ f i j ≠ 0)) : oth R f j t p = false := by
  refine Bool.eq_false_iff.2 fun hc => ?_
  obtain ⟨i, h1, h2, h3⟩ := oth_iff.1 hc
  exact h i h1 h2 h3
/-- What row t + n takes in a sweep. -/
def swS (j p t : Nat) (s : HS) : Nat → HS
  | 0 => s
  | n + 1 => if t + n ≠ p ∧ (swS j p t s n).f (t + n) j ≠ 0 then (swS j p t s n).add (t + n) p (-((swS j p t s n).f (t + n) j / (swS j p t s n).f p j)) else swS j p t s n
theorem swS_succ (j p t : Nat) (s : HS) (n : Nat) : swS j p t s (n + 1) = if t + n ≠ p ∧ (swS j p t s n).f (t + n) j ≠ 0 then (swS j p t s n).add (t + n) p (-((swS j p t s n).f (t + n) j / (swS j p t s n).f p j)) else swS j p t s n := rfl
theorem swS_nb {j p t : Nat} {s : HS} (h : s.NBS) : ∀ n, (swS j p t s n).NBS
  | 0 => h
  | n + 1 => by
    rw [swS_succ]
    split
    · exact (swS_nb h n).add _ _ _
    · exact swS_nb h n
theorem swS_back {j p t R C : Nat} {s : HS} (h : s.NBS) {n : Nat} (hk : (swS j p t s (n + 1)).OK R C) : (swS j p t s n).OK R C := by
  rw [swS_succ] at hk
  split at hk
  · exact HS.OK.back (swS_nb h n) hk
  · exact hk
theorem swS_back' {j p t R C : Nat} {s : HS} (h : s.NBS) (n : Nat) : ∀ m, (swS j p t s (n + m)).OK R C → (swS j p t s n).OK R C
  | 0, hk => hk
  | m + 1, hk => swS_back' h n m (swS_back h hk)
/-- Row p stays. -/
theorem swS_p {j p t : Nat} {s : HS} (y : Nat) : ∀ n, (swS j p t s n).f p y = s.f p y
  | 0 => rfl
  | n + 1 => by
    rw [swS_succ]
    split
    · rename_i h
      show opA _ _ _ _ p y = _
      rw [opA_other (Ne.symm h.1)]
      exact swS_p y n
    · exact swS_p y n
/-- Rows that have not come up stay. -/
theorem swS_late {j p t : Nat} {s : HS} {x : Nat} (y : Nat) : ∀ n, t + n ≤ x → (swS j p t s n).f x y = s.f x y
  | 0, _ => rfl
  | n + 1, hx => by
    rw [swS_succ]
    split
    · show opA _ _ _ _ x y = _
      rw [opA_other (by omega)]
      exact swS_late y n (by omega)
    · exact swS_late y n (by omega)
theorem swS_early {j p t : Nat} {s : HS} {x : Nat} (y : Nat) (hx : x < t) : ∀ n, (swS j p t s n).f x y = s.f x y
  | 0 => rfl
  | n + 1 => by
    rw [swS_succ]
    split
    · show opA _ _ _ _ x y = _
      rw [opA_other (by omega)]
      exact swS_early y hx n
    · exact swS_early y hx n
/-- What stands in column j behind a sweep. -/
theorem swS_col {j p t R C : Nat} {s : HS} (h : s.NBS) (hj : j < C) (hp : p < R) (hpj : s.f p j ≠ 0) : ∀ n, t + n ≤ R → (swS j p t s n).OK R C → ∀ x, t ≤ x → x < t + n → x ≠ p → (swS j p t s n).f x j = s.f x j % s.f p j
  | 0, _, _, x, h1, h2, _ => by omega
  | n + 1, hn, hk, x, h1, h2, h3 => by
    have hk0 := swS_back h hk
    have hsp := swS_p (j := j) (p := p) (t := t) (s := s) j n
    have hnp : Num (s.f p j) := by rw [← hsp]; exact hk0.f p j hp hj
    by_cases hx : x = t + n
    · subst hx
      have hl := swS_late (j := j) (p := p) (t := t) (s := s) (x := t + n) j n (Nat.le_refl _)
      have hnx : Num (s.f (t + n) j) := by rw [← hl]; exact hk0.f _ j (by omega) hj
      rw [swS_succ] at hk ⊢
      by_cases hz : (swS j p t s n).f (t + n) j = 0
      · rw [if_neg (by simp [hz]), hz]
        rw [← hl, hz, Int.zero_emod]
      · rw [if_pos ⟨h3, hz⟩] at hk ⊢
        have hN := hk.f (t + n) j (by omega) hj
        obtain ⟨-, -, he, -⟩ := opA_num hN
        show opA _ _ _ _ (t + n) j = _
        rw [he, hl, hsp]
        have := Int.mul_ediv_add_emod (s.f (t + n) j) (s.f p j)
        rw [Int.mul_neg]
        omega
    · have hxl : x < t + n := by omega
      have ih := swS_col h hj hp hpj n (by omega) hk0 x h1 hxl h3
      rw [swS_succ]
      split
      · show opA _ _ _ _ x j = _
        rw [opA_other hx]
        exact ih
      · exact ih
/-- What rows 0 to n - 1 take when row t is done. -/
def abS (j t : Nat) (s : HS) : Nat → HS
  | 0 => s
  | n + 1 => (abS j t s n).add n t (-((abS j t s n).f n j / (abS j t s n).f t j))
theorem abS_succ (j t : Nat) (s : HS) (n : Nat) : abS j t s (n + 1) = (abS j t s n).add n t (-((abS j t s n).f n j / (abS j t s n).f t j)) := rfl
theorem abS_nb {j t : Nat} {s : HS} (h : s.NBS) : ∀ n, (abS j t s n).NBS
  | 0 => h
  | n + 1 => (abS_nb h n).add _ _ _
theorem abS_back {j t R C : Nat} {s : HS} (h : s.NBS) {n : Nat} (hk : (abS j t s (n + 1)).OK R C) : (abS j t s n).OK R C := HS.OK.back (abS_nb h n) hk
theorem abS_back' {j t R C : Nat} {s : HS} (h : s.NBS) (n : Nat) : ∀ m, (abS j t s (n + m)).OK R C → (abS j t s n).OK R C
  | 0, hk => hk
  | m + 1, hk => abS_back' h n m (abS_back h hk)
theorem abS_late {j t : Nat} {s : HS} {x : Nat} (y : Nat) : ∀ n, n ≤ x → (abS j t s n).f x y = s.f x y
  | 0, _ => rfl
  | n + 1, hx => by
    rw [abS_succ]
    show opA _ _ _ _ x y = _
    rw [opA_other (by omega)]
    exact abS_late y n (by omega)
def noBad (x : Int) : Bool := !(x == -4611686018427387904)
def HS.ok (R C : Nat) (s : HS) : Bool := (tb R C s.f).all noBad && (tb R R s.g).all noBad
theorem noBad_num {x : Int} (h : NB x) : noBad x = true ↔ Num x := by
  unfold noBad
  rw [Bool.not_eq_true', beq_eq_false_iff_ne]
  exact ⟨fun h2 => h.num h2, fun h2 => h2.ne⟩
theorem tb_all {R C : Nat} {f : Fn2} (h : NBF f) : (tb R C f).all noBad = true ↔ OKF R C f := by
  rw [List.all_eq_true]
  constructor
  · intro ha i j hi hj
    refine (noBad_num (h i j)).1 (ha _ ?_)
    rw [← tb_at (f := f) hi hj]
    have hl := idx_nat hi hj
    have : i * C + j < (tb R C f).length := by rw [tb_len]; exact hl
    rw [List.getD_eq_getElem?_getD, List.getElem?_eq_getElem this]
    exact List.getElem_mem this
  · intro ho x hx
    exact tb_mem (P := fun x => noBad x = true) (fun i j hi hj => (noBad_num (h i j)).2 (ho i j hi hj)) x hx
theorem HS.ok_iff {R C : Nat} {s : HS} (h : s.NBS) : s.ok R C = true ↔ s.OK R C := by
  unfold HS.ok
  rw [Bool.and_eq_true, tb_all h.f, tb_all h.g]
  exact ⟨fun h => ⟨h.1, h.2⟩, fun h => ⟨h.f, h.g⟩⟩
/-- The measure of the inner loop. -/
def hmMs (R j t : Nat) (s : HS) (p : Nat) : Nat := if oth R s.f j t p then (s.f p j).natAbs else 0
theorem hmMs_lt {R C j t : Nat} {s : HS} {p : Nat} (h : s.NBS) (hj : j < C) (hp : p < R) (ht : t ≤ p) (hpj : s.f p j ≠ 0) (ho : oth R s.f j t p = true) (hk : (swS j p t s (R - t)).OK R C) :
    hmMs R j t (swS j p t s (R - t)) (lst R (swS j p t s (R - t)).f j t).toNat < hmMs R j t s p := by
  have hcol := swS_col h hj hp hpj (R - t) (by omega) hk
  have hpp := swS_p (j := j) (p := p) (t := t) (s := s) j (R - t)
  generalize (swS j p t s (R - t)) = s' at *
  unfold hmMs
  rw [if_pos ho]
  by_cases ho2 : oth R s'.f j t (lst R s'.f j t).toNat = true
  · rw [if_pos ho2]
    obtain ⟨i, h1, h2, h3, h4⟩ := oth_iff.1 ho2
    rcases lstK_cases s'.f j t (R - t) with ⟨e1, e2⟩ | ⟨q, e1, e2, e3, e4, e5⟩
    · have := e2 (i - t) (by omega)
      rw [show t + (i - t) = i by omega] at this
      exact absurd this h4
    · have e1' : lst R s'.f j t = (q : Int) := e1
      rw [e1', Int.toNat_natCast] at h3 ⊢
      have hrem : ∀ x, t ≤ x → x < R → x ≠ p → (s'.f x j).natAbs < (s.f p j).natAbs := fun x a b c => by
        rw [hcol x a (by omega) c]
        have h5 := Int.emod_nonneg (s.f x j) hpj
        have h6 := Int.emod_lt (s.f x j) hpj
        omega
      by_cases hqp : q = p
      · subst hqp
        have h7 := hrem i h1 h2 h3
        have h8 := e5 (i - t) (by omega)
        rw [show t + (i - t) = i by omega] at h8
        have := h8 h4
        omega
      · exact hrem q e2 (by omega) hqp
  · rw [if_neg ho2]
    omega
/-- Sweeps till row p alone has something in column j. -/
def hmIn (R C j t : Nat) (s : HS) (p : Nat) : Option (HS × Nat) :=
  if oth R s.f j t p then
    if (swS j p t s (R - t)).ok R C then
      if h : hmMs R j t (swS j p t s (R - t)) (lst R (swS j p t s (R - t)).f j t).toNat < hmMs R j t s p then hmIn R C j t (swS j p t s (R - t)) (lst R (swS j p t s (R - t)).f j t).toNat else none
    else none
  else some (s, p)
termination_by hmMs R j t s p
theorem hmIn_done {R C j t : Nat} {s : HS} {p : Nat} (h : oth R s.f j t p = false) : hmIn R C j t s p = some (s, p) := by
  rw [hmIn, if_neg (by rw [h]; exact Bool.false_ne_true)]
theorem hmIn_bad {R C j t : Nat} {s : HS} {p : Nat} (ho : oth R s.f j t p = true) (h : (swS j p t s (R - t)).ok R C = false) : hmIn R C j t s p = none := by
  rw [hmIn, if_pos ho, if_neg (by rw [h]; exact Bool.false_ne_true)]
theorem hmIn_next {R C j t : Nat} {s : HS} {p : Nat} (hn : s.NBS) (hj : j < C) (hp : p < R) (ht : t ≤ p) (hpj : s.f p j ≠ 0) (ho : oth R s.f j t p = true) (h : (swS j p t s (R - t)).ok R C = true) :
    hmIn R C j t s p = hmIn R C j t (swS j p t s (R - t)) (lst R (swS j p t s (R - t)).f j t).toNat := by
  conv => lhs; rw [hmIn]
  rw [if_pos ho, if_pos h, dif_pos (hmMs_lt hn hj hp ht hpj ho ((HS.ok_iff (swS_nb hn _)).1 h))]
/-- Row p to place t, its sign, the rows above. -/
def hmS1 (t p : Nat) (s : HS) : HS := if p = t then s else s.swap p t
def hmS2 (j t : Nat) (s : HS) : HS := if s.f t j < 0 then s.neg t else s
def hmFin (R C j t : Nat) (p : Nat) (s : HS) : Option HS := if (abS j t (hmS2 j t (hmS1 t p s)) t).ok R C then some (abS j t (hmS2 j t (hmS1 t p s)) t) else none
/-- Columns j and the m - 1 behind it; the number of rows that are done. -/
def hmOut (R C : Nat) : Nat → Nat → Nat → HS → Option (HS × Nat)
  | 0, _, t, s => some (s, t)
  | m + 1, j, t, s =>
    if t < R then
      if lst R s.f j t < 0 then hmOut R C m (j + 1) t s
      else (hmIn R C j t s (lst R s.f j t).toNat).bind fun x => (hmFin R C j t x.2 x.1).bind fun s' => hmOut R C m (j + 1) (t + 1) s'
    else some (s, t)
/-- What follows in a column. -/
def hmGo (R C m j t : Nat) (o : Option (HS × Nat)) : Option (HS × Nat) := o.bind fun x => (hmFin R C j t x.2 x.1).bind fun s' => hmOut R C m (j + 1) (t + 1) s'
theorem hmOut_zero (R C j t : Nat) (s : HS) : hmOut R C 0 j t s = some (s, t) := rfl
theorem hmOut_full {R C m j t : Nat} {s : HS} (h : ¬ t < R) : hmOut R C m j t s = some (s, t) := by
  cases m with
  | zero => rfl
  | succ m => show (if _ then _ else _) = _; rw [if_neg h]
theorem hmOut_skip {R C m j t : Nat} {s : HS} (h : t < R) (h2 : lst R s.f j t < 0) : hmOut R C (m + 1) j t s = hmOut R C m (j + 1) t s := by
  show (if _ then (if _ then _ else _) else _) = _
  rw [if_pos h, if_pos h2]
theorem hmOut_go {R C m j t : Nat} {s : HS} (h : t < R) (h2 : ¬ lst R s.f j t < 0) : hmOut R C (m + 1) j t s = hmGo R C m j t (hmIn R C j t s (lst R s.f j t).toNat) := by
  show (if _ then (if _ then _ else _) else _) = _
  rw [if_pos h, if_neg h2]
  rfl
def idF : Fn2 := fun i j => if i = j then 1 else 0
/-- The Hermite form, what makes it, and the number of rows that are not zeros. -/
def hmRun (R C : Nat) (f : Fn2) : Option (HS × Nat) := hmOut R C C 0 0 ⟨f, idF⟩
end Go.Proofs.Ytacjonkehcamgaa

/-
  DERIVED. EchelonOf, both.
-/
namespace Go.Proofs.Ytacjonkehcamgaa
end Go.Proofs.Ytacjonkehcamgaa

/-
  DERIVED. RankOf, both.
-/
namespace Go.Proofs.Ytacjonkehcamgaa
open Go.RowKit
set_option linter.unusedVariables false
theorem impl_RankOf (r c : Int) (A : Option Addr) (n cap : Nat) (xs : List Int) (w : World) {B : Nat} (h : RI w B A n xs) (hB : B ≤ w.heap.size) (hn : n ≤ 1048576) :
    Calls Try.prog 76 #[.agg #[.int .i64 r, .int .i64 c, .slice A n cap]] w (BV (.tuple #[.int .i64 ((psQ (eoX r c xs)).length : Nat), .bool (eoX r c xs).isSome]) w) := by
  have H2 := Lib.hid (h.more hB)
  clear h
  generalize hx : eoX r c xs = X
  have HX := Lib.hid hx
  clear hx
  go_enter Try.func76, Try.ntmps76
  go_wp2_with fail
  refine (impl_EchelonOf r c A n cap xs _ (B := w.heap.size) (Kr H2.out) Ks hn).mono ?_
  rw [HX.out]
  rintro e w1 ⟨A', n', cap', P, k, pc, rfl, ho, hp, ha, hb⟩
  have hk := hp.lenEq
  have hsz := hb.size
  simp at hsz
  clear ho hp ha
  generalize psQ X = ps at *
  generalize X.isSome = b at *
  generalize mxQ r c X = mx at *
  subst hk
  go_wp2_with fail
  go_ret2
  exact BV.mk rfl Kw
end Go.Proofs.Ytacjonkehcamgaa

/-
  DERIVED. Sums and products of matrices as functions of row and column: no program in sight.
-/
namespace Go.Proofs.Ytacjonkehcamgaa
set_option linter.unusedVariables false
theorem sumTo_succ (f : Nat → Int) (n : Nat) : sumTo f (n + 1) = sumTo f n + f n := rfl
theorem sumTo_zero' (f : Nat → Int) : sumTo f 0 = 0 := rfl
theorem sumTo_congr {f g : Nat → Int} : ∀ n, (∀ k, k < n → f k = g k) → sumTo f n = sumTo g n
  | 0, _ => rfl
  | n + 1, h => by rw [sumTo_succ, sumTo_succ, sumTo_congr n (fun k hk => h k (by omega)), h n (by omega)]
theorem sumTo_add (f g : Nat → Int) : ∀ n, sumTo (fun k => f k + g k) n = sumTo f n + sumTo g n
  | 0 => rfl
  | n + 1 => by rw [sumTo_succ, sumTo_succ, sumTo_succ, sumTo_add f g n]; omega
theorem sumTo_mul (f : Nat → Int) (t : Int) : ∀ n, sumTo (fun k => f k * t) n = sumTo f n * t
  | 0 => by rw [sumTo_zero', sumTo_zero', Int.zero_mul]
  | n + 1 => by rw [sumTo_succ, sumTo_succ, sumTo_mul f t n, Int.add_mul]
theorem sumTo_mul' (f : Nat → Int) (t : Int) (n : Nat) : sumTo (fun k => t * f k) n = t * sumTo f n := by
  rw [Int.mul_comm, ← sumTo_mul]
  exact sumTo_congr n fun k _ => Int.mul_comm _ _
theorem sumTo_neg (f : Nat → Int) : ∀ n, sumTo (fun k => -f k) n = -sumTo f n
  | 0 => rfl
  | n + 1 => by rw [sumTo_succ, sumTo_succ, sumTo_neg f n]; omega
theorem sumTo_sub (f g : Nat → Int) (n : Nat) : sumTo (fun k => f k - g k) n = sumTo f n - sumTo g n := by
  have h := sumTo_add f (fun k => -g k) n
  rw [sumTo_neg] at h
  rw [Int.sub_eq_add_neg, ← h]
  exact sumTo_congr n fun k _ => Int.sub_eq_add_neg
theorem sumTo_null {f : Nat → Int} (n : Nat) (h : ∀ k, k < n → f k = 0) : sumTo f n = 0 := by
  induction n with
  | zero => rfl
  | succ n ih => rw [sumTo_succ, ih (fun k hk => h k (by omega)), h n (by omega)]; rfl
/-- One summand only. -/
theorem sumTo_one {f : Nat → Int} {i : Nat} : ∀ n, i < n → (∀ k, k < n → k ≠ i → f k = 0) → sumTo f n = f i
  | 0, hi, _ => absurd hi (Nat.not_lt_zero _)
  | n + 1, hi, h => by
    rw [sumTo_succ]
    by_cases e : i = n
    · subst e
      rw [sumTo_null i (fun k hk => h k (by omega) (by omega)), Int.zero_add]
    · rw [sumTo_one n (by omega) (fun k hk hne => h k (by omega) hne), h n (by omega) (fun e2 => e e2.symm), Int.add_zero]
theorem sumTo_swap (f : Nat → Nat → Int) (m : Nat) : ∀ n, sumTo (fun i => sumTo (fun j => f i j) m) n = sumTo (fun j => sumTo (fun i => f i j) n) m
  | 0 => by
    rw [sumTo_zero']
    exact (sumTo_null m fun k _ => rfl).symm
  | n + 1 => by
    rw [sumTo_succ, sumTo_swap f m n, ← sumTo_add]
    rfl
/-- The product over n places. -/
def mm (n : Nat) (f g : Fn2) : Fn2 := fun i j => sumTo (fun k => f i k * g k j) n
/-- A matrix times a column. -/
def mv (n : Nat) (f : Fn2) (z : Nat → Int) : Nat → Int := fun i => sumTo (fun k => f i k * z k) n
theorem mm_assoc (n m : Nat) (f g h : Fn2) (i j : Nat) : mm n (mm m f g) h i j = mm m f (mm n g h) i j := by
  unfold mm
  have e1 : ∀ k, sumTo (fun l => f i l * g l k) m * h k j = sumTo (fun l => f i l * g l k * h k j) m := fun k => (sumTo_mul _ _ _).symm
  have e2 : ∀ l, f i l * sumTo (fun k => g l k * h k j) n = sumTo (fun k => f i l * g l k * h k j) n := fun l => by
    rw [← sumTo_mul']
    exact sumTo_congr n fun k _ => by rw [Int.mul_assoc]
  rw [sumTo_congr n (fun k _ => e1 k), sumTo_congr m (fun l _ => e2 l), sumTo_swap]
theorem mv_mm (n m : Nat) (f g : Fn2) (z : Nat → Int) (i : Nat) : mv n (mm m f g) z i = mv m f (mv n g z) i := mm_assoc n m f g (fun k _ => z k) i 0
theorem mv_congr {n : Nat} {f g : Fn2} {y z : Nat → Int} {i : Nat} (h : ∀ k, k < n → f i k = g i k) (h2 : ∀ k, k < n → y k = z k) : mv n f y i = mv n g z i :=
  sumTo_congr n fun k hk => by rw [h k hk, h2 k hk]
theorem mv_sub (n : Nat) (f : Fn2) (y z : Nat → Int) (i : Nat) : mv n f (fun k => y k - z k) i = mv n f y i - mv n f z i := by
  unfold mv
  rw [← sumTo_sub]
  exact sumTo_congr n fun k _ => by rw [Int.mul_sub]
/-- Equal in R rows of C cells. -/
def EqM (R C : Nat) (f g : Fn2) : Prop := ∀ i j, i < R → j < C → f i j = g i j
/-- No column but that of zeros is taken to zeros. -/
def INJ (R : Nat) (g : Fn2) : Prop := ∀ z : Nat → Int, (∀ i, i < R → mv R g z i = 0) → ∀ k, k < R → z k = 0
theorem INJ.eq {R : Nat} {g : Fn2} (h : INJ R g) {y z : Nat → Int} (e : ∀ i, i < R → mv R g y i = mv R g z i) : ∀ k, k < R → y k = z k := fun k hk => by
  have := h (fun k => y k - z k) (fun i hi => by rw [mv_sub, e i hi, Int.sub_self]) k hk
  omega
theorem mv_id {R : Nat} (z : Nat → Int) {i : Nat} (hi : i < R) : mv R idF z i = z i := by
  unfold mv
  rw [sumTo_one R hi]
  · unfold idF; rw [if_pos rfl, Int.one_mul]
  · intro k hk hne
    unfold idF
    rw [if_neg (fun e => hne e.symm), Int.zero_mul]
theorem INJ.id (R : Nat) : INJ R idF := fun z h k hk => by rw [← mv_id z hk]; exact h k hk
-- operations on rows
theorem mv_add {R i j : Nat} {t : Int} {g g' : Fn2} (h1 : ∀ y, y < R → g' i y = g i y + g j y * t) (z : Nat → Int) : mv R g' z i = mv R g z i + mv R g z j * t := by
  unfold mv
  rw [← sumTo_mul, ← sumTo_add]
  exact sumTo_congr R fun k hk => by rw [h1 k hk]; grind
theorem INJ.add {R i j : Nat} {t : Int} {g g' : Fn2} (h : INJ R g) (hi : i < R) (hj : j < R) (hij : i ≠ j) (h1 : ∀ y, y < R → g' i y = g i y + g j y * t) (h2 : ∀ x y, x < R → y < R → x ≠ i → g' x y = g x y) : INJ R g' := fun z hz => by
  have e : ∀ x, x < R → x ≠ i → mv R g z x = 0 := fun x hx hne => by
    rw [← hz x hx]
    exact mv_congr (fun k hk => (h2 x k hx hk hne).symm) (fun _ _ => rfl)
  refine h z fun x hx => ?_
  by_cases hxi : x = i
  · subst hxi
    have := mv_add h1 z
    rw [hz x hx, e j hj (fun e => hij e.symm), Int.zero_mul, Int.add_zero] at this
    exact this.symm
  · exact e x hx hxi
theorem INJ.swap {R p t : Nat} {g : Fn2} (h : INJ R g) (hp : p < R) (ht : t < R) : INJ R (swF g p t) := fun z hz => by
  refine h z fun x hx => ?_
  by_cases h1 : x = p
  · subst h1
    rw [← hz t ht]
    exact sumTo_congr R fun k hk => by rw [swF_t]
  · by_cases h2 : x = t
    · subst h2
      rw [← hz p hp]
      refine sumTo_congr R fun k hk => ?_
      have e : swF g p x p k = g x k := by unfold swF; rw [if_pos rfl]
      rw [e]
    · rw [← hz x hx]
      refine mv_congr (fun k hk => ?_) (fun _ _ => rfl)
      unfold swF
      rw [if_neg h1, if_neg h2]
theorem INJ.neg {R i : Nat} {g g' : Fn2} (h : INJ R g) (h1 : ∀ y, y < R → g' i y = -g i y) (h2 : ∀ x y, x < R → y < R → x ≠ i → g' x y = g x y) : INJ R g' := fun z hz => by
  refine h z fun x hx => ?_
  by_cases hxi : x = i
  · subst hxi
    have e : mv R g' z x = -mv R g z x := by
      unfold mv
      rw [← sumTo_neg]
      exact sumTo_congr R fun k hk => by rw [h1 k hk, Int.neg_mul]
    rw [hz x hx] at e
    omega
  · rw [← hz x hx]
    exact mv_congr (fun k hk => (h2 x k hx hk hxi).symm) (fun _ _ => rfl)
end Go.Proofs.Ytacjonkehcamgaa

/-
  DERIVED. IdentityMatrix of both.
-/
namespace Go.Proofs.Ytacjonkehcamgaa
open Go.RowKit
set_option linter.unusedVariables false
set_option linter.unusedSimpArgs false
def idK (k : Nat) : Fn2 := fun i j => if i = j ∧ i < k then 1 else 0
theorem idK_zero : idK 0 = fun _ _ => 0 := by funext i j; simp [idK]
theorem idK_step (k : Nat) : upd (idK k) k k 1 = idK (k + 1) := by
  funext i j
  unfold upd idK
  by_cases h : i = k ∧ j = k
  · rw [if_pos h, if_pos ⟨by omega, by omega⟩]
  · rw [if_neg h]
    by_cases h2 : i = j ∧ i < k
    · rw [if_pos h2, if_pos ⟨h2.1, by omega⟩]
    · rw [if_neg h2, if_neg]
      rintro ⟨h3, h4⟩
      exact h2 ⟨h3, by have : i ≠ k := fun e => h ⟨e, by omega⟩; omega⟩
theorem idK_end (n : Nat) : tb n n (idK n) = tb n n idF := tb_ext fun i j hi hj => by
  unfold idK idF
  by_cases h : i = j
  · rw [if_pos ⟨h, hi⟩, if_pos h]
  · rw [if_neg (fun k => h k.1), if_neg h]
set_option maxHeartbeats 4000000 in
theorem impl_IdentityMatrix (n : Nat) (w : World) (hn : n ≤ 24) :
    Calls Try.prog 141 #[.int .i64 n] w (MBR ⟨n, n, tb n n idF⟩ true w) := by
  have hnn : n * n ≤ 24 * 24 := Nat.mul_le_mul hn hn
  go_enter Try.func141, Try.ntmps141
  go_wp2_with fail
  refine (impl_newMatrix n n _ (by omega) (by omega) (by omega)).mono ?_
  rintro e w1 ⟨A, m, cap, rfl, how0, hb1⟩
  have hsz1 := hb1.size
  simp at hsz1
  have hR1 : BM w1 w.heap.size 0 0 none 0 0 := Ka
  have hbw1 : Below w.heap.size w w1 := Kw
  generalize hbO : w1.heap.size = bO at *
  have hR : BM (w1.alloc (.cells #[.int .i64 n, .int .i64 n, .slice A m cap] 26)) w.heap.size 0 0 none 0 0 := Kb hR1
  have hO : BM (w1.alloc (.cells #[.int .i64 n, .int .i64 n, .slice A m cap] 26)) bO n n A m cap := Ka
  have hown : OR (w1.alloc (.cells #[.int .i64 n, .int .i64 n, .slice A m cap] 26)) (w.heap.size + 1) (.slice A m cap) (tb n n (idK 0)) := by
    rw [idK_zero, tb_zeros]; exact OR.alloc (OR.mono (xs := List.replicate (n * n) 0) how0 (by simp)) _
  have hbw : Below w.heap.size w (w1.alloc (.cells #[.int .i64 n, .int .i64 n, .slice A m cap] 26)) := Kw
  have HU : Hid (Own (.slice A m cap) (w.heap.size + 1) bO) := Lib.hid (by rw [← hbO]; exact (OR.own (xs := List.replicate (n * n) 0) how0).wide (by simp) (Nat.le_refl _))
  have hbO2 : w.heap.size + 1 ≤ bO := by omega
  clear hR1 hbw1 how0 hb1
  obtain ⟨oa, ob, oc, of, ol⟩ := hO.mx; obtain ⟨ra, rb, rc, rf, rl⟩ := hR.mx
  go_wp2_with fail
  generalize w1.alloc (.cells #[.int .i64 n, .int .i64 n, .slice A m cap] 26) = wo at *
  go_loopw [5] (fun v wr => ∃ k : Nat, v = .int .i64 k ∧ k ≤ n ∧ BM wr w.heap.size 0 0 none 0 0 ∧ BM wr bO n n A m cap ∧ OR wr (w.heap.size + 1) (.slice A m cap) (tb n n (idK k)) ∧ Below w.heap.size w wr) (fun v _ => n - (intOf v).toNat)
  case atStart => exact ⟨0, rfl, Nat.zero_le _, hR, hO, hown, hbw⟩
  case round =>
    clear hR hO hown hbw oa ob oc of ol ra rb rc rf rl
    obtain ⟨k, rfl, hk, hR, hO, hown, hbw⟩ := hrel
    obtain ⟨oa, ob, oc, of, ol⟩ := hO.mx; obtain ⟨ra, rb, rc, rf, rl⟩ := hR.mx
    have hszw := hbw.size
    by_cases hkn : k < n
    · have HST := Lib.hid (idK_step k)
      go_wp2_with fail
      refine (impl_set_tb n n k k 1 A m cap (idK k) (idK (k + 1)) HST.out _ (B := w.heap.size + 1) (Ko hown) (by omega) (by omega) hkn hkn).mono ?_
      rintro e w2 ⟨rfl, hown2, hgr, hsz2⟩
      have hR2 : BM w2 w.heap.size 0 0 none 0 0 := BX.keptOwn (Kb hR) hgr HU.out (by omega)
      have hO2 : BM w2 bO n n A m cap := BX.keptOwn (Kb hO) hgr HU.out (by omega)
      have hbw2 : Below w.heap.size w w2 := Below.trans Kw (below_keptOwn hgr HU.out (by omega) Ks)
      go_wp2_with fail
      go_roundw
      case rel => exact ⟨k + 1, by go_num, by omega, Kb hR2, Kb hO2, Ko hown2, Kw⟩
      case measure => simp only [intOf]; omega
    · obtain rfl : k = n := by omega
      have hown2 := hown.as (idK_end k)
      clear hown
      go_wp2_with fail
      refine ret_MB (r := k) (c := k) (A := A) (n := m) (cap := cap) Try.results141 rfl (Kb hR) rfl ?_
      exact MBR.mk rfl (OR.mono (B := w.heap.size + 1) (Ko hown2) (by omega)) Kw
set_option maxHeartbeats 4000000 in
theorem spec_IdentityMatrix (n : Nat) (w : World) (hn : n ≤ 24) :
    Calls Try.prog 136 #[.int .i64 n] w (MBR ⟨n, n, tb n n idF⟩ true w) := by
  have hnn : n * n ≤ 24 * 24 := Nat.mul_le_mul hn hn
  go_enter Try.func136, Try.ntmps136
  go_wp2_with (first | (go_at_call 154; (first | refine (spec_l1In_yes _ _ _ _ (by omega)).mono ?_ | refine (spec_l1In_no _ _ _ _ (by omega)).mono ?_ | refine (spec_l1In _ _ _ _).mono ?_); rintro e w' ⟨rfl, rfl⟩))
  refine (spec_l3New n n _ (by omega) (by omega) (by omega)).mono ?_
  rintro e w1 ⟨A, m, cap, rfl, how0, hb1⟩
  have hsz1 := hb1.size
  simp at hsz1
  have hR1 : BM w1 w.heap.size 0 0 none 0 0 := Ka
  have hbw1 : Below w.heap.size w w1 := Kw
  generalize hbO : w1.heap.size = bO at *
  have hR : BM (w1.alloc (.cells #[.int .i64 n, .int .i64 n, .slice A m cap] 26)) w.heap.size 0 0 none 0 0 := Kb hR1
  have hO : BM (w1.alloc (.cells #[.int .i64 n, .int .i64 n, .slice A m cap] 26)) bO n n A m cap := Ka
  have hown : OR (w1.alloc (.cells #[.int .i64 n, .int .i64 n, .slice A m cap] 26)) (w.heap.size + 1) (.slice A m cap) (tb n n (idK 0)) := by
    rw [idK_zero, tb_zeros]; exact OR.alloc (OR.mono (xs := List.replicate (n * n) 0) how0 (by simp)) _
  have hbw : Below w.heap.size w (w1.alloc (.cells #[.int .i64 n, .int .i64 n, .slice A m cap] 26)) := Kw
  have HU : Hid (Own (.slice A m cap) (w.heap.size + 1) bO) := Lib.hid (by rw [← hbO]; exact (OR.own (xs := List.replicate (n * n) 0) how0).wide (by simp) (Nat.le_refl _))
  have hbO2 : w.heap.size + 1 ≤ bO := by omega
  clear hR1 hbw1 how0 hb1
  obtain ⟨oa, ob, oc, of, ol⟩ := hO.mx; obtain ⟨ra, rb, rc, rf, rl⟩ := hR.mx
  go_wp2_with fail
  generalize w1.alloc (.cells #[.int .i64 n, .int .i64 n, .slice A m cap] 26) = wo at *
  go_loopw [5] (fun v wr => ∃ k : Nat, v = .int .i64 k ∧ k ≤ n ∧ BM wr w.heap.size 0 0 none 0 0 ∧ BM wr bO n n A m cap ∧ OR wr (w.heap.size + 1) (.slice A m cap) (tb n n (idK k)) ∧ Below w.heap.size w wr) (fun v _ => n - (intOf v).toNat)
  case atStart => exact ⟨0, rfl, Nat.zero_le _, hR, hO, hown, hbw⟩
  case round =>
    clear hR hO hown hbw oa ob oc of ol ra rb rc rf rl
    obtain ⟨k, rfl, hk, hR, hO, hown, hbw⟩ := hrel
    obtain ⟨oa, ob, oc, of, ol⟩ := hO.mx; obtain ⟨ra, rb, rc, rf, rl⟩ := hR.mx
    have hszw := hbw.size
    by_cases hkn : k < n
    · have hln := hown.lenEq
      rw [tb_len] at hln
      obtain ⟨g, rfl, hg1, hg2⟩ := hown.begins (by rw [tb_len]; exact Nat.mul_pos (by omega) (by omega))
      have hix := idx_nat hkn hkn
      have c1 := hown.cell (k * n + k) (by rw [tb_len]; exact hix)
      have f1 := hown.frozen (k * n + k)
      have hst := hown.set_ (k * n + k) 1
      rw [tb_set hkn hkn, idK_step] at hst
      have i1 : (k : Int) * (n : Int) = ((k * n : Nat) : Int) := by rw [Int.natCast_mul]
      have i2 : 0 ≤ (k : Int) * (n : Int) ∧ (k : Int) * (n : Int) + (k : Int) < (m : Int) ∧ (k : Int) * (n : Int) ≤ 10000 := by omega
      obtain ⟨i2, i3, i4⟩ := i2
      have hgU := HU.out g rfl
      have hgO : ¬ g = bO := by omega
      have hg0 : ¬ g = w.heap.size := by omega
      generalize hcv : (tb n n (idK k)).getD (k * n + k) 0 = cv at c1
      clear i1 hix hln hcv
      go_wp2_with fail
      go_roundw
      case rel => exact ⟨k + 1, by go_num, by omega, Kb hR, Kb hO, hst, Kw⟩
      case measure => simp only [intOf]; omega
    · obtain rfl : k = n := by omega
      have hown2 := hown.as (idK_end k)
      clear hown
      go_wp2_with fail
      refine ret_MB (r := k) (c := k) (A := A) (n := m) (cap := cap) Try.results136 rfl (Kb hR) rfl ?_
      exact MBR.mk rfl (OR.mono (B := w.heap.size + 1) (Ko hown2) (by omega)) Kw
end Go.Proofs.Ytacjonkehcamgaa

/-
  DERIVED. Determinants by expansion along the first row: linear in rows and columns, zero where two rows or two columns are equal. No program in sight.
-/
namespace Go.Proofs.Ytacjonkehcamgaa
set_option linter.unusedVariables false
def sg (j : Nat) : Int := if j % 2 = 1 then -1 else 1
theorem sg_succ (j : Nat) : sg (j + 1) = -sg j := by
  unfold sg
  rcases Nat.mod_two_eq_zero_or_one j with h | h
  · rw [if_pos (by omega), if_neg (by omega)]
  · rw [if_neg (by omega), if_pos (by omega)]; rfl
/-- The column behind the one that is left out. -/
def sk (j b : Nat) : Nat := if b < j then b else b + 1
/-- Without the first row and column j. -/
def mnr (f : Fn2) (j : Nat) : Fn2 := fun a b => f (a + 1) (sk j b)
def Dt : Nat → Fn2 → Int
  | 0, _ => 1
  | n + 1, f => sumTo (fun j => sg j * f 0 j * Dt n (mnr f j)) (n + 1)
theorem Dt_succ (n : Nat) (f : Fn2) : Dt (n + 1) f = sumTo (fun j => sg j * f 0 j * Dt n (mnr f j)) (n + 1) := rfl
theorem sk_lt {j b n : Nat} (h : b < n) : sk j b < n + 1 := by unfold sk; split <;> omega
theorem sk_ne (j b : Nat) : sk j b ≠ j := by unfold sk; split <;> omega
theorem Dt_congr : ∀ (n : Nat) {f g : Fn2}, EqM n n f g → Dt n f = Dt n g
  | 0, _, _, _ => rfl
  | n + 1, f, g, h => by
    rw [Dt_succ, Dt_succ]
    refine sumTo_congr (n + 1) fun j hj => ?_
    have ih : Dt n (mnr f j) = Dt n (mnr g j) := Dt_congr n fun a b ha hb => h (a + 1) (sk j b) (by omega) (sk_lt hb)
    rw [h 0 j (by omega) hj, ih]
/-- Linear in row i. -/
theorem Dt_row : ∀ (n i : Nat) (t : Int) {f g h : Fn2}, i < n → (∀ y, y < n → f i y = g i y + h i y * t) → (∀ x y, x < n → y < n → x ≠ i → f x y = g x y ∧ f x y = h x y) → Dt n f = Dt n g + Dt n h * t
  | 0, i, _, _, _, _, hi, _, _ => absurd hi (Nat.not_lt_zero _)
  | n + 1, 0, t, f, g, h, _, h1, h2 => by
    rw [Dt_succ, Dt_succ, Dt_succ, ← sumTo_mul, ← sumTo_add]
    refine sumTo_congr (n + 1) fun j hj => ?_
    have e1 : Dt n (mnr g j) = Dt n (mnr f j) := Dt_congr n fun a b ha hb => (h2 (a + 1) (sk j b) (by omega) (sk_lt hb) (by omega)).1.symm
    have e2 : Dt n (mnr h j) = Dt n (mnr f j) := Dt_congr n fun a b ha hb => (h2 (a + 1) (sk j b) (by omega) (sk_lt hb) (by omega)).2.symm
    rw [e1, e2, h1 j hj]
    grind
  | n + 1, i + 1, t, f, g, h, hi, h1, h2 => by
    rw [Dt_succ, Dt_succ, Dt_succ, ← sumTo_mul, ← sumTo_add]
    refine sumTo_congr (n + 1) fun j hj => ?_
    have e1 := (h2 0 j (by omega) hj (by omega)).1
    have e2 := (h2 0 j (by omega) hj (by omega)).2
    have ih := Dt_row n i t (f := mnr f j) (g := mnr g j) (h := mnr h j) (by omega) (fun y hy => h1 (sk j y) (sk_lt hy)) (fun x y hx hy hne => h2 (x + 1) (sk j y) (by omega) (sk_lt hy) (by omega))
    rw [ih, ← e1, ← e2]
    grind
/-- Linear in column c. -/
theorem Dt_col : ∀ (n c : Nat) (t : Int) {f g h : Fn2}, c < n → (∀ x, x < n → f x c = g x c + h x c * t) → (∀ x y, x < n → y < n → y ≠ c → f x y = g x y ∧ f x y = h x y) → Dt n f = Dt n g + Dt n h * t
  | 0, c, _, _, _, _, hc, _, _ => absurd hc (Nat.not_lt_zero _)
  | n + 1, c, t, f, g, h, hc, h1, h2 => by
    rw [Dt_succ, Dt_succ, Dt_succ, ← sumTo_mul, ← sumTo_add]
    refine sumTo_congr (n + 1) fun j hj => ?_
    by_cases e : j = c
    · subst e
      have e1 : Dt n (mnr g j) = Dt n (mnr f j) := Dt_congr n fun a b ha hb => (h2 (a + 1) (sk j b) (by omega) (sk_lt hb) (sk_ne j b)).1.symm
      have e2 : Dt n (mnr h j) = Dt n (mnr f j) := Dt_congr n fun a b ha hb => (h2 (a + 1) (sk j b) (by omega) (sk_lt hb) (sk_ne j b)).2.symm
      rw [e1, e2, h1 0 (by omega)]
      grind
    · have e1 := (h2 0 j (by omega) hj e).1
      have e2 := (h2 0 j (by omega) hj e).2
      obtain ⟨c', hc', hk, hk2⟩ : ∃ c', c' < n ∧ sk j c' = c ∧ ∀ y, sk j y = c → y = c' := by
        by_cases hlt : c < j
        · exact ⟨c, by omega, by unfold sk; rw [if_pos hlt], fun y hy => by unfold sk at hy; split at hy <;> omega⟩
        · refine ⟨c - 1, by omega, by unfold sk; rw [if_neg (by omega)]; omega, fun y hy => by unfold sk at hy; split at hy <;> omega⟩
      have ih := Dt_col n c' t (f := mnr f j) (g := mnr g j) (h := mnr h j) hc' (fun x hx => by
        show f (x + 1) (sk j c') = g (x + 1) (sk j c') + h (x + 1) (sk j c') * t
        rw [hk]
        exact h1 (x + 1) (by omega)) (fun x y hx hy hne => h2 (x + 1) (sk j y) (by omega) (sk_lt hy) (fun e2 => hne (hk2 y e2)))
      rw [ih, ← e1, ← e2]
      grind
/-- Two summands only. -/
theorem sumTo_two {f : Nat → Int} {i : Nat} (n : Nat) (hi : i + 1 < n) (h : ∀ k, k < n → k ≠ i → k ≠ i + 1 → f k = 0) : sumTo f n = f i + f (i + 1) := by
  induction n with
  | zero => omega
  | succ n ih =>
    rw [sumTo_succ]
    by_cases e : i + 1 = n
    · subst e
      rw [sumTo_one (i := i) (i + 1) (by omega) (fun k hk hne => h k (by omega) hne (by omega))]
    · rw [ih (by omega) (fun k hk h1 h2 => h k (by omega) h1 h2), h n (by omega) (by omega) (by omega), Int.add_zero]
/-- Zero where two columns beside each other are equal. -/
theorem Dt_col_eq : ∀ (n c : Nat) {f : Fn2}, c + 1 < n → (∀ x, x < n → f x c = f x (c + 1)) → Dt n f = 0
  | 0, c, _, hc, _ => absurd hc (Nat.not_lt_zero _)
  | n + 1, c, f, hc, h => by
    rw [Dt_succ, sumTo_two (i := c) (n + 1) hc (fun j hj h1 h2 => ?_)]
    · have e : Dt n (mnr f c) = Dt n (mnr f (c + 1)) := Dt_congr n fun a b ha hb => by
        show f (a + 1) (sk c b) = f (a + 1) (sk (c + 1) b)
        by_cases hbc : b = c
        · subst hbc
          have e1 : sk b b = b + 1 := by unfold sk; rw [if_neg (Nat.lt_irrefl _)]
          have e2 : sk (b + 1) b = b := by unfold sk; rw [if_pos (by omega)]
          rw [e1, e2]
          exact (h (a + 1) (by omega)).symm
        · have e3 : sk c b = sk (c + 1) b := by unfold sk; split <;> split <;> omega
          rw [e3]
      rw [e, sg_succ, h 0 (by omega)]
      grind
    · have hz : Dt n (mnr f j) = 0 := by
        obtain ⟨c', hc', e1, e2⟩ : ∃ c', c' + 1 < n ∧ sk j c' = c ∧ sk j (c' + 1) = c + 1 := by
          by_cases hlt : c < j
          · exact ⟨c, by omega, by unfold sk; rw [if_pos hlt], by unfold sk; rw [if_pos (by omega)]⟩
          · exact ⟨c - 1, by omega, by unfold sk; rw [if_neg (by omega)]; omega, by unfold sk; rw [if_neg (by omega)]; omega⟩
        refine Dt_col_eq n c' hc' fun x hx => ?_
        show f (x + 1) (sk j c') = f (x + 1) (sk j (c' + 1))
        rw [e1, e2]
        exact h (x + 1) (by omega)
      rw [hz, Int.mul_zero]
/-- A sum over pairs that change sign when turned is zero. -/
theorem sumTo_anti {g : Nat → Nat → Int} (n : Nat) (h : ∀ a b, a < n → b < n → g a b = -g b a) : sumTo (fun a => sumTo (fun b => g a b) n) n = 0 := by
  have e : sumTo (fun a => sumTo (fun b => g a b) n) n = sumTo (fun a => -sumTo (fun b => g b a) n) n :=
    sumTo_congr n fun a ha => by
      rw [← sumTo_neg]
      exact sumTo_congr n fun b hb => h a b ha hb
  rw [sumTo_neg, sumTo_swap (fun a b => g b a) n n] at e
  omega
/-- A sum that leaves one place out. -/
theorem sumTo_skip {g : Nat → Int} {j : Nat} : ∀ n, j < n + 1 → sumTo (fun k => g (sk j k)) n = sumTo (fun b => if b = j then 0 else g b) (n + 1)
  | 0, hj => by
    have : j = 0 := by omega
    subst this
    rfl
  | n + 1, hj => by
    by_cases e : j = n + 1
    · subst e
      rw [sumTo_succ _ (n + 1), if_pos rfl, Int.add_zero]
      refine sumTo_congr (n + 1) fun k hk => ?_
      unfold sk
      rw [if_pos hk, if_neg (by omega)]
    · rw [sumTo_succ _ n, sumTo_skip n (by omega), sumTo_succ _ (n + 1), if_neg (by omega)]
      have : sk j n = n + 1 := by unfold sk; rw [if_neg (by omega)]
      rw [this]
/-- Without two rows and two columns, whichever goes first. -/
theorem mnr_two {f : Fn2} {a b : Nat} (h : a < b) : mnr (mnr f b) a = mnr (mnr f a) (b - 1) := by
  funext x y
  show f (x + 1 + 1) (sk b (sk a y)) = f (x + 1 + 1) (sk a (sk (b - 1) y))
  have : sk b (sk a y) = sk a (sk (b - 1) y) := by
    unfold sk
    repeat' split
    all_goals omega
  rw [this]
/-- Zero where two rows beside each other are equal. -/
theorem Dt_row_eq : ∀ (n i : Nat) {f : Fn2}, i + 1 < n → (∀ y, y < n → f i y = f (i + 1) y) → Dt n f = 0
  | 0, i, _, hi, _ => absurd hi (Nat.not_lt_zero _)
  | n + 1, i + 1, f, hi, h => by
    rw [Dt_succ]
    refine sumTo_null (n + 1) fun j hj => ?_
    rw [Dt_row_eq n i (f := mnr f j) (by omega) (fun y hy => h (sk j y) (sk_lt hy)), Int.mul_zero]
  | 1, 0, f, hi, h => by omega
  | n + 2, 0, f, hi, h => by
    rw [Dt_succ]
    -- the summand for the columns a of row 0 and b of row 1
    have key : ∀ a, a < n + 2 → sg a * f 0 a * Dt (n + 1) (mnr f a) = sumTo (fun b => if b = a then 0 else sg a * f 0 a * ((if b < a then sg b else sg (b - 1)) * f 0 b * Dt n (mnr (mnr f a) (if b < a then b else b - 1)))) (n + 2) := fun a ha => by
      rw [← sumTo_skip (g := fun b => sg a * f 0 a * ((if b < a then sg b else sg (b - 1)) * f 0 b * Dt n (mnr (mnr f a) (if b < a then b else b - 1)))) (n + 1) ha, Dt_succ, ← sumTo_mul']
      refine sumTo_congr (n + 1) fun k hk => ?_
      have e0 : mnr f a 0 k = f 0 (sk a k) := (h (sk a k) (sk_lt hk)).symm
      have e1 : (if sk a k < a then sk a k else sk a k - 1) = k := by
        unfold sk
        repeat' split
        all_goals omega
      have e2 : (if sk a k < a then sg (sk a k) else sg (sk a k - 1)) = sg k := by
        by_cases hka : k < a
        · have : sk a k = k := by unfold sk; rw [if_pos hka]
          rw [this, if_pos hka]
        · have : sk a k = k + 1 := by unfold sk; rw [if_neg hka]
          rw [this, if_neg (by omega), Nat.add_sub_cancel]
      rw [e0, e1, e2]
    rw [sumTo_congr (n + 2) key]
    refine sumTo_anti (n + 2) fun a b ha hb => ?_
    by_cases e : b = a
    · subst e; rw [if_pos rfl]; rfl
    · rw [if_neg e, if_neg (show ¬ a = b from fun e2 => e e2.symm)]
      by_cases hlt : b < a
      · rw [if_pos hlt, if_pos hlt, if_neg (show ¬ a < b by omega), if_neg (show ¬ a < b by omega), mnr_two hlt]
        have : sg a = -sg (a - 1) := by
          have := sg_succ (a - 1)
          rwa [Nat.sub_add_cancel (by omega)] at this
        rw [this]
        grind
      · have hlt2 : a < b := by omega
        rw [if_neg hlt, if_neg hlt, if_pos hlt2, if_pos hlt2, mnr_two hlt2]
        have : sg b = -sg (b - 1) := by
          have := sg_succ (b - 1)
          rwa [Nat.sub_add_cancel (by omega)] at this
        rw [this]
        grind
/-- Linear in each row, zero where two rows beside each other are equal. -/
structure Alt (n : Nat) (F : Fn2 → Int) : Prop where
  congr : ∀ (f g : Fn2), EqM n n f g → F f = F g
  lin : ∀ (i : Nat) (t : Int) (f g h : Fn2), i < n → (∀ y, y < n → f i y = g i y + h i y * t) → (∀ x y, x < n → y < n → x ≠ i → f x y = g x y ∧ f x y = h x y) → F f = F g + F h * t
  alt : ∀ (i : Nat) (f : Fn2), i + 1 < n → (∀ y, y < n → f i y = f (i + 1) y) → F f = 0
theorem Dt_alt (n : Nat) : Alt n (Dt n) :=
  ⟨fun f g h => Dt_congr n h, fun i t f g h hi h1 h2 => Dt_row n i t hi h1 h2, fun i f hi h => Dt_row_eq n i hi h⟩
theorem Dt_altC (n : Nat) : Alt n (fun f => Dt n (fun a b => f b a)) :=
  ⟨fun f g h => Dt_congr n fun a b ha hb => h b a hb ha, fun i t f g h hi h1 h2 => Dt_col n i t hi (fun x hx => h1 x hx) (fun x y hx hy hne => h2 y x hy hx hne), fun i f hi h => Dt_col_eq n i hi fun x hx => h x hx⟩
/-- Rows i and j anew. -/
def rw2 (f : Fn2) (i j : Nat) (a b : Nat → Int) : Fn2 := fun x y => if x = i then a y else if x = j then b y else f x y
section
variable {n : Nat} {F : Fn2 → Int}
/-- The exchange of two rows, if equal ones give zero there. -/
theorem Alt.turn (H : Alt n F) {i j : Nat} (hi : i < n) (hj : j < n) (hij : i ≠ j) (hz : ∀ f : Fn2, (∀ y, y < n → f i y = f j y) → F f = 0) (f : Fn2) (a b : Nat → Int) : F (rw2 f i j b a) = -F (rw2 f i j a b) := by
  have hji : j ≠ i := fun e => hij e.symm
  have z : ∀ c, F (rw2 f i j c c) = 0 := fun c => hz _ fun y _ => by unfold rw2; rw [if_pos rfl, if_neg hji, if_pos rfl]
  have l1 : ∀ c, F (rw2 f i j (fun y => a y + b y) c) = F (rw2 f i j a c) + F (rw2 f i j b c) := fun c => by
    have := H.lin i 1 (rw2 f i j (fun y => a y + b y) c) (rw2 f i j a c) (rw2 f i j b c) hi (fun y _ => by unfold rw2; rw [if_pos rfl, if_pos rfl, if_pos rfl, Int.mul_one]) (fun x y _ _ hne => by unfold rw2; rw [if_neg hne, if_neg hne, if_neg hne]; exact ⟨rfl, rfl⟩)
    rw [this, Int.mul_one]
  have l2 : ∀ c, F (rw2 f i j c (fun y => a y + b y)) = F (rw2 f i j c a) + F (rw2 f i j c b) := fun c => by
    have := H.lin j 1 (rw2 f i j c (fun y => a y + b y)) (rw2 f i j c a) (rw2 f i j c b) hj (fun y _ => by unfold rw2; rw [if_neg hji, if_pos rfl, if_neg hji, if_pos rfl, if_neg hji, if_pos rfl, Int.mul_one]) (fun x y _ _ hne => by unfold rw2; rw [if_neg hne, if_neg hne, if_neg hne]; exact ⟨rfl, rfl⟩)
    rw [this, Int.mul_one]
  have h0 := z (fun y => a y + b y)
  rw [l1, l2, l2, z, z] at h0
  omega
theorem rw2_self (f : Fn2) (i j : Nat) : rw2 f i j (f i) (f j) = f := by
  funext x y
  unfold rw2
  split
  · rename_i h; rw [h]
  · split
    · rename_i h; rw [h]
    · rfl
theorem rw2_swap (f : Fn2) {i j : Nat} : rw2 f i j (f j) (f i) = swF f i j := by
  funext x y
  unfold rw2 swF
  split
  · rfl
  · split
    · rfl
    · rfl
theorem Alt.adj (H : Alt n F) {i : Nat} (hi : i + 1 < n) (f : Fn2) : F (swF f i (i + 1)) = -F f := by
  have := H.turn (i := i) (j := i + 1) (by omega) hi (by omega) (fun f h => H.alt i f hi h) f (f i) (f (i + 1))
  rw [rw2_self, rw2_swap] at this
  exact this
/-- Zero where two rows are equal. -/
theorem Alt.same_lt (H : Alt n F) : ∀ (d i : Nat) (f : Fn2), i + d + 1 < n → (∀ y, y < n → f i y = f (i + d + 1) y) → F f = 0
  | 0, i, f, hi, h => H.alt i f hi h
  | d + 1, i, f, hi, h => by
    have h1 := H.adj (i := i + d + 1) (by omega) f
    have h2 : F (swF f (i + d + 1) (i + d + 1 + 1)) = 0 := H.same_lt d i _ (by omega) fun y hy => by
      have e1 : swF f (i + d + 1) (i + d + 1 + 1) i y = f i y := by unfold swF; rw [if_neg (by omega), if_neg (by omega)]
      have e2 : swF f (i + d + 1) (i + d + 1 + 1) (i + d + 1) y = f (i + d + 1 + 1) y := by unfold swF; rw [if_pos rfl]
      rw [e1, e2]
      exact h y hy
    rw [h2] at h1
    omega
theorem Alt.same (H : Alt n F) {i j : Nat} (hi : i < n) (hj : j < n) (hij : i ≠ j) (f : Fn2) (h : ∀ y, y < n → f i y = f j y) : F f = 0 := by
  rcases Nat.lt_or_ge i j with hlt | hge
  · exact H.same_lt (j - i - 1) i f (by omega) (by rw [show i + (j - i - 1) + 1 = j by omega]; exact h)
  · exact H.same_lt (i - j - 1) j f (by omega) (by rw [show j + (i - j - 1) + 1 = i by omega]; exact fun y hy => (h y hy).symm)
theorem Alt.swap (H : Alt n F) {i j : Nat} (hi : i < n) (hj : j < n) (hij : i ≠ j) (f : Fn2) : F (swF f i j) = -F f := by
  have := H.turn hi hj hij (fun f h => H.same hi hj hij f h) f (f i) (f j)
  rw [rw2_self, rw2_swap] at this
  exact this
/-- A multiple of a row added to another one. -/
theorem Alt.add (H : Alt n F) {i j : Nat} {t : Int} {f g : Fn2} (hi : i < n) (hj : j < n) (hij : i ≠ j) (h1 : ∀ y, y < n → g i y = f i y + f j y * t) (h2 : ∀ x y, x < n → y < n → x ≠ i → g x y = f x y) : F g = F f := by
  have h3 := H.lin i t g f (fun x y => if x = i then f j y else f x y) hi (fun y hy => by
    show g i y = f i y + (if i = i then f j y else f i y) * t
    rw [if_pos rfl]
    exact h1 y hy) (fun x y hx hy hne => ⟨h2 x y hx hy hne, by show g x y = if x = i then f j y else f x y; rw [if_neg hne]; exact h2 x y hx hy hne⟩)
  have h4 : F (fun x y => if x = i then f j y else f x y) = 0 := H.same hi hj hij _ fun y hy => by
    show (if i = i then f j y else f i y) = if j = i then f j y else f j y
    rw [if_pos rfl, if_neg (fun e => hij e.symm)]
  rw [h3, h4, Int.zero_mul, Int.add_zero]
theorem Alt.zero (H : Alt n F) {i : Nat} {f : Fn2} (hi : i < n) (h : ∀ y, y < n → f i y = 0) : F f = 0 := by
  have h3 := H.lin i 1 f f f hi (fun y hy => by rw [h y hy]; rfl) (fun x y hx hy hne => ⟨rfl, rfl⟩)
  omega
theorem Alt.scale (H : Alt n F) {i : Nat} {t : Int} {f g : Fn2} (hi : i < n) (h1 : ∀ y, y < n → g i y = f i y * t) (h2 : ∀ x y, x < n → y < n → x ≠ i → g x y = f x y) : F g = F f * t := by
  have h3 := H.lin i t g (fun x y => if x = i then 0 else f x y) f hi (fun y hy => by
    show g i y = (if i = i then 0 else f i y) + f i y * t
    rw [if_pos rfl, h1 y hy, Int.zero_add]) (fun x y hx hy hne => ⟨by show g x y = if x = i then 0 else f x y; rw [if_neg hne]; exact h2 x y hx hy hne, h2 x y hx hy hne⟩)
  have h4 : F (fun x y => if x = i then 0 else f x y) = 0 := H.zero hi fun y hy => by
    show (if i = i then (0 : Int) else f i y) = 0
    rw [if_pos rfl]
  rw [h3, h4, Int.zero_add]
end
/-- A matrix with zeros below the diagonal: the product of the diagonal. -/
theorem Dt_id : ∀ n, Dt n idF = 1
  | 0 => rfl
  | n + 1 => by
    rw [Dt_succ, sumTo_one (i := 0) (n + 1) (by omega) (fun k hk hne => ?_)]
    · have e : Dt n (mnr idF 0) = Dt n idF := Dt_congr n fun a b ha hb => by
        show idF (a + 1) (sk 0 b) = idF a b
        unfold idF sk
        rw [if_neg (Nat.not_lt_zero _)]
        by_cases h : a = b
        · rw [if_pos h, if_pos (by omega)]
        · rw [if_neg h, if_neg (by omega)]
      rw [e, Dt_id n]
      rfl
    · have : idF 0 k = 0 := by unfold idF; rw [if_neg (fun e => hne e.symm)]
      rw [this]
      grind
end Go.Proofs.Ytacjonkehcamgaa

/-
  DERIVED. The laws' unit: the identity matrix.
-/
namespace Go.Proofs.Ytacjonkehcamgaa
open Go.RowKit
set_option linter.unusedVariables false
set_option linter.unusedSimpArgs false
theorem laws_unit (n : Nat) (w : World) (hn : n ≤ 24) : Calls Try.prog 42 #[.int .i64 n] w (MR ⟨n, n, tb n n idF⟩ w) := by
  go_enter Try.func42, Try.ntmps42
  go_wp2_with fail
  refine (spec_IdentityMatrix n _ hn).mono ?_
  rintro e w1 ⟨A1, n1, c1, rfl, ho, hb1⟩
  have hs1 := hb1.size
  simp at hs1
  have hR : BM w1 w.heap.size 0 0 none 0 0 := Ka
  have hbw : Below w.heap.size w w1 := Kw
  have ho2 : OR w1 (w.heap.size + 1) (.slice A1 n1 c1) (tb n n idF) := OR.mono (xs := tb n n idF) ho (by simp)
  obtain ⟨ra, rb, rc, rf, rl⟩ := hR.mx
  have hvr := B3.of hR
  clear ho hb1
  go_wp2_with fail
  refine ret_M (b := w.heap.size) Try.results42 rfl (Kb hvr) rfl ?_
  exact MR.mk rfl (OR.mono (B := w.heap.size + 1) (Ko ho2) (by omega)) Kw
end Go.Proofs.Ytacjonkehcamgaa

/-
  DERIVED. Sums of rows; two matrices whose rows span the same. No program in sight.
-/
namespace Go.Proofs.Ytacjonkehcamgaa
set_option linter.unusedVariables false
/-- v is a sum of rows. -/
def Sp (R C : Nat) (f : Fn2) (v : Nat → Int) : Prop := ∃ c : Nat → Int, ∀ y, y < C → v y = sumTo (fun k => c k * f k y) R
theorem Sp.row {R C : Nat} {f : Fn2} {i : Nat} (hi : i < R) : Sp R C f (f i) := ⟨idF i, fun y hy => by
  rw [sumTo_one (i := i) R hi (fun k hk hne => by unfold idF; rw [if_neg (fun e => hne e.symm), Int.zero_mul])]
  unfold idF; rw [if_pos rfl, Int.one_mul]⟩
theorem Sp.add {R C : Nat} {f : Fn2} {u v z : Nat → Int} {t : Int} (h : Sp R C f u) (h2 : Sp R C f v) (e : ∀ y, y < C → z y = u y + v y * t) : Sp R C f z := by
  obtain ⟨c, hc⟩ := h
  obtain ⟨d, hd⟩ := h2
  refine ⟨fun k => c k + d k * t, fun y hy => ?_⟩
  rw [e y hy, hc y hy, hd y hy, ← sumTo_mul, ← sumTo_add]
  exact sumTo_congr R fun k _ => by grind
theorem Sp.neg {R C : Nat} {f : Fn2} {u z : Nat → Int} (h : Sp R C f u) (e : ∀ y, y < C → z y = -u y) : Sp R C f z := by
  obtain ⟨c, hc⟩ := h
  refine ⟨fun k => -c k, fun y hy => ?_⟩
  rw [e y hy, hc y hy, ← sumTo_neg]
  exact sumTo_congr R fun k _ => by grind
theorem Sp.as {R C : Nat} {f : Fn2} {u z : Nat → Int} (h : Sp R C f u) (e : ∀ y, y < C → z y = u y) : Sp R C f z := by
  obtain ⟨c, hc⟩ := h
  exact ⟨c, fun y hy => by rw [e y hy, hc y hy]⟩
theorem Sp.trans {R R' C : Nat} {f g : Fn2} {v : Nat → Int} (h : Sp R C f v) (k : ∀ i, i < R → Sp R' C g (f i)) : Sp R' C g v := by
  obtain ⟨c, hc⟩ := h
  have hd : ∀ i, ∃ d : Nat → Int, i < R → ∀ y, y < C → f i y = sumTo (fun l => d l * g l y) R' := fun i => by
    by_cases hi : i < R
    · obtain ⟨d, hd⟩ := k i hi
      exact ⟨d, fun _ => hd⟩
    · exact ⟨fun _ => 0, fun h => absurd h hi⟩
  let d : Fn2 := fun i => Classical.choose (hd i)
  have hdd : ∀ i, i < R → ∀ y, y < C → f i y = sumTo (fun l => d i l * g l y) R' := fun i => Classical.choose_spec (hd i)
  refine ⟨fun l => sumTo (fun i => c i * d i l) R, fun y hy => ?_⟩
  rw [hc y hy]
  have e1 : sumTo (fun k => c k * f k y) R = sumTo (fun k => sumTo (fun l => c k * (d k l * g l y)) R') R := sumTo_congr R fun k hk => by
    rw [hdd k hk y hy, sumTo_mul']
  rw [e1, sumTo_swap]
  refine sumTo_congr R' fun l hl => ?_
  rw [← sumTo_mul]
  exact sumTo_congr R fun k hk => by grind
theorem Sp.mm {R n C : Nat} {a f : Fn2} {i : Nat} (hi : i < n) : Sp R C f (mm R a f i) := ⟨a i, fun y _ => rfl⟩
/-- Rows of both span the same. -/
def SPN (R C : Nat) (m f : Fn2) : Prop := (∀ i, i < R → Sp R C m (f i)) ∧ ∀ i, i < R → Sp R C f (m i)
theorem SPN.add {R C i j : Nat} {t : Int} {m f f' : Fn2} (h : SPN R C m f) (hi : i < R) (hj : j < R) (hij : i ≠ j) (h1 : ∀ y, y < C → f' i y = f i y + f j y * t) (h2 : ∀ x y, x < R → y < C → x ≠ i → f' x y = f x y) : SPN R C m f' := by
  have hr : ∀ x, x < R → Sp R C f' (f x) := fun x hx => by
    by_cases e : x = i
    · subst e
      exact Sp.add (t := -t) (Sp.row hi) (Sp.row (i := j) hj) fun y hy => by rw [h1 y hy, h2 j y hj hy (fun e => hij e.symm)]; grind
    · exact (Sp.row hx).as fun y hy => (h2 x y hx hy e).symm
  refine ⟨fun x hx => ?_, fun x hx => (h.2 x hx).trans hr⟩
  by_cases e : x = i
  · subst e
    exact Sp.add (h.1 x hx) (h.1 j hj) h1
  · exact (h.1 x hx).as fun y hy => h2 x y hx hy e
theorem SPN.neg {R C i : Nat} {m f f' : Fn2} (h : SPN R C m f) (hi : i < R) (h1 : ∀ y, y < C → f' i y = -f i y) (h2 : ∀ x y, x < R → y < C → x ≠ i → f' x y = f x y) : SPN R C m f' := by
  have hr : ∀ x, x < R → Sp R C f' (f x) := fun x hx => by
    by_cases e : x = i
    · subst e
      exact Sp.neg (Sp.row hx) fun y hy => by rw [h1 y hy]; omega
    · exact (Sp.row hx).as fun y hy => (h2 x y hx hy e).symm
  refine ⟨fun x hx => ?_, fun x hx => (h.2 x hx).trans hr⟩
  by_cases e : x = i
  · subst e
    exact Sp.neg (h.1 x hx) h1
  · exact (h.1 x hx).as fun y hy => h2 x y hx hy e
theorem SPN.swap {R C i j : Nat} {m f : Fn2} (h : SPN R C m f) (hi : i < R) (hj : j < R) : SPN R C m (swF f i j) := by
  have e1 : ∀ x, ∃ z, (x < R → z < R) ∧ swF f i j x = f z := fun x => ⟨if x = i then j else if x = j then i else x, fun hx => (by (split; exact hj; split; exact hi; exact hx)), rfl⟩
  have e2 : ∀ x, ∃ z, (x < R → z < R) ∧ f x = swF f i j z := fun x => by
    refine ⟨if x = i then j else if x = j then i else x, fun hx => (by (split; exact hj; split; exact hi; exact hx)), ?_⟩
    funext y
    unfold swF
    congr 1
    by_cases a : x = i
    · subst a
      rw [if_pos rfl]
      by_cases b : j = x
      · rw [if_pos b, b]
      · rw [if_neg b, if_pos rfl]
    · rw [if_neg a]
      by_cases b : x = j
      · subst b
        rw [if_pos rfl, if_pos rfl]
      · rw [if_neg b, if_neg a, if_neg b]
  refine ⟨fun x hx => ?_, fun x hx => (h.2 x hx).trans fun k hk => ?_⟩
  · obtain ⟨z, hz, e⟩ := e1 x
    rw [e]; exact h.1 z (hz hx)
  · obtain ⟨z, hz, e⟩ := e2 k
    rw [e]; exact Sp.row (hz hk)
theorem SPN.refl (R C : Nat) (m : Fn2) : SPN R C m m := ⟨fun i hi => Sp.row hi, fun i hi => Sp.row hi⟩
theorem SPN.symm {R C : Nat} {m f : Fn2} (h : SPN R C m f) : SPN R C f m := ⟨h.2, h.1⟩
theorem SPN.trans {R C : Nat} {m f g : Fn2} (h : SPN R C m f) (k : SPN R C f g) : SPN R C m g := ⟨fun i hi => (k.1 i hi).trans h.1, fun i hi => (h.2 i hi).trans k.2⟩
/-- A unimodular matrix times another one: the same rows are spanned. -/
theorem SPN.left {n C : Nat} {u m : Fn2} (h : SPN n n idF u) : SPN n C m (mm n u m) := by
  refine ⟨fun i hi => Sp.mm hi, fun i hi => ?_⟩
  obtain ⟨c, hc⟩ := h.2 i hi
  refine ⟨c, fun y hy => ?_⟩
  have e1 : m i y = sumTo (fun l => idF i l * m l y) n := by
    rw [sumTo_one (i := i) n hi (fun k hk hne => by unfold idF; rw [if_neg (fun e => hne e.symm), Int.zero_mul])]
    unfold idF; rw [if_pos rfl, Int.one_mul]
  rw [e1]
  have e2 : sumTo (fun l => idF i l * m l y) n = sumTo (fun l => sumTo (fun k => c k * (u k l * m l y)) n) n := sumTo_congr n fun l hl => by
    rw [hc l hl, ← sumTo_mul]
    exact sumTo_congr n fun k _ => by grind
  rw [e2, sumTo_swap]
  exact sumTo_congr n fun k hk => by rw [sumTo_mul']; rfl
end Go.Proofs.Ytacjonkehcamgaa

/-
  DERIVED. More unknowns than equations have a solution that is not all zeros; how many rows can be independent. No program in sight.
-/
namespace Go.Proofs.Ytacjonkehcamgaa
set_option linter.unusedVariables false
/-- The place that sk leaves out is put back. -/
def unsk (c : Nat) (v : Int) (z : Nat → Int) (j : Nat) : Int := if j < c then z j else if j = c then v else z (j - 1)
theorem unsk_sk (c : Nat) (v : Int) (z : Nat → Int) (k : Nat) : unsk c v z (sk c k) = z k := by
  unfold unsk sk
  by_cases h : k < c
  · rw [if_pos h, if_pos h]
  · rw [if_neg h, if_neg (by omega), if_neg (by omega), Nat.add_sub_cancel]
theorem unsk_at (c : Nat) (v : Int) (z : Nat → Int) : unsk c v z c = v := by
  unfold unsk
  rw [if_neg (Nat.lt_irrefl _), if_pos rfl]
/-- A sum with one place set apart. -/
theorem sumTo_out {g : Nat → Int} {c n : Nat} (hc : c < n + 1) : sumTo g (n + 1) = g c + sumTo (fun k => g (sk c k)) n := by
  rw [sumTo_skip n hc]
  have h1 : sumTo g (n + 1) = sumTo (fun b => (if b = c then g c else 0) + (if b = c then 0 else g b)) (n + 1) := sumTo_congr (n + 1) fun k _ => by
    by_cases h : k = c
    · rw [if_pos h, if_pos h, h, Int.add_zero]
    · rw [if_neg h, if_neg h, Int.zero_add]
  rw [h1, sumTo_add, sumTo_one (i := c) (n + 1) hc (fun k _ hne => if_neg hne), if_pos rfl]
/-- More unknowns than equations. -/
theorem sys_zero : ∀ (m : Nat) (f : Fn2), ∃ z : Nat → Int, (∃ k, k < m + 1 ∧ z k ≠ 0) ∧ ∀ i, i < m → mv (m + 1) f z i = 0
  | 0, f => ⟨fun _ => 1, ⟨0, by omega, by decide⟩, fun i hi => absurd hi (Nat.not_lt_zero _)⟩
  | m + 1, f => by
    by_cases hp : ∃ c, c < m + 2 ∧ f 0 c ≠ 0
    · obtain ⟨c, hc, hne⟩ := hp
      obtain ⟨z, ⟨k, hk, hkz⟩, hz⟩ := sys_zero m fun i j => f 0 c * f (i + 1) (sk c j) - f (i + 1) c * f 0 (sk c j)
      refine ⟨unsk c (-sumTo (fun k => f 0 (sk c k) * z k) (m + 1)) fun k => f 0 c * z k, ⟨sk c k, sk_lt hk, ?_⟩, fun i hi => ?_⟩
      · rw [unsk_sk]
        exact Int.mul_ne_zero hne hkz
      · unfold mv
        rw [sumTo_out (n := m + 1) hc, unsk_at]
        have e1 : sumTo (fun k => f i (sk c k) * unsk c (-sumTo (fun k => f 0 (sk c k) * z k) (m + 1)) (fun k => f 0 c * z k) (sk c k)) (m + 1) = sumTo (fun k => f 0 c * (f i (sk c k) * z k)) (m + 1) := sumTo_congr (m + 1) fun k _ => by
          rw [unsk_sk]; grind
        rw [e1, sumTo_mul']
        rcases Nat.eq_zero_or_pos i with h0 | h0
        · subst h0
          grind
        · obtain ⟨i', rfl⟩ : ∃ i', i = i' + 1 := ⟨i - 1, by omega⟩
          have h2 := hz i' (by omega)
          unfold mv at h2
          have e2 : sumTo (fun k => (f 0 c * f (i' + 1) (sk c k) - f (i' + 1) c * f 0 (sk c k)) * z k) (m + 1) = f 0 c * sumTo (fun k => f (i' + 1) (sk c k) * z k) (m + 1) - f (i' + 1) c * sumTo (fun k => f 0 (sk c k) * z k) (m + 1) := by
            rw [← sumTo_mul', ← sumTo_mul', ← sumTo_sub]
            exact sumTo_congr (m + 1) fun k _ => by grind
          rw [e2] at h2
          grind
    · have h0 : ∀ c, c < m + 2 → f 0 c = 0 := fun c hc => Decidable.byContradiction fun hne => hp ⟨c, hc, hne⟩
      obtain ⟨z, ⟨k, hk, hkz⟩, hz⟩ := sys_zero m fun i j => f (i + 1) j
      refine ⟨fun j => if j < m + 1 then z j else 0, ⟨k, by omega, by show (if _ then _ else _) ≠ _; rw [if_pos hk]; exact hkz⟩, fun i hi => ?_⟩
      show sumTo (fun k => f i k * (if k < m + 1 then z k else 0)) (m + 1 + 1) = 0
      rw [sumTo_succ, if_neg (by omega), Int.mul_zero, Int.add_zero]
      have e1 : sumTo (fun k => f i k * (if k < m + 1 then z k else 0)) (m + 1) = sumTo (fun k => f i k * z k) (m + 1) := sumTo_congr (m + 1) fun k hk => by rw [if_pos hk]
      rw [e1]
      rcases Nat.eq_zero_or_pos i with hi0 | hi0
      · subst hi0
        exact sumTo_null (m + 1) fun k hk => by rw [h0 k (by omega), Int.zero_mul]
      · obtain ⟨i', rfl⟩ : ∃ i', i = i' + 1 := ⟨i - 1, by omega⟩
        exact hz i' (by omega)
/-- The first n rows of C cells are independent. -/
def Ind (n C : Nat) (v : Fn2) : Prop := ∀ z : Nat → Int, (∀ y, y < C → sumTo (fun k => z k * v k y) n = 0) → ∀ k, k < n → z k = 0
/-- Each of the first n rows of v, some times, is a sum of the first m rows of u. -/
def Span (n m C : Nat) (v u : Fn2) : Prop := ∀ i, i < n → ∃ (d : Int) (c : Nat → Int), d ≠ 0 ∧ ∀ y, y < C → d * v i y = sumTo (fun k => c k * u k y) m
theorem Ind.take {n m C : Nat} {v : Fn2} (h : Ind n C v) (hm : m ≤ n) : Ind m C v := fun z hz k hk => by
  have hs : ∀ y (q : Nat), m ≤ q → sumTo (fun k => (if k < m then z k else 0) * v k y) q = sumTo (fun k => z k * v k y) m := fun y q => by
    induction q with
    | zero => intro hq; obtain rfl : m = 0 := by omega
              rfl
    | succ q ih =>
      intro hq
      by_cases e : m = q + 1
      · subst e
        exact sumTo_congr (q + 1) fun k hk => by rw [if_pos hk]
      · rw [sumTo_succ, ih (by omega), if_neg (by omega), Int.zero_mul, Int.add_zero]
  have := h (fun k => if k < m then z k else 0) (fun y hy => by rw [hs y n hm]; exact hz y hy) k (by omega)
  simpa [hk] using this
/-- There are no more independent rows than rows that they are sums of. -/
theorem Ind.le {n m C : Nat} {v u : Fn2} (hi : Ind n C v) (hs : Span n m C v u) : n ≤ m := by
  refine Nat.le_of_not_lt fun hlt => ?_
  have hi' := hi.take (show m + 1 ≤ n by omega)
  have hch : ∀ i, ∃ (d : Int) (c : Nat → Int), i < m + 1 → d ≠ 0 ∧ ∀ y, y < C → d * v i y = sumTo (fun k => c k * u k y) m := fun i => by
    by_cases h : i < m + 1
    · obtain ⟨d, c, h1, h2⟩ := hs i (by omega)
      exact ⟨d, c, fun _ => ⟨h1, h2⟩⟩
    · exact ⟨0, fun _ => 0, fun h2 => absurd h2 h⟩
  obtain ⟨d, hd⟩ := Classical.axiomOfChoice hch
  obtain ⟨c, hc⟩ := Classical.axiomOfChoice hd
  obtain ⟨z, ⟨k, hk, hkz⟩, hz⟩ := sys_zero m fun k i => c i k
  have h0 := hi' (fun i => z i * d i) (fun y hy => by
    have e1 : sumTo (fun i => z i * d i * v i y) (m + 1) = sumTo (fun i => sumTo (fun k => z i * c i k * u k y) m) (m + 1) := sumTo_congr (m + 1) fun i hi => by
      rw [Int.mul_assoc, (hc i hi).2 y hy, ← sumTo_mul']
      exact sumTo_congr m fun k _ => by rw [Int.mul_assoc]
    rw [e1, sumTo_swap]
    refine sumTo_null m fun k hk => ?_
    have e2 : sumTo (fun i => z i * c i k * u k y) (m + 1) = sumTo (fun i => c i k * z i) (m + 1) * u k y := by
      rw [← sumTo_mul]
      exact sumTo_congr (m + 1) fun i _ => by grind
    rw [e2]
    have := hz k hk
    unfold mv at this
    rw [this, Int.zero_mul]) k hk
  exact (Int.mul_ne_zero hkz (hc k hk).1) h0
end Go.Proofs.Ytacjonkehcamgaa

/-
  DERIVED. The echelon form with primitive rows: its shape, what its rows span, that two of one space are equal. No program in sight.
-/
namespace Go.Proofs.Ytacjonkehcamgaa
set_option linter.unusedVariables false
/-- Some multiple of v is a sum of rows. -/
def QS (R C : Nat) (f : Fn2) (v : Nat → Int) : Prop := ∃ (d : Int) (c : Nat → Int), d ≠ 0 ∧ ∀ y, y < C → d * v y = sumTo (fun k => c k * f k y) R
section
variable {R S C r s : Nat} {p q : Nat → Nat} {f g : Fn2} {u v z : Nat → Int}
theorem QS.row {i : Nat} (hi : i < R) : QS R C f (f i) := ⟨1, idF i, by decide, fun y hy => by
  rw [sumTo_one (i := i) R hi (fun k hk hne => by unfold idF; rw [if_neg (fun e => hne e.symm), Int.zero_mul])]
  unfold idF; rw [if_pos rfl]⟩
/-- a u + b v, divided by d. -/
theorem QS.lin (h : QS R C f u) (h2 : QS R C f v) {a b d : Int} (hd : d ≠ 0) (e : ∀ y, y < C → d * z y = a * u y + b * v y) : QS R C f z := by
  obtain ⟨d1, c1, h1, hc1⟩ := h
  obtain ⟨d2, c2, h2, hc2⟩ := h2
  refine ⟨d1 * d2 * d, fun k => a * d2 * c1 k + b * d1 * c2 k, Int.mul_ne_zero (Int.mul_ne_zero h1 h2) hd, fun y hy => ?_⟩
  have e1 : sumTo (fun k => (a * d2 * c1 k + b * d1 * c2 k) * f k y) R = a * d2 * sumTo (fun k => c1 k * f k y) R + b * d1 * sumTo (fun k => c2 k * f k y) R := by
    rw [← sumTo_mul', ← sumTo_mul', ← sumTo_add]
    exact sumTo_congr R fun k _ => by grind
  rw [e1, ← hc1 y hy, ← hc2 y hy, show d1 * d2 * d * z y = d1 * d2 * (d * z y) by grind, e y hy]
  grind
theorem QS.zero (h : ∀ y, y < C → v y = 0) : QS R C f v := ⟨1, fun _ => 0, by decide, fun y hy => by
  rw [h y hy, sumTo_null R fun k _ => Int.zero_mul _]; rfl⟩
theorem QS.as {d : Int} (h : QS R C f u) (hd : d ≠ 0) (e : ∀ y, y < C → d * z y = u y) : QS R C f z :=
  h.lin h (a := 1) (b := 0) hd fun y hy => by rw [e y hy]; omega
theorem QS.sum {c : Nat → Int} {g : Fn2} : ∀ n, (∀ k, k < n → QS R C f (g k)) → QS R C f (fun y => sumTo (fun k => c k * g k y) n)
  | 0, _ => QS.zero fun _ _ => rfl
  | n + 1, h => (QS.sum (c := c) n fun k hk => h k (by omega)).lin (h n (by omega)) (a := 1) (b := c n) (d := 1) (by decide) fun y _ => by rw [sumTo_succ]; omega
theorem QS.trans (h : QS S C g v) (k : ∀ i, i < S → QS R C f (g i)) : QS R C f v := by
  obtain ⟨d, c, hd, hc⟩ := h
  exact (QS.sum (c := c) S k).as hd hc
/-- The rows of f and of g span one space. -/
def QSP (R S C : Nat) (f g : Fn2) : Prop := (∀ i, i < R → QS S C g (f i)) ∧ ∀ i, i < S → QS R C f (g i)
theorem QSP.refl (R C : Nat) (f : Fn2) : QSP R R C f f := ⟨fun i hi => QS.row hi, fun i hi => QS.row hi⟩
theorem QSP.symm (h : QSP R S C f g) : QSP S R C g f := ⟨h.2, h.1⟩
theorem QSP.trans {T : Nat} {h : Fn2} (a : QSP R S C f g) (b : QSP S T C g h) : QSP R T C f h := ⟨fun i hi => (a.1 i hi).trans b.1, fun i hi => (b.2 i hi).trans a.2⟩
theorem QSP.swap {i j : Nat} (hi : i < R) (hj : j < R) : QSP R R C f (swF f i j) := by
  have hx : ∀ x, x < R → (if x = i then j else if x = j then i else x) < R := fun x hx => by split; exact hj; split; exact hi; exact hx
  refine ⟨fun x hx' => ?_, fun x hx' => QS.row (f := f) (hx x hx')⟩
  have e : f x = swF f i j (if x = i then j else if x = j then i else x) := by
    funext y
    unfold swF
    grind
  rw [e]
  exact QS.row (hx x hx')
/-- Row i was turned into a multiple of itself and of row t, divided. -/
structure CMB (C : Nat) (f f' : Fn2) (i t : Nat) (d a b : Int) : Prop where
  d0 : d ≠ 0
  a0 : a ≠ 0
  at_ : ∀ c, c < C → d * f' i c = a * f i c + b * f t c
  other : ∀ x, x ≠ i → f' x = f x
theorem CMB.span {f' : Fn2} {i t : Nat} {d a b : Int} (h : CMB C f f' i t d a b) (hi : i < R) (ht : t < R) (hit : i ≠ t) : QSP R R C f f' := by
  have hT : QS R C f' (f t) := by rw [← h.other t (fun e => hit e.symm)]; exact QS.row ht
  refine ⟨fun x hx => ?_, fun x hx => ?_⟩
  · by_cases e : x = i
    · subst e
      exact (QS.row (f := f') hx).lin hT (a := d) (b := -b) h.a0 fun y hy => by rw [h.at_ y hy]; grind
    · rw [← h.other x e]; exact QS.row hx
  · by_cases e : x = i
    · subst e
      exact (QS.row (f := f) hx).lin (QS.row ht) h.d0 fun y hy => h.at_ y hy
    · rw [h.other x e]; exact QS.row hx
/-- Echelon form with the pivots p 0 .. p (r - 1), as far as C columns. -/
structure EF (R C r : Nat) (p : Nat → Nat) (f : Fn2) : Prop where
  le : r ≤ R
  lt : ∀ i, i < r → p i < C
  mono : ∀ i k, i < k → k < r → p i < p k
  left : ∀ i y, i < r → y < p i → f i y = 0
  ne : ∀ i, i < r → f i (p i) ≠ 0
  oth : ∀ i k, i < r → k < R → k ≠ i → f k (p i) = 0
  zero : ∀ i y, r ≤ i → i < R → y < C → f i y = 0
theorem EF.congr (H : EF R C r p f) (e : EqM R C g f) : EF R C r p g where
  le := H.le
  lt := H.lt
  mono := H.mono
  left := fun i y hi hy => by rw [e i y (Nat.lt_of_lt_of_le hi H.le) (Nat.lt_trans hy (H.lt i hi))]; exact H.left i y hi hy
  ne := fun i hi => by rw [e i (p i) (Nat.lt_of_lt_of_le hi H.le) (H.lt i hi)]; exact H.ne i hi
  oth := fun i k hi hk hne => by rw [e k (p i) hk (H.lt i hi)]; exact H.oth i k hi hk hne
  zero := fun i y h1 h2 h3 => by rw [e i y h2 h3]; exact H.zero i y h1 h2 h3
theorem EF.piv (H : EF R C r p f) (e : ∀ i, i < r → q i = p i) : EF R C r q f where
  le := H.le
  lt := fun i hi => by rw [e i hi]; exact H.lt i hi
  mono := fun i k hik hk => by rw [e i (by omega), e k hk]; exact H.mono i k hik hk
  left := fun i y hi hy => H.left i y hi (by rw [← e i hi]; exact hy)
  ne := fun i hi => by rw [e i hi]; exact H.ne i hi
  oth := fun i k hi hk hne => by rw [e i hi]; exact H.oth i k hi hk hne
  zero := H.zero
/-- The value at a pivot of a sum of rows. -/
theorem EF.at_ (H : EF R C r p f) {c : Nat → Int} {i : Nat} (hi : i < r) : sumTo (fun k => c k * f k (p i)) R = c i * f i (p i) :=
  sumTo_one R (Nat.lt_of_lt_of_le hi H.le) fun k hk hne => by rw [H.oth i k hi hk hne, Int.mul_zero]
/-- Where a vector of the space is 0 at a pivot, the coefficient is 0. -/
theorem EF.coef (H : EF R C r p f) {c : Nat → Int} {d : Int} (hv : ∀ y, y < C → d * v y = sumTo (fun k => c k * f k y) R) {i : Nat} (hi : i < r) (h0 : v (p i) = 0) : c i = 0 := by
  have := hv _ (H.lt i hi)
  rw [H.at_ hi, h0, Int.mul_zero] at this
  rcases Int.mul_eq_zero.1 this.symm with h | h
  · exact h
  · exact absurd h (H.ne i hi)
theorem EF.ind (H : EF R C r p f) : Ind r C f := fun z hz k hk => by
  have h1 := hz _ (H.lt k hk)
  rw [sumTo_one r hk (fun i hi hne => by rw [H.oth k i hk (Nat.lt_of_lt_of_le hi H.le) hne, Int.mul_zero])] at h1
  rcases Int.mul_eq_zero.1 h1 with h | h
  · exact h
  · exact absurd h (H.ne k hk)
theorem EF.next (H : EF R C r p f) (K : EF S C s q g) (hf : ∀ i, i < R → QS S C g (f i)) {i : Nat} (hi : i < r) (hs : i ≤ s) (hpq : ∀ k, k < i → p k = q k) : i < s ∧ q i ≤ p i := by
  have hiR := Nat.lt_of_lt_of_le hi H.le
  obtain ⟨d, c, hd, hc⟩ := hf i hiR
  have h0 : ∀ k, k < i → c k = 0 := fun k hk => K.coef hc (show k < s by omega) (by rw [← hpq k hk]; exact H.oth k i (by omega) hiR (by omega))
  have hz : ∀ y, y < C → (∀ k, k < S → i ≤ k → g k y = 0) → f i y = 0 := fun y hy h => by
    have e := hc y hy
    rw [sumTo_null S fun k hk => by
      rcases Nat.lt_or_ge k i with h1 | h1
      · rw [h0 k h1, Int.zero_mul]
      · rw [h k hk h1, Int.mul_zero]] at e
    rcases Int.mul_eq_zero.1 e with h1 | h1
    · exact absurd h1 hd
    · exact h1
  have his : i < s := by
    refine Nat.lt_of_not_le fun h => H.ne i hi (hz _ (H.lt i hi) fun k hk hik => K.zero k _ (by omega) hk (H.lt i hi))
  refine ⟨his, Nat.le_of_not_lt fun h => H.ne i hi (hz _ (H.lt i hi) fun k hk hik => ?_)⟩
  rcases Nat.lt_or_ge k s with h1 | h1
  · refine K.left k _ h1 ?_
    rcases Nat.lt_or_ge i k with h2 | h2
    · exact Nat.lt_trans h (K.mono i k h2 h1)
    · obtain rfl : k = i := by omega
      exact h
  · exact K.zero k _ h1 hk (H.lt i hi)
theorem EF.pivs (H : EF R C r p f) (K : EF S C s q g) (h : QSP R S C f g) : ∀ i, i ≤ r → i ≤ s ∧ ∀ k, k < i → p k = q k
  | 0, _ => ⟨Nat.zero_le _, fun k hk => absurd hk (Nat.not_lt_zero _)⟩
  | i + 1, hi => by
    obtain ⟨h1, h2⟩ := EF.pivs H K h i (by omega)
    obtain ⟨h3, h4⟩ := H.next K h.1 (show i < r by omega) h1 h2
    obtain ⟨-, h5⟩ := K.next H h.2 h3 (by omega) (fun k hk => (h2 k hk).symm)
    refine ⟨h3, fun k hk => ?_⟩
    rcases Nat.lt_or_ge k i with h6 | h6
    · exact h2 k h6
    · obtain rfl : k = i := by omega
      omega
/-- Two echelon forms of one space: as many rows, the same pivots, each row a multiple. -/
theorem EF.uniq (H : EF R C r p f) (K : EF S C s q g) (h : QSP R S C f g) : r = s ∧ (∀ k, k < r → p k = q k) ∧ ∀ i, i < r → ∃ d c : Int, d ≠ 0 ∧ c ≠ 0 ∧ ∀ y, y < C → d * f i y = c * g i y := by
  obtain ⟨h1, h2⟩ := H.pivs K h r (Nat.le_refl _)
  obtain ⟨h3, -⟩ := K.pivs H h.symm s (Nat.le_refl _)
  refine ⟨by omega, h2, fun i hi => ?_⟩
  have hiR := Nat.lt_of_lt_of_le hi H.le
  obtain ⟨d, c, hd, hc⟩ := h.1 i hiR
  have h0 : ∀ k, k < s → k ≠ i → c k = 0 := fun k hk hne => K.coef hc hk (by rw [← h2 k (by omega)]; exact H.oth k i (by omega) hiR (fun e => hne e.symm))
  have hv : ∀ y, y < C → d * f i y = c i * g i y := fun y hy => by
    rw [hc y hy]
    refine sumTo_one S (Nat.lt_of_lt_of_le (show i < s by omega) K.le) fun k hk hne => ?_
    rcases Nat.lt_or_ge k s with h4 | h4
    · rw [h0 k h4 hne, Int.zero_mul]
    · rw [K.zero k y h4 hk hy, Int.mul_zero]
  refine ⟨d, c i, hd, fun e => ?_, hv⟩
  have := hv _ (H.lt i hi)
  rw [e, Int.zero_mul] at this
  rcases Int.mul_eq_zero.1 this with h4 | h4
  · exact hd h4
  · exact H.ne i hi h4
end
/-- What divides all multiples divides the multiple of the divisor. -/
theorem gcdF_mul (c d : Int) (l : List Int) : ∀ a : Nat, d ∣ c * a → (∀ x ∈ l, d ∣ c * x) → d ∣ c * (l.foldl (fun (g : Nat) (x : Int) => Int.gcd g x) a : Nat) := by
  induction l with
  | nil => intro a h _; simpa using h
  | cons y l ih =>
    intro a h h2
    refine ih _ ?_ (fun x hx => h2 x (List.mem_cons_of_mem _ hx))
    have h3 : d ∣ (Int.gcd (c * a) (c * y) : Nat) := by
      have := Int.dvd_coe_gcd h (h2 y (List.mem_cons_self ..))
      exact this
    rw [Int.gcd_mul_left] at h3
    have h4 : ((c.natAbs * Int.gcd a y : Nat) : Int) ∣ c * (Int.gcd a y : Nat) := by
      rw [Int.natCast_mul]
      exact Int.mul_dvd_mul (Int.natAbs_dvd.2 (Int.dvd_refl c)) (Int.dvd_refl _)
    exact Int.dvd_trans h3 h4
theorem gcdL_mul {c d : Int} {l : List Int} (h : ∀ x ∈ l, d ∣ c * x) : d ∣ c * (gcdL l : Nat) := gcdF_mul c d l 0 (by simp) h
/-- Two primitive rows that are multiples of each other are equal. -/
theorem prim_uniq {l m : List Int} {d c : Int} (hl : primL l = l) (hm : primL m = m) (hlen : l.length = m.length) (hd : d ≠ 0) (hc : c ≠ 0) (e : ∀ k, k < l.length → d * l.getD k 0 = c * m.getD k 0) : l = m := by
  have hext : (∀ k, k < l.length → l.getD k 0 = m.getD k 0) → l = m := fun h => by
    refine List.ext_getElem hlen fun k h1 h2 => ?_
    have := h k h1
    simpa [List.getD, h1, h2] using this
  have hz : ∀ k, k < l.length → (l.getD k 0 = 0 ↔ m.getD k 0 = 0) := fun k hk => by
    have := e k hk
    constructor
    · intro h; rw [h, Int.mul_zero] at this
      rcases Int.mul_eq_zero.1 this.symm with h1 | h1
      · exact absurd h1 hc
      · exact h1
    · intro h; rw [h, Int.mul_zero] at this
      rcases Int.mul_eq_zero.1 this with h1 | h1
      · exact absurd h1 hd
      · exact h1
  rcases (primL_eq_iff l).1 hl with h0 | ⟨h1, h2⟩
  · refine hext fun k hk => ?_
    have h3 := gcdL_zero.1 h0 _ (mem_getD hk)
    rw [h3]; exact ((hz k hk).1 h3).symm
  · have hlt : fcN l < l.length := fcN_lt_iff.2 (by omega)
    have hfc : fcN m = fcN l := fcN_eq (by omega) (fun j hj => (hz j (by omega)).1 (fcN_zero l j hj)) (fun _ h => fcN_ne l hlt ((hz _ hlt).2 h))
    have hml : gcdL m ≠ 0 := fcN_lt_iff.1 (by omega)
    obtain ⟨m1, m2⟩ := ((primL_eq_iff m).1 hm).resolve_left hml
    have k1 : c ∣ d * (gcdL l : Nat) := gcdL_mul fun x hx => by
      obtain ⟨k, hk, rfl⟩ := List.mem_iff_getElem.1 hx
      have := e k hk
      rw [show l.getD k 0 = l[k] by simp [List.getD, hk]] at this
      rw [this]; exact Int.dvd_mul_right _ _
    have k2 : d ∣ c * (gcdL m : Nat) := gcdL_mul fun x hx => by
      obtain ⟨k, hk, rfl⟩ := List.mem_iff_getElem.1 hx
      have := e k (by omega)
      rw [show m.getD k 0 = m[k] by simp [List.getD, hk]] at this
      rw [← this]; exact Int.dvd_mul_right _ _
    rw [h1] at k1
    rw [m1] at k2
    have k3 : c ∣ d := by simpa using k1
    have k4 : d ∣ c := by simpa using k2
    have k5 : d.natAbs = c.natAbs := Nat.dvd_antisymm (Int.natAbs_dvd_natAbs.2 k4) (Int.natAbs_dvd_natAbs.2 k3)
    have k6 := e _ hlt
    have k7 := fcN_ne l hlt
    rw [hfc] at m2
    rcases (show d = c ∨ d = -c by omega) with k8 | k8
    · subst k8
      exact hext fun k hk => Int.eq_of_mul_eq_mul_left hd (e k hk)
    · exfalso
      subst k8
      have k9 : c * (m.getD (fcN l) 0 + l.getD (fcN l) 0) = 0 := by rw [Int.mul_add]; rw [Int.neg_mul] at k6; omega
      rcases Int.mul_eq_zero.1 k9 with k10 | k10
      · exact hc k10
      · omega
end Go.Proofs.Ytacjonkehcamgaa

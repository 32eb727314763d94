/-
  DERIVED. Several small texts in one: RIat, LawB, Unit, Smt, CopyS, Rowkit, Sq, PlLin, DoR, PlDet, Sm0, Drw, HermB, LeastS, RowB, DrL, PlSp, SmT.
-/
import Derived.Test.YtacjonkehcamgaaZS
import Derived.Test.YtacjonkehcamgaaMem
import Derived.Test.YtacjonkehcamgaaBase
import Derived.Test.YtacjonkehcamgaaIden
import Derived.Test.YtacjonkehcamgaaMatOps
import Derived.Test.YtacjonkehcamgaaAppend
import Derived.Test.YtacjonkehcamgaaCopy
import Derived.Deep.RegionLaw
import Derived.Test.YtacjonkehcamgaaRows
import Derived.ProofKit
import Derived.OpenShut
import Derived.Carry
import Derived.ChangeSame
import Derived.Lib.SmallJoins
import Derived.Deep.Slices
import Derived.Test.YtacjonkehcamgaaRow2
import Derived.Test.YtacjonkehcamgaaPlainN
import Derived.Test.YtacjonkehcamgaaOpsS
import Derived.Test.YtacjonkehcamgaaMx2
import Derived.Test.YtacjonkehcamgaaPlainO
import Derived.Test.YtacjonkehcamgaaOwn
import Derived.Test.YtacjonkehcamgaaAppend2
import Derived.Test.YtacjonkehcamgaaPlainH
import Derived.Test.YtacjonkehcamgaaElem
import Derived.Test.YtacjonkehcamgaaLeast
/-
  DERIVED. A cell of a slice that reads as a list.
-/
namespace Go.Proofs.Ytacjonkehcamgaa
open Go.RowKit
set_option linter.unusedVariables false
theorem RI.at_ {w : World} {B n b o k : Nat} {xs : List Int} (h : RI w B (some ⟨b, o, none⟩) n xs) (hk : k < n) : w.cell? ⟨b, o + k, none⟩ = some (.int .i64 (xs.getD k 0)) := by
  obtain ⟨b', o', e, _, hc⟩ := h.2 (by omega)
  injection e with e
  injection e with e1 e2 e3
  subst e1; subst e2
  exact hc k hk
end Go.Proofs.Ytacjonkehcamgaa

/-
  DERIVED. Small functions of the laws' own package: big, abs.
-/
namespace Go.Proofs.Ytacjonkehcamgaa
open Go.RowKit
set_option linter.unusedVariables false
set_option linter.unusedSimpArgs false
theorem laws_big (A : Option Addr) (n cap : Nat) (w : World) : Calls Try.prog 15 #[.slice A n cap] w (EV (.bool (decide (1048576 < n))) w) := by
  go_enter Try.func15, Try.ntmps15
  go_wp2
  go_ret
  exact EV.mk (vbool (by first | rfl | (simp; omega)))
theorem laws_abs (x : Int) (h1 : -4611686018427387904 ≤ x) (h2 : x ≤ 4611686018427387904) (w : World) : Calls Try.prog 71 #[.int .i64 x] w (EV (.int .i64 (x.natAbs : Nat)) w) := by
  go_enter Try.func71, Try.ntmps71
  go_wp2
  all_goals go_ret
  all_goals exact EV.mk (vint (by omega))
end Go.Proofs.Ytacjonkehcamgaa

/-
  DERIVED. The laws' unit: the identity matrix.
-/
namespace Go.Proofs.Ytacjonkehcamgaa
open Go.RowKit
set_option linter.unusedVariables false
set_option linter.unusedSimpArgs false
theorem laws_unit (n : Nat) (w : World) (hn : n ≤ 24) : Calls Try.prog 42 #[.int .i64 n] w (MR ⟨n, n, tb n n idF⟩ w) := by
  go_enter Try.func42, Try.ntmps42
  go_wp2_with fail
  refine (spec_IdentityMatrix n _ hn).mono ?_
  rintro e w1 ⟨A1, n1, c1, rfl, ho, hb1⟩
  have hs1 := hb1.size
  simp at hs1
  have hR : BM w1 w.heap.size 0 0 none 0 0 := Ka
  have hbw : Below w.heap.size w w1 := Kw
  have ho2 : OR w1 (w.heap.size + 1) (.slice A1 n1 c1) (tb n n idF) := OR.mono (xs := tb n n idF) ho (by simp)
  obtain ⟨ra, rb, rc, rf, rl⟩ := hR.mx
  have hvr := B3.of hR
  clear ho hb1
  go_wp2_with fail
  refine ret_M (b := w.heap.size) Try.results42 rfl (Kb hvr) rfl ?_
  exact MR.mk rfl (OR.mono (B := w.heap.size + 1) (Ko ho2) (by omega)) Kw
end Go.Proofs.Ytacjonkehcamgaa

/-
  DERIVED. SameMatrix of the program.
-/
namespace Go.Proofs.Ytacjonkehcamgaa
open Go.RowKit
set_option linter.unusedVariables false
set_option linter.unusedSimpArgs false
def sameB (r c : Int) (xs : List Int) (r2 c2 : Int) (ys : List Int) : Bool := decide (r = r2) && decide (c = c2) && eqB xs ys
theorem sameB_r {r c : Int} {xs : List Int} {r2 c2 : Int} {ys : List Int} (h : ¬ r = r2) : sameB r c xs r2 c2 ys = false := by simp [sameB, h]
theorem sameB_c {r c : Int} {xs : List Int} {r2 c2 : Int} {ys : List Int} (h : ¬ c = c2) : sameB r c xs r2 c2 ys = false := by simp [sameB, h]
theorem sameB_e {r c : Int} {xs ys : List Int} : sameB r c xs r c ys = eqB xs ys := by simp [sameB]
set_option maxRecDepth 100000 in
set_option maxHeartbeats 4000000 in
theorem impl_SameMatrix (r c r2 c2 : Int) (A A' : Option Addr) (n cap n' cap' : Nat) (xs ys : List Int) (w : World) {B B' : Nat} (h : RI w B A n xs) (h' : RI w B' A' n' ys) (hB : B ≤ w.heap.size) (hB' : B' ≤ w.heap.size) (hn : n ≤ 1048576) (hn' : n' ≤ 1048576) :
    Calls Try.prog 41 #[.agg #[.int .i64 r, .int .i64 c, .slice A n cap], .agg #[.int .i64 r2, .int .i64 c2, .slice A' n' cap']] w (BV (.bool (sameB r c xs r2 c2 ys)) w) := by
  have H2 := Lib.hid (h.more hB)
  have H3 := Lib.hid (h'.more hB')
  clear h h'
  by_cases hr : r = r2
  · subst hr
    by_cases hc : c = c2
    · subst hc
      have HE := Lib.hid (sameB_e (r := r) (c := c) (xs := xs) (ys := ys))
      go_enter Try.func41, Try.ntmps41
      go_wp2_with fail
      refine (slices_Equal A A' n n' cap cap' xs ys _ (C := w.heap.size) (C' := w.heap.size) (Kr H2.out) (Kr H3.out) (by omega) (by omega)).mono ?_
      rintro e w2 ⟨rfl, nd, rfl⟩
      go_wp2_with fail
      go_ret
      exact BV.mk (vbool (by rw [HE.out])) Kw
    · have HE := Lib.hid (sameB_c (r := r) (xs := xs) (r2 := r) (ys := ys) hc)
      have hb : (c == c2) = false := by simp [hc]
      clear hc
      go_enter Try.func41, Try.ntmps41
      go_wp2_with fail
      go_ret
      exact BV.mk (vbool (by rw [HE.out])) Kw
  · have HE := Lib.hid (sameB_r (c := c) (xs := xs) (c2 := c2) (ys := ys) hr)
    have hb : (r == r2) = false := by simp [hr]
    clear hr
    go_enter Try.func41, Try.ntmps41
    go_wp2_with fail
    go_ret
    exact BV.mk (vbool (by rw [HE.out])) Kw
end Go.Proofs.Ytacjonkehcamgaa

/-
  DERIVED. The contract of l3Copy.
-/
namespace Go.Proofs.Ytacjonkehcamgaa
open Go.RowKit
set_option linter.unusedVariables false
set_option maxHeartbeats 4000000 in
theorem spec_l3Copy (r c : Int) (A : Option Addr) (n cap : Nat) (xs : List Int) (w : World) {B : Nat} (h : RI w B A n xs) (hB : B ≤ w.heap.size) (hn : n ≤ 1048576) :
    Calls Try.prog 150 #[.agg #[.int .i64 r, .int .i64 c, .slice A n cap]] w (MV r c xs w) := by
  have H2 := Lib.hid (h.more hB)
  clear h
  go_enter Try.func150, Try.ntmps150
  go_wp2
  go_region_held3 (fun w' => w'.cell? ⟨w.heap.size, 0, none⟩ = some (.int .i64 r) ∧ w'.cell? ⟨w.heap.size, 1, none⟩ = some (.int .i64 c) ∧ w'.cell? ⟨w.heap.size, 2, none⟩ = some (.slice A n cap)) (first | go_keep | exact ⟨k00, k01, k02⟩) ((refine step_append_ints _ rfl (.tmp 7) (.tmp 9) rfl (w.heap.size + 1 + 1) _ [] rfl (by exact OR.drew (OR.empty' _ (w.heap.size + 1 + 1) (by simp) Ks)) w.heap.size A n cap xs rfl (Kr H2.out) (by first | omega | (simp; omega)) (by exact Ks) ?_; intro v1 w1 hown hgr hat; simp only [List.nil_append] at hown; go_loud (obtain ⟨g, cap1, rfl, hg1, hg2⟩ := hown.notNil hat); go_loud (have hb1 : Below (w.heap.size + 1 + 1) _ w1 := only_below hgr Ks (by intro g h; cases h; exact Nat.le_refl _)); obtain ⟨k0, f0, l0⟩ := bkeepB w.heap.size hb1 (by omega) Ks; obtain ⟨k1, f1, l1⟩ := bkeepB (w.heap.size + 1) hb1 (by omega) Ks; clear hgr hat; have k00 : w1.cell? ⟨w.heap.size, 0, none⟩ = some (.int .i64 r) := (k0 _).trans (by first | rfl | (simp [go_sem]; done)); have k01 : w1.cell? ⟨w.heap.size, 1, none⟩ = some (.int .i64 c) := (k0 _).trans (by first | rfl | (simp [go_sem]; done)); have k02 : w1.cell? ⟨w.heap.size, 2, none⟩ = some (.slice A n cap) := (k0 _).trans (by first | rfl | (simp [go_sem]; done)); have k10 : w1.cell? ⟨w.heap.size + 1, 0, none⟩ = some (.int .i64 0) := (k1 _).trans (by first | rfl | (simp [go_sem]; done)); have k11 : w1.cell? ⟨w.heap.size + 1, 1, none⟩ = some (.int .i64 0) := (k1 _).trans (by first | rfl | (simp [go_sem]; done)); have k12 : w1.cell? ⟨w.heap.size + 1, 2, none⟩ = some (.slice none 0 0) := (k1 _).trans (by first | rfl | (simp [go_sem]; done)); clear k0 k1))
  all_goals go_wp2
  all_goals (
    have hbw : Below w.heap.size w w1 := by
      refine Below.trans ?_ (hb1.mono (by omega))
      (repeat (first | (with_reducible (first | exact Below.refl _ _ | assumption | refine below_drewN ?_ _ | refine Below.drew ?_ | refine Below.alloc ?_ ?_ _ | refine Below.setCell ?_ ?_ _ | refine below_i ?_)) | go_size))
    refine bodyPost_ret (v := .agg #[.int .i64 r, .int .i64 c, .slice (some ⟨g, 0, none⟩) xs.length cap1]) (by simp [results, Try.results150, go_sem, k10, k11, k12]) rfl ?_
    refine ⟨some ⟨g, 0, none⟩, _, cap1, rfl, rfl, OR.mono (B := w.heap.size + 1 + 1) ?_ (by omega), Kw⟩
    have hown' : OR w1 (w.heap.size + 1 + 1) (.slice (some ⟨g, 0, none⟩) xs.length cap1) xs := by simpa using hown
    (with_reducible (repeat (first | exact hown' | refine OR.drew ?_ | refine OR.drewN ?_ _ | refine OR.alloc ?_ _ | refine OR.b_ ?_ | refine OR.l_ ?_)))
  )
end Go.Proofs.Ytacjonkehcamgaa

/-
  DERIVED. The last step from a law's contract to its row: arguments opened, 'post' closed under 'Below'.
-/
namespace Go.Proofs.Ytacjonkehcamgaa
open Go.ChangeShapes Go.WideShapes Go.ChangeAt Go.RowKit Go.Joins
set_option linter.unusedVariables false

theorem own : ownKnob Try.prog.godebug = none := by kernel_rfl
theorem laidOut : laidOutB Try.prog = true := by kernel_rfl

section
variable {H : Type} {enc : TypeId × Value → H} {P : Program}
/-- 'post' of a call that returned, and below whose first heap size nothing has turned. -/
theorem post_below {f : Func} {s : ChangeSpec} {apart fresh handsOn again : Bool} {W W' : World} {args : Array Value} {v : Value} {ds gs : List (DataW H)} {before pa pv : List MemPlace}
    (hW : DataW.Whole enc P f.params.toList s.vars apart W args.toList ds gs before)
    (hres : ∀ (b : Nat) (sp : Nat → Bool) (hd : Bool), DataW.TrodAll enc P W' b sp hd f.resultTypes.toList (v.resultList f.resultTypes.size) (s.fn H (ds ++ gs)).results [])
    (hargs : ∀ sp : Nat → Bool, (∀ p ∈ before, sp p.block = true) → DataW.TrodAll enc P W' 0 sp true f.params.toList args.toList (s.fn H (ds ++ gs)).args pa)
    (hvars : ∀ sp : Nat → Bool, (∀ p ∈ before, sp p.block = true) → DataW.TrodVars enc P W' sp s.vars (s.fn H (ds ++ gs)).vars pv)
    (hps : before = pa ++ pv) (hb : Below W.heap.size W W')
    (hok : ∀ (j : Nat) (t : TypeId) (r : Value), f.resultTypes[j]? = some t → (v.resultList f.resultTypes.size)[j]? = some r → Value.okWide P W' .any 0 t r) :
    s.post enc P f apart fresh handsOn again W args v W' := by
  have hlt : ∀ p ∈ before, p.block < W.heap.size := fun p hp => hW.lt p hp
  have hold : ∀ p ∈ before, (fun b => decide (b < W.heap.size)) p.block = true := fun p hp => by simpa using hlt p hp
  refine ⟨ds, gs, before, [], pa, pv, hW, hres _ _ _, hargs _ hold, hvars _ hold, World.keptBut_mono (fun p hp => ⟨hp, ?_⟩) (hb.frame (· ∈ before)), fun _ => ?_⟩
  · rw [hps, List.mem_append] at hp
    exact Or.inr hp
  · obtain ⟨_, _, _, _, _, hz, hn⟩ := hW
    refine ⟨hok, _, _, ([] ++ pa) ++ pv, ⟨[] ++ pa, pv, trodAll_append (hargs _ (fun _ _ => rfl)) (hres _ _ _), hvars _ (fun _ _ => rfl), rfl, ?_, ?_⟩, ?_⟩
    · intro b off hp
      have hin : MemPlace.cell b off ∈ before := by rw [hps]; simpa using hp
      rw [hb.frozen (hlt _ hin)]
      exact hz b off hin
    · intro ha
      have := hn ha
      rw [hps] at this
      simpa using this
    · intro p hp _
      rw [hps]
      simpa using hp
/-- An argument reads behind the call as it read before it, whatever spare cells are asked for among the old places. -/
theorem same_arg {t : TypeId} (hl : laidOutB P = true) (hr : P.readableRec t = true) (hrow : t < P.types.size) {W W' : World} {v : Value} {d : DataW H} {ps : List MemPlace}
    (h : DataW.Trod enc P W 0 (fun _ => true) true t v d ps) (hb : Below W.heap.size W W') (hlt : ∀ x ∈ ps, x.block < W.heap.size) (sp : Nat → Bool) (hsp : ∀ x ∈ ps, sp x.block = true) :
    DataW.Trod enc P W' 0 sp true t v d ps :=
  WideElems.Trod_stays hl hr hrow h (fun x hx => hb.same (hlt x hx)) hsp
/-- A slice of ints, read. -/
theorem reads_ints {w : World} {base : Nat} {spare : Nat → Bool} {held : Bool} {t e : TypeId} {fuel : Nat} {v : Value} {x : DataW H × List MemPlace}
    (ht : P.underlying t = some (.slice e)) (he : P.underlying e = some (.int .i64)) (hc : P.cellsOf e = 1) (h : DataW.trod enc P w base spare held fuel t [v] = some x)
    (hlt : ∀ p ∈ x.2, p.block < w.heap.size) :
    ∃ A n cap xs, v = .slice A n cap ∧ n ≤ cap ∧ cap ≤ maxLen ∧ RI w w.heap.size A n xs ∧ ∀ z ∈ xs, (Lit.int .i64 z).wf = true := by
  rcases open_ints ht he hc h with ⟨hcs, hx⟩ | ⟨a, len, cap, zs, hcs, hb, hl, hm, hz, hx, hcell, hwf⟩
  · injection hcs with hv
    exact ⟨none, 0, 0, [], hv, Nat.le_refl _, by unfold maxLen; omega, RI.nil_ _ _ _, by simp⟩
  · injection hcs with hv
    have hzl : len ≤ zs.length := by rw [hz]; split <;> omega
    refine ⟨some a, len, cap, zs.take len, hv, hl, hm, ⟨by simp; omega, fun hn => ?_⟩, fun z hz => hwf z (List.mem_of_mem_take hz)⟩
    obtain ⟨b, off, rfl, hc'⟩ := ints_at hcell (by omega)
    refine ⟨b, off, rfl, ?_, fun k hk => ?_⟩
    · have h0 : MemPlace.cell b off ∈ x.2 := by
        rw [hx]
        simp only [MemPlace.row, List.mem_map, List.mem_range]
        exact ⟨0, by omega, rfl⟩
      exact hlt _ h0
    · rw [hc' k (by omega)]
      simp [List.getD, hk]
end
theorem wf_bounds {x : Int} (h : (Lit.int .i64 x).wf = true) : -9223372036854775808 ≤ x ∧ x ≤ 9223372036854775807 := by
  simpa [Lit.wf, IntKind.min, IntKind.max, IntKind.signed, IntKind.bits] using h
end Go.Proofs.Ytacjonkehcamgaa

/-
  DERIVED. The contracts of IsSquare, both; sums of rows.
-/
namespace Go.Proofs.Ytacjonkehcamgaa
open Go.RowKit
set_option linter.unusedVariables false
theorem sq_cases (r c : Int) (xs : List Int) : (isMat r c xs = false ∧ isSq r c xs = false) ∨ (isMat r c xs = true ∧ (r == c) = false ∧ isSq r c xs = false) ∨
    (isMat r c xs = true ∧ (r == c) = true ∧ 6 < r ∧ isSq r c xs = false) ∨ (isMat r c xs = true ∧ (r == c) = true ∧ r ≤ 6 ∧ isSq r c xs = true) := by
  unfold isSq
  rcases hm : isMat r c xs with _ | _
  · left; simp
  · right
    by_cases hrc : r = c
    · right
      by_cases h6 : 6 < r
      · left; simp [hrc] at *; omega
      · right; simp [hrc] at *; omega
    · left; simp [hrc]
theorem impl_IsSquare (r c : Int) (A : Option Addr) (n cap : Nat) (xs : List Int) (w : World) {B : Nat} (h : RI w B A n xs) (hB : B ≤ w.heap.size) (hn : n ≤ 1048576) :
    Calls Try.prog 162 #[.agg #[.int .i64 r, .int .i64 c, .slice A n cap]] w (BV (.bool (isSq r c xs)) w) := by
  have H2 := Lib.hid (h.more hB)
  clear h
  rcases sq_cases r c xs with ⟨hm, hr⟩ | ⟨hm, h1, hr⟩ | ⟨hm, h1, h2, hr⟩ | ⟨hm, h1, h2, hr⟩
  all_goals
    rw [hr]
    have HM := Lib.hid hm
    clear hm hr
    go_enter Try.func162, Try.ntmps162
    go_wp2_with (first | (go_at_call 103; refine (impl_IsMatrix r c A n cap xs _ (C := w.heap.size) (Kr H2.out) Ks hn).mono ?_; rw [HM.out]; rintro e w1 ⟨rfl, hb⟩; have hz := hb.size; (try simp at hz); have kk := bkeep (w := w) hb Ks; obtain ⟨kc, kf⟩ := kk; (try (have kk := bkeepb (w.heap.size) hb Ks; obtain ⟨kc0, kf0, kl0⟩ := kk)); (try (have kk := bkeepb (w.heap.size + 1) hb Ks; obtain ⟨kc1, kf1, kl1⟩ := kk)); (try (have kk := bkeepb (w.heap.size + 1 + 1) hb Ks; obtain ⟨kc2, kf2, kl2⟩ := kk)); (try (have kk := bkeepb (w.heap.size + 1 + 1 + 1) hb Ks; obtain ⟨kc3, kf3, kl3⟩ := kk)); (try (have kk := bkeepb (wr.heap.size) hb Ks; obtain ⟨kr0, ks0, kt0⟩ := kk)); (try (have kk := bkeepb (wr.heap.size + 1) hb Ks; obtain ⟨kr1, ks1, kt1⟩ := kk)); (try (have kk := bkeepb (wr.heap.size + 1 + 1) hb Ks; obtain ⟨kr2, ks2, kt2⟩ := kk))))
    go_ret
    first | exact BV.mk rfl Kw | exact BV.mk (vbool (show decide (r ≤ 6) = _ by simp; omega)) Kw
theorem spec_IsSquare (r c : Int) (A : Option Addr) (n cap : Nat) (xs : List Int) (w : World) {B : Nat} (h : RI w B A n xs) (hB : B ≤ w.heap.size) (hn : n ≤ 1048576) :
    Calls Try.prog 163 #[.agg #[.int .i64 r, .int .i64 c, .slice A n cap]] w (BV (.bool (isSq r c xs)) w) := by
  have H2 := Lib.hid (h.more hB)
  clear h
  rcases sq_cases r c xs with ⟨hm, hr⟩ | ⟨hm, h1, hr⟩ | ⟨hm, h1, h2, hr⟩ | ⟨hm, h1, h2, hr⟩
  all_goals
    rw [hr]
    have HM := Lib.hid hm
    clear hm hr
    go_enter Try.func163, Try.ntmps163
    go_wp2_with (first | (go_at_call 107; refine (spec_IsMatrix r c A n cap xs _ (C := w.heap.size) (Kr H2.out) Ks hn).mono ?_; rw [HM.out]; rintro e w1 ⟨rfl, hb⟩; have hz := hb.size; (try simp at hz); have kk := bkeep (w := w) hb Ks; obtain ⟨kc, kf⟩ := kk; (try (have kk := bkeepb (w.heap.size) hb Ks; obtain ⟨kc0, kf0, kl0⟩ := kk)); (try (have kk := bkeepb (w.heap.size + 1) hb Ks; obtain ⟨kc1, kf1, kl1⟩ := kk)); (try (have kk := bkeepb (w.heap.size + 1 + 1) hb Ks; obtain ⟨kc2, kf2, kl2⟩ := kk)); (try (have kk := bkeepb (w.heap.size + 1 + 1 + 1) hb Ks; obtain ⟨kc3, kf3, kl3⟩ := kk)); (try (have kk := bkeepb (wr.heap.size) hb Ks; obtain ⟨kr0, ks0, kt0⟩ := kk)); (try (have kk := bkeepb (wr.heap.size + 1) hb Ks; obtain ⟨kr1, ks1, kt1⟩ := kk)); (try (have kk := bkeepb (wr.heap.size + 1 + 1) hb Ks; obtain ⟨kr2, ks2, kt2⟩ := kk))))
    go_ret
    first | exact BV.mk rfl Kw | exact BV.mk (vbool (show decide (r ≤ 6) = _ by simp; omega)) Kw
structure IsS (r c : Int) (xs : List Int) : Prop where
  m : IsM r c xs
  e : r = c
  le : r ≤ 6
theorem isSq_iff {r c : Int} {xs : List Int} : isSq r c xs = true ↔ IsS r c xs := by
  simp only [isSq, Bool.and_eq_true, decide_eq_true_eq, isMat_iff]
  exact ⟨fun ⟨⟨h1, h2⟩, h3⟩ => ⟨h1, h2, h3⟩, fun ⟨h1, h2, h3⟩ => ⟨⟨h1, h2⟩, h3⟩⟩
/-- The sum of the absolute values of the first j numbers. -/
def absSum (l : List Int) : Nat → Int
  | 0 => 0
  | j + 1 => absSum l j + (l.getD j 0).natAbs
theorem absSum_bd {l : List Int} (h : ∀ k, -400000000 ≤ l.getD k 0 ∧ l.getD k 0 ≤ 400000000) : ∀ j : Nat, 0 ≤ absSum l j ∧ absSum l j ≤ 400000000 * j
  | 0 => by simp [absSum]
  | j + 1 => by
    have h1 := absSum_bd h j
    have h2 := h j
    unfold absSum
    omega
theorem absSum_mono {l : List Int} (h : ∀ k, -400000000 ≤ l.getD k 0 ∧ l.getD k 0 ≤ 400000000) (j : Nat) : absSum l j ≤ absSum l (j + 1) := by
  show _ ≤ absSum l j + _
  omega
/-- The product of the sums, while all stays within the limit. -/
def bndI (p : Int) : List Int → Option Int
  | [] => some p
  | s :: l => if isNum s = true ∧ isNum (p * s) = true then bndI (p * s) l else none
def rowSums (xs : List Int) (C : Nat) (R : Nat) : List Int := (List.range R).map fun i => absSum (rowL xs C i) C
def bndRes (r c : Int) (xs : List Int) : Option Int := if isSq r c xs then bndI 1 (rowSums xs c.toNat r.toNat) else none
def optV : Option Int → Value
  | none => .tuple #[.int .i64 0, .bool false]
  | some n => .tuple #[.int .i64 n, .bool true]
theorem rowSums_drop {xs : List Int} {C R i : Nat} (h : i < R) : (rowSums xs C R).drop i = absSum (rowL xs C i) C :: (rowSums xs C R).drop (i + 1) := by
  rw [List.drop_eq_getElem_cons (by simp [rowSums]; exact h)]
  simp [rowSums]
theorem rowSums_end (xs : List Int) (C R : Nat) : (rowSums xs C R).drop R = [] := by
  apply List.drop_of_length_le; simp [rowSums]
end Go.Proofs.Ytacjonkehcamgaa

/-
  DERIVED. Sums and products of matrices as functions of row and column: no program in sight.
-/
namespace Go.Proofs.Ytacjonkehcamgaa
set_option linter.unusedVariables false
theorem sumTo_succ (f : Nat → Int) (n : Nat) : sumTo f (n + 1) = sumTo f n + f n := rfl
theorem sumTo_zero' (f : Nat → Int) : sumTo f 0 = 0 := rfl
theorem sumTo_congr {f g : Nat → Int} : ∀ n, (∀ k, k < n → f k = g k) → sumTo f n = sumTo g n
  | 0, _ => rfl
  | n + 1, h => by rw [sumTo_succ, sumTo_succ, sumTo_congr n (fun k hk => h k (by omega)), h n (by omega)]
theorem sumTo_add (f g : Nat → Int) : ∀ n, sumTo (fun k => f k + g k) n = sumTo f n + sumTo g n
  | 0 => rfl
  | n + 1 => by rw [sumTo_succ, sumTo_succ, sumTo_succ, sumTo_add f g n]; omega
theorem sumTo_mul (f : Nat → Int) (t : Int) : ∀ n, sumTo (fun k => f k * t) n = sumTo f n * t
  | 0 => by rw [sumTo_zero', sumTo_zero', Int.zero_mul]
  | n + 1 => by rw [sumTo_succ, sumTo_succ, sumTo_mul f t n, Int.add_mul]
theorem sumTo_mul' (f : Nat → Int) (t : Int) (n : Nat) : sumTo (fun k => t * f k) n = t * sumTo f n := by
  rw [Int.mul_comm, ← sumTo_mul]
  exact sumTo_congr n fun k _ => Int.mul_comm _ _
theorem sumTo_neg (f : Nat → Int) : ∀ n, sumTo (fun k => -f k) n = -sumTo f n
  | 0 => rfl
  | n + 1 => by rw [sumTo_succ, sumTo_succ, sumTo_neg f n]; omega
theorem sumTo_sub (f g : Nat → Int) (n : Nat) : sumTo (fun k => f k - g k) n = sumTo f n - sumTo g n := by
  have h := sumTo_add f (fun k => -g k) n
  rw [sumTo_neg] at h
  rw [Int.sub_eq_add_neg, ← h]
  exact sumTo_congr n fun k _ => Int.sub_eq_add_neg
theorem sumTo_null {f : Nat → Int} (n : Nat) (h : ∀ k, k < n → f k = 0) : sumTo f n = 0 := by
  induction n with
  | zero => rfl
  | succ n ih => rw [sumTo_succ, ih (fun k hk => h k (by omega)), h n (by omega)]; rfl
/-- One summand only. -/
theorem sumTo_one {f : Nat → Int} {i : Nat} : ∀ n, i < n → (∀ k, k < n → k ≠ i → f k = 0) → sumTo f n = f i
  | 0, hi, _ => absurd hi (Nat.not_lt_zero _)
  | n + 1, hi, h => by
    rw [sumTo_succ]
    by_cases e : i = n
    · subst e
      rw [sumTo_null i (fun k hk => h k (by omega) (by omega)), Int.zero_add]
    · rw [sumTo_one n (by omega) (fun k hk hne => h k (by omega) hne), h n (by omega) (fun e2 => e e2.symm), Int.add_zero]
theorem sumTo_swap (f : Nat → Nat → Int) (m : Nat) : ∀ n, sumTo (fun i => sumTo (fun j => f i j) m) n = sumTo (fun j => sumTo (fun i => f i j) n) m
  | 0 => by
    rw [sumTo_zero']
    exact (sumTo_null m fun k _ => rfl).symm
  | n + 1 => by
    rw [sumTo_succ, sumTo_swap f m n, ← sumTo_add]
    rfl
/-- The product over n places. -/
def mm (n : Nat) (f g : Fn2) : Fn2 := fun i j => sumTo (fun k => f i k * g k j) n
/-- A matrix times a column. -/
def mv (n : Nat) (f : Fn2) (z : Nat → Int) : Nat → Int := fun i => sumTo (fun k => f i k * z k) n
theorem mm_assoc (n m : Nat) (f g h : Fn2) (i j : Nat) : mm n (mm m f g) h i j = mm m f (mm n g h) i j := by
  unfold mm
  have e1 : ∀ k, sumTo (fun l => f i l * g l k) m * h k j = sumTo (fun l => f i l * g l k * h k j) m := fun k => (sumTo_mul _ _ _).symm
  have e2 : ∀ l, f i l * sumTo (fun k => g l k * h k j) n = sumTo (fun k => f i l * g l k * h k j) n := fun l => by
    rw [← sumTo_mul']
    exact sumTo_congr n fun k _ => by rw [Int.mul_assoc]
  rw [sumTo_congr n (fun k _ => e1 k), sumTo_congr m (fun l _ => e2 l), sumTo_swap]
theorem mv_mm (n m : Nat) (f g : Fn2) (z : Nat → Int) (i : Nat) : mv n (mm m f g) z i = mv m f (mv n g z) i := mm_assoc n m f g (fun k _ => z k) i 0
theorem mv_congr {n : Nat} {f g : Fn2} {y z : Nat → Int} {i : Nat} (h : ∀ k, k < n → f i k = g i k) (h2 : ∀ k, k < n → y k = z k) : mv n f y i = mv n g z i :=
  sumTo_congr n fun k hk => by rw [h k hk, h2 k hk]
theorem mv_sub (n : Nat) (f : Fn2) (y z : Nat → Int) (i : Nat) : mv n f (fun k => y k - z k) i = mv n f y i - mv n f z i := by
  unfold mv
  rw [← sumTo_sub]
  exact sumTo_congr n fun k _ => by rw [Int.mul_sub]
/-- Equal in R rows of C cells. -/
def EqM (R C : Nat) (f g : Fn2) : Prop := ∀ i j, i < R → j < C → f i j = g i j
/-- No column but that of zeros is taken to zeros. -/
def INJ (R : Nat) (g : Fn2) : Prop := ∀ z : Nat → Int, (∀ i, i < R → mv R g z i = 0) → ∀ k, k < R → z k = 0
theorem INJ.eq {R : Nat} {g : Fn2} (h : INJ R g) {y z : Nat → Int} (e : ∀ i, i < R → mv R g y i = mv R g z i) : ∀ k, k < R → y k = z k := fun k hk => by
  have := h (fun k => y k - z k) (fun i hi => by rw [mv_sub, e i hi, Int.sub_self]) k hk
  omega
theorem mv_id {R : Nat} (z : Nat → Int) {i : Nat} (hi : i < R) : mv R idF z i = z i := by
  unfold mv
  rw [sumTo_one R hi]
  · unfold idF; rw [if_pos rfl, Int.one_mul]
  · intro k hk hne
    unfold idF
    rw [if_neg (fun e => hne e.symm), Int.zero_mul]
theorem INJ.id (R : Nat) : INJ R idF := fun z h k hk => by rw [← mv_id z hk]; exact h k hk
-- operations on rows
theorem mv_add {R i j : Nat} {t : Int} {g g' : Fn2} (h1 : ∀ y, y < R → g' i y = g i y + g j y * t) (z : Nat → Int) : mv R g' z i = mv R g z i + mv R g z j * t := by
  unfold mv
  rw [← sumTo_mul, ← sumTo_add]
  exact sumTo_congr R fun k hk => by rw [h1 k hk]; grind
theorem INJ.add {R i j : Nat} {t : Int} {g g' : Fn2} (h : INJ R g) (hi : i < R) (hj : j < R) (hij : i ≠ j) (h1 : ∀ y, y < R → g' i y = g i y + g j y * t) (h2 : ∀ x y, x < R → y < R → x ≠ i → g' x y = g x y) : INJ R g' := fun z hz => by
  have e : ∀ x, x < R → x ≠ i → mv R g z x = 0 := fun x hx hne => by
    rw [← hz x hx]
    exact mv_congr (fun k hk => (h2 x k hx hk hne).symm) (fun _ _ => rfl)
  refine h z fun x hx => ?_
  by_cases hxi : x = i
  · subst hxi
    have := mv_add h1 z
    rw [hz x hx, e j hj (fun e => hij e.symm), Int.zero_mul, Int.add_zero] at this
    exact this.symm
  · exact e x hx hxi
theorem INJ.swap {R p t : Nat} {g : Fn2} (h : INJ R g) (hp : p < R) (ht : t < R) : INJ R (swF g p t) := fun z hz => by
  refine h z fun x hx => ?_
  by_cases h1 : x = p
  · subst h1
    rw [← hz t ht]
    exact sumTo_congr R fun k hk => by rw [swF_t]
  · by_cases h2 : x = t
    · subst h2
      rw [← hz p hp]
      refine sumTo_congr R fun k hk => ?_
      have e : swF g p x p k = g x k := by unfold swF; rw [if_pos rfl]
      rw [e]
    · rw [← hz x hx]
      refine mv_congr (fun k hk => ?_) (fun _ _ => rfl)
      unfold swF
      rw [if_neg h1, if_neg h2]
theorem INJ.neg {R i : Nat} {g g' : Fn2} (h : INJ R g) (h1 : ∀ y, y < R → g' i y = -g i y) (h2 : ∀ x y, x < R → y < R → x ≠ i → g' x y = g x y) : INJ R g' := fun z hz => by
  refine h z fun x hx => ?_
  by_cases hxi : x = i
  · subst hxi
    have e : mv R g' z x = -mv R g z x := by
      unfold mv
      rw [← sumTo_neg]
      exact sumTo_congr R fun k hk => by rw [h1 k hk, Int.neg_mul]
    rw [hz x hx] at e
    omega
  · rw [← hz x hx]
    exact mv_congr (fun k hk => (h2 x k hx hk hxi).symm) (fun _ _ => rfl)
end Go.Proofs.Ytacjonkehcamgaa

/-
  DERIVED. One operation on rows, of the reference: IsRowOp, DoRowOp, where a multiple of a row is added.
-/
namespace Go.Proofs.Ytacjonkehcamgaa
open Go.RowKit
set_option linter.unusedVariables false
set_option linter.unusedSimpArgs false
set_option maxRecDepth 100000 in
set_option maxHeartbeats 4000000 in
theorem spec_IsRowOp_add (R i j : Nat) (t : Int) (w : World) (hi : i < R) (hj : j < R) (hij : i ≠ j) (ht : Num t) (hR : R ≤ 24) :
    Calls Try.prog 211 #[.agg #[.int .i64 2, .int .i64 i, .int .i64 j, .int .i64 t], .int .i64 R] w (BV (.bool true) w) := by
  obtain ⟨t1, t2⟩ := ht
  have hne : ((j : Int) != (i : Int)) = true := by simp; omega
  go_enter Try.func211, Try.ntmps211
  go_wp2_with (first | (go_at_call 154; (first | refine (spec_l1In_yes _ _ _ _ (by omega)).mono ?_ | refine (spec_l1In_no _ _ _ _ (by omega)).mono ?_ | refine (spec_l1In _ _ _ _).mono ?_); rintro e w' ⟨rfl, rfl⟩) | (go_at_call 194; (first | refine (spec_IsNumber_yes _ _ (by omega)).mono ?_ | refine (spec_IsNumber_no _ _ (by omega)).mono ?_ | refine (spec_IsNumber _ _).mono ?_); rintro e w' ⟨rfl, rfl⟩))
  go_ret
  exact BV.mk rfl Kw
set_option maxRecDepth 100000 in
set_option maxHeartbeats 8000000 in
theorem spec_DoRowOp_add (R C i j : Nat) (t : Int) (A : Option Addr) (n cap : Nat) (f : Fn2) (w : World) {B : Nat} (h : RI w B A n (tb R C f)) (hB : B ≤ w.heap.size) (hm : isMat R C (tb R C f) = true) (hnb : NBF f) (hi : i < R) (hj : j < R) (hij : i ≠ j) (ht : Num t) (hm2 : isMat R C (tb R C (opA f i j t)) = true) (hC0 : 0 < C) (hR : R ≤ 24) (hC : C ≤ 24) :
    Calls Try.prog 152 #[.agg #[.int .i64 R, .int .i64 C, .slice A n cap], .agg #[.int .i64 2, .int .i64 i, .int .i64 j, .int .i64 t]] w (MBR ⟨R, C, tb R C (opA f i j t)⟩ true w) := by
  have hln := h.len
  rw [tb_len] at hln
  have hRC : R * C ≤ 24 * 24 := Nat.mul_le_mul hR hC
  have hn : n ≤ 1048576 := by omega
  have H2 := Lib.hid (h.more hB)
  have HM := Lib.hid hm
  have HM2 := Lib.hid hm2
  have HNB := Lib.hid hnb
  clear h hm hm2 hnb hln
  go_enter Try.func152, Try.ntmps152
  go_wp2_with fail
  refine (spec_IsMatrix R C A n cap (tb R C f) _ (C := w.heap.size) (Kr H2.out) Ks hn).mono ?_
  rw [HM.out]
  rintro e w1 ⟨rfl, hb1⟩
  have hs1 := hb1.size
  simp at hs1
  have hM : BM w1 w.heap.size R C A n cap := Ka
  have hX : Blk w1 (w.heap.size + 1) 66 #[.int .i64 2, .int .i64 i, .int .i64 j, .int .i64 t] := by (with_reducible (repeat (first | assumption | refine Blk.new_at _ _ _ _ Ks | refine Blk.below ?_ (by assumption) Ks | apply Blk.drew | apply Blk.drewN | refine Blk.far ?_ (by simp only [ne_eq]; omega) _ | apply Blk.alloc)))
  have hRS : BM w1 (w.heap.size + 1 + 1) 0 0 none 0 0 := Ka
  have hbw : Below w.heap.size w w1 := Kw
  clear hb1
  obtain ⟨ma, mb, mc, mf, ml⟩ := hM.mx
  have xa := hX.cell 0
  have xb := hX.cell 1
  have xc := hX.cell 2
  have xd := hX.cell 3
  have xf := hX.frozen
  have xl := hX.lt
  simp at xa xb xc xd
  go_wp2_with fail
  refine (spec_IsRowOp_add R i j t _ hi hj hij ht hR).mono ?_
  rintro e w2 ⟨rfl, hb2⟩
  have hszw2 := hb2.size; (try simp at hszw2); have hM_1 : BM w2 w.heap.size R C A n cap := (Kb hM); have hX_1 : Blk w2 (w.heap.size + 1) 66 #[.int .i64 2, .int .i64 i, .int .i64 j, .int .i64 t] := (by (with_reducible (repeat (first | exact hX | refine Blk.below ?_ (by assumption) Ks | apply Blk.drew | apply Blk.drewN | apply Blk.alloc | apply Blk.set_ | apply Blk.far; rotate_left; (simp only [ne_eq]; omega); rotate_right)))); have hR_1 : BM w2 (w.heap.size + 1 + 1) 0 0 none 0 0 := (Kb hRS); have hbw_1 : Below w.heap.size w w2 := Kw; clear hM hX hRS hbw ma mb mc mf ml xa xb xc xd xf xl; have hM := hM_1; have hX := hX_1; have hRS := hR_1; have hbw := hbw_1; clear hM_1 hX_1 hR_1 hbw_1; obtain ⟨ma, mb, mc, mf, ml⟩ := hM.mx; have xa := hX.cell 0; have xb := hX.cell 1; have xc := hX.cell 2; have xd := hX.cell 3; have xf := hX.frozen; have xl := hX.lt; simp at xa xb xc xd
  go_wp2_with fail
  refine (spec_l3Copy R C A n cap (tb R C f) _ (B := w.heap.size) (Kr H2.out) Ks hn).mono ?_
  rintro e w3 ⟨A3, n3, c3, rfl, -, ho3, hb3⟩
  have hoc : OR w3 (w.heap.size + 1 + 1 + 1) (.slice A3 n3 c3) (tb R C f) := OR.mono (xs := tb R C f) ho3 Ks
  clear ho3
  have hszw3 := hb3.size; (try simp at hszw3); have hM_1 : BM w3 w.heap.size R C A n cap := (Kb hM); have hX_1 : Blk w3 (w.heap.size + 1) 66 #[.int .i64 2, .int .i64 i, .int .i64 j, .int .i64 t] := (by (with_reducible (repeat (first | exact hX | refine Blk.below ?_ (by assumption) Ks | apply Blk.drew | apply Blk.drewN | apply Blk.alloc | apply Blk.set_ | apply Blk.far; rotate_left; (simp only [ne_eq]; omega); rotate_right)))); have hR_1 : BM w3 (w.heap.size + 1 + 1) 0 0 none 0 0 := (Kb hRS); have hbw_1 : Below w.heap.size w w3 := Kw; clear hM hX hRS hbw ma mb mc mf ml xa xb xc xd xf xl; have hM := hM_1; have hX := hX_1; have hRS := hR_1; have hbw := hbw_1; clear hM_1 hX_1 hR_1 hbw_1; obtain ⟨ma, mb, mc, mf, ml⟩ := hM.mx; have xa := hX.cell 0; have xb := hX.cell 1; have xc := hX.cell 2; have xd := hX.cell 3; have xf := hX.frozen; have xl := hX.lt; simp at xa xb xc xd
  have hO : BM (w3.alloc (.cells #[.int .i64 R, .int .i64 C, .slice A3 n3 c3] 26)) w3.heap.size R C A3 n3 c3 := Ka
  have hoc2 : OR (w3.alloc (.cells #[.int .i64 R, .int .i64 C, .slice A3 n3 c3] 26)) (w.heap.size + 1 + 1 + 1) (.slice A3 n3 c3) (tb R C f) := hoc.alloc _
  have HOW := Lib.hid hoc.own
  have hn3 := hoc.lenEq
  rw [tb_len] at hn3
  have hn3' : n3 ≤ 1048576 := by omega
  obtain ⟨oa, ob, oc, of, ol⟩ := hO.mx
  clear hoc hn3
  go_wp2_with fail
  refine (spec_l5Do_add R C i j t A3 n3 c3 f _ (B := w.heap.size + 1 + 1 + 1) (Ko hoc2) hi hj hij ht HNB.out hC0 hC hR).mono ?_
  rintro e w4 ⟨rfl, ho4, hg4, hsz4⟩
  simp at hsz4
  have kM : BM w4 w.heap.size R C A n cap := BX.grown (Kb hM) hg4 (fun e => by have := (HOW.out _ e.symm).1; omega)
  have kX : Blk w4 (w.heap.size + 1) 66 #[.int .i64 2, .int .i64 i, .int .i64 j, .int .i64 t] := Blk.grown (by (with_reducible (repeat (first | exact hX | refine Blk.below ?_ (by assumption) Ks | apply Blk.drew | apply Blk.drewN | apply Blk.alloc | apply Blk.set_ | apply Blk.far; rotate_left; (simp only [ne_eq]; omega); rotate_right)))) hg4 (fun e => by have := (HOW.out _ e.symm).1; omega)
  have kR : BM w4 (w.heap.size + 1 + 1) 0 0 none 0 0 := BX.grown (Kb hRS) hg4 (fun e => by have := (HOW.out _ e.symm).1; omega)
  have kO : BM w4 w3.heap.size R C A3 n3 c3 := BX.grown (Kb hO) hg4 (fun e => by have := (HOW.out _ e.symm).2; omega)
  have kb : Below w.heap.size w w4 := Below.trans (show Below w.heap.size w (w3.alloc (.cells #[.int .i64 R, .int .i64 C, .slice A3 n3 c3] 26)) from Kw) (only_below hg4 (by simp; omega) fun g e => by have := (HOW.out g e).1; omega)
  clear hM hX hRS hbw hO hoc2 hg4 ma mb mc mf ml xa xb xc xd xf xl oa ob oc of ol
  have hM := kM
  have hX := kX
  have hRS := kR
  have hbw := kb
  clear kM kX kR kb
  obtain ⟨ma, mb, mc, mf, ml⟩ := hM.mx
  have xa := hX.cell 0
  have xb := hX.cell 1
  have xc := hX.cell 2
  have xd := hX.cell 3
  have xf := hX.frozen
  have xl := hX.lt
  simp at xa xb xc xd
  obtain ⟨oa, ob, oc, of, ol⟩ := kO.mx
  go_wp2_with fail
  refine (spec_l3Done R C A3 n3 c3 (tb R C (opA f i j t)) _ (B := w4.heap.size) ho4.reads (Nat.le_refl _) hn3').mono ?_
  rw [HM2.out, chkV_t]
  rintro e w5 ⟨rfl, hb5⟩
  have ho5 : OR w5 (w.heap.size + 1 + 1 + 1) (.slice A3 n3 c3) (tb R C (opA f i j t)) := Ko ho4
  clear oa ob oc of ol
  have hszw5 := hb5.size; (try simp at hszw5); have hM_1 : BM w5 w.heap.size R C A n cap := (Kb hM); have hX_1 : Blk w5 (w.heap.size + 1) 66 #[.int .i64 2, .int .i64 i, .int .i64 j, .int .i64 t] := (by (with_reducible (repeat (first | exact hX | refine Blk.below ?_ (by assumption) Ks | apply Blk.drew | apply Blk.drewN | apply Blk.alloc | apply Blk.set_ | apply Blk.far; rotate_left; (simp only [ne_eq]; omega); rotate_right)))); have hR_1 : BM w5 (w.heap.size + 1 + 1) 0 0 none 0 0 := (Kb hRS); have hbw_1 : Below w.heap.size w w5 := Kw; clear hM hX hRS hbw ma mb mc mf ml xa xb xc xd xf xl; have hM := hM_1; have hX := hX_1; have hRS := hR_1; have hbw := hbw_1; clear hM_1 hX_1 hR_1 hbw_1; obtain ⟨ma, mb, mc, mf, ml⟩ := hM.mx; have xa := hX.cell 0; have xb := hX.cell 1; have xc := hX.cell 2; have xd := hX.cell 3; have xf := hX.frozen; have xl := hX.lt; simp at xa xb xc xd
  have hvr := B3.of hRS
  obtain ⟨ra, rb, rc, rf, rl⟩ := hRS.mx
  go_wp2_with fail
  refine ret_MB (b := w.heap.size + 1 + 1) (r := R) (c := C) (A := A3) (n := n3) (cap := c3) Try.results152 rfl (Kb hvr) rfl ?_
  exact MBR.mk rfl (OR.mono (B := w.heap.size + 1 + 1 + 1) (Ko ho5) (by omega)) Kw
end Go.Proofs.Ytacjonkehcamgaa

/-
  DERIVED. Determinants by expansion along the first row: linear in rows and columns, zero where two rows or two columns are equal. No program in sight.
-/
namespace Go.Proofs.Ytacjonkehcamgaa
set_option linter.unusedVariables false
def sg (j : Nat) : Int := if j % 2 = 1 then -1 else 1
theorem sg_succ (j : Nat) : sg (j + 1) = -sg j := by
  unfold sg
  rcases Nat.mod_two_eq_zero_or_one j with h | h
  · rw [if_pos (by omega), if_neg (by omega)]
  · rw [if_neg (by omega), if_pos (by omega)]; rfl
/-- The column behind the one that is left out. -/
def sk (j b : Nat) : Nat := if b < j then b else b + 1
/-- Without the first row and column j. -/
def mnr (f : Fn2) (j : Nat) : Fn2 := fun a b => f (a + 1) (sk j b)
def Dt : Nat → Fn2 → Int
  | 0, _ => 1
  | n + 1, f => sumTo (fun j => sg j * f 0 j * Dt n (mnr f j)) (n + 1)
theorem Dt_succ (n : Nat) (f : Fn2) : Dt (n + 1) f = sumTo (fun j => sg j * f 0 j * Dt n (mnr f j)) (n + 1) := rfl
theorem sk_lt {j b n : Nat} (h : b < n) : sk j b < n + 1 := by unfold sk; split <;> omega
theorem sk_ne (j b : Nat) : sk j b ≠ j := by unfold sk; split <;> omega
theorem Dt_congr : ∀ (n : Nat) {f g : Fn2}, EqM n n f g → Dt n f = Dt n g
  | 0, _, _, _ => rfl
  | n + 1, f, g, h => by
    rw [Dt_succ, Dt_succ]
    refine sumTo_congr (n + 1) fun j hj => ?_
    have ih : Dt n (mnr f j) = Dt n (mnr g j) := Dt_congr n fun a b ha hb => h (a + 1) (sk j b) (by omega) (sk_lt hb)
    rw [h 0 j (by omega) hj, ih]
/-- Linear in row i. -/
theorem Dt_row : ∀ (n i : Nat) (t : Int) {f g h : Fn2}, i < n → (∀ y, y < n → f i y = g i y + h i y * t) → (∀ x y, x < n → y < n → x ≠ i → f x y = g x y ∧ f x y = h x y) → Dt n f = Dt n g + Dt n h * t
  | 0, i, _, _, _, _, hi, _, _ => absurd hi (Nat.not_lt_zero _)
  | n + 1, 0, t, f, g, h, _, h1, h2 => by
    rw [Dt_succ, Dt_succ, Dt_succ, ← sumTo_mul, ← sumTo_add]
    refine sumTo_congr (n + 1) fun j hj => ?_
    have e1 : Dt n (mnr g j) = Dt n (mnr f j) := Dt_congr n fun a b ha hb => (h2 (a + 1) (sk j b) (by omega) (sk_lt hb) (by omega)).1.symm
    have e2 : Dt n (mnr h j) = Dt n (mnr f j) := Dt_congr n fun a b ha hb => (h2 (a + 1) (sk j b) (by omega) (sk_lt hb) (by omega)).2.symm
    rw [e1, e2, h1 j hj]
    grind
  | n + 1, i + 1, t, f, g, h, hi, h1, h2 => by
    rw [Dt_succ, Dt_succ, Dt_succ, ← sumTo_mul, ← sumTo_add]
    refine sumTo_congr (n + 1) fun j hj => ?_
    have e1 := (h2 0 j (by omega) hj (by omega)).1
    have e2 := (h2 0 j (by omega) hj (by omega)).2
    have ih := Dt_row n i t (f := mnr f j) (g := mnr g j) (h := mnr h j) (by omega) (fun y hy => h1 (sk j y) (sk_lt hy)) (fun x y hx hy hne => h2 (x + 1) (sk j y) (by omega) (sk_lt hy) (by omega))
    rw [ih, ← e1, ← e2]
    grind
/-- Linear in column c. -/
theorem Dt_col : ∀ (n c : Nat) (t : Int) {f g h : Fn2}, c < n → (∀ x, x < n → f x c = g x c + h x c * t) → (∀ x y, x < n → y < n → y ≠ c → f x y = g x y ∧ f x y = h x y) → Dt n f = Dt n g + Dt n h * t
  | 0, c, _, _, _, _, hc, _, _ => absurd hc (Nat.not_lt_zero _)
  | n + 1, c, t, f, g, h, hc, h1, h2 => by
    rw [Dt_succ, Dt_succ, Dt_succ, ← sumTo_mul, ← sumTo_add]
    refine sumTo_congr (n + 1) fun j hj => ?_
    by_cases e : j = c
    · subst e
      have e1 : Dt n (mnr g j) = Dt n (mnr f j) := Dt_congr n fun a b ha hb => (h2 (a + 1) (sk j b) (by omega) (sk_lt hb) (sk_ne j b)).1.symm
      have e2 : Dt n (mnr h j) = Dt n (mnr f j) := Dt_congr n fun a b ha hb => (h2 (a + 1) (sk j b) (by omega) (sk_lt hb) (sk_ne j b)).2.symm
      rw [e1, e2, h1 0 (by omega)]
      grind
    · have e1 := (h2 0 j (by omega) hj e).1
      have e2 := (h2 0 j (by omega) hj e).2
      obtain ⟨c', hc', hk, hk2⟩ : ∃ c', c' < n ∧ sk j c' = c ∧ ∀ y, sk j y = c → y = c' := by
        by_cases hlt : c < j
        · exact ⟨c, by omega, by unfold sk; rw [if_pos hlt], fun y hy => by unfold sk at hy; split at hy <;> omega⟩
        · refine ⟨c - 1, by omega, by unfold sk; rw [if_neg (by omega)]; omega, fun y hy => by unfold sk at hy; split at hy <;> omega⟩
      have ih := Dt_col n c' t (f := mnr f j) (g := mnr g j) (h := mnr h j) hc' (fun x hx => by
        show f (x + 1) (sk j c') = g (x + 1) (sk j c') + h (x + 1) (sk j c') * t
        rw [hk]
        exact h1 (x + 1) (by omega)) (fun x y hx hy hne => h2 (x + 1) (sk j y) (by omega) (sk_lt hy) (fun e2 => hne (hk2 y e2)))
      rw [ih, ← e1, ← e2]
      grind
/-- Two summands only. -/
theorem sumTo_two {f : Nat → Int} {i : Nat} (n : Nat) (hi : i + 1 < n) (h : ∀ k, k < n → k ≠ i → k ≠ i + 1 → f k = 0) : sumTo f n = f i + f (i + 1) := by
  induction n with
  | zero => omega
  | succ n ih =>
    rw [sumTo_succ]
    by_cases e : i + 1 = n
    · subst e
      rw [sumTo_one (i := i) (i + 1) (by omega) (fun k hk hne => h k (by omega) hne (by omega))]
    · rw [ih (by omega) (fun k hk h1 h2 => h k (by omega) h1 h2), h n (by omega) (by omega) (by omega), Int.add_zero]
/-- Zero where two columns beside each other are equal. -/
theorem Dt_col_eq : ∀ (n c : Nat) {f : Fn2}, c + 1 < n → (∀ x, x < n → f x c = f x (c + 1)) → Dt n f = 0
  | 0, c, _, hc, _ => absurd hc (Nat.not_lt_zero _)
  | n + 1, c, f, hc, h => by
    rw [Dt_succ, sumTo_two (i := c) (n + 1) hc (fun j hj h1 h2 => ?_)]
    · have e : Dt n (mnr f c) = Dt n (mnr f (c + 1)) := Dt_congr n fun a b ha hb => by
        show f (a + 1) (sk c b) = f (a + 1) (sk (c + 1) b)
        by_cases hbc : b = c
        · subst hbc
          have e1 : sk b b = b + 1 := by unfold sk; rw [if_neg (Nat.lt_irrefl _)]
          have e2 : sk (b + 1) b = b := by unfold sk; rw [if_pos (by omega)]
          rw [e1, e2]
          exact (h (a + 1) (by omega)).symm
        · have e3 : sk c b = sk (c + 1) b := by unfold sk; split <;> split <;> omega
          rw [e3]
      rw [e, sg_succ, h 0 (by omega)]
      grind
    · have hz : Dt n (mnr f j) = 0 := by
        obtain ⟨c', hc', e1, e2⟩ : ∃ c', c' + 1 < n ∧ sk j c' = c ∧ sk j (c' + 1) = c + 1 := by
          by_cases hlt : c < j
          · exact ⟨c, by omega, by unfold sk; rw [if_pos hlt], by unfold sk; rw [if_pos (by omega)]⟩
          · exact ⟨c - 1, by omega, by unfold sk; rw [if_neg (by omega)]; omega, by unfold sk; rw [if_neg (by omega)]; omega⟩
        refine Dt_col_eq n c' hc' fun x hx => ?_
        show f (x + 1) (sk j c') = f (x + 1) (sk j (c' + 1))
        rw [e1, e2]
        exact h (x + 1) (by omega)
      rw [hz, Int.mul_zero]
/-- A sum over pairs that change sign when turned is zero. -/
theorem sumTo_anti {g : Nat → Nat → Int} (n : Nat) (h : ∀ a b, a < n → b < n → g a b = -g b a) : sumTo (fun a => sumTo (fun b => g a b) n) n = 0 := by
  have e : sumTo (fun a => sumTo (fun b => g a b) n) n = sumTo (fun a => -sumTo (fun b => g b a) n) n :=
    sumTo_congr n fun a ha => by
      rw [← sumTo_neg]
      exact sumTo_congr n fun b hb => h a b ha hb
  rw [sumTo_neg, sumTo_swap (fun a b => g b a) n n] at e
  omega
/-- A sum that leaves one place out. -/
theorem sumTo_skip {g : Nat → Int} {j : Nat} : ∀ n, j < n + 1 → sumTo (fun k => g (sk j k)) n = sumTo (fun b => if b = j then 0 else g b) (n + 1)
  | 0, hj => by
    have : j = 0 := by omega
    subst this
    rfl
  | n + 1, hj => by
    by_cases e : j = n + 1
    · subst e
      rw [sumTo_succ _ (n + 1), if_pos rfl, Int.add_zero]
      refine sumTo_congr (n + 1) fun k hk => ?_
      unfold sk
      rw [if_pos hk, if_neg (by omega)]
    · rw [sumTo_succ _ n, sumTo_skip n (by omega), sumTo_succ _ (n + 1), if_neg (by omega)]
      have : sk j n = n + 1 := by unfold sk; rw [if_neg (by omega)]
      rw [this]
/-- Without two rows and two columns, whichever goes first. -/
theorem mnr_two {f : Fn2} {a b : Nat} (h : a < b) : mnr (mnr f b) a = mnr (mnr f a) (b - 1) := by
  funext x y
  show f (x + 1 + 1) (sk b (sk a y)) = f (x + 1 + 1) (sk a (sk (b - 1) y))
  have : sk b (sk a y) = sk a (sk (b - 1) y) := by
    unfold sk
    repeat' split
    all_goals omega
  rw [this]
/-- Zero where two rows beside each other are equal. -/
theorem Dt_row_eq : ∀ (n i : Nat) {f : Fn2}, i + 1 < n → (∀ y, y < n → f i y = f (i + 1) y) → Dt n f = 0
  | 0, i, _, hi, _ => absurd hi (Nat.not_lt_zero _)
  | n + 1, i + 1, f, hi, h => by
    rw [Dt_succ]
    refine sumTo_null (n + 1) fun j hj => ?_
    rw [Dt_row_eq n i (f := mnr f j) (by omega) (fun y hy => h (sk j y) (sk_lt hy)), Int.mul_zero]
  | 1, 0, f, hi, h => by omega
  | n + 2, 0, f, hi, h => by
    rw [Dt_succ]
    -- the summand for the columns a of row 0 and b of row 1
    have key : ∀ a, a < n + 2 → sg a * f 0 a * Dt (n + 1) (mnr f a) = sumTo (fun b => if b = a then 0 else sg a * f 0 a * ((if b < a then sg b else sg (b - 1)) * f 0 b * Dt n (mnr (mnr f a) (if b < a then b else b - 1)))) (n + 2) := fun a ha => by
      rw [← sumTo_skip (g := fun b => sg a * f 0 a * ((if b < a then sg b else sg (b - 1)) * f 0 b * Dt n (mnr (mnr f a) (if b < a then b else b - 1)))) (n + 1) ha, Dt_succ, ← sumTo_mul']
      refine sumTo_congr (n + 1) fun k hk => ?_
      have e0 : mnr f a 0 k = f 0 (sk a k) := (h (sk a k) (sk_lt hk)).symm
      have e1 : (if sk a k < a then sk a k else sk a k - 1) = k := by
        unfold sk
        repeat' split
        all_goals omega
      have e2 : (if sk a k < a then sg (sk a k) else sg (sk a k - 1)) = sg k := by
        by_cases hka : k < a
        · have : sk a k = k := by unfold sk; rw [if_pos hka]
          rw [this, if_pos hka]
        · have : sk a k = k + 1 := by unfold sk; rw [if_neg hka]
          rw [this, if_neg (by omega), Nat.add_sub_cancel]
      rw [e0, e1, e2]
    rw [sumTo_congr (n + 2) key]
    refine sumTo_anti (n + 2) fun a b ha hb => ?_
    by_cases e : b = a
    · subst e; rw [if_pos rfl]; rfl
    · rw [if_neg e, if_neg (show ¬ a = b from fun e2 => e e2.symm)]
      by_cases hlt : b < a
      · rw [if_pos hlt, if_pos hlt, if_neg (show ¬ a < b by omega), if_neg (show ¬ a < b by omega), mnr_two hlt]
        have : sg a = -sg (a - 1) := by
          have := sg_succ (a - 1)
          rwa [Nat.sub_add_cancel (by omega)] at this
        rw [this]
        grind
      · have hlt2 : a < b := by omega
        rw [if_neg hlt, if_neg hlt, if_pos hlt2, if_pos hlt2, mnr_two hlt2]
        have : sg b = -sg (b - 1) := by
          have := sg_succ (b - 1)
          rwa [Nat.sub_add_cancel (by omega)] at this
        rw [this]
        grind
/-- Linear in each row, zero where two rows beside each other are equal. -/
structure Alt (n : Nat) (F : Fn2 → Int) : Prop where
  congr : ∀ (f g : Fn2), EqM n n f g → F f = F g
  lin : ∀ (i : Nat) (t : Int) (f g h : Fn2), i < n → (∀ y, y < n → f i y = g i y + h i y * t) → (∀ x y, x < n → y < n → x ≠ i → f x y = g x y ∧ f x y = h x y) → F f = F g + F h * t
  alt : ∀ (i : Nat) (f : Fn2), i + 1 < n → (∀ y, y < n → f i y = f (i + 1) y) → F f = 0
theorem Dt_alt (n : Nat) : Alt n (Dt n) :=
  ⟨fun f g h => Dt_congr n h, fun i t f g h hi h1 h2 => Dt_row n i t hi h1 h2, fun i f hi h => Dt_row_eq n i hi h⟩
theorem Dt_altC (n : Nat) : Alt n (fun f => Dt n (fun a b => f b a)) :=
  ⟨fun f g h => Dt_congr n fun a b ha hb => h b a hb ha, fun i t f g h hi h1 h2 => Dt_col n i t hi (fun x hx => h1 x hx) (fun x y hx hy hne => h2 y x hy hx hne), fun i f hi h => Dt_col_eq n i hi fun x hx => h x hx⟩
/-- Rows i and j anew. -/
def rw2 (f : Fn2) (i j : Nat) (a b : Nat → Int) : Fn2 := fun x y => if x = i then a y else if x = j then b y else f x y
section
variable {n : Nat} {F : Fn2 → Int}
/-- The exchange of two rows, if equal ones give zero there. -/
theorem Alt.turn (H : Alt n F) {i j : Nat} (hi : i < n) (hj : j < n) (hij : i ≠ j) (hz : ∀ f : Fn2, (∀ y, y < n → f i y = f j y) → F f = 0) (f : Fn2) (a b : Nat → Int) : F (rw2 f i j b a) = -F (rw2 f i j a b) := by
  have hji : j ≠ i := fun e => hij e.symm
  have z : ∀ c, F (rw2 f i j c c) = 0 := fun c => hz _ fun y _ => by unfold rw2; rw [if_pos rfl, if_neg hji, if_pos rfl]
  have l1 : ∀ c, F (rw2 f i j (fun y => a y + b y) c) = F (rw2 f i j a c) + F (rw2 f i j b c) := fun c => by
    have := H.lin i 1 (rw2 f i j (fun y => a y + b y) c) (rw2 f i j a c) (rw2 f i j b c) hi (fun y _ => by unfold rw2; rw [if_pos rfl, if_pos rfl, if_pos rfl, Int.mul_one]) (fun x y _ _ hne => by unfold rw2; rw [if_neg hne, if_neg hne, if_neg hne]; exact ⟨rfl, rfl⟩)
    rw [this, Int.mul_one]
  have l2 : ∀ c, F (rw2 f i j c (fun y => a y + b y)) = F (rw2 f i j c a) + F (rw2 f i j c b) := fun c => by
    have := H.lin j 1 (rw2 f i j c (fun y => a y + b y)) (rw2 f i j c a) (rw2 f i j c b) hj (fun y _ => by unfold rw2; rw [if_neg hji, if_pos rfl, if_neg hji, if_pos rfl, if_neg hji, if_pos rfl, Int.mul_one]) (fun x y _ _ hne => by unfold rw2; rw [if_neg hne, if_neg hne, if_neg hne]; exact ⟨rfl, rfl⟩)
    rw [this, Int.mul_one]
  have h0 := z (fun y => a y + b y)
  rw [l1, l2, l2, z, z] at h0
  omega
theorem rw2_self (f : Fn2) (i j : Nat) : rw2 f i j (f i) (f j) = f := by
  funext x y
  unfold rw2
  split
  · rename_i h; rw [h]
  · split
    · rename_i h; rw [h]
    · rfl
theorem rw2_swap (f : Fn2) {i j : Nat} : rw2 f i j (f j) (f i) = swF f i j := by
  funext x y
  unfold rw2 swF
  split
  · rfl
  · split
    · rfl
    · rfl
theorem Alt.adj (H : Alt n F) {i : Nat} (hi : i + 1 < n) (f : Fn2) : F (swF f i (i + 1)) = -F f := by
  have := H.turn (i := i) (j := i + 1) (by omega) hi (by omega) (fun f h => H.alt i f hi h) f (f i) (f (i + 1))
  rw [rw2_self, rw2_swap] at this
  exact this
/-- Zero where two rows are equal. -/
theorem Alt.same_lt (H : Alt n F) : ∀ (d i : Nat) (f : Fn2), i + d + 1 < n → (∀ y, y < n → f i y = f (i + d + 1) y) → F f = 0
  | 0, i, f, hi, h => H.alt i f hi h
  | d + 1, i, f, hi, h => by
    have h1 := H.adj (i := i + d + 1) (by omega) f
    have h2 : F (swF f (i + d + 1) (i + d + 1 + 1)) = 0 := H.same_lt d i _ (by omega) fun y hy => by
      have e1 : swF f (i + d + 1) (i + d + 1 + 1) i y = f i y := by unfold swF; rw [if_neg (by omega), if_neg (by omega)]
      have e2 : swF f (i + d + 1) (i + d + 1 + 1) (i + d + 1) y = f (i + d + 1 + 1) y := by unfold swF; rw [if_pos rfl]
      rw [e1, e2]
      exact h y hy
    rw [h2] at h1
    omega
theorem Alt.same (H : Alt n F) {i j : Nat} (hi : i < n) (hj : j < n) (hij : i ≠ j) (f : Fn2) (h : ∀ y, y < n → f i y = f j y) : F f = 0 := by
  rcases Nat.lt_or_ge i j with hlt | hge
  · exact H.same_lt (j - i - 1) i f (by omega) (by rw [show i + (j - i - 1) + 1 = j by omega]; exact h)
  · exact H.same_lt (i - j - 1) j f (by omega) (by rw [show j + (i - j - 1) + 1 = i by omega]; exact fun y hy => (h y hy).symm)
theorem Alt.swap (H : Alt n F) {i j : Nat} (hi : i < n) (hj : j < n) (hij : i ≠ j) (f : Fn2) : F (swF f i j) = -F f := by
  have := H.turn hi hj hij (fun f h => H.same hi hj hij f h) f (f i) (f j)
  rw [rw2_self, rw2_swap] at this
  exact this
/-- A multiple of a row added to another one. -/
theorem Alt.add (H : Alt n F) {i j : Nat} {t : Int} {f g : Fn2} (hi : i < n) (hj : j < n) (hij : i ≠ j) (h1 : ∀ y, y < n → g i y = f i y + f j y * t) (h2 : ∀ x y, x < n → y < n → x ≠ i → g x y = f x y) : F g = F f := by
  have h3 := H.lin i t g f (fun x y => if x = i then f j y else f x y) hi (fun y hy => by
    show g i y = f i y + (if i = i then f j y else f i y) * t
    rw [if_pos rfl]
    exact h1 y hy) (fun x y hx hy hne => ⟨h2 x y hx hy hne, by show g x y = if x = i then f j y else f x y; rw [if_neg hne]; exact h2 x y hx hy hne⟩)
  have h4 : F (fun x y => if x = i then f j y else f x y) = 0 := H.same hi hj hij _ fun y hy => by
    show (if i = i then f j y else f i y) = if j = i then f j y else f j y
    rw [if_pos rfl, if_neg (fun e => hij e.symm)]
  rw [h3, h4, Int.zero_mul, Int.add_zero]
theorem Alt.zero (H : Alt n F) {i : Nat} {f : Fn2} (hi : i < n) (h : ∀ y, y < n → f i y = 0) : F f = 0 := by
  have h3 := H.lin i 1 f f f hi (fun y hy => by rw [h y hy]; rfl) (fun x y hx hy hne => ⟨rfl, rfl⟩)
  omega
theorem Alt.scale (H : Alt n F) {i : Nat} {t : Int} {f g : Fn2} (hi : i < n) (h1 : ∀ y, y < n → g i y = f i y * t) (h2 : ∀ x y, x < n → y < n → x ≠ i → g x y = f x y) : F g = F f * t := by
  have h3 := H.lin i t g (fun x y => if x = i then 0 else f x y) f hi (fun y hy => by
    show g i y = (if i = i then 0 else f i y) + f i y * t
    rw [if_pos rfl, h1 y hy, Int.zero_add]) (fun x y hx hy hne => ⟨by show g x y = if x = i then 0 else f x y; rw [if_neg hne]; exact h2 x y hx hy hne, h2 x y hx hy hne⟩)
  have h4 : F (fun x y => if x = i then 0 else f x y) = 0 := H.zero hi fun y hy => by
    show (if i = i then (0 : Int) else f i y) = 0
    rw [if_pos rfl]
  rw [h3, h4, Int.zero_add]
end
/-- A matrix with zeros below the diagonal: the product of the diagonal. -/
theorem Dt_id : ∀ n, Dt n idF = 1
  | 0 => rfl
  | n + 1 => by
    rw [Dt_succ, sumTo_one (i := 0) (n + 1) (by omega) (fun k hk hne => ?_)]
    · have e : Dt n (mnr idF 0) = Dt n idF := Dt_congr n fun a b ha hb => by
        show idF (a + 1) (sk 0 b) = idF a b
        unfold idF sk
        rw [if_neg (Nat.not_lt_zero _)]
        by_cases h : a = b
        · rw [if_pos h, if_pos (by omega)]
        · rw [if_neg h, if_neg (by omega)]
      rw [e, Dt_id n]
      rfl
    · have : idF 0 k = 0 := by unfold idF; rw [if_neg (fun e => hne e.symm)]
      rw [this]
      grind
end Go.Proofs.Ytacjonkehcamgaa

/-
  DERIVED. The Smith form, step by step, as functions of row and column: no program in sight.
-/
namespace Go.Proofs.Ytacjonkehcamgaa
set_option linter.unusedVariables false
def tp (f : Fn2) : Fn2 := fun a b => f b a
theorem tp_tp (f : Fn2) : tp (tp f) = f := rfl
theorem tp_ok {f : Fn2} {R C : Nat} (h : OKF R C f) : OKF C R (tp f) := fun i j hi hj => h j i hj hi
theorem tp_nb {f : Fn2} (h : NBF f) : NBF (tp f) := fun i j => h j i
/-- A matrix, the account of what is done to its rows, that of its columns. -/
structure SS where
  f : Fn2
  g : Fn2
  h : Fn2
def SS.row (s : SS) : HS := ⟨s.f, s.g⟩
def SS.col (s : SS) : HS := ⟨tp s.f, tp s.h⟩
def SS.wr (s : SS) (q : HS) : SS := ⟨q.f, q.g, s.h⟩
def SS.wc (s : SS) (q : HS) : SS := ⟨tp q.f, s.g, tp q.g⟩
structure SS.OK (R C : Nat) (s : SS) : Prop where
  f : OKF R C s.f
  g : OKF R R s.g
  h : OKF C C s.h
structure SS.NBS (s : SS) : Prop where
  f : NBF s.f
  g : NBF s.g
  h : NBF s.h
structure SGD (R C : Nat) (s : SS) : Prop where
  ok : s.OK R C
  nb : s.NBS
def SS.ok (R C : Nat) (s : SS) : Bool := (tb R C s.f).all noBad && (tb R R s.g).all noBad && (tb C C s.h).all noBad
section
variable {R C : Nat} {s : SS} {q : HS}
theorem SS.ok_iff (h : s.NBS) : s.ok R C = true ↔ s.OK R C := by
  unfold SS.ok
  rw [Bool.and_eq_true, Bool.and_eq_true, tb_all h.f, tb_all h.g, tb_all h.h]
  exact ⟨fun h => ⟨h.1.1, h.1.2, h.2⟩, fun h => ⟨⟨h.f, h.g⟩, h.h⟩⟩
theorem SS.ok_no (h : s.NBS) (h2 : ¬ s.OK R C) : s.ok R C = false := by
  rw [← Bool.not_eq_true, SS.ok_iff h]; exact h2
theorem SS.NBS.row (h : s.NBS) : s.row.NBS := ⟨h.f, h.g⟩
theorem SS.NBS.col (h : s.NBS) : s.col.NBS := ⟨tp_nb h.f, tp_nb h.h⟩
theorem SS.NBS.wr (h : s.NBS) (hq : q.NBS) : (s.wr q).NBS := ⟨hq.f, hq.g, h.h⟩
theorem SS.NBS.wc (h : s.NBS) (hq : q.NBS) : (s.wc q).NBS := ⟨tp_nb hq.f, h.g, tp_nb hq.g⟩
theorem SS.OK.row (h : s.OK R C) : s.row.OK R C := ⟨h.f, h.g⟩
theorem SS.OK.col (h : s.OK R C) : s.col.OK C R := ⟨tp_ok h.f, tp_ok h.h⟩
theorem SS.OK.wr (h : s.OK R C) (hq : q.OK R C) : (s.wr q).OK R C := ⟨hq.f, hq.g, h.h⟩
theorem SS.OK.wc (h : s.OK R C) (hq : q.OK C R) : (s.wc q).OK R C := ⟨tp_ok hq.f, h.g, tp_ok hq.g⟩
theorem SS.OK.ofRow (h : (s.wr q).OK R C) : q.OK R C := ⟨h.f, h.g⟩
theorem SS.OK.ofCol (h : (s.wc q).OK R C) : q.OK C R := ⟨tp_ok h.f, tp_ok h.h⟩
theorem SGD.row (h : SGD R C s) : GD R C s.row := ⟨h.ok.row, h.nb.row⟩
theorem SGD.col (h : SGD R C s) : GD C R s.col := ⟨h.ok.col, h.nb.col⟩
theorem SGD.wr (h : SGD R C s) (hq : GD R C q) : SGD R C (s.wr q) := ⟨h.ok.wr hq.ok, h.nb.wr hq.nb⟩
theorem SGD.wc (h : SGD R C s) (hq : GD C R q) : SGD R C (s.wc q) := ⟨h.ok.wc hq.ok, h.nb.wc hq.nb⟩
end
-- the least absolute value that is not 0, from (t, t) on
def lsI (f : Fn2) (i t : Nat) (st : Int × Int) : Nat → Int × Int
  | 0 => st
  | n + 1 => if f i (t + n) ≠ 0 ∧ ((lsI f i t st n).1 < 0 ∨ (f i (t + n)).natAbs < (f (lsI f i t st n).1.toNat (lsI f i t st n).2.toNat).natAbs) then (((i : Nat) : Int), ((t + n : Nat) : Int)) else lsI f i t st n
def lsO (f : Fn2) (t D : Nat) : Nat → Int × Int
  | 0 => (-1, -1)
  | m + 1 => lsI f (t + m) t (lsO f t D m) D
def ls2 (R C : Nat) (f : Fn2) (t : Nat) : Int × Int := lsO f t (C - t) (R - t)
theorem lsI_succ (f : Fn2) (i t : Nat) (st : Int × Int) (n : Nat) : lsI f i t st (n + 1) = if f i (t + n) ≠ 0 ∧ ((lsI f i t st n).1 < 0 ∨ (f i (t + n)).natAbs < (f (lsI f i t st n).1.toNat (lsI f i t st n).2.toNat).natAbs) then (((i : Nat) : Int), ((t + n : Nat) : Int)) else lsI f i t st n := rfl
/-- What a search knows of the places that it has seen. -/
def LSP (f : Fn2) (t : Nat) (V : Nat → Nat → Prop) (st : Int × Int) : Prop :=
  (st = (-1, -1) ∧ ∀ i j, V i j → f i j = 0) ∨ ∃ p q : Nat, st = ((p : Int), (q : Int)) ∧ V p q ∧ f p q ≠ 0 ∧ (∀ i j, V i j → f i j ≠ 0 → (f p q).natAbs ≤ (f i j).natAbs) ∧ (V t t → f t t ≠ 0 → ¬ (p = t ∧ q = t) → (f p q).natAbs < (f t t).natAbs)
theorem LSP.step {f : Fn2} {t : Nat} {V V' : Nat → Nat → Prop} {st : Int × Int} {i j : Nat} (h : LSP f t V st) (hV : ∀ a b, V' a b ↔ V a b ∨ (a = i ∧ b = j)) (h0 : i = t → j = t → ∀ a b, ¬ V a b) :
    LSP f t V' (if f i j ≠ 0 ∧ (st.1 < 0 ∨ (f i j).natAbs < (f st.1.toNat st.2.toNat).natAbs) then (((i : Nat) : Int), ((j : Nat) : Int)) else st) := by
  rcases h with ⟨rfl, h1⟩ | ⟨p, q, rfl, h1, h2, h3, h4⟩
  · by_cases hz : f i j = 0
    · rw [if_neg (by simp [hz])]
      refine .inl ⟨rfl, fun a b hab => ?_⟩
      rcases (hV a b).1 hab with h | ⟨rfl, rfl⟩
      · exact h1 a b h
      · exact hz
    · rw [if_pos ⟨hz, .inl (by decide)⟩]
      refine .inr ⟨i, j, rfl, (hV i j).2 (.inr ⟨rfl, rfl⟩), hz, fun a b hab hne => ?_, fun ht htz hne => ?_⟩
      · rcases (hV a b).1 hab with h | ⟨rfl, rfl⟩
        · exact absurd (h1 a b h) hne
        · exact Nat.le_refl _
      · rcases (hV t t).1 ht with h | ⟨h5, h6⟩
        · exact absurd (h1 t t h) htz
        · exact absurd ⟨h5.symm, h6.symm⟩ hne
  · simp only [Int.toNat_natCast]
    by_cases hc : f i j ≠ 0 ∧ ((p : Int) < 0 ∨ (f i j).natAbs < (f p q).natAbs)
    · rw [if_pos hc]
      have hlt : (f i j).natAbs < (f p q).natAbs := hc.2.resolve_left (by omega)
      refine .inr ⟨i, j, rfl, (hV i j).2 (.inr ⟨rfl, rfl⟩), hc.1, fun a b hab hne => ?_, fun ht htz hne => ?_⟩
      · rcases (hV a b).1 hab with h | ⟨rfl, rfl⟩
        · exact Nat.le_trans (Nat.le_of_lt hlt) (h3 a b h hne)
        · exact Nat.le_refl _
      · rcases (hV t t).1 ht with h | ⟨h5, h6⟩
        · exact Nat.lt_of_lt_of_le hlt (h3 t t h htz)
        · exact absurd ⟨h5.symm, h6.symm⟩ hne
    · rw [if_neg hc]
      refine .inr ⟨p, q, rfl, (hV p q).2 (.inl h1), h2, fun a b hab hne => ?_, fun ht htz hne => ?_⟩
      · rcases (hV a b).1 hab with h | ⟨rfl, rfl⟩
        · exact h3 a b h hne
        · exact Nat.le_of_not_lt fun hlt => hc ⟨hne, .inr hlt⟩
      · rcases (hV t t).1 ht with h | ⟨h5, h6⟩
        · exact h4 h htz hne
        · exact absurd h1 (h0 h5.symm h6.symm p q)
theorem LSP.as {f : Fn2} {t : Nat} {V V' : Nat → Nat → Prop} {st : Int × Int} (h : LSP f t V st) (hV : ∀ a b, V' a b ↔ V a b) : LSP f t V' st := by
  have e : V' = V := funext fun a => funext fun b => propext (hV a b)
  rw [e]; exact h
theorem lsI_P {f : Fn2} {t D i : Nat} {st : Int × Int} (hi : t ≤ i) (h : LSP f t (fun a b => t ≤ a ∧ a < i ∧ t ≤ b ∧ b < t + D) st) :
    ∀ n, n ≤ D → LSP f t (fun a b => t ≤ a ∧ t ≤ b ∧ b < t + D ∧ (a < i ∨ a = i ∧ b < t + n)) (lsI f i t st n)
  | 0, _ => h.as fun a b => by omega
  | n + 1, hn => by
    rw [lsI_succ]
    refine LSP.step (lsI_P hi h n (by omega)) (fun a b => by omega) (fun h1 h2 a b => by omega)
theorem lsO_P (f : Fn2) (t D : Nat) : ∀ m, LSP f t (fun a b => t ≤ a ∧ a < t + m ∧ t ≤ b ∧ b < t + D) (lsO f t D m)
  | 0 => .inl ⟨rfl, fun i j h => by omega⟩
  | m + 1 => (lsI_P (by omega) (lsO_P f t D m) D (Nat.le_refl _)).as fun a b => by omega
theorem ls2_P (R C : Nat) (f : Fn2) (t : Nat) : LSP f t (fun a b => t ≤ a ∧ a < R ∧ t ≤ b ∧ b < C) (ls2 R C f t) :=
  (lsO_P f t (C - t) (R - t)).as fun a b => by omega
/-- The first of the search. -/
theorem ls2_cases (R C : Nat) (f : Fn2) (t : Nat) : (ls2 R C f t = (-1, -1) ∧ ∀ i j, t ≤ i → i < R → t ≤ j → j < C → f i j = 0) ∨
    ∃ p q : Nat, ls2 R C f t = ((p : Int), (q : Int)) ∧ (t ≤ p ∧ p < R ∧ t ≤ q ∧ q < C) ∧ f p q ≠ 0 ∧ (∀ i j, t ≤ i → i < R → t ≤ j → j < C → f i j ≠ 0 → (f p q).natAbs ≤ (f i j).natAbs) ∧ (t < R → t < C → f t t ≠ 0 → ¬ (p = t ∧ q = t) → (f p q).natAbs < (f t t).natAbs) := by
  rcases ls2_P R C f t with ⟨h1, h2⟩ | ⟨p, q, h1, h2, h3, h4, h5⟩
  · exact .inl ⟨h1, fun i j a b c d => h2 i j ⟨a, b, c, d⟩⟩
  · exact .inr ⟨p, q, h1, h2, h3, fun i j a b c d => h4 i j ⟨a, b, c, d⟩, fun a b => h5 ⟨Nat.le_refl _, a, Nat.le_refl _, b⟩⟩
theorem ls2_some {R C : Nat} {f : Fn2} {t i j : Nat} (h1 : t ≤ i) (h2 : i < R) (h3 : t ≤ j) (h4 : j < C) (hne : f i j ≠ 0) :
    ∃ p q : Nat, ls2 R C f t = ((p : Int), (q : Int)) ∧ (t ≤ p ∧ p < R ∧ t ≤ q ∧ q < C) ∧ f p q ≠ 0 ∧ (f p q).natAbs ≤ (f i j).natAbs := by
  rcases ls2_cases R C f t with ⟨_, h⟩ | ⟨p, q, a, b, c, d, e⟩
  · exact absurd (h i j h1 h2 h3 h4) hne
  · exact ⟨p, q, a, b, c, d i j h1 h2 h3 h4 hne⟩
-- a round
def sfA1 (t r : Nat) (s : SS) : SS := if r = t then s else s.wr (s.row.swap r t)
def sfA2 (t c : Nat) (s : SS) : SS := if c = t then s else s.wc (s.col.swap c t)
def sfB (R t : Nat) (s : SS) : SS := s.wr (swS t t t s.row (R - t))
def sfC (C t : Nat) (s : SS) : SS := s.wc (swS t t t s.col (C - t))
def clnS (R C t : Nat) (f : Fn2) : Bool := !(oth R f t t t) && !(oth C (tp f) t t t)
def fdR (f : Fn2) (t C i : Nat) : Bool := (List.range (C - (t + 1))).any fun n => decide (f i (t + 1 + n) ≠ bad) && decide ((f i (t + 1 + n)).tmod (f t t) ≠ 0)
def fdS (f : Fn2) (t C : Nat) (i : Nat) : Nat → Option Nat
  | 0 => none
  | m + 1 => if fdR f t C i then some i else fdS f t C (i + 1) m
def fd (R C t : Nat) (f : Fn2) : Option Nat := fdS f t C (t + 1) (R - (t + 1))
def sfD (R C t : Nat) (s : SS) : SS × Bool := if clnS R C t s.f then (match fd R C t s.f with | some i => (s.wr (s.row.add t i 1), false) | none => (s, true)) else (s, false)
def sfA (R C t : Nat) (s : SS) : SS := sfA2 t (ls2 R C s.f t).2.toNat (sfA1 t (ls2 R C s.f t).1.toNat s)
def rnd (R C t : Nat) (s : SS) : SS × Bool := sfD R C t (sfC C t (sfB R t (sfA R C t s)))
theorem fdR_iff {f : Fn2} {t C i : Nat} : fdR f t C i = true ↔ ∃ j, t < j ∧ j < C ∧ f i j ≠ bad ∧ (f i j).tmod (f t t) ≠ 0 := by
  unfold fdR
  rw [List.any_eq_true]
  constructor
  · rintro ⟨n, hn, h⟩
    have hn' := List.mem_range.1 hn
    rw [Bool.and_eq_true, decide_eq_true_eq, decide_eq_true_eq] at h
    exact ⟨t + 1 + n, by omega, by omega, h.1, h.2⟩
  · rintro ⟨j, h1, h2, h3, h4⟩
    refine ⟨j - (t + 1), List.mem_range.2 (by omega), ?_⟩
    rw [show t + 1 + (j - (t + 1)) = j by omega, Bool.and_eq_true, decide_eq_true_eq, decide_eq_true_eq]
    exact ⟨h3, h4⟩
theorem fdR_no {f : Fn2} {t C i : Nat} (h : ∀ j, t < j → j < C → ¬ (f i j ≠ bad ∧ (f i j).tmod (f t t) ≠ 0)) : fdR f t C i = false := by
  refine Bool.eq_false_iff.2 fun hc => ?_
  obtain ⟨j, h1, h2, h3⟩ := fdR_iff.1 hc
  exact h j h1 h2 h3
theorem fdS_yes {f : Fn2} {t C i m : Nat} (h : fdR f t C i = true) : fdS f t C i (m + 1) = some i := by
  show (if _ then _ else _) = _
  rw [if_pos h]
theorem fdS_no {f : Fn2} {t C i m : Nat} (h : fdR f t C i = false) : fdS f t C i (m + 1) = fdS f t C (i + 1) m := by
  show (if _ then _ else _) = _
  rw [if_neg (by rw [h]; exact Bool.false_ne_true)]
theorem fdS_some {f : Fn2} {t C k : Nat} : ∀ m i, fdS f t C i m = some k → i ≤ k ∧ k < i + m ∧ fdR f t C k = true
  | 0, i, h => by cases h
  | m + 1, i, h => by
    rcases hr : fdR f t C i with _ | _
    · rw [fdS_no hr] at h
      obtain ⟨a, b, c⟩ := fdS_some m (i + 1) h
      exact ⟨by omega, by omega, c⟩
    · rw [fdS_yes hr] at h
      cases h
      exact ⟨Nat.le_refl _, by omega, hr⟩
theorem fd_some {R C t k : Nat} {f : Fn2} (h : fd R C t f = some k) : t < k ∧ k < R ∧ fdR f t C k = true := by
  obtain ⟨a, b, c⟩ := fdS_some _ _ h
  exact ⟨by omega, by omega, c⟩
section
variable {R C t : Nat} {s : SS}
theorem SGD.a1 {r : Nat} (h : SGD R C s) (hr : r < R) (ht : t < R) : SGD R C (sfA1 t r s) := by
  unfold sfA1
  split
  · exact h
  · exact h.wr (h.row.swap hr ht)
theorem SGD.a2 {c : Nat} (h : SGD R C s) (hc : c < C) (ht : t < C) : SGD R C (sfA2 t c s) := by
  unfold sfA2
  split
  · exact h
  · exact h.wc (h.col.swap hc ht)
theorem sfA_piv (r c : Nat) (s : SS) : (sfA2 t c (sfA1 t r s)).f t t = s.f r c := by
  have h1 : ∀ y, (sfA1 t r s).f t y = s.f r y := fun y => by
    unfold sfA1
    split
    · rename_i h; rw [h]
    · exact swF_t s.f r t y
  have h2 : (sfA2 t c (sfA1 t r s)).f t t = (sfA1 t r s).f t c := by
    unfold sfA2
    split
    · rename_i h; rw [h]
    · exact swF_t (tp (sfA1 t r s).f) c t t
  rw [h2, h1]
theorem sfA_same (s : SS) : sfA2 t t (sfA1 t t s) = s := by
  unfold sfA1 sfA2
  rw [if_pos rfl, if_pos rfl]
theorem sfB_nb (h : s.NBS) : (sfB R t s).NBS := h.wr (swS_nb h.row _)
theorem sfC_nb (h : s.NBS) : (sfC C t s).NBS := h.wc (swS_nb h.col _)
theorem sfD_nb (h : s.NBS) : (sfD R C t s).1.NBS := by
  unfold sfD
  split
  · split
    · exact h.wr (h.row.add _ _ _)
    · exact h
  · exact h
theorem sfB_back (h : s.NBS) (hk : (sfB R t s).OK R C) : s.OK R C := by
  have h1 := swS_back' (R := R) (C := C) h.row 0 (R - t) (by rw [Nat.zero_add]; exact hk.ofRow)
  exact ⟨h1.f, h1.g, hk.h⟩
theorem sfC_back (h : s.NBS) (hk : (sfC C t s).OK R C) : s.OK R C := by
  have h1 := swS_back' (R := C) (C := R) h.col 0 (C - t) (by rw [Nat.zero_add]; exact hk.ofCol)
  exact ⟨tp_ok h1.f, hk.g, tp_ok h1.g⟩
theorem sfD_back (h : s.NBS) (hk : (sfD R C t s).1.OK R C) : s.OK R C := by
  unfold sfD at hk
  split at hk
  · split at hk
    · have h1 := HS.OK.back h.row hk.ofRow
      exact ⟨h1.f, h1.g, hk.h⟩
    · exact hk
  · exact hk
theorem rnd_back (h : (sfA R C t s).NBS) (hk : (rnd R C t s).1.OK R C) : (sfB R t (sfA R C t s)).OK R C ∧ (sfC C t (sfB R t (sfA R C t s))).OK R C := by
  have h1 := sfD_back (sfC_nb (sfB_nb h)) hk
  exact ⟨sfC_back (sfB_nb h) h1, h1⟩
end
-- rounds till nothing is left
def lsV (R C t : Nat) (s : SS) : Nat := (s.f (ls2 R C s.f t).1.toNat (ls2 R C s.f t).2.toNat).natAbs
def flg (R C t : Nat) (s : SS) : Nat := if (s.f t t).natAbs = lsV R C t s ∧ fdR s.f t C t = true then 0 else 1
def sfMs (R C t : Nat) (s : SS) : Nat := 2 * lsV R C t s + flg R C t s
theorem flg_le (R C t : Nat) (s : SS) : flg R C t s ≤ 1 := by unfold flg; split <;> omega
theorem lsV_le {R C t i j : Nat} {s : SS} (h1 : t ≤ i) (h2 : i < R) (h3 : t ≤ j) (h4 : j < C) (hne : s.f i j ≠ 0) : lsV R C t s ≤ (s.f i j).natAbs := by
  obtain ⟨p, q, e, _, _, h⟩ := ls2_some h1 h2 h3 h4 hne
  unfold lsV
  rw [e]
  exact h
theorem tmodz_iff {a b : Int} : a.tmod b = 0 ↔ a % b = 0 := by
  rw [← Int.dvd_iff_tmod_eq_zero, ← Int.dvd_iff_emod_eq_zero]
theorem rnd_facts {R C t : Nat} {s1 : SS} (h : s1.NBS) (ht : t < R) (htC : t < C) (hP : s1.f t t ≠ 0) (hB : (sfB R t s1).OK R C) (hC : (sfC C t (sfB R t s1)).OK R C) :
    (sfC C t (sfB R t s1)).f t t = s1.f t t ∧ (∀ x, t < x → x < R → (sfC C t (sfB R t s1)).f x t = s1.f x t % s1.f t t) ∧ (∀ y, t < y → y < C → (sfC C t (sfB R t s1)).f t y = s1.f t y % s1.f t t) := by
  have b1 : ∀ y, (sfB R t s1).f t y = s1.f t y := fun y => swS_p (j := t) (p := t) (t := t) (s := s1.row) y (R - t)
  have b2 : ∀ x, t < x → x < R → (sfB R t s1).f x t = s1.f x t % s1.f t t := fun x h1 h2 => swS_col h.row htC ht hP (R - t) (by omega) hB.ofRow x (by omega) (by omega) (by omega)
  have c1 : ∀ x, (sfC C t (sfB R t s1)).f x t = (sfB R t s1).f x t := fun x => swS_p (j := t) (p := t) (t := t) (s := (sfB R t s1).col) x (C - t)
  have hP2 : (sfB R t s1).f t t ≠ 0 := by rw [b1]; exact hP
  have c2 : ∀ y, t < y → y < C → (sfC C t (sfB R t s1)).f t y = (sfB R t s1).f t y % (sfB R t s1).f t t := fun y h1 h2 => swS_col (sfB_nb h).col ht htC hP2 (C - t) (by omega) hC.ofCol y (by omega) (by omega) (by omega)
  refine ⟨by rw [c1, b1], fun x h1 h2 => by rw [c1, b2 x h1 h2], fun y h1 h2 => by rw [c2 y h1 h2, b1, b1]⟩
theorem emod_small {a b : Int} (hb : b ≠ 0) : (a % b).natAbs < b.natAbs := by
  have h5 := Int.emod_nonneg a hb
  have h6 := Int.emod_lt a hb
  omega
theorem clnS_no {R C t : Nat} {f : Fn2} (h : clnS R C t f = false) : (∃ x, t < x ∧ x < R ∧ f x t ≠ 0) ∨ ∃ y, t < y ∧ y < C ∧ f t y ≠ 0 := by
  unfold clnS at h
  rcases h1 : oth R f t t t with _ | _
  · rw [h1] at h
    have h2 : oth C (tp f) t t t = true := by simpa using h
    obtain ⟨i, a, b, c, d⟩ := oth_iff.1 h2
    exact .inr ⟨i, by omega, b, d⟩
  · obtain ⟨i, a, b, c, d⟩ := oth_iff.1 h1
    exact .inl ⟨i, by omega, b, d⟩
theorem clnS_yes {R C t : Nat} {f : Fn2} (h : clnS R C t f = true) : (∀ x, t < x → x < R → f x t = 0) ∧ ∀ y, t < y → y < C → f t y = 0 := by
  unfold clnS at h
  rw [Bool.and_eq_true, Bool.not_eq_true', Bool.not_eq_true'] at h
  refine ⟨fun x h1 h2 => ?_, fun y h1 h2 => ?_⟩
  · refine Decidable.byContradiction fun hne => ?_
    have := oth_iff.2 (show ∃ i, t ≤ i ∧ i < R ∧ i ≠ t ∧ f i t ≠ 0 from ⟨x, by omega, h2, by omega, hne⟩)
    rw [h.1] at this; cases this
  · refine Decidable.byContradiction fun hne => ?_
    have := oth_iff.2 (show ∃ i, t ≤ i ∧ i < C ∧ i ≠ t ∧ (tp f) i t ≠ 0 from ⟨y, by omega, h2, by omega, hne⟩)
    rw [h.2] at this; cases this
theorem rnd_lt {R C t p q : Nat} {s : SS} (h : SGD R C s) (ht : t < R) (htC : t < C) (e : ls2 R C s.f t = ((p : Int), (q : Int))) (hpR : p < R) (hqC : q < C) (hpq : s.f p q ≠ 0) (hfirst : s.f t t ≠ 0 → ¬ (p = t ∧ q = t) → (s.f p q).natAbs < (s.f t t).natAbs)
    (hk : (rnd R C t s).1.OK R C) (hd : (rnd R C t s).2 = false) : sfMs R C t (rnd R C t s).1 < sfMs R C t s ∧ (rnd R C t s).1.f t t ≠ 0 := by
  have eA : sfA R C t s = sfA2 t q (sfA1 t p s) := by unfold sfA; rw [e]; rfl
  have hA : SGD R C (sfA R C t s) := by rw [eA]; exact (h.a1 hpR ht).a2 hqC htC
  have hpiv : (sfA R C t s).f t t = s.f p q := by rw [eA]; exact sfA_piv p q s
  obtain ⟨hB, hC⟩ := rnd_back hA.nb hk
  have hP : (sfA R C t s).f t t ≠ 0 := by rw [hpiv]; exact hpq
  obtain ⟨f1, f2, f3⟩ := rnd_facts hA.nb ht htC hP hB hC
  have hV : lsV R C t s = (s.f p q).natAbs := by unfold lsV; rw [e]; rfl
  have hnbC : (sfC C t (sfB R t (sfA R C t s))).NBS := sfC_nb (sfB_nb hA.nb)
  unfold rnd at hk hd ⊢
  generalize e2 : sfC C t (sfB R t (sfA R C t s)) = s2 at *
  rw [hpiv] at f1 f2 f3
  have fl2 := flg_le R C t s2
  unfold sfD at hk hd ⊢
  rcases hcl : clnS R C t s2.f with _ | _
  · rw [if_neg Bool.false_ne_true]
    refine ⟨?_, by show s2.f t t ≠ 0; rw [f1]; exact hpq⟩
    have hlt : lsV R C t s2 < (s.f p q).natAbs := by
      rcases clnS_no hcl with ⟨x, h1, h2, h3⟩ | ⟨y, h1, h2, h3⟩
      · have h4 := lsV_le (s := s2) (R := R) (C := C) (t := t) (by omega) h2 (Nat.le_refl _) htC h3
        have h5 := emod_small (a := (sfA R C t s).f x t) hpq
        rw [← f2 x h1 h2] at h5
        omega
      · have h4 := lsV_le (s := s2) (R := R) (C := C) (t := t) (Nat.le_refl _) ht (by omega) h2 h3
        have h5 := emod_small (a := (sfA R C t s).f t y) hpq
        rw [← f3 y h1 h2] at h5
        omega
    unfold sfMs
    show 2 * lsV R C t s2 + flg R C t s2 < _
    omega
  · rw [if_pos hcl] at hk hd
    rw [if_pos rfl]
    rcases hf : fd R C t s2.f with _ | i
    · rw [hf] at hd; cases hd
    · rw [hf] at hk
      obtain ⟨z1, z2⟩ := clnS_yes hcl
      obtain ⟨i1, i2, i3⟩ := fd_some hf
      obtain ⟨y0, y1, y2, y3, y4⟩ := fdR_iff.1 i3
      have hk2 : OKF R C (opA s2.f t i 1) := hk.f
      have hval : ∀ y, y < C → opA s2.f t i 1 t y = s2.f t y + s2.f i y := fun y hy => by
        obtain ⟨_, _, a, _⟩ := opA_num (hk2 t y ht hy)
        rw [a, Int.mul_one]
      have v1 : opA s2.f t i 1 t t = s.f p q := by rw [hval t htC, z1 i i1 i2, f1, Int.add_zero]
      have v2 : opA s2.f t i 1 t y0 = s2.f i y0 := by rw [hval y0 y2, z2 y0 y1 y2, Int.zero_add]
      have v3 : (opA s2.f t i 1 t y0).tmod (opA s2.f t i 1 t t) ≠ 0 := by rw [v1, v2, ← f1]; exact y4
      have hnz : opA s2.f t i 1 t t ≠ 0 := by rw [v1]; exact hpq
      refine ⟨?_, hnz⟩
      have h4 := lsV_le (s := s2.wr (s2.row.add t i 1)) (R := R) (C := C) (t := t) (Nat.le_refl _) ht (Nat.le_refl _) htC hnz
      have h5 : ((s2.wr (s2.row.add t i 1)).f t t).natAbs = (s.f p q).natAbs := by rw [← v1]; rfl
      have h6 := flg_le R C t (s2.wr (s2.row.add t i 1))
      show sfMs R C t (s2.wr (s2.row.add t i 1)) < _
      unfold sfMs
      rw [hV]
      by_cases hlt : lsV R C t (s2.wr (s2.row.add t i 1)) < (s.f p q).natAbs
      · omega
      · have hE : lsV R C t (s2.wr (s2.row.add t i 1)) = (s.f p q).natAbs := by omega
        have hf0 : flg R C t (s2.wr (s2.row.add t i 1)) = 0 := by
          unfold flg
          rw [if_pos ⟨by rw [hE, h5], fdR_iff.2 ⟨y0, y1, y2, (hk2 t y0 ht y2).ne, v3⟩⟩]
        have hf1 : flg R C t s = 1 := by
          unfold flg
          rw [if_neg]
          rintro ⟨g1, g2⟩
          rw [hV] at g1
          have htz : s.f t t ≠ 0 := by intro h0; rw [h0] at g1; simp at g1; omega
          have hpt : p = t ∧ q = t := Decidable.byContradiction fun hc => by have := hfirst htz hc; omega
          have eS : sfA R C t s = s := by rw [eA, hpt.1, hpt.2]; exact sfA_same s
          obtain ⟨y, k1, k2, k3, k4⟩ := fdR_iff.1 g2
          have := f3 y k1 k2
          rw [z2 y k1 k2, eS, hpt.1, hpt.2] at this
          exact k4 (tmodz_iff.2 this.symm)
        omega
/-- Rounds till nothing is left at (t, t). -/
def sfIn (R C t : Nat) (s : SS) : Option SS :=
  if (rnd R C t s).1.ok R C then
    if (rnd R C t s).2 then some (rnd R C t s).1
    else if h : sfMs R C t (rnd R C t s).1 < sfMs R C t s then sfIn R C t (rnd R C t s).1 else none
  else none
termination_by sfMs R C t s
theorem sfIn_bad {R C t : Nat} {s : SS} (h : (rnd R C t s).1.ok R C = false) : sfIn R C t s = none := by
  rw [sfIn, if_neg (by rw [h]; exact Bool.false_ne_true)]
theorem sfIn_done {R C t : Nat} {s : SS} (h : (rnd R C t s).1.ok R C = true) (h2 : (rnd R C t s).2 = true) : sfIn R C t s = some (rnd R C t s).1 := by
  rw [sfIn, if_pos h, if_pos h2]
theorem sfIn_next {R C t : Nat} {s : SS} (h : (rnd R C t s).1.ok R C = true) (h2 : (rnd R C t s).2 = false) (h3 : sfMs R C t (rnd R C t s).1 < sfMs R C t s) : sfIn R C t s = sfIn R C t (rnd R C t s).1 := by
  conv => lhs; rw [sfIn]
  rw [if_pos h, if_neg (by rw [h2]; exact Bool.false_ne_true), dif_pos h3]
def sfN (t : Nat) (s : SS) : SS := if s.f t t < 0 then s.wr (s.row.neg t) else s
theorem SGD.n {R C t : Nat} {s : SS} (h : SGD R C s) (ht : t < R) : SGD R C (sfN t s) := by
  unfold sfN
  split
  · exact h.wr (h.row.neg ht)
  · exact h
def sfOut (R C : Nat) : Nat → Nat → SS → Option SS
  | 0, _, s => some s
  | m + 1, t, s => if (ls2 R C s.f t).1 < 0 then some s else (sfIn R C t s).bind fun s' => sfOut R C m (t + 1) (sfN t s')
def sfGo (R C m t : Nat) (o : Option SS) : Option SS := o.bind fun s' => sfOut R C m (t + 1) (sfN t s')
theorem sfOut_zero (R C t : Nat) (s : SS) : sfOut R C 0 t s = some s := rfl
theorem sfOut_stop {R C m t : Nat} {s : SS} (h : (ls2 R C s.f t).1 < 0) : sfOut R C (m + 1) t s = some s := by
  show (if _ then _ else _) = _
  rw [if_pos h]
theorem sfOut_go {R C m t : Nat} {s : SS} (h : ¬ (ls2 R C s.f t).1 < 0) : sfOut R C (m + 1) t s = sfGo R C m t (sfIn R C t s) := by
  show (if _ then _ else _) = _
  rw [if_neg h]
  rfl
def sfRun (R C : Nat) (f : Fn2) : Option SS := sfOut R C (min R C) 0 ⟨f, idF, idF⟩
def sfX (r c : Int) (xs : List Int) : Option SS := if isMat r c xs then sfRun r.toNat c.toNat (fun i j => cel xs c i j) else none
theorem sfX_no {r c : Int} {xs : List Int} (h : isMat r c xs = false) : sfX r c xs = none := by unfold sfX; rw [h]; rfl
theorem sfX_yes {R C : Nat} {xs : List Int} (h : isMat R C xs = true) : sfX R C xs = sfOut R C (min R C) 0 ⟨fun i j => cel xs C i j, idF, idF⟩ := by unfold sfX; rw [h]; rfl
end Go.Proofs.Ytacjonkehcamgaa

/-
  DERIVED. The cursor that draws numbers out of bytes: what the reference's l1New, l1Byte, l1Below, l1Once, l1PickInt, l1Odd, l1Num return, and that they turn the cursor alone.
-/
namespace Go.Proofs.Ytacjonkehcamgaa
open Go.RowKit
set_option linter.unusedVariables false
set_option linter.unusedSimpArgs false
/-- A slice of bytes reads as xs. -/
def RB (w : World) (B : Nat) (A : Option Addr) (n : Nat) (xs : List Int) : Prop :=
  xs.length = n ∧ (0 < n → ∃ b o, A = some ⟨b, o, none⟩ ∧ b < B ∧ ∀ k, k < n → w.cell? ⟨b, o + k, none⟩ = some (.int .u8 (xs.getD k 0))) ∧ ∀ k, 0 ≤ xs.getD k 0 ∧ xs.getD k 0 ≤ 255
section
variable {w w' : World} {B n : Nat} {A : Option Addr} {xs : List Int}
theorem RB.keep (h : RB w B A n xs) (hk : ∀ p : Addr, p.block < B → w'.cell? p = w.cell? p) : RB w' B A n xs :=
  ⟨h.1, fun hn => by
    obtain ⟨b, o, e, hb, hc⟩ := h.2.1 hn
    exact ⟨b, o, e, hb, fun k hk' => (hk _ hb).trans (hc k hk')⟩, h.2.2⟩
theorem RB.below {C : Nat} (h : RB w B A n xs) (hb : Below C w w') (hC : B ≤ C) : RB w' B A n xs := h.keep fun _ hp => hb.cell (by omega)
theorem RB.grown {row : Option Nat} (h : RB w B A n xs) (hg : w.grownBy w' row) (hB : B ≤ w.heap.size) (hr : ∀ g, row = some g → B ≤ g) : RB w' B A n xs :=
  h.keep fun p hp => World.cell?_of_block (hg.block p.block (by omega) (fun e => by have := hr _ e.symm; omega))
theorem RB.drew (h : RB w B A n xs) : RB w.drew B A n xs := h
theorem RB.drewN (h : RB w B A n xs) (k : Nat) : RB (w.drewN k) B A n xs := h
theorem RB.alloc (h : RB w B A n xs) (hB : B ≤ w.heap.size) (o : Obj) : RB (w.alloc o) B A n xs := h.keep fun p hp => World.cell?_alloc_lt w o p (by omega)
theorem RB.setCell (h : RB w B A n xs) {p : Addr} (hB : B ≤ p.block) (u : Value) : RB (w.setCell p u) B A n xs := h.keep fun q hq => by
  have : q.block ≠ p.block := by omega
  exact World.cell?_of_block (Below.heap_setCell w p u q.block this)
end
/-- Block b is a cursor upon the bytes of a slice. -/
def CU (w : World) (b : Nat) (A : Option Addr) (n cap : Nat) : Prop :=
  ∃ i h : Int, (0 ≤ i ∧ i ≤ n) ∧ Blk w b 157 #[.slice A n cap, .int .i64 i, .int .i64 h]
theorem bits_and_bd (x : Int) (m : Nat) (hm : m < 4611686018427387904) : 0 ≤ bits .and .i64 x m ∧ bits .and .i64 x m ≤ m := by
  have h1 : bits .and .i64 x m = IntKind.wrap .i64 ((BitVec.ofInt 64 x &&& BitVec.ofInt 64 (m : Int)).toNat : Int) := rfl
  have h2 : (BitVec.ofInt 64 x &&& BitVec.ofInt 64 (m : Int)).toNat ≤ m := by
    rw [BitVec.toNat_and]
    refine Nat.le_trans Nat.and_le_right ?_
    have : BitVec.ofInt 64 (m : Int) = BitVec.ofNat 64 m := by simp
    rw [this, BitVec.toNat_ofNat]
    exact Nat.mod_le _ _
  rw [h1, IntWalk.i64_in _ (by omega)]
  omega
section
variable {w w' w'' : World} {b n cap : Nat} {A : Option Addr}
theorem CU.lt (h : CU w b A n cap) : b < w.heap.size := by obtain ⟨i, q, _, h⟩ := h; exact h.lt
theorem CU.drew (h : CU w b A n cap) : CU w.drew b A n cap := by obtain ⟨i, q, a, h⟩ := h; exact ⟨i, q, a, h.drew⟩
theorem CU.drewN (h : CU w b A n cap) (k : Nat) : CU (w.drewN k) b A n cap := by obtain ⟨i, q, a, h⟩ := h; exact ⟨i, q, a, h.drewN k⟩
theorem CU.alloc (h : CU w b A n cap) (o : Obj) : CU (w.alloc o) b A n cap := by obtain ⟨i, q, a, h⟩ := h; exact ⟨i, q, a, h.alloc o⟩
theorem CU.grown {row : Option Nat} (h : CU w b A n cap) (hg : w.grownBy w' row) (hne : some b ≠ row) : CU w' b A n cap := by obtain ⟨i, q, a, h⟩ := h; exact ⟨i, q, a, h.grown hg hne⟩
theorem CU.below {D : Nat} (h : CU w b A n cap) (hb : Below D w w') (hD : b < D) : CU w' b A n cap := by obtain ⟨i, q, a, h⟩ := h; exact ⟨i, q, a, h.below hb hD⟩
theorem CU.far (h : CU w b A n cap) {p : Addr} (hp : b ≠ p.block) (u : Value) : CU (w.setCell p u) b A n cap := by obtain ⟨i, q, a, h⟩ := h; exact ⟨i, q, a, h.far hp u⟩
end
theorem grown_setLater {a w : World} {row : Option Nat} (h : a.grownBy w row) {p : Addr} (hp : a.heap.size ≤ p.block) (u : Value) : a.grownBy (w.setCell p u) row :=
  ⟨h.os, h.tape, h.output, by simpa [World.setCell] using h.size, fun i hi hne => (Below.heap_setCell w p u i (by omega)).trans (h.block i hi hne)⟩
/-- From world w0 to world w the cursor alone has turned, and blocks were laid; the cursor's bytes read as they did. -/
structure CT (w0 w : World) (B b n cap : Nat) (A : Option Addr) (xs : List Int) : Prop where
  cu : CU w b A n cap
  rb : RB w B A n xs
  gr : w0.grownBy w (some b)
  hB : B ≤ b
  hb : b < w0.heap.size
  hn : n ≤ 2000000
section
variable {w0 w w' : World} {B b n cap : Nat} {A : Option Addr} {xs : List Int}
theorem CT.self (h : CT w0 w B b n cap A xs) : CT w w B b n cap A xs := ⟨h.cu, h.rb, World.grownBy.refl _ _, h.hB, h.cu.lt, h.hn⟩
theorem CT.trans (h : CT w0 w B b n cap A xs) (k : CT w w' B b n cap A xs) : CT w0 w' B b n cap A xs := ⟨k.cu, k.rb, only_trans h.gr k.gr, h.hB, h.hb, h.hn⟩
theorem CT.size (h : CT w0 w B b n cap A xs) : w0.heap.size ≤ w.heap.size := h.gr.size
theorem CT.drew (h : CT w0 w B b n cap A xs) : CT w0 w.drew B b n cap A xs := ⟨h.cu.drew, h.rb.drew, only_drew h.gr, h.hB, h.hb, h.hn⟩
theorem CT.drewN (h : CT w0 w B b n cap A xs) (k : Nat) : CT w0 (w.drewN k) B b n cap A xs := ⟨h.cu.drewN k, h.rb.drewN k, only_drewN h.gr k, h.hB, h.hb, h.hn⟩
theorem CT.alloc (h : CT w0 w B b n cap A xs) (o : Obj) : CT w0 (w.alloc o) B b n cap A xs :=
  ⟨h.cu.alloc o, h.rb.alloc (by have := h.hB; have := h.cu.lt; omega) o, only_alloc h.gr o, h.hB, h.hb, h.hn⟩
theorem CT.far (h : CT w0 w B b n cap A xs) {p : Addr} (hp : w0.heap.size ≤ p.block) (u : Value) : CT w0 (w.setCell p u) B b n cap A xs :=
  have h1 := h.hb
  have h2 := h.hB
  ⟨h.cu.far (by omega) u, h.rb.setCell (by omega) u, grown_setLater h.gr hp u, h.hB, h.hb, h.hn⟩
theorem CT.below {D : Nat} (h : CT w0 w B b n cap A xs) (hb : Below D w w') (hD : w0.heap.size ≤ D) : CT w0 w' B b n cap A xs :=
  have h1 := h.hb
  have h2 := h.hB
  have hs := h.size
  ⟨h.cu.below hb (by omega), h.rb.below hb (by omega), ⟨hb.os.trans h.gr.os, hb.tape.trans h.gr.tape, hb.output.trans h.gr.output, Nat.le_trans h.gr.size hb.size, fun i hi hne => (hb.block i (by omega)).trans (h.gr.block i hi hne)⟩, h.hB, h.hb, h.hn⟩
theorem CT.grown {g : Nat} (h : CT w0 w B b n cap A xs) (hg : w.grownBy w' (some g)) (hD : w0.heap.size ≤ g) : CT w0 w' B b n cap A xs :=
  have h1 := h.hb
  have h2 := h.hB
  ⟨h.cu.grown hg (by intro e; cases e; omega), h.rb.grown hg (by have := h.cu.lt; omega) (fun q e => by cases e; omega), ⟨hg.os.trans h.gr.os, hg.tape.trans h.gr.tape, hg.output.trans h.gr.output, Nat.le_trans h.gr.size hg.size, fun i hi hne => (hg.block i (by have := h.gr.size; omega) (by intro e; cases e; omega)).trans (h.gr.block i hi hne)⟩, h.hB, h.hb, h.hn⟩
end
/-- A call that turned just the cursor, and returned what P says. -/
def DRV (P : World → Value → Prop) (B b n cap : Nat) (A : Option Addr) (xs : List Int) (w : World) (e : Ending) (w' : World) : Prop :=
  ∃ v, e = .returned v ∧ P w' v ∧ CT w w' B b n cap A xs
/-- A number from 0 on less than k, or 0. -/
def Upto (k : Int) (v : Value) : Prop := ∃ x : Int, v = .int .i64 x ∧ 0 ≤ x ∧ (x < k ∨ x = 0)
/-- An int within some bounds. -/
def I64 (lo hi : Int) (v : Value) : Prop := ∃ x : Int, v = .int .i64 x ∧ lo ≤ x ∧ x ≤ hi
def IsB (v : Value) : Prop := ∃ b : Bool, v = .bool b
theorem wrap64_bd (x : Int) : -9223372036854775808 ≤ wrap64 x ∧ wrap64 x ≤ 9223372036854775807 := by unfold wrap64; omega
set_option maxRecDepth 100000 in
set_option maxHeartbeats 4000000 in
theorem spec_l1Byte (b n cap : Nat) (A : Option Addr) (xs : List Int) (w : World) {B : Nat} (hct : CT w w B b n cap A xs) :
    Calls Try.prog 229 #[.pointer (some ⟨b, 0, none⟩)] w (DRV (fun _ => Upto 256) B b n cap A xs w) := by
  have hB := hct.hB
  have hn := hct.hn
  have hby := hct.rb
  obtain ⟨i, h, ⟨h1, h2⟩, hX⟩ := hct.cu
  clear hct
  have HBY := Lib.hid hby
  have x0 := hX.cell 0
  have x1 := hX.cell 1
  have x2 := hX.cell 2
  have xf := hX.frozen
  have hl := hX.lt
  simp at x0 x1 x2
  by_cases hi : i < n
  · obtain ⟨g, o, rfl, hg, hc⟩ := hby.2.1 (by omega)
    have hv := hc i.toNat (by omega)
    obtain ⟨v1, v2⟩ := hby.2.2 i.toNat
    generalize xs.getD i.toNat 0 = v at *
    clear hc hby
    have hgb : ¬ g = b := by omega
    go_enter Try.func229, Try.ntmps229
    go_wp2_with fail
    have hq := wrap64_bd (wrap64 (h * 6364136223846793005) + 1442695040888963407)
    generalize wrap64 (wrap64 (h * 6364136223846793005) + 1442695040888963407) = q at hq
    go_region
    all_goals go_wp2
    all_goals have hy := bits_and_bd (bits BinOp.xor IntKind.i64 (q / 8589934592) (q / 35184372088832)) 255 (by decide)
    all_goals generalize bits BinOp.and IntKind.i64 (bits BinOp.xor IntKind.i64 (q / 8589934592) (q / 35184372088832)) 255 = y at hy
    go_region
    all_goals go_wp2
    go_region
    all_goals go_wp2
    have hz := bits_and_bd (y + v) 255 (by decide)
    generalize bits BinOp.and IntKind.i64 (y + v) 255 = z at hz
    go_ret
    refine ⟨_, rfl, ⟨z, rfl, by omega, .inl (by omega)⟩, ⟨i + 1, q, by omega, ?_⟩, ?_, ?_, hB, hl, hn⟩
    · exact ((hX.set_ 2 (.int .i64 q)).set_ 1 (.int .i64 (i + 1))).as rfl
    · exact RB.setCell (RB.setCell HBY.out (by simp; omega) _) (by simp; omega) _
    · exact only_drew (only_drew (only_drew (only_set (only_set (World.grownBy.refl w _) 2 _) 1 _)))
  · clear hby
    go_enter Try.func229, Try.ntmps229
    go_wp2_with fail
    have hq := wrap64_bd (wrap64 (h * 6364136223846793005) + 1442695040888963407)
    generalize wrap64 (wrap64 (h * 6364136223846793005) + 1442695040888963407) = q at hq
    go_region
    all_goals go_wp2
    have hy := bits_and_bd (bits BinOp.xor IntKind.i64 (q / 8589934592) (q / 35184372088832)) 255 (by decide)
    generalize bits BinOp.and IntKind.i64 (bits BinOp.xor IntKind.i64 (q / 8589934592) (q / 35184372088832)) 255 = y at hy
    go_region
    all_goals go_wp2
    go_ret
    refine ⟨_, rfl, ⟨y, rfl, by omega, .inl (by omega)⟩, ⟨i, q, by omega, ?_⟩, ?_, ?_, hB, hl, hn⟩
    · exact (hX.set_ 2 (.int .i64 q)).as rfl
    · exact RB.setCell HBY.out (by simp; omega) _
    · exact only_drew (only_drew (only_set (World.grownBy.refl w _) 2 _))
theorem tmod_bd {x n : Int} (hx : 0 ≤ x) (hn : 0 < n) : 0 ≤ x.tmod n ∧ x.tmod n < n := ⟨Int.tmod_nonneg n hx, Int.tmod_lt_of_pos x hn⟩
set_option maxRecDepth 100000 in
set_option maxHeartbeats 4000000 in
theorem spec_l1Below (b n cap : Nat) (A : Option Addr) (xs : List Int) (k : Int) (w : World) {B : Nat} (hct : CT w w B b n cap A xs) :
    Calls Try.prog 197 #[.pointer (some ⟨b, 0, none⟩), .int .i64 k] w (DRV (fun _ => Upto k) B b n cap A xs w) := by
  have hsz := hct.size
  by_cases h0 : k ≤ 0
  · go_enter Try.func197, Try.ntmps197
    go_wp2_with fail
    go_ret
    exact ⟨_, rfl, ⟨0, rfl, by omega, .inr rfl⟩, by (with_reducible (repeat (first | exact hct | refine CT.drew ?_ | refine CT.drewN ?_ _ | refine CT.alloc ?_ _ | refine CT.far ?_ Ks _ | refine CT.below ?_ (by assumption) Ks)))⟩
  · have hk : ¬ k = 0 := by omega
    by_cases h1 : k ≤ 256
    · go_enter Try.func197, Try.ntmps197
      go_wp2_with (go_at_call 229; refine (spec_l1Byte b n cap A xs _ (CT.self (w0 := w) (B := B) (by (with_reducible (repeat (first | exact hct | refine CT.drew ?_ | refine CT.drewN ?_ _ | refine CT.alloc ?_ _ | refine CT.far ?_ Ks _ | refine CT.below ?_ (by assumption) Ks)))))).mono ?_; rintro e w1 ⟨v, rfl, ⟨x, rfl, hx0, hx1⟩, hc1⟩; have hct_1 : CT w w1 B b n cap A xs := CT.trans (by (with_reducible (repeat (first | exact hct | refine CT.drew ?_ | refine CT.drewN ?_ _ | refine CT.alloc ?_ _ | refine CT.far ?_ Ks _ | refine CT.below ?_ (by assumption) Ks)))) hc1; clear hct hc1; have hct := hct_1; clear hct_1; have hsz := hct.size)
      have he1 := Int.emod_nonneg x hk
      have he2 := Int.emod_lt_of_pos x (show 0 < k by omega)
      go_ret
      exact ⟨_, rfl, ⟨_, rfl, he1, .inl he2⟩, by (with_reducible (repeat (first | exact hct | refine CT.drew ?_ | refine CT.drewN ?_ _ | refine CT.alloc ?_ _ | refine CT.far ?_ Ks _ | refine CT.below ?_ (by assumption) Ks)))⟩
    · go_enter Try.func197, Try.ntmps197
      go_wp2_with (go_at_call 229; refine (spec_l1Byte b n cap A xs _ (CT.self (w0 := w) (B := B) (by (with_reducible (repeat (first | exact hct | refine CT.drew ?_ | refine CT.drewN ?_ _ | refine CT.alloc ?_ _ | refine CT.far ?_ Ks _ | refine CT.below ?_ (by assumption) Ks)))))).mono ?_; rintro e w1 ⟨v, rfl, ⟨x, rfl, hx0, hx1⟩, hc1⟩; have hct_1 : CT w w1 B b n cap A xs := CT.trans (by (with_reducible (repeat (first | exact hct | refine CT.drew ?_ | refine CT.drewN ?_ _ | refine CT.alloc ?_ _ | refine CT.far ?_ Ks _ | refine CT.below ?_ (by assumption) Ks)))) hc1; clear hct hc1; have hct := hct_1; clear hct_1; have hsz := hct.size)
      go_ret
      exact ⟨_, rfl, ⟨_, rfl, Int.emod_nonneg _ hk, .inl (Int.emod_lt_of_pos _ (by omega))⟩, by (with_reducible (repeat (first | exact hct | refine CT.drew ?_ | refine CT.drewN ?_ _ | refine CT.alloc ?_ _ | refine CT.far ?_ Ks _ | refine CT.below ?_ (by assumption) Ks)))⟩
theorem spec_l1Once (b n cap : Nat) (A : Option Addr) (xs : List Int) (k : Int) (w : World) {B : Nat} (hct : CT w w B b n cap A xs) :
    Calls Try.prog 170 #[.pointer (some ⟨b, 0, none⟩), .int .i64 k] w (DRV (fun _ => IsB) B b n cap A xs w) := by
  have hsz := hct.size
  go_enter Try.func170, Try.ntmps170
  go_wp2_with (go_at_call 197; refine (spec_l1Below b n cap A xs k _ (CT.self (w0 := w) (B := B) (by (with_reducible (repeat (first | exact hct | refine CT.drew ?_ | refine CT.drewN ?_ _ | refine CT.alloc ?_ _ | refine CT.far ?_ Ks _ | refine CT.below ?_ (by assumption) Ks)))))).mono ?_; rintro e w1 ⟨v, rfl, ⟨x, rfl, hx0, hx1⟩, hc1⟩; have hct_1 : CT w w1 B b n cap A xs := CT.trans (by (with_reducible (repeat (first | exact hct | refine CT.drew ?_ | refine CT.drewN ?_ _ | refine CT.alloc ?_ _ | refine CT.far ?_ Ks _ | refine CT.below ?_ (by assumption) Ks)))) hc1; clear hct hc1; have hct := hct_1; clear hct_1; have hsz := hct.size)
  go_ret
  exact ⟨_, rfl, ⟨_, rfl⟩, by (with_reducible (repeat (first | exact hct | refine CT.drew ?_ | refine CT.drewN ?_ _ | refine CT.alloc ?_ _ | refine CT.far ?_ Ks _ | refine CT.below ?_ (by assumption) Ks)))⟩
/-- One of the numbers of a list. -/
def OneOf (ys : List Int) (v : Value) : Prop := ∃ x : Int, v = .int .i64 x ∧ x ∈ ys
set_option maxRecDepth 100000 in
set_option maxHeartbeats 4000000 in
theorem spec_l1PickInt (b n cap : Nat) (A : Option Addr) (xs : List Int) (A2 : Option Addr) (n2 cap2 : Nat) (ys : List Int) (w : World) {B B2 : Nat} (hct : CT w w B b n cap A xs) (hri : RI w B2 A2 n2 ys) (hB2 : B2 ≤ w.heap.size) (hne : ∀ p : Addr, (∃ o c, A2 = some ⟨b, o, c⟩) → False) (hn2 : 0 < n2) (hn3 : n2 ≤ 100) :
    Calls Try.prog 198 #[.pointer (some ⟨b, 0, none⟩), .slice A2 n2 cap2] w (DRV (fun _ => OneOf ys) B b n cap A xs w) := by
  have hsz := hct.size
  have hlen := hri.len
  obtain ⟨g, o, rfl, hg, hc⟩ := hri.2 hn2
  have hgb : g ≠ b := fun e => hne ⟨0, 0, none⟩ ⟨o, none, by rw [e]⟩
  have HC := Lib.hid hc
  have HLEN := Lib.hid hlen
  clear hc hri hne hlen
  go_enter Try.func198, Try.ntmps198
  go_wp2_with (go_at_call 197; refine (spec_l1Below b n cap A xs (n2 : Int) _ (CT.self (w0 := w) (B := B) (by (with_reducible (repeat (first | exact hct | refine CT.drew ?_ | refine CT.drewN ?_ _ | refine CT.alloc ?_ _ | refine CT.far ?_ Ks _ | refine CT.below ?_ (by assumption) Ks)))))).mono ?_; rintro e w1 ⟨v, rfl, ⟨x, rfl, hx0, hx1⟩, hc1⟩; have hct_1 : CT w w1 B b n cap A xs := CT.trans (by (with_reducible (repeat (first | exact hct | refine CT.drew ?_ | refine CT.drewN ?_ _ | refine CT.alloc ?_ _ | refine CT.far ?_ Ks _ | refine CT.below ?_ (by assumption) Ks)))) hc1; clear hct hc1; have hct := hct_1; clear hct_1; have hsz := hct.size; have hlt : x < n2 := (by omega); have hcell : w1.cell? ⟨g, o + x.toNat, none⟩ = some (.int .i64 (ys.getD x.toNat 0)) := (World.cell?_of_block (hct.gr.block g (by omega) (by simp; omega))).trans (HC.out x.toNat (by omega)))
  go_ret
  have hm : ys[x.toNat]?.getD 0 ∈ ys := by
    have h2 := HLEN.out
    rw [← getD_nat]
    have h3 : x.toNat < ys.length := by omega
    simp only [List.getD, List.getElem?_eq_getElem h3, Option.getD_some]
    exact List.getElem_mem h3
  exact ⟨_, rfl, ⟨_, rfl, hm⟩, by (with_reducible (repeat (first | exact hct | refine CT.drew ?_ | refine CT.drewN ?_ _ | refine CT.alloc ?_ _ | refine CT.far ?_ Ks _ | refine CT.below ?_ (by assumption) Ks)))⟩
theorem RI.lit {w : World} {g : Nat} {t : TypeId} {ys : List Int} (h : Blk w g t (ys.map (Value.int .i64)).toArray) : RI w (g + 1) (some ⟨g, 0, none⟩) ys.length ys :=
  ⟨rfl, fun _ => ⟨g, 0, rfl, by omega, fun k hk => by rw [Nat.zero_add, h.cell]; simp [hk]⟩⟩
theorem not_at {b g : Nat} (h : b < g) : ∀ p : Addr, (∃ o c, (some ⟨g, 0, none⟩ : Option Addr) = some ⟨b, o, c⟩) → False := fun _ ⟨_, _, e⟩ => by
  injection e with e; injection e with e1; omega
set_option maxRecDepth 100000 in
set_option maxHeartbeats 4000000 in
theorem spec_l1Odd (b n cap : Nat) (A : Option Addr) (xs : List Int) (w : World) {B : Nat} (hct : CT w w B b n cap A xs) :
    Calls Try.prog 230 #[.pointer (some ⟨b, 0, none⟩)] w (DRV (fun _ => I64 (-9223372036854775808) 9223372036854775807) B b n cap A xs w) := by
  have hsz := hct.size
  have hb := hct.hb
  go_enter Try.func230, Try.ntmps230
  go_wp2_with (go_at_call 198; refine (spec_l1PickInt b n cap A xs (some ⟨(w.heap.size), 0, none⟩) _ _ ([0, 1, -1, 2, 400000000, -400000000, 400000001, -400000001, 399999999, 9223372036854775807, -9223372036854775808]) _ (B2 := (w.heap.size) + 1) (CT.self (w0 := w) (B := B) (by (with_reducible (repeat (first | exact hct | refine CT.drew ?_ | refine CT.drewN ?_ _ | refine CT.alloc ?_ _ | refine CT.far ?_ Ks _ | refine CT.below ?_ (by assumption) Ks))))) ?h2 ?h3 ?h4 ?h5 ?h6).mono ?h7; (case h2 => (exact (RI.lit (Blk.new _ _ _)))); (case h3 => (exact Ks)); (case h4 => (exact (not_at Ks))); (case h5 => decide); (case h6 => decide); rintro e w1 ⟨v, rfl, ⟨x, rfl, hx0⟩, hc1⟩; have hct_1 : CT w w1 B b n cap A xs := CT.trans (by (with_reducible (repeat (first | exact hct | refine CT.drew ?_ | refine CT.drewN ?_ _ | refine CT.alloc ?_ _ | refine CT.far ?_ Ks _ | refine CT.below ?_ (by assumption) Ks)))) hc1; clear hct hc1; have hct := hct_1; clear hct_1; have hsz := hct.size)
  go_ret
  refine ⟨_, rfl, ⟨x, rfl, ?_⟩, by (with_reducible (repeat (first | exact hct | refine CT.drew ?_ | refine CT.drewN ?_ _ | refine CT.alloc ?_ _ | refine CT.far ?_ Ks _ | refine CT.below ?_ (by assumption) Ks)))⟩
  simp only [List.mem_cons, List.not_mem_nil, or_false] at hx0
  omega
set_option maxRecDepth 100000 in
set_option maxHeartbeats 4000000 in
theorem spec_l1Num (b n cap : Nat) (A : Option Addr) (xs : List Int) (most : Int) (w : World) {B : Nat} (hct : CT w w B b n cap A xs) (hm : 0 ≤ most ∧ most ≤ 1000000) :
    Calls Try.prog 200 #[.pointer (some ⟨b, 0, none⟩), .int .i64 most] w (DRV (fun _ => I64 (-9223372036854775808) 9223372036854775807) B b n cap A xs w) := by
  have hsz := hct.size
  obtain ⟨hm1, hm2⟩ := hm
  go_enter Try.func200, Try.ntmps200
  go_wp2_with (first | (go_at_call 170; refine (spec_l1Once b n cap A xs 40 _ (CT.self (w0 := w) (B := B) (by (with_reducible (repeat (first | exact hct | refine CT.drew ?_ | refine CT.drewN ?_ _ | refine CT.alloc ?_ _ | refine CT.far ?_ Ks _ | refine CT.below ?_ (by assumption) Ks)))))).mono ?_; rintro e w1 ⟨v, rfl, ⟨q, rfl⟩, hc1⟩; have hct_1 : CT w w1 B b n cap A xs := CT.trans (by (with_reducible (repeat (first | exact hct | refine CT.drew ?_ | refine CT.drewN ?_ _ | refine CT.alloc ?_ _ | refine CT.far ?_ Ks _ | refine CT.below ?_ (by assumption) Ks)))) hc1; clear hct hc1; have hct := hct_1; clear hct_1; have hsz := hct.size) | (go_at_call 197; refine (spec_l1Below b n cap A xs (2 * most + 1) _ (CT.self (w0 := w) (B := B) (by (with_reducible (repeat (first | exact hct | refine CT.drew ?_ | refine CT.drewN ?_ _ | refine CT.alloc ?_ _ | refine CT.far ?_ Ks _ | refine CT.below ?_ (by assumption) Ks)))))).mono ?_; rintro e w1 ⟨v, rfl, ⟨x, rfl, hx0, hx1⟩, hc1⟩; have hct_1 : CT w w1 B b n cap A xs := CT.trans (by (with_reducible (repeat (first | exact hct | refine CT.drew ?_ | refine CT.drewN ?_ _ | refine CT.alloc ?_ _ | refine CT.far ?_ Ks _ | refine CT.below ?_ (by assumption) Ks)))) hc1; clear hct hc1; have hct := hct_1; clear hct_1; have hsz := hct.size) | (go_at_call 230; refine (spec_l1Odd b n cap A xs _ (CT.self (w0 := w) (B := B) (by (with_reducible (repeat (first | exact hct | refine CT.drew ?_ | refine CT.drewN ?_ _ | refine CT.alloc ?_ _ | refine CT.far ?_ Ks _ | refine CT.below ?_ (by assumption) Ks)))))).mono ?_; rintro e w1 ⟨v, rfl, ⟨x, rfl, hx0, hx1⟩, hc1⟩; have hct_1 : CT w w1 B b n cap A xs := CT.trans (by (with_reducible (repeat (first | exact hct | refine CT.drew ?_ | refine CT.drewN ?_ _ | refine CT.alloc ?_ _ | refine CT.far ?_ Ks _ | refine CT.below ?_ (by assumption) Ks)))) hc1; clear hct hc1; have hct := hct_1; clear hct_1; have hsz := hct.size))
  all_goals go_ret
  all_goals exact ⟨_, rfl, ⟨_, rfl, by omega, by omega⟩, by (with_reducible (repeat (first | exact hct | refine CT.drew ?_ | refine CT.drewN ?_ _ | refine CT.alloc ?_ _ | refine CT.far ?_ Ks _ | refine CT.below ?_ (by assumption) Ks)))⟩
theorem CU.new {w : World} {b n cap : Nat} {A : Option Addr} {h : Int} (k : Blk w b 157 #[.slice A n cap, .int .i64 0, .int .i64 h]) : CU w b A n cap := ⟨0, h, by omega, k⟩
/-- The call laid a cursor. -/
def CUR (n cap : Nat) (A : Option Addr) (w : World) (e : Ending) (w' : World) : Prop := ∃ b, e = .returned (.pointer (some ⟨b, 0, none⟩)) ∧ CU w' b A n cap ∧ w.heap.size ≤ b ∧ Below w.heap.size w w'
set_option maxRecDepth 100000 in
set_option maxHeartbeats 4000000 in
theorem spec_l1New (n cap : Nat) (A : Option Addr) (xs : List Int) (w : World) {B : Nat} (hby : RB w B A n xs) (hn : n ≤ 2000000) :
    Calls Try.prog 120 #[.slice A n cap] w (CUR n cap A w) := by
  have HBY := Lib.hid hby
  clear hby
  go_enter Try.func120, Try.ntmps120
  go_wp2
  go_loopw [3, 4] (fun u v wr => ∃ (h : Int) (i : Nat), u = .int .i64 h ∧ v = .int .i64 i ∧ 0 ≤ h ∧ h ≤ 2000000000 ∧ i ≤ n ∧ wr = w) (fun _ v _ => n - (intOf v).toNat)
  case atStart => exact ⟨_, 0, rfl, rfl, by omega, by omega, by omega, rfl⟩
  case round =>
    obtain ⟨h, i, rfl, rfl, h1, h2, h3, rfl⟩ := hrel
    by_cases hi : i < n
    · by_cases hi4 : i < 4000
      · obtain ⟨g, o, rfl, hg, hc⟩ := HBY.out.2.1 (by omega)
        have hv := hc i hi
        obtain ⟨v1, v2⟩ := HBY.out.2.2 i
        generalize xs.getD i 0 = v at *
        clear hc
        go_wp2
        have hz := bits_and_bd (h * 131 + v + 7) 1073741823 (by decide)
        generalize bits BinOp.and IntKind.i64 (h * 131 + v + 7) 1073741823 = z at hz
        exact ⟨⟨_, i + 1, rfl, by simp, by omega, by omega, by omega, trivial⟩, by simp only [intOf]; omega⟩
      · go_wp2
        go_ret
        exact ⟨_, rfl, CU.new (Blk.new _ _ _), Nat.le_refl _, Kw⟩
    · go_wp2
      go_ret
      exact ⟨_, rfl, CU.new (Blk.new _ _ _), Nat.le_refl _, Kw⟩
theorem CT.new {w : World} {B b n cap : Nat} {A : Option Addr} {xs : List Int} (hcu : CU w b A n cap) (hby : RB w B A n xs) (hB : B ≤ b) (hn : n ≤ 2000000) : CT w w B b n cap A xs := ⟨hcu, hby, World.grownBy.refl _ _, hB, hcu.lt, hn⟩
/-- What is below the cursor is as it was. -/
theorem CT.under {w w' : World} {B b n cap D : Nat} {A : Option Addr} {xs : List Int} (h : CT w w' B b n cap A xs) (hD : D ≤ b) : Below D w w' := only_below h.gr (by have := h.hb; omega) fun g e => by cases e; exact hD
end Go.Proofs.Ytacjonkehcamgaa

/-
  DERIVED. IsHermite of the program.
-/
namespace Go.Proofs.Ytacjonkehcamgaa
open Go.RowKit
set_option linter.unusedVariables false
set_option linter.unusedSimpArgs false
set_option maxHeartbeats 4000000 in
theorem impl_IsHermite (r c : Int) (A : Option Addr) (n cap : Nat) (xs : List Int) (w : World) {B : Nat} (h : RI w B A n xs) (hB : B ≤ w.heap.size) (hn : n ≤ 1048576) (hnc : n ≤ cap) (hcap : cap ≤ 9223372036854775807) :
    Calls Try.prog 53 #[.agg #[.int .i64 r, .int .i64 c, .slice A n cap]] w (BV (.bool (hermB r c xs)) w) := by
  have hlen := h.len
  have H2 := Lib.hid (h.more hB)
  clear h
  unfold hermB
  rcases hm : isMat r c xs with _ | _
  · rw [Bool.false_and]
    have HM := Lib.hid hm
    clear hm
    go_enter Try.func53, Try.ntmps53
    go_wp2_with (go_at_call 103; refine (impl_IsMatrix r c A n cap xs _ (C := w.heap.size) (Kr H2.out) Ks hn).mono ?_; rw [HM.out]; rintro e w1 ⟨rfl, hb⟩; have hz := hb.size; (try simp at hz); have kk := bkeep (w := w) hb Ks; obtain ⟨kc, kf⟩ := kk; (try (have kk := bkeepb (w.heap.size) hb Ks; obtain ⟨kc0, kf0, kl0⟩ := kk)); (try (have kk := bkeepb (w.heap.size + 1) hb Ks; obtain ⟨kc1, kf1, kl1⟩ := kk)); (try (have kk := bkeepb (w.heap.size + 1 + 1) hb Ks; obtain ⟨kc2, kf2, kl2⟩ := kk)); (try (have kk := bkeepb (w.heap.size + 1 + 1 + 1) hb Ks; obtain ⟨kc3, kf3, kl3⟩ := kk)); (try (have kk := bkeepb (wr.heap.size) hb Ks; obtain ⟨kr0, ks0, kt0⟩ := kk)); (try (have kk := bkeepb (wr.heap.size + 1) hb Ks; obtain ⟨kr1, ks1, kt1⟩ := kk)); (try (have kk := bkeepb (wr.heap.size + 1 + 1) hb Ks; obtain ⟨kr2, ks2, kt2⟩ := kk)))
    go_ret
    exact BV.mk rfl Kw
  · rw [Bool.true_and]
    have M := isMat_iff.1 hm
    have HM := Lib.hid hm
    obtain ⟨R, rfl⟩ := nat_of M.r0
    obtain ⟨C, rfl⟩ := nat_of M.c0
    have hR := M.r1
    have hC := M.c1
    have hl1 : (n : Int) ≤ (R : Int) * (C : Int) ∧ (R : Int) * (C : Int) ≤ n := by have := M.len; omega
    have HL : Hid (xs.length = R * C) := Lib.hid (by have := M.len; rw [← Int.natCast_mul] at this; omega)
    have hcb := Lib.hid (fun i j => M.cel_bd i j)
    clear hm M hlen
    simp only [Int.toNat_natCast]
    go_enter Try.func53, Try.ntmps53
    go_wp2_with (go_at_call 103; refine (impl_IsMatrix R C A n cap xs _ (C := w.heap.size) (Kr H2.out) Ks hn).mono ?_; rw [HM.out]; rintro e w1 ⟨rfl, hb⟩; have hz := hb.size; (try simp at hz); have kk := bkeep (w := w) hb Ks; obtain ⟨kc, kf⟩ := kk; (try (have kk := bkeepb (w.heap.size) hb Ks; obtain ⟨kc0, kf0, kl0⟩ := kk)); (try (have kk := bkeepb (w.heap.size + 1) hb Ks; obtain ⟨kc1, kf1, kl1⟩ := kk)); (try (have kk := bkeepb (w.heap.size + 1 + 1) hb Ks; obtain ⟨kc2, kf2, kl2⟩ := kk)); (try (have kk := bkeepb (w.heap.size + 1 + 1 + 1) hb Ks; obtain ⟨kc3, kf3, kl3⟩ := kk)); (try (have kk := bkeepb (wr.heap.size) hb Ks; obtain ⟨kr0, ks0, kt0⟩ := kk)); (try (have kk := bkeepb (wr.heap.size + 1) hb Ks; obtain ⟨kr1, ks1, kt1⟩ := kk)); (try (have kk := bkeepb (wr.heap.size + 1 + 1) hb Ks; obtain ⟨kr2, ks2, kt2⟩ := kk)))
    have hO : BM w1 (w.heap.size) R C A n cap := Ka
    have hbw : Below w.heap.size w w1 := Kw
    clear kc kf kc0 kf0 kl0 hz hb
    go_loopw [3, 4] (fun u v wr => ∃ i : Nat, v = .int .i64 i ∧ u = .int .i64 (lastP xs C i) ∧ i ≤ R ∧ (List.range i).all (hrow xs C) = true ∧ BM wr w.heap.size R C A n cap ∧ Below w.heap.size w wr) (fun _ v _ => R - (intOf v).toNat)
    case atStart => exact ⟨0, rfl, by rw [lastP_zero], Nat.zero_le _, by simp, hO, hbw⟩
    case round =>
      clear hO hbw
      obtain ⟨i, rfl, rfl, hi, hal0, hO, hbw⟩ := hrel
      have hal := Lib.hid hal0
      clear hal0
      obtain ⟨oa, ob, oc, of, ol⟩ := hO.mx
      by_cases hiR : i < R
      · have hpl := pv_le HL.out hiR
        have hsu := range_all_succ (fun i => hrow xs C i) i
        have hno := fun h => range_all_false (p := fun i => hrow xs C i) hiR h
        rw [show (List.range i).all (fun i => hrow xs C i) = true from hal.out, Bool.true_and] at hsu
        have hsu2 := lastP_succ xs C i
        have HI : Hid (i * C + C ≤ n) := Lib.hid (by have h3 := Nat.mul_le_mul_right C (show i + 1 ≤ R by omega); rw [Nat.add_mul, Nat.one_mul] at h3; have h4 := HL.out; have := H2.out.len; omega)
        have hrl := rowL_len (xs := xs) (C := C) (i := i) (by have h4 := HI.out; have := H2.out.len; omega)
        have hfc : fcI (rowL xs C i) = if pv xs C i < C then (pv xs C i : Int) else -1 := by unfold fcI pv; rw [hrl]
        have hlb : -1 ≤ lastP xs C i ∧ lastP xs C i ≤ 24 := by
          rcases Nat.eq_zero_or_pos i with h0 | h0
          · subst h0; rw [lastP_zero]; omega
          · obtain ⟨j, rfl⟩ : ∃ j, i = j + 1 := ⟨i - 1, by omega⟩
            rw [lastP_succ]
            have := pv_le HL.out (show j < R by omega); omega
        by_cases hp : pv xs C i < C
        · have HF : Hid (fcI (rowL xs C i) = (pv xs C i : Int)) := Lib.hid (by rw [hfc, if_pos hp])
          have hrw : hrow xs C i = (decide (lastP xs C i < pv xs C i) && decide (0 ≤ cel xs C i (pv xs C i)) && (List.range i).all (hcA xs C i)) := by unfold hrow; rw [if_pos hp]
          clear hfc hrl
          obtain ⟨y1, y2⟩ := hcb.out i (pv xs C i)
          rw [hrw] at hsu hno
          clear hrw
          obtain ⟨x1, x2, x3, x4⟩ := idx_bd (r := R) (c := C) (i := i) (j := pv xs C i) hR hC (by omega) (by omega) (by omega) (by omega)
          have HP : Hid (∀ k, hcA xs C i k = (decide (0 ≤ cel xs C k (pv xs C i)) && decide (cel xs C k (pv xs C i) < cel xs C i (pv xs C i)))) := Lib.hid (fun _ => rfl)
          have HS := Lib.hid hsu
          have HNO := Lib.hid hno
          have HSU := Lib.hid hsu2
          clear hsu hno hsu2
          go_wp2_with fail
          refine (impl_row R C i A n cap xs _ (B := w.heap.size) (Kr H2.out) Ks hnc hcap (by omega) (by omega) HI.out).mono ?_
          rintro e w1 ⟨A', cap', rfl, hri, hb, hc1, hc2⟩
          have hO_1 : BM w1 (w.heap.size) R C A n cap := (Kb hO); have hbw_1 : Below w.heap.size w w1 := Kw; clear hO hbw; have hO := hO_1; have hbw := hbw_1; clear hO_1 hbw_1; clear oa ob oc of ol; obtain ⟨oa, ob, oc, of, ol⟩ := hO.mx
          have HRI := Lib.hid hri
          clear hri
          go_wp2_with fail
          refine (impl_firstCell A' C cap' _ _ HRI.out (by omega)).mono ?_
          rw [HF.out]
          rintro e w' ⟨rfl, rfl⟩
          generalize pv xs C i = p at *
          by_cases hlp : (p : Int) ≤ lastP xs C i
          · have hf := Lib.hid (HNO.out (by simp; omega))
            generalize lastP xs C i = l at *
            go_wp2_with fail
            go_ret
            exact BV.mk (vbool hf.out.symm) Kw
          · generalize lastP xs C i = l at *
            have hlp' : decide ((p : Int) ≤ l) = false := by simp; omega
            by_cases hng : cel xs C i p < 0
            · have hf := Lib.hid (HNO.out (by simp; omega))
              go_wp2_with (go_at_call 117; refine (impl_at _ _ _ _ _ _ _ xs _ (C := w.heap.size) (Kr H2.out) Ks ⟨by omega, by omega⟩ ⟨by omega, by omega⟩ (by omega)).mono ?_; rintro e w1 ⟨rfl, hb⟩; have hO_1 : BM w1 (w.heap.size) R C A n cap := (Kb hO); have hbw_1 : Below w.heap.size w w1 := Kw; clear hO hbw; have hO := hO_1; have hbw := hbw_1; clear hO_1 hbw_1; clear oa ob oc of ol; obtain ⟨oa, ob, oc, of, ol⟩ := hO.mx)
              go_ret
              exact BV.mk (vbool hf.out.symm) Kw
            · go_wp2_with (go_at_call 117; refine (impl_at _ _ _ _ _ _ _ xs _ (C := w.heap.size) (Kr H2.out) Ks ⟨by omega, by omega⟩ ⟨by omega, by omega⟩ (by omega)).mono ?_; rintro e w1 ⟨rfl, hb⟩; have hO_1 : BM w1 (w.heap.size) R C A n cap := (Kb hO); have hbw_1 : Below w.heap.size w w1 := Kw; clear hO hbw; have hO := hO_1; have hbw := hbw_1; clear hO_1 hbw_1; clear oa ob oc of ol; obtain ⟨oa, ob, oc, of, ol⟩ := hO.mx)
              obtain ⟨wo, rfl⟩ : ∃ wo : World, wo = wr := ⟨_, rfl⟩
              go_loopw [6] (fun v wr => ∃ k : Nat, v = .int .i64 k ∧ k ≤ i ∧ (List.range k).all (hcA xs C i) = true ∧ BM wr w.heap.size R C A n cap ∧ Below w.heap.size w wr) (fun v _ => i - (intOf v).toNat)
              case atStart => exact ⟨0, rfl, Nat.zero_le _, by simp, Kb hO, Kw⟩
              case round =>
                clear hO hbw
                obtain ⟨k, rfl, hk, hak0, hO, hbw⟩ := hrel
                have hak := Lib.hid hak0
                clear hak0
                clear oa ob oc of ol
                obtain ⟨oa, ob, oc, of, ol⟩ := hO.mx
                by_cases hki : k < i
                · obtain ⟨z1, z2, z3, z4⟩ := idx_bd (r := R) (c := C) (i := k) (j := p) hR hC (by omega) (by omega) (by omega) (by omega)
                  obtain ⟨y3, y4⟩ := hcb.out k p
                  have hs := range_all_succ (hcA xs C i) k
                  rw [hak.out, Bool.true_and, HP.out k] at hs
                  have hno2 : ¬ (0 ≤ cel xs C k p ∧ cel xs C k p < cel xs C i p) → (List.range i).all (hcA xs C i) = false := fun hh => range_all_false (p := hcA xs C i) hki (by rw [HP.out k]; simp; omega)
                  by_cases g1 : cel xs C k p < 0
                  · have hf := Lib.hid (HNO.out (by rw [hno2 (by omega)]; simp))
                    clear hs hno2
                    have b1 : decide (cel xs C k p < 0) = true := by simpa using g1
                    go_wp2
                    ((refine wp_region_held_drew (S := (fun w' => w'.cell? ⟨w.heap.size, 0, none⟩ = some (.int .i64 R) ∧ w'.cell? ⟨w.heap.size, 1, none⟩ = some (.int .i64 C) ∧ w'.cell? ⟨w.heap.size, 2, none⟩ = some (.slice A n cap))) (by kernel_rfl) ?_ (fun hHeld => ?_)); ((focus ((try dsimp only); (go_keep)))); ((refine tk_ (i := 0) (v := ?_) (y := Or.inl ⟨by rfl, ?_⟩) (h := ?_); rotate_left; (focus (((intro w hSw; (try dsimp only at hSw); go_simp) <;> (try with_reducible rfl)); done)); (try simp only [Act.put, p1_, p2_, p3_]))); ((refine tk_ (i := 1) (v := ?_) (y := Or.inl ⟨by rfl, ?_⟩) (h := ?_); rotate_left; (focus (((intro w hSw; (try dsimp only at hSw); go_simp) <;> (try with_reducible rfl)); done)); (try simp only [Act.put, p1_, p2_, p3_]))); ((refine tk_ (i := 2) (v := ?_) (y := Or.inl ⟨by rfl, ?_⟩) (h := ?_); rotate_left; (focus (((intro w hSw; (try dsimp only at hSw); go_simp) <;> (try with_reducible rfl)); done)); (try simp only [Act.put, p1_, p2_, p3_]))); ((refine wpAnyH_ready (rs := [3]) (by kernel_rfl) (by simp) ?_; refine AllReadyH.cons (by simp only [e1_, e2_, e3_]; try rfl) (fun K hK => ?_) AllReadyH.nil; go_simp; (go_at_call 117; refine (impl_at _ _ _ _ _ _ _ xs _ (C := w.heap.size) (Kr H2.out) Ks ⟨by omega, by omega⟩ ⟨by omega, by omega⟩ (by omega)).mono ?_; rintro e w1 ⟨rfl, hb⟩; have hO_1 : BM w1 (w.heap.size) R C A n cap := (Kb hO); have hbw_1 : Below w.heap.size w w1 := Kw; clear hO hbw; have hO := hO_1; have hbw := hbw_1; clear hO_1 hbw_1; clear oa ob oc of ol; obtain ⟨oa, ob, oc, of, ol⟩ := hO.mx); (try go_wp2_with fail); refine hK.out _ _ ?_ (fun hHeld => ?_); (focus ((try dsimp only); (go_keep))); clear hK K; (try simp only [Act.put, p1_, p2_, p3_]))); ((refine tk_ (i := 4) (v := ?_) (y := Or.inl ⟨by rfl, ?_⟩) (h := ?_); rotate_left; (focus (((intro w hSw; (try dsimp only at hSw); go_simp) <;> (try with_reducible rfl)); done)); (try simp only [Act.put, p1_, p2_, p3_]))); ((refine tk_ (i := 5) (v := ?_) (y := Or.inl ⟨by rfl, ?_⟩) (h := ?_); rotate_left; (focus (((intro w hSw; (try dsimp only at hSw); go_simp) <;> (try with_reducible rfl)); done)); (try simp only [Act.put, p1_, p2_, p3_]))); ((refine wpAnyH_take (i := 6) (by simp only [e1_, e2_, e3_]; try rfl) (by kernel_rfl) (by kernel_rfl) (by kernel_rfl) (by exact fun _ _ _ h => h) (Or.inr ⟨by rfl, rfl⟩) (by assumption) ?_; (try simp only [Act.put, p1_, p2_, p3_]))); ((refine wpAnyH_take (i := 7) (by simp only [e1_, e2_, e3_]; try rfl) (by kernel_rfl) (by kernel_rfl) (by kernel_rfl) (by exact fun _ _ _ h => h) (Or.inr ⟨by rfl, rfl⟩) (by assumption) ?_; (try simp only [Act.put, p1_, p2_, p3_]))); ((refine wpAnyH_take (i := 8) (by simp only [e1_, e2_, e3_]; try rfl) (by kernel_rfl) (by kernel_rfl) (by kernel_rfl) (by exact fun _ _ _ h => h) (Or.inr ⟨by rfl, rfl⟩) (by assumption) ?_; (try simp only [Act.put, p1_, p2_, p3_]))); ((refine wpAnyH_take (i := 10) (by simp only [e1_, e2_, e3_]; try rfl) (by kernel_rfl) (by kernel_rfl) (by kernel_rfl) (by exact fun _ _ _ h => h) (Or.inr ⟨by rfl, rfl⟩) (by assumption) ?_; (try simp only [Act.put, p1_, p2_, p3_]))); ((refine wpAnyH_take (i := 11) (by simp only [e1_, e2_, e3_]; try rfl) (by kernel_rfl) (by kernel_rfl) (by kernel_rfl) (by exact fun _ _ _ h => h) (Or.inr ⟨by rfl, rfl⟩) (by assumption) ?_; (try simp only [Act.put, p1_, p2_, p3_]))); ((refine wpAnyH_take (i := 12) (by simp only [e1_, e2_, e3_]; try rfl) (by kernel_rfl) (by kernel_rfl) (by kernel_rfl) (by exact fun _ _ _ h => h) (Or.inr ⟨by rfl, rfl⟩) (by assumption) ?_; (try simp only [Act.put, p1_, p2_, p3_]))); ((refine wpAnyH_ready (rs := [9]) (by kernel_rfl) (by simp) ?_; refine AllReadyH.cons (by simp only [e1_, e2_, e3_]; try rfl) (fun K hK => ?_) AllReadyH.nil; go_simp; with_reducible refine hK.out _ _ ?_ (fun hHeld => ?_); (focus ((try dsimp only); (go_keep))); clear hK K; (try simp only [Act.put, p1_, p2_, p3_]))); ((refine wpAnyH_ready (rs := [13]) (by kernel_rfl) (by simp) ?_; refine AllReadyH.cons (by simp only [e1_, e2_, e3_]; try rfl) (fun K hK => ?_) AllReadyH.nil; go_simp; with_reducible refine hK.out _ _ ?_ (fun hHeld => ?_); (focus ((try dsimp only); (go_keep))); clear hK K; (try simp only [Act.put, p1_, p2_, p3_]))); ((refine wpAnyH_take (i := 14) (by simp only [e1_, e2_, e3_]; try rfl) (by kernel_rfl) (by kernel_rfl) (by kernel_rfl) (by exact fun _ _ _ h => h) (Or.inr ⟨by rfl, rfl⟩) (by assumption) ?_; (try simp only [Act.put, p1_, p2_, p3_]))); ((refine tk_ (i := 15) (v := ?_) (y := Or.inl ⟨by rfl, ?_⟩) (h := ?_); rotate_left; (focus (((intro w hSw; (try dsimp only at hSw); go_simp) <;> (try with_reducible rfl)); done)); (try simp only [Act.put, p1_, p2_, p3_]))); (refine wpAnyH_done (by kernel_rfl) ?_ _))
                    all_goals go_wp2
                    all_goals go_ret
                    all_goals exact BV.mk (vbool hf.out.symm) Kw
                  · have b1 : decide (cel xs C k p < 0) = false := by simpa using g1
                    by_cases g2 : cel xs C i p ≤ cel xs C k p
                    · have hf := Lib.hid (HNO.out (by rw [hno2 (by omega)]; simp))
                      clear hs hno2
                      go_wp2
                      ((refine wp_region_held_drew (S := (fun w' => w'.cell? ⟨w.heap.size, 0, none⟩ = some (.int .i64 R) ∧ w'.cell? ⟨w.heap.size, 1, none⟩ = some (.int .i64 C) ∧ w'.cell? ⟨w.heap.size, 2, none⟩ = some (.slice A n cap))) (by kernel_rfl) ?_ (fun hHeld => ?_)); ((focus ((try dsimp only); (go_keep)))); ((refine tk_ (i := 0) (v := ?_) (y := Or.inl ⟨by rfl, ?_⟩) (h := ?_); rotate_left; (focus (((intro w hSw; (try dsimp only at hSw); go_simp) <;> (try with_reducible rfl)); done)); (try simp only [Act.put, p1_, p2_, p3_]))); ((refine tk_ (i := 1) (v := ?_) (y := Or.inl ⟨by rfl, ?_⟩) (h := ?_); rotate_left; (focus (((intro w hSw; (try dsimp only at hSw); go_simp) <;> (try with_reducible rfl)); done)); (try simp only [Act.put, p1_, p2_, p3_]))); ((refine tk_ (i := 2) (v := ?_) (y := Or.inl ⟨by rfl, ?_⟩) (h := ?_); rotate_left; (focus (((intro w hSw; (try dsimp only at hSw); go_simp) <;> (try with_reducible rfl)); done)); (try simp only [Act.put, p1_, p2_, p3_]))); ((refine wpAnyH_ready (rs := [3]) (by kernel_rfl) (by simp) ?_; refine AllReadyH.cons (by simp only [e1_, e2_, e3_]; try rfl) (fun K hK => ?_) AllReadyH.nil; go_simp; (go_at_call 117; refine (impl_at _ _ _ _ _ _ _ xs _ (C := w.heap.size) (Kr H2.out) Ks ⟨by omega, by omega⟩ ⟨by omega, by omega⟩ (by omega)).mono ?_; rintro e w1 ⟨rfl, hb⟩; have hO_1 : BM w1 (w.heap.size) R C A n cap := (Kb hO); have hbw_1 : Below w.heap.size w w1 := Kw; clear hO hbw; have hO := hO_1; have hbw := hbw_1; clear hO_1 hbw_1; clear oa ob oc of ol; obtain ⟨oa, ob, oc, of, ol⟩ := hO.mx); (try go_wp2_with fail); refine hK.out _ _ ?_ (fun hHeld => ?_); (focus ((try dsimp only); (go_keep))); clear hK K; (try simp only [Act.put, p1_, p2_, p3_]))); ((refine tk_ (i := 4) (v := ?_) (y := Or.inl ⟨by rfl, ?_⟩) (h := ?_); rotate_left; (focus (((intro w hSw; (try dsimp only at hSw); go_simp) <;> (try with_reducible rfl)); done)); (try simp only [Act.put, p1_, p2_, p3_]))); ((refine tk_ (i := 5) (v := ?_) (y := Or.inl ⟨by rfl, ?_⟩) (h := ?_); rotate_left; (focus (((intro w hSw; (try dsimp only at hSw); go_simp) <;> (try with_reducible rfl)); done)); (try simp only [Act.put, p1_, p2_, p3_]))); ((refine tk_ (i := 6) (v := ?_) (y := Or.inl ⟨by rfl, ?_⟩) (h := ?_); rotate_left; (focus (((intro w hSw; (try dsimp only at hSw); go_simp) <;> (try with_reducible rfl)); done)); (try simp only [Act.put, p1_, p2_, p3_]))); ((refine tk_ (i := 7) (v := ?_) (y := Or.inl ⟨by rfl, ?_⟩) (h := ?_); rotate_left; (focus (((intro w hSw; (try dsimp only at hSw); go_simp) <;> (try with_reducible rfl)); done)); (try simp only [Act.put, p1_, p2_, p3_]))); ((refine tk_ (i := 8) (v := ?_) (y := Or.inl ⟨by rfl, ?_⟩) (h := ?_); rotate_left; (focus (((intro w hSw; (try dsimp only at hSw); go_simp) <;> (try with_reducible rfl)); done)); (try simp only [Act.put, p1_, p2_, p3_]))); ((refine tk_ (i := 10) (v := ?_) (y := Or.inl ⟨by rfl, ?_⟩) (h := ?_); rotate_left; (focus (((intro w hSw; (try dsimp only at hSw); go_simp) <;> (try with_reducible rfl)); done)); (try simp only [Act.put, p1_, p2_, p3_]))); ((refine tk_ (i := 11) (v := ?_) (y := Or.inl ⟨by rfl, ?_⟩) (h := ?_); rotate_left; (focus (((intro w hSw; (try dsimp only at hSw); go_simp) <;> (try with_reducible rfl)); done)); (try simp only [Act.put, p1_, p2_, p3_]))); ((refine tk_ (i := 12) (v := ?_) (y := Or.inl ⟨by rfl, ?_⟩) (h := ?_); rotate_left; (focus (((intro w hSw; (try dsimp only at hSw); go_simp) <;> (try with_reducible rfl)); done)); (try simp only [Act.put, p1_, p2_, p3_]))); ((refine wpAnyH_ready (rs := [9]) (by kernel_rfl) (by simp) ?_; refine AllReadyH.cons (by simp only [e1_, e2_, e3_]; try rfl) (fun K hK => ?_) AllReadyH.nil; go_simp; (go_at_call 117; refine (impl_at _ _ _ _ _ _ _ xs _ (C := w.heap.size) (Kr H2.out) Ks ⟨by omega, by omega⟩ ⟨by omega, by omega⟩ (by omega)).mono ?_; rintro e w1 ⟨rfl, hb⟩; have hO_1 : BM w1 (w.heap.size) R C A n cap := (Kb hO); have hbw_1 : Below w.heap.size w w1 := Kw; clear hO hbw; have hO := hO_1; have hbw := hbw_1; clear hO_1 hbw_1; clear oa ob oc of ol; obtain ⟨oa, ob, oc, of, ol⟩ := hO.mx); (try go_wp2_with fail); refine hK.out _ _ ?_ (fun hHeld => ?_); (focus ((try dsimp only); (go_keep))); clear hK K; (try simp only [Act.put, p1_, p2_, p3_]))); ((refine wpAnyH_ready (rs := [13]) (by kernel_rfl) (by simp) ?_; refine AllReadyH.cons (by simp only [e1_, e2_, e3_]; try rfl) (fun K hK => ?_) AllReadyH.nil; go_simp; (go_at_call 117; refine (impl_at _ _ _ _ _ _ _ xs _ (C := w.heap.size) (Kr H2.out) Ks ⟨by omega, by omega⟩ ⟨by omega, by omega⟩ (by omega)).mono ?_; rintro e w1 ⟨rfl, hb⟩; have hO_1 : BM w1 (w.heap.size) R C A n cap := (Kb hO); have hbw_1 : Below w.heap.size w w1 := Kw; clear hO hbw; have hO := hO_1; have hbw := hbw_1; clear hO_1 hbw_1; clear oa ob oc of ol; obtain ⟨oa, ob, oc, of, ol⟩ := hO.mx); (try go_wp2_with fail); refine hK.out _ _ ?_ (fun hHeld => ?_); (focus ((try dsimp only); (go_keep))); clear hK K; (try simp only [Act.put, p1_, p2_, p3_]))); ((refine tk_ (i := 14) (v := ?_) (y := Or.inl ⟨by rfl, ?_⟩) (h := ?_); rotate_left; (focus (((intro w hSw; (try dsimp only at hSw); go_simp) <;> (try with_reducible rfl)); done)); (try simp only [Act.put, p1_, p2_, p3_]))); ((refine tk_ (i := 15) (v := ?_) (y := Or.inl ⟨by rfl, ?_⟩) (h := ?_); rotate_left; (focus (((intro w hSw; (try dsimp only at hSw); go_simp) <;> (try with_reducible rfl)); done)); (try simp only [Act.put, p1_, p2_, p3_]))); (refine wpAnyH_done (by kernel_rfl) ?_ _))
                      go_wp2
                      go_ret
                      exact BV.mk (vbool hf.out.symm) Kw
                    · have hnx := Lib.hid (show (List.range (k + 1)).all (hcA xs C i) = true by rw [hs]; simp; omega)
                      clear hs hno2
                      go_wp2
                      ((refine wp_region_held_drew (S := (fun w' => w'.cell? ⟨w.heap.size, 0, none⟩ = some (.int .i64 R) ∧ w'.cell? ⟨w.heap.size, 1, none⟩ = some (.int .i64 C) ∧ w'.cell? ⟨w.heap.size, 2, none⟩ = some (.slice A n cap))) (by kernel_rfl) ?_ (fun hHeld => ?_)); ((focus ((try dsimp only); (go_keep)))); ((refine tk_ (i := 0) (v := ?_) (y := Or.inl ⟨by rfl, ?_⟩) (h := ?_); rotate_left; (focus (((intro w hSw; (try dsimp only at hSw); go_simp) <;> (try with_reducible rfl)); done)); (try simp only [Act.put, p1_, p2_, p3_]))); ((refine tk_ (i := 1) (v := ?_) (y := Or.inl ⟨by rfl, ?_⟩) (h := ?_); rotate_left; (focus (((intro w hSw; (try dsimp only at hSw); go_simp) <;> (try with_reducible rfl)); done)); (try simp only [Act.put, p1_, p2_, p3_]))); ((refine tk_ (i := 2) (v := ?_) (y := Or.inl ⟨by rfl, ?_⟩) (h := ?_); rotate_left; (focus (((intro w hSw; (try dsimp only at hSw); go_simp) <;> (try with_reducible rfl)); done)); (try simp only [Act.put, p1_, p2_, p3_]))); ((refine wpAnyH_ready (rs := [3]) (by kernel_rfl) (by simp) ?_; refine AllReadyH.cons (by simp only [e1_, e2_, e3_]; try rfl) (fun K hK => ?_) AllReadyH.nil; go_simp; (go_at_call 117; refine (impl_at _ _ _ _ _ _ _ xs _ (C := w.heap.size) (Kr H2.out) Ks ⟨by omega, by omega⟩ ⟨by omega, by omega⟩ (by omega)).mono ?_; rintro e w1 ⟨rfl, hb⟩; have hO_1 : BM w1 (w.heap.size) R C A n cap := (Kb hO); have hbw_1 : Below w.heap.size w w1 := Kw; clear hO hbw; have hO := hO_1; have hbw := hbw_1; clear hO_1 hbw_1; clear oa ob oc of ol; obtain ⟨oa, ob, oc, of, ol⟩ := hO.mx); (try go_wp2_with fail); refine hK.out _ _ ?_ (fun hHeld => ?_); (focus ((try dsimp only); (go_keep))); clear hK K; (try simp only [Act.put, p1_, p2_, p3_]))); ((refine tk_ (i := 4) (v := ?_) (y := Or.inl ⟨by rfl, ?_⟩) (h := ?_); rotate_left; (focus (((intro w hSw; (try dsimp only at hSw); go_simp) <;> (try with_reducible rfl)); done)); (try simp only [Act.put, p1_, p2_, p3_]))); ((refine tk_ (i := 5) (v := ?_) (y := Or.inl ⟨by rfl, ?_⟩) (h := ?_); rotate_left; (focus (((intro w hSw; (try dsimp only at hSw); go_simp) <;> (try with_reducible rfl)); done)); (try simp only [Act.put, p1_, p2_, p3_]))); ((refine tk_ (i := 6) (v := ?_) (y := Or.inl ⟨by rfl, ?_⟩) (h := ?_); rotate_left; (focus (((intro w hSw; (try dsimp only at hSw); go_simp) <;> (try with_reducible rfl)); done)); (try simp only [Act.put, p1_, p2_, p3_]))); ((refine tk_ (i := 7) (v := ?_) (y := Or.inl ⟨by rfl, ?_⟩) (h := ?_); rotate_left; (focus (((intro w hSw; (try dsimp only at hSw); go_simp) <;> (try with_reducible rfl)); done)); (try simp only [Act.put, p1_, p2_, p3_]))); ((refine tk_ (i := 8) (v := ?_) (y := Or.inl ⟨by rfl, ?_⟩) (h := ?_); rotate_left; (focus (((intro w hSw; (try dsimp only at hSw); go_simp) <;> (try with_reducible rfl)); done)); (try simp only [Act.put, p1_, p2_, p3_]))); ((refine tk_ (i := 10) (v := ?_) (y := Or.inl ⟨by rfl, ?_⟩) (h := ?_); rotate_left; (focus (((intro w hSw; (try dsimp only at hSw); go_simp) <;> (try with_reducible rfl)); done)); (try simp only [Act.put, p1_, p2_, p3_]))); ((refine tk_ (i := 11) (v := ?_) (y := Or.inl ⟨by rfl, ?_⟩) (h := ?_); rotate_left; (focus (((intro w hSw; (try dsimp only at hSw); go_simp) <;> (try with_reducible rfl)); done)); (try simp only [Act.put, p1_, p2_, p3_]))); ((refine tk_ (i := 12) (v := ?_) (y := Or.inl ⟨by rfl, ?_⟩) (h := ?_); rotate_left; (focus (((intro w hSw; (try dsimp only at hSw); go_simp) <;> (try with_reducible rfl)); done)); (try simp only [Act.put, p1_, p2_, p3_]))); ((refine wpAnyH_ready (rs := [9]) (by kernel_rfl) (by simp) ?_; refine AllReadyH.cons (by simp only [e1_, e2_, e3_]; try rfl) (fun K hK => ?_) AllReadyH.nil; go_simp; (go_at_call 117; refine (impl_at _ _ _ _ _ _ _ xs _ (C := w.heap.size) (Kr H2.out) Ks ⟨by omega, by omega⟩ ⟨by omega, by omega⟩ (by omega)).mono ?_; rintro e w1 ⟨rfl, hb⟩; have hO_1 : BM w1 (w.heap.size) R C A n cap := (Kb hO); have hbw_1 : Below w.heap.size w w1 := Kw; clear hO hbw; have hO := hO_1; have hbw := hbw_1; clear hO_1 hbw_1; clear oa ob oc of ol; obtain ⟨oa, ob, oc, of, ol⟩ := hO.mx); (try go_wp2_with fail); refine hK.out _ _ ?_ (fun hHeld => ?_); (focus ((try dsimp only); (go_keep))); clear hK K; (try simp only [Act.put, p1_, p2_, p3_]))); ((refine wpAnyH_ready (rs := [13]) (by kernel_rfl) (by simp) ?_; refine AllReadyH.cons (by simp only [e1_, e2_, e3_]; try rfl) (fun K hK => ?_) AllReadyH.nil; go_simp; (go_at_call 117; refine (impl_at _ _ _ _ _ _ _ xs _ (C := w.heap.size) (Kr H2.out) Ks ⟨by omega, by omega⟩ ⟨by omega, by omega⟩ (by omega)).mono ?_; rintro e w1 ⟨rfl, hb⟩; have hO_1 : BM w1 (w.heap.size) R C A n cap := (Kb hO); have hbw_1 : Below w.heap.size w w1 := Kw; clear hO hbw; have hO := hO_1; have hbw := hbw_1; clear hO_1 hbw_1; clear oa ob oc of ol; obtain ⟨oa, ob, oc, of, ol⟩ := hO.mx); (try go_wp2_with fail); refine hK.out _ _ ?_ (fun hHeld => ?_); (focus ((try dsimp only); (go_keep))); clear hK K; (try simp only [Act.put, p1_, p2_, p3_]))); ((refine tk_ (i := 14) (v := ?_) (y := Or.inl ⟨by rfl, ?_⟩) (h := ?_); rotate_left; (focus (((intro w hSw; (try dsimp only at hSw); go_simp) <;> (try with_reducible rfl)); done)); (try simp only [Act.put, p1_, p2_, p3_]))); ((refine tk_ (i := 15) (v := ?_) (y := Or.inl ⟨by rfl, ?_⟩) (h := ?_); rotate_left; (focus (((intro w hSw; (try dsimp only at hSw); go_simp) <;> (try with_reducible rfl)); done)); (try simp only [Act.put, p1_, p2_, p3_]))); (refine wpAnyH_done (by kernel_rfl) ?_ _))
                      go_wp2
                      go_roundw
                      case rel => exact ⟨k + 1, by go_num, by omega, hnx.out, Kb hO, Kw⟩
                      case measure => simp only [intOf]; omega
                · obtain rfl : i = k := by omega
                  have hnx := Lib.hid (show (List.range (i + 1)).all (fun i => hrow xs C i) = true by rw [HS.out, hak.out]; simp; omega)
                  go_wp2
                  go_roundw
                  case rel => exact ⟨i + 1, by go_num, by rw [HSU.out], by omega, hnx.out, Kb hO, Kw⟩
                  case measure => simp only [intOf]; omega
        · have HF : Hid (fcI (rowL xs C i) = -1) := Lib.hid (by rw [hfc, if_neg hp])
          have hrw : hrow xs C i = true := by unfold hrow; rw [if_neg hp]
          clear hfc hrl hno
          have hnx := Lib.hid (show (List.range (i + 1)).all (fun i => hrow xs C i) = true by rw [hsu, hrw])
          have hpc : pv xs C i = C := by omega
          rw [hpc] at hsu2
          have HSU := Lib.hid hsu2
          clear hsu hsu2 hrw hpc
          go_wp2_with fail
          refine (impl_row R C i A n cap xs _ (B := w.heap.size) (Kr H2.out) Ks hnc hcap (by omega) (by omega) HI.out).mono ?_
          rintro e w1 ⟨A', cap', rfl, hri, hb, hc1, hc2⟩
          have hO_1 : BM w1 (w.heap.size) R C A n cap := (Kb hO); have hbw_1 : Below w.heap.size w w1 := Kw; clear hO hbw; have hO := hO_1; have hbw := hbw_1; clear hO_1 hbw_1; clear oa ob oc of ol; obtain ⟨oa, ob, oc, of, ol⟩ := hO.mx
          have HRI := Lib.hid hri
          clear hri
          go_wp2_with fail
          refine (impl_firstCell A' C cap' _ _ HRI.out (by omega)).mono ?_
          rw [HF.out]
          rintro e w' ⟨rfl, rfl⟩
          go_wp2_with fail
          go_roundw
          case rel => exact ⟨i + 1, by go_num, by rw [HSU.out], by omega, hnx.out, Kb hO, Kw⟩
          case measure => simp only [intOf]; omega
      · obtain rfl : R = i := by omega
        have hres := Lib.hid (show (List.range R).all (hrow xs C) = true from hal.out)
        go_wp2
        go_ret
        exact BV.mk (vbool hres.out.symm) Kw
end Go.Proofs.Ytacjonkehcamgaa

/-
  DERIVED. l1Bads, l12Cell, l12Least, l12Alone, l12Ops of the reference.
-/
namespace Go.Proofs.Ytacjonkehcamgaa
open Go.RowKit
set_option linter.unusedVariables false
set_option linter.unusedSimpArgs false
theorem spec_l1Bads (A : Option Addr) (n cap : Nat) (xs : List Int) (w : World) {B : Nat} (h : RI w B A n xs) (hn : n ≤ 1048576) :
    Calls Try.prog 210 #[.slice A n cap] w (EV (.bool (!xs.all noBad)) w) := by
  have hlen := h.len
  have hlx : xs.length ≤ n ∧ n ≤ xs.length := by omega
  have H := Lib.hid h
  clear h hlen
  go_enter Try.func210, Try.ntmps210
  go_wp2_with fail
  go_loop [3] (fun v => ∃ k : Nat, v = .int .i64 k ∧ k ≤ n ∧ (xs.take k).all noBad = true) (fun v => n - (intOf v).toNat)
  case atStart => exact ⟨0, rfl, Nat.zero_le _, by simp⟩
  case round =>
    obtain ⟨k, rfl, hk, hz⟩ := hrel
    have HZ := Lib.hid hz
    clear hz
    by_cases hlt : k < n
    · obtain ⟨b, o, rfl, hbb, hcells⟩ := H.out.2 (by omega)
      have c1 := hcells k hlt
      clear hcells
      have hat := all_take (xs := xs) (p := noBad) (show k < xs.length by omega)
      have hfa := all_false (xs := xs) (p := noBad) (show k < xs.length by omega)
      rw [HZ.out, Bool.true_and] at hat
      generalize xs.getD k 0 = x at c1 hat hfa
      rcases hx : (x == -4611686018427387904) with _ | _
      · have hn := Lib.hid (hat.trans (show noBad x = true by unfold noBad; rw [hx]; rfl))
        clear hat hfa
        go_wp2_with fail
        go_round
        case rel => exact ⟨k + 1, by go_num, by omega, hn.out⟩
        case measure => simp only [intOf]; omega
      · have hn := Lib.hid (hfa (show noBad x = false by unfold noBad; rw [hx]; rfl))
        clear hat hfa
        go_wp2_with fail
        go_ret
        exact EV.mk (vbool (by rw [hn.out]; rfl))
    · have hall := Lib.hid (show xs.all noBad = true by
        have := HZ.out
        rw [List.take_of_length_le (by omega)] at this
        exact this)
      go_wp2_with fail
      go_ret
      exact EV.mk (vbool (by rw [hall.out]; rfl))
theorem spec_l12Cell_tb (R C i j : Nat) (A : Option Addr) (n cap : Nat) (F : Nat → Nat → Int) (v : Int) (hv : F i j = v) (w : World) {B : Nat} (h : OR w B (.slice A n cap) (tb R C F)) (hR : R ≤ 48) (hC : C ≤ 48) (hi : i < R) (hj : j < C) :
    Calls Try.prog 108 #[.agg #[.int .i64 R, .int .i64 C, .slice A n cap], .int .i64 i, .int .i64 j] w (BV (.int .i64 v) w) := by
  have hn := h.lenEq
  rw [tb_len] at hn
  have h1 := idx_nat hi hj
  have h2 : i * C ≤ 48 * 48 := Nat.mul_le_mul (by omega) hC
  have e1 : (i : Int) * (C : Int) = ((i * C : Nat) : Int) := by rw [Int.natCast_mul]
  have := spec_l12Cell R C i j A n cap (tb R C F) w h.reads (Nat.le_refl _) ⟨by omega, by omega⟩ ⟨by omega, by omega⟩ (by omega)
  rw [cel_tb hi hj, hv] at this
  exact this
set_option maxRecDepth 100000 in
set_option maxHeartbeats 4000000 in
theorem spec_l12Least (R C t j : Nat) (A : Option Addr) (n cap : Nat) (f : Fn2) (w : World) {B : Nat} (h : OR w B (.slice A n cap) (tb R C f)) (ht : t ≤ R) (hj : j < C) (hf : OKF R C f) (hC : C ≤ 24) (hR : R ≤ 24) :
    Calls Try.prog 206 #[.agg #[.int .i64 R, .int .i64 C, .slice A n cap], .int .i64 t, .int .i64 j] w (BV (.int .i64 (lst R f j t)) w) := by
  have HF := Lib.hid hf
  clear hf
  go_enter Try.func206, Try.ntmps206
  go_wp2_with fail
  go_loopw [7, 8, 9] (fun u v _ wr => ∃ (i : Nat), v = .int .i64 i ∧ u = .int .i64 (lstK f j t (i - t)) ∧ t ≤ i ∧ i ≤ R ∧ BM wr w.heap.size R C A n cap ∧ OR wr B (.slice A n cap) (tb R C f) ∧ Below w.heap.size w wr) (fun _ v _ _ => R - (intOf v).toNat)
  case atStart => exact ⟨t, rfl, by rw [Nat.sub_self]; rfl, Nat.le_refl _, ht, Ka, Ko h, Kw⟩
  case round =>
    clear h
    obtain ⟨i, rfl, rfl, hti, hiR, hO, ho, hbw⟩ := hrel
    obtain ⟨oa, ob, oc, of, ol⟩ := hO.mx
    have hsz := hbw.size
    by_cases hlt : i < R
    · have hn := HF.out i j hlt hj
      have HS := Lib.hid (lst_succ (f := f) (j := j) hti)
      have hcs := lstK_cases f j t (i - t)
      by_cases hz : f i j = 0
      · have hx := HS.out
        rw [if_neg (by simp [hz])] at hx
        have HX := Lib.hid hx
        have hb : -1 ≤ lstK f j t (i - t) ∧ lstK f j t (i - t) ≤ 100 := by
          rcases hcs with ⟨e, _⟩ | ⟨p, e, _, h3, _⟩
          · omega
          · omega
        obtain ⟨b1, b2⟩ := hb
        have HZ := Lib.hid hz
        clear hx hz hcs HS
        generalize lstK f j t (i - t) = q at *
        go_wp2_with fail
        (refine (spec_l12Cell_tb R C i j A n cap f (0) HZ.out _ (B := B) (Ko ho) (by omega) (by omega) (by omega) (by omega)).mono ?_; rintro e w1 ⟨rfl, hb1⟩; (have hO_1 : BM w1 w.heap.size R C A n cap := (Kb hO)); (have ho_1 : OR w1 B (.slice A n cap) (tb R C f) := (Ko ho)); (have hbw_1 : Below w.heap.size w w1 := Kw); (have hsz_1 := hbw_1.size); clear hO ho hbw hb1; clear oa ob oc of ol; (have hO := hO_1); (have ho := ho_1); (have hbw := hbw_1); clear hO_1 ho_1 hbw_1; obtain ⟨oa, ob, oc, of, ol⟩ := hO.mx)
        go_wp2_with fail
        go_quiet (fail)
        go_wp2_with fail
        go_roundw
        case rel => exact ⟨i + 1, by go_num, by rw [HX.out], by omega, by omega, Kb hO, Ko ho, Kw⟩
        case measure => simp only [intOf]; omega
      · have hnz : (f i j != 0) = true := by simpa using hz
        rcases hcs with ⟨e, _⟩ | ⟨p, e, h2, h3, h4, _⟩
        · have hx := HS.out
          rw [if_pos ⟨hz, .inl (by omega)⟩] at hx
          have HX := Lib.hid hx
          rw [e]
          obtain ⟨y1, y2⟩ := hn
          clear hx hz HS e
          generalize hv : f i j = v at *
          have HV := Lib.hid hv
          clear hv
          go_wp2_with fail
          (refine (spec_l12Cell_tb R C i j A n cap f v HV.out _ (B := B) (Ko ho) (by omega) (by omega) (by omega) (by omega)).mono ?_; rintro e w1 ⟨rfl, hb1⟩; (have hO_1 : BM w1 w.heap.size R C A n cap := (Kb hO)); (have ho_1 : OR w1 B (.slice A n cap) (tb R C f) := (Ko ho)); (have hbw_1 : Below w.heap.size w w1 := Kw); (have hsz_1 := hbw_1.size); clear hO ho hbw hb1; clear oa ob oc of ol; (have hO := hO_1); (have ho := ho_1); (have hbw := hbw_1); clear hO_1 ho_1 hbw_1; obtain ⟨oa, ob, oc, of, ol⟩ := hO.mx)
          go_wp2_with fail
          ((refine wp_region_held_drew (S := (fun w' => w'.cell? ⟨w.heap.size, 0, none⟩ = some (.int .i64 R) ∧ w'.cell? ⟨w.heap.size, 1, none⟩ = some (.int .i64 C) ∧ w'.cell? ⟨w.heap.size, 2, none⟩ = some (.slice A n cap))) (by kernel_rfl) ?_ (fun hHeld => ?_)); ((focus ((try dsimp only); (go_keep)))); ((refine tk_ (i := 0) (v := ?_) (y := Or.inl ⟨by rfl, ?_⟩) (h := ?_); rotate_left; (focus (((intro w hSw; (try dsimp only at hSw); go_simp) <;> (try with_reducible rfl)); done)); (try simp only [Act.put, p1_, p2_, p3_]))); ((refine tk_ (i := 1) (v := ?_) (y := Or.inl ⟨by rfl, ?_⟩) (h := ?_); rotate_left; (focus (((intro w hSw; (try dsimp only at hSw); go_simp) <;> (try with_reducible rfl)); done)); (try simp only [Act.put, p1_, p2_, p3_]))); ((refine tk_ (i := 2) (v := ?_) (y := Or.inl ⟨by rfl, ?_⟩) (h := ?_); rotate_left; (focus (((intro w hSw; (try dsimp only at hSw); go_simp) <;> (try with_reducible rfl)); done)); (try simp only [Act.put, p1_, p2_, p3_]))); ((refine tk_ (i := 3) (v := ?_) (y := Or.inl ⟨by rfl, ?_⟩) (h := ?_); rotate_left; (focus (((intro w hSw; (try dsimp only at hSw); go_simp) <;> (try with_reducible rfl)); done)); (try simp only [Act.put, p1_, p2_, p3_]))); ((refine tk_ (i := 4) (v := ?_) (y := Or.inl ⟨by rfl, ?_⟩) (h := ?_); rotate_left; (focus (((intro w hSw; (try dsimp only at hSw); go_simp) <;> (try with_reducible rfl)); done)); (try simp only [Act.put, p1_, p2_, p3_]))); ((refine tk_ (i := 5) (v := ?_) (y := Or.inl ⟨by rfl, ?_⟩) (h := ?_); rotate_left; (focus (((intro w hSw; (try dsimp only at hSw); go_simp) <;> (try with_reducible rfl)); done)); (try simp only [Act.put, p1_, p2_, p3_]))); ((refine wpAnyH_take (i := 6) (by simp only [e1_, e2_, e3_]; try rfl) (by kernel_rfl) (by kernel_rfl) (by kernel_rfl) (by exact fun _ _ _ h => h) (Or.inr ⟨by rfl, rfl⟩) (by assumption) ?_; (try simp only [Act.put, p1_, p2_, p3_]))); ((refine wpAnyH_take (i := 8) (by simp only [e1_, e2_, e3_]; try rfl) (by kernel_rfl) (by kernel_rfl) (by kernel_rfl) (by exact fun _ _ _ h => h) (Or.inr ⟨by rfl, rfl⟩) (by assumption) ?_; (try simp only [Act.put, p1_, p2_, p3_]))); ((refine wpAnyH_take (i := 9) (by simp only [e1_, e2_, e3_]; try rfl) (by kernel_rfl) (by kernel_rfl) (by kernel_rfl) (by exact fun _ _ _ h => h) (Or.inr ⟨by rfl, rfl⟩) (by assumption) ?_; (try simp only [Act.put, p1_, p2_, p3_]))); ((refine wpAnyH_take (i := 10) (by simp only [e1_, e2_, e3_]; try rfl) (by kernel_rfl) (by kernel_rfl) (by kernel_rfl) (by exact fun _ _ _ h => h) (Or.inr ⟨by rfl, rfl⟩) (by assumption) ?_; (try simp only [Act.put, p1_, p2_, p3_]))); ((refine wpAnyH_ready (rs := [7]) (by kernel_rfl) (by simp) ?_; refine AllReadyH.cons (by simp only [e1_, e2_, e3_]; try rfl) (fun K hK => ?_) AllReadyH.nil; go_simp; with_reducible refine hK.out _ _ ?_ (fun hHeld => ?_); (focus ((try dsimp only); (go_keep))); clear hK K; (try simp only [Act.put, p1_, p2_, p3_]))); ((refine wpAnyH_ready (rs := [11]) (by kernel_rfl) (by simp) ?_; refine AllReadyH.cons (by simp only [e1_, e2_, e3_]; try rfl) (fun K hK => ?_) AllReadyH.nil; go_simp; with_reducible refine hK.out _ _ ?_ (fun hHeld => ?_); (focus ((try dsimp only); (go_keep))); clear hK K; (try simp only [Act.put, p1_, p2_, p3_]))); ((refine wpAnyH_ready (rs := [12]) (by kernel_rfl) (by simp) ?_; refine AllReadyH.cons (by simp only [e1_, e2_, e3_]; try rfl) (fun K hK => ?_) AllReadyH.nil; go_simp; with_reducible refine hK.out _ _ ?_ (fun hHeld => ?_); (focus ((try dsimp only); (go_keep))); clear hK K; (try simp only [Act.put, p1_, p2_, p3_]))); ((refine wpAnyH_take (i := 13) (by simp only [e1_, e2_, e3_]; try rfl) (by kernel_rfl) (by kernel_rfl) (by kernel_rfl) (by exact fun _ _ _ h => h) (Or.inr ⟨by rfl, rfl⟩) (by assumption) ?_; (try simp only [Act.put, p1_, p2_, p3_]))); ((refine tk_ (i := 14) (v := ?_) (y := Or.inl ⟨by rfl, ?_⟩) (h := ?_); rotate_left; (focus (((intro w hSw; (try dsimp only at hSw); go_simp) <;> (try with_reducible rfl)); done)); (try simp only [Act.put, p1_, p2_, p3_]))); ((refine tk_ (i := 15) (v := ?_) (y := Or.inl ⟨by rfl, ?_⟩) (h := ?_); rotate_left; (focus (((intro w hSw; (try dsimp only at hSw); go_simp) <;> (try with_reducible rfl)); done)); (try simp only [Act.put, p1_, p2_, p3_]))); (refine wpAnyH_done (by kernel_rfl) ?_ _))
          go_wp2_with fail
          go_roundw
          case rel => exact ⟨i + 1, by go_num, by rw [HX.out], by omega, by omega, Kb hO, Ko ho, Kw⟩
          case measure => simp only [intOf]; omega
        · have e2 : (lstK f j t (i - t)).toNat = p := by omega
          have hx := HS.out
          rw [e2] at hx
          have hnp := HF.out p j (by omega) hj
          obtain ⟨y1, y2⟩ := hn
          obtain ⟨y3, y4⟩ := hnp
          rw [e] at hx ⊢
          have hpR : p < R := by omega
          by_cases hc : (f i j).natAbs < (f p j).natAbs
          · rw [if_pos ⟨hz, .inr hc⟩] at hx
            have HX := Lib.hid hx
            clear hx hz HS e h4 e2
            generalize hv : f i j = v at *
            generalize hv2 : f p j = v2 at *
            have HV := Lib.hid hv
            have HV2 := Lib.hid hv2
            clear hv hv2
            go_wp2_with fail
            (refine (spec_l12Cell_tb R C i j A n cap f v HV.out _ (B := B) (Ko ho) (by omega) (by omega) (by omega) (by omega)).mono ?_; rintro e w1 ⟨rfl, hb1⟩; (have hO_1 : BM w1 w.heap.size R C A n cap := (Kb hO)); (have ho_1 : OR w1 B (.slice A n cap) (tb R C f) := (Ko ho)); (have hbw_1 : Below w.heap.size w w1 := Kw); (have hsz_1 := hbw_1.size); clear hO ho hbw hb1; clear oa ob oc of ol; (have hO := hO_1); (have ho := ho_1); (have hbw := hbw_1); clear hO_1 ho_1 hbw_1; obtain ⟨oa, ob, oc, of, ol⟩ := hO.mx)
            go_wp2_with fail
            ((refine wp_region_held_drew (S := (fun w' => w'.cell? ⟨w.heap.size, 0, none⟩ = some (.int .i64 R) ∧ w'.cell? ⟨w.heap.size, 1, none⟩ = some (.int .i64 C) ∧ w'.cell? ⟨w.heap.size, 2, none⟩ = some (.slice A n cap))) (by kernel_rfl) ?_ (fun hHeld => ?_)); ((focus ((try dsimp only); (go_keep)))); ((refine tk_ (i := 0) (v := ?_) (y := Or.inl ⟨by rfl, ?_⟩) (h := ?_); rotate_left; (focus (((intro w hSw; (try dsimp only at hSw); go_simp) <;> (try with_reducible rfl)); done)); (try simp only [Act.put, p1_, p2_, p3_]))); ((refine tk_ (i := 1) (v := ?_) (y := Or.inl ⟨by rfl, ?_⟩) (h := ?_); rotate_left; (focus (((intro w hSw; (try dsimp only at hSw); go_simp) <;> (try with_reducible rfl)); done)); (try simp only [Act.put, p1_, p2_, p3_]))); ((refine tk_ (i := 2) (v := ?_) (y := Or.inl ⟨by rfl, ?_⟩) (h := ?_); rotate_left; (focus (((intro w hSw; (try dsimp only at hSw); go_simp) <;> (try with_reducible rfl)); done)); (try simp only [Act.put, p1_, p2_, p3_]))); ((refine tk_ (i := 3) (v := ?_) (y := Or.inl ⟨by rfl, ?_⟩) (h := ?_); rotate_left; (focus (((intro w hSw; (try dsimp only at hSw); go_simp) <;> (try with_reducible rfl)); done)); (try simp only [Act.put, p1_, p2_, p3_]))); ((refine tk_ (i := 4) (v := ?_) (y := Or.inl ⟨by rfl, ?_⟩) (h := ?_); rotate_left; (focus (((intro w hSw; (try dsimp only at hSw); go_simp) <;> (try with_reducible rfl)); done)); (try simp only [Act.put, p1_, p2_, p3_]))); ((refine tk_ (i := 5) (v := ?_) (y := Or.inl ⟨by rfl, ?_⟩) (h := ?_); rotate_left; (focus (((intro w hSw; (try dsimp only at hSw); go_simp) <;> (try with_reducible rfl)); done)); (try simp only [Act.put, p1_, p2_, p3_]))); ((refine tk_ (i := 6) (v := ?_) (y := Or.inl ⟨by rfl, ?_⟩) (h := ?_); rotate_left; (focus (((intro w hSw; (try dsimp only at hSw); go_simp) <;> (try with_reducible rfl)); done)); (try simp only [Act.put, p1_, p2_, p3_]))); ((refine tk_ (i := 8) (v := ?_) (y := Or.inl ⟨by rfl, ?_⟩) (h := ?_); rotate_left; (focus (((intro w hSw; (try dsimp only at hSw); go_simp) <;> (try with_reducible rfl)); done)); (try simp only [Act.put, p1_, p2_, p3_]))); ((refine tk_ (i := 9) (v := ?_) (y := Or.inl ⟨by rfl, ?_⟩) (h := ?_); rotate_left; (focus (((intro w hSw; (try dsimp only at hSw); go_simp) <;> (try with_reducible rfl)); done)); (try simp only [Act.put, p1_, p2_, p3_]))); ((refine tk_ (i := 10) (v := ?_) (y := Or.inl ⟨by rfl, ?_⟩) (h := ?_); rotate_left; (focus (((intro w hSw; (try dsimp only at hSw); go_simp) <;> (try with_reducible rfl)); done)); (try simp only [Act.put, p1_, p2_, p3_]))); ((refine wpAnyH_ready (rs := [7]) (by kernel_rfl) (by simp) ?_; refine AllReadyH.cons (by simp only [e1_, e2_, e3_]; try rfl) (fun K hK => ?_) AllReadyH.nil; go_simp; (go_at_call 224; refine (spec_l1Abs _ _ (by omega) (by omega)).mono ?_; rintro e w' ⟨rfl, rfl⟩); (try go_wp2_with fail); refine hK.out _ _ ?_ (fun hHeld => ?_); (focus ((try dsimp only); (go_keep))); clear hK K; (try simp only [Act.put, p1_, p2_, p3_]))); ((refine wpAnyH_ready (rs := [11]) (by kernel_rfl) (by simp) ?_; refine AllReadyH.cons (by simp only [e1_, e2_, e3_]; try rfl) (fun K hK => ?_) AllReadyH.nil; go_simp; (go_at_call 108; (refine (spec_l12Cell_tb R C p j A n cap f v2 HV2.out _ (B := B) (Ko ho) (by omega) (by omega) (by omega) (by omega)).mono ?_; rintro e w1 ⟨rfl, hb1⟩; (have hO_1 : BM w1 w.heap.size R C A n cap := (Kb hO)); (have ho_1 : OR w1 B (.slice A n cap) (tb R C f) := (Ko ho)); (have hbw_1 : Below w.heap.size w w1 := Kw); (have hsz_1 := hbw_1.size); clear hO ho hbw hb1; clear oa ob oc of ol; (have hO := hO_1); (have ho := ho_1); (have hbw := hbw_1); clear hO_1 ho_1 hbw_1; obtain ⟨oa, ob, oc, of, ol⟩ := hO.mx)); (try go_wp2_with fail); refine hK.out _ _ ?_ (fun hHeld => ?_); (focus ((try dsimp only); (go_keep))); clear hK K; (try simp only [Act.put, p1_, p2_, p3_]))); ((refine wpAnyH_ready (rs := [12]) (by kernel_rfl) (by simp) ?_; refine AllReadyH.cons (by simp only [e1_, e2_, e3_]; try rfl) (fun K hK => ?_) AllReadyH.nil; go_simp; (go_at_call 224; refine (spec_l1Abs _ _ (by omega) (by omega)).mono ?_; rintro e w' ⟨rfl, rfl⟩); (try go_wp2_with fail); refine hK.out _ _ ?_ (fun hHeld => ?_); (focus ((try dsimp only); (go_keep))); clear hK K; (try simp only [Act.put, p1_, p2_, p3_]))); ((refine tk_ (i := 13) (v := ?_) (y := Or.inl ⟨by rfl, ?_⟩) (h := ?_); rotate_left; (focus (((intro w hSw; (try dsimp only at hSw); go_simp) <;> (try with_reducible rfl)); done)); (try simp only [Act.put, p1_, p2_, p3_]))); ((refine tk_ (i := 14) (v := ?_) (y := Or.inl ⟨by rfl, ?_⟩) (h := ?_); rotate_left; (focus (((intro w hSw; (try dsimp only at hSw); go_simp) <;> (try with_reducible rfl)); done)); (try simp only [Act.put, p1_, p2_, p3_]))); ((refine tk_ (i := 15) (v := ?_) (y := Or.inl ⟨by rfl, ?_⟩) (h := ?_); rotate_left; (focus (((intro w hSw; (try dsimp only at hSw); go_simp) <;> (try with_reducible rfl)); done)); (try simp only [Act.put, p1_, p2_, p3_]))); (refine wpAnyH_done (by kernel_rfl) ?_ _))
            go_wp2_with fail
            go_roundw
            case rel => exact ⟨i + 1, by go_num, by rw [HX.out], by omega, by omega, Kb hO, Ko ho, Kw⟩
            case measure => simp only [intOf]; omega
          · rw [if_neg (by rintro ⟨_, h5⟩; omega)] at hx
            have HX := Lib.hid hx
            clear hx hz HS e h4 e2
            generalize hv : f i j = v at *
            generalize hv2 : f p j = v2 at *
            have HV := Lib.hid hv
            have HV2 := Lib.hid hv2
            clear hv hv2
            go_wp2_with fail
            (refine (spec_l12Cell_tb R C i j A n cap f v HV.out _ (B := B) (Ko ho) (by omega) (by omega) (by omega) (by omega)).mono ?_; rintro e w1 ⟨rfl, hb1⟩; (have hO_1 : BM w1 w.heap.size R C A n cap := (Kb hO)); (have ho_1 : OR w1 B (.slice A n cap) (tb R C f) := (Ko ho)); (have hbw_1 : Below w.heap.size w w1 := Kw); (have hsz_1 := hbw_1.size); clear hO ho hbw hb1; clear oa ob oc of ol; (have hO := hO_1); (have ho := ho_1); (have hbw := hbw_1); clear hO_1 ho_1 hbw_1; obtain ⟨oa, ob, oc, of, ol⟩ := hO.mx)
            go_wp2_with fail
            ((refine wp_region_held_drew (S := (fun w' => w'.cell? ⟨w.heap.size, 0, none⟩ = some (.int .i64 R) ∧ w'.cell? ⟨w.heap.size, 1, none⟩ = some (.int .i64 C) ∧ w'.cell? ⟨w.heap.size, 2, none⟩ = some (.slice A n cap))) (by kernel_rfl) ?_ (fun hHeld => ?_)); ((focus ((try dsimp only); (go_keep)))); ((refine tk_ (i := 0) (v := ?_) (y := Or.inl ⟨by rfl, ?_⟩) (h := ?_); rotate_left; (focus (((intro w hSw; (try dsimp only at hSw); go_simp) <;> (try with_reducible rfl)); done)); (try simp only [Act.put, p1_, p2_, p3_]))); ((refine tk_ (i := 1) (v := ?_) (y := Or.inl ⟨by rfl, ?_⟩) (h := ?_); rotate_left; (focus (((intro w hSw; (try dsimp only at hSw); go_simp) <;> (try with_reducible rfl)); done)); (try simp only [Act.put, p1_, p2_, p3_]))); ((refine tk_ (i := 2) (v := ?_) (y := Or.inl ⟨by rfl, ?_⟩) (h := ?_); rotate_left; (focus (((intro w hSw; (try dsimp only at hSw); go_simp) <;> (try with_reducible rfl)); done)); (try simp only [Act.put, p1_, p2_, p3_]))); ((refine tk_ (i := 3) (v := ?_) (y := Or.inl ⟨by rfl, ?_⟩) (h := ?_); rotate_left; (focus (((intro w hSw; (try dsimp only at hSw); go_simp) <;> (try with_reducible rfl)); done)); (try simp only [Act.put, p1_, p2_, p3_]))); ((refine tk_ (i := 4) (v := ?_) (y := Or.inl ⟨by rfl, ?_⟩) (h := ?_); rotate_left; (focus (((intro w hSw; (try dsimp only at hSw); go_simp) <;> (try with_reducible rfl)); done)); (try simp only [Act.put, p1_, p2_, p3_]))); ((refine tk_ (i := 5) (v := ?_) (y := Or.inl ⟨by rfl, ?_⟩) (h := ?_); rotate_left; (focus (((intro w hSw; (try dsimp only at hSw); go_simp) <;> (try with_reducible rfl)); done)); (try simp only [Act.put, p1_, p2_, p3_]))); ((refine tk_ (i := 6) (v := ?_) (y := Or.inl ⟨by rfl, ?_⟩) (h := ?_); rotate_left; (focus (((intro w hSw; (try dsimp only at hSw); go_simp) <;> (try with_reducible rfl)); done)); (try simp only [Act.put, p1_, p2_, p3_]))); ((refine tk_ (i := 8) (v := ?_) (y := Or.inl ⟨by rfl, ?_⟩) (h := ?_); rotate_left; (focus (((intro w hSw; (try dsimp only at hSw); go_simp) <;> (try with_reducible rfl)); done)); (try simp only [Act.put, p1_, p2_, p3_]))); ((refine tk_ (i := 9) (v := ?_) (y := Or.inl ⟨by rfl, ?_⟩) (h := ?_); rotate_left; (focus (((intro w hSw; (try dsimp only at hSw); go_simp) <;> (try with_reducible rfl)); done)); (try simp only [Act.put, p1_, p2_, p3_]))); ((refine tk_ (i := 10) (v := ?_) (y := Or.inl ⟨by rfl, ?_⟩) (h := ?_); rotate_left; (focus (((intro w hSw; (try dsimp only at hSw); go_simp) <;> (try with_reducible rfl)); done)); (try simp only [Act.put, p1_, p2_, p3_]))); ((refine wpAnyH_ready (rs := [7]) (by kernel_rfl) (by simp) ?_; refine AllReadyH.cons (by simp only [e1_, e2_, e3_]; try rfl) (fun K hK => ?_) AllReadyH.nil; go_simp; (go_at_call 224; refine (spec_l1Abs _ _ (by omega) (by omega)).mono ?_; rintro e w' ⟨rfl, rfl⟩); (try go_wp2_with fail); refine hK.out _ _ ?_ (fun hHeld => ?_); (focus ((try dsimp only); (go_keep))); clear hK K; (try simp only [Act.put, p1_, p2_, p3_]))); ((refine wpAnyH_ready (rs := [11]) (by kernel_rfl) (by simp) ?_; refine AllReadyH.cons (by simp only [e1_, e2_, e3_]; try rfl) (fun K hK => ?_) AllReadyH.nil; go_simp; (go_at_call 108; (refine (spec_l12Cell_tb R C p j A n cap f v2 HV2.out _ (B := B) (Ko ho) (by omega) (by omega) (by omega) (by omega)).mono ?_; rintro e w1 ⟨rfl, hb1⟩; (have hO_1 : BM w1 w.heap.size R C A n cap := (Kb hO)); (have ho_1 : OR w1 B (.slice A n cap) (tb R C f) := (Ko ho)); (have hbw_1 : Below w.heap.size w w1 := Kw); (have hsz_1 := hbw_1.size); clear hO ho hbw hb1; clear oa ob oc of ol; (have hO := hO_1); (have ho := ho_1); (have hbw := hbw_1); clear hO_1 ho_1 hbw_1; obtain ⟨oa, ob, oc, of, ol⟩ := hO.mx)); (try go_wp2_with fail); refine hK.out _ _ ?_ (fun hHeld => ?_); (focus ((try dsimp only); (go_keep))); clear hK K; (try simp only [Act.put, p1_, p2_, p3_]))); ((refine wpAnyH_ready (rs := [12]) (by kernel_rfl) (by simp) ?_; refine AllReadyH.cons (by simp only [e1_, e2_, e3_]; try rfl) (fun K hK => ?_) AllReadyH.nil; go_simp; (go_at_call 224; refine (spec_l1Abs _ _ (by omega) (by omega)).mono ?_; rintro e w' ⟨rfl, rfl⟩); (try go_wp2_with fail); refine hK.out _ _ ?_ (fun hHeld => ?_); (focus ((try dsimp only); (go_keep))); clear hK K; (try simp only [Act.put, p1_, p2_, p3_]))); ((refine tk_ (i := 13) (v := ?_) (y := Or.inl ⟨by rfl, ?_⟩) (h := ?_); rotate_left; (focus (((intro w hSw; (try dsimp only at hSw); go_simp) <;> (try with_reducible rfl)); done)); (try simp only [Act.put, p1_, p2_, p3_]))); ((refine tk_ (i := 14) (v := ?_) (y := Or.inl ⟨by rfl, ?_⟩) (h := ?_); rotate_left; (focus (((intro w hSw; (try dsimp only at hSw); go_simp) <;> (try with_reducible rfl)); done)); (try simp only [Act.put, p1_, p2_, p3_]))); ((refine tk_ (i := 15) (v := ?_) (y := Or.inl ⟨by rfl, ?_⟩) (h := ?_); rotate_left; (focus (((intro w hSw; (try dsimp only at hSw); go_simp) <;> (try with_reducible rfl)); done)); (try simp only [Act.put, p1_, p2_, p3_]))); (refine wpAnyH_done (by kernel_rfl) ?_ _))
            go_wp2_with fail
            go_roundw
            case rel => exact ⟨i + 1, by go_num, by rw [HX.out], by omega, by omega, Kb hO, Ko ho, Kw⟩
            case measure => simp only [intOf]; omega
    · obtain rfl : i = R := by omega
      have hb : -1 ≤ lstK f j t (i - t) ∧ lstK f j t (i - t) ≤ 100 := by
        rcases lstK_cases f j t (i - t) with ⟨e, _⟩ | ⟨p, e, _, h3, _⟩
        · omega
        · omega
      obtain ⟨b1, b2⟩ := hb
      have HL : Hid (lst i f j t = lstK f j t (i - t)) := Lib.hid rfl
      generalize lstK f j t (i - t) = q at *
      go_wp2_with fail
      go_ret
      exact BV.mk (vint HL.out.symm) hbw
set_option maxRecDepth 100000 in
set_option maxHeartbeats 4000000 in
theorem spec_l12Alone (R C t j p : Nat) (A : Option Addr) (n cap : Nat) (f : Fn2) (w : World) {B : Nat} (h : OR w B (.slice A n cap) (tb R C f)) (ht : t ≤ R) (hj : j < C) (hp : p < R) (hC : C ≤ 24) (hR : R ≤ 24) :
    Calls Try.prog 207 #[.agg #[.int .i64 R, .int .i64 C, .slice A n cap], .int .i64 t, .int .i64 j, .int .i64 p] w (BV (.bool (!oth R f j t p)) w) := by
  have HNO := Lib.hid (oth_no (R := R) (f := f) (j := j) (t := t) (p := p))
  have HYES := Lib.hid (fun i h1 h2 h3 h4 => (oth_iff (R := R) (f := f) (j := j) (t := t) (p := p)).2 ⟨i, h1, h2, h3, h4⟩)
  generalize oth R f j t p = res at *
  go_enter Try.func207, Try.ntmps207
  go_wp2_with fail
  go_loopw [9] (fun v wr => ∃ (i : Nat), v = .int .i64 i ∧ t ≤ i ∧ i ≤ R ∧ (∀ k, t ≤ k → k < i → ¬ (k ≠ p ∧ f k j ≠ 0)) ∧ BM wr w.heap.size R C A n cap ∧ OR wr B (.slice A n cap) (tb R C f) ∧ Below w.heap.size w wr) (fun v _ => R - (intOf v).toNat)
  case atStart => exact ⟨t, rfl, Nat.le_refl _, ht, fun k h1 h2 => absurd h1 (by omega), Ka, Ko h, Kw⟩
  case round =>
    clear h
    obtain ⟨i, rfl, hti, hiR, hno, hO, ho, hbw⟩ := hrel
    obtain ⟨oa, ob, oc, of, ol⟩ := hO.mx
    have hsz := hbw.size
    have HN := Lib.hid hno
    clear hno
    by_cases hlt : i < R
    · by_cases hip : i = p
      · have hb : ((i : Int) != (p : Int)) = false := by simp [hip]
        have HS : Hid (∀ k, t ≤ k → k < i + 1 → ¬ (k ≠ p ∧ f k j ≠ 0)) := Lib.hid (fun k h1 h2 => by
          by_cases e : k = i
          · exact fun h3 => h3.1 (e.trans hip)
          · exact HN.out k h1 (by omega))
        clear hip
        go_wp2_with fail
        go_roundw
        case rel => exact ⟨i + 1, by go_num, by omega, by omega, HS.out, Kb hO, Ko ho, Kw⟩
        case measure => simp only [intOf]; omega
      · have hb : ((i : Int) != (p : Int)) = true := by simp; omega
        have HIP := Lib.hid hip
        clear hip
        by_cases hz : f i j = 0
        · have HS : Hid (∀ k, t ≤ k → k < i + 1 → ¬ (k ≠ p ∧ f k j ≠ 0)) := Lib.hid (fun k h1 h2 => by
            by_cases e : k = i
            · exact fun h3 => h3.2 (by rw [e]; exact hz)
            · exact HN.out k h1 (by omega))
          have HZ := Lib.hid hz
          clear hz
          go_wp2_with fail
          (refine (spec_l12Cell_tb R C i j A n cap f (0) HZ.out _ (B := B) (Ko ho) (by omega) (by omega) (by omega) (by omega)).mono ?_; rintro e w1 ⟨rfl, hb1⟩; (have hO_1 : BM w1 w.heap.size R C A n cap := (Kb hO)); (have ho_1 : OR w1 B (.slice A n cap) (tb R C f) := (Ko ho)); (have hbw_1 : Below w.heap.size w w1 := Kw); (have hsz_1 := hbw_1.size); clear hO ho hbw hb1; clear oa ob oc of ol; (have hO := hO_1); (have ho := ho_1); (have hbw := hbw_1); clear hO_1 ho_1 hbw_1; obtain ⟨oa, ob, oc, of, ol⟩ := hO.mx)
          go_wp2_with fail
          go_roundw
          case rel => exact ⟨i + 1, by go_num, by omega, by omega, HS.out, Kb hO, Ko ho, Kw⟩
          case measure => simp only [intOf]; omega
        · have HR := Lib.hid (HYES.out i hti hlt HIP.out hz)
          have hnz : (f i j != 0) = true := by simpa using hz
          clear hz
          generalize hv : f i j = v at *
          have HV := Lib.hid hv
          clear hv
          go_wp2_with fail
          (refine (spec_l12Cell_tb R C i j A n cap f v HV.out _ (B := B) (Ko ho) (by omega) (by omega) (by omega) (by omega)).mono ?_; rintro e w1 ⟨rfl, hb1⟩; (have hO_1 : BM w1 w.heap.size R C A n cap := (Kb hO)); (have ho_1 : OR w1 B (.slice A n cap) (tb R C f) := (Ko ho)); (have hbw_1 : Below w.heap.size w w1 := Kw); (have hsz_1 := hbw_1.size); clear hO ho hbw hb1; clear oa ob oc of ol; (have hO := hO_1); (have ho := ho_1); (have hbw := hbw_1); clear hO_1 ho_1 hbw_1; obtain ⟨oa, ob, oc, of, ol⟩ := hO.mx)
          go_wp2_with fail
          go_ret
          exact BV.mk (vbool (by rw [HR.out]; rfl)) hbw
    · obtain rfl : i = R := by omega
      have HR := Lib.hid (HNO.out HN.out)
      go_wp2_with fail
      go_ret
      exact BV.mk (vbool (by rw [HR.out]; rfl)) hbw
/-- Two own slices written. -/
def WW2 (sv sv2 : Value) (B : Nat) (xs ys : List Int) (w : World) (e : Ending) (w' : World) : Prop := e = .returned (.tuple #[]) ∧ OR w' B sv xs ∧ OR w' B sv2 ys ∧ Below B w w' ∧ ∀ k, k < w.heap.size → some k ≠ sv.ownBlock → some k ≠ sv2.ownBlock → w'.heap[k]? = w.heap[k]?
set_option maxHeartbeats 1000000 in
theorem spec_l12Ops_add (R C i j : Nat) (t : Int) (A : Option Addr) (n cap : Nat) (A2 : Option Addr) (n2 cap2 : Nat) (f g : Fn2) (w : World) {B : Nat} (h1 : OR w B (.slice A n cap) (tb R C f)) (h2 : OR w B (.slice A2 n2 cap2) (tb R R g)) (hap : Apart (.slice A n cap) (.slice A2 n2 cap2)) (hBs : B ≤ w.heap.size) (hi : i < R) (hj : j < R) (hij : i ≠ j) (ht : Num t) (hf : NBF f) (hg : NBF g) (hC0 : 0 < C) (hC : C ≤ 24) (hR : R ≤ 24) :
    Calls Try.prog 209 #[.agg #[.int .i64 R, .int .i64 C, .slice A n cap], .agg #[.int .i64 R, .int .i64 R, .slice A2 n2 cap2], .agg #[.int .i64 2, .int .i64 i, .int .i64 j, .int .i64 t]] w (WW2 (.slice A n cap) (.slice A2 n2 cap2) B (tb R C (opA f i j t)) (tb R R (opA g i j t)) w) := by
  have HIJ := Lib.hid hij
  have HT := Lib.hid ht
  have HF := Lib.hid hf
  have HG := Lib.hid hg
  clear hij ht hf hg
  obtain ⟨ha, hb⟩ : Own (.slice A n cap) B w.heap.size ∧ Own (.slice A2 n2 cap2) B w.heap.size := ⟨h1.own, h2.own⟩
  have HA := Lib.hid ha
  have HB := Lib.hid hb
  have HAP := Lib.hid hap
  have HBs := Lib.hid hBs
  clear ha hb
  go_enter Try.func209, Try.ntmps209
  go_wp2_with fail
  have hM1 : BM ((((w.alloc (.cells #[.int .i64 R, .int .i64 C, .slice A n cap] 26)).alloc (.cells #[.int .i64 R, .int .i64 R, .slice A2 n2 cap2] 26)).alloc (.cells #[.int .i64 2, .int .i64 i, .int .i64 j, .int .i64 t] 66))) (w.heap.size + 1) R R A2 n2 cap2 := Ka
  have hX1 : Blk ((((w.alloc (.cells #[.int .i64 R, .int .i64 C, .slice A n cap] 26)).alloc (.cells #[.int .i64 R, .int .i64 R, .slice A2 n2 cap2] 26)).alloc (.cells #[.int .i64 2, .int .i64 i, .int .i64 j, .int .i64 t] 66))) (w.heap.size + 1 + 1) 66 #[.int .i64 2, .int .i64 i, .int .i64 j, .int .i64 t] := Blk.new_at _ _ _ _ (by simp)
  have hbw1 : Below B w ((((w.alloc (.cells #[.int .i64 R, .int .i64 C, .slice A n cap] 26)).alloc (.cells #[.int .i64 R, .int .i64 R, .slice A2 n2 cap2] 26)).alloc (.cells #[.int .i64 2, .int .i64 i, .int .i64 j, .int .i64 t] 66))) := by
    refine Below.mono (B := w.heap.size) ?_ HBs.out
    (repeat (first | (with_reducible (first | exact Below.refl _ _ | assumption | refine below_drewN ?_ _ | refine Below.drew ?_ | refine Below.alloc ?_ ?_ _ | refine Below.setCell ?_ ?_ _ | refine below_i ?_)) | go_size))
  generalize hw0 : ((((w.alloc (.cells #[.int .i64 R, .int .i64 C, .slice A n cap] 26)).alloc (.cells #[.int .i64 R, .int .i64 R, .slice A2 n2 cap2] 26)).alloc (.cells #[.int .i64 2, .int .i64 i, .int .i64 j, .int .i64 t] 66))) = w0 at hM1 hX1 hbw1
  have hbw0 : Below w.heap.size w w0 := by rw [← hw0]; (repeat (first | (with_reducible (first | exact Below.refl _ _ | assumption | refine below_drewN ?_ _ | refine Below.drew ?_ | refine Below.alloc ?_ ?_ _ | refine Below.setCell ?_ ?_ _ | refine below_i ?_)) | go_size))
  have ho1 : OR w0 B (.slice A n cap) (tb R C f) := by rw [← hw0]; (with_reducible (repeat (first | exact h1 | refine OR.drew ?_ | refine OR.drewN ?_ _ | refine OR.alloc ?_ _ | refine OR.b_ ?_ | refine OR.l_ ?_)))
  have ho2 : OR w0 B (.slice A2 n2 cap2) (tb R R g) := by rw [← hw0]; (with_reducible (repeat (first | exact h2 | refine OR.drew ?_ | refine OR.drewN ?_ _ | refine OR.alloc ?_ _ | refine OR.b_ ?_ | refine OR.l_ ?_)))
  have hs0 : B ≤ w0.heap.size := by rw [← hw0]; simp; have := HBs.out; omega
  refine (spec_l5Do_add R C i j t A n cap f _ (B := B) ho1 hi hj HIJ.out HT.out HF.out hC0 hC hR).mono ?_
  rintro e w1 ⟨rfl, ho1', hg1, hs1⟩
  have hM2 : BM w1 (w.heap.size + 1) R R A2 n2 cap2 := hM1.grown hg1 (fun e => by have := (HA.out _ e.symm).2; omega)
  have hX2 := hX1.grown hg1 (fun e => by have := (HA.out _ e.symm).2; omega)
  have ho2' : OR w1 B (.slice A2 n2 cap2) (tb R R g) := ho2.kept hg1 HAP.out.symm.ne
  have hbw2 : Below B w w1 := hbw1.trans (ho1.below_grown hg1 hs0)
  obtain ⟨ua, ub, uc, uf, ul⟩ := hM2.mx
  have x0 := hX2.cell 0
  have x1 := hX2.cell 1
  have x2 := hX2.cell 2
  have x3 := hX2.cell 3
  simp at x0 x1 x2 x3
  go_wp2_with fail
  refine (spec_l5Do_add R R i j t A2 n2 cap2 g _ (B := B) ho2' hi hj HIJ.out HT.out HG.out (by omega) (by omega) hR).mono ?_
  rintro e w2 ⟨rfl, ho2'', hg2, hs2⟩
  have ho1'' : OR w2 B (.slice A n cap) _ := ho1'.kept hg2 HAP.out.ne
  have hbw3 : Below B w w2 := hbw2.trans (ho2'.below_grown hg2 (by omega))
  go_wp2_with fail
  go_end0
  exact ⟨rfl, ho1'', ho2'', hbw3, fun k hk e1 e2 => (hg2.block k (by have := hg1.size; have := hbw0.size; omega) e2).trans ((hg1.block k (by have := hbw0.size; omega) e1).trans (hbw0.block k hk))⟩
set_option maxHeartbeats 1000000 in
theorem spec_l12Ops_swap (R C i j : Nat) (A : Option Addr) (n cap : Nat) (A2 : Option Addr) (n2 cap2 : Nat) (f g : Fn2) (w : World) {B : Nat} (h1 : OR w B (.slice A n cap) (tb R C f)) (h2 : OR w B (.slice A2 n2 cap2) (tb R R g)) (hap : Apart (.slice A n cap) (.slice A2 n2 cap2)) (hBs : B ≤ w.heap.size) (hi : i < R) (hj : j < R) (hij : i ≠ j) (hC0 : 0 < C) (hC : C ≤ 24) (hR : R ≤ 24) :
    Calls Try.prog 209 #[.agg #[.int .i64 R, .int .i64 C, .slice A n cap], .agg #[.int .i64 R, .int .i64 R, .slice A2 n2 cap2], .agg #[.int .i64 0, .int .i64 i, .int .i64 j, .int .i64 0]] w (WW2 (.slice A n cap) (.slice A2 n2 cap2) B (tb R C (swF f i j)) (tb R R (swF g i j)) w) := by
  have HIJ := Lib.hid hij
  clear hij
  obtain ⟨ha, hb⟩ : Own (.slice A n cap) B w.heap.size ∧ Own (.slice A2 n2 cap2) B w.heap.size := ⟨h1.own, h2.own⟩
  have HA := Lib.hid ha
  have HB := Lib.hid hb
  have HAP := Lib.hid hap
  have HBs := Lib.hid hBs
  clear ha hb
  go_enter Try.func209, Try.ntmps209
  go_wp2_with fail
  have hM1 : BM ((((w.alloc (.cells #[.int .i64 R, .int .i64 C, .slice A n cap] 26)).alloc (.cells #[.int .i64 R, .int .i64 R, .slice A2 n2 cap2] 26)).alloc (.cells #[.int .i64 0, .int .i64 i, .int .i64 j, .int .i64 0] 66))) (w.heap.size + 1) R R A2 n2 cap2 := Ka
  have hX1 : Blk ((((w.alloc (.cells #[.int .i64 R, .int .i64 C, .slice A n cap] 26)).alloc (.cells #[.int .i64 R, .int .i64 R, .slice A2 n2 cap2] 26)).alloc (.cells #[.int .i64 0, .int .i64 i, .int .i64 j, .int .i64 0] 66))) (w.heap.size + 1 + 1) 66 #[.int .i64 0, .int .i64 i, .int .i64 j, .int .i64 0] := Blk.new_at _ _ _ _ (by simp)
  have hbw1 : Below B w ((((w.alloc (.cells #[.int .i64 R, .int .i64 C, .slice A n cap] 26)).alloc (.cells #[.int .i64 R, .int .i64 R, .slice A2 n2 cap2] 26)).alloc (.cells #[.int .i64 0, .int .i64 i, .int .i64 j, .int .i64 0] 66))) := by
    refine Below.mono (B := w.heap.size) ?_ HBs.out
    (repeat (first | (with_reducible (first | exact Below.refl _ _ | assumption | refine below_drewN ?_ _ | refine Below.drew ?_ | refine Below.alloc ?_ ?_ _ | refine Below.setCell ?_ ?_ _ | refine below_i ?_)) | go_size))
  generalize hw0 : ((((w.alloc (.cells #[.int .i64 R, .int .i64 C, .slice A n cap] 26)).alloc (.cells #[.int .i64 R, .int .i64 R, .slice A2 n2 cap2] 26)).alloc (.cells #[.int .i64 0, .int .i64 i, .int .i64 j, .int .i64 0] 66))) = w0 at hM1 hX1 hbw1
  have hbw0 : Below w.heap.size w w0 := by rw [← hw0]; (repeat (first | (with_reducible (first | exact Below.refl _ _ | assumption | refine below_drewN ?_ _ | refine Below.drew ?_ | refine Below.alloc ?_ ?_ _ | refine Below.setCell ?_ ?_ _ | refine below_i ?_)) | go_size))
  have ho1 : OR w0 B (.slice A n cap) (tb R C f) := by rw [← hw0]; (with_reducible (repeat (first | exact h1 | refine OR.drew ?_ | refine OR.drewN ?_ _ | refine OR.alloc ?_ _ | refine OR.b_ ?_ | refine OR.l_ ?_)))
  have ho2 : OR w0 B (.slice A2 n2 cap2) (tb R R g) := by rw [← hw0]; (with_reducible (repeat (first | exact h2 | refine OR.drew ?_ | refine OR.drewN ?_ _ | refine OR.alloc ?_ _ | refine OR.b_ ?_ | refine OR.l_ ?_)))
  have hs0 : B ≤ w0.heap.size := by rw [← hw0]; simp; have := HBs.out; omega
  refine (spec_l5Do_swap R C i j 0 A n cap f _ (B := B) ho1 hi hj HIJ.out hC0 (by omega) hR).mono ?_
  rintro e w1 ⟨rfl, ho1', hg1, hs1⟩
  have hM2 : BM w1 (w.heap.size + 1) R R A2 n2 cap2 := hM1.grown hg1 (fun e => by have := (HA.out _ e.symm).2; omega)
  have hX2 := hX1.grown hg1 (fun e => by have := (HA.out _ e.symm).2; omega)
  have ho2' : OR w1 B (.slice A2 n2 cap2) (tb R R g) := ho2.kept hg1 HAP.out.symm.ne
  have hbw2 : Below B w w1 := hbw1.trans (ho1.below_grown hg1 hs0)
  obtain ⟨ua, ub, uc, uf, ul⟩ := hM2.mx
  have x0 := hX2.cell 0
  have x1 := hX2.cell 1
  have x2 := hX2.cell 2
  have x3 := hX2.cell 3
  simp at x0 x1 x2 x3
  go_wp2_with fail
  refine (spec_l5Do_swap R R i j 0 A2 n2 cap2 g _ (B := B) ho2' hi hj HIJ.out (by omega) (by omega) hR).mono ?_
  rintro e w2 ⟨rfl, ho2'', hg2, hs2⟩
  have ho1'' : OR w2 B (.slice A n cap) _ := ho1'.kept hg2 HAP.out.ne
  have hbw3 : Below B w w2 := hbw2.trans (ho2'.below_grown hg2 (by omega))
  go_wp2_with fail
  go_end0
  exact ⟨rfl, ho1'', ho2'', hbw3, fun k hk e1 e2 => (hg2.block k (by have := hg1.size; have := hbw0.size; omega) e2).trans ((hg1.block k (by have := hbw0.size; omega) e1).trans (hbw0.block k hk))⟩
set_option maxHeartbeats 1000000 in
theorem spec_l12Ops_neg (R C i : Nat) (A : Option Addr) (n cap : Nat) (A2 : Option Addr) (n2 cap2 : Nat) (f g : Fn2) (w : World) {B : Nat} (h1 : OR w B (.slice A n cap) (tb R C f)) (h2 : OR w B (.slice A2 n2 cap2) (tb R R g)) (hap : Apart (.slice A n cap) (.slice A2 n2 cap2)) (hBs : B ≤ w.heap.size) (hi : i < R) (hf : OKF R C f) (hg : OKF R R g) (hC0 : 0 < C) (hC : C ≤ 24) (hR : R ≤ 24) :
    Calls Try.prog 209 #[.agg #[.int .i64 R, .int .i64 C, .slice A n cap], .agg #[.int .i64 R, .int .i64 R, .slice A2 n2 cap2], .agg #[.int .i64 1, .int .i64 i, .int .i64 i, .int .i64 0]] w (WW2 (.slice A n cap) (.slice A2 n2 cap2) B (tb R C (opM f i)) (tb R R (opM g i)) w) := by
  have HF := Lib.hid hf
  have HG := Lib.hid hg
  rw [← opM_eq hf i hi, ← opM_eq hg i hi]
  clear hf hg
  obtain ⟨ha, hb⟩ : Own (.slice A n cap) B w.heap.size ∧ Own (.slice A2 n2 cap2) B w.heap.size := ⟨h1.own, h2.own⟩
  have HA := Lib.hid ha
  have HB := Lib.hid hb
  have HAP := Lib.hid hap
  have HBs := Lib.hid hBs
  clear ha hb
  go_enter Try.func209, Try.ntmps209
  go_wp2_with fail
  have hM1 : BM ((((w.alloc (.cells #[.int .i64 R, .int .i64 C, .slice A n cap] 26)).alloc (.cells #[.int .i64 R, .int .i64 R, .slice A2 n2 cap2] 26)).alloc (.cells #[.int .i64 1, .int .i64 i, .int .i64 i, .int .i64 0] 66))) (w.heap.size + 1) R R A2 n2 cap2 := Ka
  have hX1 : Blk ((((w.alloc (.cells #[.int .i64 R, .int .i64 C, .slice A n cap] 26)).alloc (.cells #[.int .i64 R, .int .i64 R, .slice A2 n2 cap2] 26)).alloc (.cells #[.int .i64 1, .int .i64 i, .int .i64 i, .int .i64 0] 66))) (w.heap.size + 1 + 1) 66 #[.int .i64 1, .int .i64 i, .int .i64 i, .int .i64 0] := Blk.new_at _ _ _ _ (by simp)
  have hbw1 : Below B w ((((w.alloc (.cells #[.int .i64 R, .int .i64 C, .slice A n cap] 26)).alloc (.cells #[.int .i64 R, .int .i64 R, .slice A2 n2 cap2] 26)).alloc (.cells #[.int .i64 1, .int .i64 i, .int .i64 i, .int .i64 0] 66))) := by
    refine Below.mono (B := w.heap.size) ?_ HBs.out
    (repeat (first | (with_reducible (first | exact Below.refl _ _ | assumption | refine below_drewN ?_ _ | refine Below.drew ?_ | refine Below.alloc ?_ ?_ _ | refine Below.setCell ?_ ?_ _ | refine below_i ?_)) | go_size))
  generalize hw0 : ((((w.alloc (.cells #[.int .i64 R, .int .i64 C, .slice A n cap] 26)).alloc (.cells #[.int .i64 R, .int .i64 R, .slice A2 n2 cap2] 26)).alloc (.cells #[.int .i64 1, .int .i64 i, .int .i64 i, .int .i64 0] 66))) = w0 at hM1 hX1 hbw1
  have hbw0 : Below w.heap.size w w0 := by rw [← hw0]; (repeat (first | (with_reducible (first | exact Below.refl _ _ | assumption | refine below_drewN ?_ _ | refine Below.drew ?_ | refine Below.alloc ?_ ?_ _ | refine Below.setCell ?_ ?_ _ | refine below_i ?_)) | go_size))
  have ho1 : OR w0 B (.slice A n cap) (tb R C f) := by rw [← hw0]; (with_reducible (repeat (first | exact h1 | refine OR.drew ?_ | refine OR.drewN ?_ _ | refine OR.alloc ?_ _ | refine OR.b_ ?_ | refine OR.l_ ?_)))
  have ho2 : OR w0 B (.slice A2 n2 cap2) (tb R R g) := by rw [← hw0]; (with_reducible (repeat (first | exact h2 | refine OR.drew ?_ | refine OR.drewN ?_ _ | refine OR.alloc ?_ _ | refine OR.b_ ?_ | refine OR.l_ ?_)))
  have hs0 : B ≤ w0.heap.size := by rw [← hw0]; simp; have := HBs.out; omega
  refine (spec_l5Do_neg R C i 0 A n cap f _ (B := B) ho1 hi (fun k hk => HF.out i k hi hk) hC0 hC hR).mono ?_
  rintro e w1 ⟨rfl, ho1', hg1, hs1⟩
  have hM2 : BM w1 (w.heap.size + 1) R R A2 n2 cap2 := hM1.grown hg1 (fun e => by have := (HA.out _ e.symm).2; omega)
  have hX2 := hX1.grown hg1 (fun e => by have := (HA.out _ e.symm).2; omega)
  have ho2' : OR w1 B (.slice A2 n2 cap2) (tb R R g) := ho2.kept hg1 HAP.out.symm.ne
  have hbw2 : Below B w w1 := hbw1.trans (ho1.below_grown hg1 hs0)
  obtain ⟨ua, ub, uc, uf, ul⟩ := hM2.mx
  have x0 := hX2.cell 0
  have x1 := hX2.cell 1
  have x2 := hX2.cell 2
  have x3 := hX2.cell 3
  simp at x0 x1 x2 x3
  go_wp2_with fail
  refine (spec_l5Do_neg R R i 0 A2 n2 cap2 g _ (B := B) ho2' hi (fun k hk => HG.out i k hi hk) (by omega) (by omega) hR).mono ?_
  rintro e w2 ⟨rfl, ho2'', hg2, hs2⟩
  have ho1'' : OR w2 B (.slice A n cap) _ := ho1'.kept hg2 HAP.out.ne
  have hbw3 : Below B w w2 := hbw2.trans (ho2'.below_grown hg2 (by omega))
  go_wp2_with fail
  go_end0
  exact ⟨rfl, ho1'', ho2'', hbw3, fun k hk e1 e2 => (hg2.block k (by have := hg1.size; have := hbw0.size; omega) e2).trans ((hg1.block k (by have := hbw0.size; omega) e1).trans (hbw0.block k hk))⟩
end Go.Proofs.Ytacjonkehcamgaa

/-
  DERIVED. A slice of bytes that came in, read.
-/
namespace Go.Proofs.Ytacjonkehcamgaa
open Go.ChangeShapes Go.WideShapes Go.ChangeAt Go.RowKit Go.Joins
set_option linter.unusedVariables false
section
variable {H : Type} {enc : TypeId × Value → H} {P : Program}
theorem reads_bytes {w : World} {base : Nat} {spare : Nat → Bool} {held : Bool} {t e : TypeId} {fuel : Nat} {v : Value} {x : DataW H × List MemPlace}
    (ht : P.underlying t = some (.slice e)) (he : P.underlying e = some (.int .u8)) (hc : P.cellsOf e = 1) (h : DataW.trod enc P w base spare held fuel t [v] = some x)
    (hlt : ∀ p ∈ x.2, p.block < w.heap.size) :
    ∃ A n cap xs, v = .slice A n cap ∧ n ≤ cap ∧ cap ≤ maxLen ∧ RB w w.heap.size A n xs := by
  rcases open_ints ht he hc h with ⟨hcs, hx⟩ | ⟨a, len, cap, zs, hcs, hb, hl, hm, hz, hx, hcell, hwf⟩
  · injection hcs with hv
    exact ⟨none, 0, 0, [], hv, Nat.le_refl _, by unfold maxLen; omega, rfl, fun h => absurd h (by omega), fun k => by simp⟩
  · injection hcs with hv
    have hzl : len ≤ zs.length := by rw [hz]; split <;> omega
    refine ⟨some a, len, cap, zs.take len, hv, hl, hm, by simp; omega, fun hn => ?_, fun k => ?_⟩
    · obtain ⟨b, off, rfl, hc'⟩ := ints_at hcell (by omega)
      refine ⟨b, off, rfl, ?_, fun k hk => ?_⟩
      · have h0 : MemPlace.cell b off ∈ x.2 := by
          rw [hx]
          simp only [MemPlace.row, List.mem_map, List.mem_range]
          exact ⟨0, by omega, rfl⟩
        exact hlt _ h0
      · rw [hc' k (by omega)]
        simp [List.getD, hk]
    · by_cases hk : k < (zs.take len).length
      · have h1 : (zs.take len).getD k 0 ∈ zs := by
          have : (zs.take len).getD k 0 = (zs.take len)[k] := by unfold List.getD; rw [List.getElem?_eq_getElem hk]; rfl
          rw [this]
          exact List.mem_of_mem_take (List.getElem_mem hk)
        simpa [Lit.wf, IntKind.min, IntKind.max, IntKind.signed, IntKind.bits] using hwf _ h1
      · have : (zs.take len).getD k 0 = 0 := by simp [List.getD, List.getElem?_eq_none (show (zs.take len).length ≤ k by omega)]
        rw [this]; omega
end
end Go.Proofs.Ytacjonkehcamgaa

/-
  DERIVED. Slices of ints that are drawn: moduli, right sides.
-/
namespace Go.Proofs.Ytacjonkehcamgaa
open Go.RowKit
set_option linter.unusedVariables false
set_option linter.unusedSimpArgs false
/-- What the call lays from block B0 on is a slice of at most lim ints. -/
def OIs (B0 lim : Nat) (w' : World) (v : Value) : Prop := ∃ A m c ys, v = .slice A m c ∧ OR w' B0 (.slice A m c) ys ∧ ys.length ≤ lim
theorem OIs.mk {B0 lim : Nat} {w' : World} {v : Value} {ys : List Int} (h : OR w' B0 v ys) (hl : ys.length ≤ lim) : OIs B0 lim w' v := by
  rcases h.form with ⟨h1, h2⟩ | ⟨g, cap, h1, _⟩ <;> subst h1 <;> exact ⟨_, _, _, ys, rfl, h, hl⟩
theorem CT.own {w0 w w' : World} {B b n cap : Nat} {A : Option Addr} {xs : List Int} {v : Value} {B1 : Nat} {ys : List Int} (h : CT w0 w B b n cap A xs) (hg : w.grownBy w' v.ownBlock) (ho : OR w B1 v ys) (hB : w0.heap.size ≤ B1) : CT w0 w' B b n cap A xs :=
  h.below (only_below hg (Nat.le_trans h.size (Nat.le_refl _)) fun g e => by have := (ho.own g e).1; omega) (Nat.le_refl _)
/-- The turning of the cursor keeps what is owned above it. -/
theorem OR.turned {w w' : World} {B B1 b n cap : Nat} {A : Option Addr} {xs ys : List Int} {v : Value} (h : OR w B1 v ys) (hc : CT w w' B b n cap A xs) (hb : b < B1) : OR w' B1 v ys :=
  h.kept hc.gr (.inr fun e => by have := (h.own b e).1; omega)
set_option maxRecDepth 100000 in
set_option maxHeartbeats 4000000 in
theorem spec_l8Right (b n cap : Nat) (A : Option Addr) (xs : List Int) (m : Int) (w : World) {B : Nat} (hct : CT w w B b n cap A xs) (hm : m ≤ 1000) :
    Calls Try.prog 122 #[.pointer (some ⟨b, 0, none⟩), .int .i64 m] w (DRV (OIs w.heap.size (m.toNat + 1)) B b n cap A xs w) := by
  have hsz := hct.size
  have hb := hct.hb
  go_enter Try.func122, Try.ntmps122
  go_wp2_with fail
  have ho : OR (w.alloc (.cells #[] 3)) w.heap.size (.slice (some ⟨w.heap.size, 0, none⟩) 0 0) [] := OR.empty w (Nat.le_refl _)
  go_loopw [5, 6] (fun u v wr => ∃ (k : Nat) (ys : List Int), v = .int .i64 k ∧ k ≤ m.toNat ∧ OR wr w.heap.size u ys ∧ ys.length = k ∧ CT w wr B b n cap A xs) (fun _ v _ => m.toNat - (intOf v).toNat)
  case atStart => exact ⟨0, [], rfl, by omega, ho, rfl, by (with_reducible (repeat (first | exact hct | refine CT.drew ?_ | refine CT.drewN ?_ _ | refine CT.alloc ?_ _ | refine CT.far ?_ Ks _ | refine CT.below ?_ (by assumption) Ks)))⟩
  case round =>
    clear hct ho
    obtain ⟨k, ys, rfl, hk0, ho, hl, hct⟩ := hrel
    have HL := Lib.hid hl
    have hl2 : ys.length ≤ 1000 := by omega
    clear hl
    have hsz := hct.size
    by_cases hk : (k : Int) < m
    · go_wp2_with (first | (go_at_call 200; refine (spec_l1Num b n cap A xs 9 _ (CT.self (w0 := w) (B := B) (by (with_reducible (repeat (first | exact hct | refine CT.drew ?_ | refine CT.drewN ?_ _ | refine CT.alloc ?_ _ | refine CT.far ?_ Ks _ | refine CT.below ?_ (by assumption) Ks))))) (by omega)).mono ?_; rintro e w1 ⟨v, rfl, ⟨x, rfl, hx0, hx1⟩, hc1⟩; have hct_1 : CT w w1 B b n cap A xs := CT.trans (by (with_reducible (repeat (first | exact hct | refine CT.drew ?_ | refine CT.drewN ?_ _ | refine CT.alloc ?_ _ | refine CT.far ?_ Ks _ | refine CT.below ?_ (by assumption) Ks)))) hc1; (first | have ho_1 := OR.turned ho hc1 hb | have ho_1 := OR.turned (OR.alloc ho _) hc1 hb | have ho_1 := OR.turned (OR.drew ho) hc1 hb); clear hct ho hc1; have hct := hct_1; have ho := ho_1; clear hct_1 ho_1; have hsz := hct.size) | (at_builtin; refine wpList_append_one _ rfl (.tmp 13) (.tmp 16) rfl w.heap.size _ _ rfl (ho.alloc _) _ x rfl ?f1 ?f2 ?f3 ?_; (case f1 => (simp [go_sem])); (case f2 => omega); (case f3 => (simp; omega)); intro v1 w2 hown1 hgr hat; (have hct_1 : CT w w2 B b n cap A xs := CT.own (by (with_reducible (repeat (first | exact hct | refine CT.drew ?_ | refine CT.drewN ?_ _ | refine CT.alloc ?_ _ | refine CT.far ?_ Ks _ | refine CT.below ?_ (by assumption) Ks)))) hgr (ho.alloc _) (Nat.le_refl _)); clear hct ho hgr hat; have hct := hct_1; have ho := hown1; clear hct_1 hown1; have hsz := hct.size))
      go_roundw
      case rel => exact ⟨k + 1, _, by go_num, by omega, ho, by simp [HL.out], hct⟩
      case measure => simp only [intOf]; omega
    · go_wp2_with (first | (go_at_call 170; refine (spec_l1Once b n cap A xs 24 _ (CT.self (w0 := w) (B := B) (by (with_reducible (repeat (first | exact hct | refine CT.drew ?_ | refine CT.drewN ?_ _ | refine CT.alloc ?_ _ | refine CT.far ?_ Ks _ | refine CT.below ?_ (by assumption) Ks)))))).mono ?_; rintro e w1 ⟨v, rfl, ⟨q, rfl⟩, hc1⟩; have hct_1 : CT w w1 B b n cap A xs := CT.trans (by (with_reducible (repeat (first | exact hct | refine CT.drew ?_ | refine CT.drewN ?_ _ | refine CT.alloc ?_ _ | refine CT.far ?_ Ks _ | refine CT.below ?_ (by assumption) Ks)))) hc1; (first | have ho_1 := OR.turned ho hc1 hb | have ho_1 := OR.turned (OR.alloc ho _) hc1 hb | have ho_1 := OR.turned (OR.drew ho) hc1 hb); clear hct ho hc1; have hct := hct_1; have ho := ho_1; clear hct_1 ho_1; have hsz := hct.size) | (at_builtin; refine wpList_append_one _ rfl (.tmp 20) (.tmp 21) rfl w.heap.size _ _ rfl (ho.alloc _) _ 1 rfl ?f1 ?f2 ?f3 ?_; (case f1 => (simp [go_sem])); (case f2 => omega); (case f3 => (simp; omega)); intro v1 w2 hown1 hgr hat; (have hct_1 : CT w w2 B b n cap A xs := CT.own (by (with_reducible (repeat (first | exact hct | refine CT.drew ?_ | refine CT.drewN ?_ _ | refine CT.alloc ?_ _ | refine CT.far ?_ Ks _ | refine CT.below ?_ (by assumption) Ks)))) hgr (ho.alloc _) (Nat.le_refl _)); clear hct ho hgr hat; have hct := hct_1; have ho := hown1; clear hct_1 hown1; have hsz := hct.size))
      all_goals go_ret
      all_goals exact ⟨_, rfl, OIs.mk ho (by have := HL.out; first | omega | (simp; omega)), by (with_reducible (repeat (first | exact hct | refine CT.drew ?_ | refine CT.drewN ?_ _ | refine CT.alloc ?_ _ | refine CT.far ?_ Ks _ | refine CT.below ?_ (by assumption) Ks)))⟩
end Go.Proofs.Ytacjonkehcamgaa

/-
  DERIVED. Sums of rows; two matrices whose rows span the same. No program in sight.
-/
namespace Go.Proofs.Ytacjonkehcamgaa
set_option linter.unusedVariables false
/-- v is a sum of rows. -/
def Sp (R C : Nat) (f : Fn2) (v : Nat → Int) : Prop := ∃ c : Nat → Int, ∀ y, y < C → v y = sumTo (fun k => c k * f k y) R
theorem Sp.row {R C : Nat} {f : Fn2} {i : Nat} (hi : i < R) : Sp R C f (f i) := ⟨idF i, fun y hy => by
  rw [sumTo_one (i := i) R hi (fun k hk hne => by unfold idF; rw [if_neg (fun e => hne e.symm), Int.zero_mul])]
  unfold idF; rw [if_pos rfl, Int.one_mul]⟩
theorem Sp.add {R C : Nat} {f : Fn2} {u v z : Nat → Int} {t : Int} (h : Sp R C f u) (h2 : Sp R C f v) (e : ∀ y, y < C → z y = u y + v y * t) : Sp R C f z := by
  obtain ⟨c, hc⟩ := h
  obtain ⟨d, hd⟩ := h2
  refine ⟨fun k => c k + d k * t, fun y hy => ?_⟩
  rw [e y hy, hc y hy, hd y hy, ← sumTo_mul, ← sumTo_add]
  exact sumTo_congr R fun k _ => by grind
theorem Sp.neg {R C : Nat} {f : Fn2} {u z : Nat → Int} (h : Sp R C f u) (e : ∀ y, y < C → z y = -u y) : Sp R C f z := by
  obtain ⟨c, hc⟩ := h
  refine ⟨fun k => -c k, fun y hy => ?_⟩
  rw [e y hy, hc y hy, ← sumTo_neg]
  exact sumTo_congr R fun k _ => by grind
theorem Sp.as {R C : Nat} {f : Fn2} {u z : Nat → Int} (h : Sp R C f u) (e : ∀ y, y < C → z y = u y) : Sp R C f z := by
  obtain ⟨c, hc⟩ := h
  exact ⟨c, fun y hy => by rw [e y hy, hc y hy]⟩
theorem Sp.trans {R R' C : Nat} {f g : Fn2} {v : Nat → Int} (h : Sp R C f v) (k : ∀ i, i < R → Sp R' C g (f i)) : Sp R' C g v := by
  obtain ⟨c, hc⟩ := h
  have hd : ∀ i, ∃ d : Nat → Int, i < R → ∀ y, y < C → f i y = sumTo (fun l => d l * g l y) R' := fun i => by
    by_cases hi : i < R
    · obtain ⟨d, hd⟩ := k i hi
      exact ⟨d, fun _ => hd⟩
    · exact ⟨fun _ => 0, fun h => absurd h hi⟩
  let d : Fn2 := fun i => Classical.choose (hd i)
  have hdd : ∀ i, i < R → ∀ y, y < C → f i y = sumTo (fun l => d i l * g l y) R' := fun i => Classical.choose_spec (hd i)
  refine ⟨fun l => sumTo (fun i => c i * d i l) R, fun y hy => ?_⟩
  rw [hc y hy]
  have e1 : sumTo (fun k => c k * f k y) R = sumTo (fun k => sumTo (fun l => c k * (d k l * g l y)) R') R := sumTo_congr R fun k hk => by
    rw [hdd k hk y hy, sumTo_mul']
  rw [e1, sumTo_swap]
  refine sumTo_congr R' fun l hl => ?_
  rw [← sumTo_mul]
  exact sumTo_congr R fun k hk => by grind
theorem Sp.mm {R n C : Nat} {a f : Fn2} {i : Nat} (hi : i < n) : Sp R C f (mm R a f i) := ⟨a i, fun y _ => rfl⟩
/-- Rows of both span the same. -/
def SPN (R C : Nat) (m f : Fn2) : Prop := (∀ i, i < R → Sp R C m (f i)) ∧ ∀ i, i < R → Sp R C f (m i)
theorem SPN.add {R C i j : Nat} {t : Int} {m f f' : Fn2} (h : SPN R C m f) (hi : i < R) (hj : j < R) (hij : i ≠ j) (h1 : ∀ y, y < C → f' i y = f i y + f j y * t) (h2 : ∀ x y, x < R → y < C → x ≠ i → f' x y = f x y) : SPN R C m f' := by
  have hr : ∀ x, x < R → Sp R C f' (f x) := fun x hx => by
    by_cases e : x = i
    · subst e
      exact Sp.add (t := -t) (Sp.row hi) (Sp.row (i := j) hj) fun y hy => by rw [h1 y hy, h2 j y hj hy (fun e => hij e.symm)]; grind
    · exact (Sp.row hx).as fun y hy => (h2 x y hx hy e).symm
  refine ⟨fun x hx => ?_, fun x hx => (h.2 x hx).trans hr⟩
  by_cases e : x = i
  · subst e
    exact Sp.add (h.1 x hx) (h.1 j hj) h1
  · exact (h.1 x hx).as fun y hy => h2 x y hx hy e
theorem SPN.neg {R C i : Nat} {m f f' : Fn2} (h : SPN R C m f) (hi : i < R) (h1 : ∀ y, y < C → f' i y = -f i y) (h2 : ∀ x y, x < R → y < C → x ≠ i → f' x y = f x y) : SPN R C m f' := by
  have hr : ∀ x, x < R → Sp R C f' (f x) := fun x hx => by
    by_cases e : x = i
    · subst e
      exact Sp.neg (Sp.row hx) fun y hy => by rw [h1 y hy]; omega
    · exact (Sp.row hx).as fun y hy => (h2 x y hx hy e).symm
  refine ⟨fun x hx => ?_, fun x hx => (h.2 x hx).trans hr⟩
  by_cases e : x = i
  · subst e
    exact Sp.neg (h.1 x hx) h1
  · exact (h.1 x hx).as fun y hy => h2 x y hx hy e
theorem SPN.swap {R C i j : Nat} {m f : Fn2} (h : SPN R C m f) (hi : i < R) (hj : j < R) : SPN R C m (swF f i j) := by
  have e1 : ∀ x, ∃ z, (x < R → z < R) ∧ swF f i j x = f z := fun x => ⟨if x = i then j else if x = j then i else x, fun hx => (by (split; exact hj; split; exact hi; exact hx)), rfl⟩
  have e2 : ∀ x, ∃ z, (x < R → z < R) ∧ f x = swF f i j z := fun x => by
    refine ⟨if x = i then j else if x = j then i else x, fun hx => (by (split; exact hj; split; exact hi; exact hx)), ?_⟩
    funext y
    unfold swF
    congr 1
    by_cases a : x = i
    · subst a
      rw [if_pos rfl]
      by_cases b : j = x
      · rw [if_pos b, b]
      · rw [if_neg b, if_pos rfl]
    · rw [if_neg a]
      by_cases b : x = j
      · subst b
        rw [if_pos rfl, if_pos rfl]
      · rw [if_neg b, if_neg a, if_neg b]
  refine ⟨fun x hx => ?_, fun x hx => (h.2 x hx).trans fun k hk => ?_⟩
  · obtain ⟨z, hz, e⟩ := e1 x
    rw [e]; exact h.1 z (hz hx)
  · obtain ⟨z, hz, e⟩ := e2 k
    rw [e]; exact Sp.row (hz hk)
theorem SPN.refl (R C : Nat) (m : Fn2) : SPN R C m m := ⟨fun i hi => Sp.row hi, fun i hi => Sp.row hi⟩
theorem SPN.symm {R C : Nat} {m f : Fn2} (h : SPN R C m f) : SPN R C f m := ⟨h.2, h.1⟩
theorem SPN.trans {R C : Nat} {m f g : Fn2} (h : SPN R C m f) (k : SPN R C f g) : SPN R C m g := ⟨fun i hi => (k.1 i hi).trans h.1, fun i hi => (h.2 i hi).trans k.2⟩
/-- A unimodular matrix times another one: the same rows are spanned. -/
theorem SPN.left {n C : Nat} {u m : Fn2} (h : SPN n n idF u) : SPN n C m (mm n u m) := by
  refine ⟨fun i hi => Sp.mm hi, fun i hi => ?_⟩
  obtain ⟨c, hc⟩ := h.2 i hi
  refine ⟨c, fun y hy => ?_⟩
  have e1 : m i y = sumTo (fun l => idF i l * m l y) n := by
    rw [sumTo_one (i := i) n hi (fun k hk hne => by unfold idF; rw [if_neg (fun e => hne e.symm), Int.zero_mul])]
    unfold idF; rw [if_pos rfl, Int.one_mul]
  rw [e1]
  have e2 : sumTo (fun l => idF i l * m l y) n = sumTo (fun l => sumTo (fun k => c k * (u k l * m l y)) n) n := sumTo_congr n fun l hl => by
    rw [hc l hl, ← sumTo_mul]
    exact sumTo_congr n fun k _ => by grind
  rw [e2, sumTo_swap]
  exact sumTo_congr n fun k hk => by rw [sumTo_mul']; rfl
end Go.Proofs.Ytacjonkehcamgaa

/-
  DERIVED. What SmithForm of both answers: three matrices and a flag.
-/
namespace Go.Proofs.Ytacjonkehcamgaa
open Go.RowKit
set_option linter.unusedVariables false
def sfDO (r c : Int) : Option SS → Mx
  | some s => ⟨r, c, tb r.toNat c.toNat s.f⟩
  | none => .none
def sfUO (r : Int) : Option SS → Mx
  | some s => ⟨r, r, tb r.toNat r.toNat s.g⟩
  | none => .none
def sfVO (c : Int) : Option SS → Mx
  | some s => ⟨c, c, tb c.toNat c.toNat s.h⟩
  | none => .none
/-- The call returned three matrices, their cells their own, and the flag. -/
def M3R (m m' m'' : Mx) (b : Bool) (w : World) (e : Ending) (w' : World) : Prop :=
  ∃ A n cap A2 n2 cap2 A3 n3 cap3, e = .returned (.tuple #[.agg #[.int .i64 m.r, .int .i64 m.c, .slice A n cap], .agg #[.int .i64 m'.r, .int .i64 m'.c, .slice A2 n2 cap2], .agg #[.int .i64 m''.r, .int .i64 m''.c, .slice A3 n3 cap3], .bool b]) ∧
    OR w' w.heap.size (.slice A n cap) m.xs ∧ OR w' w.heap.size (.slice A2 n2 cap2) m'.xs ∧ OR w' w.heap.size (.slice A3 n3 cap3) m''.xs ∧ Apart (.slice A n cap) (.slice A2 n2 cap2) ∧ Apart (.slice A n cap) (.slice A3 n3 cap3) ∧ Apart (.slice A2 n2 cap2) (.slice A3 n3 cap3) ∧ Below w.heap.size w w'
theorem apart_nil {v : Value} : Apart (.slice none 0 0) v := by
  intro g h1
  simp [Value.ownBlock] at h1
theorem M3R.none_ {r c : Int} {X : Option SS} {w w' : World} (hX : X = none) (hb : Below w.heap.size w w') :
    M3R (sfDO r c X) (sfUO r X) (sfVO c X) X.isSome w (.returned (.tuple #[.agg #[.int .i64 0, .int .i64 0, .slice none 0 0], .agg #[.int .i64 0, .int .i64 0, .slice none 0 0], .agg #[.int .i64 0, .int .i64 0, .slice none 0 0], .bool false])) w' := by
  subst hX
  exact ⟨none, 0, 0, none, 0, 0, none, 0, 0, rfl, OR.nil_ _ _, OR.nil_ _ _, OR.nil_ _ _, apart_nil, apart_nil, apart_nil, hb⟩
theorem M3R.some_ {R C : Nat} {s : SS} {X : Option SS} {w w' : World} {A A2 A3 : Option Addr} {n cap n2 cap2 n3 cap3 : Nat} (hX : X = some s) (h1 : OR w' w.heap.size (.slice A n cap) (tb R C s.f)) (h2 : OR w' w.heap.size (.slice A2 n2 cap2) (tb R R s.g)) (h3 : OR w' w.heap.size (.slice A3 n3 cap3) (tb C C s.h))
    (ha : Apart (.slice A n cap) (.slice A2 n2 cap2)) (ha2 : Apart (.slice A n cap) (.slice A3 n3 cap3)) (ha3 : Apart (.slice A2 n2 cap2) (.slice A3 n3 cap3)) (hb : Below w.heap.size w w') :
    M3R (sfDO R C X) (sfUO R X) (sfVO C X) X.isSome w (.returned (.tuple #[.agg #[.int .i64 R, .int .i64 C, .slice A n cap], .agg #[.int .i64 R, .int .i64 R, .slice A2 n2 cap2], .agg #[.int .i64 C, .int .i64 C, .slice A3 n3 cap3], .bool true])) w' := by
  subst hX
  exact ⟨A, n, cap, A2, n2, cap2, A3, n3, cap3, rfl, h1, h2, h3, ha, ha2, ha3, hb⟩
theorem ret_M3 {fn : Func} {R : Ending → World → Prop} {a : Act} {w : World} {t t' t'' s : Tmp} {b n cap b' n' cap' b'' n'' cap'' : Nat} {r c r' c' r'' c'' : Int} {A A' A'' : Option Addr} (hr : fn.results = #[.cell t 26, .cell t' 26, .cell t'' 26, .tmp s])
    (ht : a.tmps.getD t undef = .pointer (some ⟨b, 0, none⟩)) (ht' : a.tmps.getD t' undef = .pointer (some ⟨b', 0, none⟩)) (ht'' : a.tmps.getD t'' undef = .pointer (some ⟨b'', 0, none⟩)) (h : BM w b r c A n cap) (h' : BM w b' r' c' A' n' cap') (h'' : BM w b'' r'' c'' A'' n'' cap'') (hd : a.defers = [])
    (hR : R (.returned (.tuple #[.agg #[.int .i64 r, .int .i64 c, .slice A n cap], .agg #[.int .i64 r', .int .i64 c', .slice A' n' cap'], .agg #[.int .i64 r'', .int .i64 c'', .slice A'' n'' cap''], a.tmps.getD s undef])) w) : bodyPost Try.prog fn R .ret a w :=
  bodyPost_ret (v := .tuple #[.agg #[.int .i64 r, .int .i64 c, .slice A n cap], .agg #[.int .i64 r', .int .i64 c', .slice A' n' cap'], .agg #[.int .i64 r'', .int .i64 c'', .slice A'' n'' cap''], a.tmps.getD s undef]) (by
    obtain ⟨r0, r1, r2, rf, rl⟩ := h.mx
    obtain ⟨s0, s1, s2, sf, sl⟩ := h'.mx
    obtain ⟨t0, t1, t2, tf, tl⟩ := h''.mx
    simp only [Array.getD_eq_getD_getElem?] at ht ht' ht''
    simp [results, hr, ht, ht', ht'', go_sem, r0, r1, r2, s0, s1, s2, t0, t1, t2]) hd hR
/-- The call's own variables: its argument and its three results. -/
structure HV3 (w wr : World) (r c : Int) (A : Option Addr) (n cap : Nat) : Prop where
  m : BM wr w.heap.size r c A n cap
  r1 : BM wr (w.heap.size + 1) 0 0 none 0 0
  r2 : BM wr (w.heap.size + 1 + 1) 0 0 none 0 0
  r3 : BM wr (w.heap.size + 1 + 1 + 1) 0 0 none 0 0
  b : Below w.heap.size w wr
section
variable {w wr w' : World} {r c : Int} {A : Option Addr} {n cap : Nat}
theorem HV3.lt (h : HV3 w wr r c A n cap) : w.heap.size + 1 + 1 + 1 < wr.heap.size := h.r3.lt
theorem HV3.below {D : Nat} (h : HV3 w wr r c A n cap) (hD : Below D wr w') (hs : w.heap.size + 1 + 1 + 1 + 1 ≤ D) : HV3 w w' r c A n cap :=
  ⟨h.m.below hD (by omega), h.r1.below hD (by omega), h.r2.below hD (by omega), h.r3.below hD (by omega), h.b.trans (hD.mono (by omega))⟩
theorem HV3.drew (h : HV3 w wr r c A n cap) : HV3 w wr.drew r c A n cap := ⟨h.m.drew, h.r1.drew, h.r2.drew, h.r3.drew, h.b.drew⟩
theorem HV3.b_ {w wr w' : World} {r c : Int} {A : Option Addr} {n cap D : Nat} (h : HV3 w wr r c A n cap) (hD : Below D wr w' := by assumption) (hs : w.heap.size + 1 + 1 + 1 + 1 ≤ D := by first | omega | (simp; done) | (simp; omega)) : HV3 w w' r c A n cap := HV3.below h hD hs
theorem HV3.drewN (h : HV3 w wr r c A n cap) (q : Nat) : HV3 w (wr.drewN q) r c A n cap := ⟨h.m.drewN q, h.r1.drewN q, h.r2.drewN q, h.r3.drewN q, below_drewN h.b q⟩
theorem HV3.alloc (h : HV3 w wr r c A n cap) (o : Obj) : HV3 w (wr.alloc o) r c A n cap :=
  have hl := h.lt
  ⟨h.m.alloc o, h.r1.alloc o, h.r2.alloc o, h.r3.alloc o, Below.alloc h.b (by omega) o⟩
end
/-- A Smith form that came to be has numbers only. -/
theorem rnd_gd {R C t p q : Nat} {s : SS} (h : SGD R C s) (e : ls2 R C s.f t = ((p : Int), (q : Int))) (hp : p < R) (hq : q < C) (ht : t < R) (htC : t < C) (hk : (rnd R C t s).1.OK R C) : SGD R C (rnd R C t s).1 := by
  refine ⟨hk, ?_⟩
  have hA : SGD R C (sfA R C t s) := by
    unfold sfA
    rw [e]
    exact (h.a1 hp ht).a2 hq htC
  exact sfD_nb (sfC_nb (sfB_nb hA.nb))
theorem sfIn_gd {R C t : Nat} (ht : t < R) (htC : t < C) : ∀ (k : Nat) (s : SS), sfMs R C t s ≤ k → SGD R C s → ¬ (ls2 R C s.f t).1 < 0 → ∀ s', sfIn R C t s = some s' → SGD R C s' := by
  intro k
  induction k with
  | zero =>
    intro s hk hg hn s' he
    rcases ls2_cases R C s.f t with ⟨e, _⟩ | ⟨p, q, e, ⟨a1, a2, a3, a4⟩, h3, h4, h5⟩
    · rw [e] at hn; exact absurd (by decide) hn
    · have hV : lsV R C t s = (s.f p q).natAbs := by unfold lsV; rw [e]; rfl
      unfold sfMs at hk
      omega
  | succ k ih =>
    intro s hk hg hn s' he
    rcases ls2_cases R C s.f t with ⟨e, _⟩ | ⟨p, q, e, ⟨a1, a2, a3, a4⟩, h3, h4, h5⟩
    · rw [e] at hn; exact absurd (by decide) hn
    · rw [sfIn] at he
      have hA : SGD R C (sfA R C t s) := by
        unfold sfA
        rw [e]
        exact (hg.a1 a2 ht).a2 a4 htC
      have hnb : (rnd R C t s).1.NBS := sfD_nb (sfC_nb (sfB_nb hA.nb))
      split at he
      · rename_i hok
        have hk' := (SS.ok_iff hnb).1 hok
        split at he
        · cases he
          exact rnd_gd hg e a2 a4 ht htC hk'
        · rename_i hd
          split at he
          · rename_i hlt
            obtain ⟨_, hne⟩ := rnd_lt hg ht htC e a2 a4 h3 (h5 ht htC) hk' (by simpa using hd)
            refine ih _ (by omega) (rnd_gd hg e a2 a4 ht htC hk') ?_ s' he
            obtain ⟨p2, q2, e2, _⟩ := ls2_some (R := R) (C := C) (Nat.le_refl t) ht (Nat.le_refl t) htC hne
            rw [e2]
            dsimp only
            omega
          · cases he
      · cases he
theorem sfOut_gd {R C : Nat} : ∀ (m t : Nat) (s s' : SS), t + m ≤ R → t + m ≤ C → SGD R C s → sfOut R C m t s = some s' → SGD R C s'
  | 0, t, s, s', _, _, hg, he => by cases he; exact hg
  | m + 1, t, s, s', h1, h2, hg, he => by
    by_cases hn : (ls2 R C s.f t).1 < 0
    · rw [sfOut_stop hn] at he; cases he; exact hg
    · rw [sfOut_go hn] at he
      unfold sfGo at he
      rcases hi : sfIn R C t s with _ | s2
      · rw [hi] at he; cases he
      · rw [hi] at he
        exact sfOut_gd m (t + 1) (sfN t s2) s' (by omega) (by omega) ((sfIn_gd (by omega) (by omega) _ s (Nat.le_refl _) hg hn s2 hi).n (by omega)) he
theorem idF_ok (R C : Nat) : OKF R C idF := by
  intro i j _ _
  unfold idF Num
  split <;> omega
theorem idF_nb : NBF idF := by
  intro i j
  refine .inr ?_
  unfold idF
  split <;> omega
theorem sfX_gd {R C : Nat} {xs : List Int} {s : SS} (h : sfX R C xs = some s) : isMat R C xs = true ∧ R ≤ 24 ∧ C ≤ 24 ∧ SGD R C s := by
  rcases hm : isMat (R : Int) (C : Int) xs with _ | _
  · rw [sfX_no hm] at h; cases h
  · rw [sfX_yes hm] at h
    have M := isMat_iff.1 hm
    have hs := start_gd (R := R) (C := C) M.num
    refine ⟨rfl, by have := M.r1; omega, by have := M.c1; omega, sfOut_gd _ _ _ _ (by omega) (by omega) ⟨⟨hs.ok.f, hs.ok.g, idF_ok C C⟩, ⟨hs.nb.f, hs.nb.g, idF_nb⟩⟩ h⟩
end Go.Proofs.Ytacjonkehcamgaa

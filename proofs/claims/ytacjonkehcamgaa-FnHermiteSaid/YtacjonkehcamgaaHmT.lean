/-
  DERIVED. The Hermite form: what HermiteForm of both answers, and its result's form: two matrices and a flag.
-/
import Derived.Test.YtacjonkehcamgaaPlainO
import Derived.Test.YtacjonkehcamgaaOwn
import Derived.Test.YtacjonkehcamgaaAppend2
namespace Go.Proofs.Ytacjonkehcamgaa
open Go.RowKit
set_option linter.unusedVariables false
def hmX (r c : Int) (xs : List Int) : Option (HS × Nat) := if isMat r c xs then hmRun r.toNat c.toNat (fun i j => cel xs c i j) else none
def hmMO (r c : Int) : Option (HS × Nat) → Mx
  | some x => ⟨r, c, tb r.toNat c.toNat x.1.f⟩
  | none => .none
def hmUO (r : Int) : Option (HS × Nat) → Mx
  | some x => ⟨r, r, tb r.toNat r.toNat x.1.g⟩
  | none => .none
def hmM (r c : Int) (xs : List Int) : Mx := hmMO r c (hmX r c xs)
def hmU (r c : Int) (xs : List Int) : Mx := hmUO r (hmX r c xs)
theorem hmX_no {r c : Int} {xs : List Int} (h : isMat r c xs = false) : hmX r c xs = none := by unfold hmX; rw [h]; rfl
theorem hmX_yes {R C : Nat} {xs : List Int} (h : isMat R C xs = true) : hmX R C xs = hmOut R C C 0 0 ⟨fun i j => cel xs C i j, idF⟩ := by unfold hmX; rw [h]; rfl
/-- The call returned two matrices, their cells their own, and the flag. -/
def M2R (m m' : Mx) (b : Bool) (w : World) (e : Ending) (w' : World) : Prop :=
  ∃ A n cap A2 n2 cap2, e = .returned (.tuple #[.agg #[.int .i64 m.r, .int .i64 m.c, .slice A n cap], .agg #[.int .i64 m'.r, .int .i64 m'.c, .slice A2 n2 cap2], .bool b]) ∧ OR w' w.heap.size (.slice A n cap) m.xs ∧ OR w' w.heap.size (.slice A2 n2 cap2) m'.xs ∧ Apart (.slice A n cap) (.slice A2 n2 cap2) ∧ Below w.heap.size w w'
theorem M2R.none_ {r c : Int} {X : Option (HS × Nat)} {w w' : World} (hX : X = none) (hb : Below w.heap.size w w') :
    M2R (hmMO r c X) (hmUO r X) X.isSome w (.returned (.tuple #[.agg #[.int .i64 0, .int .i64 0, .slice none 0 0], .agg #[.int .i64 0, .int .i64 0, .slice none 0 0], .bool false])) w' := by
  subst hX
  refine ⟨none, 0, 0, none, 0, 0, rfl, OR.nil_ _ _, OR.nil_ _ _, ?_, hb⟩
  intro g h1
  simp [Value.ownBlock] at h1
theorem M2R.some_ {R C t : Nat} {s : HS} {X : Option (HS × Nat)} {w w' : World} {A A2 : Option Addr} {n cap n2 cap2 : Nat} (hX : X = some (s, t)) (h1 : OR w' w.heap.size (.slice A n cap) (tb R C s.f)) (h2 : OR w' w.heap.size (.slice A2 n2 cap2) (tb R R s.g)) (ha : Apart (.slice A n cap) (.slice A2 n2 cap2)) (hb : Below w.heap.size w w') :
    M2R (hmMO R C X) (hmUO R X) X.isSome w (.returned (.tuple #[.agg #[.int .i64 R, .int .i64 C, .slice A n cap], .agg #[.int .i64 R, .int .i64 R, .slice A2 n2 cap2], .bool true])) w' := by
  subst hX
  exact ⟨A, n, cap, A2, n2, cap2, rfl, h1, h2, ha, hb⟩
theorem ret_M2 {fn : Func} {R : Ending → World → Prop} {a : Act} {w : World} {t t' s : Tmp} {b n cap b' n' cap' : Nat} {r c r' c' : Int} {A A' : Option Addr} (hr : fn.results = #[.cell t 26, .cell t' 26, .tmp s])
    (ht : a.tmps.getD t undef = .pointer (some ⟨b, 0, none⟩)) (ht' : a.tmps.getD t' undef = .pointer (some ⟨b', 0, none⟩)) (h : BM w b r c A n cap) (h' : BM w b' r' c' A' n' cap') (hd : a.defers = [])
    (hR : R (.returned (.tuple #[.agg #[.int .i64 r, .int .i64 c, .slice A n cap], .agg #[.int .i64 r', .int .i64 c', .slice A' n' cap'], a.tmps.getD s undef])) w) : bodyPost Try.prog fn R .ret a w :=
  bodyPost_ret (v := .tuple #[.agg #[.int .i64 r, .int .i64 c, .slice A n cap], .agg #[.int .i64 r', .int .i64 c', .slice A' n' cap'], a.tmps.getD s undef]) (by
    obtain ⟨r0, r1, r2, rf, rl⟩ := h.mx
    obtain ⟨s0, s1, s2, sf, sl⟩ := h'.mx
    simp only [Array.getD_eq_getD_getElem?] at ht ht'
    simp [results, hr, ht, ht', go_sem, r0, r1, r2, s0, s1, s2]) hd hR
end Go.Proofs.Ytacjonkehcamgaa

/-
  DERIVED. What EchelonOf returns; makePrimitive on a row.
-/
import Derived.Test.YtacjonkehcamgaaPrimS
import Derived.Test.YtacjonkehcamgaaPrim
import Derived.Test.YtacjonkehcamgaaElim
import Derived.Test.YtacjonkehcamgaaAppend2
import Derived.Test.YtacjonkehcamgaaCopy
namespace Go.Proofs.Ytacjonkehcamgaa
open Go.RowKit
set_option linter.unusedVariables false
set_option linter.unusedSimpArgs false
theorem ret_MTT' {fn : Func} {R : Ending → World → Prop} {a : Act} {w : World} {t s s2 : Tmp} {b n cap : Nat} {r c : Int} {A : Option Addr} (hr : fn.results = #[.cell t 26, .tmp s, .tmp s2])
    (ht : a.tmps.getD t undef = .pointer (some ⟨b, 0, none⟩)) (h : BM w b r c A n cap) (hd : a.defers = []) (hR : R (.returned (.tuple #[.agg #[.int .i64 r, .int .i64 c, .slice A n cap], a.tmps.getD s undef, a.tmps.getD s2 undef])) w) : bodyPost Try.prog fn R .ret a w :=
  bodyPost_ret (v := .tuple #[.agg #[.int .i64 r, .int .i64 c, .slice A n cap], a.tmps.getD s undef, a.tmps.getD s2 undef]) (by
    obtain ⟨r0, r1, r2, rf, rl⟩ := h.mx
    have ht' := ht
    simp only [Array.getD_eq_getD_getElem?] at ht'
    simp [results, hr, ht', go_sem, r0, r1, r2]) hd hR
theorem OR.shape' {w : World} {B : Nat} {v : Value} {xs : List Int} (h : OR w B v xs) : ∃ A c, v = .slice A xs.length c := by
  rcases h.form with ⟨h1, h2⟩ | ⟨g, c, h1, _⟩
  · subst h2; exact ⟨_, _, h1⟩
  · exact ⟨_, _, h1⟩
/-- The call returned this matrix, this list and the flag: each its own, and apart. -/
def MIBR (m : Mx) (ps : List Int) (b : Bool) (w : World) (e : Ending) (w' : World) : Prop :=
  ∃ A n cap P k c, e = .returned (.tuple #[.agg #[.int .i64 m.r, .int .i64 m.c, .slice A n cap], .slice P k c, .bool b]) ∧ OR w' w.heap.size (.slice A n cap) m.xs ∧ OR w' w.heap.size (.slice P k c) ps ∧ Apart (.slice A n cap) (.slice P k c) ∧ Below w.heap.size w w'
def eoX (r c : Int) (xs : List Int) : Option QSt := if isMat r c xs then echQ r.toNat c.toNat (fun i j => cel xs c.toNat i j) else none
def mxQ (r c : Int) : Option QSt → Mx
  | some s => ⟨r, c, tb r.toNat c.toNat s.f⟩
  | none => .none
def psQ : Option QSt → List Int
  | some s => s.ps
  | none => []
theorem MIBR.none_ {r c : Int} {w w' : World} {P : Option Addr} {k pc : Nat} (h : OR w' w.heap.size (.slice P k pc) []) (hb : Below w.heap.size w w') :
    MIBR (mxQ r c none) (psQ none) (none : Option QSt).isSome w (.returned (.tuple #[.agg #[.int .i64 0, .int .i64 0, .slice none 0 0], .slice P k pc, .bool false])) w' :=
  ⟨none, 0, 0, P, k, pc, rfl, OR.nil_ _ _, h, (fun g h1 => by simp [Value.ownBlock] at h1), hb⟩
theorem MIBR.some_ {R C : Nat} {s : QSt} {w w' : World} {A P : Option Addr} {n cap k pc : Nat} (ho : OR w' w.heap.size (.slice A n cap) (tb R C s.f)) (h : OR w' w.heap.size (.slice P k pc) s.ps) (ha : Apart (.slice A n cap) (.slice P k pc)) (hb : Below w.heap.size w w') :
    MIBR (mxQ R C (some s)) (psQ (some s)) (some s).isSome w (.returned (.tuple #[.agg #[.int .i64 R, .int .i64 C, .slice A n cap], .slice P k pc, .bool true])) w' :=
  ⟨A, n, cap, P, k, pc, rfl, by show OR w' w.heap.size (.slice A n cap) (tb (R : Int).toNat (C : Int).toNat s.f); simpa using ho, h, ha, hb⟩
theorem tb_bd {R C : Nat} {f : Nat → Nat → Int} (h : ∀ i c, i < R → c < C → -400000000 ≤ f i c ∧ f i c ≤ 400000000) (k : Nat) : -400000000 ≤ (tb R C f).getD k 0 ∧ (tb R C f).getD k 0 ≤ 400000000 := by
  by_cases hk : k < (tb R C f).length
  · exact tb_mem (P := fun x => -400000000 ≤ x ∧ x ≤ 400000000) h _ (mem_getD hk)
  · simp [List.getD, List.getElem?_eq_none (show (tb R C f).length ≤ k by omega)]
theorem impl_makePrimitive_tb (R C i g capv n cap : Nat) (f f' : Nat → Nat → Int) (hf : prF C f i = f') (w : World) {B : Nat} (h : OR w B (.slice (some ⟨g, 0, none⟩) n cap) (tb R C f)) (hi : i < R) (hC : C ≤ 48) (hb : ∀ i c, i < R → c < C → -400000000 ≤ f i c ∧ f i c ≤ 400000000) :
    Calls Try.prog 173 #[.slice (some ⟨g, i * C, none⟩) C capv] w (WU (.slice (some ⟨g, 0, none⟩) n cap) B (tb R C f') w) := by
  have hl : i * C + C ≤ R * C := by
    have h3 := Nat.mul_le_mul_right C (show i + 1 ≤ R by omega); rw [Nat.add_mul, Nat.one_mul] at h3; exact h3
  have := impl_makePrimitive g (i * C) C capv n cap (tb R C f) w h (by rw [tb_len]; exact hl) (by omega) (tb_bd hb)
  rw [win_tb hi, spl_tb hi (by rw [primL_len, rw_len])] at this
  rw [← hf]
  exact this
theorem impl_makePrimitive0 (A : Option Addr) (k cap : Nat) (hk : k = 0) (w : World) : Calls Try.prog 173 #[.slice A k cap] w (EV (.tuple #[]) w) := by
  subst hk
  go_enter Try.func173, Try.ntmps173
  go_wp2
  refine wp_loop_rounds 1 ?_
  rw [rounds_succ]
  go_wp2
  refine bodyPost_ret (v := .tuple #[]) (by simp [results, Try.results173]) rfl ?_
  exact ⟨rfl, rfl⟩
end Go.Proofs.Ytacjonkehcamgaa

/-
  DERIVED. at and set on a table of the call's own.
-/
import Derived.Test.YtacjonkehcamgaaPlainT
import Derived.Test.YtacjonkehcamgaaMatOps
namespace Go.Proofs.Ytacjonkehcamgaa
open Go.RowKit
set_option linter.unusedVariables false
theorem impl_at_tb (R C i j : Nat) (A : Option Addr) (n cap : Nat) (F : Nat → Nat → Int) (v : Int) (hv : F i j = v) (w : World) {B : Nat} (h : OR w B (.slice A n cap) (tb R C F)) (hR : R ≤ 48) (hC : C ≤ 48) (hi : i < R) (hj : j < C) :
    Calls Try.prog 117 #[.agg #[.int .i64 R, .int .i64 C, .slice A n cap], .int .i64 i, .int .i64 j] w (BV (.int .i64 v) w) := by
  have hn := h.lenEq
  rw [tb_len] at hn
  have h1 := idx_nat hi hj
  have h2 : i * C ≤ 48 * 48 := Nat.mul_le_mul (by omega) hC
  have e1 : (i : Int) * (C : Int) = ((i * C : Nat) : Int) := by rw [Int.natCast_mul]
  have := impl_at R C i j A n cap (tb R C F) w h.reads (Nat.le_refl _) ⟨by omega, by omega⟩ ⟨by omega, by omega⟩ (by omega)
  rw [cel_tb hi hj, hv] at this
  exact this
theorem impl_set_tb (R C i j : Nat) (v : Int) (A : Option Addr) (n cap : Nat) (F F' : Nat → Nat → Int) (hF : upd F i j v = F') (w : World) {B : Nat} (h : OR w B (.slice A n cap) (tb R C F)) (hR : R ≤ 48) (hC : C ≤ 48) (hi : i < R) (hj : j < C) :
    Calls Try.prog 125 #[.agg #[.int .i64 R, .int .i64 C, .slice A n cap], .int .i64 i, .int .i64 j, .int .i64 v] w (WU (.slice A n cap) B (tb R C F') w) := by
  have hn := h.lenEq
  rw [tb_len] at hn
  have h1 := idx_nat hi hj
  have h2 : i * C ≤ 48 * 48 := Nat.mul_le_mul (by omega) hC
  have e1 : (i : Int) * (C : Int) = ((i * C : Nat) : Int) := by rw [Int.natCast_mul]
  have := impl_set R C i j v A n cap (tb R C F) w h ⟨by omega, by omega⟩ ⟨by omega, by omega⟩ (by omega)
  rw [show ((i : Int) * (C : Int) + (j : Int)).toNat = i * C + j by omega, tb_set hi hj, hF] at this
  exact this
end Go.Proofs.Ytacjonkehcamgaa

/-
  DERIVED. The contract of row; rows as lists.
-/
import Derived.Test.YtlggfmfelakadaaRow1
namespace Go.Proofs.Ytlggfmfelakadaa
open Go.RowKit
set_option linter.unusedVariables false
/-- Row i of rows of C cells. -/
def rowL (xs : List Int) (C i : Nat) : List Int := (xs.drop (i * C)).take C
theorem rowL_len {xs : List Int} {C i : Nat} (h : i * C + C ≤ xs.length) : (rowL xs C i).length = C := by
  simp [rowL]; omega
theorem rowL_getD {xs : List Int} {C i j : Nat} (hj : j < C) : (rowL xs C i).getD j 0 = cel xs C i j := by
  unfold rowL cel
  have e : ((i : Int) * (C : Int) + (j : Int)).toNat = i * C + j := by
    rw [← Int.natCast_mul, ← Int.natCast_add, Int.toNat_natCast]
  rw [e]
  simp [List.getD, hj, List.getElem?_drop]
/-- The call returned a slice that lies below block B and reads as ys. -/
def RowV (B C : Nat) (ys : List Int) (w : World) (e : Ending) (w' : World) : Prop := ∃ A' cap', e = .returned (.slice A' C cap') ∧ RI w' B A' C ys ∧ Below w.heap.size w w' ∧ C ≤ cap' ∧ cap' ≤ 9223372036854775807
theorem addr_add (b o k : Nat) : (⟨b, o, none⟩ : Addr).add k = ⟨b, o + k, none⟩ := by
  unfold Addr.add; split <;> simp_all
theorem RI.row {w : World} {B n C i : Nat} {A : Option Addr} {xs : List Int} (h : RI w B A n xs) (hk : i * C + C ≤ n) : RI w B (A.map fun x => x.add (i * C)) C (rowL xs C i) := by
  refine ⟨rowL_len (by rw [h.len]; exact hk), fun hC => ?_⟩
  obtain ⟨b, o, rfl, hb, hc⟩ := h.2 (by omega)
  refine ⟨b, o + i * C, by simp [addr_add], hb, fun k hk2 => ?_⟩
  rw [Nat.add_assoc, hc (i * C + k) (by omega), rowL_getD hk2]
  unfold cel
  rw [show ((i : Int) * (C : Int) + (k : Int)).toNat = i * C + k by rw [← Int.natCast_mul, ← Int.natCast_add, Int.toNat_natCast]]
theorem sub_mul_row (i C : Nat) : (i + 1) * C - i * C = C := by rw [Nat.add_mul, Nat.one_mul]; omega
theorem impl_row (r : Int) (C i : Nat) (A : Option Addr) (n cap : Nat) (xs : List Int) (w : World) {B : Nat} (h : RI w B A n xs) (hB : B ≤ w.heap.size) (hnc : n ≤ cap) (hcap : cap ≤ 9223372036854775807) (hC : C ≤ 1000) (hi : i ≤ 1000) (hk : i * C + C ≤ n) :
    Calls Try.prog 70 #[.agg #[.int .i64 r, .int .i64 C, .slice A n cap], .int .i64 i] w
      (RowV B C (rowL xs C i) w) := by
  have hlen := h.len
  have e1 : (i : Int) * (C : Int) = ((i * C : Nat) : Int) := by rw [Int.natCast_mul]
  have e2 : ((i : Int) + 1) * (C : Int) = ((i * C + C : Nat) : Int) := by rw [Int.add_mul, e1, Int.one_mul, ← Int.natCast_add]
  have hm : i * C ≤ 1000 * 1000 := Nat.mul_le_mul hi hC
  have E1 := Lib.hid e1
  have E2 := Lib.hid e2
  have b1 : 0 ≤ (i : Int) * (C : Int) := by omega
  have b2 : (i : Int) * (C : Int) ≤ 1000000 := by omega
  have b3 : 0 ≤ ((i : Int) + 1) * (C : Int) := by omega
  have b4 : ((i : Int) + 1) * (C : Int) ≤ 1001000 := by omega
  have b5 : (i : Int) * (C : Int) ≤ ((i : Int) + 1) * (C : Int) := by omega
  have b6 : ((i : Int) + 1) * (C : Int) ≤ cap := by omega
  have H := Lib.hid h
  clear h e1 e2 hlen
  go_enter Try.func70, Try.ntmps70
  go_wp2_with fail
  · go_ret
    have h0 : C = 0 := by omega
    refine ⟨A, 0, ?_, ?_, by (repeat (first | (with_reducible exact Below.refl _ _) | (with_reducible assumption) | (with_reducible refine below_drewN ?_ _) | (with_reducible refine Below.drew ?_) | (with_reducible refine Below.alloc ?_ ?_ _) | (with_reducible refine Below.setCell ?_ ?_ _) | (with_reducible refine below_into ?_ (by assumption) (by first | omega | (simp; done) | (simp; omega))) | go_size)), by omega, by omega⟩
    · show Ending.returned (.slice A ((i + 1) * C - i * C) 0) = _
      rw [sub_mul_row]
    · subst h0
      exact ⟨by simp [rowL], fun h => absurd h (by omega)⟩
  · go_ret
    refine ⟨A.map fun x => x.add (i * C), cap - i * C, ?_, (H.out.row hk).alloc hB _, by (repeat (first | (with_reducible exact Below.refl _ _) | (with_reducible assumption) | (with_reducible refine below_drewN ?_ _) | (with_reducible refine Below.drew ?_) | (with_reducible refine Below.alloc ?_ ?_ _) | (with_reducible refine Below.setCell ?_ ?_ _) | (with_reducible refine below_into ?_ (by assumption) (by first | omega | (simp; done) | (simp; omega))) | go_size)), by omega, by omega⟩
    show Ending.returned (.slice (A.map fun x => x.add (i * C)) ((i + 1) * C - i * C) (cap - i * C)) = _
    rw [sub_mul_row]
end Go.Proofs.Ytlggfmfelakadaa

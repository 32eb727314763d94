/-
  DERIVED. RankOf, both.
-/
import Derived.Test.YtfiilpamekpmpaaEchR
namespace Go.Proofs.Ytfiilpamekpmpaa
open Go.RowKit
set_option linter.unusedVariables false
theorem impl_RankOf (r c : Int) (A : Option Addr) (n cap : Nat) (xs : List Int) (w : World) {B : Nat} (h : RI w B A n xs) (hB : B ≤ w.heap.size) (hn : n ≤ 1048576) :
    Calls Try.prog 18 #[.agg #[.int .i64 r, .int .i64 c, .slice A n cap]] w (BV (.tuple #[.int .i64 ((psQ (eoX r c xs)).length : Nat), .bool (eoX r c xs).isSome]) w) := by
  have H2 := Lib.hid (h.more hB)
  clear h
  generalize hx : eoX r c xs = X
  have HX := Lib.hid hx
  clear hx
  go_enter Try.func18, Try.ntmps18
  go_wp2_with fail
  refine (impl_EchelonOf r c A n cap xs _ (B := w.heap.size) (by (repeat (first | (with_reducible exact H2.out) | (with_reducible refine RI.drew ?_) | (with_reducible refine RI.drewN ?_ _) | (with_reducible refine RI.alloc ?_ (by first | omega | (simp; done) | (simp; omega)) _) | (with_reducible refine RI.setCell ?_ (by first | omega | (simp; done) | (simp; omega)) _) | (with_reducible refine RI.below ?_ (by assumption) (by first | omega | (simp; done) | (simp; omega)))))) (by first | omega | (simp; done) | (simp; omega)) hn).mono ?_
  rw [HX.out]
  rintro e w1 ⟨A', n', cap', P, k, pc, rfl, ho, hp, ha, hb⟩
  have hk := hp.lenEq
  have hsz := hb.size
  simp at hsz
  clear ho hp ha
  generalize psQ X = ps at *
  generalize X.isSome = b at *
  generalize mxQ r c X = mx at *
  subst hk
  go_wp2_with fail
  go_ret2
  exact BV.mk rfl (by (repeat (first | (with_reducible exact Below.refl _ _) | (with_reducible assumption) | (with_reducible refine below_drewN ?_ _) | (with_reducible refine Below.drew ?_) | (with_reducible refine Below.alloc ?_ ?_ _) | (with_reducible refine Below.setCell ?_ ?_ _) | (with_reducible refine below_into ?_ (by assumption) (by first | omega | (simp; done) | (simp; omega))) | go_size)))
theorem spec_RankOf (r c : Int) (A : Option Addr) (n cap : Nat) (xs : List Int) (w : World) {B : Nat} (h : RI w B A n xs) (hB : B ≤ w.heap.size) (hn : n ≤ 1048576) :
    Calls Try.prog 16 #[.agg #[.int .i64 r, .int .i64 c, .slice A n cap]] w (BV (.tuple #[.int .i64 ((psQ (eoX r c xs)).length : Nat), .bool (eoX r c xs).isSome]) w) := by
  have H2 := Lib.hid (h.more hB)
  clear h
  generalize hx : eoX r c xs = X
  have HX := Lib.hid hx
  clear hx
  go_enter Try.func16, Try.ntmps16
  go_wp2_with fail
  refine (spec_EchelonOf r c A n cap xs _ (B := w.heap.size) (by (repeat (first | (with_reducible exact H2.out) | (with_reducible refine RI.drew ?_) | (with_reducible refine RI.drewN ?_ _) | (with_reducible refine RI.alloc ?_ (by first | omega | (simp; done) | (simp; omega)) _) | (with_reducible refine RI.setCell ?_ (by first | omega | (simp; done) | (simp; omega)) _) | (with_reducible refine RI.below ?_ (by assumption) (by first | omega | (simp; done) | (simp; omega)))))) (by first | omega | (simp; done) | (simp; omega)) hn).mono ?_
  rw [HX.out]
  rintro e w1 ⟨A', n', cap', P, k, pc, rfl, ho, hp, ha, hb⟩
  have hk := hp.lenEq
  have hsz := hb.size
  simp at hsz
  clear ho hp ha
  generalize psQ X = ps at *
  generalize X.isSome = b at *
  generalize mxQ r c X = mx at *
  subst hk
  go_wp2_with fail
  go_ret2
  exact BV.mk rfl (by (repeat (first | (with_reducible exact Below.refl _ _) | (with_reducible assumption) | (with_reducible refine below_drewN ?_ _) | (with_reducible refine Below.drew ?_) | (with_reducible refine Below.alloc ?_ ?_ _) | (with_reducible refine Below.setCell ?_ ?_ _) | (with_reducible refine below_into ?_ (by assumption) (by first | omega | (simp; done) | (simp; omega))) | go_size)))
end Go.Proofs.Ytfiilpamekpmpaa

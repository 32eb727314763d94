/-
  DERIVED. Short names for lemmas that are used often.
-/
import Derived.OrdersHeld
import Derived.Test.YtlggfmfelakadaaBase
import Derived.Test.YtlggfmfelakadaaMem
import Derived.Test.YtlggfmfelakadaaOwn
namespace Go.Proofs.Ytlggfmfelakadaa
open Go.RowKit
set_option linter.unusedVariables false
theorem below_i {B : Nat} {a w w' : World} (h : Below B a w) (k : Below w.heap.size w w' := by assumption) (hB : B ≤ w.heap.size := by first | omega | (simp; done) | (simp; omega)) : Below B a w' := below_into h k hB
theorem e1_ {α : Type _} {xs : List α} {i : Nat} : xs.toArray[i]? = xs[i]? := List.getElem?_toArray
theorem e2_ {α : Type _} {a : α} {xs : List α} {i : Nat} : (a :: xs)[i + 1]? = xs[i]? := List.getElem?_cons_succ
theorem e3_ {α : Type _} {a : α} {xs : List α} : (a :: xs)[0]? = some a := List.getElem?_cons_zero
theorem p1_ {α : Type _} {xs : List α} {i : Nat} {a : α} : xs.toArray.setIfInBounds i a = (xs.set i a).toArray := List.setIfInBounds_toArray ..
theorem p2_ {α : Type _} {a b : α} {xs : List α} : (a :: xs).set 0 b = b :: xs := List.set_cons_zero ..
theorem p3_ {α : Type _} {a b : α} {xs : List α} {i : Nat} : (a :: xs).set (i + 1) b = a :: xs.set i b := List.set_cons_succ ..
theorem tk_ {P : Program} {ops : Array Oper} {Q : Exit → Act → World → Prop} {md : Region.Mode} {S : World → Prop} {i : Nat} {oi : Oper} {v : Value} {fuel : Nat} {listed : Array Bool} {a : Act} {w : World} (hi : ops[i]? = some oi := by simp only [e1_, e2_, e3_]; try rfl)
    (hs : Region.noSelect ops = true := by kernel_rfl) (hf : Region.free md ops listed i = true := by kernel_rfl) (hr : (Region.ready md ops listed).contains i = true := by kernel_rfl)
    (hQ : ∀ c a w, Q (.panic c) (a.put oi.dst v) w → Q (.panic c) a w := by exact fun _ _ _ h => h) (y : YieldsIf P ops S oi v a) (hS : S w := by assumption)
    (h : wpAnyH P md ops Q S fuel (listed.setIfInBounds i true) (a.put oi.dst v) w) : wpAnyH P md ops Q S (fuel + 1) listed a w := wpAnyH_take hi hs hf hr hQ y hS h
theorem Ks {P : Prop} (h : P := by first | omega | (simp; done) | (simp; omega)) : P := h
theorem Kw {P : Prop} (h : P := by (repeat (first | (with_reducible (first | exact Below.refl _ _ | assumption | refine below_drewN ?_ _ | refine Below.drew ?_ | refine Below.alloc ?_ ?_ _ | refine Below.setCell ?_ ?_ _ | refine below_i ?_)) | go_size))) : P := h
theorem OR.b_ {w w' : World} {B C : Nat} {v : Value} {xs : List Int} (h : OR w B v xs) (hb : Below C w w' := by assumption) (hC : w.heap.size ≤ C := by first | omega | (simp; done) | (simp; omega)) : OR w' B v xs := OR.below h hb hC
theorem OR.l_ {w : World} {B : Nat} {v u : Value} {xs : List Int} {p : Addr} (h : OR w B v xs) (hp : p.block < B := by first | omega | (simp only []; omega) | (simp; omega)) : OR (w.setCell p u) B v xs := OR.low h hp u
theorem RI.a_ {w : World} {B n : Nat} {A : Option Addr} {xs : List Int} {o : Obj} (h : RI w B A n xs) (hB : B ≤ w.heap.size := by first | omega | (simp; done) | (simp; omega)) : RI (w.alloc o) B A n xs := RI.alloc h hB o
theorem RI.s_ {w : World} {B n : Nat} {A : Option Addr} {xs : List Int} {p : Addr} {u : Value} (h : RI w B A n xs) (hB : B ≤ p.block := by first | omega | (simp; done) | (simp; omega)) : RI (w.setCell p u) B A n xs := RI.setCell h hB u
theorem RI.b_ {w w' : World} {B C n : Nat} {A : Option Addr} {xs : List Int} (h : RI w B A n xs) (hb : Below C w w' := by assumption) (hC : B ≤ C := by first | omega | (simp; done) | (simp; omega)) : RI w' B A n xs := RI.below h hb hC
theorem Ko {P Q : Prop} (h : Q) (k : Q → P := by intro h; (with_reducible (repeat (first | exact h | refine OR.drew ?_ | refine OR.drewN ?_ _ | refine OR.alloc ?_ _ | refine OR.b_ ?_ | refine OR.l_ ?_)))) : P := k h
theorem Kr {P Q : Prop} (h : Q) (k : Q → P := by intro h; (with_reducible (repeat (first | exact h | refine RI.drew ?_ | refine RI.drewN ?_ _ | refine RI.a_ ?_ | refine RI.s_ ?_ | refine RI.b_ ?_)))) : P := k h
theorem BX.n_ {w : World} {t : TypeId} {r c : Int} {A : Option Addr} {n cap b : Nat} (hb : b = w.heap.size := by first | omega | (simp; done) | (simp; omega)) : BX t (w.alloc (.cells #[.int .i64 r, .int .i64 c, .slice A n cap] t)) b r c A n cap := BX.new w t r c A n cap b hb
theorem BX.b_ {w w' : World} {t : TypeId} {b n cap B : Nat} {r c : Int} {A : Option Addr} (h : BX t w b r c A n cap) (hb : Below B w w' := by assumption) (hg : b < B := by first | omega | (simp; done) | (simp; omega)) : BX t w' b r c A n cap := BX.below h hb hg
theorem BX.f_ {w : World} {t : TypeId} {b n cap : Nat} {r c : Int} {A : Option Addr} {p : Addr} {u : Value} (h : BX t w b r c A n cap) (hp : b ≠ p.block := by simp only [ne_eq]; omega) : BX t (w.setCell p u) b r c A n cap := BX.far h hp u
theorem B3.n_ {w : World} {t : TypeId} {v0 v1 v2 : Value} {b : Nat} (hb : b = w.heap.size := by first | omega | (simp; done) | (simp; omega)) : B3 t (w.alloc (.cells #[v0, v1, v2] t)) b := B3.new w t v0 v1 v2 b hb
theorem B3.b_ {w w' : World} {t : TypeId} {b B : Nat} (h : B3 t w b) (hb : Below B w w' := by assumption) (hg : b < B := by first | omega | (simp; done) | (simp; omega)) : B3 t w' b := B3.below h hb hg
theorem B3.f_ {w : World} {t : TypeId} {b : Nat} {p : Addr} {u : Value} (h : B3 t w b) (hp : b ≠ p.block := by simp only [ne_eq]; omega) : B3 t (w.setCell p u) b := B3.far h hp u
theorem Kb {P Q : Prop} (h : Q) (k : Q → P := by intro h; (with_reducible (repeat (first | exact h | refine BX.n_ | refine BX.b_ ?_ | apply BX.drew | apply BX.drewN | refine BX.put ?_ | refine BX.put2 ?_ | refine BX.f_ ?_ | apply BX.alloc | refine B3.n_ | exact B3.of h | refine B3.b_ ?_ | apply B3.drew | apply B3.drewN | refine B3.f_ ?_ | apply B3.alloc)))) : P := k h
theorem Ka {P : Prop} (h : P := by (with_reducible (repeat (first | assumption | refine BX.n_ | refine BX.b_ ?_ | apply BX.drew | apply BX.drewN | refine BX.put ?_ | refine BX.put2 ?_ | refine BX.f_ ?_ | apply BX.alloc | refine B3.n_ | refine B3.of (by assumption) | refine B3.b_ ?_ | apply B3.drew | apply B3.drewN | refine B3.f_ ?_ | apply B3.alloc)))) : P := h
end Go.Proofs.Ytlggfmfelakadaa

/-
  DERIVED. Words for the laws: comparing, marking and holding slices and matrices of the call's own.
-/
import Derived.Test.YtmcbhpaajjlmmaaOwn
namespace Go.Proofs.Ytmcbhpaajjlmmaa
open Go.RowKit
set_option linter.unusedVariables false
theorem eqB_refl (xs : List Int) : eqB xs xs = true := by simp [eqB]
theorem eqM_refl (r c : Int) (xs : List Int) : eqM r c r c xs xs = true := by simp [eqM, eqB]
theorem eqOwnI {A A' : Option Addr} {n n' ca ca' : Nat} {xs : List Int} {w : World} {B B' : Nat} (h : OR w B (.slice A n ca) xs) (h' : OR w B' (.slice A' n' ca') xs) :
    Calls Try.prog 20 #[.slice A n ca, .slice A' n' ca'] w (DV (.bool true) w) := by
  have h1 := h.caps
  have h2 := h'.caps
  have := laws_eqIntS A A' n n' ca ca' xs xs w h.reads h'.reads (by omega) (by omega)
  rw [eqB_refl] at this
  exact this
theorem eqOwnM {r c : Int} {A A' : Option Addr} {n n' ca ca' : Nat} {xs : List Int} {w : World} {B B' : Nat} (h : OR w B (.slice A n ca) xs) (h' : OR w B' (.slice A' n' ca') xs) :
    Calls Try.prog 21 #[.agg #[.int .i64 r, .int .i64 c, .slice A n ca], .agg #[.int .i64 r, .int .i64 c, .slice A' n' ca']] w (BV (.bool true) w) := by
  have h1 := h.caps
  have h2 := h'.caps
  have := laws_eqMatrix r c r c A A' n n' ca ca' xs xs w h.reads h'.reads (by omega) (by omega) (Nat.le_refl _) (Nat.le_refl _)
  rw [eqM_refl] at this
  exact this
/-- The call returned the int, having written just the block of an own slice, which now holds ys. -/
def WI (k : Int) (sv : Value) (B : Nat) (ys : List Int) (w : World) (e : Ending) (w' : World) : Prop :=
  e = .returned (.int .i64 k) ∧ OR w' B sv ys ∧ w.grownBy w' sv.ownBlock ∧ w.heap.size ≤ w'.heap.size
theorem markOwnI {A : Option Addr} {n ca : Nat} {xs : List Int} {k : Int} {w : World} {B : Nat} (h : OR w B (.slice A n ca) xs) (hn2 : n ≤ 1048576) (hk0 : 0 ≤ k) (hk1 : k ≤ 1000000000000) :
    Calls Try.prog 23 #[.slice A n ca, .int .i64 k] w (WI (k + n) (.slice A n ca) B (iota k n) w) :=
  (laws_markIntS A n ca xs k w B h h.lenEq hn2 hk0 hk1).mono fun _ _ ⟨h1, h2, h3⟩ => ⟨h1, h2, h3, h3.size⟩
theorem markOwnM {r c : Int} {A : Option Addr} {n ca : Nat} {xs : List Int} {k : Int} {w : World} {B : Nat} (h : OR w B (.slice A n ca) xs) (hn2 : n ≤ 1048576) (hk0 : 0 ≤ k) (hk1 : k ≤ 1000000000000) :
    Calls Try.prog 22 #[.agg #[.int .i64 r, .int .i64 c, .slice A n ca], .int .i64 k] w (WI (k + n) (.slice A n ca) B (iota k n) w) :=
  (laws_markMatrix r c A n ca xs k w B h h.lenEq hn2 hk0 hk1).mono fun _ _ ⟨h1, h2, h3⟩ => ⟨h1, h2, h3, h3.size⟩
theorem heldOwnI {A : Option Addr} {n ca : Nat} {k : Int} {w : World} {B : Nat} (h : OR w B (.slice A n ca) (iota k n)) (hn2 : n ≤ 1048576) (hk0 : 0 ≤ k) (hk1 : k ≤ 1000000000000) :
    Calls Try.prog 24 #[.slice A n ca, .int .i64 k] w (EV (.int .i64 (k + n)) w) :=
  laws_heldIntS A n ca k w _ h.reads hn2 hk0 hk1
theorem toMatrix_own {r c : Int} {A : Option Addr} {n cap : Nat} {xs : List Int} {w : World} {C : Nat} (h : RI w C A n xs) (hC : C ≤ w.heap.size) (hn : n ≤ 1048576) :
    Calls Try.prog 17 #[.agg #[.int .i64 r, .int .i64 c, .slice A n cap]] w (MR ⟨r, c, xs⟩ w) :=
  (laws_toMatrix r c A n cap xs w h hC hn).mono fun _ _ h => MR.of_MV h
/-- The call returned a slice of its own that holds ys. -/
def IR (ys : List Int) (w : World) (e : Ending) (w' : World) : Prop := ∃ A n cap, e = .returned (.slice A n cap) ∧ OR w' w.heap.size (.slice A n cap) ys ∧ Below w.heap.size w w'
theorem toIntS_own {A : Option Addr} {n cap : Nat} {xs : List Int} {w : World} {C : Nat} (h : RI w C A n xs) (hC : C ≤ w.heap.size) (hn : n ≤ 1048576) :
    Calls Try.prog 18 #[.slice A n cap] w (IR xs w) :=
  (laws_toIntS A n cap xs w h hC hn).mono fun _ _ ⟨g, h1, h2, h3⟩ => ⟨_, _, _, h1, h2, h3⟩
end Go.Proofs.Ytmcbhpaajjlmmaa

/-
  DERIVED. Words for the laws: converting, comparing, marking and holding slices of ratios.
-/
import Derived.Test.YtpecjobpihinoaaLawkit
import Derived.Test.YtpecjobpihinoaaRats
namespace Go.Proofs.Ytpecjobpihinoaa
open Go.RowKit
set_option linter.unusedVariables false
theorem eqOwnQ {A A' : Option Addr} {m m' n n' ca ca' : Nat} {xs : List Int} {w : World} {B B' : Nat} (h : OF w B (.slice A m ca) n xs) (h' : OF w B' (.slice A' m' ca') n' xs) (hn : m ≤ 1048576) :
    Calls Try.prog 32 #[.slice A m ca, .slice A' m' ca'] w (BV (.bool true) w) := by
  have h1 := h.lenEq
  have h2 := h'.lenEq
  have h3 := h.len
  have h4 := h'.len
  obtain rfl : m = m' := by omega
  exact laws_eqRatioS A A' _ ca ca' xs w h.reads h'.reads (Nat.le_refl _) (Nat.le_refl _) hn
theorem markOwnQ {A : Option Addr} {n ca : Nat} {xs : List Int} {k : Int} {w : World} {B : Nat} (h : OF w B (.slice A n ca) n xs) (hn2 : n ≤ 1048576) (hk0 : 0 ≤ k) (hk1 : k ≤ 1000000000000) :
    Calls Try.prog 33 #[.slice A n ca, .int .i64 k] w (WF (k + (n * 2 : Nat)) (.slice A n ca) B n (iota k (n * 2)) w) :=
  laws_markRatioS A n ca xs k w B h hn2 hk0 hk1
theorem heldOwnQ {A : Option Addr} {n ca : Nat} {k : Int} {w : World} {B : Nat} (h : OF w B (.slice A n ca) n (iota k (n * 2))) (hn2 : n ≤ 1048576) (hk0 : 0 ≤ k) (hk1 : k ≤ 1000000000000) :
    Calls Try.prog 34 #[.slice A n ca, .int .i64 k] w (EV (.int .i64 (k + (n * 2 : Nat))) w) :=
  laws_heldRatioS A n ca k w _ h.reads hn2 hk0 hk1
end Go.Proofs.Ytpecjobpihinoaa

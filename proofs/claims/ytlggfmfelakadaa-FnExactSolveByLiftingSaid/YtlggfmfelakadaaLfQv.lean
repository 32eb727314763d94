/-
  DERIVED. SolveByLifting of both, said as the laws want it.
-/
import Derived.Test.YtlggfmfelakadaaVS
import Derived.Test.YtlggfmfelakadaaLfSv
namespace Go.Proofs.Ytlggfmfelakadaa
open Go.RowKit
set_option linter.unusedVariables false
theorem lsN_len {r c : Int} {xs bs : List Int} : lsN r (lsX r c xs bs) ≤ 1048576 := by
  unfold lsN
  rcases hs : sysB r c xs bs with _ | _
  · rw [lsX_no hs]; simp
  · have := (sysOk hs).r6
    split <;> omega
theorem impl_LiftQ (r c : Int) (A Ab : Option Addr) (n cap nb capb : Nat) (xs bs : List Int) (w : World) {B B' : Nat} (h : RI w B A n xs) (hb : RI w B' Ab nb bs) (hB : B ≤ w.heap.size) (hB' : B' ≤ w.heap.size) (hn : n ≤ 1048576) (hnb : nb ≤ 1048576) :
    Calls Try.prog 28 #[.agg #[.int .i64 r, .int .i64 c, .slice A n cap], .slice Ab nb capb] w (QBR (lsN r (lsX r c xs bs)) ((lsX r c xs bs).getD []) (lsX r c xs bs).isSome w) :=
  impl_SolveByLifting r c A Ab n cap nb capb xs bs w h hb hB hB' hn hnb
theorem spec_LiftQ (r c : Int) (A Ab : Option Addr) (n cap nb capb : Nat) (xs bs : List Int) (w : World) {B B' : Nat} (h : RI w B A n xs) (hb : RI w B' Ab nb bs) (hB : B ≤ w.heap.size) (hB' : B' ≤ w.heap.size) (hn : n ≤ 1048576) (hnb : nb ≤ 1048576) :
    Calls Try.prog 25 #[.agg #[.int .i64 r, .int .i64 c, .slice A n cap], .slice Ab nb capb] w (QBR (lsN r (lsX r c xs bs)) ((lsX r c xs bs).getD []) (lsX r c xs bs).isSome w) :=
  spec_SolveByLifting r c A Ab n cap nb capb xs bs w h hb hB hB' hn hnb
end Go.Proofs.Ytlggfmfelakadaa

/-
  No cell of these rows narrows 'for every input' (looked for: loops, veiled, ifaces, maps, wideKeys, modest, calm, conditions, laid).
  DERIVED. THE GIVEN ROWS OF THIS SEAT. 4 by the template 'for every input the law returns true; each argument reads behind the call as it read before'; 0 by the template 'total and deterministic' (their statements: YtlggfmfelakadaaTotals.lean).
  GIVEN WITH THE SEED: the statements are not yours to turn. If you find one false, say at which input.
  Laid BY PROGRAM, IN A SANDBOX (cutbox-rows.mjs): the forced cells as the released guide's own fill.sh prints them over the translation 51447580c2120f11… (all of the seat's roots in one cut). By AI agents, Wed Nov 11 2026. No macro, syntax, notation, axiom, sorry.
-/
import Derived.Test.YtlggfmfelakadaaChecked
import GoSem.Claim
import GoSem.ClaimJoined
import GoSem.ClaimMapViews
import Derived.JoinedTies
import Derived.KernelRfl
namespace Go.Proofs.Ytlggfmfelakadaa
/- THE CELL 'sum', in the pinned program and in every row, IS THE sha256 OF THE DUMP (.gsa) THAT YtlggfmfelakadaaProg.lean LOADS. Nothing in Lean hashes anything: it is a label: what it is worth is what the hold of that sum in a sandbox is worth. -/
noncomputable def Try.pinned : Pinned := { name := "ytlggfmfelakadaa", sum := "51447580c2120f111c4ef51694041cbccf7d9353686b5b2cb62b5aadcf909a94", checked := Try.checked }
namespace Rows
def none {H : Type} : Left H := { results := [], args := [] }

/-- 'laws.FnRowOps': WHATEVER THE INPUT: true; the input reads as it did. -/
def fnRowOpsSpec : ChangeSpec := { name := "fnRowOps", fn := fun _ => fun
  | [d] => { results := [.lit (.bool true)], args := [d] }
  | _ => none }
def fnRowOpsRow : OpenClaim := { program := "ytlggfmfelakadaa", sum := "51447580c2120f111c4ef51694041cbccf7d9353686b5b2cb62b5aadcf909a94", func := "loop.example/g03411/laws.FnRowOps", spec := "fnRowOps", recurses := true, apart := false }
def FnRowOpsSaid : Prop := fnRowOpsRow.holds Try.pinned (OpenSpec.ofChange fnRowOpsSpec)

/-- ITS FALSE NEIGHBOUR: 'it returns false'. Refute it at one input. -/
def fnRowOpsWrong : ChangeSpec := { name := "fnRowOps", fn := fun _ => fun
  | [d] => { results := [.lit (.bool false)], args := [d] }
  | _ => none }
def FnRowOpsWrongFalsely : Prop := fnRowOpsRow.holds Try.pinned (OpenSpec.ofChange fnRowOpsWrong)

/-- 'laws.FnThreeRoads': WHATEVER THE INPUT: true; the input reads as it did. -/
def fnThreeRoadsSpec : ChangeSpec := { name := "fnThreeRoads", fn := fun _ => fun
  | [d] => { results := [.lit (.bool true)], args := [d] }
  | _ => none }
def fnThreeRoadsRow : OpenClaim := { program := "ytlggfmfelakadaa", sum := "51447580c2120f111c4ef51694041cbccf7d9353686b5b2cb62b5aadcf909a94", func := "loop.example/g03411/laws.FnThreeRoads", spec := "fnThreeRoads", recurses := true, apart := false }
def FnThreeRoadsSaid : Prop := fnThreeRoadsRow.holds Try.pinned (OpenSpec.ofChange fnThreeRoadsSpec)

/-- ITS FALSE NEIGHBOUR: 'it returns false'. Refute it at one input. -/
def fnThreeRoadsWrong : ChangeSpec := { name := "fnThreeRoads", fn := fun _ => fun
  | [d] => { results := [.lit (.bool false)], args := [d] }
  | _ => none }
def FnThreeRoadsWrongFalsely : Prop := fnThreeRoadsRow.holds Try.pinned (OpenSpec.ofChange fnThreeRoadsWrong)

/-- 'laws.FnExactSolveByLifting': WHATEVER THE INPUT: true; the input reads as it did. -/
def fnExactSolveByLiftingSpec : ChangeSpec := { name := "fnExactSolveByLifting", fn := fun _ => fun
  | [d1, d2] => { results := [.lit (.bool true)], args := [d1, d2] }
  | _ => none }
def fnExactSolveByLiftingRow : OpenClaim := { program := "ytlggfmfelakadaa", sum := "51447580c2120f111c4ef51694041cbccf7d9353686b5b2cb62b5aadcf909a94", func := "loop.example/g03411/laws.FnExactSolveByLifting", spec := "fnExactSolveByLifting", apart := false }
def FnExactSolveByLiftingSaid : Prop := fnExactSolveByLiftingRow.holds Try.pinned (OpenSpec.ofChange fnExactSolveByLiftingSpec)

/-- ITS FALSE NEIGHBOUR: 'it returns false'. Refute it at one input. -/
def fnExactSolveByLiftingWrong : ChangeSpec := { name := "fnExactSolveByLifting", fn := fun _ => fun
  | [d1, d2] => { results := [.lit (.bool false)], args := [d1, d2] }
  | _ => none }
def FnExactSolveByLiftingWrongFalsely : Prop := fnExactSolveByLiftingRow.holds Try.pinned (OpenSpec.ofChange fnExactSolveByLiftingWrong)

/-- 'laws.FnSolved': WHATEVER THE INPUT: true; the input reads as it did. -/
def fnSolvedSpec : ChangeSpec := { name := "fnSolved", fn := fun _ => fun
  | [d] => { results := [.lit (.bool true)], args := [d] }
  | _ => none }
def fnSolvedRow : OpenClaim := { program := "ytlggfmfelakadaa", sum := "51447580c2120f111c4ef51694041cbccf7d9353686b5b2cb62b5aadcf909a94", func := "loop.example/g03411/laws.FnSolved", spec := "fnSolved", unfollowed := true, recurses := true, apart := false }
def FnSolvedSaid : Prop := fnSolvedRow.holds Try.pinned (OpenSpec.ofChange fnSolvedSpec)

/-- ITS FALSE NEIGHBOUR: 'it returns false'. Refute it at one input. -/
def fnSolvedWrong : ChangeSpec := { name := "fnSolved", fn := fun _ => fun
  | [d] => { results := [.lit (.bool false)], args := [d] }
  | _ => none }
def FnSolvedWrongFalsely : Prop := fnSolvedRow.holds Try.pinned (OpenSpec.ofChange fnSolvedWrong)

/- THE SECOND FORM. 'bulk': how many values and letters a reading holds, each counted each time it is reached (what is shared counts as often as it is met; a slice's spare places count too). A statement '..UptoSaid' is the law's where the arguments, and the package variables that the reading takes, are together of bulk at most 1048576: NARROWER than '..Said'. Prove '..Said' where nothing that the law and all that it calls make is longer than what came in: it says more and counts as full. Else prove '..UptoSaid'. A law counts once. -/
mutual
def uptoBulk {H : Type} : DataW H → Nat
  | .lit (.string bytes) => bytes.length + 1
  | .lit _ => 1
  | .nil => 1
  | .ptr d => uptoBulk d + 1
  | .slice elems spare => uptoBulkAll elems + uptoBulkAll spare + 1
  | .agg parts => uptoBulkAll parts + 1
  | .iface _ d => uptoBulk d + 1
  | .map entries => uptoBulkEntries entries + 1
  | .held _ => 1
def uptoBulkAll {H : Type} : List (DataW H) → Nat
  | [] => 0
  | d :: r => uptoBulk d + uptoBulkAll r
def uptoBulkEntries {H : Type} : List (Lit × DataW H) → Nat
  | [] => 0
  | x :: r => uptoBulkEntry x + uptoBulkEntries r
def uptoBulkEntry {H : Type} : Lit × DataW H → Nat
  | (.string bytes, d) => bytes.length + uptoBulk d + 1
  | (_, d) => uptoBulk d + 1
 end
def uptoSmall : (H : Type) → List (DataW H) → Bool := fun _ ds => decide (uptoBulkAll ds ≤ 1048576)
def OpenSpec.upto (s : _root_.Go.ChangeSpec) : _root_.Go.OpenSpec := { _root_.Go.OpenSpec.ofChange s with cond := some uptoSmall }

/-- 'laws.FnRowOps', WHERE WHAT IT READS IS OF BULK AT MOST 1048576: true; the input reads as it did. -/
def fnRowOpsUptoRow : OpenClaim := { program := "ytlggfmfelakadaa", sum := "51447580c2120f111c4ef51694041cbccf7d9353686b5b2cb62b5aadcf909a94", func := "loop.example/g03411/laws.FnRowOps", spec := "fnRowOps", recurses := true, apart := false, narrowed := true }
def FnRowOpsUptoSaid : Prop := fnRowOpsUptoRow.holds Try.pinned (OpenSpec.upto fnRowOpsSpec)

/-- 'laws.FnThreeRoads', WHERE WHAT IT READS IS OF BULK AT MOST 1048576: true; the input reads as it did. -/
def fnThreeRoadsUptoRow : OpenClaim := { program := "ytlggfmfelakadaa", sum := "51447580c2120f111c4ef51694041cbccf7d9353686b5b2cb62b5aadcf909a94", func := "loop.example/g03411/laws.FnThreeRoads", spec := "fnThreeRoads", recurses := true, apart := false, narrowed := true }
def FnThreeRoadsUptoSaid : Prop := fnThreeRoadsUptoRow.holds Try.pinned (OpenSpec.upto fnThreeRoadsSpec)

/-- 'laws.FnExactSolveByLifting', WHERE WHAT IT READS IS OF BULK AT MOST 1048576: true; the input reads as it did. -/
def fnExactSolveByLiftingUptoRow : OpenClaim := { program := "ytlggfmfelakadaa", sum := "51447580c2120f111c4ef51694041cbccf7d9353686b5b2cb62b5aadcf909a94", func := "loop.example/g03411/laws.FnExactSolveByLifting", spec := "fnExactSolveByLifting", apart := false, narrowed := true }
def FnExactSolveByLiftingUptoSaid : Prop := fnExactSolveByLiftingUptoRow.holds Try.pinned (OpenSpec.upto fnExactSolveByLiftingSpec)

/-- 'laws.FnSolved', WHERE WHAT IT READS IS OF BULK AT MOST 1048576: true; the input reads as it did. -/
def fnSolvedUptoRow : OpenClaim := { program := "ytlggfmfelakadaa", sum := "51447580c2120f111c4ef51694041cbccf7d9353686b5b2cb62b5aadcf909a94", func := "loop.example/g03411/laws.FnSolved", spec := "fnSolved", unfollowed := true, recurses := true, apart := false, narrowed := true }
def FnSolvedUptoSaid : Prop := fnSolvedUptoRow.holds Try.pinned (OpenSpec.upto fnSolvedSpec)

end Rows
end Go.Proofs.Ytlggfmfelakadaa

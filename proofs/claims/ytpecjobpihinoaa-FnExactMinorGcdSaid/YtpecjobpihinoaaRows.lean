/-
  No cell of these rows narrows 'for every input' (looked for: loops, veiled, ifaces, maps, wideKeys, modest, calm, conditions, laid).
  DERIVED. THE GIVEN ROWS OF THIS SEAT. 12 by the template 'for every input the law returns true; each argument reads behind the call as it read before'; 0 by the template 'total and deterministic' (their statements: YtpecjobpihinoaaTotals.lean).
  GIVEN WITH THE SEED: the statements are not yours to turn. If you find one false, say at which input.
  Laid BY PROGRAM, IN A SANDBOX (cutbox-rows.mjs): the forced cells as the released guide's own fill.sh prints them over the translation ea4c6fc13141a4ce… (all of the seat's roots in one cut). By AI agents, Wed Nov 11 2026. No macro, syntax, notation, axiom, sorry.
-/
import Derived.Test.YtpecjobpihinoaaChecked
import GoSem.Claim
import GoSem.ClaimJoined
import GoSem.ClaimMapViews
import Derived.JoinedTies
import Derived.KernelRfl
namespace Go.Proofs.Ytpecjobpihinoaa
/- THE CELL 'sum', in the pinned program and in every row, IS THE sha256 OF THE DUMP (.gsa) THAT YtpecjobpihinoaaProg.lean LOADS. Nothing in Lean hashes anything: it is a label: what it is worth is what the hold of that sum in a sandbox is worth. -/
noncomputable def Try.pinned : Pinned := { name := "ytpecjobpihinoaa", sum := "ea4c6fc13141a4ceb8142e215f898bc8bebf6e8248f9073fda19df8ea64319e3", checked := Try.checked }
namespace Rows
def none {H : Type} : Left H := { results := [], args := [] }

/-- 'laws.FnExactCoordinatesOf': WHATEVER THE INPUT: true; the input reads as it did. -/
def fnExactCoordinatesOfSpec : ChangeSpec := { name := "fnExactCoordinatesOf", fn := fun _ => fun
  | [d1, d2] => { results := [.lit (.bool true)], args := [d1, d2] }
  | _ => none }
def fnExactCoordinatesOfRow : OpenClaim := { program := "ytpecjobpihinoaa", sum := "ea4c6fc13141a4ceb8142e215f898bc8bebf6e8248f9073fda19df8ea64319e3", func := "loop.example/g03411/laws.FnExactCoordinatesOf", spec := "fnExactCoordinatesOf", unfollowed := true, recurses := true, apart := false }
def FnExactCoordinatesOfSaid : Prop := fnExactCoordinatesOfRow.holds Try.pinned (OpenSpec.ofChange fnExactCoordinatesOfSpec)

/-- ITS FALSE NEIGHBOUR: 'it returns false'. Refute it at one input. -/
def fnExactCoordinatesOfWrong : ChangeSpec := { name := "fnExactCoordinatesOf", fn := fun _ => fun
  | [d1, d2] => { results := [.lit (.bool false)], args := [d1, d2] }
  | _ => none }
def FnExactCoordinatesOfWrongFalsely : Prop := fnExactCoordinatesOfRow.holds Try.pinned (OpenSpec.ofChange fnExactCoordinatesOfWrong)

/-- 'laws.FnExactHermiteForm': WHATEVER THE INPUT: true; the input reads as it did. -/
def fnExactHermiteFormSpec : ChangeSpec := { name := "fnExactHermiteForm", fn := fun _ => fun
  | [d] => { results := [.lit (.bool true)], args := [d] }
  | _ => none }
def fnExactHermiteFormRow : OpenClaim := { program := "ytpecjobpihinoaa", sum := "ea4c6fc13141a4ceb8142e215f898bc8bebf6e8248f9073fda19df8ea64319e3", func := "loop.example/g03411/laws.FnExactHermiteForm", spec := "fnExactHermiteForm", apart := false }
def FnExactHermiteFormSaid : Prop := fnExactHermiteFormRow.holds Try.pinned (OpenSpec.ofChange fnExactHermiteFormSpec)

/-- ITS FALSE NEIGHBOUR: 'it returns false'. Refute it at one input. -/
def fnExactHermiteFormWrong : ChangeSpec := { name := "fnExactHermiteForm", fn := fun _ => fun
  | [d] => { results := [.lit (.bool false)], args := [d] }
  | _ => none }
def FnExactHermiteFormWrongFalsely : Prop := fnExactHermiteFormRow.holds Try.pinned (OpenSpec.ofChange fnExactHermiteFormWrong)

/-- 'laws.FnExactMinorGcd': WHATEVER THE INPUT: true; the input reads as it did. -/
def fnExactMinorGcdSpec : ChangeSpec := { name := "fnExactMinorGcd", fn := fun _ => fun
  | [d1, d2] => { results := [.lit (.bool true)], args := [d1, d2] }
  | _ => none }
def fnExactMinorGcdRow : OpenClaim := { program := "ytpecjobpihinoaa", sum := "ea4c6fc13141a4ceb8142e215f898bc8bebf6e8248f9073fda19df8ea64319e3", func := "loop.example/g03411/laws.FnExactMinorGcd", spec := "fnExactMinorGcd", recurses := true, apart := false }
def FnExactMinorGcdSaid : Prop := fnExactMinorGcdRow.holds Try.pinned (OpenSpec.ofChange fnExactMinorGcdSpec)

/-- ITS FALSE NEIGHBOUR: 'it returns false'. Refute it at one input. -/
def fnExactMinorGcdWrong : ChangeSpec := { name := "fnExactMinorGcd", fn := fun _ => fun
  | [d1, d2] => { results := [.lit (.bool false)], args := [d1, d2] }
  | _ => none }
def FnExactMinorGcdWrongFalsely : Prop := fnExactMinorGcdRow.holds Try.pinned (OpenSpec.ofChange fnExactMinorGcdWrong)

/-- 'laws.FnExactSolveByDeterminants': WHATEVER THE INPUT: true; the input reads as it did. -/
def fnExactSolveByDeterminantsSpec : ChangeSpec := { name := "fnExactSolveByDeterminants", fn := fun _ => fun
  | [d1, d2] => { results := [.lit (.bool true)], args := [d1, d2] }
  | _ => none }
def fnExactSolveByDeterminantsRow : OpenClaim := { program := "ytpecjobpihinoaa", sum := "ea4c6fc13141a4ceb8142e215f898bc8bebf6e8248f9073fda19df8ea64319e3", func := "loop.example/g03411/laws.FnExactSolveByDeterminants", spec := "fnExactSolveByDeterminants", recurses := true, apart := false }
def FnExactSolveByDeterminantsSaid : Prop := fnExactSolveByDeterminantsRow.holds Try.pinned (OpenSpec.ofChange fnExactSolveByDeterminantsSpec)

/-- ITS FALSE NEIGHBOUR: 'it returns false'. Refute it at one input. -/
def fnExactSolveByDeterminantsWrong : ChangeSpec := { name := "fnExactSolveByDeterminants", fn := fun _ => fun
  | [d1, d2] => { results := [.lit (.bool false)], args := [d1, d2] }
  | _ => none }
def FnExactSolveByDeterminantsWrongFalsely : Prop := fnExactSolveByDeterminantsRow.holds Try.pinned (OpenSpec.ofChange fnExactSolveByDeterminantsWrong)

/-- 'laws.FnExactBasisOf': WHATEVER THE INPUT: true; the input reads as it did. -/
def fnExactBasisOfSpec : ChangeSpec := { name := "fnExactBasisOf", fn := fun _ => fun
  | [d] => { results := [.lit (.bool true)], args := [d] }
  | _ => none }
def fnExactBasisOfRow : OpenClaim := { program := "ytpecjobpihinoaa", sum := "ea4c6fc13141a4ceb8142e215f898bc8bebf6e8248f9073fda19df8ea64319e3", func := "loop.example/g03411/laws.FnExactBasisOf", spec := "fnExactBasisOf", unfollowed := true, recurses := true, apart := false }
def FnExactBasisOfSaid : Prop := fnExactBasisOfRow.holds Try.pinned (OpenSpec.ofChange fnExactBasisOfSpec)

/-- ITS FALSE NEIGHBOUR: 'it returns false'. Refute it at one input. -/
def fnExactBasisOfWrong : ChangeSpec := { name := "fnExactBasisOf", fn := fun _ => fun
  | [d] => { results := [.lit (.bool false)], args := [d] }
  | _ => none }
def FnExactBasisOfWrongFalsely : Prop := fnExactBasisOfRow.holds Try.pinned (OpenSpec.ofChange fnExactBasisOfWrong)

/-- 'laws.FnExactSmithForm': WHATEVER THE INPUT: true; the input reads as it did. -/
def fnExactSmithFormSpec : ChangeSpec := { name := "fnExactSmithForm", fn := fun _ => fun
  | [d] => { results := [.lit (.bool true)], args := [d] }
  | _ => none }
def fnExactSmithFormRow : OpenClaim := { program := "ytpecjobpihinoaa", sum := "ea4c6fc13141a4ceb8142e215f898bc8bebf6e8248f9073fda19df8ea64319e3", func := "loop.example/g03411/laws.FnExactSmithForm", spec := "fnExactSmithForm", apart := false }
def FnExactSmithFormSaid : Prop := fnExactSmithFormRow.holds Try.pinned (OpenSpec.ofChange fnExactSmithFormSpec)

/-- ITS FALSE NEIGHBOUR: 'it returns false'. Refute it at one input. -/
def fnExactSmithFormWrong : ChangeSpec := { name := "fnExactSmithForm", fn := fun _ => fun
  | [d] => { results := [.lit (.bool false)], args := [d] }
  | _ => none }
def FnExactSmithFormWrongFalsely : Prop := fnExactSmithFormRow.holds Try.pinned (OpenSpec.ofChange fnExactSmithFormWrong)

/-- 'laws.FnExactKernelOf': WHATEVER THE INPUT: true; the input reads as it did. -/
def fnExactKernelOfSpec : ChangeSpec := { name := "fnExactKernelOf", fn := fun _ => fun
  | [d] => { results := [.lit (.bool true)], args := [d] }
  | _ => none }
def fnExactKernelOfRow : OpenClaim := { program := "ytpecjobpihinoaa", sum := "ea4c6fc13141a4ceb8142e215f898bc8bebf6e8248f9073fda19df8ea64319e3", func := "loop.example/g03411/laws.FnExactKernelOf", spec := "fnExactKernelOf", unfollowed := true, recurses := true, apart := false }
def FnExactKernelOfSaid : Prop := fnExactKernelOfRow.holds Try.pinned (OpenSpec.ofChange fnExactKernelOfSpec)

/-- ITS FALSE NEIGHBOUR: 'it returns false'. Refute it at one input. -/
def fnExactKernelOfWrong : ChangeSpec := { name := "fnExactKernelOf", fn := fun _ => fun
  | [d] => { results := [.lit (.bool false)], args := [d] }
  | _ => none }
def FnExactKernelOfWrongFalsely : Prop := fnExactKernelOfRow.holds Try.pinned (OpenSpec.ofChange fnExactKernelOfWrong)

/-- 'laws.FnExactZerosOf': WHATEVER THE INPUT: true; the input reads as it did. -/
def fnExactZerosOfSpec : ChangeSpec := { name := "fnExactZerosOf", fn := fun _ => fun
  | [d] => { results := [.lit (.bool true)], args := [d] }
  | _ => none }
def fnExactZerosOfRow : OpenClaim := { program := "ytpecjobpihinoaa", sum := "ea4c6fc13141a4ceb8142e215f898bc8bebf6e8248f9073fda19df8ea64319e3", func := "loop.example/g03411/laws.FnExactZerosOf", spec := "fnExactZerosOf", unfollowed := true, recurses := true, apart := false }
def FnExactZerosOfSaid : Prop := fnExactZerosOfRow.holds Try.pinned (OpenSpec.ofChange fnExactZerosOfSpec)

/-- ITS FALSE NEIGHBOUR: 'it returns false'. Refute it at one input. -/
def fnExactZerosOfWrong : ChangeSpec := { name := "fnExactZerosOf", fn := fun _ => fun
  | [d] => { results := [.lit (.bool false)], args := [d] }
  | _ => none }
def FnExactZerosOfWrongFalsely : Prop := fnExactZerosOfRow.holds Try.pinned (OpenSpec.ofChange fnExactZerosOfWrong)

/-- 'laws.FnExactSaturationOf': WHATEVER THE INPUT: true; the input reads as it did. -/
def fnExactSaturationOfSpec : ChangeSpec := { name := "fnExactSaturationOf", fn := fun _ => fun
  | [d] => { results := [.lit (.bool true)], args := [d] }
  | _ => none }
def fnExactSaturationOfRow : OpenClaim := { program := "ytpecjobpihinoaa", sum := "ea4c6fc13141a4ceb8142e215f898bc8bebf6e8248f9073fda19df8ea64319e3", func := "loop.example/g03411/laws.FnExactSaturationOf", spec := "fnExactSaturationOf", unfollowed := true, recurses := true, apart := false }
def FnExactSaturationOfSaid : Prop := fnExactSaturationOfRow.holds Try.pinned (OpenSpec.ofChange fnExactSaturationOfSpec)

/-- ITS FALSE NEIGHBOUR: 'it returns false'. Refute it at one input. -/
def fnExactSaturationOfWrong : ChangeSpec := { name := "fnExactSaturationOf", fn := fun _ => fun
  | [d] => { results := [.lit (.bool false)], args := [d] }
  | _ => none }
def FnExactSaturationOfWrongFalsely : Prop := fnExactSaturationOfRow.holds Try.pinned (OpenSpec.ofChange fnExactSaturationOfWrong)

/-- 'laws.FnExactIsSaturated': WHATEVER THE INPUT: true; the input reads as it did. -/
def fnExactIsSaturatedSpec : ChangeSpec := { name := "fnExactIsSaturated", fn := fun _ => fun
  | [d] => { results := [.lit (.bool true)], args := [d] }
  | _ => none }
def fnExactIsSaturatedRow : OpenClaim := { program := "ytpecjobpihinoaa", sum := "ea4c6fc13141a4ceb8142e215f898bc8bebf6e8248f9073fda19df8ea64319e3", func := "loop.example/g03411/laws.FnExactIsSaturated", spec := "fnExactIsSaturated", unfollowed := true, recurses := true, apart := false }
def FnExactIsSaturatedSaid : Prop := fnExactIsSaturatedRow.holds Try.pinned (OpenSpec.ofChange fnExactIsSaturatedSpec)

/-- ITS FALSE NEIGHBOUR: 'it returns false'. Refute it at one input. -/
def fnExactIsSaturatedWrong : ChangeSpec := { name := "fnExactIsSaturated", fn := fun _ => fun
  | [d] => { results := [.lit (.bool false)], args := [d] }
  | _ => none }
def FnExactIsSaturatedWrongFalsely : Prop := fnExactIsSaturatedRow.holds Try.pinned (OpenSpec.ofChange fnExactIsSaturatedWrong)

/-- 'laws.FnExactFactorsOf': WHATEVER THE INPUT: true; the input reads as it did. -/
def fnExactFactorsOfSpec : ChangeSpec := { name := "fnExactFactorsOf", fn := fun _ => fun
  | [d] => { results := [.lit (.bool true)], args := [d] }
  | _ => none }
def fnExactFactorsOfRow : OpenClaim := { program := "ytpecjobpihinoaa", sum := "ea4c6fc13141a4ceb8142e215f898bc8bebf6e8248f9073fda19df8ea64319e3", func := "loop.example/g03411/laws.FnExactFactorsOf", spec := "fnExactFactorsOf", apart := false }
def FnExactFactorsOfSaid : Prop := fnExactFactorsOfRow.holds Try.pinned (OpenSpec.ofChange fnExactFactorsOfSpec)

/-- ITS FALSE NEIGHBOUR: 'it returns false'. Refute it at one input. -/
def fnExactFactorsOfWrong : ChangeSpec := { name := "fnExactFactorsOf", fn := fun _ => fun
  | [d] => { results := [.lit (.bool false)], args := [d] }
  | _ => none }
def FnExactFactorsOfWrongFalsely : Prop := fnExactFactorsOfRow.holds Try.pinned (OpenSpec.ofChange fnExactFactorsOfWrong)

/-- 'laws.FnExactSolveInteger': WHATEVER THE INPUT: true; the input reads as it did. -/
def fnExactSolveIntegerSpec : ChangeSpec := { name := "fnExactSolveInteger", fn := fun _ => fun
  | [d1, d2] => { results := [.lit (.bool true)], args := [d1, d2] }
  | _ => none }
def fnExactSolveIntegerRow : OpenClaim := { program := "ytpecjobpihinoaa", sum := "ea4c6fc13141a4ceb8142e215f898bc8bebf6e8248f9073fda19df8ea64319e3", func := "loop.example/g03411/laws.FnExactSolveInteger", spec := "fnExactSolveInteger", apart := false }
def FnExactSolveIntegerSaid : Prop := fnExactSolveIntegerRow.holds Try.pinned (OpenSpec.ofChange fnExactSolveIntegerSpec)

/-- ITS FALSE NEIGHBOUR: 'it returns false'. Refute it at one input. -/
def fnExactSolveIntegerWrong : ChangeSpec := { name := "fnExactSolveInteger", fn := fun _ => fun
  | [d1, d2] => { results := [.lit (.bool false)], args := [d1, d2] }
  | _ => none }
def FnExactSolveIntegerWrongFalsely : Prop := fnExactSolveIntegerRow.holds Try.pinned (OpenSpec.ofChange fnExactSolveIntegerWrong)

/- THE SECOND FORM. 'bulk': how many values and letters a reading holds, each counted each time it is reached (what is shared counts as often as it is met; a slice's spare places count too). A statement '..UptoSaid' is the law's where the arguments, and the package variables that the reading takes, are together of bulk at most 1048576: NARROWER than '..Said'. Prove '..Said' where nothing that the law and all that it calls make is longer than what came in: it says more and counts as full. Else prove '..UptoSaid'. A law counts once. -/
mutual
def uptoBulk {H : Type} : DataW H → Nat
  | .lit (.string bytes) => bytes.length + 1
  | .lit _ => 1
  | .nil => 1
  | .ptr d => uptoBulk d + 1
  | .slice elems spare => uptoBulkAll elems + uptoBulkAll spare + 1
  | .agg parts => uptoBulkAll parts + 1
  | .iface _ d => uptoBulk d + 1
  | .map entries => uptoBulkEntries entries + 1
  | .held _ => 1
def uptoBulkAll {H : Type} : List (DataW H) → Nat
  | [] => 0
  | d :: r => uptoBulk d + uptoBulkAll r
def uptoBulkEntries {H : Type} : List (Lit × DataW H) → Nat
  | [] => 0
  | x :: r => uptoBulkEntry x + uptoBulkEntries r
def uptoBulkEntry {H : Type} : Lit × DataW H → Nat
  | (.string bytes, d) => bytes.length + uptoBulk d + 1
  | (_, d) => uptoBulk d + 1
 end
def uptoSmall : (H : Type) → List (DataW H) → Bool := fun _ ds => decide (uptoBulkAll ds ≤ 1048576)
def OpenSpec.upto (s : _root_.Go.ChangeSpec) : _root_.Go.OpenSpec := { _root_.Go.OpenSpec.ofChange s with cond := some uptoSmall }

/-- 'laws.FnExactCoordinatesOf', WHERE WHAT IT READS IS OF BULK AT MOST 1048576: true; the input reads as it did. -/
def fnExactCoordinatesOfUptoRow : OpenClaim := { program := "ytpecjobpihinoaa", sum := "ea4c6fc13141a4ceb8142e215f898bc8bebf6e8248f9073fda19df8ea64319e3", func := "loop.example/g03411/laws.FnExactCoordinatesOf", spec := "fnExactCoordinatesOf", unfollowed := true, recurses := true, apart := false, narrowed := true }
def FnExactCoordinatesOfUptoSaid : Prop := fnExactCoordinatesOfUptoRow.holds Try.pinned (OpenSpec.upto fnExactCoordinatesOfSpec)

/-- 'laws.FnExactHermiteForm', WHERE WHAT IT READS IS OF BULK AT MOST 1048576: true; the input reads as it did. -/
def fnExactHermiteFormUptoRow : OpenClaim := { program := "ytpecjobpihinoaa", sum := "ea4c6fc13141a4ceb8142e215f898bc8bebf6e8248f9073fda19df8ea64319e3", func := "loop.example/g03411/laws.FnExactHermiteForm", spec := "fnExactHermiteForm", apart := false, narrowed := true }
def FnExactHermiteFormUptoSaid : Prop := fnExactHermiteFormUptoRow.holds Try.pinned (OpenSpec.upto fnExactHermiteFormSpec)

/-- 'laws.FnExactMinorGcd', WHERE WHAT IT READS IS OF BULK AT MOST 1048576: true; the input reads as it did. -/
def fnExactMinorGcdUptoRow : OpenClaim := { program := "ytpecjobpihinoaa", sum := "ea4c6fc13141a4ceb8142e215f898bc8bebf6e8248f9073fda19df8ea64319e3", func := "loop.example/g03411/laws.FnExactMinorGcd", spec := "fnExactMinorGcd", recurses := true, apart := false, narrowed := true }
def FnExactMinorGcdUptoSaid : Prop := fnExactMinorGcdUptoRow.holds Try.pinned (OpenSpec.upto fnExactMinorGcdSpec)

/-- 'laws.FnExactSolveByDeterminants', WHERE WHAT IT READS IS OF BULK AT MOST 1048576: true; the input reads as it did. -/
def fnExactSolveByDeterminantsUptoRow : OpenClaim := { program := "ytpecjobpihinoaa", sum := "ea4c6fc13141a4ceb8142e215f898bc8bebf6e8248f9073fda19df8ea64319e3", func := "loop.example/g03411/laws.FnExactSolveByDeterminants", spec := "fnExactSolveByDeterminants", recurses := true, apart := false, narrowed := true }
def FnExactSolveByDeterminantsUptoSaid : Prop := fnExactSolveByDeterminantsUptoRow.holds Try.pinned (OpenSpec.upto fnExactSolveByDeterminantsSpec)

/-- 'laws.FnExactBasisOf', WHERE WHAT IT READS IS OF BULK AT MOST 1048576: true; the input reads as it did. -/
def fnExactBasisOfUptoRow : OpenClaim := { program := "ytpecjobpihinoaa", sum := "ea4c6fc13141a4ceb8142e215f898bc8bebf6e8248f9073fda19df8ea64319e3", func := "loop.example/g03411/laws.FnExactBasisOf", spec := "fnExactBasisOf", unfollowed := true, recurses := true, apart := false, narrowed := true }
def FnExactBasisOfUptoSaid : Prop := fnExactBasisOfUptoRow.holds Try.pinned (OpenSpec.upto fnExactBasisOfSpec)

/-- 'laws.FnExactSmithForm', WHERE WHAT IT READS IS OF BULK AT MOST 1048576: true; the input reads as it did. -/
def fnExactSmithFormUptoRow : OpenClaim := { program := "ytpecjobpihinoaa", sum := "ea4c6fc13141a4ceb8142e215f898bc8bebf6e8248f9073fda19df8ea64319e3", func := "loop.example/g03411/laws.FnExactSmithForm", spec := "fnExactSmithForm", apart := false, narrowed := true }
def FnExactSmithFormUptoSaid : Prop := fnExactSmithFormUptoRow.holds Try.pinned (OpenSpec.upto fnExactSmithFormSpec)

/-- 'laws.FnExactKernelOf', WHERE WHAT IT READS IS OF BULK AT MOST 1048576: true; the input reads as it did. -/
def fnExactKernelOfUptoRow : OpenClaim := { program := "ytpecjobpihinoaa", sum := "ea4c6fc13141a4ceb8142e215f898bc8bebf6e8248f9073fda19df8ea64319e3", func := "loop.example/g03411/laws.FnExactKernelOf", spec := "fnExactKernelOf", unfollowed := true, recurses := true, apart := false, narrowed := true }
def FnExactKernelOfUptoSaid : Prop := fnExactKernelOfUptoRow.holds Try.pinned (OpenSpec.upto fnExactKernelOfSpec)

/-- 'laws.FnExactZerosOf', WHERE WHAT IT READS IS OF BULK AT MOST 1048576: true; the input reads as it did. -/
def fnExactZerosOfUptoRow : OpenClaim := { program := "ytpecjobpihinoaa", sum := "ea4c6fc13141a4ceb8142e215f898bc8bebf6e8248f9073fda19df8ea64319e3", func := "loop.example/g03411/laws.FnExactZerosOf", spec := "fnExactZerosOf", unfollowed := true, recurses := true, apart := false, narrowed := true }
def FnExactZerosOfUptoSaid : Prop := fnExactZerosOfUptoRow.holds Try.pinned (OpenSpec.upto fnExactZerosOfSpec)

/-- 'laws.FnExactSaturationOf', WHERE WHAT IT READS IS OF BULK AT MOST 1048576: true; the input reads as it did. -/
def fnExactSaturationOfUptoRow : OpenClaim := { program := "ytpecjobpihinoaa", sum := "ea4c6fc13141a4ceb8142e215f898bc8bebf6e8248f9073fda19df8ea64319e3", func := "loop.example/g03411/laws.FnExactSaturationOf", spec := "fnExactSaturationOf", unfollowed := true, recurses := true, apart := false, narrowed := true }
def FnExactSaturationOfUptoSaid : Prop := fnExactSaturationOfUptoRow.holds Try.pinned (OpenSpec.upto fnExactSaturationOfSpec)

/-- 'laws.FnExactIsSaturated', WHERE WHAT IT READS IS OF BULK AT MOST 1048576: true; the input reads as it did. -/
def fnExactIsSaturatedUptoRow : OpenClaim := { program := "ytpecjobpihinoaa", sum := "ea4c6fc13141a4ceb8142e215f898bc8bebf6e8248f9073fda19df8ea64319e3", func := "loop.example/g03411/laws.FnExactIsSaturated", spec := "fnExactIsSaturated", unfollowed := true, recurses := true, apart := false, narrowed := true }
def FnExactIsSaturatedUptoSaid : Prop := fnExactIsSaturatedUptoRow.holds Try.pinned (OpenSpec.upto fnExactIsSaturatedSpec)

/-- 'laws.FnExactFactorsOf', WHERE WHAT IT READS IS OF BULK AT MOST 1048576: true; the input reads as it did. -/
def fnExactFactorsOfUptoRow : OpenClaim := { program := "ytpecjobpihinoaa", sum := "ea4c6fc13141a4ceb8142e215f898bc8bebf6e8248f9073fda19df8ea64319e3", func := "loop.example/g03411/laws.FnExactFactorsOf", spec := "fnExactFactorsOf", apart := false, narrowed := true }
def FnExactFactorsOfUptoSaid : Prop := fnExactFactorsOfUptoRow.holds Try.pinned (OpenSpec.upto fnExactFactorsOfSpec)

/-- 'laws.FnExactSolveInteger', WHERE WHAT IT READS IS OF BULK AT MOST 1048576: true; the input reads as it did. -/
def fnExactSolveIntegerUptoRow : OpenClaim := { program := "ytpecjobpihinoaa", sum := "ea4c6fc13141a4ceb8142e215f898bc8bebf6e8248f9073fda19df8ea64319e3", func := "loop.example/g03411/laws.FnExactSolveInteger", spec := "fnExactSolveInteger", apart := false, narrowed := true }
def FnExactSolveIntegerUptoSaid : Prop := fnExactSolveIntegerUptoRow.holds Try.pinned (OpenSpec.upto fnExactSolveIntegerSpec)

end Rows
end Go.Proofs.Ytpecjobpihinoaa

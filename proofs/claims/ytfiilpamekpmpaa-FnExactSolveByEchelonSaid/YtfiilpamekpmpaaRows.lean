/-
  No cell of these rows narrows 'for every input' (looked for: loops, veiled, ifaces, maps, wideKeys, modest, calm, conditions, laid).
  DERIVED. THE GIVEN ROWS OF THIS SEAT. 12 by the template 'for every input the law returns true; each argument reads behind the call as it read before'; 0 by the template 'total and deterministic' (their statements: YtfiilpamekpmpaaTotals.lean).
  GIVEN WITH THE SEED: the statements are not yours to turn. If you find one false, say at which input.
  Laid BY PROGRAM, IN A SANDBOX (cutbox-rows.mjs): the forced cells as the released guide's own fill.sh prints them over the translation 2e048a312d0b18c1… (all of the seat's roots in one cut). By AI agents, Wed Nov 11 2026. No macro, syntax, notation, axiom, sorry.
-/
import Derived.Test.YtfiilpamekpmpaaChecked
import GoSem.Claim
import GoSem.ClaimJoined
import GoSem.ClaimMapViews
import Derived.JoinedTies
import Derived.KernelRfl
namespace Go.Proofs.Ytfiilpamekpmpaa
/- THE CELL 'sum', in the pinned program and in every row, IS THE sha256 OF THE DUMP (.gsa) THAT YtfiilpamekpmpaaProg.lean LOADS. Nothing in Lean hashes anything: it is a label: what it is worth is what the hold of that sum in a sandbox is worth. -/
noncomputable def Try.pinned : Pinned := { name := "ytfiilpamekpmpaa", sum := "2e048a312d0b18c110c2f0cd290bf8fdc92ac1bb1f55cef0d274f0c86607f1be", checked := Try.checked }
namespace Rows
def none {H : Type} : Left H := { results := [], args := [] }

/-- 'laws.FnExactRankOf': WHATEVER THE INPUT: true; the input reads as it did. -/
def fnExactRankOfSpec : ChangeSpec := { name := "fnExactRankOf", fn := fun _ => fun
  | [d] => { results := [.lit (.bool true)], args := [d] }
  | _ => none }
def fnExactRankOfRow : OpenClaim := { program := "ytfiilpamekpmpaa", sum := "2e048a312d0b18c110c2f0cd290bf8fdc92ac1bb1f55cef0d274f0c86607f1be", func := "loop.example/g03411/laws.FnExactRankOf", spec := "fnExactRankOf", unfollowed := true, recurses := true, apart := false }
def FnExactRankOfSaid : Prop := fnExactRankOfRow.holds Try.pinned (OpenSpec.ofChange fnExactRankOfSpec)

/-- ITS FALSE NEIGHBOUR: 'it returns false'. Refute it at one input. -/
def fnExactRankOfWrong : ChangeSpec := { name := "fnExactRankOf", fn := fun _ => fun
  | [d] => { results := [.lit (.bool false)], args := [d] }
  | _ => none }
def FnExactRankOfWrongFalsely : Prop := fnExactRankOfRow.holds Try.pinned (OpenSpec.ofChange fnExactRankOfWrong)

/-- 'laws.FnExactEchelonOf': WHATEVER THE INPUT: true; the input reads as it did. -/
def fnExactEchelonOfSpec : ChangeSpec := { name := "fnExactEchelonOf", fn := fun _ => fun
  | [d] => { results := [.lit (.bool true)], args := [d] }
  | _ => none }
def fnExactEchelonOfRow : OpenClaim := { program := "ytfiilpamekpmpaa", sum := "2e048a312d0b18c110c2f0cd290bf8fdc92ac1bb1f55cef0d274f0c86607f1be", func := "loop.example/g03411/laws.FnExactEchelonOf", spec := "fnExactEchelonOf", unfollowed := true, recurses := true, apart := false }
def FnExactEchelonOfSaid : Prop := fnExactEchelonOfRow.holds Try.pinned (OpenSpec.ofChange fnExactEchelonOfSpec)

/-- ITS FALSE NEIGHBOUR: 'it returns false'. Refute it at one input. -/
def fnExactEchelonOfWrong : ChangeSpec := { name := "fnExactEchelonOf", fn := fun _ => fun
  | [d] => { results := [.lit (.bool false)], args := [d] }
  | _ => none }
def FnExactEchelonOfWrongFalsely : Prop := fnExactEchelonOfRow.holds Try.pinned (OpenSpec.ofChange fnExactEchelonOfWrong)

/-- 'laws.FnExactSameSpace': WHATEVER THE INPUT: true; the input reads as it did. -/
def fnExactSameSpaceSpec : ChangeSpec := { name := "fnExactSameSpace", fn := fun _ => fun
  | [d1, d2] => { results := [.lit (.bool true)], args := [d1, d2] }
  | _ => none }
def fnExactSameSpaceRow : OpenClaim := { program := "ytfiilpamekpmpaa", sum := "2e048a312d0b18c110c2f0cd290bf8fdc92ac1bb1f55cef0d274f0c86607f1be", func := "loop.example/g03411/laws.FnExactSameSpace", spec := "fnExactSameSpace", unfollowed := true, recurses := true, apart := false }
def FnExactSameSpaceSaid : Prop := fnExactSameSpaceRow.holds Try.pinned (OpenSpec.ofChange fnExactSameSpaceSpec)

/-- ITS FALSE NEIGHBOUR: 'it returns false'. Refute it at one input. -/
def fnExactSameSpaceWrong : ChangeSpec := { name := "fnExactSameSpace", fn := fun _ => fun
  | [d1, d2] => { results := [.lit (.bool false)], args := [d1, d2] }
  | _ => none }
def FnExactSameSpaceWrongFalsely : Prop := fnExactSameSpaceRow.holds Try.pinned (OpenSpec.ofChange fnExactSameSpaceWrong)

/-- 'laws.FnExactInverseMod': WHATEVER THE INPUT: true; the input reads as it did. -/
def fnExactInverseModSpec : ChangeSpec := { name := "fnExactInverseMod", fn := fun _ => fun
  | [d1, d2] => { results := [.lit (.bool true)], args := [d1, d2] }
  | _ => none }
def fnExactInverseModRow : OpenClaim := { program := "ytfiilpamekpmpaa", sum := "2e048a312d0b18c110c2f0cd290bf8fdc92ac1bb1f55cef0d274f0c86607f1be", func := "loop.example/g03411/laws.FnExactInverseMod", spec := "fnExactInverseMod", apart := false }
def FnExactInverseModSaid : Prop := fnExactInverseModRow.holds Try.pinned (OpenSpec.ofChange fnExactInverseModSpec)

/-- ITS FALSE NEIGHBOUR: 'it returns false'. Refute it at one input. -/
def fnExactInverseModWrong : ChangeSpec := { name := "fnExactInverseMod", fn := fun _ => fun
  | [d1, d2] => { results := [.lit (.bool false)], args := [d1, d2] }
  | _ => none }
def FnExactInverseModWrongFalsely : Prop := fnExactInverseModRow.holds Try.pinned (OpenSpec.ofChange fnExactInverseModWrong)

/-- 'laws.FnExactSolveMod': WHATEVER THE INPUT: true; the input reads as it did. -/
def fnExactSolveModSpec : ChangeSpec := { name := "fnExactSolveMod", fn := fun _ => fun
  | [d1, d2, d3] => { results := [.lit (.bool true)], args := [d1, d2, d3] }
  | _ => none }
def fnExactSolveModRow : OpenClaim := { program := "ytfiilpamekpmpaa", sum := "2e048a312d0b18c110c2f0cd290bf8fdc92ac1bb1f55cef0d274f0c86607f1be", func := "loop.example/g03411/laws.FnExactSolveMod", spec := "fnExactSolveMod", apart := false }
def FnExactSolveModSaid : Prop := fnExactSolveModRow.holds Try.pinned (OpenSpec.ofChange fnExactSolveModSpec)

/-- ITS FALSE NEIGHBOUR: 'it returns false'. Refute it at one input. -/
def fnExactSolveModWrong : ChangeSpec := { name := "fnExactSolveMod", fn := fun _ => fun
  | [d1, d2, d3] => { results := [.lit (.bool false)], args := [d1, d2, d3] }
  | _ => none }
def FnExactSolveModWrongFalsely : Prop := fnExactSolveModRow.holds Try.pinned (OpenSpec.ofChange fnExactSolveModWrong)

/-- 'laws.FnExactSolveByEchelon': WHATEVER THE INPUT: true; the input reads as it did. -/
def fnExactSolveByEchelonSpec : ChangeSpec := { name := "fnExactSolveByEchelon", fn := fun _ => fun
  | [d1, d2] => { results := [.lit (.bool true)], args := [d1, d2] }
  | _ => none }
def fnExactSolveByEchelonRow : OpenClaim := { program := "ytfiilpamekpmpaa", sum := "2e048a312d0b18c110c2f0cd290bf8fdc92ac1bb1f55cef0d274f0c86607f1be", func := "loop.example/g03411/laws.FnExactSolveByEchelon", spec := "fnExactSolveByEchelon", unfollowed := true, recurses := true, apart := false }
def FnExactSolveByEchelonSaid : Prop := fnExactSolveByEchelonRow.holds Try.pinned (OpenSpec.ofChange fnExactSolveByEchelonSpec)

/-- ITS FALSE NEIGHBOUR: 'it returns false'. Refute it at one input. -/
def fnExactSolveByEchelonWrong : ChangeSpec := { name := "fnExactSolveByEchelon", fn := fun _ => fun
  | [d1, d2] => { results := [.lit (.bool false)], args := [d1, d2] }
  | _ => none }
def FnExactSolveByEchelonWrongFalsely : Prop := fnExactSolveByEchelonRow.holds Try.pinned (OpenSpec.ofChange fnExactSolveByEchelonWrong)

/-- 'laws.FnExactIsRational': WHATEVER THE INPUT: true; the input reads as it did. -/
def fnExactIsRationalSpec : ChangeSpec := { name := "fnExactIsRational", fn := fun _ => fun
  | [d1, d2, d3] => { results := [.lit (.bool true)], args := [d1, d2, d3] }
  | _ => none }
def fnExactIsRationalRow : OpenClaim := { program := "ytfiilpamekpmpaa", sum := "2e048a312d0b18c110c2f0cd290bf8fdc92ac1bb1f55cef0d274f0c86607f1be", func := "loop.example/g03411/laws.FnExactIsRational", spec := "fnExactIsRational", apart := false }
def FnExactIsRationalSaid : Prop := fnExactIsRationalRow.holds Try.pinned (OpenSpec.ofChange fnExactIsRationalSpec)

/-- ITS FALSE NEIGHBOUR: 'it returns false'. Refute it at one input. -/
def fnExactIsRationalWrong : ChangeSpec := { name := "fnExactIsRational", fn := fun _ => fun
  | [d1, d2, d3] => { results := [.lit (.bool false)], args := [d1, d2, d3] }
  | _ => none }
def FnExactIsRationalWrongFalsely : Prop := fnExactIsRationalRow.holds Try.pinned (OpenSpec.ofChange fnExactIsRationalWrong)

/-- 'laws.FnExactIsRefutation': WHATEVER THE INPUT: true; the input reads as it did. -/
def fnExactIsRefutationSpec : ChangeSpec := { name := "fnExactIsRefutation", fn := fun _ => fun
  | [d1, d2, d3] => { results := [.lit (.bool true)], args := [d1, d2, d3] }
  | _ => none }
def fnExactIsRefutationRow : OpenClaim := { program := "ytfiilpamekpmpaa", sum := "2e048a312d0b18c110c2f0cd290bf8fdc92ac1bb1f55cef0d274f0c86607f1be", func := "loop.example/g03411/laws.FnExactIsRefutation", spec := "fnExactIsRefutation", apart := false }
def FnExactIsRefutationSaid : Prop := fnExactIsRefutationRow.holds Try.pinned (OpenSpec.ofChange fnExactIsRefutationSpec)

/-- ITS FALSE NEIGHBOUR: 'it returns false'. Refute it at one input. -/
def fnExactIsRefutationWrong : ChangeSpec := { name := "fnExactIsRefutation", fn := fun _ => fun
  | [d1, d2, d3] => { results := [.lit (.bool false)], args := [d1, d2, d3] }
  | _ => none }
def FnExactIsRefutationWrongFalsely : Prop := fnExactIsRefutationRow.holds Try.pinned (OpenSpec.ofChange fnExactIsRefutationWrong)

/-- 'laws.FnExactCoordinatesOf': WHATEVER THE INPUT: true; the input reads as it did. -/
def fnExactCoordinatesOfSpec : ChangeSpec := { name := "fnExactCoordinatesOf", fn := fun _ => fun
  | [d1, d2] => { results := [.lit (.bool true)], args := [d1, d2] }
  | _ => none }
def fnExactCoordinatesOfRow : OpenClaim := { program := "ytfiilpamekpmpaa", sum := "2e048a312d0b18c110c2f0cd290bf8fdc92ac1bb1f55cef0d274f0c86607f1be", func := "loop.example/g03411/laws.FnExactCoordinatesOf", spec := "fnExactCoordinatesOf", unfollowed := true, recurses := true, apart := false }
def FnExactCoordinatesOfSaid : Prop := fnExactCoordinatesOfRow.holds Try.pinned (OpenSpec.ofChange fnExactCoordinatesOfSpec)

/-- ITS FALSE NEIGHBOUR: 'it returns false'. Refute it at one input. -/
def fnExactCoordinatesOfWrong : ChangeSpec := { name := "fnExactCoordinatesOf", fn := fun _ => fun
  | [d1, d2] => { results := [.lit (.bool false)], args := [d1, d2] }
  | _ => none }
def FnExactCoordinatesOfWrongFalsely : Prop := fnExactCoordinatesOfRow.holds Try.pinned (OpenSpec.ofChange fnExactCoordinatesOfWrong)

/-- 'laws.FnExactHermiteForm': WHATEVER THE INPUT: true; the input reads as it did. -/
def fnExactHermiteFormSpec : ChangeSpec := { name := "fnExactHermiteForm", fn := fun _ => fun
  | [d] => { results := [.lit (.bool true)], args := [d] }
  | _ => none }
def fnExactHermiteFormRow : OpenClaim := { program := "ytfiilpamekpmpaa", sum := "2e048a312d0b18c110c2f0cd290bf8fdc92ac1bb1f55cef0d274f0c86607f1be", func := "loop.example/g03411/laws.FnExactHermiteForm", spec := "fnExactHermiteForm", apart := false }
def FnExactHermiteFormSaid : Prop := fnExactHermiteFormRow.holds Try.pinned (OpenSpec.ofChange fnExactHermiteFormSpec)

/-- ITS FALSE NEIGHBOUR: 'it returns false'. Refute it at one input. -/
def fnExactHermiteFormWrong : ChangeSpec := { name := "fnExactHermiteForm", fn := fun _ => fun
  | [d] => { results := [.lit (.bool false)], args := [d] }
  | _ => none }
def FnExactHermiteFormWrongFalsely : Prop := fnExactHermiteFormRow.holds Try.pinned (OpenSpec.ofChange fnExactHermiteFormWrong)

/-- 'laws.FnExactMinorGcd': WHATEVER THE INPUT: true; the input reads as it did. -/
def fnExactMinorGcdSpec : ChangeSpec := { name := "fnExactMinorGcd", fn := fun _ => fun
  | [d1, d2] => { results := [.lit (.bool true)], args := [d1, d2] }
  | _ => none }
def fnExactMinorGcdRow : OpenClaim := { program := "ytfiilpamekpmpaa", sum := "2e048a312d0b18c110c2f0cd290bf8fdc92ac1bb1f55cef0d274f0c86607f1be", func := "loop.example/g03411/laws.FnExactMinorGcd", spec := "fnExactMinorGcd", recurses := true, apart := false }
def FnExactMinorGcdSaid : Prop := fnExactMinorGcdRow.holds Try.pinned (OpenSpec.ofChange fnExactMinorGcdSpec)

/-- ITS FALSE NEIGHBOUR: 'it returns false'. Refute it at one input. -/
def fnExactMinorGcdWrong : ChangeSpec := { name := "fnExactMinorGcd", fn := fun _ => fun
  | [d1, d2] => { results := [.lit (.bool false)], args := [d1, d2] }
  | _ => none }
def FnExactMinorGcdWrongFalsely : Prop := fnExactMinorGcdRow.holds Try.pinned (OpenSpec.ofChange fnExactMinorGcdWrong)

/-- 'laws.FnExactSolveByDeterminants': WHATEVER THE INPUT: true; the input reads as it did. -/
def fnExactSolveByDeterminantsSpec : ChangeSpec := { name := "fnExactSolveByDeterminants", fn := fun _ => fun
  | [d1, d2] => { results := [.lit (.bool true)], args := [d1, d2] }
  | _ => none }
def fnExactSolveByDeterminantsRow : OpenClaim := { program := "ytfiilpamekpmpaa", sum := "2e048a312d0b18c110c2f0cd290bf8fdc92ac1bb1f55cef0d274f0c86607f1be", func := "loop.example/g03411/laws.FnExactSolveByDeterminants", spec := "fnExactSolveByDeterminants", recurses := true, apart := false }
def FnExactSolveByDeterminantsSaid : Prop := fnExactSolveByDeterminantsRow.holds Try.pinned (OpenSpec.ofChange fnExactSolveByDeterminantsSpec)

/-- ITS FALSE NEIGHBOUR: 'it returns false'. Refute it at one input. -/
def fnExactSolveByDeterminantsWrong : ChangeSpec := { name := "fnExactSolveByDeterminants", fn := fun _ => fun
  | [d1, d2] => { results := [.lit (.bool false)], args := [d1, d2] }
  | _ => none }
def FnExactSolveByDeterminantsWrongFalsely : Prop := fnExactSolveByDeterminantsRow.holds Try.pinned (OpenSpec.ofChange fnExactSolveByDeterminantsWrong)

/- THE SECOND FORM. 'bulk': how many values and letters a reading holds, each counted each time it is reached (what is shared counts as often as it is met; a slice's spare places count too). A statement '..UptoSaid' is the law's where the arguments, and the package variables that the reading takes, are together of bulk at most 1048576: NARROWER than '..Said'. Prove '..Said' where nothing that the law and all that it calls make is longer than what came in: it says more and counts as full. Else prove '..UptoSaid'. A law counts once. -/
mutual
def uptoBulk {H : Type} : DataW H → Nat
  | .lit (.string bytes) => bytes.length + 1
  | .lit _ => 1
  | .nil => 1
  | .ptr d => uptoBulk d + 1
  | .slice elems spare => uptoBulkAll elems + uptoBulkAll spare + 1
  | .agg parts => uptoBulkAll parts + 1
  | .iface _ d => uptoBulk d + 1
  | .map entries => uptoBulkEntries entries + 1
  | .held _ => 1
def uptoBulkAll {H : Type} : List (DataW H) → Nat
  | [] => 0
  | d :: r => uptoBulk d + uptoBulkAll r
def uptoBulkEntries {H : Type} : List (Lit × DataW H) → Nat
  | [] => 0
  | x :: r => uptoBulkEntry x + uptoBulkEntries r
def uptoBulkEntry {H : Type} : Lit × DataW H → Nat
  | (.string bytes, d) => bytes.length + uptoBulk d + 1
  | (_, d) => uptoBulk d + 1
 end
def uptoSmall : (H : Type) → List (DataW H) → Bool := fun _ ds => decide (uptoBulkAll ds ≤ 1048576)
def OpenSpec.upto (s : _root_.Go.ChangeSpec) : _root_.Go.OpenSpec := { _root_.Go.OpenSpec.ofChange s with cond := some uptoSmall }

/-- 'laws.FnExactRankOf', WHERE WHAT IT READS IS OF BULK AT MOST 1048576: true; the input reads as it did. -/
def fnExactRankOfUptoRow : OpenClaim := { program := "ytfiilpamekpmpaa", sum := "2e048a312d0b18c110c2f0cd290bf8fdc92ac1bb1f55cef0d274f0c86607f1be", func := "loop.example/g03411/laws.FnExactRankOf", spec := "fnExactRankOf", unfollowed := true, recurses := true, apart := false, narrowed := true }
def FnExactRankOfUptoSaid : Prop := fnExactRankOfUptoRow.holds Try.pinned (OpenSpec.upto fnExactRankOfSpec)

/-- 'laws.FnExactEchelonOf', WHERE WHAT IT READS IS OF BULK AT MOST 1048576: true; the input reads as it did. -/
def fnExactEchelonOfUptoRow : OpenClaim := { program := "ytfiilpamekpmpaa", sum := "2e048a312d0b18c110c2f0cd290bf8fdc92ac1bb1f55cef0d274f0c86607f1be", func := "loop.example/g03411/laws.FnExactEchelonOf", spec := "fnExactEchelonOf", unfollowed := true, recurses := true, apart := false, narrowed := true }
def FnExactEchelonOfUptoSaid : Prop := fnExactEchelonOfUptoRow.holds Try.pinned (OpenSpec.upto fnExactEchelonOfSpec)

/-- 'laws.FnExactSameSpace', WHERE WHAT IT READS IS OF BULK AT MOST 1048576: true; the input reads as it did. -/
def fnExactSameSpaceUptoRow : OpenClaim := { program := "ytfiilpamekpmpaa", sum := "2e048a312d0b18c110c2f0cd290bf8fdc92ac1bb1f55cef0d274f0c86607f1be", func := "loop.example/g03411/laws.FnExactSameSpace", spec := "fnExactSameSpace", unfollowed := true, recurses := true, apart := false, narrowed := true }
def FnExactSameSpaceUptoSaid : Prop := fnExactSameSpaceUptoRow.holds Try.pinned (OpenSpec.upto fnExactSameSpaceSpec)

/-- 'laws.FnExactInverseMod', WHERE WHAT IT READS IS OF BULK AT MOST 1048576: true; the input reads as it did. -/
def fnExactInverseModUptoRow : OpenClaim := { program := "ytfiilpamekpmpaa", sum := "2e048a312d0b18c110c2f0cd290bf8fdc92ac1bb1f55cef0d274f0c86607f1be", func := "loop.example/g03411/laws.FnExactInverseMod", spec := "fnExactInverseMod", apart := false, narrowed := true }
def FnExactInverseModUptoSaid : Prop := fnExactInverseModUptoRow.holds Try.pinned (OpenSpec.upto fnExactInverseModSpec)

/-- 'laws.FnExactSolveMod', WHERE WHAT IT READS IS OF BULK AT MOST 1048576: true; the input reads as it did. -/
def fnExactSolveModUptoRow : OpenClaim := { program := "ytfiilpamekpmpaa", sum := "2e048a312d0b18c110c2f0cd290bf8fdc92ac1bb1f55cef0d274f0c86607f1be", func := "loop.example/g03411/laws.FnExactSolveMod", spec := "fnExactSolveMod", apart := false, narrowed := true }
def FnExactSolveModUptoSaid : Prop := fnExactSolveModUptoRow.holds Try.pinned (OpenSpec.upto fnExactSolveModSpec)

/-- 'laws.FnExactSolveByEchelon', WHERE WHAT IT READS IS OF BULK AT MOST 1048576: true; the input reads as it did. -/
def fnExactSolveByEchelonUptoRow : OpenClaim := { program := "ytfiilpamekpmpaa", sum := "2e048a312d0b18c110c2f0cd290bf8fdc92ac1bb1f55cef0d274f0c86607f1be", func := "loop.example/g03411/laws.FnExactSolveByEchelon", spec := "fnExactSolveByEchelon", unfollowed := true, recurses := true, apart := false, narrowed := true }
def FnExactSolveByEchelonUptoSaid : Prop := fnExactSolveByEchelonUptoRow.holds Try.pinned (OpenSpec.upto fnExactSolveByEchelonSpec)

/-- 'laws.FnExactIsRational', WHERE WHAT IT READS IS OF BULK AT MOST 1048576: true; the input reads as it did. -/
def fnExactIsRationalUptoRow : OpenClaim := { program := "ytfiilpamekpmpaa", sum := "2e048a312d0b18c110c2f0cd290bf8fdc92ac1bb1f55cef0d274f0c86607f1be", func := "loop.example/g03411/laws.FnExactIsRational", spec := "fnExactIsRational", apart := false, narrowed := true }
def FnExactIsRationalUptoSaid : Prop := fnExactIsRationalUptoRow.holds Try.pinned (OpenSpec.upto fnExactIsRationalSpec)

/-- 'laws.FnExactIsRefutation', WHERE WHAT IT READS IS OF BULK AT MOST 1048576: true; the input reads as it did. -/
def fnExactIsRefutationUptoRow : OpenClaim := { program := "ytfiilpamekpmpaa", sum := "2e048a312d0b18c110c2f0cd290bf8fdc92ac1bb1f55cef0d274f0c86607f1be", func := "loop.example/g03411/laws.FnExactIsRefutation", spec := "fnExactIsRefutation", apart := false, narrowed := true }
def FnExactIsRefutationUptoSaid : Prop := fnExactIsRefutationUptoRow.holds Try.pinned (OpenSpec.upto fnExactIsRefutationSpec)

/-- 'laws.FnExactCoordinatesOf', WHERE WHAT IT READS IS OF BULK AT MOST 1048576: true; the input reads as it did. -/
def fnExactCoordinatesOfUptoRow : OpenClaim := { program := "ytfiilpamekpmpaa", sum := "2e048a312d0b18c110c2f0cd290bf8fdc92ac1bb1f55cef0d274f0c86607f1be", func := "loop.example/g03411/laws.FnExactCoordinatesOf", spec := "fnExactCoordinatesOf", unfollowed := true, recurses := true, apart := false, narrowed := true }
def FnExactCoordinatesOfUptoSaid : Prop := fnExactCoordinatesOfUptoRow.holds Try.pinned (OpenSpec.upto fnExactCoordinatesOfSpec)

/-- 'laws.FnExactHermiteForm', WHERE WHAT IT READS IS OF BULK AT MOST 1048576: true; the input reads as it did. -/
def fnExactHermiteFormUptoRow : OpenClaim := { program := "ytfiilpamekpmpaa", sum := "2e048a312d0b18c110c2f0cd290bf8fdc92ac1bb1f55cef0d274f0c86607f1be", func := "loop.example/g03411/laws.FnExactHermiteForm", spec := "fnExactHermiteForm", apart := false, narrowed := true }
def FnExactHermiteFormUptoSaid : Prop := fnExactHermiteFormUptoRow.holds Try.pinned (OpenSpec.upto fnExactHermiteFormSpec)

/-- 'laws.FnExactMinorGcd', WHERE WHAT IT READS IS OF BULK AT MOST 1048576: true; the input reads as it did. -/
def fnExactMinorGcdUptoRow : OpenClaim := { program := "ytfiilpamekpmpaa", sum := "2e048a312d0b18c110c2f0cd290bf8fdc92ac1bb1f55cef0d274f0c86607f1be", func := "loop.example/g03411/laws.FnExactMinorGcd", spec := "fnExactMinorGcd", recurses := true, apart := false, narrowed := true }
def FnExactMinorGcdUptoSaid : Prop := fnExactMinorGcdUptoRow.holds Try.pinned (OpenSpec.upto fnExactMinorGcdSpec)

/-- 'laws.FnExactSolveByDeterminants', WHERE WHAT IT READS IS OF BULK AT MOST 1048576: true; the input reads as it did. -/
def fnExactSolveByDeterminantsUptoRow : OpenClaim := { program := "ytfiilpamekpmpaa", sum := "2e048a312d0b18c110c2f0cd290bf8fdc92ac1bb1f55cef0d274f0c86607f1be", func := "loop.example/g03411/laws.FnExactSolveByDeterminants", spec := "fnExactSolveByDeterminants", recurses := true, apart := false, narrowed := true }
def FnExactSolveByDeterminantsUptoSaid : Prop := fnExactSolveByDeterminantsUptoRow.holds Try.pinned (OpenSpec.upto fnExactSolveByDeterminantsSpec)

end Rows
end Go.Proofs.Ytfiilpamekpmpaa

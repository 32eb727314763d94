/-
  No cell of these rows narrows 'for every input' (looked for: loops, veiled, ifaces, maps, wideKeys, modest, calm, conditions, laid).
  DERIVED. THE GIVEN ROWS OF THIS SEAT. 12 by the template 'for every input the law returns true; each argument reads behind the call as it read before'; 0 by the template 'total and deterministic' (their statements: YtgdoobfffcojfaaTotals.lean).
  GIVEN WITH THE SEED: the statements are not yours to turn. If you find one false, say at which input.
  Laid BY PROGRAM, IN A SANDBOX (cutbox-rows.mjs): the forced cells as the released guide's own fill.sh prints them over the translation 029f124952cb20cb… (all of the seat's roots in one cut). By AI agents, Wed Nov 11 2026. No macro, syntax, notation, axiom, sorry.
-/
import Derived.Test.YtgdoobfffcojfaaChecked
import GoSem.Claim
import GoSem.ClaimJoined
import GoSem.ClaimMapViews
import Derived.JoinedTies
import Derived.KernelRfl
namespace Go.Proofs.Ytgdoobfffcojfaa
/- THE CELL 'sum', in the pinned program and in every row, IS THE sha256 OF THE DUMP (.gsa) THAT YtgdoobfffcojfaaProg.lean LOADS. Nothing in Lean hashes anything: it is a label: what it is worth is what the hold of that sum in a sandbox is worth. -/
noncomputable def Try.pinned : Pinned := { name := "ytgdoobfffcojfaa", sum := "029f124952cb20cb1aff296aa42348f5e24dd03596de25342d36b0035efbfe40", checked := Try.checked }
namespace Rows
def none {H : Type} : Left H := { results := [], args := [] }

/-- 'laws.FnExactIsEchelon': WHATEVER THE INPUT: true; the input reads as it did. -/
def fnExactIsEchelonSpec : ChangeSpec := { name := "fnExactIsEchelon", fn := fun _ => fun
  | [d] => { results := [.lit (.bool true)], args := [d] }
  | _ => none }
def fnExactIsEchelonRow : OpenClaim := { program := "ytgdoobfffcojfaa", sum := "029f124952cb20cb1aff296aa42348f5e24dd03596de25342d36b0035efbfe40", func := "loop.example/g03411/laws.FnExactIsEchelon", spec := "fnExactIsEchelon", unfollowed := true, recurses := true, apart := false }
def FnExactIsEchelonSaid : Prop := fnExactIsEchelonRow.holds Try.pinned (OpenSpec.ofChange fnExactIsEchelonSpec)

/-- ITS FALSE NEIGHBOUR: 'it returns false'. Refute it at one input. -/
def fnExactIsEchelonWrong : ChangeSpec := { name := "fnExactIsEchelon", fn := fun _ => fun
  | [d] => { results := [.lit (.bool false)], args := [d] }
  | _ => none }
def FnExactIsEchelonWrongFalsely : Prop := fnExactIsEchelonRow.holds Try.pinned (OpenSpec.ofChange fnExactIsEchelonWrong)

/-- 'laws.FnExactIsRational': WHATEVER THE INPUT: true; the input reads as it did. -/
def fnExactIsRationalSpec : ChangeSpec := { name := "fnExactIsRational", fn := fun _ => fun
  | [d1, d2, d3] => { results := [.lit (.bool true)], args := [d1, d2, d3] }
  | _ => none }
def fnExactIsRationalRow : OpenClaim := { program := "ytgdoobfffcojfaa", sum := "029f124952cb20cb1aff296aa42348f5e24dd03596de25342d36b0035efbfe40", func := "loop.example/g03411/laws.FnExactIsRational", spec := "fnExactIsRational", apart := false }
def FnExactIsRationalSaid : Prop := fnExactIsRationalRow.holds Try.pinned (OpenSpec.ofChange fnExactIsRationalSpec)

/-- ITS FALSE NEIGHBOUR: 'it returns false'. Refute it at one input. -/
def fnExactIsRationalWrong : ChangeSpec := { name := "fnExactIsRational", fn := fun _ => fun
  | [d1, d2, d3] => { results := [.lit (.bool false)], args := [d1, d2, d3] }
  | _ => none }
def FnExactIsRationalWrongFalsely : Prop := fnExactIsRationalRow.holds Try.pinned (OpenSpec.ofChange fnExactIsRationalWrong)

/-- 'laws.FnExactMinorGcd': WHATEVER THE INPUT: true; the input reads as it did. -/
def fnExactMinorGcdSpec : ChangeSpec := { name := "fnExactMinorGcd", fn := fun _ => fun
  | [d1, d2] => { results := [.lit (.bool true)], args := [d1, d2] }
  | _ => none }
def fnExactMinorGcdRow : OpenClaim := { program := "ytgdoobfffcojfaa", sum := "029f124952cb20cb1aff296aa42348f5e24dd03596de25342d36b0035efbfe40", func := "loop.example/g03411/laws.FnExactMinorGcd", spec := "fnExactMinorGcd", recurses := true, apart := false }
def FnExactMinorGcdSaid : Prop := fnExactMinorGcdRow.holds Try.pinned (OpenSpec.ofChange fnExactMinorGcdSpec)

/-- ITS FALSE NEIGHBOUR: 'it returns false'. Refute it at one input. -/
def fnExactMinorGcdWrong : ChangeSpec := { name := "fnExactMinorGcd", fn := fun _ => fun
  | [d1, d2] => { results := [.lit (.bool false)], args := [d1, d2] }
  | _ => none }
def FnExactMinorGcdWrongFalsely : Prop := fnExactMinorGcdRow.holds Try.pinned (OpenSpec.ofChange fnExactMinorGcdWrong)

/-- 'laws.FnExactIsRefutation': WHATEVER THE INPUT: true; the input reads as it did. -/
def fnExactIsRefutationSpec : ChangeSpec := { name := "fnExactIsRefutation", fn := fun _ => fun
  | [d1, d2, d3] => { results := [.lit (.bool true)], args := [d1, d2, d3] }
  | _ => none }
def fnExactIsRefutationRow : OpenClaim := { program := "ytgdoobfffcojfaa", sum := "029f124952cb20cb1aff296aa42348f5e24dd03596de25342d36b0035efbfe40", func := "loop.example/g03411/laws.FnExactIsRefutation", spec := "fnExactIsRefutation", apart := false }
def FnExactIsRefutationSaid : Prop := fnExactIsRefutationRow.holds Try.pinned (OpenSpec.ofChange fnExactIsRefutationSpec)

/-- ITS FALSE NEIGHBOUR: 'it returns false'. Refute it at one input. -/
def fnExactIsRefutationWrong : ChangeSpec := { name := "fnExactIsRefutation", fn := fun _ => fun
  | [d1, d2, d3] => { results := [.lit (.bool false)], args := [d1, d2, d3] }
  | _ => none }
def FnExactIsRefutationWrongFalsely : Prop := fnExactIsRefutationRow.holds Try.pinned (OpenSpec.ofChange fnExactIsRefutationWrong)

/-- 'laws.FnExactCoordinatesOf': WHATEVER THE INPUT: true; the input reads as it did. -/
def fnExactCoordinatesOfSpec : ChangeSpec := { name := "fnExactCoordinatesOf", fn := fun _ => fun
  | [d1, d2] => { results := [.lit (.bool true)], args := [d1, d2] }
  | _ => none }
def fnExactCoordinatesOfRow : OpenClaim := { program := "ytgdoobfffcojfaa", sum := "029f124952cb20cb1aff296aa42348f5e24dd03596de25342d36b0035efbfe40", func := "loop.example/g03411/laws.FnExactCoordinatesOf", spec := "fnExactCoordinatesOf", unfollowed := true, recurses := true, apart := false }
def FnExactCoordinatesOfSaid : Prop := fnExactCoordinatesOfRow.holds Try.pinned (OpenSpec.ofChange fnExactCoordinatesOfSpec)

/-- ITS FALSE NEIGHBOUR: 'it returns false'. Refute it at one input. -/
def fnExactCoordinatesOfWrong : ChangeSpec := { name := "fnExactCoordinatesOf", fn := fun _ => fun
  | [d1, d2] => { results := [.lit (.bool false)], args := [d1, d2] }
  | _ => none }
def FnExactCoordinatesOfWrongFalsely : Prop := fnExactCoordinatesOfRow.holds Try.pinned (OpenSpec.ofChange fnExactCoordinatesOfWrong)

/-- 'laws.FnExactRankOf': WHATEVER THE INPUT: true; the input reads as it did. -/
def fnExactRankOfSpec : ChangeSpec := { name := "fnExactRankOf", fn := fun _ => fun
  | [d] => { results := [.lit (.bool true)], args := [d] }
  | _ => none }
def fnExactRankOfRow : OpenClaim := { program := "ytgdoobfffcojfaa", sum := "029f124952cb20cb1aff296aa42348f5e24dd03596de25342d36b0035efbfe40", func := "loop.example/g03411/laws.FnExactRankOf", spec := "fnExactRankOf", unfollowed := true, recurses := true, apart := false }
def FnExactRankOfSaid : Prop := fnExactRankOfRow.holds Try.pinned (OpenSpec.ofChange fnExactRankOfSpec)

/-- ITS FALSE NEIGHBOUR: 'it returns false'. Refute it at one input. -/
def fnExactRankOfWrong : ChangeSpec := { name := "fnExactRankOf", fn := fun _ => fun
  | [d] => { results := [.lit (.bool false)], args := [d] }
  | _ => none }
def FnExactRankOfWrongFalsely : Prop := fnExactRankOfRow.holds Try.pinned (OpenSpec.ofChange fnExactRankOfWrong)

/-- 'laws.FnExactEchelonOf': WHATEVER THE INPUT: true; the input reads as it did. -/
def fnExactEchelonOfSpec : ChangeSpec := { name := "fnExactEchelonOf", fn := fun _ => fun
  | [d] => { results := [.lit (.bool true)], args := [d] }
  | _ => none }
def fnExactEchelonOfRow : OpenClaim := { program := "ytgdoobfffcojfaa", sum := "029f124952cb20cb1aff296aa42348f5e24dd03596de25342d36b0035efbfe40", func := "loop.example/g03411/laws.FnExactEchelonOf", spec := "fnExactEchelonOf", unfollowed := true, recurses := true, apart := false }
def FnExactEchelonOfSaid : Prop := fnExactEchelonOfRow.holds Try.pinned (OpenSpec.ofChange fnExactEchelonOfSpec)

/-- ITS FALSE NEIGHBOUR: 'it returns false'. Refute it at one input. -/
def fnExactEchelonOfWrong : ChangeSpec := { name := "fnExactEchelonOf", fn := fun _ => fun
  | [d] => { results := [.lit (.bool false)], args := [d] }
  | _ => none }
def FnExactEchelonOfWrongFalsely : Prop := fnExactEchelonOfRow.holds Try.pinned (OpenSpec.ofChange fnExactEchelonOfWrong)

/-- 'laws.FnExactRankMod': WHATEVER THE INPUT: true; the input reads as it did. -/
def fnExactRankModSpec : ChangeSpec := { name := "fnExactRankMod", fn := fun _ => fun
  | [d1, d2] => { results := [.lit (.bool true)], args := [d1, d2] }
  | _ => none }
def fnExactRankModRow : OpenClaim := { program := "ytgdoobfffcojfaa", sum := "029f124952cb20cb1aff296aa42348f5e24dd03596de25342d36b0035efbfe40", func := "loop.example/g03411/laws.FnExactRankMod", spec := "fnExactRankMod", apart := false }
def FnExactRankModSaid : Prop := fnExactRankModRow.holds Try.pinned (OpenSpec.ofChange fnExactRankModSpec)

/-- ITS FALSE NEIGHBOUR: 'it returns false'. Refute it at one input. -/
def fnExactRankModWrong : ChangeSpec := { name := "fnExactRankMod", fn := fun _ => fun
  | [d1, d2] => { results := [.lit (.bool false)], args := [d1, d2] }
  | _ => none }
def FnExactRankModWrongFalsely : Prop := fnExactRankModRow.holds Try.pinned (OpenSpec.ofChange fnExactRankModWrong)

/-- 'laws.FnExactSameSpace': WHATEVER THE INPUT: true; the input reads as it did. -/
def fnExactSameSpaceSpec : ChangeSpec := { name := "fnExactSameSpace", fn := fun _ => fun
  | [d1, d2] => { results := [.lit (.bool true)], args := [d1, d2] }
  | _ => none }
def fnExactSameSpaceRow : OpenClaim := { program := "ytgdoobfffcojfaa", sum := "029f124952cb20cb1aff296aa42348f5e24dd03596de25342d36b0035efbfe40", func := "loop.example/g03411/laws.FnExactSameSpace", spec := "fnExactSameSpace", unfollowed := true, recurses := true, apart := false }
def FnExactSameSpaceSaid : Prop := fnExactSameSpaceRow.holds Try.pinned (OpenSpec.ofChange fnExactSameSpaceSpec)

/-- ITS FALSE NEIGHBOUR: 'it returns false'. Refute it at one input. -/
def fnExactSameSpaceWrong : ChangeSpec := { name := "fnExactSameSpace", fn := fun _ => fun
  | [d1, d2] => { results := [.lit (.bool false)], args := [d1, d2] }
  | _ => none }
def FnExactSameSpaceWrongFalsely : Prop := fnExactSameSpaceRow.holds Try.pinned (OpenSpec.ofChange fnExactSameSpaceWrong)

/-- 'laws.FnExactDeterminantMod': WHATEVER THE INPUT: true; the input reads as it did. -/
def fnExactDeterminantModSpec : ChangeSpec := { name := "fnExactDeterminantMod", fn := fun _ => fun
  | [d1, d2] => { results := [.lit (.bool true)], args := [d1, d2] }
  | _ => none }
def fnExactDeterminantModRow : OpenClaim := { program := "ytgdoobfffcojfaa", sum := "029f124952cb20cb1aff296aa42348f5e24dd03596de25342d36b0035efbfe40", func := "loop.example/g03411/laws.FnExactDeterminantMod", spec := "fnExactDeterminantMod", apart := false }
def FnExactDeterminantModSaid : Prop := fnExactDeterminantModRow.holds Try.pinned (OpenSpec.ofChange fnExactDeterminantModSpec)

/-- ITS FALSE NEIGHBOUR: 'it returns false'. Refute it at one input. -/
def fnExactDeterminantModWrong : ChangeSpec := { name := "fnExactDeterminantMod", fn := fun _ => fun
  | [d1, d2] => { results := [.lit (.bool false)], args := [d1, d2] }
  | _ => none }
def FnExactDeterminantModWrongFalsely : Prop := fnExactDeterminantModRow.holds Try.pinned (OpenSpec.ofChange fnExactDeterminantModWrong)

/-- 'laws.FnExactInverseMod': WHATEVER THE INPUT: true; the input reads as it did. -/
def fnExactInverseModSpec : ChangeSpec := { name := "fnExactInverseMod", fn := fun _ => fun
  | [d1, d2] => { results := [.lit (.bool true)], args := [d1, d2] }
  | _ => none }
def fnExactInverseModRow : OpenClaim := { program := "ytgdoobfffcojfaa", sum := "029f124952cb20cb1aff296aa42348f5e24dd03596de25342d36b0035efbfe40", func := "loop.example/g03411/laws.FnExactInverseMod", spec := "fnExactInverseMod", apart := false }
def FnExactInverseModSaid : Prop := fnExactInverseModRow.holds Try.pinned (OpenSpec.ofChange fnExactInverseModSpec)

/-- ITS FALSE NEIGHBOUR: 'it returns false'. Refute it at one input. -/
def fnExactInverseModWrong : ChangeSpec := { name := "fnExactInverseMod", fn := fun _ => fun
  | [d1, d2] => { results := [.lit (.bool false)], args := [d1, d2] }
  | _ => none }
def FnExactInverseModWrongFalsely : Prop := fnExactInverseModRow.holds Try.pinned (OpenSpec.ofChange fnExactInverseModWrong)

/-- 'laws.FnExactHermiteForm': WHATEVER THE INPUT: true; the input reads as it did. -/
def fnExactHermiteFormSpec : ChangeSpec := { name := "fnExactHermiteForm", fn := fun _ => fun
  | [d] => { results := [.lit (.bool true)], args := [d] }
  | _ => none }
def fnExactHermiteFormRow : OpenClaim := { program := "ytgdoobfffcojfaa", sum := "029f124952cb20cb1aff296aa42348f5e24dd03596de25342d36b0035efbfe40", func := "loop.example/g03411/laws.FnExactHermiteForm", spec := "fnExactHermiteForm", apart := false }
def FnExactHermiteFormSaid : Prop := fnExactHermiteFormRow.holds Try.pinned (OpenSpec.ofChange fnExactHermiteFormSpec)

/-- ITS FALSE NEIGHBOUR: 'it returns false'. Refute it at one input. -/
def fnExactHermiteFormWrong : ChangeSpec := { name := "fnExactHermiteForm", fn := fun _ => fun
  | [d] => { results := [.lit (.bool false)], args := [d] }
  | _ => none }
def FnExactHermiteFormWrongFalsely : Prop := fnExactHermiteFormRow.holds Try.pinned (OpenSpec.ofChange fnExactHermiteFormWrong)

/- THE SECOND FORM. 'bulk': how many values and letters a reading holds, each counted each time it is reached (what is shared counts as often as it is met; a slice's spare places count too). A statement '..UptoSaid' is the law's where the arguments, and the package variables that the reading takes, are together of bulk at most 1048576: NARROWER than '..Said'. Prove '..Said' where nothing that the law and all that it calls make is longer than what came in: it says more and counts as full. Else prove '..UptoSaid'. A law counts once. -/
mutual
def uptoBulk {H : Type} : DataW H → Nat
  | .lit (.string bytes) => bytes.length + 1
  | .lit _ => 1
  | .nil => 1
  | .ptr d => uptoBulk d + 1
  | .slice elems spare => uptoBulkAll elems + uptoBulkAll spare + 1
  | .agg parts => uptoBulkAll parts + 1
  | .iface _ d => uptoBulk d + 1
  | .map entries => uptoBulkEntries entries + 1
  | .held _ => 1
def uptoBulkAll {H : Type} : List (DataW H) → Nat
  | [] => 0
  | d :: r => uptoBulk d + uptoBulkAll r
def uptoBulkEntries {H : Type} : List (Lit × DataW H) → Nat
  | [] => 0
  | x :: r => uptoBulkEntry x + uptoBulkEntries r
def uptoBulkEntry {H : Type} : Lit × DataW H → Nat
  | (.string bytes, d) => bytes.length + uptoBulk d + 1
  | (_, d) => uptoBulk d + 1
 end
def uptoSmall : (H : Type) → List (DataW H) → Bool := fun _ ds => decide (uptoBulkAll ds ≤ 1048576)
def OpenSpec.upto (s : _root_.Go.ChangeSpec) : _root_.Go.OpenSpec := { _root_.Go.OpenSpec.ofChange s with cond := some uptoSmall }

/-- 'laws.FnExactIsEchelon', WHERE WHAT IT READS IS OF BULK AT MOST 1048576: true; the input reads as it did. -/
def fnExactIsEchelonUptoRow : OpenClaim := { program := "ytgdoobfffcojfaa", sum := "029f124952cb20cb1aff296aa42348f5e24dd03596de25342d36b0035efbfe40", func := "loop.example/g03411/laws.FnExactIsEchelon", spec := "fnExactIsEchelon", unfollowed := true, recurses := true, apart := false, narrowed := true }
def FnExactIsEchelonUptoSaid : Prop := fnExactIsEchelonUptoRow.holds Try.pinned (OpenSpec.upto fnExactIsEchelonSpec)

/-- 'laws.FnExactIsRational', WHERE WHAT IT READS IS OF BULK AT MOST 1048576: true; the input reads as it did. -/
def fnExactIsRationalUptoRow : OpenClaim := { program := "ytgdoobfffcojfaa", sum := "029f124952cb20cb1aff296aa42348f5e24dd03596de25342d36b0035efbfe40", func := "loop.example/g03411/laws.FnExactIsRational", spec := "fnExactIsRational", apart := false, narrowed := true }
def FnExactIsRationalUptoSaid : Prop := fnExactIsRationalUptoRow.holds Try.pinned (OpenSpec.upto fnExactIsRationalSpec)

/-- 'laws.FnExactMinorGcd', WHERE WHAT IT READS IS OF BULK AT MOST 1048576: true; the input reads as it did. -/
def fnExactMinorGcdUptoRow : OpenClaim := { program := "ytgdoobfffcojfaa", sum := "029f124952cb20cb1aff296aa42348f5e24dd03596de25342d36b0035efbfe40", func := "loop.example/g03411/laws.FnExactMinorGcd", spec := "fnExactMinorGcd", recurses := true, apart := false, narrowed := true }
def FnExactMinorGcdUptoSaid : Prop := fnExactMinorGcdUptoRow.holds Try.pinned (OpenSpec.upto fnExactMinorGcdSpec)

/-- 'laws.FnExactIsRefutation', WHERE WHAT IT READS IS OF BULK AT MOST 1048576: true; the input reads as it did. -/
def fnExactIsRefutationUptoRow : OpenClaim := { program := "ytgdoobfffcojfaa", sum := "029f124952cb20cb1aff296aa42348f5e24dd03596de25342d36b0035efbfe40", func := "loop.example/g03411/laws.FnExactIsRefutation", spec := "fnExactIsRefutation", apart := false, narrowed := true }
def FnExactIsRefutationUptoSaid : Prop := fnExactIsRefutationUptoRow.holds Try.pinned (OpenSpec.upto fnExactIsRefutationSpec)

/-- 'laws.FnExactCoordinatesOf', WHERE WHAT IT READS IS OF BULK AT MOST 1048576: true; the input reads as it did. -/
def fnExactCoordinatesOfUptoRow : OpenClaim := { program := "ytgdoobfffcojfaa", sum := "029f124952cb20cb1aff296aa42348f5e24dd03596de25342d36b0035efbfe40", func := "loop.example/g03411/laws.FnExactCoordinatesOf", spec := "fnExactCoordinatesOf", unfollowed := true, recurses := true, apart := false, narrowed := true }
def FnExactCoordinatesOfUptoSaid : Prop := fnExactCoordinatesOfUptoRow.holds Try.pinned (OpenSpec.upto fnExactCoordinatesOfSpec)

/-- 'laws.FnExactRankOf', WHERE WHAT IT READS IS OF BULK AT MOST 1048576: true; the input reads as it did. -/
def fnExactRankOfUptoRow : OpenClaim := { program := "ytgdoobfffcojfaa", sum := "029f124952cb20cb1aff296aa42348f5e24dd03596de25342d36b0035efbfe40", func := "loop.example/g03411/laws.FnExactRankOf", spec := "fnExactRankOf", unfollowed := true, recurses := true, apart := false, narrowed := true }
def FnExactRankOfUptoSaid : Prop := fnExactRankOfUptoRow.holds Try.pinned (OpenSpec.upto fnExactRankOfSpec)

/-- 'laws.FnExactEchelonOf', WHERE WHAT IT READS IS OF BULK AT MOST 1048576: true; the input reads as it did. -/
def fnExactEchelonOfUptoRow : OpenClaim := { program := "ytgdoobfffcojfaa", sum := "029f124952cb20cb1aff296aa42348f5e24dd03596de25342d36b0035efbfe40", func := "loop.example/g03411/laws.FnExactEchelonOf", spec := "fnExactEchelonOf", unfollowed := true, recurses := true, apart := false, narrowed := true }
def FnExactEchelonOfUptoSaid : Prop := fnExactEchelonOfUptoRow.holds Try.pinned (OpenSpec.upto fnExactEchelonOfSpec)

/-- 'laws.FnExactRankMod', WHERE WHAT IT READS IS OF BULK AT MOST 1048576: true; the input reads as it did. -/
def fnExactRankModUptoRow : OpenClaim := { program := "ytgdoobfffcojfaa", sum := "029f124952cb20cb1aff296aa42348f5e24dd03596de25342d36b0035efbfe40", func := "loop.example/g03411/laws.FnExactRankMod", spec := "fnExactRankMod", apart := false, narrowed := true }
def FnExactRankModUptoSaid : Prop := fnExactRankModUptoRow.holds Try.pinned (OpenSpec.upto fnExactRankModSpec)

/-- 'laws.FnExactSameSpace', WHERE WHAT IT READS IS OF BULK AT MOST 1048576: true; the input reads as it did. -/
def fnExactSameSpaceUptoRow : OpenClaim := { program := "ytgdoobfffcojfaa", sum := "029f124952cb20cb1aff296aa42348f5e24dd03596de25342d36b0035efbfe40", func := "loop.example/g03411/laws.FnExactSameSpace", spec := "fnExactSameSpace", unfollowed := true, recurses := true, apart := false, narrowed := true }
def FnExactSameSpaceUptoSaid : Prop := fnExactSameSpaceUptoRow.holds Try.pinned (OpenSpec.upto fnExactSameSpaceSpec)

/-- 'laws.FnExactDeterminantMod', WHERE WHAT IT READS IS OF BULK AT MOST 1048576: true; the input reads as it did. -/
def fnExactDeterminantModUptoRow : OpenClaim := { program := "ytgdoobfffcojfaa", sum := "029f124952cb20cb1aff296aa42348f5e24dd03596de25342d36b0035efbfe40", func := "loop.example/g03411/laws.FnExactDeterminantMod", spec := "fnExactDeterminantMod", apart := false, narrowed := true }
def FnExactDeterminantModUptoSaid : Prop := fnExactDeterminantModUptoRow.holds Try.pinned (OpenSpec.upto fnExactDeterminantModSpec)

/-- 'laws.FnExactInverseMod', WHERE WHAT IT READS IS OF BULK AT MOST 1048576: true; the input reads as it did. -/
def fnExactInverseModUptoRow : OpenClaim := { program := "ytgdoobfffcojfaa", sum := "029f124952cb20cb1aff296aa42348f5e24dd03596de25342d36b0035efbfe40", func := "loop.example/g03411/laws.FnExactInverseMod", spec := "fnExactInverseMod", apart := false, narrowed := true }
def FnExactInverseModUptoSaid : Prop := fnExactInverseModUptoRow.holds Try.pinned (OpenSpec.upto fnExactInverseModSpec)

/-- 'laws.FnExactHermiteForm', WHERE WHAT IT READS IS OF BULK AT MOST 1048576: true; the input reads as it did. -/
def fnExactHermiteFormUptoRow : OpenClaim := { program := "ytgdoobfffcojfaa", sum := "029f124952cb20cb1aff296aa42348f5e24dd03596de25342d36b0035efbfe40", func := "loop.example/g03411/laws.FnExactHermiteForm", spec := "fnExactHermiteForm", apart := false, narrowed := true }
def FnExactHermiteFormUptoSaid : Prop := fnExactHermiteFormUptoRow.holds Try.pinned (OpenSpec.upto fnExactHermiteFormSpec)

end Rows
end Go.Proofs.Ytgdoobfffcojfaa

/-
  No cell of these rows narrows 'for every input' (looked for: loops, veiled, ifaces, maps, wideKeys, modest, calm, conditions, laid).
  DERIVED. THE GIVEN ROWS OF THIS SEAT. 12 by the template 'for every input the law returns true; each argument reads behind the call as it read before'; 0 by the template 'total and deterministic' (their statements: YthdhdkocdlcgaaaTotals.lean).
  GIVEN WITH THE SEED: the statements are not yours to turn. If you find one false, say at which input.
  Laid BY PROGRAM, IN A SANDBOX (cutbox-rows.mjs): the forced cells as the released guide's own fill.sh prints them over the translation 7394873f3054d1f3… (all of the seat's roots in one cut). By AI agents, Wed Nov 11 2026. No macro, syntax, notation, axiom, sorry.
-/
import Derived.Test.YthdhdkocdlcgaaaChecked
import GoSem.Claim
import GoSem.ClaimJoined
import GoSem.ClaimMapViews
import Derived.JoinedTies
import Derived.KernelRfl
namespace Go.Proofs.Ythdhdkocdlcgaaa
/- THE CELL 'sum', in the pinned program and in every row, IS THE sha256 OF THE DUMP (.gsa) THAT YthdhdkocdlcgaaaProg.lean LOADS. Nothing in Lean hashes anything: it is a label: what it is worth is what the hold of that sum in a sandbox is worth. -/
noncomputable def Try.pinned : Pinned := { name := "ythdhdkocdlcgaaa", sum := "7394873f3054d1f368d0fd125decf40063b8da1ffdcecc1662cd3473db37d461", checked := Try.checked }
namespace Rows
def none {H : Type} : Left H := { results := [], args := [] }

/-- 'laws.FnExactIsSolution': WHATEVER THE INPUT: true; the input reads as it did. -/
def fnExactIsSolutionSpec : ChangeSpec := { name := "fnExactIsSolution", fn := fun _ => fun
  | [d1, d2, d3] => { results := [.lit (.bool true)], args := [d1, d2, d3] }
  | _ => none }
def fnExactIsSolutionRow : OpenClaim := { program := "ythdhdkocdlcgaaa", sum := "7394873f3054d1f368d0fd125decf40063b8da1ffdcecc1662cd3473db37d461", func := "loop.example/g03411/laws.FnExactIsSolution", spec := "fnExactIsSolution", apart := false }
def FnExactIsSolutionSaid : Prop := fnExactIsSolutionRow.holds Try.pinned (OpenSpec.ofChange fnExactIsSolutionSpec)

/-- ITS FALSE NEIGHBOUR: 'it returns false'. Refute it at one input. -/
def fnExactIsSolutionWrong : ChangeSpec := { name := "fnExactIsSolution", fn := fun _ => fun
  | [d1, d2, d3] => { results := [.lit (.bool false)], args := [d1, d2, d3] }
  | _ => none }
def FnExactIsSolutionWrongFalsely : Prop := fnExactIsSolutionRow.holds Try.pinned (OpenSpec.ofChange fnExactIsSolutionWrong)

/-- 'laws.FnExactChineseOf': WHATEVER THE INPUT: true; the input reads as it did. -/
def fnExactChineseOfSpec : ChangeSpec := { name := "fnExactChineseOf", fn := fun _ => fun
  | [d1, d2] => { results := [.lit (.bool true)], args := [d1, d2] }
  | _ => none }
def fnExactChineseOfRow : OpenClaim := { program := "ythdhdkocdlcgaaa", sum := "7394873f3054d1f368d0fd125decf40063b8da1ffdcecc1662cd3473db37d461", func := "loop.example/g03411/laws.FnExactChineseOf", spec := "fnExactChineseOf", apart := false }
def FnExactChineseOfSaid : Prop := fnExactChineseOfRow.holds Try.pinned (OpenSpec.ofChange fnExactChineseOfSpec)

/-- ITS FALSE NEIGHBOUR: 'it returns false'. Refute it at one input. -/
def fnExactChineseOfWrong : ChangeSpec := { name := "fnExactChineseOf", fn := fun _ => fun
  | [d1, d2] => { results := [.lit (.bool false)], args := [d1, d2] }
  | _ => none }
def FnExactChineseOfWrongFalsely : Prop := fnExactChineseOfRow.holds Try.pinned (OpenSpec.ofChange fnExactChineseOfWrong)

/-- 'laws.FnExactIsEchelon': WHATEVER THE INPUT: true; the input reads as it did. -/
def fnExactIsEchelonSpec : ChangeSpec := { name := "fnExactIsEchelon", fn := fun _ => fun
  | [d] => { results := [.lit (.bool true)], args := [d] }
  | _ => none }
def fnExactIsEchelonRow : OpenClaim := { program := "ythdhdkocdlcgaaa", sum := "7394873f3054d1f368d0fd125decf40063b8da1ffdcecc1662cd3473db37d461", func := "loop.example/g03411/laws.FnExactIsEchelon", spec := "fnExactIsEchelon", unfollowed := true, recurses := true, apart := false }
def FnExactIsEchelonSaid : Prop := fnExactIsEchelonRow.holds Try.pinned (OpenSpec.ofChange fnExactIsEchelonSpec)

/-- ITS FALSE NEIGHBOUR: 'it returns false'. Refute it at one input. -/
def fnExactIsEchelonWrong : ChangeSpec := { name := "fnExactIsEchelon", fn := fun _ => fun
  | [d] => { results := [.lit (.bool false)], args := [d] }
  | _ => none }
def FnExactIsEchelonWrongFalsely : Prop := fnExactIsEchelonRow.holds Try.pinned (OpenSpec.ofChange fnExactIsEchelonWrong)

/-- 'laws.FnReconstruct': WHATEVER THE INPUT: true; the input reads as it did. -/
def fnReconstructSpec : ChangeSpec := { name := "fnReconstruct", fn := fun _ => fun
  | [d] => { results := [.lit (.bool true)], args := [d] }
  | _ => none }
def fnReconstructRow : OpenClaim := { program := "ythdhdkocdlcgaaa", sum := "7394873f3054d1f368d0fd125decf40063b8da1ffdcecc1662cd3473db37d461", func := "loop.example/g03411/laws.FnReconstruct", spec := "fnReconstruct", apart := false }
def FnReconstructSaid : Prop := fnReconstructRow.holds Try.pinned (OpenSpec.ofChange fnReconstructSpec)

/-- ITS FALSE NEIGHBOUR: 'it returns false'. Refute it at one input. -/
def fnReconstructWrong : ChangeSpec := { name := "fnReconstruct", fn := fun _ => fun
  | [d] => { results := [.lit (.bool false)], args := [d] }
  | _ => none }
def FnReconstructWrongFalsely : Prop := fnReconstructRow.holds Try.pinned (OpenSpec.ofChange fnReconstructWrong)

/-- 'laws.FnExactIsRational': WHATEVER THE INPUT: true; the input reads as it did. -/
def fnExactIsRationalSpec : ChangeSpec := { name := "fnExactIsRational", fn := fun _ => fun
  | [d1, d2, d3] => { results := [.lit (.bool true)], args := [d1, d2, d3] }
  | _ => none }
def fnExactIsRationalRow : OpenClaim := { program := "ythdhdkocdlcgaaa", sum := "7394873f3054d1f368d0fd125decf40063b8da1ffdcecc1662cd3473db37d461", func := "loop.example/g03411/laws.FnExactIsRational", spec := "fnExactIsRational", apart := false }
def FnExactIsRationalSaid : Prop := fnExactIsRationalRow.holds Try.pinned (OpenSpec.ofChange fnExactIsRationalSpec)

/-- ITS FALSE NEIGHBOUR: 'it returns false'. Refute it at one input. -/
def fnExactIsRationalWrong : ChangeSpec := { name := "fnExactIsRational", fn := fun _ => fun
  | [d1, d2, d3] => { results := [.lit (.bool false)], args := [d1, d2, d3] }
  | _ => none }
def FnExactIsRationalWrongFalsely : Prop := fnExactIsRationalRow.holds Try.pinned (OpenSpec.ofChange fnExactIsRationalWrong)

/-- 'laws.FnChinese': WHATEVER THE INPUT: true; the input reads as it did. -/
def fnChineseSpec : ChangeSpec := { name := "fnChinese", fn := fun _ => fun
  | [d] => { results := [.lit (.bool true)], args := [d] }
  | _ => none }
def fnChineseRow : OpenClaim := { program := "ythdhdkocdlcgaaa", sum := "7394873f3054d1f368d0fd125decf40063b8da1ffdcecc1662cd3473db37d461", func := "loop.example/g03411/laws.FnChinese", spec := "fnChinese", apart := false }
def FnChineseSaid : Prop := fnChineseRow.holds Try.pinned (OpenSpec.ofChange fnChineseSpec)

/-- ITS FALSE NEIGHBOUR: 'it returns false'. Refute it at one input. -/
def fnChineseWrong : ChangeSpec := { name := "fnChinese", fn := fun _ => fun
  | [d] => { results := [.lit (.bool false)], args := [d] }
  | _ => none }
def FnChineseWrongFalsely : Prop := fnChineseRow.holds Try.pinned (OpenSpec.ofChange fnChineseWrong)

/-- 'laws.FnExactMinorGcd': WHATEVER THE INPUT: true; the input reads as it did. -/
def fnExactMinorGcdSpec : ChangeSpec := { name := "fnExactMinorGcd", fn := fun _ => fun
  | [d1, d2] => { results := [.lit (.bool true)], args := [d1, d2] }
  | _ => none }
def fnExactMinorGcdRow : OpenClaim := { program := "ythdhdkocdlcgaaa", sum := "7394873f3054d1f368d0fd125decf40063b8da1ffdcecc1662cd3473db37d461", func := "loop.example/g03411/laws.FnExactMinorGcd", spec := "fnExactMinorGcd", recurses := true, apart := false }
def FnExactMinorGcdSaid : Prop := fnExactMinorGcdRow.holds Try.pinned (OpenSpec.ofChange fnExactMinorGcdSpec)

/-- ITS FALSE NEIGHBOUR: 'it returns false'. Refute it at one input. -/
def fnExactMinorGcdWrong : ChangeSpec := { name := "fnExactMinorGcd", fn := fun _ => fun
  | [d1, d2] => { results := [.lit (.bool false)], args := [d1, d2] }
  | _ => none }
def FnExactMinorGcdWrongFalsely : Prop := fnExactMinorGcdRow.holds Try.pinned (OpenSpec.ofChange fnExactMinorGcdWrong)

/-- 'laws.FnExactIsRefutation': WHATEVER THE INPUT: true; the input reads as it did. -/
def fnExactIsRefutationSpec : ChangeSpec := { name := "fnExactIsRefutation", fn := fun _ => fun
  | [d1, d2, d3] => { results := [.lit (.bool true)], args := [d1, d2, d3] }
  | _ => none }
def fnExactIsRefutationRow : OpenClaim := { program := "ythdhdkocdlcgaaa", sum := "7394873f3054d1f368d0fd125decf40063b8da1ffdcecc1662cd3473db37d461", func := "loop.example/g03411/laws.FnExactIsRefutation", spec := "fnExactIsRefutation", apart := false }
def FnExactIsRefutationSaid : Prop := fnExactIsRefutationRow.holds Try.pinned (OpenSpec.ofChange fnExactIsRefutationSpec)

/-- ITS FALSE NEIGHBOUR: 'it returns false'. Refute it at one input. -/
def fnExactIsRefutationWrong : ChangeSpec := { name := "fnExactIsRefutation", fn := fun _ => fun
  | [d1, d2, d3] => { results := [.lit (.bool false)], args := [d1, d2, d3] }
  | _ => none }
def FnExactIsRefutationWrongFalsely : Prop := fnExactIsRefutationRow.holds Try.pinned (OpenSpec.ofChange fnExactIsRefutationWrong)

/-- 'laws.FnExactCoordinatesOf': WHATEVER THE INPUT: true; the input reads as it did. -/
def fnExactCoordinatesOfSpec : ChangeSpec := { name := "fnExactCoordinatesOf", fn := fun _ => fun
  | [d1, d2] => { results := [.lit (.bool true)], args := [d1, d2] }
  | _ => none }
def fnExactCoordinatesOfRow : OpenClaim := { program := "ythdhdkocdlcgaaa", sum := "7394873f3054d1f368d0fd125decf40063b8da1ffdcecc1662cd3473db37d461", func := "loop.example/g03411/laws.FnExactCoordinatesOf", spec := "fnExactCoordinatesOf", unfollowed := true, recurses := true, apart := false }
def FnExactCoordinatesOfSaid : Prop := fnExactCoordinatesOfRow.holds Try.pinned (OpenSpec.ofChange fnExactCoordinatesOfSpec)

/-- ITS FALSE NEIGHBOUR: 'it returns false'. Refute it at one input. -/
def fnExactCoordinatesOfWrong : ChangeSpec := { name := "fnExactCoordinatesOf", fn := fun _ => fun
  | [d1, d2] => { results := [.lit (.bool false)], args := [d1, d2] }
  | _ => none }
def FnExactCoordinatesOfWrongFalsely : Prop := fnExactCoordinatesOfRow.holds Try.pinned (OpenSpec.ofChange fnExactCoordinatesOfWrong)

/-- 'laws.FnExactRankOf': WHATEVER THE INPUT: true; the input reads as it did. -/
def fnExactRankOfSpec : ChangeSpec := { name := "fnExactRankOf", fn := fun _ => fun
  | [d] => { results := [.lit (.bool true)], args := [d] }
  | _ => none }
def fnExactRankOfRow : OpenClaim := { program := "ythdhdkocdlcgaaa", sum := "7394873f3054d1f368d0fd125decf40063b8da1ffdcecc1662cd3473db37d461", func := "loop.example/g03411/laws.FnExactRankOf", spec := "fnExactRankOf", unfollowed := true, recurses := true, apart := false }
def FnExactRankOfSaid : Prop := fnExactRankOfRow.holds Try.pinned (OpenSpec.ofChange fnExactRankOfSpec)

/-- ITS FALSE NEIGHBOUR: 'it returns false'. Refute it at one input. -/
def fnExactRankOfWrong : ChangeSpec := { name := "fnExactRankOf", fn := fun _ => fun
  | [d] => { results := [.lit (.bool false)], args := [d] }
  | _ => none }
def FnExactRankOfWrongFalsely : Prop := fnExactRankOfRow.holds Try.pinned (OpenSpec.ofChange fnExactRankOfWrong)

/-- 'laws.FnExactEchelonOf': WHATEVER THE INPUT: true; the input reads as it did. -/
def fnExactEchelonOfSpec : ChangeSpec := { name := "fnExactEchelonOf", fn := fun _ => fun
  | [d] => { results := [.lit (.bool true)], args := [d] }
  | _ => none }
def fnExactEchelonOfRow : OpenClaim := { program := "ythdhdkocdlcgaaa", sum := "7394873f3054d1f368d0fd125decf40063b8da1ffdcecc1662cd3473db37d461", func := "loop.example/g03411/laws.FnExactEchelonOf", spec := "fnExactEchelonOf", unfollowed := true, recurses := true, apart := false }
def FnExactEchelonOfSaid : Prop := fnExactEchelonOfRow.holds Try.pinned (OpenSpec.ofChange fnExactEchelonOfSpec)

/-- ITS FALSE NEIGHBOUR: 'it returns false'. Refute it at one input. -/
def fnExactEchelonOfWrong : ChangeSpec := { name := "fnExactEchelonOf", fn := fun _ => fun
  | [d] => { results := [.lit (.bool false)], args := [d] }
  | _ => none }
def FnExactEchelonOfWrongFalsely : Prop := fnExactEchelonOfRow.holds Try.pinned (OpenSpec.ofChange fnExactEchelonOfWrong)

/-- 'laws.FnExactRankMod': WHATEVER THE INPUT: true; the input reads as it did. -/
def fnExactRankModSpec : ChangeSpec := { name := "fnExactRankMod", fn := fun _ => fun
  | [d1, d2] => { results := [.lit (.bool true)], args := [d1, d2] }
  | _ => none }
def fnExactRankModRow : OpenClaim := { program := "ythdhdkocdlcgaaa", sum := "7394873f3054d1f368d0fd125decf40063b8da1ffdcecc1662cd3473db37d461", func := "loop.example/g03411/laws.FnExactRankMod", spec := "fnExactRankMod", apart := false }
def FnExactRankModSaid : Prop := fnExactRankModRow.holds Try.pinned (OpenSpec.ofChange fnExactRankModSpec)

/-- ITS FALSE NEIGHBOUR: 'it returns false'. Refute it at one input. -/
def fnExactRankModWrong : ChangeSpec := { name := "fnExactRankMod", fn := fun _ => fun
  | [d1, d2] => { results := [.lit (.bool false)], args := [d1, d2] }
  | _ => none }
def FnExactRankModWrongFalsely : Prop := fnExactRankModRow.holds Try.pinned (OpenSpec.ofChange fnExactRankModWrong)

/- THE SECOND FORM. 'bulk': how many values and letters a reading holds, each counted each time it is reached (what is shared counts as often as it is met; a slice's spare places count too). A statement '..UptoSaid' is the law's where the arguments, and the package variables that the reading takes, are together of bulk at most 1048576: NARROWER than '..Said'. Prove '..Said' where nothing that the law and all that it calls make is longer than what came in: it says more and counts as full. Else prove '..UptoSaid'. A law counts once. -/
mutual
def uptoBulk {H : Type} : DataW H → Nat
  | .lit (.string bytes) => bytes.length + 1
  | .lit _ => 1
  | .nil => 1
  | .ptr d => uptoBulk d + 1
  | .slice elems spare => uptoBulkAll elems + uptoBulkAll spare + 1
  | .agg parts => uptoBulkAll parts + 1
  | .iface _ d => uptoBulk d + 1
  | .map entries => uptoBulkEntries entries + 1
  | .held _ => 1
def uptoBulkAll {H : Type} : List (DataW H) → Nat
  | [] => 0
  | d :: r => uptoBulk d + uptoBulkAll r
def uptoBulkEntries {H : Type} : List (Lit × DataW H) → Nat
  | [] => 0
  | x :: r => uptoBulkEntry x + uptoBulkEntries r
def uptoBulkEntry {H : Type} : Lit × DataW H → Nat
  | (.string bytes, d) => bytes.length + uptoBulk d + 1
  | (_, d) => uptoBulk d + 1
 end
def uptoSmall : (H : Type) → List (DataW H) → Bool := fun _ ds => decide (uptoBulkAll ds ≤ 1048576)
def OpenSpec.upto (s : _root_.Go.ChangeSpec) : _root_.Go.OpenSpec := { _root_.Go.OpenSpec.ofChange s with cond := some uptoSmall }

/-- 'laws.FnExactIsSolution', WHERE WHAT IT READS IS OF BULK AT MOST 1048576: true; the input reads as it did. -/
def fnExactIsSolutionUptoRow : OpenClaim := { program := "ythdhdkocdlcgaaa", sum := "7394873f3054d1f368d0fd125decf40063b8da1ffdcecc1662cd3473db37d461", func := "loop.example/g03411/laws.FnExactIsSolution", spec := "fnExactIsSolution", apart := false, narrowed := true }
def FnExactIsSolutionUptoSaid : Prop := fnExactIsSolutionUptoRow.holds Try.pinned (OpenSpec.upto fnExactIsSolutionSpec)

/-- 'laws.FnExactChineseOf', WHERE WHAT IT READS IS OF BULK AT MOST 1048576: true; the input reads as it did. -/
def fnExactChineseOfUptoRow : OpenClaim := { program := "ythdhdkocdlcgaaa", sum := "7394873f3054d1f368d0fd125decf40063b8da1ffdcecc1662cd3473db37d461", func := "loop.example/g03411/laws.FnExactChineseOf", spec := "fnExactChineseOf", apart := false, narrowed := true }
def FnExactChineseOfUptoSaid : Prop := fnExactChineseOfUptoRow.holds Try.pinned (OpenSpec.upto fnExactChineseOfSpec)

/-- 'laws.FnExactIsEchelon', WHERE WHAT IT READS IS OF BULK AT MOST 1048576: true; the input reads as it did. -/
def fnExactIsEchelonUptoRow : OpenClaim := { program := "ythdhdkocdlcgaaa", sum := "7394873f3054d1f368d0fd125decf40063b8da1ffdcecc1662cd3473db37d461", func := "loop.example/g03411/laws.FnExactIsEchelon", spec := "fnExactIsEchelon", unfollowed := true, recurses := true, apart := false, narrowed := true }
def FnExactIsEchelonUptoSaid : Prop := fnExactIsEchelonUptoRow.holds Try.pinned (OpenSpec.upto fnExactIsEchelonSpec)

/-- 'laws.FnReconstruct', WHERE WHAT IT READS IS OF BULK AT MOST 1048576: true; the input reads as it did. -/
def fnReconstructUptoRow : OpenClaim := { program := "ythdhdkocdlcgaaa", sum := "7394873f3054d1f368d0fd125decf40063b8da1ffdcecc1662cd3473db37d461", func := "loop.example/g03411/laws.FnReconstruct", spec := "fnReconstruct", apart := false, narrowed := true }
def FnReconstructUptoSaid : Prop := fnReconstructUptoRow.holds Try.pinned (OpenSpec.upto fnReconstructSpec)

/-- 'laws.FnExactIsRational', WHERE WHAT IT READS IS OF BULK AT MOST 1048576: true; the input reads as it did. -/
def fnExactIsRationalUptoRow : OpenClaim := { program := "ythdhdkocdlcgaaa", sum := "7394873f3054d1f368d0fd125decf40063b8da1ffdcecc1662cd3473db37d461", func := "loop.example/g03411/laws.FnExactIsRational", spec := "fnExactIsRational", apart := false, narrowed := true }
def FnExactIsRationalUptoSaid : Prop := fnExactIsRationalUptoRow.holds Try.pinned (OpenSpec.upto fnExactIsRationalSpec)

/-- 'laws.FnChinese', WHERE WHAT IT READS IS OF BULK AT MOST 1048576: true; the input reads as it did. -/
def fnChineseUptoRow : OpenClaim := { program := "ythdhdkocdlcgaaa", sum := "7394873f3054d1f368d0fd125decf40063b8da1ffdcecc1662cd3473db37d461", func := "loop.example/g03411/laws.FnChinese", spec := "fnChinese", apart := false, narrowed := true }
def FnChineseUptoSaid : Prop := fnChineseUptoRow.holds Try.pinned (OpenSpec.upto fnChineseSpec)

/-- 'laws.FnExactMinorGcd', WHERE WHAT IT READS IS OF BULK AT MOST 1048576: true; the input reads as it did. -/
def fnExactMinorGcdUptoRow : OpenClaim := { program := "ythdhdkocdlcgaaa", sum := "7394873f3054d1f368d0fd125decf40063b8da1ffdcecc1662cd3473db37d461", func := "loop.example/g03411/laws.FnExactMinorGcd", spec := "fnExactMinorGcd", recurses := true, apart := false, narrowed := true }
def FnExactMinorGcdUptoSaid : Prop := fnExactMinorGcdUptoRow.holds Try.pinned (OpenSpec.upto fnExactMinorGcdSpec)

/-- 'laws.FnExactIsRefutation', WHERE WHAT IT READS IS OF BULK AT MOST 1048576: true; the input reads as it did. -/
def fnExactIsRefutationUptoRow : OpenClaim := { program := "ythdhdkocdlcgaaa", sum := "7394873f3054d1f368d0fd125decf40063b8da1ffdcecc1662cd3473db37d461", func := "loop.example/g03411/laws.FnExactIsRefutation", spec := "fnExactIsRefutation", apart := false, narrowed := true }
def FnExactIsRefutationUptoSaid : Prop := fnExactIsRefutationUptoRow.holds Try.pinned (OpenSpec.upto fnExactIsRefutationSpec)

/-- 'laws.FnExactCoordinatesOf', WHERE WHAT IT READS IS OF BULK AT MOST 1048576: true; the input reads as it did. -/
def fnExactCoordinatesOfUptoRow : OpenClaim := { program := "ythdhdkocdlcgaaa", sum := "7394873f3054d1f368d0fd125decf40063b8da1ffdcecc1662cd3473db37d461", func := "loop.example/g03411/laws.FnExactCoordinatesOf", spec := "fnExactCoordinatesOf", unfollowed := true, recurses := true, apart := false, narrowed := true }
def FnExactCoordinatesOfUptoSaid : Prop := fnExactCoordinatesOfUptoRow.holds Try.pinned (OpenSpec.upto fnExactCoordinatesOfSpec)

/-- 'laws.FnExactRankOf', WHERE WHAT IT READS IS OF BULK AT MOST 1048576: true; the input reads as it did. -/
def fnExactRankOfUptoRow : OpenClaim := { program := "ythdhdkocdlcgaaa", sum := "7394873f3054d1f368d0fd125decf40063b8da1ffdcecc1662cd3473db37d461", func := "loop.example/g03411/laws.FnExactRankOf", spec := "fnExactRankOf", unfollowed := true, recurses := true, apart := false, narrowed := true }
def FnExactRankOfUptoSaid : Prop := fnExactRankOfUptoRow.holds Try.pinned (OpenSpec.upto fnExactRankOfSpec)

/-- 'laws.FnExactEchelonOf', WHERE WHAT IT READS IS OF BULK AT MOST 1048576: true; the input reads as it did. -/
def fnExactEchelonOfUptoRow : OpenClaim := { program := "ythdhdkocdlcgaaa", sum := "7394873f3054d1f368d0fd125decf40063b8da1ffdcecc1662cd3473db37d461", func := "loop.example/g03411/laws.FnExactEchelonOf", spec := "fnExactEchelonOf", unfollowed := true, recurses := true, apart := false, narrowed := true }
def FnExactEchelonOfUptoSaid : Prop := fnExactEchelonOfUptoRow.holds Try.pinned (OpenSpec.upto fnExactEchelonOfSpec)

/-- 'laws.FnExactRankMod', WHERE WHAT IT READS IS OF BULK AT MOST 1048576: true; the input reads as it did. -/
def fnExactRankModUptoRow : OpenClaim := { program := "ythdhdkocdlcgaaa", sum := "7394873f3054d1f368d0fd125decf40063b8da1ffdcecc1662cd3473db37d461", func := "loop.example/g03411/laws.FnExactRankMod", spec := "fnExactRankMod", apart := false, narrowed := true }
def FnExactRankModUptoSaid : Prop := fnExactRankModUptoRow.holds Try.pinned (OpenSpec.upto fnExactRankModSpec)

end Rows
end Go.Proofs.Ythdhdkocdlcgaaa

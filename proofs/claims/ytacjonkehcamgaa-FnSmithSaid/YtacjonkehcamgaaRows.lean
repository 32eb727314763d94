/-
  No cell of these rows narrows 'for every input' (looked for: loops, veiled, ifaces, maps, wideKeys, modest, calm, conditions, laid).
  DERIVED. THE GIVEN ROWS OF THIS SEAT. 12 by the template 'for every input the law returns true; each argument reads behind the call as it read before'; 0 by the template 'total and deterministic' (their statements: YtacjonkehcamgaaTotals.lean).
  GIVEN WITH THE SEED: the statements are not yours to turn. If you find one false, say at which input.
  Laid BY PROGRAM, IN A SANDBOX (cutbox-rows.mjs): the forced cells as the released guide's own fill.sh prints them over the translation bd7816897a452c02… (all of the seat's roots in one cut). By AI agents, Wed Nov 11 2026. No macro, syntax, notation, axiom, sorry.
-/
import Derived.Test.YtacjonkehcamgaaChecked
import GoSem.Claim
import GoSem.ClaimJoined
import GoSem.ClaimMapViews
import Derived.JoinedTies
import Derived.KernelRfl
namespace Go.Proofs.Ytacjonkehcamgaa
/- THE CELL 'sum', in the pinned program and in every row, IS THE sha256 OF THE DUMP (.gsa) THAT YtacjonkehcamgaaProg.lean LOADS. Nothing in Lean hashes anything: it is a label: what it is worth is what the hold of that sum in a sandbox is worth. -/
noncomputable def Try.pinned : Pinned := { name := "ytacjonkehcamgaa", sum := "bd7816897a452c02a6302dd0c323c12923849cdf31bbaa300fa5da2c6308b844", checked := Try.checked }
namespace Rows
def none {H : Type} : Left H := { results := [], args := [] }

/-- 'laws.FnRefutations': WHATEVER THE INPUT: true; the input reads as it did. -/
def fnRefutationsSpec : ChangeSpec := { name := "fnRefutations", fn := fun _ => fun
  | [d] => { results := [.lit (.bool true)], args := [d] }
  | _ => none }
def fnRefutationsRow : OpenClaim := { program := "ytacjonkehcamgaa", sum := "bd7816897a452c02a6302dd0c323c12923849cdf31bbaa300fa5da2c6308b844", func := "loop.example/g03411/laws.FnRefutations", spec := "fnRefutations", apart := false }
def FnRefutationsSaid : Prop := fnRefutationsRow.holds Try.pinned (OpenSpec.ofChange fnRefutationsSpec)

/-- ITS FALSE NEIGHBOUR: 'it returns false'. Refute it at one input. -/
def fnRefutationsWrong : ChangeSpec := { name := "fnRefutations", fn := fun _ => fun
  | [d] => { results := [.lit (.bool false)], args := [d] }
  | _ => none }
def FnRefutationsWrongFalsely : Prop := fnRefutationsRow.holds Try.pinned (OpenSpec.ofChange fnRefutationsWrong)

/-- 'laws.FnExactSolveByLifting': WHATEVER THE INPUT: true; the input reads as it did. -/
def fnExactSolveByLiftingSpec : ChangeSpec := { name := "fnExactSolveByLifting", fn := fun _ => fun
  | [d1, d2] => { results := [.lit (.bool true)], args := [d1, d2] }
  | _ => none }
def fnExactSolveByLiftingRow : OpenClaim := { program := "ytacjonkehcamgaa", sum := "bd7816897a452c02a6302dd0c323c12923849cdf31bbaa300fa5da2c6308b844", func := "loop.example/g03411/laws.FnExactSolveByLifting", spec := "fnExactSolveByLifting", apart := false }
def FnExactSolveByLiftingSaid : Prop := fnExactSolveByLiftingRow.holds Try.pinned (OpenSpec.ofChange fnExactSolveByLiftingSpec)

/-- ITS FALSE NEIGHBOUR: 'it returns false'. Refute it at one input. -/
def fnExactSolveByLiftingWrong : ChangeSpec := { name := "fnExactSolveByLifting", fn := fun _ => fun
  | [d1, d2] => { results := [.lit (.bool false)], args := [d1, d2] }
  | _ => none }
def FnExactSolveByLiftingWrongFalsely : Prop := fnExactSolveByLiftingRow.holds Try.pinned (OpenSpec.ofChange fnExactSolveByLiftingWrong)

/-- 'laws.FnInverseMod': WHATEVER THE INPUT: true; the input reads as it did. -/
def fnInverseModSpec : ChangeSpec := { name := "fnInverseMod", fn := fun _ => fun
  | [d] => { results := [.lit (.bool true)], args := [d] }
  | _ => none }
def fnInverseModRow : OpenClaim := { program := "ytacjonkehcamgaa", sum := "bd7816897a452c02a6302dd0c323c12923849cdf31bbaa300fa5da2c6308b844", func := "loop.example/g03411/laws.FnInverseMod", spec := "fnInverseMod", apart := false }
def FnInverseModSaid : Prop := fnInverseModRow.holds Try.pinned (OpenSpec.ofChange fnInverseModSpec)

/-- ITS FALSE NEIGHBOUR: 'it returns false'. Refute it at one input. -/
def fnInverseModWrong : ChangeSpec := { name := "fnInverseMod", fn := fun _ => fun
  | [d] => { results := [.lit (.bool false)], args := [d] }
  | _ => none }
def FnInverseModWrongFalsely : Prop := fnInverseModRow.holds Try.pinned (OpenSpec.ofChange fnInverseModWrong)

/-- 'laws.FnRowOps': WHATEVER THE INPUT: true; the input reads as it did. -/
def fnRowOpsSpec : ChangeSpec := { name := "fnRowOps", fn := fun _ => fun
  | [d] => { results := [.lit (.bool true)], args := [d] }
  | _ => none }
def fnRowOpsRow : OpenClaim := { program := "ytacjonkehcamgaa", sum := "bd7816897a452c02a6302dd0c323c12923849cdf31bbaa300fa5da2c6308b844", func := "loop.example/g03411/laws.FnRowOps", spec := "fnRowOps", recurses := true, apart := false }
def FnRowOpsSaid : Prop := fnRowOpsRow.holds Try.pinned (OpenSpec.ofChange fnRowOpsSpec)

/-- ITS FALSE NEIGHBOUR: 'it returns false'. Refute it at one input. -/
def fnRowOpsWrong : ChangeSpec := { name := "fnRowOps", fn := fun _ => fun
  | [d] => { results := [.lit (.bool false)], args := [d] }
  | _ => none }
def FnRowOpsWrongFalsely : Prop := fnRowOpsRow.holds Try.pinned (OpenSpec.ofChange fnRowOpsWrong)

/-- 'laws.FnHermite': WHATEVER THE INPUT: true; the input reads as it did. -/
def fnHermiteSpec : ChangeSpec := { name := "fnHermite", fn := fun _ => fun
  | [d] => { results := [.lit (.bool true)], args := [d] }
  | _ => none }
def fnHermiteRow : OpenClaim := { program := "ytacjonkehcamgaa", sum := "bd7816897a452c02a6302dd0c323c12923849cdf31bbaa300fa5da2c6308b844", func := "loop.example/g03411/laws.FnHermite", spec := "fnHermite", unfollowed := true, recurses := true, apart := false }
def FnHermiteSaid : Prop := fnHermiteRow.holds Try.pinned (OpenSpec.ofChange fnHermiteSpec)

/-- ITS FALSE NEIGHBOUR: 'it returns false'. Refute it at one input. -/
def fnHermiteWrong : ChangeSpec := { name := "fnHermite", fn := fun _ => fun
  | [d] => { results := [.lit (.bool false)], args := [d] }
  | _ => none }
def FnHermiteWrongFalsely : Prop := fnHermiteRow.holds Try.pinned (OpenSpec.ofChange fnHermiteWrong)

/-- 'laws.FnSmith': WHATEVER THE INPUT: true; the input reads as it did. -/
def fnSmithSpec : ChangeSpec := { name := "fnSmith", fn := fun _ => fun
  | [d] => { results := [.lit (.bool true)], args := [d] }
  | _ => none }
def fnSmithRow : OpenClaim := { program := "ytacjonkehcamgaa", sum := "bd7816897a452c02a6302dd0c323c12923849cdf31bbaa300fa5da2c6308b844", func := "loop.example/g03411/laws.FnSmith", spec := "fnSmith", recurses := true, apart := false }
def FnSmithSaid : Prop := fnSmithRow.holds Try.pinned (OpenSpec.ofChange fnSmithSpec)

/-- ITS FALSE NEIGHBOUR: 'it returns false'. Refute it at one input. -/
def fnSmithWrong : ChangeSpec := { name := "fnSmith", fn := fun _ => fun
  | [d] => { results := [.lit (.bool false)], args := [d] }
  | _ => none }
def FnSmithWrongFalsely : Prop := fnSmithRow.holds Try.pinned (OpenSpec.ofChange fnSmithWrong)

/-- 'laws.FnThreeRoads': WHATEVER THE INPUT: true; the input reads as it did. -/
def fnThreeRoadsSpec : ChangeSpec := { name := "fnThreeRoads", fn := fun _ => fun
  | [d] => { results := [.lit (.bool true)], args := [d] }
  | _ => none }
def fnThreeRoadsRow : OpenClaim := { program := "ytacjonkehcamgaa", sum := "bd7816897a452c02a6302dd0c323c12923849cdf31bbaa300fa5da2c6308b844", func := "loop.example/g03411/laws.FnThreeRoads", spec := "fnThreeRoads", recurses := true, apart := false }
def FnThreeRoadsSaid : Prop := fnThreeRoadsRow.holds Try.pinned (OpenSpec.ofChange fnThreeRoadsSpec)

/-- ITS FALSE NEIGHBOUR: 'it returns false'. Refute it at one input. -/
def fnThreeRoadsWrong : ChangeSpec := { name := "fnThreeRoads", fn := fun _ => fun
  | [d] => { results := [.lit (.bool false)], args := [d] }
  | _ => none }
def FnThreeRoadsWrongFalsely : Prop := fnThreeRoadsRow.holds Try.pinned (OpenSpec.ofChange fnThreeRoadsWrong)

/-- 'laws.FnSpaces': WHATEVER THE INPUT: true; the input reads as it did. -/
def fnSpacesSpec : ChangeSpec := { name := "fnSpaces", fn := fun _ => fun
  | [d] => { results := [.lit (.bool true)], args := [d] }
  | _ => none }
def fnSpacesRow : OpenClaim := { program := "ytacjonkehcamgaa", sum := "bd7816897a452c02a6302dd0c323c12923849cdf31bbaa300fa5da2c6308b844", func := "loop.example/g03411/laws.FnSpaces", spec := "fnSpaces", unfollowed := true, recurses := true, apart := false }
def FnSpacesSaid : Prop := fnSpacesRow.holds Try.pinned (OpenSpec.ofChange fnSpacesSpec)

/-- ITS FALSE NEIGHBOUR: 'it returns false'. Refute it at one input. -/
def fnSpacesWrong : ChangeSpec := { name := "fnSpaces", fn := fun _ => fun
  | [d] => { results := [.lit (.bool false)], args := [d] }
  | _ => none }
def FnSpacesWrongFalsely : Prop := fnSpacesRow.holds Try.pinned (OpenSpec.ofChange fnSpacesWrong)

/-- 'laws.FnEchelon': WHATEVER THE INPUT: true; the input reads as it did. -/
def fnEchelonSpec : ChangeSpec := { name := "fnEchelon", fn := fun _ => fun
  | [d] => { results := [.lit (.bool true)], args := [d] }
  | _ => none }
def fnEchelonRow : OpenClaim := { program := "ytacjonkehcamgaa", sum := "bd7816897a452c02a6302dd0c323c12923849cdf31bbaa300fa5da2c6308b844", func := "loop.example/g03411/laws.FnEchelon", spec := "fnEchelon", unfollowed := true, recurses := true, apart := false }
def FnEchelonSaid : Prop := fnEchelonRow.holds Try.pinned (OpenSpec.ofChange fnEchelonSpec)

/-- ITS FALSE NEIGHBOUR: 'it returns false'. Refute it at one input. -/
def fnEchelonWrong : ChangeSpec := { name := "fnEchelon", fn := fun _ => fun
  | [d] => { results := [.lit (.bool false)], args := [d] }
  | _ => none }
def FnEchelonWrongFalsely : Prop := fnEchelonRow.holds Try.pinned (OpenSpec.ofChange fnEchelonWrong)

/-- 'laws.FnImages': WHATEVER THE INPUT: true; the input reads as it did. -/
def fnImagesSpec : ChangeSpec := { name := "fnImages", fn := fun _ => fun
  | [d] => { results := [.lit (.bool true)], args := [d] }
  | _ => none }
def fnImagesRow : OpenClaim := { program := "ytacjonkehcamgaa", sum := "bd7816897a452c02a6302dd0c323c12923849cdf31bbaa300fa5da2c6308b844", func := "loop.example/g03411/laws.FnImages", spec := "fnImages", unfollowed := true, recurses := true, apart := false }
def FnImagesSaid : Prop := fnImagesRow.holds Try.pinned (OpenSpec.ofChange fnImagesSpec)

/-- ITS FALSE NEIGHBOUR: 'it returns false'. Refute it at one input. -/
def fnImagesWrong : ChangeSpec := { name := "fnImages", fn := fun _ => fun
  | [d] => { results := [.lit (.bool false)], args := [d] }
  | _ => none }
def FnImagesWrongFalsely : Prop := fnImagesRow.holds Try.pinned (OpenSpec.ofChange fnImagesWrong)

/-- 'laws.FnRanks': WHATEVER THE INPUT: true; the input reads as it did. -/
def fnRanksSpec : ChangeSpec := { name := "fnRanks", fn := fun _ => fun
  | [d] => { results := [.lit (.bool true)], args := [d] }
  | _ => none }
def fnRanksRow : OpenClaim := { program := "ytacjonkehcamgaa", sum := "bd7816897a452c02a6302dd0c323c12923849cdf31bbaa300fa5da2c6308b844", func := "loop.example/g03411/laws.FnRanks", spec := "fnRanks", unfollowed := true, recurses := true, apart := false }
def FnRanksSaid : Prop := fnRanksRow.holds Try.pinned (OpenSpec.ofChange fnRanksSpec)

/-- ITS FALSE NEIGHBOUR: 'it returns false'. Refute it at one input. -/
def fnRanksWrong : ChangeSpec := { name := "fnRanks", fn := fun _ => fun
  | [d] => { results := [.lit (.bool false)], args := [d] }
  | _ => none }
def FnRanksWrongFalsely : Prop := fnRanksRow.holds Try.pinned (OpenSpec.ofChange fnRanksWrong)

/-- 'laws.FnSolved': WHATEVER THE INPUT: true; the input reads as it did. -/
def fnSolvedSpec : ChangeSpec := { name := "fnSolved", fn := fun _ => fun
  | [d] => { results := [.lit (.bool true)], args := [d] }
  | _ => none }
def fnSolvedRow : OpenClaim := { program := "ytacjonkehcamgaa", sum := "bd7816897a452c02a6302dd0c323c12923849cdf31bbaa300fa5da2c6308b844", func := "loop.example/g03411/laws.FnSolved", spec := "fnSolved", unfollowed := true, recurses := true, apart := false }
def FnSolvedSaid : Prop := fnSolvedRow.holds Try.pinned (OpenSpec.ofChange fnSolvedSpec)

/-- ITS FALSE NEIGHBOUR: 'it returns false'. Refute it at one input. -/
def fnSolvedWrong : ChangeSpec := { name := "fnSolved", fn := fun _ => fun
  | [d] => { results := [.lit (.bool false)], args := [d] }
  | _ => none }
def FnSolvedWrongFalsely : Prop := fnSolvedRow.holds Try.pinned (OpenSpec.ofChange fnSolvedWrong)

/- THE SECOND FORM. 'bulk': how many values and letters a reading holds, each counted each time it is reached (what is shared counts as often as it is met; a slice's spare places count too). A statement '..UptoSaid' is the law's where the arguments, and the package variables that the reading takes, are together of bulk at most 1048576: NARROWER than '..Said'. Prove '..Said' where nothing that the law and all that it calls make is longer than what came in: it says more and counts as full. Else prove '..UptoSaid'. A law counts once. -/
mutual
def uptoBulk {H : Type} : DataW H → Nat
  | .lit (.string bytes) => bytes.length + 1
  | .lit _ => 1
  | .nil => 1
  | .ptr d => uptoBulk d + 1
  | .slice elems spare => uptoBulkAll elems + uptoBulkAll spare + 1
  | .agg parts => uptoBulkAll parts + 1
  | .iface _ d => uptoBulk d + 1
  | .map entries => uptoBulkEntries entries + 1
  | .held _ => 1
def uptoBulkAll {H : Type} : List (DataW H) → Nat
  | [] => 0
  | d :: r => uptoBulk d + uptoBulkAll r
def uptoBulkEntries {H : Type} : List (Lit × DataW H) → Nat
  | [] => 0
  | x :: r => uptoBulkEntry x + uptoBulkEntries r
def uptoBulkEntry {H : Type} : Lit × DataW H → Nat
  | (.string bytes, d) => bytes.length + uptoBulk d + 1
  | (_, d) => uptoBulk d + 1
 end
def uptoSmall : (H : Type) → List (DataW H) → Bool := fun _ ds => decide (uptoBulkAll ds ≤ 1048576)
def OpenSpec.upto (s : _root_.Go.ChangeSpec) : _root_.Go.OpenSpec := { _root_.Go.OpenSpec.ofChange s with cond := some uptoSmall }

/-- 'laws.FnRefutations', WHERE WHAT IT READS IS OF BULK AT MOST 1048576: true; the input reads as it did. -/
def fnRefutationsUptoRow : OpenClaim := { program := "ytacjonkehcamgaa", sum := "bd7816897a452c02a6302dd0c323c12923849cdf31bbaa300fa5da2c6308b844", func := "loop.example/g03411/laws.FnRefutations", spec := "fnRefutations", apart := false, narrowed := true }
def FnRefutationsUptoSaid : Prop := fnRefutationsUptoRow.holds Try.pinned (OpenSpec.upto fnRefutationsSpec)

/-- 'laws.FnExactSolveByLifting', WHERE WHAT IT READS IS OF BULK AT MOST 1048576: true; the input reads as it did. -/
def fnExactSolveByLiftingUptoRow : OpenClaim := { program := "ytacjonkehcamgaa", sum := "bd7816897a452c02a6302dd0c323c12923849cdf31bbaa300fa5da2c6308b844", func := "loop.example/g03411/laws.FnExactSolveByLifting", spec := "fnExactSolveByLifting", apart := false, narrowed := true }
def FnExactSolveByLiftingUptoSaid : Prop := fnExactSolveByLiftingUptoRow.holds Try.pinned (OpenSpec.upto fnExactSolveByLiftingSpec)

/-- 'laws.FnInverseMod', WHERE WHAT IT READS IS OF BULK AT MOST 1048576: true; the input reads as it did. -/
def fnInverseModUptoRow : OpenClaim := { program := "ytacjonkehcamgaa", sum := "bd7816897a452c02a6302dd0c323c12923849cdf31bbaa300fa5da2c6308b844", func := "loop.example/g03411/laws.FnInverseMod", spec := "fnInverseMod", apart := false, narrowed := true }
def FnInverseModUptoSaid : Prop := fnInverseModUptoRow.holds Try.pinned (OpenSpec.upto fnInverseModSpec)

/-- 'laws.FnRowOps', WHERE WHAT IT READS IS OF BULK AT MOST 1048576: true; the input reads as it did. -/
def fnRowOpsUptoRow : OpenClaim := { program := "ytacjonkehcamgaa", sum := "bd7816897a452c02a6302dd0c323c12923849cdf31bbaa300fa5da2c6308b844", func := "loop.example/g03411/laws.FnRowOps", spec := "fnRowOps", recurses := true, apart := false, narrowed := true }
def FnRowOpsUptoSaid : Prop := fnRowOpsUptoRow.holds Try.pinned (OpenSpec.upto fnRowOpsSpec)

/-- 'laws.FnHermite', WHERE WHAT IT READS IS OF BULK AT MOST 1048576: true; the input reads as it did. -/
def fnHermiteUptoRow : OpenClaim := { program := "ytacjonkehcamgaa", sum := "bd7816897a452c02a6302dd0c323c12923849cdf31bbaa300fa5da2c6308b844", func := "loop.example/g03411/laws.FnHermite", spec := "fnHermite", unfollowed := true, recurses := true, apart := false, narrowed := true }
def FnHermiteUptoSaid : Prop := fnHermiteUptoRow.holds Try.pinned (OpenSpec.upto fnHermiteSpec)

/-- 'laws.FnSmith', WHERE WHAT IT READS IS OF BULK AT MOST 1048576: true; the input reads as it did. -/
def fnSmithUptoRow : OpenClaim := { program := "ytacjonkehcamgaa", sum := "bd7816897a452c02a6302dd0c323c12923849cdf31bbaa300fa5da2c6308b844", func := "loop.example/g03411/laws.FnSmith", spec := "fnSmith", recurses := true, apart := false, narrowed := true }
def FnSmithUptoSaid : Prop := fnSmithUptoRow.holds Try.pinned (OpenSpec.upto fnSmithSpec)

/-- 'laws.FnThreeRoads', WHERE WHAT IT READS IS OF BULK AT MOST 1048576: true; the input reads as it did. -/
def fnThreeRoadsUptoRow : OpenClaim := { program := "ytacjonkehcamgaa", sum := "bd7816897a452c02a6302dd0c323c12923849cdf31bbaa300fa5da2c6308b844", func := "loop.example/g03411/laws.FnThreeRoads", spec := "fnThreeRoads", recurses := true, apart := false, narrowed := true }
def FnThreeRoadsUptoSaid : Prop := fnThreeRoadsUptoRow.holds Try.pinned (OpenSpec.upto fnThreeRoadsSpec)

/-- 'laws.FnSpaces', WHERE WHAT IT READS IS OF BULK AT MOST 1048576: true; the input reads as it did. -/
def fnSpacesUptoRow : OpenClaim := { program := "ytacjonkehcamgaa", sum := "bd7816897a452c02a6302dd0c323c12923849cdf31bbaa300fa5da2c6308b844", func := "loop.example/g03411/laws.FnSpaces", spec := "fnSpaces", unfollowed := true, recurses := true, apart := false, narrowed := true }
def FnSpacesUptoSaid : Prop := fnSpacesUptoRow.holds Try.pinned (OpenSpec.upto fnSpacesSpec)

/-- 'laws.FnEchelon', WHERE WHAT IT READS IS OF BULK AT MOST 1048576: true; the input reads as it did. -/
def fnEchelonUptoRow : OpenClaim := { program := "ytacjonkehcamgaa", sum := "bd7816897a452c02a6302dd0c323c12923849cdf31bbaa300fa5da2c6308b844", func := "loop.example/g03411/laws.FnEchelon", spec := "fnEchelon", unfollowed := true, recurses := true, apart := false, narrowed := true }
def FnEchelonUptoSaid : Prop := fnEchelonUptoRow.holds Try.pinned (OpenSpec.upto fnEchelonSpec)

/-- 'laws.FnImages', WHERE WHAT IT READS IS OF BULK AT MOST 1048576: true; the input reads as it did. -/
def fnImagesUptoRow : OpenClaim := { program := "ytacjonkehcamgaa", sum := "bd7816897a452c02a6302dd0c323c12923849cdf31bbaa300fa5da2c6308b844", func := "loop.example/g03411/laws.FnImages", spec := "fnImages", unfollowed := true, recurses := true, apart := false, narrowed := true }
def FnImagesUptoSaid : Prop := fnImagesUptoRow.holds Try.pinned (OpenSpec.upto fnImagesSpec)

/-- 'laws.FnRanks', WHERE WHAT IT READS IS OF BULK AT MOST 1048576: true; the input reads as it did. -/
def fnRanksUptoRow : OpenClaim := { program := "ytacjonkehcamgaa", sum := "bd7816897a452c02a6302dd0c323c12923849cdf31bbaa300fa5da2c6308b844", func := "loop.example/g03411/laws.FnRanks", spec := "fnRanks", unfollowed := true, recurses := true, apart := false, narrowed := true }
def FnRanksUptoSaid : Prop := fnRanksUptoRow.holds Try.pinned (OpenSpec.upto fnRanksSpec)

/-- 'laws.FnSolved', WHERE WHAT IT READS IS OF BULK AT MOST 1048576: true; the input reads as it did. -/
def fnSolvedUptoRow : OpenClaim := { program := "ytacjonkehcamgaa", sum := "bd7816897a452c02a6302dd0c323c12923849cdf31bbaa300fa5da2c6308b844", func := "loop.example/g03411/laws.FnSolved", spec := "fnSolved", unfollowed := true, recurses := true, apart := false, narrowed := true }
def FnSolvedUptoSaid : Prop := fnSolvedUptoRow.holds Try.pinned (OpenSpec.upto fnSolvedSpec)

end Rows
end Go.Proofs.Ytacjonkehcamgaa

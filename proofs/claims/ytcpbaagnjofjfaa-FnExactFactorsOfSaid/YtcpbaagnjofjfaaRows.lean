/-
  No cell of these rows narrows 'for every input' (looked for: loops, veiled, ifaces, maps, wideKeys, modest, calm, conditions, laid).
  DERIVED. THE GIVEN ROWS OF THIS SEAT. 10 by the template 'for every input the law returns true; each argument reads behind the call as it read before'; 0 by the template 'total and deterministic' (their statements: YtcpbaagnjofjfaaTotals.lean).
  GIVEN WITH THE SEED: the statements are not yours to turn. If you find one false, say at which input.
  Laid BY PROGRAM, IN A SANDBOX (cutbox-rows.mjs): the forced cells as the released guide's own fill.sh prints them over the translation 77174a2304d5870f… (all of the seat's roots in one cut). By AI agents, Wed Nov 11 2026. No macro, syntax, notation, axiom, sorry.
-/
import Derived.Test.YtcpbaagnjofjfaaChecked
import GoSem.Claim
import GoSem.ClaimJoined
import GoSem.ClaimMapViews
import Derived.JoinedTies
import Derived.KernelRfl
namespace Go.Proofs.Ytcpbaagnjofjfaa
/- THE CELL 'sum', in the pinned program and in every row, IS THE sha256 OF THE DUMP (.gsa) THAT YtcpbaagnjofjfaaProg.lean LOADS. Nothing in Lean hashes anything: it is a label: what it is worth is what the hold of that sum in a sandbox is worth. -/
noncomputable def Try.pinned : Pinned := { name := "ytcpbaagnjofjfaa", sum := "77174a2304d5870fa9d02a0c9ba6206cf44771b2c447cb402e245f064db7261e", checked := Try.checked }
namespace Rows
def none {H : Type} : Left H := { results := [], args := [] }

/-- 'laws.FnReconstruct': WHATEVER THE INPUT: true; the input reads as it did. -/
def fnReconstructSpec : ChangeSpec := { name := "fnReconstruct", fn := fun _ => fun
  | [d] => { results := [.lit (.bool true)], args := [d] }
  | _ => none }
def fnReconstructRow : OpenClaim := { program := "ytcpbaagnjofjfaa", sum := "77174a2304d5870fa9d02a0c9ba6206cf44771b2c447cb402e245f064db7261e", func := "loop.example/g03411/laws.FnReconstruct", spec := "fnReconstruct", apart := false }
def FnReconstructSaid : Prop := fnReconstructRow.holds Try.pinned (OpenSpec.ofChange fnReconstructSpec)

/-- ITS FALSE NEIGHBOUR: 'it returns false'. Refute it at one input. -/
def fnReconstructWrong : ChangeSpec := { name := "fnReconstruct", fn := fun _ => fun
  | [d] => { results := [.lit (.bool false)], args := [d] }
  | _ => none }
def FnReconstructWrongFalsely : Prop := fnReconstructRow.holds Try.pinned (OpenSpec.ofChange fnReconstructWrong)

/-- 'laws.FnChinese': WHATEVER THE INPUT: true; the input reads as it did. -/
def fnChineseSpec : ChangeSpec := { name := "fnChinese", fn := fun _ => fun
  | [d] => { results := [.lit (.bool true)], args := [d] }
  | _ => none }
def fnChineseRow : OpenClaim := { program := "ytcpbaagnjofjfaa", sum := "77174a2304d5870fa9d02a0c9ba6206cf44771b2c447cb402e245f064db7261e", func := "loop.example/g03411/laws.FnChinese", spec := "fnChinese", apart := false }
def FnChineseSaid : Prop := fnChineseRow.holds Try.pinned (OpenSpec.ofChange fnChineseSpec)

/-- ITS FALSE NEIGHBOUR: 'it returns false'. Refute it at one input. -/
def fnChineseWrong : ChangeSpec := { name := "fnChinese", fn := fun _ => fun
  | [d] => { results := [.lit (.bool false)], args := [d] }
  | _ => none }
def FnChineseWrongFalsely : Prop := fnChineseRow.holds Try.pinned (OpenSpec.ofChange fnChineseWrong)

/-- 'laws.FnExactSmithForm': WHATEVER THE INPUT: true; the input reads as it did. -/
def fnExactSmithFormSpec : ChangeSpec := { name := "fnExactSmithForm", fn := fun _ => fun
  | [d] => { results := [.lit (.bool true)], args := [d] }
  | _ => none }
def fnExactSmithFormRow : OpenClaim := { program := "ytcpbaagnjofjfaa", sum := "77174a2304d5870fa9d02a0c9ba6206cf44771b2c447cb402e245f064db7261e", func := "loop.example/g03411/laws.FnExactSmithForm", spec := "fnExactSmithForm", apart := false }
def FnExactSmithFormSaid : Prop := fnExactSmithFormRow.holds Try.pinned (OpenSpec.ofChange fnExactSmithFormSpec)

/-- ITS FALSE NEIGHBOUR: 'it returns false'. Refute it at one input. -/
def fnExactSmithFormWrong : ChangeSpec := { name := "fnExactSmithForm", fn := fun _ => fun
  | [d] => { results := [.lit (.bool false)], args := [d] }
  | _ => none }
def FnExactSmithFormWrongFalsely : Prop := fnExactSmithFormRow.holds Try.pinned (OpenSpec.ofChange fnExactSmithFormWrong)

/-- 'laws.FnExactFactorsOf': WHATEVER THE INPUT: true; the input reads as it did. -/
def fnExactFactorsOfSpec : ChangeSpec := { name := "fnExactFactorsOf", fn := fun _ => fun
  | [d] => { results := [.lit (.bool true)], args := [d] }
  | _ => none }
def fnExactFactorsOfRow : OpenClaim := { program := "ytcpbaagnjofjfaa", sum := "77174a2304d5870fa9d02a0c9ba6206cf44771b2c447cb402e245f064db7261e", func := "loop.example/g03411/laws.FnExactFactorsOf", spec := "fnExactFactorsOf", apart := false }
def FnExactFactorsOfSaid : Prop := fnExactFactorsOfRow.holds Try.pinned (OpenSpec.ofChange fnExactFactorsOfSpec)

/-- ITS FALSE NEIGHBOUR: 'it returns false'. Refute it at one input. -/
def fnExactFactorsOfWrong : ChangeSpec := { name := "fnExactFactorsOf", fn := fun _ => fun
  | [d] => { results := [.lit (.bool false)], args := [d] }
  | _ => none }
def FnExactFactorsOfWrongFalsely : Prop := fnExactFactorsOfRow.holds Try.pinned (OpenSpec.ofChange fnExactFactorsOfWrong)

/-- 'laws.FnExactSolveInteger': WHATEVER THE INPUT: true; the input reads as it did. -/
def fnExactSolveIntegerSpec : ChangeSpec := { name := "fnExactSolveInteger", fn := fun _ => fun
  | [d1, d2] => { results := [.lit (.bool true)], args := [d1, d2] }
  | _ => none }
def fnExactSolveIntegerRow : OpenClaim := { program := "ytcpbaagnjofjfaa", sum := "77174a2304d5870fa9d02a0c9ba6206cf44771b2c447cb402e245f064db7261e", func := "loop.example/g03411/laws.FnExactSolveInteger", spec := "fnExactSolveInteger", apart := false }
def FnExactSolveIntegerSaid : Prop := fnExactSolveIntegerRow.holds Try.pinned (OpenSpec.ofChange fnExactSolveIntegerSpec)

/-- ITS FALSE NEIGHBOUR: 'it returns false'. Refute it at one input. -/
def fnExactSolveIntegerWrong : ChangeSpec := { name := "fnExactSolveInteger", fn := fun _ => fun
  | [d1, d2] => { results := [.lit (.bool false)], args := [d1, d2] }
  | _ => none }
def FnExactSolveIntegerWrongFalsely : Prop := fnExactSolveIntegerRow.holds Try.pinned (OpenSpec.ofChange fnExactSolveIntegerWrong)

/-- 'laws.FnExactRefuteInteger': WHATEVER THE INPUT: true; the input reads as it did. -/
def fnExactRefuteIntegerSpec : ChangeSpec := { name := "fnExactRefuteInteger", fn := fun _ => fun
  | [d1, d2] => { results := [.lit (.bool true)], args := [d1, d2] }
  | _ => none }
def fnExactRefuteIntegerRow : OpenClaim := { program := "ytcpbaagnjofjfaa", sum := "77174a2304d5870fa9d02a0c9ba6206cf44771b2c447cb402e245f064db7261e", func := "loop.example/g03411/laws.FnExactRefuteInteger", spec := "fnExactRefuteInteger", apart := false }
def FnExactRefuteIntegerSaid : Prop := fnExactRefuteIntegerRow.holds Try.pinned (OpenSpec.ofChange fnExactRefuteIntegerSpec)

/-- ITS FALSE NEIGHBOUR: 'it returns false'. Refute it at one input. -/
def fnExactRefuteIntegerWrong : ChangeSpec := { name := "fnExactRefuteInteger", fn := fun _ => fun
  | [d1, d2] => { results := [.lit (.bool false)], args := [d1, d2] }
  | _ => none }
def FnExactRefuteIntegerWrongFalsely : Prop := fnExactRefuteIntegerRow.holds Try.pinned (OpenSpec.ofChange fnExactRefuteIntegerWrong)

/-- 'laws.FnDiophantine': WHATEVER THE INPUT: true; the input reads as it did. -/
def fnDiophantineSpec : ChangeSpec := { name := "fnDiophantine", fn := fun _ => fun
  | [d] => { results := [.lit (.bool true)], args := [d] }
  | _ => none }
def fnDiophantineRow : OpenClaim := { program := "ytcpbaagnjofjfaa", sum := "77174a2304d5870fa9d02a0c9ba6206cf44771b2c447cb402e245f064db7261e", func := "loop.example/g03411/laws.FnDiophantine", spec := "fnDiophantine", apart := false }
def FnDiophantineSaid : Prop := fnDiophantineRow.holds Try.pinned (OpenSpec.ofChange fnDiophantineSpec)

/-- ITS FALSE NEIGHBOUR: 'it returns false'. Refute it at one input. -/
def fnDiophantineWrong : ChangeSpec := { name := "fnDiophantine", fn := fun _ => fun
  | [d] => { results := [.lit (.bool false)], args := [d] }
  | _ => none }
def FnDiophantineWrongFalsely : Prop := fnDiophantineRow.holds Try.pinned (OpenSpec.ofChange fnDiophantineWrong)

/-- 'laws.FnRefutations': WHATEVER THE INPUT: true; the input reads as it did. -/
def fnRefutationsSpec : ChangeSpec := { name := "fnRefutations", fn := fun _ => fun
  | [d] => { results := [.lit (.bool true)], args := [d] }
  | _ => none }
def fnRefutationsRow : OpenClaim := { program := "ytcpbaagnjofjfaa", sum := "77174a2304d5870fa9d02a0c9ba6206cf44771b2c447cb402e245f064db7261e", func := "loop.example/g03411/laws.FnRefutations", spec := "fnRefutations", apart := false }
def FnRefutationsSaid : Prop := fnRefutationsRow.holds Try.pinned (OpenSpec.ofChange fnRefutationsSpec)

/-- ITS FALSE NEIGHBOUR: 'it returns false'. Refute it at one input. -/
def fnRefutationsWrong : ChangeSpec := { name := "fnRefutations", fn := fun _ => fun
  | [d] => { results := [.lit (.bool false)], args := [d] }
  | _ => none }
def FnRefutationsWrongFalsely : Prop := fnRefutationsRow.holds Try.pinned (OpenSpec.ofChange fnRefutationsWrong)

/-- 'laws.FnExactDeterminantByImages': WHATEVER THE INPUT: true; the input reads as it did. -/
def fnExactDeterminantByImagesSpec : ChangeSpec := { name := "fnExactDeterminantByImages", fn := fun _ => fun
  | [d] => { results := [.lit (.bool true)], args := [d] }
  | _ => none }
def fnExactDeterminantByImagesRow : OpenClaim := { program := "ytcpbaagnjofjfaa", sum := "77174a2304d5870fa9d02a0c9ba6206cf44771b2c447cb402e245f064db7261e", func := "loop.example/g03411/laws.FnExactDeterminantByImages", spec := "fnExactDeterminantByImages", apart := false }
def FnExactDeterminantByImagesSaid : Prop := fnExactDeterminantByImagesRow.holds Try.pinned (OpenSpec.ofChange fnExactDeterminantByImagesSpec)

/-- ITS FALSE NEIGHBOUR: 'it returns false'. Refute it at one input. -/
def fnExactDeterminantByImagesWrong : ChangeSpec := { name := "fnExactDeterminantByImages", fn := fun _ => fun
  | [d] => { results := [.lit (.bool false)], args := [d] }
  | _ => none }
def FnExactDeterminantByImagesWrongFalsely : Prop := fnExactDeterminantByImagesRow.holds Try.pinned (OpenSpec.ofChange fnExactDeterminantByImagesWrong)

/-- 'laws.FnExactSolveByLifting': WHATEVER THE INPUT: true; the input reads as it did. -/
def fnExactSolveByLiftingSpec : ChangeSpec := { name := "fnExactSolveByLifting", fn := fun _ => fun
  | [d1, d2] => { results := [.lit (.bool true)], args := [d1, d2] }
  | _ => none }
def fnExactSolveByLiftingRow : OpenClaim := { program := "ytcpbaagnjofjfaa", sum := "77174a2304d5870fa9d02a0c9ba6206cf44771b2c447cb402e245f064db7261e", func := "loop.example/g03411/laws.FnExactSolveByLifting", spec := "fnExactSolveByLifting", apart := false }
def FnExactSolveByLiftingSaid : Prop := fnExactSolveByLiftingRow.holds Try.pinned (OpenSpec.ofChange fnExactSolveByLiftingSpec)

/-- ITS FALSE NEIGHBOUR: 'it returns false'. Refute it at one input. -/
def fnExactSolveByLiftingWrong : ChangeSpec := { name := "fnExactSolveByLifting", fn := fun _ => fun
  | [d1, d2] => { results := [.lit (.bool false)], args := [d1, d2] }
  | _ => none }
def FnExactSolveByLiftingWrongFalsely : Prop := fnExactSolveByLiftingRow.holds Try.pinned (OpenSpec.ofChange fnExactSolveByLiftingWrong)

/- THE SECOND FORM. 'bulk': how many values and letters a reading holds, each counted each time it is reached (what is shared counts as often as it is met; a slice's spare places count too). A statement '..UptoSaid' is the law's where the arguments, and the package variables that the reading takes, are together of bulk at most 1048576: NARROWER than '..Said'. Prove '..Said' where nothing that the law and all that it calls make is longer than what came in: it says more and counts as full. Else prove '..UptoSaid'. A law counts once. -/
mutual
def uptoBulk {H : Type} : DataW H → Nat
  | .lit (.string bytes) => bytes.length + 1
  | .lit _ => 1
  | .nil => 1
  | .ptr d => uptoBulk d + 1
  | .slice elems spare => uptoBulkAll elems + uptoBulkAll spare + 1
  | .agg parts => uptoBulkAll parts + 1
  | .iface _ d => uptoBulk d + 1
  | .map entries => uptoBulkEntries entries + 1
  | .held _ => 1
def uptoBulkAll {H : Type} : List (DataW H) → Nat
  | [] => 0
  | d :: r => uptoBulk d + uptoBulkAll r
def uptoBulkEntries {H : Type} : List (Lit × DataW H) → Nat
  | [] => 0
  | x :: r => uptoBulkEntry x + uptoBulkEntries r
def uptoBulkEntry {H : Type} : Lit × DataW H → Nat
  | (.string bytes, d) => bytes.length + uptoBulk d + 1
  | (_, d) => uptoBulk d + 1
 end
def uptoSmall : (H : Type) → List (DataW H) → Bool := fun _ ds => decide (uptoBulkAll ds ≤ 1048576)
def OpenSpec.upto (s : _root_.Go.ChangeSpec) : _root_.Go.OpenSpec := { _root_.Go.OpenSpec.ofChange s with cond := some uptoSmall }

/-- 'laws.FnReconstruct', WHERE WHAT IT READS IS OF BULK AT MOST 1048576: true; the input reads as it did. -/
def fnReconstructUptoRow : OpenClaim := { program := "ytcpbaagnjofjfaa", sum := "77174a2304d5870fa9d02a0c9ba6206cf44771b2c447cb402e245f064db7261e", func := "loop.example/g03411/laws.FnReconstruct", spec := "fnReconstruct", apart := false, narrowed := true }
def FnReconstructUptoSaid : Prop := fnReconstructUptoRow.holds Try.pinned (OpenSpec.upto fnReconstructSpec)

/-- 'laws.FnChinese', WHERE WHAT IT READS IS OF BULK AT MOST 1048576: true; the input reads as it did. -/
def fnChineseUptoRow : OpenClaim := { program := "ytcpbaagnjofjfaa", sum := "77174a2304d5870fa9d02a0c9ba6206cf44771b2c447cb402e245f064db7261e", func := "loop.example/g03411/laws.FnChinese", spec := "fnChinese", apart := false, narrowed := true }
def FnChineseUptoSaid : Prop := fnChineseUptoRow.holds Try.pinned (OpenSpec.upto fnChineseSpec)

/-- 'laws.FnExactSmithForm', WHERE WHAT IT READS IS OF BULK AT MOST 1048576: true; the input reads as it did. -/
def fnExactSmithFormUptoRow : OpenClaim := { program := "ytcpbaagnjofjfaa", sum := "77174a2304d5870fa9d02a0c9ba6206cf44771b2c447cb402e245f064db7261e", func := "loop.example/g03411/laws.FnExactSmithForm", spec := "fnExactSmithForm", apart := false, narrowed := true }
def FnExactSmithFormUptoSaid : Prop := fnExactSmithFormUptoRow.holds Try.pinned (OpenSpec.upto fnExactSmithFormSpec)

/-- 'laws.FnExactFactorsOf', WHERE WHAT IT READS IS OF BULK AT MOST 1048576: true; the input reads as it did. -/
def fnExactFactorsOfUptoRow : OpenClaim := { program := "ytcpbaagnjofjfaa", sum := "77174a2304d5870fa9d02a0c9ba6206cf44771b2c447cb402e245f064db7261e", func := "loop.example/g03411/laws.FnExactFactorsOf", spec := "fnExactFactorsOf", apart := false, narrowed := true }
def FnExactFactorsOfUptoSaid : Prop := fnExactFactorsOfUptoRow.holds Try.pinned (OpenSpec.upto fnExactFactorsOfSpec)

/-- 'laws.FnExactSolveInteger', WHERE WHAT IT READS IS OF BULK AT MOST 1048576: true; the input reads as it did. -/
def fnExactSolveIntegerUptoRow : OpenClaim := { program := "ytcpbaagnjofjfaa", sum := "77174a2304d5870fa9d02a0c9ba6206cf44771b2c447cb402e245f064db7261e", func := "loop.example/g03411/laws.FnExactSolveInteger", spec := "fnExactSolveInteger", apart := false, narrowed := true }
def FnExactSolveIntegerUptoSaid : Prop := fnExactSolveIntegerUptoRow.holds Try.pinned (OpenSpec.upto fnExactSolveIntegerSpec)

/-- 'laws.FnExactRefuteInteger', WHERE WHAT IT READS IS OF BULK AT MOST 1048576: true; the input reads as it did. -/
def fnExactRefuteIntegerUptoRow : OpenClaim := { program := "ytcpbaagnjofjfaa", sum := "77174a2304d5870fa9d02a0c9ba6206cf44771b2c447cb402e245f064db7261e", func := "loop.example/g03411/laws.FnExactRefuteInteger", spec := "fnExactRefuteInteger", apart := false, narrowed := true }
def FnExactRefuteIntegerUptoSaid : Prop := fnExactRefuteIntegerUptoRow.holds Try.pinned (OpenSpec.upto fnExactRefuteIntegerSpec)

/-- 'laws.FnDiophantine', WHERE WHAT IT READS IS OF BULK AT MOST 1048576: true; the input reads as it did. -/
def fnDiophantineUptoRow : OpenClaim := { program := "ytcpbaagnjofjfaa", sum := "77174a2304d5870fa9d02a0c9ba6206cf44771b2c447cb402e245f064db7261e", func := "loop.example/g03411/laws.FnDiophantine", spec := "fnDiophantine", apart := false, narrowed := true }
def FnDiophantineUptoSaid : Prop := fnDiophantineUptoRow.holds Try.pinned (OpenSpec.upto fnDiophantineSpec)

/-- 'laws.FnRefutations', WHERE WHAT IT READS IS OF BULK AT MOST 1048576: true; the input reads as it did. -/
def fnRefutationsUptoRow : OpenClaim := { program := "ytcpbaagnjofjfaa", sum := "77174a2304d5870fa9d02a0c9ba6206cf44771b2c447cb402e245f064db7261e", func := "loop.example/g03411/laws.FnRefutations", spec := "fnRefutations", apart := false, narrowed := true }
def FnRefutationsUptoSaid : Prop := fnRefutationsUptoRow.holds Try.pinned (OpenSpec.upto fnRefutationsSpec)

/-- 'laws.FnExactDeterminantByImages', WHERE WHAT IT READS IS OF BULK AT MOST 1048576: true; the input reads as it did. -/
def fnExactDeterminantByImagesUptoRow : OpenClaim := { program := "ytcpbaagnjofjfaa", sum := "77174a2304d5870fa9d02a0c9ba6206cf44771b2c447cb402e245f064db7261e", func := "loop.example/g03411/laws.FnExactDeterminantByImages", spec := "fnExactDeterminantByImages", apart := false, narrowed := true }
def FnExactDeterminantByImagesUptoSaid : Prop := fnExactDeterminantByImagesUptoRow.holds Try.pinned (OpenSpec.upto fnExactDeterminantByImagesSpec)

/-- 'laws.FnExactSolveByLifting', WHERE WHAT IT READS IS OF BULK AT MOST 1048576: true; the input reads as it did. -/
def fnExactSolveByLiftingUptoRow : OpenClaim := { program := "ytcpbaagnjofjfaa", sum := "77174a2304d5870fa9d02a0c9ba6206cf44771b2c447cb402e245f064db7261e", func := "loop.example/g03411/laws.FnExactSolveByLifting", spec := "fnExactSolveByLifting", apart := false, narrowed := true }
def FnExactSolveByLiftingUptoSaid : Prop := fnExactSolveByLiftingUptoRow.holds Try.pinned (OpenSpec.upto fnExactSolveByLiftingSpec)

end Rows
end Go.Proofs.Ytcpbaagnjofjfaa

/-
  No cell of these rows narrows 'for every input' (looked for: loops, veiled, ifaces, maps, wideKeys, modest, calm, conditions, laid).
  DERIVED. THE GIVEN ROWS OF THIS SEAT. 12 by the template 'for every input the law returns true; each argument reads behind the call as it read before'; 0 by the template 'total and deterministic' (their statements: YtdnooamnjkibgaaTotals.lean).
  GIVEN WITH THE SEED: the statements are not yours to turn. If you find one false, say at which input.
  Laid BY PROGRAM, IN A SANDBOX (cutbox-rows.mjs): the forced cells as the released guide's own fill.sh prints them over the translation 90a1fa9f42a63e75… (all of the seat's roots in one cut). By AI agents, Wed Nov 11 2026. No macro, syntax, notation, axiom, sorry.
-/
import Derived.Test.YtdnooamnjkibgaaChecked
import GoSem.Claim
import GoSem.ClaimJoined
import GoSem.ClaimMapViews
import Derived.JoinedTies
import Derived.KernelRfl
namespace Go.Proofs.Ytdnooamnjkibgaa
/- THE CELL 'sum', in the pinned program and in every row, IS THE sha256 OF THE DUMP (.gsa) THAT YtdnooamnjkibgaaProg.lean LOADS. Nothing in Lean hashes anything: it is a label: what it is worth is what the hold of that sum in a sandbox is worth. -/
noncomputable def Try.pinned : Pinned := { name := "ytdnooamnjkibgaa", sum := "90a1fa9f42a63e75819670253d2b8862226e306087903fbcd9027df726ebe5e6", checked := Try.checked }
namespace Rows
def none {H : Type} : Left H := { results := [], args := [] }

/-- 'laws.FnExactIsPrime': WHATEVER THE INPUT: true; the input reads as it did. -/
def fnExactIsPrimeSpec : ChangeSpec := { name := "fnExactIsPrime", fn := fun _ => fun
  | [d] => { results := [.lit (.bool true)], args := [d] }
  | _ => none }
def fnExactIsPrimeRow : OpenClaim := { program := "ytdnooamnjkibgaa", sum := "90a1fa9f42a63e75819670253d2b8862226e306087903fbcd9027df726ebe5e6", func := "loop.example/g03411/laws.FnExactIsPrime", spec := "fnExactIsPrime", apart := false }
def FnExactIsPrimeSaid : Prop := fnExactIsPrimeRow.holds Try.pinned (OpenSpec.ofChange fnExactIsPrimeSpec)

/-- ITS FALSE NEIGHBOUR: 'it returns false'. Refute it at one input. -/
def fnExactIsPrimeWrong : ChangeSpec := { name := "fnExactIsPrime", fn := fun _ => fun
  | [d] => { results := [.lit (.bool false)], args := [d] }
  | _ => none }
def FnExactIsPrimeWrongFalsely : Prop := fnExactIsPrimeRow.holds Try.pinned (OpenSpec.ofChange fnExactIsPrimeWrong)

/-- 'laws.FnExactSymmetricOf': WHATEVER THE INPUT: true; the input reads as it did. -/
def fnExactSymmetricOfSpec : ChangeSpec := { name := "fnExactSymmetricOf", fn := fun _ => fun
  | [d1, d2] => { results := [.lit (.bool true)], args := [d1, d2] }
  | _ => none }
def fnExactSymmetricOfRow : OpenClaim := { program := "ytdnooamnjkibgaa", sum := "90a1fa9f42a63e75819670253d2b8862226e306087903fbcd9027df726ebe5e6", func := "loop.example/g03411/laws.FnExactSymmetricOf", spec := "fnExactSymmetricOf", apart := false }
def FnExactSymmetricOfSaid : Prop := fnExactSymmetricOfRow.holds Try.pinned (OpenSpec.ofChange fnExactSymmetricOfSpec)

/-- ITS FALSE NEIGHBOUR: 'it returns false'. Refute it at one input. -/
def fnExactSymmetricOfWrong : ChangeSpec := { name := "fnExactSymmetricOf", fn := fun _ => fun
  | [d1, d2] => { results := [.lit (.bool false)], args := [d1, d2] }
  | _ => none }
def FnExactSymmetricOfWrongFalsely : Prop := fnExactSymmetricOfRow.holds Try.pinned (OpenSpec.ofChange fnExactSymmetricOfWrong)

/-- 'laws.FnExactIsImage': WHATEVER THE INPUT: true; the input reads as it did. -/
def fnExactIsImageSpec : ChangeSpec := { name := "fnExactIsImage", fn := fun _ => fun
  | [d1, d2, d3] => { results := [.lit (.bool true)], args := [d1, d2, d3] }
  | _ => none }
def fnExactIsImageRow : OpenClaim := { program := "ytdnooamnjkibgaa", sum := "90a1fa9f42a63e75819670253d2b8862226e306087903fbcd9027df726ebe5e6", func := "loop.example/g03411/laws.FnExactIsImage", spec := "fnExactIsImage", apart := false }
def FnExactIsImageSaid : Prop := fnExactIsImageRow.holds Try.pinned (OpenSpec.ofChange fnExactIsImageSpec)

/-- ITS FALSE NEIGHBOUR: 'it returns false'. Refute it at one input. -/
def fnExactIsImageWrong : ChangeSpec := { name := "fnExactIsImage", fn := fun _ => fun
  | [d1, d2, d3] => { results := [.lit (.bool false)], args := [d1, d2, d3] }
  | _ => none }
def FnExactIsImageWrongFalsely : Prop := fnExactIsImageRow.holds Try.pinned (OpenSpec.ofChange fnExactIsImageWrong)

/-- 'laws.FnExactAreModuli': WHATEVER THE INPUT: true; the input reads as it did. -/
def fnExactAreModuliSpec : ChangeSpec := { name := "fnExactAreModuli", fn := fun _ => fun
  | [d] => { results := [.lit (.bool true)], args := [d] }
  | _ => none }
def fnExactAreModuliRow : OpenClaim := { program := "ytdnooamnjkibgaa", sum := "90a1fa9f42a63e75819670253d2b8862226e306087903fbcd9027df726ebe5e6", func := "loop.example/g03411/laws.FnExactAreModuli", spec := "fnExactAreModuli", apart := false }
def FnExactAreModuliSaid : Prop := fnExactAreModuliRow.holds Try.pinned (OpenSpec.ofChange fnExactAreModuliSpec)

/-- ITS FALSE NEIGHBOUR: 'it returns false'. Refute it at one input. -/
def fnExactAreModuliWrong : ChangeSpec := { name := "fnExactAreModuli", fn := fun _ => fun
  | [d] => { results := [.lit (.bool false)], args := [d] }
  | _ => none }
def FnExactAreModuliWrongFalsely : Prop := fnExactAreModuliRow.holds Try.pinned (OpenSpec.ofChange fnExactAreModuliWrong)

/-- 'laws.FnExactInverseModulo': WHATEVER THE INPUT: true; the input reads as it did. -/
def fnExactInverseModuloSpec : ChangeSpec := { name := "fnExactInverseModulo", fn := fun _ => fun
  | [d1, d2] => { results := [.lit (.bool true)], args := [d1, d2] }
  | _ => none }
def fnExactInverseModuloRow : OpenClaim := { program := "ytdnooamnjkibgaa", sum := "90a1fa9f42a63e75819670253d2b8862226e306087903fbcd9027df726ebe5e6", func := "loop.example/g03411/laws.FnExactInverseModulo", spec := "fnExactInverseModulo", apart := false }
def FnExactInverseModuloSaid : Prop := fnExactInverseModuloRow.holds Try.pinned (OpenSpec.ofChange fnExactInverseModuloSpec)

/-- ITS FALSE NEIGHBOUR: 'it returns false'. Refute it at one input. -/
def fnExactInverseModuloWrong : ChangeSpec := { name := "fnExactInverseModulo", fn := fun _ => fun
  | [d1, d2] => { results := [.lit (.bool false)], args := [d1, d2] }
  | _ => none }
def FnExactInverseModuloWrongFalsely : Prop := fnExactInverseModuloRow.holds Try.pinned (OpenSpec.ofChange fnExactInverseModuloWrong)

/-- 'laws.FnExactRatioFrom': WHATEVER THE INPUT: true; the input reads as it did. -/
def fnExactRatioFromSpec : ChangeSpec := { name := "fnExactRatioFrom", fn := fun _ => fun
  | [d1, d2, d3] => { results := [.lit (.bool true)], args := [d1, d2, d3] }
  | _ => none }
def fnExactRatioFromRow : OpenClaim := { program := "ytdnooamnjkibgaa", sum := "90a1fa9f42a63e75819670253d2b8862226e306087903fbcd9027df726ebe5e6", func := "loop.example/g03411/laws.FnExactRatioFrom", spec := "fnExactRatioFrom", apart := false }
def FnExactRatioFromSaid : Prop := fnExactRatioFromRow.holds Try.pinned (OpenSpec.ofChange fnExactRatioFromSpec)

/-- ITS FALSE NEIGHBOUR: 'it returns false'. Refute it at one input. -/
def fnExactRatioFromWrong : ChangeSpec := { name := "fnExactRatioFrom", fn := fun _ => fun
  | [d1, d2, d3] => { results := [.lit (.bool false)], args := [d1, d2, d3] }
  | _ => none }
def FnExactRatioFromWrongFalsely : Prop := fnExactRatioFromRow.holds Try.pinned (OpenSpec.ofChange fnExactRatioFromWrong)

/-- 'laws.FnExactResidueOf': WHATEVER THE INPUT: true; the input reads as it did. -/
def fnExactResidueOfSpec : ChangeSpec := { name := "fnExactResidueOf", fn := fun _ => fun
  | [d1, d2] => { results := [.lit (.bool true)], args := [d1, d2] }
  | _ => none }
def fnExactResidueOfRow : OpenClaim := { program := "ytdnooamnjkibgaa", sum := "90a1fa9f42a63e75819670253d2b8862226e306087903fbcd9027df726ebe5e6", func := "loop.example/g03411/laws.FnExactResidueOf", spec := "fnExactResidueOf", apart := false }
def FnExactResidueOfSaid : Prop := fnExactResidueOfRow.holds Try.pinned (OpenSpec.ofChange fnExactResidueOfSpec)

/-- ITS FALSE NEIGHBOUR: 'it returns false'. Refute it at one input. -/
def fnExactResidueOfWrong : ChangeSpec := { name := "fnExactResidueOf", fn := fun _ => fun
  | [d1, d2] => { results := [.lit (.bool false)], args := [d1, d2] }
  | _ => none }
def FnExactResidueOfWrongFalsely : Prop := fnExactResidueOfRow.holds Try.pinned (OpenSpec.ofChange fnExactResidueOfWrong)

/-- 'laws.FnExactIsSmith': WHATEVER THE INPUT: true; the input reads as it did. -/
def fnExactIsSmithSpec : ChangeSpec := { name := "fnExactIsSmith", fn := fun _ => fun
  | [d] => { results := [.lit (.bool true)], args := [d] }
  | _ => none }
def fnExactIsSmithRow : OpenClaim := { program := "ytdnooamnjkibgaa", sum := "90a1fa9f42a63e75819670253d2b8862226e306087903fbcd9027df726ebe5e6", func := "loop.example/g03411/laws.FnExactIsSmith", spec := "fnExactIsSmith", apart := false }
def FnExactIsSmithSaid : Prop := fnExactIsSmithRow.holds Try.pinned (OpenSpec.ofChange fnExactIsSmithSpec)

/-- ITS FALSE NEIGHBOUR: 'it returns false'. Refute it at one input. -/
def fnExactIsSmithWrong : ChangeSpec := { name := "fnExactIsSmith", fn := fun _ => fun
  | [d] => { results := [.lit (.bool false)], args := [d] }
  | _ => none }
def FnExactIsSmithWrongFalsely : Prop := fnExactIsSmithRow.holds Try.pinned (OpenSpec.ofChange fnExactIsSmithWrong)

/-- 'laws.FnExactIsHermite': WHATEVER THE INPUT: true; the input reads as it did. -/
def fnExactIsHermiteSpec : ChangeSpec := { name := "fnExactIsHermite", fn := fun _ => fun
  | [d] => { results := [.lit (.bool true)], args := [d] }
  | _ => none }
def fnExactIsHermiteRow : OpenClaim := { program := "ytdnooamnjkibgaa", sum := "90a1fa9f42a63e75819670253d2b8862226e306087903fbcd9027df726ebe5e6", func := "loop.example/g03411/laws.FnExactIsHermite", spec := "fnExactIsHermite", unfollowed := true, recurses := true, apart := false }
def FnExactIsHermiteSaid : Prop := fnExactIsHermiteRow.holds Try.pinned (OpenSpec.ofChange fnExactIsHermiteSpec)

/-- ITS FALSE NEIGHBOUR: 'it returns false'. Refute it at one input. -/
def fnExactIsHermiteWrong : ChangeSpec := { name := "fnExactIsHermite", fn := fun _ => fun
  | [d] => { results := [.lit (.bool false)], args := [d] }
  | _ => none }
def FnExactIsHermiteWrongFalsely : Prop := fnExactIsHermiteRow.holds Try.pinned (OpenSpec.ofChange fnExactIsHermiteWrong)

/-- 'laws.FnExactRowBound': WHATEVER THE INPUT: true; the input reads as it did. -/
def fnExactRowBoundSpec : ChangeSpec := { name := "fnExactRowBound", fn := fun _ => fun
  | [d] => { results := [.lit (.bool true)], args := [d] }
  | _ => none }
def fnExactRowBoundRow : OpenClaim := { program := "ytdnooamnjkibgaa", sum := "90a1fa9f42a63e75819670253d2b8862226e306087903fbcd9027df726ebe5e6", func := "loop.example/g03411/laws.FnExactRowBound", spec := "fnExactRowBound", apart := false }
def FnExactRowBoundSaid : Prop := fnExactRowBoundRow.holds Try.pinned (OpenSpec.ofChange fnExactRowBoundSpec)

/-- ITS FALSE NEIGHBOUR: 'it returns false'. Refute it at one input. -/
def fnExactRowBoundWrong : ChangeSpec := { name := "fnExactRowBound", fn := fun _ => fun
  | [d] => { results := [.lit (.bool false)], args := [d] }
  | _ => none }
def FnExactRowBoundWrongFalsely : Prop := fnExactRowBoundRow.holds Try.pinned (OpenSpec.ofChange fnExactRowBoundWrong)

/-- 'laws.FnExactReduceMod': WHATEVER THE INPUT: true; the input reads as it did. -/
def fnExactReduceModSpec : ChangeSpec := { name := "fnExactReduceMod", fn := fun _ => fun
  | [d1, d2] => { results := [.lit (.bool true)], args := [d1, d2] }
  | _ => none }
def fnExactReduceModRow : OpenClaim := { program := "ytdnooamnjkibgaa", sum := "90a1fa9f42a63e75819670253d2b8862226e306087903fbcd9027df726ebe5e6", func := "loop.example/g03411/laws.FnExactReduceMod", spec := "fnExactReduceMod", apart := false }
def FnExactReduceModSaid : Prop := fnExactReduceModRow.holds Try.pinned (OpenSpec.ofChange fnExactReduceModSpec)

/-- ITS FALSE NEIGHBOUR: 'it returns false'. Refute it at one input. -/
def fnExactReduceModWrong : ChangeSpec := { name := "fnExactReduceMod", fn := fun _ => fun
  | [d1, d2] => { results := [.lit (.bool false)], args := [d1, d2] }
  | _ => none }
def FnExactReduceModWrongFalsely : Prop := fnExactReduceModRow.holds Try.pinned (OpenSpec.ofChange fnExactReduceModWrong)

/-- 'laws.FnExactIsLattice': WHATEVER THE INPUT: true; the input reads as it did. -/
def fnExactIsLatticeSpec : ChangeSpec := { name := "fnExactIsLattice", fn := fun _ => fun
  | [d] => { results := [.lit (.bool true)], args := [d] }
  | _ => none }
def fnExactIsLatticeRow : OpenClaim := { program := "ytdnooamnjkibgaa", sum := "90a1fa9f42a63e75819670253d2b8862226e306087903fbcd9027df726ebe5e6", func := "loop.example/g03411/laws.FnExactIsLattice", spec := "fnExactIsLattice", unfollowed := true, recurses := true, apart := false }
def FnExactIsLatticeSaid : Prop := fnExactIsLatticeRow.holds Try.pinned (OpenSpec.ofChange fnExactIsLatticeSpec)

/-- ITS FALSE NEIGHBOUR: 'it returns false'. Refute it at one input. -/
def fnExactIsLatticeWrong : ChangeSpec := { name := "fnExactIsLattice", fn := fun _ => fun
  | [d] => { results := [.lit (.bool false)], args := [d] }
  | _ => none }
def FnExactIsLatticeWrongFalsely : Prop := fnExactIsLatticeRow.holds Try.pinned (OpenSpec.ofChange fnExactIsLatticeWrong)

/- THE SECOND FORM. 'bulk': how many values and letters a reading holds, each counted each time it is reached (what is shared counts as often as it is met; a slice's spare places count too). A statement '..UptoSaid' is the law's where the arguments, and the package variables that the reading takes, are together of bulk at most 1048576: NARROWER than '..Said'. Prove '..Said' where nothing that the law and all that it calls make is longer than what came in: it says more and counts as full. Else prove '..UptoSaid'. A law counts once. -/
mutual
def uptoBulk {H : Type} : DataW H → Nat
  | .lit (.string bytes) => bytes.length + 1
  | .lit _ => 1
  | .nil => 1
  | .ptr d => uptoBulk d + 1
  | .slice elems spare => uptoBulkAll elems + uptoBulkAll spare + 1
  | .agg parts => uptoBulkAll parts + 1
  | .iface _ d => uptoBulk d + 1
  | .map entries => uptoBulkEntries entries + 1
  | .held _ => 1
def uptoBulkAll {H : Type} : List (DataW H) → Nat
  | [] => 0
  | d :: r => uptoBulk d + uptoBulkAll r
def uptoBulkEntries {H : Type} : List (Lit × DataW H) → Nat
  | [] => 0
  | x :: r => uptoBulkEntry x + uptoBulkEntries r
def uptoBulkEntry {H : Type} : Lit × DataW H → Nat
  | (.string bytes, d) => bytes.length + uptoBulk d + 1
  | (_, d) => uptoBulk d + 1
 end
def uptoSmall : (H : Type) → List (DataW H) → Bool := fun _ ds => decide (uptoBulkAll ds ≤ 1048576)
def OpenSpec.upto (s : _root_.Go.ChangeSpec) : _root_.Go.OpenSpec := { _root_.Go.OpenSpec.ofChange s with cond := some uptoSmall }

/-- 'laws.FnExactIsPrime', WHERE WHAT IT READS IS OF BULK AT MOST 1048576: true; the input reads as it did. -/
def fnExactIsPrimeUptoRow : OpenClaim := { program := "ytdnooamnjkibgaa", sum := "90a1fa9f42a63e75819670253d2b8862226e306087903fbcd9027df726ebe5e6", func := "loop.example/g03411/laws.FnExactIsPrime", spec := "fnExactIsPrime", apart := false, narrowed := true }
def FnExactIsPrimeUptoSaid : Prop := fnExactIsPrimeUptoRow.holds Try.pinned (OpenSpec.upto fnExactIsPrimeSpec)

/-- 'laws.FnExactSymmetricOf', WHERE WHAT IT READS IS OF BULK AT MOST 1048576: true; the input reads as it did. -/
def fnExactSymmetricOfUptoRow : OpenClaim := { program := "ytdnooamnjkibgaa", sum := "90a1fa9f42a63e75819670253d2b8862226e306087903fbcd9027df726ebe5e6", func := "loop.example/g03411/laws.FnExactSymmetricOf", spec := "fnExactSymmetricOf", apart := false, narrowed := true }
def FnExactSymmetricOfUptoSaid : Prop := fnExactSymmetricOfUptoRow.holds Try.pinned (OpenSpec.upto fnExactSymmetricOfSpec)

/-- 'laws.FnExactIsImage', WHERE WHAT IT READS IS OF BULK AT MOST 1048576: true; the input reads as it did. -/
def fnExactIsImageUptoRow : OpenClaim := { program := "ytdnooamnjkibgaa", sum := "90a1fa9f42a63e75819670253d2b8862226e306087903fbcd9027df726ebe5e6", func := "loop.example/g03411/laws.FnExactIsImage", spec := "fnExactIsImage", apart := false, narrowed := true }
def FnExactIsImageUptoSaid : Prop := fnExactIsImageUptoRow.holds Try.pinned (OpenSpec.upto fnExactIsImageSpec)

/-- 'laws.FnExactAreModuli', WHERE WHAT IT READS IS OF BULK AT MOST 1048576: true; the input reads as it did. -/
def fnExactAreModuliUptoRow : OpenClaim := { program := "ytdnooamnjkibgaa", sum := "90a1fa9f42a63e75819670253d2b8862226e306087903fbcd9027df726ebe5e6", func := "loop.example/g03411/laws.FnExactAreModuli", spec := "fnExactAreModuli", apart := false, narrowed := true }
def FnExactAreModuliUptoSaid : Prop := fnExactAreModuliUptoRow.holds Try.pinned (OpenSpec.upto fnExactAreModuliSpec)

/-- 'laws.FnExactInverseModulo', WHERE WHAT IT READS IS OF BULK AT MOST 1048576: true; the input reads as it did. -/
def fnExactInverseModuloUptoRow : OpenClaim := { program := "ytdnooamnjkibgaa", sum := "90a1fa9f42a63e75819670253d2b8862226e306087903fbcd9027df726ebe5e6", func := "loop.example/g03411/laws.FnExactInverseModulo", spec := "fnExactInverseModulo", apart := false, narrowed := true }
def FnExactInverseModuloUptoSaid : Prop := fnExactInverseModuloUptoRow.holds Try.pinned (OpenSpec.upto fnExactInverseModuloSpec)

/-- 'laws.FnExactRatioFrom', WHERE WHAT IT READS IS OF BULK AT MOST 1048576: true; the input reads as it did. -/
def fnExactRatioFromUptoRow : OpenClaim := { program := "ytdnooamnjkibgaa", sum := "90a1fa9f42a63e75819670253d2b8862226e306087903fbcd9027df726ebe5e6", func := "loop.example/g03411/laws.FnExactRatioFrom", spec := "fnExactRatioFrom", apart := false, narrowed := true }
def FnExactRatioFromUptoSaid : Prop := fnExactRatioFromUptoRow.holds Try.pinned (OpenSpec.upto fnExactRatioFromSpec)

/-- 'laws.FnExactResidueOf', WHERE WHAT IT READS IS OF BULK AT MOST 1048576: true; the input reads as it did. -/
def fnExactResidueOfUptoRow : OpenClaim := { program := "ytdnooamnjkibgaa", sum := "90a1fa9f42a63e75819670253d2b8862226e306087903fbcd9027df726ebe5e6", func := "loop.example/g03411/laws.FnExactResidueOf", spec := "fnExactResidueOf", apart := false, narrowed := true }
def FnExactResidueOfUptoSaid : Prop := fnExactResidueOfUptoRow.holds Try.pinned (OpenSpec.upto fnExactResidueOfSpec)

/-- 'laws.FnExactIsSmith', WHERE WHAT IT READS IS OF BULK AT MOST 1048576: true; the input reads as it did. -/
def fnExactIsSmithUptoRow : OpenClaim := { program := "ytdnooamnjkibgaa", sum := "90a1fa9f42a63e75819670253d2b8862226e306087903fbcd9027df726ebe5e6", func := "loop.example/g03411/laws.FnExactIsSmith", spec := "fnExactIsSmith", apart := false, narrowed := true }
def FnExactIsSmithUptoSaid : Prop := fnExactIsSmithUptoRow.holds Try.pinned (OpenSpec.upto fnExactIsSmithSpec)

/-- 'laws.FnExactIsHermite', WHERE WHAT IT READS IS OF BULK AT MOST 1048576: true; the input reads as it did. -/
def fnExactIsHermiteUptoRow : OpenClaim := { program := "ytdnooamnjkibgaa", sum := "90a1fa9f42a63e75819670253d2b8862226e306087903fbcd9027df726ebe5e6", func := "loop.example/g03411/laws.FnExactIsHermite", spec := "fnExactIsHermite", unfollowed := true, recurses := true, apart := false, narrowed := true }
def FnExactIsHermiteUptoSaid : Prop := fnExactIsHermiteUptoRow.holds Try.pinned (OpenSpec.upto fnExactIsHermiteSpec)

/-- 'laws.FnExactRowBound', WHERE WHAT IT READS IS OF BULK AT MOST 1048576: true; the input reads as it did. -/
def fnExactRowBoundUptoRow : OpenClaim := { program := "ytdnooamnjkibgaa", sum := "90a1fa9f42a63e75819670253d2b8862226e306087903fbcd9027df726ebe5e6", func := "loop.example/g03411/laws.FnExactRowBound", spec := "fnExactRowBound", apart := false, narrowed := true }
def FnExactRowBoundUptoSaid : Prop := fnExactRowBoundUptoRow.holds Try.pinned (OpenSpec.upto fnExactRowBoundSpec)

/-- 'laws.FnExactReduceMod', WHERE WHAT IT READS IS OF BULK AT MOST 1048576: true; the input reads as it did. -/
def fnExactReduceModUptoRow : OpenClaim := { program := "ytdnooamnjkibgaa", sum := "90a1fa9f42a63e75819670253d2b8862226e306087903fbcd9027df726ebe5e6", func := "loop.example/g03411/laws.FnExactReduceMod", spec := "fnExactReduceMod", apart := false, narrowed := true }
def FnExactReduceModUptoSaid : Prop := fnExactReduceModUptoRow.holds Try.pinned (OpenSpec.upto fnExactReduceModSpec)

/-- 'laws.FnExactIsLattice', WHERE WHAT IT READS IS OF BULK AT MOST 1048576: true; the input reads as it did. -/
def fnExactIsLatticeUptoRow : OpenClaim := { program := "ytdnooamnjkibgaa", sum := "90a1fa9f42a63e75819670253d2b8862226e306087903fbcd9027df726ebe5e6", func := "loop.example/g03411/laws.FnExactIsLattice", spec := "fnExactIsLattice", unfollowed := true, recurses := true, apart := false, narrowed := true }
def FnExactIsLatticeUptoSaid : Prop := fnExactIsLatticeUptoRow.holds Try.pinned (OpenSpec.upto fnExactIsLatticeSpec)

end Rows
end Go.Proofs.Ytdnooamnjkibgaa

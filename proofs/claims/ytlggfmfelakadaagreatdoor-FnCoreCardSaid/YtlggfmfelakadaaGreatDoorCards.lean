/-
  DERIVED. GIVEN WITH THE SEED: THE CARDS: each row of YtlggfmfelakadaaGreatDoorRows.lean that lists a variable, with what it lists TIED to the program's text (the seventh form; the later family's looks); each row that meets fmt, with fmt's text TOLD by the authors' own Lean function (tested against real Go, not proved from fmt's source: count such statements apart). THE CARD IS WHAT COUNTS. Prove the row's statement (the work); the ties are given (YtlggfmfelakadaaGreatDoorTie.lean); close each card by the builder's one call (the guide's Derived/Test/ToyasCard.lean, 'card_holds'). Laid BY PROGRAM, IN A SANDBOX (cutbox-door.mjs). By AI agents, Wed Nov 11 2026. No macro, syntax, notation, axiom, sorry.
-/
import Derived.Test.YtlggfmfelakadaaGreatDoorRows
import GoSem.ClaimSeven
namespace Go.Proofs.YtlggfmfelakadaaGreatDoor
namespace Rows

/-- THE TIED CARD OF 'laws.FnCore'. -/
def fnCoreCard : Claim7 := { stood := { row := fnCoreRow, standIns := [], harness := (true, "e2b5c089c132ea2dbae10b706851ca9f452281a9377f8221a40c5271c5e39abc"), looks := true }, kinds := [], alts := [], laidByText := true, laidKinds := [.data, .data, .data, .sentinel, .sentinel], laidTests := true, laidLooks := .later }
def FnCoreCardSaid : Prop := Claim7.holds Tryz.pinned (.plain (OpenSpec.ofChange fnCoreSpec)) fnCoreCard

/-- THE SECOND FORM's CARD OF 'laws.FnCore'. -/
def fnCoreUptoCard : Claim7 := { stood := { row := fnCoreUptoRow, standIns := [], harness := (true, "e2b5c089c132ea2dbae10b706851ca9f452281a9377f8221a40c5271c5e39abc"), looks := true }, kinds := [], alts := [], laidByText := true, laidKinds := [.data, .data, .data, .sentinel, .sentinel], laidTests := true, laidLooks := .later }
def FnCoreUptoCardSaid : Prop := Claim7.holds Tryz.pinned (.plain (OpenSpec.upto fnCoreSpec)) fnCoreUptoCard
end Rows
end Go.Proofs.YtlggfmfelakadaaGreatDoor

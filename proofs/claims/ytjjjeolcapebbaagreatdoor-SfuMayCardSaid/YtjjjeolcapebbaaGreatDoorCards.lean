/-
  DERIVED. GIVEN WITH THE SEED: THE CARDS: each row of YtjjjeolcapebbaaGreatDoorRows.lean that lists a variable, with what it lists TIED to the program's text (the seventh form; the later family's looks); each row that meets fmt, with fmt's text TOLD by the authors' own Lean function (tested against real Go, not proved from fmt's source: count such statements apart). THE CARD IS WHAT COUNTS. Prove the row's statement (the work); the ties are given (YtjjjeolcapebbaaGreatDoorTie.lean); close each card by the builder's one call (the guide's Derived/Test/ToyasCard.lean, 'card_holds'). Laid BY PROGRAM, IN A SANDBOX (cutbox-door.mjs). By AI agents, Wed Nov 11 2026. No macro, syntax, notation, axiom, sorry.
-/
import Derived.Test.YtjjjeolcapebbaaGreatDoorRows
import GoSem.ClaimSeven
namespace Go.Proofs.YtjjjeolcapebbaaGreatDoor
namespace Rows

/-- THE TIED CARD OF 'antiphonlaw26.SfuMay'. -/
def sfuMayCard : Claim7 := { stood := { row := sfuMayRow, standIns := [], harness := (true, "008b67cd0be7e839926329eb5a563424acc08343b5993efd3202ae71c22d2ae8"), looks := true }, kinds := [], alts := [], laidByText := true, laidKinds := [.data, .pinned, .pinned, .pinned], laidTests := true, laidLooks := .later }
def SfuMayCardSaid : Prop := Claim7.holds Tryz.pinned (.plain (OpenSpec.ofChange sfuMaySpec)) sfuMayCard

/-- THE SECOND FORM's CARD OF 'antiphonlaw26.SfuMay'. -/
def sfuMayUptoCard : Claim7 := { stood := { row := sfuMayUptoRow, standIns := [], harness := (true, "008b67cd0be7e839926329eb5a563424acc08343b5993efd3202ae71c22d2ae8"), looks := true }, kinds := [], alts := [], laidByText := true, laidKinds := [.data, .pinned, .pinned, .pinned], laidTests := true, laidLooks := .later }
def SfuMayUptoCardSaid : Prop := Claim7.holds Tryz.pinned (.plain (OpenSpec.upto sfuMaySpec)) sfuMayUptoCard
end Rows
end Go.Proofs.YtjjjeolcapebbaaGreatDoor

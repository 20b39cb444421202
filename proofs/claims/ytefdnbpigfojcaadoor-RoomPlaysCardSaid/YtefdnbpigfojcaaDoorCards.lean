/-
  DERIVED. GIVEN WITH THE SEED: THE CARDS: each row of YtefdnbpigfojcaaDoorRows.lean that lists a variable, with what it lists TIED to the program's text (the seventh form; the later family's looks); each row that meets fmt, with fmt's text TOLD by the authors' own Lean function (tested against real Go, not proved from fmt's source: count such statements apart). THE CARD IS WHAT COUNTS. Prove the row's statement (the work); the ties are given (YtefdnbpigfojcaaDoorTie.lean); close each card by the builder's one call (the guide's Derived/Test/ToyasCard.lean, 'card_holds'). Laid BY PROGRAM, IN A SANDBOX (cutbox-door.mjs). By AI agents, Wed Nov 11 2026. No macro, syntax, notation, axiom, sorry.
-/
import Derived.Test.YtefdnbpigfojcaaDoorRows
import GoSem.ClaimSeven
namespace Go.Proofs.YtefdnbpigfojcaaDoor
namespace Rows

/-- THE TIED CARD OF 'antiphonlaw12.RoomNames'. -/
def roomNamesCard : Claim7 := { stood := { row := roomNamesRow, standIns := [], harness := (true, "df7eeeab4871abc83cf85c7061ebafbe1301a98e8216f054d0753335a93b3ea8"), looks := false }, kinds := [], alts := [], laidByText := true, laidKinds := [.data, .pinned, .pinned, .pinned], laidTests := true, laidLooks := .later }
def RoomNamesCardSaid : Prop := Claim7.holds Tryd.pinned (.plain (OpenSpec.ofChange roomNamesSpec)) roomNamesCard

/-- THE TIED CARD OF 'antiphonlaw12.RoomTogether'. -/
def roomTogetherCard : Claim7 := { stood := { row := roomTogetherRow, standIns := [], harness := (true, "df7eeeab4871abc83cf85c7061ebafbe1301a98e8216f054d0753335a93b3ea8"), looks := false }, kinds := [], alts := [], laidByText := true, laidKinds := [.data, .pinned, .pinned, .pinned], laidTests := true, laidLooks := .later }
def RoomTogetherCardSaid : Prop := Claim7.holds Tryd.pinned (.plain (OpenSpec.ofChange roomTogetherSpec)) roomTogetherCard

/-- THE TIED CARD OF 'antiphonlaw12.RoomPlays'. -/
def roomPlaysCard : Claim7 := { stood := { row := roomPlaysRow, standIns := [], harness := (true, "df7eeeab4871abc83cf85c7061ebafbe1301a98e8216f054d0753335a93b3ea8"), looks := false }, kinds := [], alts := [], laidByText := true, laidKinds := [.data, .pinned, .pinned, .pinned], laidTests := true, laidLooks := .later }
def RoomPlaysCardSaid : Prop := Claim7.holds Tryd.pinned (.plain (OpenSpec.ofChange roomPlaysSpec)) roomPlaysCard

/-- THE TIED CARD OF 'antiphonlaw12.RoomNumbers'. -/
def roomNumbersCard : Claim7 := { stood := { row := roomNumbersRow, standIns := [], harness := (true, "df7eeeab4871abc83cf85c7061ebafbe1301a98e8216f054d0753335a93b3ea8"), looks := false }, kinds := [], alts := [], laidByText := true, laidKinds := [.data, .pinned, .pinned, .pinned], laidTests := true, laidLooks := .later }
def RoomNumbersCardSaid : Prop := Claim7.holds Tryd.pinned (.plain (OpenSpec.ofChange roomNumbersSpec)) roomNumbersCard

/-- THE SECOND FORM's CARD OF 'antiphonlaw12.RoomNames'. -/
def roomNamesUptoCard : Claim7 := { stood := { row := roomNamesUptoRow, standIns := [], harness := (true, "df7eeeab4871abc83cf85c7061ebafbe1301a98e8216f054d0753335a93b3ea8"), looks := false }, kinds := [], alts := [], laidByText := true, laidKinds := [.data, .pinned, .pinned, .pinned], laidTests := true, laidLooks := .later }
def RoomNamesUptoCardSaid : Prop := Claim7.holds Tryd.pinned (.plain (OpenSpec.upto roomNamesSpec)) roomNamesUptoCard

/-- THE SECOND FORM's CARD OF 'antiphonlaw12.RoomTogether'. -/
def roomTogetherUptoCard : Claim7 := { stood := { row := roomTogetherUptoRow, standIns := [], harness := (true, "df7eeeab4871abc83cf85c7061ebafbe1301a98e8216f054d0753335a93b3ea8"), looks := false }, kinds := [], alts := [], laidByText := true, laidKinds := [.data, .pinned, .pinned, .pinned], laidTests := true, laidLooks := .later }
def RoomTogetherUptoCardSaid : Prop := Claim7.holds Tryd.pinned (.plain (OpenSpec.upto roomTogetherSpec)) roomTogetherUptoCard

/-- THE SECOND FORM's CARD OF 'antiphonlaw12.RoomPlays'. -/
def roomPlaysUptoCard : Claim7 := { stood := { row := roomPlaysUptoRow, standIns := [], harness := (true, "df7eeeab4871abc83cf85c7061ebafbe1301a98e8216f054d0753335a93b3ea8"), looks := false }, kinds := [], alts := [], laidByText := true, laidKinds := [.data, .pinned, .pinned, .pinned], laidTests := true, laidLooks := .later }
def RoomPlaysUptoCardSaid : Prop := Claim7.holds Tryd.pinned (.plain (OpenSpec.upto roomPlaysSpec)) roomPlaysUptoCard

/-- THE SECOND FORM's CARD OF 'antiphonlaw12.RoomNumbers'. -/
def roomNumbersUptoCard : Claim7 := { stood := { row := roomNumbersUptoRow, standIns := [], harness := (true, "df7eeeab4871abc83cf85c7061ebafbe1301a98e8216f054d0753335a93b3ea8"), looks := false }, kinds := [], alts := [], laidByText := true, laidKinds := [.data, .pinned, .pinned, .pinned], laidTests := true, laidLooks := .later }
def RoomNumbersUptoCardSaid : Prop := Claim7.holds Tryd.pinned (.plain (OpenSpec.upto roomNumbersSpec)) roomNumbersUptoCard
end Rows
end Go.Proofs.YtefdnbpigfojcaaDoor

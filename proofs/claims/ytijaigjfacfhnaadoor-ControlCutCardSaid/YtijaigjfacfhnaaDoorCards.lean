/-
  DERIVED. GIVEN WITH THE SEED: THE CARDS: each row of YtijaigjfacfhnaaDoorRows.lean that lists a variable, with what it lists TIED to the program's text (the seventh form; the later family's looks); each row that meets fmt, with fmt's text TOLD by the authors' own Lean function (tested against real Go, not proved from fmt's source: count such statements apart). THE CARD IS WHAT COUNTS. Prove the row's statement (the work); the ties are given (YtijaigjfacfhnaaDoorTie.lean); close each card by the builder's one call (the guide's Derived/Test/ToyasCard.lean, 'card_holds'). Laid BY PROGRAM, IN A SANDBOX (cutbox-door.mjs). By AI agents, Wed Nov 11 2026. No macro, syntax, notation, axiom, sorry.
-/
import Derived.Test.YtijaigjfacfhnaaDoorRows
import GoSem.ClaimSeven
namespace Go.Proofs.YtijaigjfacfhnaaDoor
namespace Rows

/-- THE TIED CARD OF 'antiphonlaw07.ControlReads'. -/
def controlReadsCard : Claim7 := { stood := { row := controlReadsRow, standIns := [], harness := (true, "c5631d791db8b75f4c3fb536128ff2dede51cd8553b63e77d34c5c9c0d596a3d"), looks := false }, kinds := [], alts := [], laidByText := true, laidKinds := [.data, .pinned, .pinned], laidTests := true, laidLooks := .later }
def ControlReadsCardSaid : Prop := Claim7.holds Tryd.pinned (.plain (OpenSpec.ofChange controlReadsSpec)) controlReadsCard

/-- THE TIED CARD OF 'antiphonlaw07.ControlChecks'. -/
def controlChecksCard : Claim7 := { stood := { row := controlChecksRow, standIns := [], harness := (true, "c5631d791db8b75f4c3fb536128ff2dede51cd8553b63e77d34c5c9c0d596a3d"), looks := false }, kinds := [], alts := [], laidByText := true, laidKinds := [.data, .pinned, .pinned], laidTests := true, laidLooks := .later }
def ControlChecksCardSaid : Prop := Claim7.holds Tryd.pinned (.plain (OpenSpec.ofChange controlChecksSpec)) controlChecksCard

/-- THE TIED CARD OF 'antiphonlaw07.ControlCut'. -/
def controlCutCard : Claim7 := { stood := { row := controlCutRow, standIns := [], harness := (true, "c5631d791db8b75f4c3fb536128ff2dede51cd8553b63e77d34c5c9c0d596a3d"), looks := false }, kinds := [], alts := [], laidByText := true, laidKinds := [.data, .pinned, .pinned], laidTests := true, laidLooks := .later }
def ControlCutCardSaid : Prop := Claim7.holds Tryd.pinned (.plain (OpenSpec.ofChange controlCutSpec)) controlCutCard

/-- THE TIED CARD OF 'antiphonlaw07.ControlApart'. -/
def controlApartCard : Claim7 := { stood := { row := controlApartRow, standIns := [], harness := (true, "c5631d791db8b75f4c3fb536128ff2dede51cd8553b63e77d34c5c9c0d596a3d"), looks := false }, kinds := [], alts := [], laidByText := true, laidKinds := [.data, .pinned, .pinned], laidTests := true, laidLooks := .later }
def ControlApartCardSaid : Prop := Claim7.holds Tryd.pinned (.plain (OpenSpec.ofChange controlApartSpec)) controlApartCard

/-- THE TIED CARD OF 'antiphonlaw07.ControlKinds'. -/
def controlKindsCard : Claim7 := { stood := { row := controlKindsRow, standIns := [], harness := (true, "c5631d791db8b75f4c3fb536128ff2dede51cd8553b63e77d34c5c9c0d596a3d"), looks := false }, kinds := [], alts := [], laidByText := true, laidKinds := [.data, .pinned, .pinned], laidTests := true, laidLooks := .later }
def ControlKindsCardSaid : Prop := Claim7.holds Tryd.pinned (.plain (OpenSpec.ofChange controlKindsSpec)) controlKindsCard

/-- THE SECOND FORM's CARD OF 'antiphonlaw07.ControlReads'. -/
def controlReadsUptoCard : Claim7 := { stood := { row := controlReadsUptoRow, standIns := [], harness := (true, "c5631d791db8b75f4c3fb536128ff2dede51cd8553b63e77d34c5c9c0d596a3d"), looks := false }, kinds := [], alts := [], laidByText := true, laidKinds := [.data, .pinned, .pinned], laidTests := true, laidLooks := .later }
def ControlReadsUptoCardSaid : Prop := Claim7.holds Tryd.pinned (.plain (OpenSpec.upto controlReadsSpec)) controlReadsUptoCard

/-- THE SECOND FORM's CARD OF 'antiphonlaw07.ControlChecks'. -/
def controlChecksUptoCard : Claim7 := { stood := { row := controlChecksUptoRow, standIns := [], harness := (true, "c5631d791db8b75f4c3fb536128ff2dede51cd8553b63e77d34c5c9c0d596a3d"), looks := false }, kinds := [], alts := [], laidByText := true, laidKinds := [.data, .pinned, .pinned], laidTests := true, laidLooks := .later }
def ControlChecksUptoCardSaid : Prop := Claim7.holds Tryd.pinned (.plain (OpenSpec.upto controlChecksSpec)) controlChecksUptoCard

/-- THE SECOND FORM's CARD OF 'antiphonlaw07.ControlCut'. -/
def controlCutUptoCard : Claim7 := { stood := { row := controlCutUptoRow, standIns := [], harness := (true, "c5631d791db8b75f4c3fb536128ff2dede51cd8553b63e77d34c5c9c0d596a3d"), looks := false }, kinds := [], alts := [], laidByText := true, laidKinds := [.data, .pinned, .pinned], laidTests := true, laidLooks := .later }
def ControlCutUptoCardSaid : Prop := Claim7.holds Tryd.pinned (.plain (OpenSpec.upto controlCutSpec)) controlCutUptoCard

/-- THE SECOND FORM's CARD OF 'antiphonlaw07.ControlApart'. -/
def controlApartUptoCard : Claim7 := { stood := { row := controlApartUptoRow, standIns := [], harness := (true, "c5631d791db8b75f4c3fb536128ff2dede51cd8553b63e77d34c5c9c0d596a3d"), looks := false }, kinds := [], alts := [], laidByText := true, laidKinds := [.data, .pinned, .pinned], laidTests := true, laidLooks := .later }
def ControlApartUptoCardSaid : Prop := Claim7.holds Tryd.pinned (.plain (OpenSpec.upto controlApartSpec)) controlApartUptoCard

/-- THE SECOND FORM's CARD OF 'antiphonlaw07.ControlKinds'. -/
def controlKindsUptoCard : Claim7 := { stood := { row := controlKindsUptoRow, standIns := [], harness := (true, "c5631d791db8b75f4c3fb536128ff2dede51cd8553b63e77d34c5c9c0d596a3d"), looks := false }, kinds := [], alts := [], laidByText := true, laidKinds := [.data, .pinned, .pinned], laidTests := true, laidLooks := .later }
def ControlKindsUptoCardSaid : Prop := Claim7.holds Tryd.pinned (.plain (OpenSpec.upto controlKindsSpec)) controlKindsUptoCard
end Rows
end Go.Proofs.YtijaigjfacfhnaaDoor

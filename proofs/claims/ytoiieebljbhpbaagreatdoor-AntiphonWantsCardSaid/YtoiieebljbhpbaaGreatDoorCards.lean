/-
  DERIVED. GIVEN WITH THE SEED: THE CARDS: each row of YtoiieebljbhpbaaGreatDoorRows.lean that lists a variable, with what it lists TIED to the program's text (the seventh form; the later family's looks); each row that meets fmt, with fmt's text TOLD by the authors' own Lean function (tested against real Go, not proved from fmt's source: count such statements apart). THE CARD IS WHAT COUNTS. Prove the row's statement (the work); the ties are given (YtoiieebljbhpbaaGreatDoorTie.lean); close each card by the builder's one call (the guide's Derived/Test/ToyasCard.lean, 'card_holds'). Laid BY PROGRAM, IN A SANDBOX (cutbox-door.mjs). By AI agents, Wed Nov 11 2026. No macro, syntax, notation, axiom, sorry.
-/
import Derived.Test.YtoiieebljbhpbaaGreatDoorRows
import GoSem.ClaimSeven
namespace Go.Proofs.YtoiieebljbhpbaaGreatDoor
namespace Rows

/-- THE TIED CARD OF 'antiphontop.AntiphonWants'. -/
def antiphonWantsCard : Claim7 := { stood := { row := antiphonWantsRow, standIns := [], harness := (true, "f81c4a73f87e0aa59c515bd935056df98d640dd36d1f9efe2384056fa9139d41"), looks := true }, kinds := [], alts := [], laidByText := true, laidKinds := [.data, .pinned, .pinned, .pinned], laidTests := true, laidLooks := .later }
def AntiphonWantsCardSaid : Prop := Claim7.holds Tryz.pinned (.plain (OpenSpec.ofChange antiphonWantsSpec)) antiphonWantsCard

/-- THE TIED CARD OF 'antiphonlaw13.AccessFull'. -/
def accessFullCard : Claim7 := { stood := { row := accessFullRow, standIns := [], harness := (true, "f81c4a73f87e0aa59c515bd935056df98d640dd36d1f9efe2384056fa9139d41"), looks := true }, kinds := [], alts := [], laidByText := true, laidKinds := [.data, .pinned, .pinned, .pinned], laidTests := true, laidLooks := .later }
def AccessFullCardSaid : Prop := Claim7.holds Tryz.pinned (.plain (OpenSpec.ofChange accessFullSpec)) accessFullCard

/-- THE TIED CARD OF 'antiphonlaw13.AccessSound'. -/
def accessSoundCard : Claim7 := { stood := { row := accessSoundRow, standIns := [], harness := (true, "f81c4a73f87e0aa59c515bd935056df98d640dd36d1f9efe2384056fa9139d41"), looks := true }, kinds := [], alts := [], laidByText := true, laidKinds := [.data, .pinned, .pinned, .pinned], laidTests := true, laidLooks := .later }
def AccessSoundCardSaid : Prop := Claim7.holds Tryz.pinned (.plain (OpenSpec.ofChange accessSoundSpec)) accessSoundCard

/-- THE TIED CARD OF 'antiphonlaw13.AccessAnswers'. -/
def accessAnswersCard : Claim7 := { stood := { row := accessAnswersRow, standIns := [], harness := (true, "f81c4a73f87e0aa59c515bd935056df98d640dd36d1f9efe2384056fa9139d41"), looks := true }, kinds := [], alts := [], laidByText := true, laidKinds := [.data, .pinned, .pinned, .pinned], laidTests := true, laidLooks := .later }
def AccessAnswersCardSaid : Prop := Claim7.holds Tryz.pinned (.plain (OpenSpec.ofChange accessAnswersSpec)) accessAnswersCard

/-- THE TIED CARD OF 'antiphonlaw13.AccessGone'. -/
def accessGoneCard : Claim7 := { stood := { row := accessGoneRow, standIns := [], harness := (true, "f81c4a73f87e0aa59c515bd935056df98d640dd36d1f9efe2384056fa9139d41"), looks := true }, kinds := [], alts := [], laidByText := true, laidKinds := [.data, .pinned, .pinned, .pinned], laidTests := true, laidLooks := .later }
def AccessGoneCardSaid : Prop := Claim7.holds Tryz.pinned (.plain (OpenSpec.ofChange accessGoneSpec)) accessGoneCard

/-- THE TIED CARD OF 'antiphonlaw13.AccessPlays'. -/
def accessPlaysCard : Claim7 := { stood := { row := accessPlaysRow, standIns := [], harness := (true, "f81c4a73f87e0aa59c515bd935056df98d640dd36d1f9efe2384056fa9139d41"), looks := true }, kinds := [], alts := [], laidByText := true, laidKinds := [.data, .pinned, .pinned, .pinned], laidTests := true, laidLooks := .later }
def AccessPlaysCardSaid : Prop := Claim7.holds Tryz.pinned (.plain (OpenSpec.ofChange accessPlaysSpec)) accessPlaysCard

/-- THE SECOND FORM's CARD OF 'antiphontop.AntiphonWants'. -/
def antiphonWantsUptoCard : Claim7 := { stood := { row := antiphonWantsUptoRow, standIns := [], harness := (true, "f81c4a73f87e0aa59c515bd935056df98d640dd36d1f9efe2384056fa9139d41"), looks := true }, kinds := [], alts := [], laidByText := true, laidKinds := [.data, .pinned, .pinned, .pinned], laidTests := true, laidLooks := .later }
def AntiphonWantsUptoCardSaid : Prop := Claim7.holds Tryz.pinned (.plain (OpenSpec.upto antiphonWantsSpec)) antiphonWantsUptoCard

/-- THE SECOND FORM's CARD OF 'antiphonlaw13.AccessFull'. -/
def accessFullUptoCard : Claim7 := { stood := { row := accessFullUptoRow, standIns := [], harness := (true, "f81c4a73f87e0aa59c515bd935056df98d640dd36d1f9efe2384056fa9139d41"), looks := true }, kinds := [], alts := [], laidByText := true, laidKinds := [.data, .pinned, .pinned, .pinned], laidTests := true, laidLooks := .later }
def AccessFullUptoCardSaid : Prop := Claim7.holds Tryz.pinned (.plain (OpenSpec.upto accessFullSpec)) accessFullUptoCard

/-- THE SECOND FORM's CARD OF 'antiphonlaw13.AccessSound'. -/
def accessSoundUptoCard : Claim7 := { stood := { row := accessSoundUptoRow, standIns := [], harness := (true, "f81c4a73f87e0aa59c515bd935056df98d640dd36d1f9efe2384056fa9139d41"), looks := true }, kinds := [], alts := [], laidByText := true, laidKinds := [.data, .pinned, .pinned, .pinned], laidTests := true, laidLooks := .later }
def AccessSoundUptoCardSaid : Prop := Claim7.holds Tryz.pinned (.plain (OpenSpec.upto accessSoundSpec)) accessSoundUptoCard

/-- THE SECOND FORM's CARD OF 'antiphonlaw13.AccessAnswers'. -/
def accessAnswersUptoCard : Claim7 := { stood := { row := accessAnswersUptoRow, standIns := [], harness := (true, "f81c4a73f87e0aa59c515bd935056df98d640dd36d1f9efe2384056fa9139d41"), looks := true }, kinds := [], alts := [], laidByText := true, laidKinds := [.data, .pinned, .pinned, .pinned], laidTests := true, laidLooks := .later }
def AccessAnswersUptoCardSaid : Prop := Claim7.holds Tryz.pinned (.plain (OpenSpec.upto accessAnswersSpec)) accessAnswersUptoCard

/-- THE SECOND FORM's CARD OF 'antiphonlaw13.AccessGone'. -/
def accessGoneUptoCard : Claim7 := { stood := { row := accessGoneUptoRow, standIns := [], harness := (true, "f81c4a73f87e0aa59c515bd935056df98d640dd36d1f9efe2384056fa9139d41"), looks := true }, kinds := [], alts := [], laidByText := true, laidKinds := [.data, .pinned, .pinned, .pinned], laidTests := true, laidLooks := .later }
def AccessGoneUptoCardSaid : Prop := Claim7.holds Tryz.pinned (.plain (OpenSpec.upto accessGoneSpec)) accessGoneUptoCard

/-- THE SECOND FORM's CARD OF 'antiphonlaw13.AccessPlays'. -/
def accessPlaysUptoCard : Claim7 := { stood := { row := accessPlaysUptoRow, standIns := [], harness := (true, "f81c4a73f87e0aa59c515bd935056df98d640dd36d1f9efe2384056fa9139d41"), looks := true }, kinds := [], alts := [], laidByText := true, laidKinds := [.data, .pinned, .pinned, .pinned], laidTests := true, laidLooks := .later }
def AccessPlaysUptoCardSaid : Prop := Claim7.holds Tryz.pinned (.plain (OpenSpec.upto accessPlaysSpec)) accessPlaysUptoCard
end Rows
end Go.Proofs.YtoiieebljbhpbaaGreatDoor

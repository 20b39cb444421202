/-
  DERIVED. GIVEN WITH THE SEED: THE CARDS: each row of YtoaiieheibcnlaaDoorRows.lean that lists a variable, with what it lists TIED to the program's text (the seventh form; the later family's looks); each row that meets fmt, with fmt's text TOLD by the authors' own Lean function (tested against real Go, not proved from fmt's source: count such statements apart). THE CARD IS WHAT COUNTS. Prove the row's statement (the work); the ties are given (YtoaiieheibcnlaaDoorTie.lean); close each card by the builder's one call (the guide's Derived/Test/ToyasCard.lean, 'card_holds'). Laid BY PROGRAM, IN A SANDBOX (cutbox-door.mjs). By AI agents, Wed Nov 11 2026. No macro, syntax, notation, axiom, sorry.
-/
import Derived.Test.YtoaiieheibcnlaaDoorRows
import GoSem.ClaimSeven
namespace Go.Proofs.YtoaiieheibcnlaaDoor
namespace Rows

/-- THE TIED CARD OF 'antiphonlaw06.LabelChecks'. -/
def labelChecksCard : Claim7 := { stood := { row := labelChecksRow, standIns := [], harness := (true, "7ba6c1891580b074ce0b1cccf02181872104e02841bc0dc3c768bff52cf98db5"), looks := false }, kinds := [], alts := [], laidByText := true, laidKinds := [.data, .pinned, .pinned, .pinned], laidTests := true, laidLooks := .later }
def LabelChecksCardSaid : Prop := Claim7.holds Tryd.pinned (.plain (OpenSpec.ofChange labelChecksSpec)) labelChecksCard

/-- THE TIED CARD OF 'antiphonlaw06.LabelSame'. -/
def labelSameCard : Claim7 := { stood := { row := labelSameRow, standIns := [], harness := (true, "7ba6c1891580b074ce0b1cccf02181872104e02841bc0dc3c768bff52cf98db5"), looks := false }, kinds := [], alts := [], laidByText := true, laidKinds := [.data, .pinned, .pinned, .pinned], laidTests := true, laidLooks := .later }
def LabelSameCardSaid : Prop := Claim7.holds Tryd.pinned (.plain (OpenSpec.ofChange labelSameSpec)) labelSameCard

/-- THE TIED CARD OF 'antiphonlaw06.LabelRunes'. -/
def labelRunesCard : Claim7 := { stood := { row := labelRunesRow, standIns := [], harness := (true, "7ba6c1891580b074ce0b1cccf02181872104e02841bc0dc3c768bff52cf98db5"), looks := false }, kinds := [], alts := [], laidByText := true, laidKinds := [.data, .pinned, .pinned, .pinned], laidTests := true, laidLooks := .later }
def LabelRunesCardSaid : Prop := Claim7.holds Tryd.pinned (.plain (OpenSpec.ofChange labelRunesSpec)) labelRunesCard

/-- THE SECOND FORM's CARD OF 'antiphonlaw06.LabelChecks'. -/
def labelChecksUptoCard : Claim7 := { stood := { row := labelChecksUptoRow, standIns := [], harness := (true, "7ba6c1891580b074ce0b1cccf02181872104e02841bc0dc3c768bff52cf98db5"), looks := false }, kinds := [], alts := [], laidByText := true, laidKinds := [.data, .pinned, .pinned, .pinned], laidTests := true, laidLooks := .later }
def LabelChecksUptoCardSaid : Prop := Claim7.holds Tryd.pinned (.plain (OpenSpec.upto labelChecksSpec)) labelChecksUptoCard

/-- THE SECOND FORM's CARD OF 'antiphonlaw06.LabelSame'. -/
def labelSameUptoCard : Claim7 := { stood := { row := labelSameUptoRow, standIns := [], harness := (true, "7ba6c1891580b074ce0b1cccf02181872104e02841bc0dc3c768bff52cf98db5"), looks := false }, kinds := [], alts := [], laidByText := true, laidKinds := [.data, .pinned, .pinned, .pinned], laidTests := true, laidLooks := .later }
def LabelSameUptoCardSaid : Prop := Claim7.holds Tryd.pinned (.plain (OpenSpec.upto labelSameSpec)) labelSameUptoCard

/-- THE SECOND FORM's CARD OF 'antiphonlaw06.LabelRunes'. -/
def labelRunesUptoCard : Claim7 := { stood := { row := labelRunesUptoRow, standIns := [], harness := (true, "7ba6c1891580b074ce0b1cccf02181872104e02841bc0dc3c768bff52cf98db5"), looks := false }, kinds := [], alts := [], laidByText := true, laidKinds := [.data, .pinned, .pinned, .pinned], laidTests := true, laidLooks := .later }
def LabelRunesUptoCardSaid : Prop := Claim7.holds Tryd.pinned (.plain (OpenSpec.upto labelRunesSpec)) labelRunesUptoCard
end Rows
end Go.Proofs.YtoaiieheibcnlaaDoor

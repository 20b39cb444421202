/-
  NARROWER THAN 'FOR EVERY INPUT', by the rows' own cells (each row's printed sentence says how): AntiphonWants: laid · AccessFull: laid · AccessSound: laid · AccessAnswers: laid · AccessGone: laid · AccessPlays: laid.
  DERIVED. THE GIVEN ROWS OF THIS SEAT. 6 by the template 'for every input the law returns true; each argument reads behind the call as it read before'; 0 by the template 'total and deterministic' (their statements: YtoiieebljbhpbaaGreatDoorTotals.lean).
  GIVEN WITH THE SEED: the statements are not yours to turn. If you find one false, say at which input.
  Laid BY PROGRAM, IN A SANDBOX (cutbox-rows.mjs): the forced cells as the released guide's own fill.sh prints them over the translation 3250ee0528cb0534… (all of the seat's roots in one cut). By AI agents, Wed Nov 11 2026. No macro, syntax, notation, axiom, sorry.
-/
import Derived.Test.YtoiieebljbhpbaaGreatDoorChecked
import GoSem.PinnedTables
import GoSem.Claim
import GoSem.ClaimJoined
import GoSem.ClaimMapViews
import Derived.JoinedTies
import Derived.KernelRfl
namespace Go.Proofs.YtoiieebljbhpbaaGreatDoor
/- THE CELL 'sum', in the pinned program and in every row, IS THE sha256 OF THE DUMP (.gsa) THAT YtoiieebljbhpbaaGreatDoorProg.lean LOADS. Nothing in Lean hashes anything: it is a label: what it is worth is what the hold of that sum in a sandbox is worth. -/
noncomputable def Tryz.pinned : Pinned := { name := "ytoiieebljbhpbaagreatdoor", sum := "3250ee0528cb0534afcecadb6646f0452f7fd177a2a80b049d85c9b9f0587a69", checked := Tryz.checked }
namespace Rows
def none {H : Type} : Left H := { results := [], args := [] }

/- WHAT THE LISTED PACKAGE-LEVEL VARIABLES READ AS WHEN THE CALL BEGINS. Each datum BY PROGRAM (the guide's laid-datum.mjs) off the statement by which the dump's own 'gosem.cut.vars' lays the variable. In a bare row this is a premise. The card (YtoiieebljbhpbaaGreatDoorCards.lean) ties it to the program's text. -/
def laid_unicode_properties {H : Type} : DataW H := .agg [.lit (.int .u8 1), .lit (.int .u8 1), .lit (.int .u8 1), .lit (.int .u8 1), .lit (.int .u8 1), .lit (.int .u8 1), .lit (.int .u8 1), .lit (.int .u8 1), .lit (.int .u8 1), .lit (.int .u8 1), .lit (.int .u8 1), .lit (.int .u8 1), .lit (.int .u8 1), .lit (.int .u8 1), .lit (.int .u8 1), .lit (.int .u8 1), .lit (.int .u8 1), .lit (.int .u8 1), .lit (.int .u8 1), .lit (.int .u8 1), .lit (.int .u8 1), .lit (.int .u8 1), .lit (.int .u8 1), .lit (.int .u8 1), .lit (.int .u8 1), .lit (.int .u8 1), .lit (.int .u8 1), .lit (.int .u8 1), .lit (.int .u8 1), .lit (.int .u8 1), .lit (.int .u8 1), .lit (.int .u8 1), .lit (.int .u8 144), .lit (.int .u8 130), .lit (.int .u8 130), .lit (.int .u8 130), .lit (.int .u8 136), .lit (.int .u8 130), .lit (.int .u8 130), .lit (.int .u8 130), .lit (.int .u8 130), .lit (.int .u8 130), .lit (.int .u8 130), .lit (.int .u8 136), .lit (.int .u8 130), .lit (.int .u8 130), .lit (.int .u8 130), .lit (.int .u8 130), .lit (.int .u8 132), .lit (.int .u8 132), .lit (.int .u8 132), .lit (.int .u8 132), .lit (.int .u8 132), .lit (.int .u8 132), .lit (.int .u8 132), .lit (.int .u8 132), .lit (.int .u8 132), .lit (.int .u8 132), .lit (.int .u8 130), .lit (.int .u8 130), .lit (.int .u8 136), .lit (.int .u8 136), .lit (.int .u8 136), .lit (.int .u8 130), .lit (.int .u8 130), .lit (.int .u8 160), .lit (.int .u8 160), .lit (.int .u8 160), .lit (.int .u8 160), .lit (.int .u8 160), .lit (.int .u8 160), .lit (.int .u8 160), .lit (.int .u8 160), .lit (.int .u8 160), .lit (.int .u8 160), .lit (.int .u8 160), .lit (.int .u8 160), .lit (.int .u8 160), .lit (.int .u8 160), .lit (.int .u8 160), .lit (.int .u8 160), .lit (.int .u8 160), .lit (.int .u8 160), .lit (.int .u8 160), .lit (.int .u8 160), .lit (.int .u8 160), .lit (.int .u8 160), .lit (.int .u8 160), .lit (.int .u8 160), .lit (.int .u8 160), .lit (.int .u8 160), .lit (.int .u8 130), .lit (.int .u8 130), .lit (.int .u8 130), .lit (.int .u8 136), .lit (.int .u8 130), .lit (.int .u8 136), .lit (.int .u8 192), .lit (.int .u8 192), .lit (.int .u8 192), .lit (.int .u8 192), .lit (.int .u8 192), .lit (.int .u8 192), .lit (.int .u8 192), .lit (.int .u8 192), .lit (.int .u8 192), .lit (.int .u8 192), .lit (.int .u8 192), .lit (.int .u8 192), .lit (.int .u8 192), .lit (.int .u8 192), .lit (.int .u8 192), .lit (.int .u8 192), .lit (.int .u8 192), .lit (.int .u8 192), .lit (.int .u8 192), .lit (.int .u8 192), .lit (.int .u8 192), .lit (.int .u8 192), .lit (.int .u8 192), .lit (.int .u8 192), .lit (.int .u8 192), .lit (.int .u8 192), .lit (.int .u8 130), .lit (.int .u8 136), .lit (.int .u8 130), .lit (.int .u8 136), .lit (.int .u8 1), .lit (.int .u8 1), .lit (.int .u8 1), .lit (.int .u8 1), .lit (.int .u8 1), .lit (.int .u8 1), .lit (.int .u8 1), .lit (.int .u8 1), .lit (.int .u8 1), .lit (.int .u8 1), .lit (.int .u8 1), .lit (.int .u8 1), .lit (.int .u8 1), .lit (.int .u8 1), .lit (.int .u8 1), .lit (.int .u8 1), .lit (.int .u8 1), .lit (.int .u8 1), .lit (.int .u8 1), .lit (.int .u8 1), .lit (.int .u8 1), .lit (.int .u8 1), .lit (.int .u8 1), .lit (.int .u8 1), .lit (.int .u8 1), .lit (.int .u8 1), .lit (.int .u8 1), .lit (.int .u8 1), .lit (.int .u8 1), .lit (.int .u8 1), .lit (.int .u8 1), .lit (.int .u8 1), .lit (.int .u8 1), .lit (.int .u8 16), .lit (.int .u8 130), .lit (.int .u8 136), .lit (.int .u8 136), .lit (.int .u8 136), .lit (.int .u8 136), .lit (.int .u8 136), .lit (.int .u8 130), .lit (.int .u8 136), .lit (.int .u8 136), .lit (.int .u8 224), .lit (.int .u8 130), .lit (.int .u8 136), .lit (.int .u8 0), .lit (.int .u8 136), .lit (.int .u8 136), .lit (.int .u8 136), .lit (.int .u8 136), .lit (.int .u8 132), .lit (.int .u8 132), .lit (.int .u8 136), .lit (.int .u8 192), .lit (.int .u8 130), .lit (.int .u8 130), .lit (.int .u8 136), .lit (.int .u8 132), .lit (.int .u8 224), .lit (.int .u8 130), .lit (.int .u8 132), .lit (.int .u8 132), .lit (.int .u8 132), .lit (.int .u8 130), .lit (.int .u8 160), .lit (.int .u8 160), .lit (.int .u8 160), .lit (.int .u8 160), .lit (.int .u8 160), .lit (.int .u8 160), .lit (.int .u8 160), .lit (.int .u8 160), .lit (.int .u8 160), .lit (.int .u8 160), .lit (.int .u8 160), .lit (.int .u8 160), .lit (.int .u8 160), .lit (.int .u8 160), .lit (.int .u8 160), .lit (.int .u8 160), .lit (.int .u8 160), .lit (.int .u8 160), .lit (.int .u8 160), .lit (.int .u8 160), .lit (.int .u8 160), .lit (.int .u8 160), .lit (.int .u8 160), .lit (.int .u8 136), .lit (.int .u8 160), .lit (.int .u8 160), .lit (.int .u8 160), .lit (.int .u8 160), .lit (.int .u8 160), .lit (.int .u8 160), .lit (.int .u8 160), .lit (.int .u8 192), .lit (.int .u8 192), .lit (.int .u8 192), .lit (.int .u8 192), .lit (.int .u8 192), .lit (.int .u8 192), .lit (.int .u8 192), .lit (.int .u8 192), .lit (.int .u8 192), .lit (.int .u8 192), .lit (.int .u8 192), .lit (.int .u8 192), .lit (.int .u8 192), .lit (.int .u8 192), .lit (.int .u8 192), .lit (.int .u8 192), .lit (.int .u8 192), .lit (.int .u8 192), .lit (.int .u8 192), .lit (.int .u8 192), .lit (.int .u8 192), .lit (.int .u8 192), .lit (.int .u8 192), .lit (.int .u8 192), .lit (.int .u8 136), .lit (.int .u8 192), .lit (.int .u8 192), .lit (.int .u8 192), .lit (.int .u8 192), .lit (.int .u8 192), .lit (.int .u8 192), .lit (.int .u8 192), .lit (.int .u8 192)]
/-- One of Go's own tables, pinned by name: the form's constant. -/
def laid_unicode_CaseRanges : DataW Unit := Go.Pinned.caseRanges
/-- One of Go's own tables, pinned by name: the form's constant. -/
def laid_unicode_Digit : DataW Unit := Go.Pinned.digit
/-- One of Go's own tables, pinned by name: the form's constant. -/
def laid_unicode_Letter : DataW Unit := Go.Pinned.letter

/-- 'antiphontop.AntiphonWants': WHATEVER THE INPUT: true; the input reads as it did. -/
def antiphonWantsSpec : ChangeSpec := { name := "antiphonWants", fn := fun _ => fun
  | [d1, d2] => { results := [.lit (.bool true)], args := [d1, d2] }
  | _ => none }
def antiphonWantsRow : OpenClaim := { program := "ytoiieebljbhpbaagreatdoor", sum := "3250ee0528cb0534afcecadb6646f0452f7fd177a2a80b049d85c9b9f0587a69", func := "antiphon/antiphontop.AntiphonWants", spec := "antiphonWants", inPlace := ["internal/abi.NoEscape"], unfollowed := true, recurses := true, named := ["unicode.properties", "unicode.Letter", "unicode.Digit", "unicode.CaseRanges"], plainKeys := false, apart := false, laid := [("unicode.properties", laid_unicode_properties), ("unicode.CaseRanges", laid_unicode_CaseRanges), ("unicode.Digit", laid_unicode_Digit), ("unicode.Letter", laid_unicode_Letter)] }
def AntiphonWantsSaid : Prop := antiphonWantsRow.holds Tryz.pinned (OpenSpec.ofChange antiphonWantsSpec)

/-- ITS FALSE NEIGHBOUR: 'it returns false'. Refute it at one input. -/
def antiphonWantsWrong : ChangeSpec := { name := "antiphonWants", fn := fun _ => fun
  | [d1, d2] => { results := [.lit (.bool false)], args := [d1, d2] }
  | _ => none }
def AntiphonWantsWrongFalsely : Prop := antiphonWantsRow.holds Tryz.pinned (OpenSpec.ofChange antiphonWantsWrong)

/-- 'antiphonlaw13.AccessFull': WHATEVER THE INPUT: true; the input reads as it did. -/
def accessFullSpec : ChangeSpec := { name := "accessFull", fn := fun _ => fun
  | [d1, d2] => { results := [.lit (.bool true)], args := [d1, d2] }
  | _ => none }
def accessFullRow : OpenClaim := { program := "ytoiieebljbhpbaagreatdoor", sum := "3250ee0528cb0534afcecadb6646f0452f7fd177a2a80b049d85c9b9f0587a69", func := "antiphon/antiphonlaw13.AccessFull", spec := "accessFull", inPlace := ["internal/abi.NoEscape"], unfollowed := true, recurses := true, named := ["unicode.properties", "unicode.Letter", "unicode.Digit", "unicode.CaseRanges"], plainKeys := false, apart := false, laid := [("unicode.properties", laid_unicode_properties), ("unicode.CaseRanges", laid_unicode_CaseRanges), ("unicode.Digit", laid_unicode_Digit), ("unicode.Letter", laid_unicode_Letter)] }
def AccessFullSaid : Prop := accessFullRow.holds Tryz.pinned (OpenSpec.ofChange accessFullSpec)

/-- ITS FALSE NEIGHBOUR: 'it returns false'. Refute it at one input. -/
def accessFullWrong : ChangeSpec := { name := "accessFull", fn := fun _ => fun
  | [d1, d2] => { results := [.lit (.bool false)], args := [d1, d2] }
  | _ => none }
def AccessFullWrongFalsely : Prop := accessFullRow.holds Tryz.pinned (OpenSpec.ofChange accessFullWrong)

/-- 'antiphonlaw13.AccessSound': WHATEVER THE INPUT: true; the input reads as it did. -/
def accessSoundSpec : ChangeSpec := { name := "accessSound", fn := fun _ => fun
  | [d] => { results := [.lit (.bool true)], args := [d] }
  | _ => none }
def accessSoundRow : OpenClaim := { program := "ytoiieebljbhpbaagreatdoor", sum := "3250ee0528cb0534afcecadb6646f0452f7fd177a2a80b049d85c9b9f0587a69", func := "antiphon/antiphonlaw13.AccessSound", spec := "accessSound", inPlace := ["internal/abi.NoEscape"], unfollowed := true, recurses := true, named := ["unicode.properties", "unicode.Letter", "unicode.Digit", "unicode.CaseRanges"], plainKeys := false, apart := false, laid := [("unicode.properties", laid_unicode_properties), ("unicode.CaseRanges", laid_unicode_CaseRanges), ("unicode.Digit", laid_unicode_Digit), ("unicode.Letter", laid_unicode_Letter)] }
def AccessSoundSaid : Prop := accessSoundRow.holds Tryz.pinned (OpenSpec.ofChange accessSoundSpec)

/-- ITS FALSE NEIGHBOUR: 'it returns false'. Refute it at one input. -/
def accessSoundWrong : ChangeSpec := { name := "accessSound", fn := fun _ => fun
  | [d] => { results := [.lit (.bool false)], args := [d] }
  | _ => none }
def AccessSoundWrongFalsely : Prop := accessSoundRow.holds Tryz.pinned (OpenSpec.ofChange accessSoundWrong)

/-- 'antiphonlaw13.AccessAnswers': WHATEVER THE INPUT: true; the input reads as it did. -/
def accessAnswersSpec : ChangeSpec := { name := "accessAnswers", fn := fun _ => fun
  | [d1, d2] => { results := [.lit (.bool true)], args := [d1, d2] }
  | _ => none }
def accessAnswersRow : OpenClaim := { program := "ytoiieebljbhpbaagreatdoor", sum := "3250ee0528cb0534afcecadb6646f0452f7fd177a2a80b049d85c9b9f0587a69", func := "antiphon/antiphonlaw13.AccessAnswers", spec := "accessAnswers", inPlace := ["internal/abi.NoEscape"], unfollowed := true, recurses := true, named := ["unicode.properties", "unicode.Letter", "unicode.Digit", "unicode.CaseRanges"], plainKeys := false, apart := false, laid := [("unicode.properties", laid_unicode_properties), ("unicode.CaseRanges", laid_unicode_CaseRanges), ("unicode.Digit", laid_unicode_Digit), ("unicode.Letter", laid_unicode_Letter)] }
def AccessAnswersSaid : Prop := accessAnswersRow.holds Tryz.pinned (OpenSpec.ofChange accessAnswersSpec)

/-- ITS FALSE NEIGHBOUR: 'it returns false'. Refute it at one input. -/
def accessAnswersWrong : ChangeSpec := { name := "accessAnswers", fn := fun _ => fun
  | [d1, d2] => { results := [.lit (.bool false)], args := [d1, d2] }
  | _ => none }
def AccessAnswersWrongFalsely : Prop := accessAnswersRow.holds Tryz.pinned (OpenSpec.ofChange accessAnswersWrong)

/-- 'antiphonlaw13.AccessGone': WHATEVER THE INPUT: true; the input reads as it did. -/
def accessGoneSpec : ChangeSpec := { name := "accessGone", fn := fun _ => fun
  | [d1, d2, d3] => { results := [.lit (.bool true)], args := [d1, d2, d3] }
  | _ => none }
def accessGoneRow : OpenClaim := { program := "ytoiieebljbhpbaagreatdoor", sum := "3250ee0528cb0534afcecadb6646f0452f7fd177a2a80b049d85c9b9f0587a69", func := "antiphon/antiphonlaw13.AccessGone", spec := "accessGone", inPlace := ["internal/abi.NoEscape"], unfollowed := true, recurses := true, named := ["unicode.properties", "unicode.Letter", "unicode.Digit", "unicode.CaseRanges"], plainKeys := false, apart := false, laid := [("unicode.properties", laid_unicode_properties), ("unicode.CaseRanges", laid_unicode_CaseRanges), ("unicode.Digit", laid_unicode_Digit), ("unicode.Letter", laid_unicode_Letter)] }
def AccessGoneSaid : Prop := accessGoneRow.holds Tryz.pinned (OpenSpec.ofChange accessGoneSpec)

/-- ITS FALSE NEIGHBOUR: 'it returns false'. Refute it at one input. -/
def accessGoneWrong : ChangeSpec := { name := "accessGone", fn := fun _ => fun
  | [d1, d2, d3] => { results := [.lit (.bool false)], args := [d1, d2, d3] }
  | _ => none }
def AccessGoneWrongFalsely : Prop := accessGoneRow.holds Tryz.pinned (OpenSpec.ofChange accessGoneWrong)

/-- 'antiphonlaw13.AccessPlays': WHATEVER THE INPUT: true; the input reads as it did. -/
def accessPlaysSpec : ChangeSpec := { name := "accessPlays", fn := fun _ => fun
  | [d] => { results := [.lit (.bool true)], args := [d] }
  | _ => none }
def accessPlaysRow : OpenClaim := { program := "ytoiieebljbhpbaagreatdoor", sum := "3250ee0528cb0534afcecadb6646f0452f7fd177a2a80b049d85c9b9f0587a69", func := "antiphon/antiphonlaw13.AccessPlays", spec := "accessPlays", inPlace := ["internal/abi.NoEscape"], unfollowed := true, recurses := true, named := ["unicode.properties", "unicode.Letter", "unicode.Digit", "unicode.CaseRanges"], plainKeys := false, apart := false, laid := [("unicode.properties", laid_unicode_properties), ("unicode.CaseRanges", laid_unicode_CaseRanges), ("unicode.Digit", laid_unicode_Digit), ("unicode.Letter", laid_unicode_Letter)] }
def AccessPlaysSaid : Prop := accessPlaysRow.holds Tryz.pinned (OpenSpec.ofChange accessPlaysSpec)

/-- ITS FALSE NEIGHBOUR: 'it returns false'. Refute it at one input. -/
def accessPlaysWrong : ChangeSpec := { name := "accessPlays", fn := fun _ => fun
  | [d] => { results := [.lit (.bool false)], args := [d] }
  | _ => none }
def AccessPlaysWrongFalsely : Prop := accessPlaysRow.holds Tryz.pinned (OpenSpec.ofChange accessPlaysWrong)

/- THE SECOND FORM. 'bulk': how many values and letters a reading holds, each counted each time it is reached (what is shared counts as often as it is met; a slice's spare places count too). A statement '..UptoSaid' is the law's where the arguments, and the package variables that the reading takes, are together of bulk at most 1048576: NARROWER than '..Said'. Prove '..Said' where nothing that the law and all that it calls make is longer than what came in: it says more and counts as full. Else prove '..UptoSaid'. A law counts once. -/
mutual
def uptoBulk {H : Type} : DataW H → Nat
  | .lit (.string bytes) => bytes.length + 1
  | .lit _ => 1
  | .nil => 1
  | .ptr d => uptoBulk d + 1
  | .slice elems spare => uptoBulkAll elems + uptoBulkAll spare + 1
  | .agg parts => uptoBulkAll parts + 1
  | .iface _ d => uptoBulk d + 1
  | .map entries => uptoBulkEntries entries + 1
  | .held _ => 1
def uptoBulkAll {H : Type} : List (DataW H) → Nat
  | [] => 0
  | d :: r => uptoBulk d + uptoBulkAll r
def uptoBulkEntries {H : Type} : List (Lit × DataW H) → Nat
  | [] => 0
  | x :: r => uptoBulkEntry x + uptoBulkEntries r
def uptoBulkEntry {H : Type} : Lit × DataW H → Nat
  | (.string bytes, d) => bytes.length + uptoBulk d + 1
  | (_, d) => uptoBulk d + 1
 end
def uptoSmall : (H : Type) → List (DataW H) → Bool := fun _ ds => decide (uptoBulkAll ds ≤ 1048576)
def OpenSpec.upto (s : _root_.Go.ChangeSpec) : _root_.Go.OpenSpec := { _root_.Go.OpenSpec.ofChange s with cond := some uptoSmall }

/-- 'antiphontop.AntiphonWants', WHERE WHAT IT READS IS OF BULK AT MOST 1048576: true; the input reads as it did. -/
def antiphonWantsUptoRow : OpenClaim := { program := "ytoiieebljbhpbaagreatdoor", sum := "3250ee0528cb0534afcecadb6646f0452f7fd177a2a80b049d85c9b9f0587a69", func := "antiphon/antiphontop.AntiphonWants", spec := "antiphonWants", inPlace := ["internal/abi.NoEscape"], unfollowed := true, recurses := true, named := ["unicode.properties", "unicode.Letter", "unicode.Digit", "unicode.CaseRanges"], plainKeys := false, apart := false, laid := [("unicode.properties", laid_unicode_properties), ("unicode.CaseRanges", laid_unicode_CaseRanges), ("unicode.Digit", laid_unicode_Digit), ("unicode.Letter", laid_unicode_Letter)], narrowed := true }
def AntiphonWantsUptoSaid : Prop := antiphonWantsUptoRow.holds Tryz.pinned (OpenSpec.upto antiphonWantsSpec)

/-- 'antiphonlaw13.AccessFull', WHERE WHAT IT READS IS OF BULK AT MOST 1048576: true; the input reads as it did. -/
def accessFullUptoRow : OpenClaim := { program := "ytoiieebljbhpbaagreatdoor", sum := "3250ee0528cb0534afcecadb6646f0452f7fd177a2a80b049d85c9b9f0587a69", func := "antiphon/antiphonlaw13.AccessFull", spec := "accessFull", inPlace := ["internal/abi.NoEscape"], unfollowed := true, recurses := true, named := ["unicode.properties", "unicode.Letter", "unicode.Digit", "unicode.CaseRanges"], plainKeys := false, apart := false, laid := [("unicode.properties", laid_unicode_properties), ("unicode.CaseRanges", laid_unicode_CaseRanges), ("unicode.Digit", laid_unicode_Digit), ("unicode.Letter", laid_unicode_Letter)], narrowed := true }
def AccessFullUptoSaid : Prop := accessFullUptoRow.holds Tryz.pinned (OpenSpec.upto accessFullSpec)

/-- 'antiphonlaw13.AccessSound', WHERE WHAT IT READS IS OF BULK AT MOST 1048576: true; the input reads as it did. -/
def accessSoundUptoRow : OpenClaim := { program := "ytoiieebljbhpbaagreatdoor", sum := "3250ee0528cb0534afcecadb6646f0452f7fd177a2a80b049d85c9b9f0587a69", func := "antiphon/antiphonlaw13.AccessSound", spec := "accessSound", inPlace := ["internal/abi.NoEscape"], unfollowed := true, recurses := true, named := ["unicode.properties", "unicode.Letter", "unicode.Digit", "unicode.CaseRanges"], plainKeys := false, apart := false, laid := [("unicode.properties", laid_unicode_properties), ("unicode.CaseRanges", laid_unicode_CaseRanges), ("unicode.Digit", laid_unicode_Digit), ("unicode.Letter", laid_unicode_Letter)], narrowed := true }
def AccessSoundUptoSaid : Prop := accessSoundUptoRow.holds Tryz.pinned (OpenSpec.upto accessSoundSpec)

/-- 'antiphonlaw13.AccessAnswers', WHERE WHAT IT READS IS OF BULK AT MOST 1048576: true; the input reads as it did. -/
def accessAnswersUptoRow : OpenClaim := { program := "ytoiieebljbhpbaagreatdoor", sum := "3250ee0528cb0534afcecadb6646f0452f7fd177a2a80b049d85c9b9f0587a69", func := "antiphon/antiphonlaw13.AccessAnswers", spec := "accessAnswers", inPlace := ["internal/abi.NoEscape"], unfollowed := true, recurses := true, named := ["unicode.properties", "unicode.Letter", "unicode.Digit", "unicode.CaseRanges"], plainKeys := false, apart := false, laid := [("unicode.properties", laid_unicode_properties), ("unicode.CaseRanges", laid_unicode_CaseRanges), ("unicode.Digit", laid_unicode_Digit), ("unicode.Letter", laid_unicode_Letter)], narrowed := true }
def AccessAnswersUptoSaid : Prop := accessAnswersUptoRow.holds Tryz.pinned (OpenSpec.upto accessAnswersSpec)

/-- 'antiphonlaw13.AccessGone', WHERE WHAT IT READS IS OF BULK AT MOST 1048576: true; the input reads as it did. -/
def accessGoneUptoRow : OpenClaim := { program := "ytoiieebljbhpbaagreatdoor", sum := "3250ee0528cb0534afcecadb6646f0452f7fd177a2a80b049d85c9b9f0587a69", func := "antiphon/antiphonlaw13.AccessGone", spec := "accessGone", inPlace := ["internal/abi.NoEscape"], unfollowed := true, recurses := true, named := ["unicode.properties", "unicode.Letter", "unicode.Digit", "unicode.CaseRanges"], plainKeys := false, apart := false, laid := [("unicode.properties", laid_unicode_properties), ("unicode.CaseRanges", laid_unicode_CaseRanges), ("unicode.Digit", laid_unicode_Digit), ("unicode.Letter", laid_unicode_Letter)], narrowed := true }
def AccessGoneUptoSaid : Prop := accessGoneUptoRow.holds Tryz.pinned (OpenSpec.upto accessGoneSpec)

/-- 'antiphonlaw13.AccessPlays', WHERE WHAT IT READS IS OF BULK AT MOST 1048576: true; the input reads as it did. -/
def accessPlaysUptoRow : OpenClaim := { program := "ytoiieebljbhpbaagreatdoor", sum := "3250ee0528cb0534afcecadb6646f0452f7fd177a2a80b049d85c9b9f0587a69", func := "antiphon/antiphonlaw13.AccessPlays", spec := "accessPlays", inPlace := ["internal/abi.NoEscape"], unfollowed := true, recurses := true, named := ["unicode.properties", "unicode.Letter", "unicode.Digit", "unicode.CaseRanges"], plainKeys := false, apart := false, laid := [("unicode.properties", laid_unicode_properties), ("unicode.CaseRanges", laid_unicode_CaseRanges), ("unicode.Digit", laid_unicode_Digit), ("unicode.Letter", laid_unicode_Letter)], narrowed := true }
def AccessPlaysUptoSaid : Prop := accessPlaysUptoRow.holds Tryz.pinned (OpenSpec.upto accessPlaysSpec)

end Rows
end Go.Proofs.YtoiieebljbhpbaaGreatDoor

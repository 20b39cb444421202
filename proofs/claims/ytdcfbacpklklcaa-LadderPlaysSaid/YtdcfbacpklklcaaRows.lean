/-
  No cell of these rows narrows 'for every input' (looked for: loops, veiled, ifaces, maps, wideKeys, modest, calm, conditions, laid).
  DERIVED. THE GIVEN ROWS OF THIS SEAT. 5 by the template 'for every input the law returns true; each argument reads behind the call as it read before'; 0 by the template 'total and deterministic' (their statements: YtdcfbacpklklcaaTotals.lean).
  GIVEN WITH THE SEED: the statements are not yours to turn. If you find one false, say at which input.
  Laid BY PROGRAM, IN A SANDBOX (cutbox-rows.mjs): the forced cells as the released guide's own fill.sh prints them over the translation 92d8a8bf8956f7bb… (all of the seat's roots in one cut). By AI agents, Wed Nov 11 2026. No macro, syntax, notation, axiom, sorry.
-/
import Derived.Test.YtdcfbacpklklcaaChecked
import GoSem.Claim
import GoSem.ClaimJoined
import GoSem.ClaimMapViews
import Derived.JoinedTies
import Derived.KernelRfl
namespace Go.Proofs.Ytdcfbacpklklcaa
/- THE CELL 'sum', in the pinned program and in every row, IS THE sha256 OF THE DUMP (.gsa) THAT YtdcfbacpklklcaaProg.lean LOADS. Nothing in Lean hashes anything: it is a label: what it is worth is what the hold of that sum in a sandbox is worth. -/
noncomputable def Try.pinned : Pinned := { name := "ytdcfbacpklklcaa", sum := "92d8a8bf8956f7bbcdfaa4a446a6204a0fdbfeafaca19a3ab348b0600db458ff", checked := Try.checked }
namespace Rows
def none {H : Type} : Left H := { results := [], args := [] }

/-- 'antiphonlaw10.FrameSounds': WHATEVER THE INPUT: true; the input reads as it did. -/
def frameSoundsSpec : ChangeSpec := { name := "frameSounds", fn := fun _ => fun
  | [d1, d2] => { results := [.lit (.bool true)], args := [d1, d2] }
  | _ => none }
def frameSoundsRow : OpenClaim := { program := "ytdcfbacpklklcaa", sum := "92d8a8bf8956f7bbcdfaa4a446a6204a0fdbfeafaca19a3ab348b0600db458ff", func := "antiphon/antiphonlaw10.FrameSounds", spec := "frameSounds", apart := false }
def FrameSoundsSaid : Prop := frameSoundsRow.holds Try.pinned (OpenSpec.ofChange frameSoundsSpec)

/-- ITS FALSE NEIGHBOUR: 'it returns false'. Refute it at one input. -/
def frameSoundsWrong : ChangeSpec := { name := "frameSounds", fn := fun _ => fun
  | [d1, d2] => { results := [.lit (.bool false)], args := [d1, d2] }
  | _ => none }
def FrameSoundsWrongFalsely : Prop := frameSoundsRow.holds Try.pinned (OpenSpec.ofChange frameSoundsWrong)

/-- 'antiphonlaw23.LadderWants': WHATEVER THE INPUT: true; the input reads as it did. -/
def ladderWantsSpec : ChangeSpec := { name := "ladderWants", fn := fun _ => fun
  | [d1, d2, d3, d4, d5, d6] => { results := [.lit (.bool true)], args := [d1, d2, d3, d4, d5, d6] }
  | _ => none }
def ladderWantsRow : OpenClaim := { program := "ytdcfbacpklklcaa", sum := "92d8a8bf8956f7bbcdfaa4a446a6204a0fdbfeafaca19a3ab348b0600db458ff", func := "antiphon/antiphonlaw23.LadderWants", spec := "ladderWants", apart := false }
def LadderWantsSaid : Prop := ladderWantsRow.holds Try.pinned (OpenSpec.ofChange ladderWantsSpec)

/-- ITS FALSE NEIGHBOUR: 'it returns false'. Refute it at one input. -/
def ladderWantsWrong : ChangeSpec := { name := "ladderWants", fn := fun _ => fun
  | [d1, d2, d3, d4, d5, d6] => { results := [.lit (.bool false)], args := [d1, d2, d3, d4, d5, d6] }
  | _ => none }
def LadderWantsWrongFalsely : Prop := ladderWantsRow.holds Try.pinned (OpenSpec.ofChange ladderWantsWrong)

/-- 'antiphonlaw23.LadderHolds': WHATEVER THE INPUT: true; the input reads as it did. -/
def ladderHoldsSpec : ChangeSpec := { name := "ladderHolds", fn := fun _ => fun
  | [d1, d2, d3, d4] => { results := [.lit (.bool true)], args := [d1, d2, d3, d4] }
  | _ => none }
def ladderHoldsRow : OpenClaim := { program := "ytdcfbacpklklcaa", sum := "92d8a8bf8956f7bbcdfaa4a446a6204a0fdbfeafaca19a3ab348b0600db458ff", func := "antiphon/antiphonlaw23.LadderHolds", spec := "ladderHolds", apart := false }
def LadderHoldsSaid : Prop := ladderHoldsRow.holds Try.pinned (OpenSpec.ofChange ladderHoldsSpec)

/-- ITS FALSE NEIGHBOUR: 'it returns false'. Refute it at one input. -/
def ladderHoldsWrong : ChangeSpec := { name := "ladderHolds", fn := fun _ => fun
  | [d1, d2, d3, d4] => { results := [.lit (.bool false)], args := [d1, d2, d3, d4] }
  | _ => none }
def LadderHoldsWrongFalsely : Prop := ladderHoldsRow.holds Try.pinned (OpenSpec.ofChange ladderHoldsWrong)

/-- 'antiphonlaw23.LadderPlays': WHATEVER THE INPUT: true; the input reads as it did. -/
def ladderPlaysSpec : ChangeSpec := { name := "ladderPlays", fn := fun _ => fun
  | [d1, d2, d3, d4, d5, d6] => { results := [.lit (.bool true)], args := [d1, d2, d3, d4, d5, d6] }
  | _ => none }
def ladderPlaysRow : OpenClaim := { program := "ytdcfbacpklklcaa", sum := "92d8a8bf8956f7bbcdfaa4a446a6204a0fdbfeafaca19a3ab348b0600db458ff", func := "antiphon/antiphonlaw23.LadderPlays", spec := "ladderPlays", apart := false }
def LadderPlaysSaid : Prop := ladderPlaysRow.holds Try.pinned (OpenSpec.ofChange ladderPlaysSpec)

/-- ITS FALSE NEIGHBOUR: 'it returns false'. Refute it at one input. -/
def ladderPlaysWrong : ChangeSpec := { name := "ladderPlays", fn := fun _ => fun
  | [d1, d2, d3, d4, d5, d6] => { results := [.lit (.bool false)], args := [d1, d2, d3, d4, d5, d6] }
  | _ => none }
def LadderPlaysWrongFalsely : Prop := ladderPlaysRow.holds Try.pinned (OpenSpec.ofChange ladderPlaysWrong)

/-- 'antiphonlaw23.LadderMay': WHATEVER THE INPUT: true; the input reads as it did. -/
def ladderMaySpec : ChangeSpec := { name := "ladderMay", fn := fun _ => fun
  | [d1, d2, d3] => { results := [.lit (.bool true)], args := [d1, d2, d3] }
  | _ => none }
def ladderMayRow : OpenClaim := { program := "ytdcfbacpklklcaa", sum := "92d8a8bf8956f7bbcdfaa4a446a6204a0fdbfeafaca19a3ab348b0600db458ff", func := "antiphon/antiphonlaw23.LadderMay", spec := "ladderMay", apart := false }
def LadderMaySaid : Prop := ladderMayRow.holds Try.pinned (OpenSpec.ofChange ladderMaySpec)

/-- ITS FALSE NEIGHBOUR: 'it returns false'. Refute it at one input. -/
def ladderMayWrong : ChangeSpec := { name := "ladderMay", fn := fun _ => fun
  | [d1, d2, d3] => { results := [.lit (.bool false)], args := [d1, d2, d3] }
  | _ => none }
def LadderMayWrongFalsely : Prop := ladderMayRow.holds Try.pinned (OpenSpec.ofChange ladderMayWrong)

/- THE SECOND FORM. 'bulk': how many values and letters a reading holds, each counted each time it is reached (what is shared counts as often as it is met; a slice's spare places count too). A statement '..UptoSaid' is the law's where the arguments, and the package variables that the reading takes, are together of bulk at most 1048576: NARROWER than '..Said'. Prove '..Said' where nothing that the law and all that it calls make is longer than what came in: it says more and counts as full. Else prove '..UptoSaid'. A law counts once. -/
mutual
def uptoBulk {H : Type} : DataW H → Nat
  | .lit (.string bytes) => bytes.length + 1
  | .lit _ => 1
  | .nil => 1
  | .ptr d => uptoBulk d + 1
  | .slice elems spare => uptoBulkAll elems + uptoBulkAll spare + 1
  | .agg parts => uptoBulkAll parts + 1
  | .iface _ d => uptoBulk d + 1
  | .map entries => uptoBulkEntries entries + 1
  | .held _ => 1
def uptoBulkAll {H : Type} : List (DataW H) → Nat
  | [] => 0
  | d :: r => uptoBulk d + uptoBulkAll r
def uptoBulkEntries {H : Type} : List (Lit × DataW H) → Nat
  | [] => 0
  | x :: r => uptoBulkEntry x + uptoBulkEntries r
def uptoBulkEntry {H : Type} : Lit × DataW H → Nat
  | (.string bytes, d) => bytes.length + uptoBulk d + 1
  | (_, d) => uptoBulk d + 1
 end
def uptoSmall : (H : Type) → List (DataW H) → Bool := fun _ ds => decide (uptoBulkAll ds ≤ 1048576)
def OpenSpec.upto (s : _root_.Go.ChangeSpec) : _root_.Go.OpenSpec := { _root_.Go.OpenSpec.ofChange s with cond := some uptoSmall }

/-- 'antiphonlaw10.FrameSounds', WHERE WHAT IT READS IS OF BULK AT MOST 1048576: true; the input reads as it did. -/
def frameSoundsUptoRow : OpenClaim := { program := "ytdcfbacpklklcaa", sum := "92d8a8bf8956f7bbcdfaa4a446a6204a0fdbfeafaca19a3ab348b0600db458ff", func := "antiphon/antiphonlaw10.FrameSounds", spec := "frameSounds", apart := false, narrowed := true }
def FrameSoundsUptoSaid : Prop := frameSoundsUptoRow.holds Try.pinned (OpenSpec.upto frameSoundsSpec)

/-- 'antiphonlaw23.LadderWants', WHERE WHAT IT READS IS OF BULK AT MOST 1048576: true; the input reads as it did. -/
def ladderWantsUptoRow : OpenClaim := { program := "ytdcfbacpklklcaa", sum := "92d8a8bf8956f7bbcdfaa4a446a6204a0fdbfeafaca19a3ab348b0600db458ff", func := "antiphon/antiphonlaw23.LadderWants", spec := "ladderWants", apart := false, narrowed := true }
def LadderWantsUptoSaid : Prop := ladderWantsUptoRow.holds Try.pinned (OpenSpec.upto ladderWantsSpec)

/-- 'antiphonlaw23.LadderHolds', WHERE WHAT IT READS IS OF BULK AT MOST 1048576: true; the input reads as it did. -/
def ladderHoldsUptoRow : OpenClaim := { program := "ytdcfbacpklklcaa", sum := "92d8a8bf8956f7bbcdfaa4a446a6204a0fdbfeafaca19a3ab348b0600db458ff", func := "antiphon/antiphonlaw23.LadderHolds", spec := "ladderHolds", apart := false, narrowed := true }
def LadderHoldsUptoSaid : Prop := ladderHoldsUptoRow.holds Try.pinned (OpenSpec.upto ladderHoldsSpec)

/-- 'antiphonlaw23.LadderPlays', WHERE WHAT IT READS IS OF BULK AT MOST 1048576: true; the input reads as it did. -/
def ladderPlaysUptoRow : OpenClaim := { program := "ytdcfbacpklklcaa", sum := "92d8a8bf8956f7bbcdfaa4a446a6204a0fdbfeafaca19a3ab348b0600db458ff", func := "antiphon/antiphonlaw23.LadderPlays", spec := "ladderPlays", apart := false, narrowed := true }
def LadderPlaysUptoSaid : Prop := ladderPlaysUptoRow.holds Try.pinned (OpenSpec.upto ladderPlaysSpec)

/-- 'antiphonlaw23.LadderMay', WHERE WHAT IT READS IS OF BULK AT MOST 1048576: true; the input reads as it did. -/
def ladderMayUptoRow : OpenClaim := { program := "ytdcfbacpklklcaa", sum := "92d8a8bf8956f7bbcdfaa4a446a6204a0fdbfeafaca19a3ab348b0600db458ff", func := "antiphon/antiphonlaw23.LadderMay", spec := "ladderMay", apart := false, narrowed := true }
def LadderMayUptoSaid : Prop := ladderMayUptoRow.holds Try.pinned (OpenSpec.upto ladderMaySpec)

end Rows
end Go.Proofs.Ytdcfbacpklklcaa

/-
  No cell of these rows narrows 'for every input' (looked for: loops, veiled, ifaces, maps, wideKeys, modest, calm, conditions, laid).
  DERIVED. THE GIVEN ROWS OF THIS SEAT. 5 by the template 'for every input the law returns true; each argument reads behind the call as it read before'; 0 by the template 'total and deterministic' (their statements: YtkbfbedphdlgiaaTotals.lean).
  GIVEN WITH THE SEED: the statements are not yours to turn. If you find one false, say at which input.
  Laid BY PROGRAM, IN A SANDBOX (cutbox-rows.mjs): the forced cells as the released guide's own fill.sh prints them over the translation ed021edaf57735b2… (all of the seat's roots in one cut). By AI agents, Wed Nov 11 2026. No macro, syntax, notation, axiom, sorry.
-/
import Derived.Test.YtkbfbedphdlgiaaChecked
import GoSem.Claim
import GoSem.ClaimJoined
import GoSem.ClaimMapViews
import Derived.JoinedTies
import Derived.KernelRfl
namespace Go.Proofs.Ytkbfbedphdlgiaa
/- THE CELL 'sum', in the pinned program and in every row, IS THE sha256 OF THE DUMP (.gsa) THAT YtkbfbedphdlgiaaProg.lean LOADS. Nothing in Lean hashes anything: it is a label: what it is worth is what the hold of that sum in a sandbox is worth. -/
noncomputable def Try.pinned : Pinned := { name := "ytkbfbedphdlgiaa", sum := "ed021edaf57735b2f50f8ef25158394f46059cdd6a2b181ff01613e8e015a479", checked := Try.checked }
namespace Rows
def none {H : Type} : Left H := { results := [], args := [] }

/-- 'antiphonlaw09.ReorderMay': WHATEVER THE INPUT: true; the input reads as it did. -/
def reorderMaySpec : ChangeSpec := { name := "reorderMay", fn := fun _ => fun
  | [d1, d2] => { results := [.lit (.bool true)], args := [d1, d2] }
  | _ => none }
def reorderMayRow : OpenClaim := { program := "ytkbfbedphdlgiaa", sum := "ed021edaf57735b2f50f8ef25158394f46059cdd6a2b181ff01613e8e015a479", func := "antiphon/antiphonlaw09.ReorderMay", spec := "reorderMay", unfollowed := true, recurses := true, apart := false }
def ReorderMaySaid : Prop := reorderMayRow.holds Try.pinned (OpenSpec.ofChange reorderMaySpec)

/-- ITS FALSE NEIGHBOUR: 'it returns false'. Refute it at one input. -/
def reorderMayWrong : ChangeSpec := { name := "reorderMay", fn := fun _ => fun
  | [d1, d2] => { results := [.lit (.bool false)], args := [d1, d2] }
  | _ => none }
def ReorderMayWrongFalsely : Prop := reorderMayRow.holds Try.pinned (OpenSpec.ofChange reorderMayWrong)

/-- 'antiphonlaw09.ReorderPerm': WHATEVER THE INPUT: true; the input reads as it did. -/
def reorderPermSpec : ChangeSpec := { name := "reorderPerm", fn := fun _ => fun
  | [d] => { results := [.lit (.bool true)], args := [d] }
  | _ => none }
def reorderPermRow : OpenClaim := { program := "ytkbfbedphdlgiaa", sum := "ed021edaf57735b2f50f8ef25158394f46059cdd6a2b181ff01613e8e015a479", func := "antiphon/antiphonlaw09.ReorderPerm", spec := "reorderPerm", unfollowed := true, recurses := true, apart := false }
def ReorderPermSaid : Prop := reorderPermRow.holds Try.pinned (OpenSpec.ofChange reorderPermSpec)

/-- ITS FALSE NEIGHBOUR: 'it returns false'. Refute it at one input. -/
def reorderPermWrong : ChangeSpec := { name := "reorderPerm", fn := fun _ => fun
  | [d] => { results := [.lit (.bool false)], args := [d] }
  | _ => none }
def ReorderPermWrongFalsely : Prop := reorderPermRow.holds Try.pinned (OpenSpec.ofChange reorderPermWrong)

/-- 'antiphonlaw09.ReorderNone': WHATEVER THE INPUT: true; the input reads as it did. -/
def reorderNoneSpec : ChangeSpec := { name := "reorderNone", fn := fun _ => fun
  | [d1, d2] => { results := [.lit (.bool true)], args := [d1, d2] }
  | _ => none }
def reorderNoneRow : OpenClaim := { program := "ytkbfbedphdlgiaa", sum := "ed021edaf57735b2f50f8ef25158394f46059cdd6a2b181ff01613e8e015a479", func := "antiphon/antiphonlaw09.ReorderNone", spec := "reorderNone", unfollowed := true, recurses := true, apart := false }
def ReorderNoneSaid : Prop := reorderNoneRow.holds Try.pinned (OpenSpec.ofChange reorderNoneSpec)

/-- ITS FALSE NEIGHBOUR: 'it returns false'. Refute it at one input. -/
def reorderNoneWrong : ChangeSpec := { name := "reorderNone", fn := fun _ => fun
  | [d1, d2] => { results := [.lit (.bool false)], args := [d1, d2] }
  | _ => none }
def ReorderNoneWrongFalsely : Prop := reorderNoneRow.holds Try.pinned (OpenSpec.ofChange reorderNoneWrong)

/-- 'antiphonlaw09.ReorderWaits': WHATEVER THE INPUT: true; the input reads as it did. -/
def reorderWaitsSpec : ChangeSpec := { name := "reorderWaits", fn := fun _ => fun
  | [d1, d2, d3] => { results := [.lit (.bool true)], args := [d1, d2, d3] }
  | _ => none }
def reorderWaitsRow : OpenClaim := { program := "ytkbfbedphdlgiaa", sum := "ed021edaf57735b2f50f8ef25158394f46059cdd6a2b181ff01613e8e015a479", func := "antiphon/antiphonlaw09.ReorderWaits", spec := "reorderWaits", unfollowed := true, recurses := true, apart := false }
def ReorderWaitsSaid : Prop := reorderWaitsRow.holds Try.pinned (OpenSpec.ofChange reorderWaitsSpec)

/-- ITS FALSE NEIGHBOUR: 'it returns false'. Refute it at one input. -/
def reorderWaitsWrong : ChangeSpec := { name := "reorderWaits", fn := fun _ => fun
  | [d1, d2, d3] => { results := [.lit (.bool false)], args := [d1, d2, d3] }
  | _ => none }
def ReorderWaitsWrongFalsely : Prop := reorderWaitsRow.holds Try.pinned (OpenSpec.ofChange reorderWaitsWrong)

/-- 'antiphonlaw09.ReorderPlays': WHATEVER THE INPUT: true; the input reads as it did. -/
def reorderPlaysSpec : ChangeSpec := { name := "reorderPlays", fn := fun _ => fun
  | [d1, d2, d3] => { results := [.lit (.bool true)], args := [d1, d2, d3] }
  | _ => none }
def reorderPlaysRow : OpenClaim := { program := "ytkbfbedphdlgiaa", sum := "ed021edaf57735b2f50f8ef25158394f46059cdd6a2b181ff01613e8e015a479", func := "antiphon/antiphonlaw09.ReorderPlays", spec := "reorderPlays", unfollowed := true, recurses := true, apart := false }
def ReorderPlaysSaid : Prop := reorderPlaysRow.holds Try.pinned (OpenSpec.ofChange reorderPlaysSpec)

/-- ITS FALSE NEIGHBOUR: 'it returns false'. Refute it at one input. -/
def reorderPlaysWrong : ChangeSpec := { name := "reorderPlays", fn := fun _ => fun
  | [d1, d2, d3] => { results := [.lit (.bool false)], args := [d1, d2, d3] }
  | _ => none }
def ReorderPlaysWrongFalsely : Prop := reorderPlaysRow.holds Try.pinned (OpenSpec.ofChange reorderPlaysWrong)

/- THE SECOND FORM. 'bulk': how many values and letters a reading holds, each counted each time it is reached (what is shared counts as often as it is met; a slice's spare places count too). A statement '..UptoSaid' is the law's where the arguments, and the package variables that the reading takes, are together of bulk at most 1048576: NARROWER than '..Said'. Prove '..Said' where nothing that the law and all that it calls make is longer than what came in: it says more and counts as full. Else prove '..UptoSaid'. A law counts once. -/
mutual
def uptoBulk {H : Type} : DataW H → Nat
  | .lit (.string bytes) => bytes.length + 1
  | .lit _ => 1
  | .nil => 1
  | .ptr d => uptoBulk d + 1
  | .slice elems spare => uptoBulkAll elems + uptoBulkAll spare + 1
  | .agg parts => uptoBulkAll parts + 1
  | .iface _ d => uptoBulk d + 1
  | .map entries => uptoBulkEntries entries + 1
  | .held _ => 1
def uptoBulkAll {H : Type} : List (DataW H) → Nat
  | [] => 0
  | d :: r => uptoBulk d + uptoBulkAll r
def uptoBulkEntries {H : Type} : List (Lit × DataW H) → Nat
  | [] => 0
  | x :: r => uptoBulkEntry x + uptoBulkEntries r
def uptoBulkEntry {H : Type} : Lit × DataW H → Nat
  | (.string bytes, d) => bytes.length + uptoBulk d + 1
  | (_, d) => uptoBulk d + 1
 end
def uptoSmall : (H : Type) → List (DataW H) → Bool := fun _ ds => decide (uptoBulkAll ds ≤ 1048576)
def OpenSpec.upto (s : _root_.Go.ChangeSpec) : _root_.Go.OpenSpec := { _root_.Go.OpenSpec.ofChange s with cond := some uptoSmall }

/-- 'antiphonlaw09.ReorderMay', WHERE WHAT IT READS IS OF BULK AT MOST 1048576: true; the input reads as it did. -/
def reorderMayUptoRow : OpenClaim := { program := "ytkbfbedphdlgiaa", sum := "ed021edaf57735b2f50f8ef25158394f46059cdd6a2b181ff01613e8e015a479", func := "antiphon/antiphonlaw09.ReorderMay", spec := "reorderMay", unfollowed := true, recurses := true, apart := false, narrowed := true }
def ReorderMayUptoSaid : Prop := reorderMayUptoRow.holds Try.pinned (OpenSpec.upto reorderMaySpec)

/-- 'antiphonlaw09.ReorderPerm', WHERE WHAT IT READS IS OF BULK AT MOST 1048576: true; the input reads as it did. -/
def reorderPermUptoRow : OpenClaim := { program := "ytkbfbedphdlgiaa", sum := "ed021edaf57735b2f50f8ef25158394f46059cdd6a2b181ff01613e8e015a479", func := "antiphon/antiphonlaw09.ReorderPerm", spec := "reorderPerm", unfollowed := true, recurses := true, apart := false, narrowed := true }
def ReorderPermUptoSaid : Prop := reorderPermUptoRow.holds Try.pinned (OpenSpec.upto reorderPermSpec)

/-- 'antiphonlaw09.ReorderNone', WHERE WHAT IT READS IS OF BULK AT MOST 1048576: true; the input reads as it did. -/
def reorderNoneUptoRow : OpenClaim := { program := "ytkbfbedphdlgiaa", sum := "ed021edaf57735b2f50f8ef25158394f46059cdd6a2b181ff01613e8e015a479", func := "antiphon/antiphonlaw09.ReorderNone", spec := "reorderNone", unfollowed := true, recurses := true, apart := false, narrowed := true }
def ReorderNoneUptoSaid : Prop := reorderNoneUptoRow.holds Try.pinned (OpenSpec.upto reorderNoneSpec)

/-- 'antiphonlaw09.ReorderWaits', WHERE WHAT IT READS IS OF BULK AT MOST 1048576: true; the input reads as it did. -/
def reorderWaitsUptoRow : OpenClaim := { program := "ytkbfbedphdlgiaa", sum := "ed021edaf57735b2f50f8ef25158394f46059cdd6a2b181ff01613e8e015a479", func := "antiphon/antiphonlaw09.ReorderWaits", spec := "reorderWaits", unfollowed := true, recurses := true, apart := false, narrowed := true }
def ReorderWaitsUptoSaid : Prop := reorderWaitsUptoRow.holds Try.pinned (OpenSpec.upto reorderWaitsSpec)

/-- 'antiphonlaw09.ReorderPlays', WHERE WHAT IT READS IS OF BULK AT MOST 1048576: true; the input reads as it did. -/
def reorderPlaysUptoRow : OpenClaim := { program := "ytkbfbedphdlgiaa", sum := "ed021edaf57735b2f50f8ef25158394f46059cdd6a2b181ff01613e8e015a479", func := "antiphon/antiphonlaw09.ReorderPlays", spec := "reorderPlays", unfollowed := true, recurses := true, apart := false, narrowed := true }
def ReorderPlaysUptoSaid : Prop := reorderPlaysUptoRow.holds Try.pinned (OpenSpec.upto reorderPlaysSpec)

end Rows
end Go.Proofs.Ytkbfbedphdlgiaa

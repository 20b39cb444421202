/-
  No cell of these rows narrows 'for every input' (looked for: loops, veiled, ifaces, maps, wideKeys, modest, calm, conditions, laid).
  DERIVED. THE GIVEN ROWS OF THIS SEAT. 5 by the template 'for every input the law returns true; each argument reads behind the call as it read before'; 0 by the template 'total and deterministic' (their statements: YtnoeflijefijcaaTotals.lean).
  GIVEN WITH THE SEED: the statements are not yours to turn. If you find one false, say at which input.
  Laid BY PROGRAM, IN A SANDBOX (cutbox-rows.mjs): the forced cells as the released guide's own fill.sh prints them over the translation 5ec5f5202c85d4e2… (all of the seat's roots in one cut). By AI agents, Wed Nov 11 2026. No macro, syntax, notation, axiom, sorry.
-/
import Derived.Test.YtnoeflijefijcaaChecked
import GoSem.Claim
import GoSem.ClaimJoined
import GoSem.ClaimMapViews
import Derived.JoinedTies
import Derived.KernelRfl
namespace Go.Proofs.Ytnoeflijefijcaa
/- THE CELL 'sum', in the pinned program and in every row, IS THE sha256 OF THE DUMP (.gsa) THAT YtnoeflijefijcaaProg.lean LOADS. Nothing in Lean hashes anything: it is a label: what it is worth is what the hold of that sum in a sandbox is worth. -/
noncomputable def Try.pinned : Pinned := { name := "ytnoeflijefijcaa", sum := "5ec5f5202c85d4e2676bb6430659c85f7963d31f2882ba0d71f113b499db9cbc", checked := Try.checked }
namespace Rows
def none {H : Type} : Left H := { results := [], args := [] }

/-- 'antiphonlaw20.EgressMay': WHATEVER THE INPUT: true; the input reads as it did. -/
def egressMaySpec : ChangeSpec := { name := "egressMay", fn := fun _ => fun
  | [d1, d2, d3] => { results := [.lit (.bool true)], args := [d1, d2, d3] }
  | _ => none }
def egressMayRow : OpenClaim := { program := "ytnoeflijefijcaa", sum := "5ec5f5202c85d4e2676bb6430659c85f7963d31f2882ba0d71f113b499db9cbc", func := "antiphon/antiphonlaw20.EgressMay", spec := "egressMay", unfollowed := true, recurses := true, apart := false }
def EgressMaySaid : Prop := egressMayRow.holds Try.pinned (OpenSpec.ofChange egressMaySpec)

/-- ITS FALSE NEIGHBOUR: 'it returns false'. Refute it at one input. -/
def egressMayWrong : ChangeSpec := { name := "egressMay", fn := fun _ => fun
  | [d1, d2, d3] => { results := [.lit (.bool false)], args := [d1, d2, d3] }
  | _ => none }
def EgressMayWrongFalsely : Prop := egressMayRow.holds Try.pinned (OpenSpec.ofChange egressMayWrong)

/-- 'antiphonlaw20.EgressGuard': WHATEVER THE INPUT: true; the input reads as it did. -/
def egressGuardSpec : ChangeSpec := { name := "egressGuard", fn := fun _ => fun
  | [d1, d2, d3] => { results := [.lit (.bool true)], args := [d1, d2, d3] }
  | _ => none }
def egressGuardRow : OpenClaim := { program := "ytnoeflijefijcaa", sum := "5ec5f5202c85d4e2676bb6430659c85f7963d31f2882ba0d71f113b499db9cbc", func := "antiphon/antiphonlaw20.EgressGuard", spec := "egressGuard", unfollowed := true, recurses := true, apart := false }
def EgressGuardSaid : Prop := egressGuardRow.holds Try.pinned (OpenSpec.ofChange egressGuardSpec)

/-- ITS FALSE NEIGHBOUR: 'it returns false'. Refute it at one input. -/
def egressGuardWrong : ChangeSpec := { name := "egressGuard", fn := fun _ => fun
  | [d1, d2, d3] => { results := [.lit (.bool false)], args := [d1, d2, d3] }
  | _ => none }
def EgressGuardWrongFalsely : Prop := egressGuardRow.holds Try.pinned (OpenSpec.ofChange egressGuardWrong)

/-- 'antiphonlaw20.EgressNone': WHATEVER THE INPUT: true; the input reads as it did. -/
def egressNoneSpec : ChangeSpec := { name := "egressNone", fn := fun _ => fun
  | [d1, d2, d3] => { results := [.lit (.bool true)], args := [d1, d2, d3] }
  | _ => none }
def egressNoneRow : OpenClaim := { program := "ytnoeflijefijcaa", sum := "5ec5f5202c85d4e2676bb6430659c85f7963d31f2882ba0d71f113b499db9cbc", func := "antiphon/antiphonlaw20.EgressNone", spec := "egressNone", unfollowed := true, recurses := true, apart := false }
def EgressNoneSaid : Prop := egressNoneRow.holds Try.pinned (OpenSpec.ofChange egressNoneSpec)

/-- ITS FALSE NEIGHBOUR: 'it returns false'. Refute it at one input. -/
def egressNoneWrong : ChangeSpec := { name := "egressNone", fn := fun _ => fun
  | [d1, d2, d3] => { results := [.lit (.bool false)], args := [d1, d2, d3] }
  | _ => none }
def EgressNoneWrongFalsely : Prop := egressNoneRow.holds Try.pinned (OpenSpec.ofChange egressNoneWrong)

/-- 'antiphonlaw20.EgressAge': WHATEVER THE INPUT: true; the input reads as it did. -/
def egressAgeSpec : ChangeSpec := { name := "egressAge", fn := fun _ => fun
  | [d1, d2, d3] => { results := [.lit (.bool true)], args := [d1, d2, d3] }
  | _ => none }
def egressAgeRow : OpenClaim := { program := "ytnoeflijefijcaa", sum := "5ec5f5202c85d4e2676bb6430659c85f7963d31f2882ba0d71f113b499db9cbc", func := "antiphon/antiphonlaw20.EgressAge", spec := "egressAge", unfollowed := true, recurses := true, apart := false }
def EgressAgeSaid : Prop := egressAgeRow.holds Try.pinned (OpenSpec.ofChange egressAgeSpec)

/-- ITS FALSE NEIGHBOUR: 'it returns false'. Refute it at one input. -/
def egressAgeWrong : ChangeSpec := { name := "egressAge", fn := fun _ => fun
  | [d1, d2, d3] => { results := [.lit (.bool false)], args := [d1, d2, d3] }
  | _ => none }
def EgressAgeWrongFalsely : Prop := egressAgeRow.holds Try.pinned (OpenSpec.ofChange egressAgeWrong)

/-- 'antiphonlaw20.EgressPlays': WHATEVER THE INPUT: true; the input reads as it did. -/
def egressPlaysSpec : ChangeSpec := { name := "egressPlays", fn := fun _ => fun
  | [d1, d2, d3] => { results := [.lit (.bool true)], args := [d1, d2, d3] }
  | _ => none }
def egressPlaysRow : OpenClaim := { program := "ytnoeflijefijcaa", sum := "5ec5f5202c85d4e2676bb6430659c85f7963d31f2882ba0d71f113b499db9cbc", func := "antiphon/antiphonlaw20.EgressPlays", spec := "egressPlays", unfollowed := true, recurses := true, apart := false }
def EgressPlaysSaid : Prop := egressPlaysRow.holds Try.pinned (OpenSpec.ofChange egressPlaysSpec)

/-- ITS FALSE NEIGHBOUR: 'it returns false'. Refute it at one input. -/
def egressPlaysWrong : ChangeSpec := { name := "egressPlays", fn := fun _ => fun
  | [d1, d2, d3] => { results := [.lit (.bool false)], args := [d1, d2, d3] }
  | _ => none }
def EgressPlaysWrongFalsely : Prop := egressPlaysRow.holds Try.pinned (OpenSpec.ofChange egressPlaysWrong)

/- THE SECOND FORM. 'bulk': how many values and letters a reading holds, each counted each time it is reached (what is shared counts as often as it is met; a slice's spare places count too). A statement '..UptoSaid' is the law's where the arguments, and the package variables that the reading takes, are together of bulk at most 1048576: NARROWER than '..Said'. Prove '..Said' where nothing that the law and all that it calls make is longer than what came in: it says more and counts as full. Else prove '..UptoSaid'. A law counts once. -/
mutual
def uptoBulk {H : Type} : DataW H → Nat
  | .lit (.string bytes) => bytes.length + 1
  | .lit _ => 1
  | .nil => 1
  | .ptr d => uptoBulk d + 1
  | .slice elems spare => uptoBulkAll elems + uptoBulkAll spare + 1
  | .agg parts => uptoBulkAll parts + 1
  | .iface _ d => uptoBulk d + 1
  | .map entries => uptoBulkEntries entries + 1
  | .held _ => 1
def uptoBulkAll {H : Type} : List (DataW H) → Nat
  | [] => 0
  | d :: r => uptoBulk d + uptoBulkAll r
def uptoBulkEntries {H : Type} : List (Lit × DataW H) → Nat
  | [] => 0
  | x :: r => uptoBulkEntry x + uptoBulkEntries r
def uptoBulkEntry {H : Type} : Lit × DataW H → Nat
  | (.string bytes, d) => bytes.length + uptoBulk d + 1
  | (_, d) => uptoBulk d + 1
 end
def uptoSmall : (H : Type) → List (DataW H) → Bool := fun _ ds => decide (uptoBulkAll ds ≤ 1048576)
def OpenSpec.upto (s : _root_.Go.ChangeSpec) : _root_.Go.OpenSpec := { _root_.Go.OpenSpec.ofChange s with cond := some uptoSmall }

/-- 'antiphonlaw20.EgressMay', WHERE WHAT IT READS IS OF BULK AT MOST 1048576: true; the input reads as it did. -/
def egressMayUptoRow : OpenClaim := { program := "ytnoeflijefijcaa", sum := "5ec5f5202c85d4e2676bb6430659c85f7963d31f2882ba0d71f113b499db9cbc", func := "antiphon/antiphonlaw20.EgressMay", spec := "egressMay", unfollowed := true, recurses := true, apart := false, narrowed := true }
def EgressMayUptoSaid : Prop := egressMayUptoRow.holds Try.pinned (OpenSpec.upto egressMaySpec)

/-- 'antiphonlaw20.EgressGuard', WHERE WHAT IT READS IS OF BULK AT MOST 1048576: true; the input reads as it did. -/
def egressGuardUptoRow : OpenClaim := { program := "ytnoeflijefijcaa", sum := "5ec5f5202c85d4e2676bb6430659c85f7963d31f2882ba0d71f113b499db9cbc", func := "antiphon/antiphonlaw20.EgressGuard", spec := "egressGuard", unfollowed := true, recurses := true, apart := false, narrowed := true }
def EgressGuardUptoSaid : Prop := egressGuardUptoRow.holds Try.pinned (OpenSpec.upto egressGuardSpec)

/-- 'antiphonlaw20.EgressNone', WHERE WHAT IT READS IS OF BULK AT MOST 1048576: true; the input reads as it did. -/
def egressNoneUptoRow : OpenClaim := { program := "ytnoeflijefijcaa", sum := "5ec5f5202c85d4e2676bb6430659c85f7963d31f2882ba0d71f113b499db9cbc", func := "antiphon/antiphonlaw20.EgressNone", spec := "egressNone", unfollowed := true, recurses := true, apart := false, narrowed := true }
def EgressNoneUptoSaid : Prop := egressNoneUptoRow.holds Try.pinned (OpenSpec.upto egressNoneSpec)

/-- 'antiphonlaw20.EgressAge', WHERE WHAT IT READS IS OF BULK AT MOST 1048576: true; the input reads as it did. -/
def egressAgeUptoRow : OpenClaim := { program := "ytnoeflijefijcaa", sum := "5ec5f5202c85d4e2676bb6430659c85f7963d31f2882ba0d71f113b499db9cbc", func := "antiphon/antiphonlaw20.EgressAge", spec := "egressAge", unfollowed := true, recurses := true, apart := false, narrowed := true }
def EgressAgeUptoSaid : Prop := egressAgeUptoRow.holds Try.pinned (OpenSpec.upto egressAgeSpec)

/-- 'antiphonlaw20.EgressPlays', WHERE WHAT IT READS IS OF BULK AT MOST 1048576: true; the input reads as it did. -/
def egressPlaysUptoRow : OpenClaim := { program := "ytnoeflijefijcaa", sum := "5ec5f5202c85d4e2676bb6430659c85f7963d31f2882ba0d71f113b499db9cbc", func := "antiphon/antiphonlaw20.EgressPlays", spec := "egressPlays", unfollowed := true, recurses := true, apart := false, narrowed := true }
def EgressPlaysUptoSaid : Prop := egressPlaysUptoRow.holds Try.pinned (OpenSpec.upto egressPlaysSpec)

end Rows
end Go.Proofs.Ytnoeflijefijcaa

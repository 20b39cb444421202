/-
  No cell of these rows narrows 'for every input' (looked for: loops, veiled, ifaces, maps, wideKeys, modest, calm, conditions, laid).
  DERIVED. THE GIVEN ROWS OF THIS SEAT. 4 by the template 'for every input the law returns true; each argument reads behind the call as it read before'; 0 by the template 'total and deterministic' (their statements: YtbijdlgffebenaaTotals.lean).
  GIVEN WITH THE SEED: the statements are not yours to turn. If you find one false, say at which input.
  Laid BY PROGRAM, IN A SANDBOX (cutbox-rows.mjs): the forced cells as the released guide's own fill.sh prints them over the translation 1e49d6e7639eaa2f… (all of the seat's roots in one cut). By AI agents, Wed Nov 11 2026. No macro, syntax, notation, axiom, sorry.
-/
import Derived.Test.YtbijdlgffebenaaChecked
import GoSem.Claim
import GoSem.ClaimJoined
import GoSem.ClaimMapViews
import Derived.JoinedTies
import Derived.KernelRfl
namespace Go.Proofs.Ytbijdlgffebenaa
/- THE CELL 'sum', in the pinned program and in every row, IS THE sha256 OF THE DUMP (.gsa) THAT YtbijdlgffebenaaProg.lean LOADS. Nothing in Lean hashes anything: it is a label: what it is worth is what the hold of that sum in a sandbox is worth. -/
noncomputable def Try.pinned : Pinned := { name := "ytbijdlgffebenaa", sum := "1e49d6e7639eaa2ff7f7dd44c8f6804fd6738006f221fcf6e691f13150471a72", checked := Try.checked }
namespace Rows
def none {H : Type} : Left H := { results := [], args := [] }

/-- 'antiphonlaw11.IngressSame': WHATEVER THE INPUT: true; the input reads as it did. -/
def ingressSameSpec : ChangeSpec := { name := "ingressSame", fn := fun _ => fun
  | [d1, d2, d3] => { results := [.lit (.bool true)], args := [d1, d2, d3] }
  | _ => none }
def ingressSameRow : OpenClaim := { program := "ytbijdlgffebenaa", sum := "1e49d6e7639eaa2ff7f7dd44c8f6804fd6738006f221fcf6e691f13150471a72", func := "antiphon/antiphonlaw11.IngressSame", spec := "ingressSame", inPlace := ["internal/abi.NoEscape"], unfollowed := true, recurses := true, apart := false }
def IngressSameSaid : Prop := ingressSameRow.holds Try.pinned (OpenSpec.ofChange ingressSameSpec)

/-- ITS FALSE NEIGHBOUR: 'it returns false'. Refute it at one input. -/
def ingressSameWrong : ChangeSpec := { name := "ingressSame", fn := fun _ => fun
  | [d1, d2, d3] => { results := [.lit (.bool false)], args := [d1, d2, d3] }
  | _ => none }
def IngressSameWrongFalsely : Prop := ingressSameRow.holds Try.pinned (OpenSpec.ofChange ingressSameWrong)

/-- 'antiphonlaw11.IngressSounds': WHATEVER THE INPUT: true; the input reads as it did. -/
def ingressSoundsSpec : ChangeSpec := { name := "ingressSounds", fn := fun _ => fun
  | [d1, d2] => { results := [.lit (.bool true)], args := [d1, d2] }
  | _ => none }
def ingressSoundsRow : OpenClaim := { program := "ytbijdlgffebenaa", sum := "1e49d6e7639eaa2ff7f7dd44c8f6804fd6738006f221fcf6e691f13150471a72", func := "antiphon/antiphonlaw11.IngressSounds", spec := "ingressSounds", inPlace := ["internal/abi.NoEscape"], unfollowed := true, recurses := true, apart := false }
def IngressSoundsSaid : Prop := ingressSoundsRow.holds Try.pinned (OpenSpec.ofChange ingressSoundsSpec)

/-- ITS FALSE NEIGHBOUR: 'it returns false'. Refute it at one input. -/
def ingressSoundsWrong : ChangeSpec := { name := "ingressSounds", fn := fun _ => fun
  | [d1, d2] => { results := [.lit (.bool false)], args := [d1, d2] }
  | _ => none }
def IngressSoundsWrongFalsely : Prop := ingressSoundsRow.holds Try.pinned (OpenSpec.ofChange ingressSoundsWrong)

/-- 'antiphonlaw11.IngressMay': WHATEVER THE INPUT: true; the input reads as it did. -/
def ingressMaySpec : ChangeSpec := { name := "ingressMay", fn := fun _ => fun
  | [d1, d2, d3, d4] => { results := [.lit (.bool true)], args := [d1, d2, d3, d4] }
  | _ => none }
def ingressMayRow : OpenClaim := { program := "ytbijdlgffebenaa", sum := "1e49d6e7639eaa2ff7f7dd44c8f6804fd6738006f221fcf6e691f13150471a72", func := "antiphon/antiphonlaw11.IngressMay", spec := "ingressMay", inPlace := ["internal/abi.NoEscape"], unfollowed := true, recurses := true, apart := false }
def IngressMaySaid : Prop := ingressMayRow.holds Try.pinned (OpenSpec.ofChange ingressMaySpec)

/-- ITS FALSE NEIGHBOUR: 'it returns false'. Refute it at one input. -/
def ingressMayWrong : ChangeSpec := { name := "ingressMay", fn := fun _ => fun
  | [d1, d2, d3, d4] => { results := [.lit (.bool false)], args := [d1, d2, d3, d4] }
  | _ => none }
def IngressMayWrongFalsely : Prop := ingressMayRow.holds Try.pinned (OpenSpec.ofChange ingressMayWrong)

/-- 'antiphonlaw11.IngressLost': WHATEVER THE INPUT: true; the input reads as it did. -/
def ingressLostSpec : ChangeSpec := { name := "ingressLost", fn := fun _ => fun
  | [d1, d2, d3] => { results := [.lit (.bool true)], args := [d1, d2, d3] }
  | _ => none }
def ingressLostRow : OpenClaim := { program := "ytbijdlgffebenaa", sum := "1e49d6e7639eaa2ff7f7dd44c8f6804fd6738006f221fcf6e691f13150471a72", func := "antiphon/antiphonlaw11.IngressLost", spec := "ingressLost", inPlace := ["internal/abi.NoEscape"], unfollowed := true, recurses := true, apart := false }
def IngressLostSaid : Prop := ingressLostRow.holds Try.pinned (OpenSpec.ofChange ingressLostSpec)

/-- ITS FALSE NEIGHBOUR: 'it returns false'. Refute it at one input. -/
def ingressLostWrong : ChangeSpec := { name := "ingressLost", fn := fun _ => fun
  | [d1, d2, d3] => { results := [.lit (.bool false)], args := [d1, d2, d3] }
  | _ => none }
def IngressLostWrongFalsely : Prop := ingressLostRow.holds Try.pinned (OpenSpec.ofChange ingressLostWrong)

/- THE SECOND FORM. 'bulk': how many values and letters a reading holds, each counted each time it is reached (what is shared counts as often as it is met; a slice's spare places count too). A statement '..UptoSaid' is the law's where the arguments, and the package variables that the reading takes, are together of bulk at most 1048576: NARROWER than '..Said'. Prove '..Said' where nothing that the law and all that it calls make is longer than what came in: it says more and counts as full. Else prove '..UptoSaid'. A law counts once. -/
mutual
def uptoBulk {H : Type} : DataW H → Nat
  | .lit (.string bytes) => bytes.length + 1
  | .lit _ => 1
  | .nil => 1
  | .ptr d => uptoBulk d + 1
  | .slice elems spare => uptoBulkAll elems + uptoBulkAll spare + 1
  | .agg parts => uptoBulkAll parts + 1
  | .iface _ d => uptoBulk d + 1
  | .map entries => uptoBulkEntries entries + 1
  | .held _ => 1
def uptoBulkAll {H : Type} : List (DataW H) → Nat
  | [] => 0
  | d :: r => uptoBulk d + uptoBulkAll r
def uptoBulkEntries {H : Type} : List (Lit × DataW H) → Nat
  | [] => 0
  | x :: r => uptoBulkEntry x + uptoBulkEntries r
def uptoBulkEntry {H : Type} : Lit × DataW H → Nat
  | (.string bytes, d) => bytes.length + uptoBulk d + 1
  | (_, d) => uptoBulk d + 1
 end
def uptoSmall : (H : Type) → List (DataW H) → Bool := fun _ ds => decide (uptoBulkAll ds ≤ 1048576)
def OpenSpec.upto (s : _root_.Go.ChangeSpec) : _root_.Go.OpenSpec := { _root_.Go.OpenSpec.ofChange s with cond := some uptoSmall }

/-- 'antiphonlaw11.IngressSame', WHERE WHAT IT READS IS OF BULK AT MOST 1048576: true; the input reads as it did. -/
def ingressSameUptoRow : OpenClaim := { program := "ytbijdlgffebenaa", sum := "1e49d6e7639eaa2ff7f7dd44c8f6804fd6738006f221fcf6e691f13150471a72", func := "antiphon/antiphonlaw11.IngressSame", spec := "ingressSame", inPlace := ["internal/abi.NoEscape"], unfollowed := true, recurses := true, apart := false, narrowed := true }
def IngressSameUptoSaid : Prop := ingressSameUptoRow.holds Try.pinned (OpenSpec.upto ingressSameSpec)

/-- 'antiphonlaw11.IngressSounds', WHERE WHAT IT READS IS OF BULK AT MOST 1048576: true; the input reads as it did. -/
def ingressSoundsUptoRow : OpenClaim := { program := "ytbijdlgffebenaa", sum := "1e49d6e7639eaa2ff7f7dd44c8f6804fd6738006f221fcf6e691f13150471a72", func := "antiphon/antiphonlaw11.IngressSounds", spec := "ingressSounds", inPlace := ["internal/abi.NoEscape"], unfollowed := true, recurses := true, apart := false, narrowed := true }
def IngressSoundsUptoSaid : Prop := ingressSoundsUptoRow.holds Try.pinned (OpenSpec.upto ingressSoundsSpec)

/-- 'antiphonlaw11.IngressMay', WHERE WHAT IT READS IS OF BULK AT MOST 1048576: true; the input reads as it did. -/
def ingressMayUptoRow : OpenClaim := { program := "ytbijdlgffebenaa", sum := "1e49d6e7639eaa2ff7f7dd44c8f6804fd6738006f221fcf6e691f13150471a72", func := "antiphon/antiphonlaw11.IngressMay", spec := "ingressMay", inPlace := ["internal/abi.NoEscape"], unfollowed := true, recurses := true, apart := false, narrowed := true }
def IngressMayUptoSaid : Prop := ingressMayUptoRow.holds Try.pinned (OpenSpec.upto ingressMaySpec)

/-- 'antiphonlaw11.IngressLost', WHERE WHAT IT READS IS OF BULK AT MOST 1048576: true; the input reads as it did. -/
def ingressLostUptoRow : OpenClaim := { program := "ytbijdlgffebenaa", sum := "1e49d6e7639eaa2ff7f7dd44c8f6804fd6738006f221fcf6e691f13150471a72", func := "antiphon/antiphonlaw11.IngressLost", spec := "ingressLost", inPlace := ["internal/abi.NoEscape"], unfollowed := true, recurses := true, apart := false, narrowed := true }
def IngressLostUptoSaid : Prop := ingressLostUptoRow.holds Try.pinned (OpenSpec.upto ingressLostSpec)

end Rows
end Go.Proofs.Ytbijdlgffebenaa

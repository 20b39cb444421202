import Derived.Test.YtpamnignoocogaaGreatDoorKb
import Derived.Test.YtpamnignoocogaaGreatDoorRows
import Derived.JoinedOf
namespace Go.Proofs.YtpamnignoocogaaGreatDoor
open Go.Ab Go.ChangeShapes
set_option maxRecDepth 100000
theorem scriptReads_inPlace : (Rows.scriptReadsRow.inPlace == Tryz.pinned.checked.prog.inPlace 3) = true := by kernel_rfl
theorem scriptReads_unfollowed : (Rows.scriptReadsRow.unfollowed == Tryz.pinned.checked.prog.unfollowed 3) = true := by kernel_rfl
theorem scriptReads_recurses : (Rows.scriptReadsRow.recurses == Tryz.pinned.checked.prog.recurses 3) = true := by kernel_rfl
theorem scriptReads_named : (Rows.scriptReadsRow.named == Tryz.pinned.checked.prog.varsNamed 3) = true := by kernel_rfl
theorem scriptReads_heard : Tryz.pinned.checked.prog.stopsHeard = true := by kernel_rfl
theorem scriptReads_enters : Tryz.pinned.checked.prog.mayEnter = true := by kernel_rfl
end Go.Proofs.YtpamnignoocogaaGreatDoor

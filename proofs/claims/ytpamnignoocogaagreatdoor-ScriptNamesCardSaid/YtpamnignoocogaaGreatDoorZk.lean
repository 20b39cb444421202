import Derived.Test.YtpamnignoocogaaGreatDoorKb
import Derived.Test.YtpamnignoocogaaGreatDoorRows
import Derived.JoinedOf
namespace Go.Proofs.YtpamnignoocogaaGreatDoor
open Go.Ab Go.ChangeShapes
set_option maxRecDepth 100000
theorem scriptNames_inPlace : (Rows.scriptNamesRow.inPlace == Tryz.pinned.checked.prog.inPlace 5) = true := by kernel_rfl
theorem scriptNames_unfollowed : (Rows.scriptNamesRow.unfollowed == Tryz.pinned.checked.prog.unfollowed 5) = true := by kernel_rfl
theorem scriptNames_recurses : (Rows.scriptNamesRow.recurses == Tryz.pinned.checked.prog.recurses 5) = true := by kernel_rfl
theorem scriptNames_named : (Rows.scriptNamesRow.named == Tryz.pinned.checked.prog.varsNamed 5) = true := by kernel_rfl
theorem scriptNames_heard : Tryz.pinned.checked.prog.stopsHeard = true := by kernel_rfl
theorem scriptNames_enters : Tryz.pinned.checked.prog.mayEnter = true := by kernel_rfl
end Go.Proofs.YtpamnignoocogaaGreatDoor

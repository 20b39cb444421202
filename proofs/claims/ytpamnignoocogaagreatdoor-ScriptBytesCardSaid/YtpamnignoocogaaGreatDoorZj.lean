/- What the row says of the reach of 'scriptBytes'. No condition. -/
import Derived.Test.YtpamnignoocogaaGreatDoorKb
import Derived.Test.YtpamnignoocogaaGreatDoorRows
import Derived.JoinedOf
namespace Go.Proofs.YtpamnignoocogaaGreatDoor
open Go.Ab Go.ChangeShapes
set_option maxRecDepth 100000
theorem scriptBytes_inPlace : (Rows.scriptBytesRow.inPlace == Tryz.pinned.checked.prog.inPlace 4) = true := by kernel_rfl
theorem scriptBytes_unfollowed : (Rows.scriptBytesRow.unfollowed == Tryz.pinned.checked.prog.unfollowed 4) = true := by kernel_rfl
theorem scriptBytes_recurses : (Rows.scriptBytesRow.recurses == Tryz.pinned.checked.prog.recurses 4) = true := by kernel_rfl
theorem scriptBytes_named : (Rows.scriptBytesRow.named == Tryz.pinned.checked.prog.varsNamed 4) = true := by kernel_rfl
theorem scriptBytes_heard : Tryz.pinned.checked.prog.stopsHeard = true := by kernel_rfl
theorem scriptBytes_enters : Tryz.pinned.checked.prog.mayEnter = true := by kernel_rfl
end Go.Proofs.YtpamnignoocogaaGreatDoor

/- What the row says of the reach of 'sfuMay'. No condition. -/
import Derived.Test.YtjjjeolcapebbaaGreatDoorKb
import Derived.Test.YtjjjeolcapebbaaGreatDoorRows
import Derived.JoinedOf
namespace Go.Proofs.YtjjjeolcapebbaaGreatDoor
open Go.Ab Go.ChangeShapes
set_option maxRecDepth 100000
theorem sfuMay_inPlace : (Rows.sfuMayRow.inPlace == Tryz.pinned.checked.prog.inPlace 3) = true := by kernel_rfl
theorem sfuMay_unfollowed : (Rows.sfuMayRow.unfollowed == Tryz.pinned.checked.prog.unfollowed 3) = true := by kernel_rfl
theorem sfuMay_recurses : (Rows.sfuMayRow.recurses == Tryz.pinned.checked.prog.recurses 3) = true := by kernel_rfl
theorem sfuMay_named : (Rows.sfuMayRow.named == Tryz.pinned.checked.prog.varsNamed 3) = true := by kernel_rfl
theorem sfuMay_heard : Tryz.pinned.checked.prog.stopsHeard = true := by kernel_rfl
theorem sfuMay_enters : Tryz.pinned.checked.prog.mayEnter = true := by kernel_rfl
end Go.Proofs.YtjjjeolcapebbaaGreatDoor

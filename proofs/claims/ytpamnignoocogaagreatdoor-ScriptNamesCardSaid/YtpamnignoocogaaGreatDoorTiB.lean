import Derived.Test.YtpamnignoocogaaGreatDoorTiA
import Derived.LaidByTextLater
import Derived.SevenTiedAt
namespace Go.Proofs.YtpamnignoocogaaGreatDoor
open Go
theorem tie_hn : varsNamedLaterB Tryz.prog (varsId Tryz.prog) tieL = true := by kernel_rfl
end Go.Proofs.YtpamnignoocogaaGreatDoor

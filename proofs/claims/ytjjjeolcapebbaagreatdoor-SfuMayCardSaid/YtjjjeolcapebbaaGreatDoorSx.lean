/- The run on fixed data, in parts, by the evaluator. No condition. -/
import Derived.Test.YtjjjeolcapebbaaGreatDoorSv
import Derived.Test.YtjjjeolcapebbaaGreatDoorSw
import Derived.Test.YtjjjeolcapebbaaGreatDoorSxa
import Derived.Test.YtjjjeolcapebbaaGreatDoorSxb
import Derived.Test.YtjjjeolcapebbaaGreatDoorSxc
import Derived.Test.YtjjjeolcapebbaaGreatDoorM04
set_option maxRecDepth 100000
namespace Go.Proofs
open Go.Ab
def wSegs : List Seg := [wS0, wS1, wS2, wS3, wS4, wS5, wS6, wS7, wS8, wS9, wS10, wS11, wS12, wS13, wS16]
theorem wSegsOk : SegsOk Tryz.prog wSegs := ⟨wC0, wC1, wC2, wC3, wC4, wC5, wC6, wC7, wC8, wC9, wC10, wC11, wC12, wC13, wC16, trivial⟩

theorem awake_run : evF (Tryz.ev.add wSegs) 100000 6 [] [] = some { av := .lit (.bool true) } := by kernel_rfl
theorem gAwakeP.can (r : Bool) (hr : gAwakeP = some r) : CallOk Tryz.prog 6 [] [] { av := .lit (.bool r) } := by
  cases hr
  exact evF_ok (Tryz.evOk.add wSegsOk) 100000 awake_run
end Go.Proofs

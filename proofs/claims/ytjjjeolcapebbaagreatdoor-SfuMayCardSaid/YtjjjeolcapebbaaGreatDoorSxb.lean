/- The run on fixed data, in parts, by the evaluator. No condition. -/
import Derived.Test.YtjjjeolcapebbaaGreatDoorSv
import Derived.Test.YtjjjeolcapebbaaGreatDoorSw
set_option maxRecDepth 100000
namespace Go.Proofs
open Go.Ab
theorem wR6 : segB Tryz.ev 100000 wS6 = true := by kernel_rfl
theorem wC6 : CallOk Tryz.prog wS6.f wS6.l wS6.M wS6.out := segB_ok Tryz.evOk wR6
theorem wR7 : segB Tryz.ev 100000 wS7 = true := by kernel_rfl
theorem wC7 : CallOk Tryz.prog wS7.f wS7.l wS7.M wS7.out := segB_ok Tryz.evOk wR7
theorem wR8 : segB Tryz.ev 100000 wS8 = true := by kernel_rfl
theorem wC8 : CallOk Tryz.prog wS8.f wS8.l wS8.M wS8.out := segB_ok Tryz.evOk wR8
theorem wR9 : segB Tryz.ev 100000 wS9 = true := by kernel_rfl
theorem wC9 : CallOk Tryz.prog wS9.f wS9.l wS9.M wS9.out := segB_ok Tryz.evOk wR9
theorem wR10 : segB Tryz.ev 100000 wS10 = true := by kernel_rfl
theorem wC10 : CallOk Tryz.prog wS10.f wS10.l wS10.M wS10.out := segB_ok Tryz.evOk wR10
theorem wR11 : segB Tryz.ev 100000 wS11 = true := by kernel_rfl
theorem wC11 : CallOk Tryz.prog wS11.f wS11.l wS11.M wS11.out := segB_ok Tryz.evOk wR11
end Go.Proofs

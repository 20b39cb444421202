/- The run on fixed data, in parts, by the evaluator. No condition. -/
import Derived.Test.YtjjjeolcapebbaaGreatDoorSv
import Derived.Test.YtjjjeolcapebbaaGreatDoorSw
set_option maxRecDepth 100000
namespace Go.Proofs
open Go.Ab
theorem wR0 : segB Tryz.ev 100000 wS0 = true := by kernel_rfl
theorem wC0 : CallOk Tryz.prog wS0.f wS0.l wS0.M wS0.out := segB_ok Tryz.evOk wR0
theorem wR1 : segB Tryz.ev 100000 wS1 = true := by kernel_rfl
theorem wC1 : CallOk Tryz.prog wS1.f wS1.l wS1.M wS1.out := segB_ok Tryz.evOk wR1
theorem wR2 : segB Tryz.ev 100000 wS2 = true := by kernel_rfl
theorem wC2 : CallOk Tryz.prog wS2.f wS2.l wS2.M wS2.out := segB_ok Tryz.evOk wR2
theorem wR3 : segB Tryz.ev 100000 wS3 = true := by kernel_rfl
theorem wC3 : CallOk Tryz.prog wS3.f wS3.l wS3.M wS3.out := segB_ok Tryz.evOk wR3
theorem wR4 : segB Tryz.ev 100000 wS4 = true := by kernel_rfl
theorem wC4 : CallOk Tryz.prog wS4.f wS4.l wS4.M wS4.out := segB_ok Tryz.evOk wR4
theorem wR5 : segB Tryz.ev 100000 wS5 = true := by kernel_rfl
theorem wC5 : CallOk Tryz.prog wS5.f wS5.l wS5.M wS5.out := segB_ok Tryz.evOk wR5
end Go.Proofs

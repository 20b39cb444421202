/- The run on fixed data, in parts, by the evaluator. No condition. -/
import Derived.Test.YtjjjeolcapebbaaGreatDoorSv
import Derived.Test.YtjjjeolcapebbaaGreatDoorSw
set_option maxRecDepth 100000
namespace Go.Proofs
open Go.Ab
theorem wR12 : segB Tryz.ev 100000 wS12 = true := by kernel_rfl
theorem wC12 : CallOk Tryz.prog wS12.f wS12.l wS12.M wS12.out := segB_ok Tryz.evOk wR12
theorem wR15 : segB Tryz.ev 100000 wS15 = true := by kernel_rfl
theorem wC15 : CallOk Tryz.prog wS15.f wS15.l wS15.M wS15.out := segB_ok Tryz.evOk wR15
def wK14 : List Seg := [wS15]
theorem wKOk14 : SegsOk Tryz.prog wK14 := ⟨wC15, trivial⟩
theorem wR14 : segB (Tryz.ev.add wK14) 100000 wS14 = true := by kernel_rfl
theorem wC14 : CallOk Tryz.prog wS14.f wS14.l wS14.M wS14.out := segB_ok (Tryz.evOk.add wKOk14) wR14
def wK13 : List Seg := [wS14]
theorem wKOk13 : SegsOk Tryz.prog wK13 := ⟨wC14, trivial⟩
theorem wR13 : segB (Tryz.ev.add wK13) 100000 wS13 = true := by kernel_rfl
theorem wC13 : CallOk Tryz.prog wS13.f wS13.l wS13.M wS13.out := segB_ok (Tryz.evOk.add wKOk13) wR13
theorem wR18 : segB Tryz.ev 100000 wS18 = true := by kernel_rfl
theorem wC18 : CallOk Tryz.prog wS18.f wS18.l wS18.M wS18.out := segB_ok Tryz.evOk wR18
theorem wR20 : segB Tryz.ev 100000 wS20 = true := by kernel_rfl
theorem wC20 : CallOk Tryz.prog wS20.f wS20.l wS20.M wS20.out := segB_ok Tryz.evOk wR20
def wK19 : List Seg := [wS20]
theorem wKOk19 : SegsOk Tryz.prog wK19 := ⟨wC20, trivial⟩
theorem wR19 : segB (Tryz.ev.add wK19) 100000 wS19 = true := by kernel_rfl
theorem wC19 : CallOk Tryz.prog wS19.f wS19.l wS19.M wS19.out := segB_ok (Tryz.evOk.add wKOk19) wR19
theorem wR21 : segB Tryz.ev 100000 wS21 = true := by kernel_rfl
theorem wC21 : CallOk Tryz.prog wS21.f wS21.l wS21.M wS21.out := segB_ok Tryz.evOk wR21
def wK17 : List Seg := [wS18, wS19, wS21]
theorem wKOk17 : SegsOk Tryz.prog wK17 := ⟨wC18, wC19, wC21, trivial⟩
theorem wR17 : segB (Tryz.ev.add wK17) 100000 wS17 = true := by kernel_rfl
theorem wC17 : CallOk Tryz.prog wS17.f wS17.l wS17.M wS17.out := segB_ok (Tryz.evOk.add wKOk17) wR17
theorem wR23 : segB Tryz.ev 100000 wS23 = true := by kernel_rfl
theorem wC23 : CallOk Tryz.prog wS23.f wS23.l wS23.M wS23.out := segB_ok Tryz.evOk wR23
theorem wR25 : segB Tryz.ev 100000 wS25 = true := by kernel_rfl
theorem wC25 : CallOk Tryz.prog wS25.f wS25.l wS25.M wS25.out := segB_ok Tryz.evOk wR25
theorem wR26 : segB Tryz.ev 100000 wS26 = true := by kernel_rfl
theorem wC26 : CallOk Tryz.prog wS26.f wS26.l wS26.M wS26.out := segB_ok Tryz.evOk wR26
def wK24 : List Seg := [wS25, wS26]
theorem wKOk24 : SegsOk Tryz.prog wK24 := ⟨wC25, wC26, trivial⟩
theorem wR24 : segB (Tryz.ev.add wK24) 100000 wS24 = true := by kernel_rfl
theorem wC24 : CallOk Tryz.prog wS24.f wS24.l wS24.M wS24.out := segB_ok (Tryz.evOk.add wKOk24) wR24
theorem wR27 : segB Tryz.ev 100000 wS27 = true := by kernel_rfl
theorem wC27 : CallOk Tryz.prog wS27.f wS27.l wS27.M wS27.out := segB_ok Tryz.evOk wR27
def wK22 : List Seg := [wS23, wS24, wS27]
theorem wKOk22 : SegsOk Tryz.prog wK22 := ⟨wC23, wC24, wC27, trivial⟩
theorem wR22 : segB (Tryz.ev.add wK22) 100000 wS22 = true := by kernel_rfl
theorem wC22 : CallOk Tryz.prog wS22.f wS22.l wS22.M wS22.out := segB_ok (Tryz.evOk.add wKOk22) wR22
def wK16 : List Seg := [wS17, wS22]
theorem wKOk16 : SegsOk Tryz.prog wK16 := ⟨wC17, wC22, trivial⟩
theorem wR16 : segB (Tryz.ev.add wK16) 100000 wS16 = true := by kernel_rfl
theorem wC16 : CallOk Tryz.prog wS16.f wS16.l wS16.M wS16.out := segB_ok (Tryz.evOk.add wKOk16) wR16
end Go.Proofs

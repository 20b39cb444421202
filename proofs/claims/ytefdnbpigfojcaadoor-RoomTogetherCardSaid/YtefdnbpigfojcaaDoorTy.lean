/- What the types of this program come to, as the layer of abstract values wants them: no condition. -/
import Derived.Test.YtefdnbpigfojcaaDoorProg
import Derived.Test.YtefdnbpigfojcaaDoorAb5
import Derived.KernelRfl
namespace Go.Proofs
open Go.Ab
noncomputable abbrev Tryd.ty : TyTab := tyOf Tryd.prog
theorem Tryd.tyOk : TyOk Tryd.prog Tryd.ty := ⟨fun _ _ h => h⟩
theorem Tryd.mixed : Tryd.prog.follows .mixedOrders = true := by kernel_rfl
@[simp] theorem Tryd.ty2 : tyOf Tryd.prog 2 = some ⟨.int .i64, 1, 8, [.lit (.int .i64 0)], true⟩ := by kernel_rfl
@[simp] theorem Tryd.ty3 : tyOf Tryd.prog 3 = some ⟨.int .i64, 1, 8, [.lit (.int .i64 0)], true⟩ := by kernel_rfl
@[simp] theorem Tryd.ty4 : tyOf Tryd.prog 4 = some ⟨.bool, 1, 1, [.lit (.bool false)], true⟩ := by kernel_rfl
@[simp] theorem Tryd.ty5 : tyOf Tryd.prog 5 = some ⟨.int .u8, 1, 1, [.lit (.int .u8 0)], true⟩ := by kernel_rfl
@[simp] theorem Tryd.ty6 : tyOf Tryd.prog 6 = some ⟨.int .u8, 1, 1, [.lit (.int .u8 0)], true⟩ := by kernel_rfl
@[simp] theorem Tryd.ty9 : tyOf Tryd.prog 9 = some ⟨.str, 1, 16, [.lit (.string ⟨⟨[]⟩⟩)], true⟩ := by kernel_rfl
@[simp] theorem Tryd.ty10 : tyOf Tryd.prog 10 = some ⟨.str, 1, 16, [.lit (.string ⟨⟨[]⟩⟩)], true⟩ := by kernel_rfl
@[simp] theorem Tryd.ty11 : tyOf Tryd.prog 11 = some ⟨.str, 1, 16, [.lit (.string ⟨⟨[]⟩⟩)], true⟩ := by kernel_rfl
@[simp] theorem Tryd.ty12 : tyOf Tryd.prog 12 = some ⟨.int .u64, 1, 8, [.lit (.int .u64 0)], true⟩ := by kernel_rfl
@[simp] theorem Tryd.ty15 : tyOf Tryd.prog 15 = some ⟨.ptr 166, 1, 8, [.lit (.pointer none)], false⟩ := by kernel_rfl
@[simp] theorem Tryd.ty16 : tyOf Tryd.prog 16 = some ⟨.ptr 169, 1, 8, [.lit (.pointer none)], false⟩ := by kernel_rfl
@[simp] theorem Tryd.ty17 : tyOf Tryd.prog 17 = some ⟨.ptr 176, 1, 8, [.lit (.pointer none)], false⟩ := by kernel_rfl
@[simp] theorem Tryd.ty18 : tyOf Tryd.prog 18 = some ⟨.struct [(0, 17)], 1, 8, [.lit (.pointer none)], false⟩ := by kernel_rfl
@[simp] theorem Tryd.ty19 : tyOf Tryd.prog 19 = some ⟨.struct [(0, 17)], 1, 8, [.lit (.pointer none)], false⟩ := by kernel_rfl
@[simp] theorem Tryd.ty20 : tyOf Tryd.prog 20 = some ⟨.iface, 1, 16, [.lit .nilIface], false⟩ := by kernel_rfl
@[simp] theorem Tryd.ty21 : tyOf Tryd.prog 21 = some ⟨.int .i32, 1, 4, [.lit (.int .i32 0)], true⟩ := by kernel_rfl
@[simp] theorem Tryd.ty25 : tyOf Tryd.prog 25 = some ⟨.ptr 65, 1, 8, [.lit (.pointer none)], false⟩ := by kernel_rfl
@[simp] theorem Tryd.ty27 : tyOf Tryd.prog 27 = some ⟨.int .i64, 1, 8, [.lit (.int .i64 0)], true⟩ := by kernel_rfl
@[simp] theorem Tryd.ty31 : tyOf Tryd.prog 31 = some ⟨.slice 9, 1, 24, [.sl [] .full], false⟩ := by kernel_rfl
@[simp] theorem Tryd.ty34 : tyOf Tryd.prog 34 = some ⟨.slice 3, 1, 24, [.sl [] .full], false⟩ := by kernel_rfl
@[simp] theorem Tryd.ty37 : tyOf Tryd.prog 37 = some ⟨.slice 42, 1, 24, [.sl [] .full], false⟩ := by kernel_rfl
@[simp] theorem Tryd.ty38 : tyOf Tryd.prog 38 = some ⟨.slice 77, 1, 24, [.sl [] .full], false⟩ := by kernel_rfl
@[simp] theorem Tryd.ty39 : tyOf Tryd.prog 39 = some ⟨.struct [(0, 38), (1, 3)], 2, 32, [.sl [] .full, .lit (.int .i64 0)], false⟩ := by kernel_rfl
@[simp] theorem Tryd.ty40 : tyOf Tryd.prog 40 = some ⟨.struct [(0, 38), (1, 3)], 2, 32, [.sl [] .full, .lit (.int .i64 0)], false⟩ := by kernel_rfl
@[simp] theorem Tryd.ty41 : tyOf Tryd.prog 41 = some ⟨.struct [(0, 3), (1, 3), (2, 9), (3, 9)], 4, 48, [.lit (.int .i64 0), .lit (.int .i64 0), .lit (.string ⟨⟨[]⟩⟩), .lit (.string ⟨⟨[]⟩⟩)], true⟩ := by kernel_rfl
@[simp] theorem Tryd.ty42 : tyOf Tryd.prog 42 = some ⟨.struct [(0, 3), (1, 3), (2, 9), (3, 9)], 4, 48, [.lit (.int .i64 0), .lit (.int .i64 0), .lit (.string ⟨⟨[]⟩⟩), .lit (.string ⟨⟨[]⟩⟩)], true⟩ := by kernel_rfl
@[simp] theorem Tryd.ty51 : tyOf Tryd.prog 51 = some ⟨.struct [(0, 3), (1, 9), (2, 9)], 3, 40, [.lit (.int .i64 0), .lit (.string ⟨⟨[]⟩⟩), .lit (.string ⟨⟨[]⟩⟩)], true⟩ := by kernel_rfl
@[simp] theorem Tryd.ty52 : tyOf Tryd.prog 52 = some ⟨.struct [(0, 3), (1, 9), (2, 9)], 3, 40, [.lit (.int .i64 0), .lit (.string ⟨⟨[]⟩⟩), .lit (.string ⟨⟨[]⟩⟩)], true⟩ := by kernel_rfl
@[simp] theorem Tryd.ty56 : tyOf Tryd.prog 56 = some ⟨.slice 52, 1, 24, [.sl [] .full], false⟩ := by kernel_rfl
@[simp] theorem Tryd.ty59 : tyOf Tryd.prog 59 = some ⟨.slice 21, 1, 24, [.sl [] .full], false⟩ := by kernel_rfl
@[simp] theorem Tryd.ty63 : tyOf Tryd.prog 63 = some ⟨.map 3 52, 1, 8, [.lit (.map none)], false⟩ := by kernel_rfl
@[simp] theorem Tryd.ty64 : tyOf Tryd.prog 64 = some ⟨.struct [(0, 63), (1, 3)], 2, 16, [.lit (.map none), .lit (.int .i64 0)], false⟩ := by kernel_rfl
@[simp] theorem Tryd.ty65 : tyOf Tryd.prog 65 = some ⟨.struct [(0, 63), (1, 3)], 2, 16, [.lit (.map none), .lit (.int .i64 0)], false⟩ := by kernel_rfl
@[simp] theorem Tryd.ty71 : tyOf Tryd.prog 71 = some ⟨.map 9 3, 1, 8, [.lit (.map none)], false⟩ := by kernel_rfl
@[simp] theorem Tryd.ty77 : tyOf Tryd.prog 77 = some ⟨.struct [(0, 3), (1, 9), (2, 9)], 3, 40, [.lit (.int .i64 0), .lit (.string ⟨⟨[]⟩⟩), .lit (.string ⟨⟨[]⟩⟩)], true⟩ := by kernel_rfl
@[simp] theorem Tryd.ty88 : tyOf Tryd.prog 88 = some ⟨.ptr 91, 1, 8, [.lit (.pointer none)], false⟩ := by kernel_rfl
@[simp] theorem Tryd.ty89 : tyOf Tryd.prog 89 = some ⟨.slice 5, 1, 24, [.sl [] .full], false⟩ := by kernel_rfl
@[simp] theorem Tryd.ty90 : tyOf Tryd.prog 90 = some ⟨.struct [(0, 88), (1, 89)], 2, 32, [.lit (.pointer none), .sl [] .full], false⟩ := by kernel_rfl
@[simp] theorem Tryd.ty91 : tyOf Tryd.prog 91 = some ⟨.struct [(0, 88), (1, 89)], 2, 32, [.lit (.pointer none), .sl [] .full], false⟩ := by kernel_rfl
@[simp] theorem Tryd.ty92 : tyOf Tryd.prog 92 = some ⟨.iface, 1, 16, [.lit .nilIface], false⟩ := by kernel_rfl
@[simp] theorem Tryd.ty93 : tyOf Tryd.prog 93 = some ⟨.iface, 1, 16, [.lit .nilIface], false⟩ := by kernel_rfl
@[simp] theorem Tryd.ty100 : tyOf Tryd.prog 100 = some ⟨.int .u32, 1, 4, [.lit (.int .u32 0)], true⟩ := by kernel_rfl
@[simp] theorem Tryd.ty103 : tyOf Tryd.prog 103 = some ⟨.ptr 118, 1, 8, [.lit (.pointer none)], false⟩ := by kernel_rfl
@[simp] theorem Tryd.ty106 : tyOf Tryd.prog 106 = some ⟨.slice 152, 1, 24, [.sl [] .full], false⟩ := by kernel_rfl
@[simp] theorem Tryd.ty108 : tyOf Tryd.prog 108 = some ⟨.ptr 5, 1, 8, [.lit (.pointer none)], false⟩ := by kernel_rfl
@[simp] theorem Tryd.ty112 : tyOf Tryd.prog 112 = some ⟨.int .u64, 1, 8, [.lit (.int .u64 0)], true⟩ := by kernel_rfl
@[simp] theorem Tryd.ty115 : tyOf Tryd.prog 115 = some ⟨.slice 121, 1, 24, [.sl [] .full], false⟩ := by kernel_rfl
@[simp] theorem Tryd.ty116 : tyOf Tryd.prog 116 = some ⟨.slice 124, 1, 24, [.sl [] .full], false⟩ := by kernel_rfl
@[simp] theorem Tryd.ty117 : tyOf Tryd.prog 117 = some ⟨.struct [(0, 115), (1, 116), (2, 3)], 3, 56, [.sl [] .full, .sl [] .full, .lit (.int .i64 0)], false⟩ := by kernel_rfl
@[simp] theorem Tryd.ty118 : tyOf Tryd.prog 118 = some ⟨.struct [(0, 115), (1, 116), (2, 3)], 3, 56, [.sl [] .full, .sl [] .full, .lit (.int .i64 0)], false⟩ := by kernel_rfl
@[simp] theorem Tryd.ty119 : tyOf Tryd.prog 119 = some ⟨.int .u16, 1, 2, [.lit (.int .u16 0)], true⟩ := by kernel_rfl
@[simp] theorem Tryd.ty120 : tyOf Tryd.prog 120 = some ⟨.struct [(0, 119), (1, 119), (2, 119)], 3, 6, [.lit (.int .u16 0), .lit (.int .u16 0), .lit (.int .u16 0)], true⟩ := by kernel_rfl
@[simp] theorem Tryd.ty121 : tyOf Tryd.prog 121 = some ⟨.struct [(0, 119), (1, 119), (2, 119)], 3, 6, [.lit (.int .u16 0), .lit (.int .u16 0), .lit (.int .u16 0)], true⟩ := by kernel_rfl
@[simp] theorem Tryd.ty123 : tyOf Tryd.prog 123 = some ⟨.struct [(0, 100), (1, 100), (2, 100)], 3, 12, [.lit (.int .u32 0), .lit (.int .u32 0), .lit (.int .u32 0)], true⟩ := by kernel_rfl
@[simp] theorem Tryd.ty124 : tyOf Tryd.prog 124 = some ⟨.struct [(0, 100), (1, 100), (2, 100)], 3, 12, [.lit (.int .u32 0), .lit (.int .u32 0), .lit (.int .u32 0)], true⟩ := by kernel_rfl
@[simp] theorem Tryd.ty126 : tyOf Tryd.prog 126 = some ⟨.ptr 152, 1, 8, [.lit (.pointer none)], false⟩ := by kernel_rfl
@[simp] theorem Tryd.ty132 : tyOf Tryd.prog 132 = some ⟨.int .i64, 1, 8, [.lit (.int .i64 0)], true⟩ := by kernel_rfl
@[simp] theorem Tryd.ty141 : tyOf Tryd.prog 141 = some ⟨.int .u64, 1, 8, [.lit (.int .u64 0)], true⟩ := by kernel_rfl
@[simp] theorem Tryd.ty147 : tyOf Tryd.prog 147 = some ⟨.ptr 121, 1, 8, [.lit (.pointer none)], false⟩ := by kernel_rfl
@[simp] theorem Tryd.ty148 : tyOf Tryd.prog 148 = some ⟨.ptr 124, 1, 8, [.lit (.pointer none)], false⟩ := by kernel_rfl
@[simp] theorem Tryd.ty149 : tyOf Tryd.prog 149 = some ⟨.arr 3 21, 3, 12, [.lit (.int .i32 0), .lit (.int .i32 0), .lit (.int .i32 0)], true⟩ := by kernel_rfl
@[simp] theorem Tryd.ty150 : tyOf Tryd.prog 150 = some ⟨.arr 3 21, 3, 12, [.lit (.int .i32 0), .lit (.int .i32 0), .lit (.int .i32 0)], true⟩ := by kernel_rfl
@[simp] theorem Tryd.ty151 : tyOf Tryd.prog 151 = some ⟨.struct [(0, 100), (1, 100), (2, 150)], 5, 20, [.lit (.int .u32 0), .lit (.int .u32 0), .lit (.int .i32 0), .lit (.int .i32 0), .lit (.int .i32 0)], true⟩ := by kernel_rfl
@[simp] theorem Tryd.ty152 : tyOf Tryd.prog 152 = some ⟨.struct [(0, 100), (1, 100), (2, 150)], 5, 20, [.lit (.int .u32 0), .lit (.int .u32 0), .lit (.int .i32 0), .lit (.int .i32 0), .lit (.int .i32 0)], true⟩ := by kernel_rfl
@[simp] theorem Tryd.ty153 : tyOf Tryd.prog 153 = some ⟨.int .u64, 1, 8, [.lit (.int .u64 0)], true⟩ := by kernel_rfl
@[simp] theorem Tryd.ty157 : tyOf Tryd.prog 157 = some ⟨.ptr 3, 1, 8, [.lit (.pointer none)], false⟩ := by kernel_rfl
@[simp] theorem Tryd.ty161 : tyOf Tryd.prog 161 = some ⟨.ptr 153, 1, 8, [.lit (.pointer none)], false⟩ := by kernel_rfl
@[simp] theorem Tryd.ty167 : tyOf Tryd.prog 167 = some ⟨.arr 0 16, 0, 0, [], false⟩ := by kernel_rfl
@[simp] theorem Tryd.ty170 : tyOf Tryd.prog 170 = some ⟨.int .u8, 1, 1, [.lit (.int .u8 0)], true⟩ := by kernel_rfl
@[simp] theorem Tryd.ty171 : tyOf Tryd.prog 171 = some ⟨.int .u8, 1, 1, [.lit (.int .u8 0)], true⟩ := by kernel_rfl
@[simp] theorem Tryd.ty173 : tyOf Tryd.prog 173 = some ⟨.int .i32, 1, 4, [.lit (.int .i32 0)], true⟩ := by kernel_rfl
@[simp] theorem Tryd.ty174 : tyOf Tryd.prog 174 = some ⟨.int .i32, 1, 4, [.lit (.int .i32 0)], true⟩ := by kernel_rfl
end Go.Proofs

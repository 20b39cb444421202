/- What the types of this program come to, as the layer of abstract values wants them: no condition. -/
import Derived.Test.YtijaigjfacfhnaaDoorProg
import Derived.Test.YtijaigjfacfhnaaDoorAb5
import Derived.KernelRfl
namespace Go.Proofs
open Go.Ab
noncomputable abbrev Tryd.ty : TyTab := tyOf Tryd.prog
theorem Tryd.tyOk : TyOk Tryd.prog Tryd.ty := ⟨fun _ _ h => h⟩
theorem Tryd.mixed : Tryd.prog.follows .mixedOrders = true := by kernel_rfl
@[simp] theorem Tryd.ty2 : tyOf Tryd.prog 2 = some ⟨.int .i64, 1, 8, [.lit (.int .i64 0)], true⟩ := by kernel_rfl
@[simp] theorem Tryd.ty3 : tyOf Tryd.prog 3 = some ⟨.int .i64, 1, 8, [.lit (.int .i64 0)], true⟩ := by kernel_rfl
@[simp] theorem Tryd.ty4 : tyOf Tryd.prog 4 = some ⟨.bool, 1, 1, [.lit (.bool false)], true⟩ := by kernel_rfl
@[simp] theorem Tryd.ty5 : tyOf Tryd.prog 5 = some ⟨.int .u8, 1, 1, [.lit (.int .u8 0)], true⟩ := by kernel_rfl
@[simp] theorem Tryd.ty6 : tyOf Tryd.prog 6 = some ⟨.int .u8, 1, 1, [.lit (.int .u8 0)], true⟩ := by kernel_rfl
@[simp] theorem Tryd.ty9 : tyOf Tryd.prog 9 = some ⟨.str, 1, 16, [.lit (.string ⟨⟨[]⟩⟩)], true⟩ := by kernel_rfl
@[simp] theorem Tryd.ty10 : tyOf Tryd.prog 10 = some ⟨.str, 1, 16, [.lit (.string ⟨⟨[]⟩⟩)], true⟩ := by kernel_rfl
@[simp] theorem Tryd.ty11 : tyOf Tryd.prog 11 = some ⟨.str, 1, 16, [.lit (.string ⟨⟨[]⟩⟩)], true⟩ := by kernel_rfl
@[simp] theorem Tryd.ty12 : tyOf Tryd.prog 12 = some ⟨.int .u64, 1, 8, [.lit (.int .u64 0)], true⟩ := by kernel_rfl
@[simp] theorem Tryd.ty15 : tyOf Tryd.prog 15 = some ⟨.ptr 127, 1, 8, [.lit (.pointer none)], false⟩ := by kernel_rfl
@[simp] theorem Tryd.ty16 : tyOf Tryd.prog 16 = some ⟨.ptr 130, 1, 8, [.lit (.pointer none)], false⟩ := by kernel_rfl
@[simp] theorem Tryd.ty17 : tyOf Tryd.prog 17 = some ⟨.ptr 138, 1, 8, [.lit (.pointer none)], false⟩ := by kernel_rfl
@[simp] theorem Tryd.ty18 : tyOf Tryd.prog 18 = some ⟨.struct [(0, 17)], 1, 8, [.lit (.pointer none)], false⟩ := by kernel_rfl
@[simp] theorem Tryd.ty19 : tyOf Tryd.prog 19 = some ⟨.struct [(0, 17)], 1, 8, [.lit (.pointer none)], false⟩ := by kernel_rfl
@[simp] theorem Tryd.ty20 : tyOf Tryd.prog 20 = some ⟨.iface, 1, 16, [.lit .nilIface], false⟩ := by kernel_rfl
@[simp] theorem Tryd.ty21 : tyOf Tryd.prog 21 = some ⟨.int .i32, 1, 4, [.lit (.int .i32 0)], true⟩ := by kernel_rfl
@[simp] theorem Tryd.ty23 : tyOf Tryd.prog 23 = some ⟨.slice 44, 1, 24, [.sl [] .full], false⟩ := by kernel_rfl
@[simp] theorem Tryd.ty24 : tyOf Tryd.prog 24 = some ⟨.struct [(0, 3), (1, 9), (2, 9), (3, 3), (4, 3), (5, 3), (6, 3), (7, 4), (8, 4), (9, 23)], 10, 104, [.lit (.int .i64 0), .lit (.string ⟨⟨[]⟩⟩), .lit (.string ⟨⟨[]⟩⟩), .lit (.int .i64 0), .lit (.int .i64 0), .lit (.int .i64 0), .lit (.int .i64 0), .lit (.bool false), .lit (.bool false), .sl [] .full], false⟩ := by kernel_rfl
@[simp] theorem Tryd.ty25 : tyOf Tryd.prog 25 = some ⟨.struct [(0, 3), (1, 9), (2, 9), (3, 3), (4, 3), (5, 3), (6, 3), (7, 4), (8, 4), (9, 23)], 10, 104, [.lit (.int .i64 0), .lit (.string ⟨⟨[]⟩⟩), .lit (.string ⟨⟨[]⟩⟩), .lit (.int .i64 0), .lit (.int .i64 0), .lit (.int .i64 0), .lit (.int .i64 0), .lit (.bool false), .lit (.bool false), .sl [] .full], false⟩ := by kernel_rfl
@[simp] theorem Tryd.ty26 : tyOf Tryd.prog 26 = some ⟨.int .i64, 1, 8, [.lit (.int .i64 0)], true⟩ := by kernel_rfl
@[simp] theorem Tryd.ty29 : tyOf Tryd.prog 29 = some ⟨.struct [(0, 3), (1, 9), (2, 9), (3, 3), (4, 3), (5, 3), (6, 3), (7, 4), (8, 4), (9, 23)], 10, 104, [.lit (.int .i64 0), .lit (.string ⟨⟨[]⟩⟩), .lit (.string ⟨⟨[]⟩⟩), .lit (.int .i64 0), .lit (.int .i64 0), .lit (.int .i64 0), .lit (.int .i64 0), .lit (.bool false), .lit (.bool false), .sl [] .full], false⟩ := by kernel_rfl
@[simp] theorem Tryd.ty44 : tyOf Tryd.prog 44 = some ⟨.int .u32, 1, 4, [.lit (.int .u32 0)], true⟩ := by kernel_rfl
@[simp] theorem Tryd.ty46 : tyOf Tryd.prog 46 = some ⟨.ptr 78, 1, 8, [.lit (.pointer none)], false⟩ := by kernel_rfl
@[simp] theorem Tryd.ty52 : tyOf Tryd.prog 52 = some ⟨.struct [(0, 9), (1, 3)], 2, 24, [.lit (.string ⟨⟨[]⟩⟩), .lit (.int .i64 0)], true⟩ := by kernel_rfl
@[simp] theorem Tryd.ty53 : tyOf Tryd.prog 53 = some ⟨.struct [(0, 9), (1, 3)], 2, 24, [.lit (.string ⟨⟨[]⟩⟩), .lit (.int .i64 0)], true⟩ := by kernel_rfl
@[simp] theorem Tryd.ty54 : tyOf Tryd.prog 54 = some ⟨.int .u64, 1, 8, [.lit (.int .u64 0)], true⟩ := by kernel_rfl
@[simp] theorem Tryd.ty60 : tyOf Tryd.prog 60 = some ⟨.ptr 63, 1, 8, [.lit (.pointer none)], false⟩ := by kernel_rfl
@[simp] theorem Tryd.ty61 : tyOf Tryd.prog 61 = some ⟨.slice 5, 1, 24, [.sl [] .full], false⟩ := by kernel_rfl
@[simp] theorem Tryd.ty62 : tyOf Tryd.prog 62 = some ⟨.struct [(0, 60), (1, 61)], 2, 32, [.lit (.pointer none), .sl [] .full], false⟩ := by kernel_rfl
@[simp] theorem Tryd.ty63 : tyOf Tryd.prog 63 = some ⟨.struct [(0, 60), (1, 61)], 2, 32, [.lit (.pointer none), .sl [] .full], false⟩ := by kernel_rfl
@[simp] theorem Tryd.ty64 : tyOf Tryd.prog 64 = some ⟨.struct [(0, 63)], 2, 32, [.lit (.pointer none), .sl [] .full], false⟩ := by kernel_rfl
@[simp] theorem Tryd.ty65 : tyOf Tryd.prog 65 = some ⟨.struct [(0, 63)], 2, 32, [.lit (.pointer none), .sl [] .full], false⟩ := by kernel_rfl
@[simp] theorem Tryd.ty66 : tyOf Tryd.prog 66 = some ⟨.ptr 65, 1, 8, [.lit (.pointer none)], false⟩ := by kernel_rfl
@[simp] theorem Tryd.ty70 : tyOf Tryd.prog 70 = some ⟨.int .u16, 1, 2, [.lit (.int .u16 0)], true⟩ := by kernel_rfl
@[simp] theorem Tryd.ty77 : tyOf Tryd.prog 77 = some ⟨.struct [(0, 9), (1, 26)], 2, 24, [.lit (.string ⟨⟨[]⟩⟩), .lit (.int .i64 0)], true⟩ := by kernel_rfl
@[simp] theorem Tryd.ty78 : tyOf Tryd.prog 78 = some ⟨.struct [(0, 9), (1, 26)], 2, 24, [.lit (.string ⟨⟨[]⟩⟩), .lit (.int .i64 0)], true⟩ := by kernel_rfl
@[simp] theorem Tryd.ty80 : tyOf Tryd.prog 80 = some ⟨.ptr 25, 1, 8, [.lit (.pointer none)], false⟩ := by kernel_rfl
@[simp] theorem Tryd.ty87 : tyOf Tryd.prog 87 = some ⟨.iface, 1, 16, [.lit .nilIface], false⟩ := by kernel_rfl
@[simp] theorem Tryd.ty88 : tyOf Tryd.prog 88 = some ⟨.iface, 1, 16, [.lit .nilIface], false⟩ := by kernel_rfl
@[simp] theorem Tryd.ty91 : tyOf Tryd.prog 91 = some ⟨.slice 9, 1, 24, [.sl [] .full], false⟩ := by kernel_rfl
@[simp] theorem Tryd.ty93 : tyOf Tryd.prog 93 = some ⟨.slice 70, 1, 24, [.sl [] .full], false⟩ := by kernel_rfl
@[simp] theorem Tryd.ty98 : tyOf Tryd.prog 98 = some ⟨.slice 21, 1, 24, [.sl [] .full], false⟩ := by kernel_rfl
@[simp] theorem Tryd.ty101 : tyOf Tryd.prog 101 = some ⟨.int .u64, 1, 8, [.lit (.int .u64 0)], true⟩ := by kernel_rfl
@[simp] theorem Tryd.ty104 : tyOf Tryd.prog 104 = some ⟨.slice 54, 1, 24, [.sl [] .full], false⟩ := by kernel_rfl
@[simp] theorem Tryd.ty106 : tyOf Tryd.prog 106 = some ⟨.ptr 5, 1, 8, [.lit (.pointer none)], false⟩ := by kernel_rfl
@[simp] theorem Tryd.ty113 : tyOf Tryd.prog 113 = some ⟨.ptr 117, 1, 8, [.lit (.pointer none)], false⟩ := by kernel_rfl
@[simp] theorem Tryd.ty114 : tyOf Tryd.prog 114 = some ⟨.slice 119, 1, 24, [.sl [] .full], false⟩ := by kernel_rfl
@[simp] theorem Tryd.ty115 : tyOf Tryd.prog 115 = some ⟨.slice 122, 1, 24, [.sl [] .full], false⟩ := by kernel_rfl
@[simp] theorem Tryd.ty116 : tyOf Tryd.prog 116 = some ⟨.struct [(0, 114), (1, 115), (2, 3)], 3, 56, [.sl [] .full, .sl [] .full, .lit (.int .i64 0)], false⟩ := by kernel_rfl
@[simp] theorem Tryd.ty117 : tyOf Tryd.prog 117 = some ⟨.struct [(0, 114), (1, 115), (2, 3)], 3, 56, [.sl [] .full, .sl [] .full, .lit (.int .i64 0)], false⟩ := by kernel_rfl
@[simp] theorem Tryd.ty118 : tyOf Tryd.prog 118 = some ⟨.struct [(0, 70), (1, 70), (2, 70)], 3, 6, [.lit (.int .u16 0), .lit (.int .u16 0), .lit (.int .u16 0)], true⟩ := by kernel_rfl
@[simp] theorem Tryd.ty119 : tyOf Tryd.prog 119 = some ⟨.struct [(0, 70), (1, 70), (2, 70)], 3, 6, [.lit (.int .u16 0), .lit (.int .u16 0), .lit (.int .u16 0)], true⟩ := by kernel_rfl
@[simp] theorem Tryd.ty121 : tyOf Tryd.prog 121 = some ⟨.struct [(0, 44), (1, 44), (2, 44)], 3, 12, [.lit (.int .u32 0), .lit (.int .u32 0), .lit (.int .u32 0)], true⟩ := by kernel_rfl
@[simp] theorem Tryd.ty122 : tyOf Tryd.prog 122 = some ⟨.struct [(0, 44), (1, 44), (2, 44)], 3, 12, [.lit (.int .u32 0), .lit (.int .u32 0), .lit (.int .u32 0)], true⟩ := by kernel_rfl
@[simp] theorem Tryd.ty124 : tyOf Tryd.prog 124 = some ⟨.ptr 119, 1, 8, [.lit (.pointer none)], false⟩ := by kernel_rfl
@[simp] theorem Tryd.ty125 : tyOf Tryd.prog 125 = some ⟨.ptr 122, 1, 8, [.lit (.pointer none)], false⟩ := by kernel_rfl
@[simp] theorem Tryd.ty128 : tyOf Tryd.prog 128 = some ⟨.arr 0 16, 0, 0, [], false⟩ := by kernel_rfl
@[simp] theorem Tryd.ty132 : tyOf Tryd.prog 132 = some ⟨.int .u8, 1, 1, [.lit (.int .u8 0)], true⟩ := by kernel_rfl
@[simp] theorem Tryd.ty133 : tyOf Tryd.prog 133 = some ⟨.int .u8, 1, 1, [.lit (.int .u8 0)], true⟩ := by kernel_rfl
@[simp] theorem Tryd.ty135 : tyOf Tryd.prog 135 = some ⟨.int .i32, 1, 4, [.lit (.int .i32 0)], true⟩ := by kernel_rfl
@[simp] theorem Tryd.ty136 : tyOf Tryd.prog 136 = some ⟨.int .i32, 1, 4, [.lit (.int .i32 0)], true⟩ := by kernel_rfl
end Go.Proofs

/- What the types of this program come to, as the layer of abstract values wants them: no condition. -/
import Derived.Test.YtoaiieheibcnlaaDoorProg
import Derived.Test.YtoaiieheibcnlaaDoorAb5
import Derived.KernelRfl
namespace Go.Proofs
open Go.Ab
noncomputable abbrev Tryd.ty : TyTab := tyOf Tryd.prog
theorem Tryd.tyOk : TyOk Tryd.prog Tryd.ty := ⟨fun _ _ h => h⟩
theorem Tryd.mixed : Tryd.prog.follows .mixedOrders = true := by kernel_rfl
@[simp] theorem Tryd.ty2 : tyOf Tryd.prog 2 = some ⟨.int .i64, 1, 8, [.lit (.int .i64 0)], true⟩ := by kernel_rfl
@[simp] theorem Tryd.ty3 : tyOf Tryd.prog 3 = some ⟨.int .i64, 1, 8, [.lit (.int .i64 0)], true⟩ := by kernel_rfl
@[simp] theorem Tryd.ty4 : tyOf Tryd.prog 4 = some ⟨.bool, 1, 1, [.lit (.bool false)], true⟩ := by kernel_rfl
@[simp] theorem Tryd.ty5 : tyOf Tryd.prog 5 = some ⟨.int .u8, 1, 1, [.lit (.int .u8 0)], true⟩ := by kernel_rfl
@[simp] theorem Tryd.ty6 : tyOf Tryd.prog 6 = some ⟨.int .u8, 1, 1, [.lit (.int .u8 0)], true⟩ := by kernel_rfl
@[simp] theorem Tryd.ty9 : tyOf Tryd.prog 9 = some ⟨.str, 1, 16, [.lit (.string ⟨⟨[]⟩⟩)], true⟩ := by kernel_rfl
@[simp] theorem Tryd.ty10 : tyOf Tryd.prog 10 = some ⟨.str, 1, 16, [.lit (.string ⟨⟨[]⟩⟩)], true⟩ := by kernel_rfl
@[simp] theorem Tryd.ty11 : tyOf Tryd.prog 11 = some ⟨.str, 1, 16, [.lit (.string ⟨⟨[]⟩⟩)], true⟩ := by kernel_rfl
@[simp] theorem Tryd.ty12 : tyOf Tryd.prog 12 = some ⟨.int .u64, 1, 8, [.lit (.int .u64 0)], true⟩ := by kernel_rfl
@[simp] theorem Tryd.ty15 : tyOf Tryd.prog 15 = some ⟨.ptr 80, 1, 8, [.lit (.pointer none)], false⟩ := by kernel_rfl
@[simp] theorem Tryd.ty16 : tyOf Tryd.prog 16 = some ⟨.ptr 83, 1, 8, [.lit (.pointer none)], false⟩ := by kernel_rfl
@[simp] theorem Tryd.ty17 : tyOf Tryd.prog 17 = some ⟨.ptr 91, 1, 8, [.lit (.pointer none)], false⟩ := by kernel_rfl
@[simp] theorem Tryd.ty18 : tyOf Tryd.prog 18 = some ⟨.struct [(0, 17)], 1, 8, [.lit (.pointer none)], false⟩ := by kernel_rfl
@[simp] theorem Tryd.ty19 : tyOf Tryd.prog 19 = some ⟨.struct [(0, 17)], 1, 8, [.lit (.pointer none)], false⟩ := by kernel_rfl
@[simp] theorem Tryd.ty20 : tyOf Tryd.prog 20 = some ⟨.iface, 1, 16, [.lit .nilIface], false⟩ := by kernel_rfl
@[simp] theorem Tryd.ty21 : tyOf Tryd.prog 21 = some ⟨.int .i32, 1, 4, [.lit (.int .i32 0)], true⟩ := by kernel_rfl
@[simp] theorem Tryd.ty23 : tyOf Tryd.prog 23 = some ⟨.int .i64, 1, 8, [.lit (.int .i64 0)], true⟩ := by kernel_rfl
@[simp] theorem Tryd.ty29 : tyOf Tryd.prog 29 = some ⟨.slice 21, 1, 24, [.sl [] .full], false⟩ := by kernel_rfl
@[simp] theorem Tryd.ty37 : tyOf Tryd.prog 37 = some ⟨.ptr 40, 1, 8, [.lit (.pointer none)], false⟩ := by kernel_rfl
@[simp] theorem Tryd.ty38 : tyOf Tryd.prog 38 = some ⟨.slice 5, 1, 24, [.sl [] .full], false⟩ := by kernel_rfl
@[simp] theorem Tryd.ty39 : tyOf Tryd.prog 39 = some ⟨.struct [(0, 37), (1, 38)], 2, 32, [.lit (.pointer none), .sl [] .full], false⟩ := by kernel_rfl
@[simp] theorem Tryd.ty40 : tyOf Tryd.prog 40 = some ⟨.struct [(0, 37), (1, 38)], 2, 32, [.lit (.pointer none), .sl [] .full], false⟩ := by kernel_rfl
@[simp] theorem Tryd.ty41 : tyOf Tryd.prog 41 = some ⟨.iface, 1, 16, [.lit .nilIface], false⟩ := by kernel_rfl
@[simp] theorem Tryd.ty42 : tyOf Tryd.prog 42 = some ⟨.iface, 1, 16, [.lit .nilIface], false⟩ := by kernel_rfl
@[simp] theorem Tryd.ty47 : tyOf Tryd.prog 47 = some ⟨.int .u32, 1, 4, [.lit (.int .u32 0)], true⟩ := by kernel_rfl
@[simp] theorem Tryd.ty50 : tyOf Tryd.prog 50 = some ⟨.ptr 59, 1, 8, [.lit (.pointer none)], false⟩ := by kernel_rfl
@[simp] theorem Tryd.ty52 : tyOf Tryd.prog 52 = some ⟨.ptr 5, 1, 8, [.lit (.pointer none)], false⟩ := by kernel_rfl
@[simp] theorem Tryd.ty55 : tyOf Tryd.prog 55 = some ⟨.slice 78, 1, 24, [.sl [] .full], false⟩ := by kernel_rfl
@[simp] theorem Tryd.ty56 : tyOf Tryd.prog 56 = some ⟨.slice 62, 1, 24, [.sl [] .full], false⟩ := by kernel_rfl
@[simp] theorem Tryd.ty57 : tyOf Tryd.prog 57 = some ⟨.slice 65, 1, 24, [.sl [] .full], false⟩ := by kernel_rfl
@[simp] theorem Tryd.ty58 : tyOf Tryd.prog 58 = some ⟨.struct [(0, 56), (1, 57), (2, 3)], 3, 56, [.sl [] .full, .sl [] .full, .lit (.int .i64 0)], false⟩ := by kernel_rfl
@[simp] theorem Tryd.ty59 : tyOf Tryd.prog 59 = some ⟨.struct [(0, 56), (1, 57), (2, 3)], 3, 56, [.sl [] .full, .sl [] .full, .lit (.int .i64 0)], false⟩ := by kernel_rfl
@[simp] theorem Tryd.ty60 : tyOf Tryd.prog 60 = some ⟨.int .u16, 1, 2, [.lit (.int .u16 0)], true⟩ := by kernel_rfl
@[simp] theorem Tryd.ty61 : tyOf Tryd.prog 61 = some ⟨.struct [(0, 60), (1, 60), (2, 60)], 3, 6, [.lit (.int .u16 0), .lit (.int .u16 0), .lit (.int .u16 0)], true⟩ := by kernel_rfl
@[simp] theorem Tryd.ty62 : tyOf Tryd.prog 62 = some ⟨.struct [(0, 60), (1, 60), (2, 60)], 3, 6, [.lit (.int .u16 0), .lit (.int .u16 0), .lit (.int .u16 0)], true⟩ := by kernel_rfl
@[simp] theorem Tryd.ty64 : tyOf Tryd.prog 64 = some ⟨.struct [(0, 47), (1, 47), (2, 47)], 3, 12, [.lit (.int .u32 0), .lit (.int .u32 0), .lit (.int .u32 0)], true⟩ := by kernel_rfl
@[simp] theorem Tryd.ty65 : tyOf Tryd.prog 65 = some ⟨.struct [(0, 47), (1, 47), (2, 47)], 3, 12, [.lit (.int .u32 0), .lit (.int .u32 0), .lit (.int .u32 0)], true⟩ := by kernel_rfl
@[simp] theorem Tryd.ty69 : tyOf Tryd.prog 69 = some ⟨.ptr 78, 1, 8, [.lit (.pointer none)], false⟩ := by kernel_rfl
@[simp] theorem Tryd.ty72 : tyOf Tryd.prog 72 = some ⟨.ptr 62, 1, 8, [.lit (.pointer none)], false⟩ := by kernel_rfl
@[simp] theorem Tryd.ty73 : tyOf Tryd.prog 73 = some ⟨.int .u64, 1, 8, [.lit (.int .u64 0)], true⟩ := by kernel_rfl
@[simp] theorem Tryd.ty74 : tyOf Tryd.prog 74 = some ⟨.ptr 65, 1, 8, [.lit (.pointer none)], false⟩ := by kernel_rfl
@[simp] theorem Tryd.ty75 : tyOf Tryd.prog 75 = some ⟨.arr 3 21, 3, 12, [.lit (.int .i32 0), .lit (.int .i32 0), .lit (.int .i32 0)], true⟩ := by kernel_rfl
@[simp] theorem Tryd.ty76 : tyOf Tryd.prog 76 = some ⟨.arr 3 21, 3, 12, [.lit (.int .i32 0), .lit (.int .i32 0), .lit (.int .i32 0)], true⟩ := by kernel_rfl
@[simp] theorem Tryd.ty77 : tyOf Tryd.prog 77 = some ⟨.struct [(0, 47), (1, 47), (2, 76)], 5, 20, [.lit (.int .u32 0), .lit (.int .u32 0), .lit (.int .i32 0), .lit (.int .i32 0), .lit (.int .i32 0)], true⟩ := by kernel_rfl
@[simp] theorem Tryd.ty78 : tyOf Tryd.prog 78 = some ⟨.struct [(0, 47), (1, 47), (2, 76)], 5, 20, [.lit (.int .u32 0), .lit (.int .u32 0), .lit (.int .i32 0), .lit (.int .i32 0), .lit (.int .i32 0)], true⟩ := by kernel_rfl
@[simp] theorem Tryd.ty81 : tyOf Tryd.prog 81 = some ⟨.arr 0 16, 0, 0, [], false⟩ := by kernel_rfl
@[simp] theorem Tryd.ty85 : tyOf Tryd.prog 85 = some ⟨.int .u8, 1, 1, [.lit (.int .u8 0)], true⟩ := by kernel_rfl
@[simp] theorem Tryd.ty86 : tyOf Tryd.prog 86 = some ⟨.int .u8, 1, 1, [.lit (.int .u8 0)], true⟩ := by kernel_rfl
@[simp] theorem Tryd.ty88 : tyOf Tryd.prog 88 = some ⟨.int .i32, 1, 4, [.lit (.int .i32 0)], true⟩ := by kernel_rfl
@[simp] theorem Tryd.ty89 : tyOf Tryd.prog 89 = some ⟨.int .i32, 1, 4, [.lit (.int .i32 0)], true⟩ := by kernel_rfl
end Go.Proofs

/- What the types of this program come to, as the layer of abstract values wants them: no condition. -/
import Derived.Test.YtnbfecfhejopgaaProg
import Derived.Test.YtnbfecfhejopgaaAb5
import Derived.KernelRfl
namespace Go.Proofs
open Go.Ab
noncomputable abbrev Try.ty : TyTab := tyOf Try.prog
theorem Try.tyOk : TyOk Try.prog Try.ty := ⟨fun _ _ h => h⟩
theorem Try.mixed : Try.prog.follows .mixedOrders = true := by kernel_rfl
@[simp] theorem Try.ty2 : tyOf Try.prog 2 = some ⟨.int .i64, 1, 8, [.lit (.int .i64 0)], true⟩ := by kernel_rfl
@[simp] theorem Try.ty3 : tyOf Try.prog 3 = some ⟨.int .i64, 1, 8, [.lit (.int .i64 0)], true⟩ := by kernel_rfl
@[simp] theorem Try.ty4 : tyOf Try.prog 4 = some ⟨.bool, 1, 1, [.lit (.bool false)], true⟩ := by kernel_rfl
@[simp] theorem Try.ty5 : tyOf Try.prog 5 = some ⟨.int .u8, 1, 1, [.lit (.int .u8 0)], true⟩ := by kernel_rfl
@[simp] theorem Try.ty6 : tyOf Try.prog 6 = some ⟨.int .u8, 1, 1, [.lit (.int .u8 0)], true⟩ := by kernel_rfl
@[simp] theorem Try.ty9 : tyOf Try.prog 9 = some ⟨.str, 1, 16, [.lit (.string ⟨⟨[]⟩⟩)], true⟩ := by kernel_rfl
@[simp] theorem Try.ty10 : tyOf Try.prog 10 = some ⟨.str, 1, 16, [.lit (.string ⟨⟨[]⟩⟩)], true⟩ := by kernel_rfl
@[simp] theorem Try.ty11 : tyOf Try.prog 11 = some ⟨.str, 1, 16, [.lit (.string ⟨⟨[]⟩⟩)], true⟩ := by kernel_rfl
@[simp] theorem Try.ty12 : tyOf Try.prog 12 = some ⟨.int .u64, 1, 8, [.lit (.int .u64 0)], true⟩ := by kernel_rfl
@[simp] theorem Try.ty15 : tyOf Try.prog 15 = some ⟨.ptr 76, 1, 8, [.lit (.pointer none)], false⟩ := by kernel_rfl
@[simp] theorem Try.ty16 : tyOf Try.prog 16 = some ⟨.ptr 79, 1, 8, [.lit (.pointer none)], false⟩ := by kernel_rfl
@[simp] theorem Try.ty17 : tyOf Try.prog 17 = some ⟨.ptr 88, 1, 8, [.lit (.pointer none)], false⟩ := by kernel_rfl
@[simp] theorem Try.ty18 : tyOf Try.prog 18 = some ⟨.struct [(0, 17)], 1, 8, [.lit (.pointer none)], false⟩ := by kernel_rfl
@[simp] theorem Try.ty19 : tyOf Try.prog 19 = some ⟨.struct [(0, 17)], 1, 8, [.lit (.pointer none)], false⟩ := by kernel_rfl
@[simp] theorem Try.ty20 : tyOf Try.prog 20 = some ⟨.iface, 1, 16, [.lit .nilIface], false⟩ := by kernel_rfl
@[simp] theorem Try.ty21 : tyOf Try.prog 21 = some ⟨.int .i32, 1, 4, [.lit (.int .i32 0)], true⟩ := by kernel_rfl
@[simp] theorem Try.ty22 : tyOf Try.prog 22 = some ⟨.slice 3, 1, 24, [.sl [] .full], false⟩ := by kernel_rfl
@[simp] theorem Try.ty23 : tyOf Try.prog 23 = some ⟨.ptr 39, 1, 8, [.lit (.pointer none)], false⟩ := by kernel_rfl
@[simp] theorem Try.ty24 : tyOf Try.prog 24 = some ⟨.int .i64, 1, 8, [.lit (.int .i64 0)], true⟩ := by kernel_rfl
@[simp] theorem Try.ty29 : tyOf Try.prog 29 = some ⟨.slice 31, 1, 24, [.sl [] .full], false⟩ := by kernel_rfl
@[simp] theorem Try.ty30 : tyOf Try.prog 30 = some ⟨.struct [(0, 3), (1, 3)], 2, 16, [.lit (.int .i64 0), .lit (.int .i64 0)], true⟩ := by kernel_rfl
@[simp] theorem Try.ty31 : tyOf Try.prog 31 = some ⟨.struct [(0, 3), (1, 3)], 2, 16, [.lit (.int .i64 0), .lit (.int .i64 0)], true⟩ := by kernel_rfl
@[simp] theorem Try.ty37 : tyOf Try.prog 37 = some ⟨.map 3 3, 1, 8, [.lit (.map none)], false⟩ := by kernel_rfl
@[simp] theorem Try.ty38 : tyOf Try.prog 38 = some ⟨.struct [(0, 3), (1, 37), (2, 37), (3, 3), (4, 4)], 5, 40, [.lit (.int .i64 0), .lit (.map none), .lit (.map none), .lit (.int .i64 0), .lit (.bool false)], false⟩ := by kernel_rfl
@[simp] theorem Try.ty39 : tyOf Try.prog 39 = some ⟨.struct [(0, 3), (1, 37), (2, 37), (3, 3), (4, 4)], 5, 40, [.lit (.int .i64 0), .lit (.map none), .lit (.map none), .lit (.int .i64 0), .lit (.bool false)], false⟩ := by kernel_rfl
@[simp] theorem Try.ty52 : tyOf Try.prog 52 = some ⟨.int .u64, 1, 8, [.lit (.int .u64 0)], true⟩ := by kernel_rfl
@[simp] theorem Try.ty55 : tyOf Try.prog 55 = some ⟨.int .i64, 1, 8, [.lit (.int .i64 0)], true⟩ := by kernel_rfl
@[simp] theorem Try.ty62 : tyOf Try.prog 62 = some ⟨.int .u32, 1, 4, [.lit (.int .u32 0)], true⟩ := by kernel_rfl
@[simp] theorem Try.ty64 : tyOf Try.prog 64 = some ⟨.int .u64, 1, 8, [.lit (.int .u64 0)], true⟩ := by kernel_rfl
@[simp] theorem Try.ty65 : tyOf Try.prog 65 = some ⟨.int .u64, 1, 8, [.lit (.int .u64 0)], true⟩ := by kernel_rfl
@[simp] theorem Try.ty69 : tyOf Try.prog 69 = some ⟨.ptr 3, 1, 8, [.lit (.pointer none)], false⟩ := by kernel_rfl
@[simp] theorem Try.ty71 : tyOf Try.prog 71 = some ⟨.ptr 65, 1, 8, [.lit (.pointer none)], false⟩ := by kernel_rfl
@[simp] theorem Try.ty77 : tyOf Try.prog 77 = some ⟨.arr 0 16, 0, 0, [], false⟩ := by kernel_rfl
@[simp] theorem Try.ty81 : tyOf Try.prog 81 = some ⟨.int .u8, 1, 1, [.lit (.int .u8 0)], true⟩ := by kernel_rfl
@[simp] theorem Try.ty82 : tyOf Try.prog 82 = some ⟨.int .u8, 1, 1, [.lit (.int .u8 0)], true⟩ := by kernel_rfl
@[simp] theorem Try.ty84 : tyOf Try.prog 84 = some ⟨.ptr 5, 1, 8, [.lit (.pointer none)], false⟩ := by kernel_rfl
@[simp] theorem Try.ty85 : tyOf Try.prog 85 = some ⟨.int .i32, 1, 4, [.lit (.int .i32 0)], true⟩ := by kernel_rfl
@[simp] theorem Try.ty86 : tyOf Try.prog 86 = some ⟨.int .i32, 1, 4, [.lit (.int .i32 0)], true⟩ := by kernel_rfl
end Go.Proofs

/- What the types of this program come to, as the layer of abstract values wants them: no condition. -/
import Derived.Test.YtahmmpmmmkbemaaProg
import Derived.Test.YtahmmpmmmkbemaaAb5
import Derived.KernelRfl
namespace Go.Proofs
open Go.Ab
noncomputable abbrev Try.ty : TyTab := tyOf Try.prog
theorem Try.tyOk : TyOk Try.prog Try.ty := ⟨fun _ _ h => h⟩
theorem Try.mixed : Try.prog.follows .mixedOrders = true := by kernel_rfl
@[simp] theorem Try.ty2 : tyOf Try.prog 2 = some ⟨.int .i64, 1, 8, [.lit (.int .i64 0)], true⟩ := by kernel_rfl
@[simp] theorem Try.ty3 : tyOf Try.prog 3 = some ⟨.int .i64, 1, 8, [.lit (.int .i64 0)], true⟩ := by kernel_rfl
@[simp] theorem Try.ty4 : tyOf Try.prog 4 = some ⟨.bool, 1, 1, [.lit (.bool false)], true⟩ := by kernel_rfl
@[simp] theorem Try.ty5 : tyOf Try.prog 5 = some ⟨.int .u8, 1, 1, [.lit (.int .u8 0)], true⟩ := by kernel_rfl
@[simp] theorem Try.ty6 : tyOf Try.prog 6 = some ⟨.int .u8, 1, 1, [.lit (.int .u8 0)], true⟩ := by kernel_rfl
@[simp] theorem Try.ty9 : tyOf Try.prog 9 = some ⟨.str, 1, 16, [.lit (.string ⟨⟨[]⟩⟩)], true⟩ := by kernel_rfl
@[simp] theorem Try.ty10 : tyOf Try.prog 10 = some ⟨.str, 1, 16, [.lit (.string ⟨⟨[]⟩⟩)], true⟩ := by kernel_rfl
@[simp] theorem Try.ty11 : tyOf Try.prog 11 = some ⟨.str, 1, 16, [.lit (.string ⟨⟨[]⟩⟩)], true⟩ := by kernel_rfl
@[simp] theorem Try.ty12 : tyOf Try.prog 12 = some ⟨.int .u64, 1, 8, [.lit (.int .u64 0)], true⟩ := by kernel_rfl
@[simp] theorem Try.ty15 : tyOf Try.prog 15 = some ⟨.ptr 70, 1, 8, [.lit (.pointer none)], false⟩ := by kernel_rfl
@[simp] theorem Try.ty16 : tyOf Try.prog 16 = some ⟨.ptr 73, 1, 8, [.lit (.pointer none)], false⟩ := by kernel_rfl
@[simp] theorem Try.ty17 : tyOf Try.prog 17 = some ⟨.ptr 82, 1, 8, [.lit (.pointer none)], false⟩ := by kernel_rfl
@[simp] theorem Try.ty18 : tyOf Try.prog 18 = some ⟨.struct [(0, 17)], 1, 8, [.lit (.pointer none)], false⟩ := by kernel_rfl
@[simp] theorem Try.ty19 : tyOf Try.prog 19 = some ⟨.struct [(0, 17)], 1, 8, [.lit (.pointer none)], false⟩ := by kernel_rfl
@[simp] theorem Try.ty20 : tyOf Try.prog 20 = some ⟨.iface, 1, 16, [.lit .nilIface], false⟩ := by kernel_rfl
@[simp] theorem Try.ty21 : tyOf Try.prog 21 = some ⟨.int .i32, 1, 4, [.lit (.int .i32 0)], true⟩ := by kernel_rfl
@[simp] theorem Try.ty22 : tyOf Try.prog 22 = some ⟨.slice 38, 1, 24, [.sl [] .full], false⟩ := by kernel_rfl
@[simp] theorem Try.ty23 : tyOf Try.prog 23 = some ⟨.ptr 63, 1, 8, [.lit (.pointer none)], false⟩ := by kernel_rfl
@[simp] theorem Try.ty24 : tyOf Try.prog 24 = some ⟨.slice 54, 1, 24, [.sl [] .full], false⟩ := by kernel_rfl
@[simp] theorem Try.ty25 : tyOf Try.prog 25 = some ⟨.struct [(0, 4), (1, 3), (2, 3), (3, 3), (4, 24), (5, 3), (6, 3)], 7, 72, [.lit (.bool false), .lit (.int .i64 0), .lit (.int .i64 0), .lit (.int .i64 0), .sl [] .full, .lit (.int .i64 0), .lit (.int .i64 0)], false⟩ := by kernel_rfl
@[simp] theorem Try.ty26 : tyOf Try.prog 26 = some ⟨.struct [(0, 4), (1, 3), (2, 3), (3, 3), (4, 24), (5, 3), (6, 3)], 7, 72, [.lit (.bool false), .lit (.int .i64 0), .lit (.int .i64 0), .lit (.int .i64 0), .sl [] .full, .lit (.int .i64 0), .lit (.int .i64 0)], false⟩ := by kernel_rfl
@[simp] theorem Try.ty27 : tyOf Try.prog 27 = some ⟨.struct [(0, 23), (1, 26), (8, 2), (9, 2), (10, 3)], 11, 104, [.lit (.pointer none), .lit (.bool false), .lit (.int .i64 0), .lit (.int .i64 0), .lit (.int .i64 0), .sl [] .full, .lit (.int .i64 0), .lit (.int .i64 0), .lit (.int .i64 0), .lit (.int .i64 0), .lit (.int .i64 0)], false⟩ := by kernel_rfl
@[simp] theorem Try.ty28 : tyOf Try.prog 28 = some ⟨.struct [(0, 23), (1, 26), (8, 2), (9, 2), (10, 3)], 11, 104, [.lit (.pointer none), .lit (.bool false), .lit (.int .i64 0), .lit (.int .i64 0), .lit (.int .i64 0), .sl [] .full, .lit (.int .i64 0), .lit (.int .i64 0), .lit (.int .i64 0), .lit (.int .i64 0), .lit (.int .i64 0)], false⟩ := by kernel_rfl
@[simp] theorem Try.ty32 : tyOf Try.prog 32 = some ⟨.slice 43, 1, 24, [.sl [] .full], false⟩ := by kernel_rfl
@[simp] theorem Try.ty33 : tyOf Try.prog 33 = some ⟨.struct [(0, 32)], 1, 24, [.sl [] .full], false⟩ := by kernel_rfl
@[simp] theorem Try.ty34 : tyOf Try.prog 34 = some ⟨.struct [(0, 32)], 1, 24, [.sl [] .full], false⟩ := by kernel_rfl
@[simp] theorem Try.ty37 : tyOf Try.prog 37 = some ⟨.struct [(0, 3), (1, 3), (2, 3), (3, 4), (4, 4), (5, 4), (6, 9)], 7, 48, [.lit (.int .i64 0), .lit (.int .i64 0), .lit (.int .i64 0), .lit (.bool false), .lit (.bool false), .lit (.bool false), .lit (.string ⟨⟨[]⟩⟩)], true⟩ := by kernel_rfl
@[simp] theorem Try.ty38 : tyOf Try.prog 38 = some ⟨.struct [(0, 3), (1, 3), (2, 3), (3, 4), (4, 4), (5, 4), (6, 9)], 7, 48, [.lit (.int .i64 0), .lit (.int .i64 0), .lit (.int .i64 0), .lit (.bool false), .lit (.bool false), .lit (.bool false), .lit (.string ⟨⟨[]⟩⟩)], true⟩ := by kernel_rfl
@[simp] theorem Try.ty42 : tyOf Try.prog 42 = some ⟨.struct [(0, 2), (1, 2), (2, 4), (3, 4), (4, 4), (5, 9), (6, 3)], 7, 48, [.lit (.int .i64 0), .lit (.int .i64 0), .lit (.bool false), .lit (.bool false), .lit (.bool false), .lit (.string ⟨⟨[]⟩⟩), .lit (.int .i64 0)], true⟩ := by kernel_rfl
@[simp] theorem Try.ty43 : tyOf Try.prog 43 = some ⟨.struct [(0, 2), (1, 2), (2, 4), (3, 4), (4, 4), (5, 9), (6, 3)], 7, 48, [.lit (.int .i64 0), .lit (.int .i64 0), .lit (.bool false), .lit (.bool false), .lit (.bool false), .lit (.string ⟨⟨[]⟩⟩), .lit (.int .i64 0)], true⟩ := by kernel_rfl
@[simp] theorem Try.ty46 : tyOf Try.prog 46 = some ⟨.struct [(0, 4), (1, 3), (2, 3), (3, 3)], 4, 32, [.lit (.bool false), .lit (.int .i64 0), .lit (.int .i64 0), .lit (.int .i64 0)], true⟩ := by kernel_rfl
@[simp] theorem Try.ty47 : tyOf Try.prog 47 = some ⟨.struct [(0, 4), (1, 3), (2, 3), (3, 3)], 4, 32, [.lit (.bool false), .lit (.int .i64 0), .lit (.int .i64 0), .lit (.int .i64 0)], true⟩ := by kernel_rfl
@[simp] theorem Try.ty48 : tyOf Try.prog 48 = some ⟨.int .i64, 1, 8, [.lit (.int .i64 0)], true⟩ := by kernel_rfl
@[simp] theorem Try.ty54 : tyOf Try.prog 54 = some ⟨.struct [(0, 2), (1, 2), (2, 4), (3, 4), (4, 4), (5, 9), (6, 3)], 7, 48, [.lit (.int .i64 0), .lit (.int .i64 0), .lit (.bool false), .lit (.bool false), .lit (.bool false), .lit (.string ⟨⟨[]⟩⟩), .lit (.int .i64 0)], true⟩ := by kernel_rfl
@[simp] theorem Try.ty62 : tyOf Try.prog 62 = some ⟨.struct [(0, 47), (4, 34), (5, 3), (6, 3)], 7, 72, [.lit (.bool false), .lit (.int .i64 0), .lit (.int .i64 0), .lit (.int .i64 0), .sl [] .full, .lit (.int .i64 0), .lit (.int .i64 0)], false⟩ := by kernel_rfl
@[simp] theorem Try.ty63 : tyOf Try.prog 63 = some ⟨.struct [(0, 47), (4, 34), (5, 3), (6, 3)], 7, 72, [.lit (.bool false), .lit (.int .i64 0), .lit (.int .i64 0), .lit (.int .i64 0), .sl [] .full, .lit (.int .i64 0), .lit (.int .i64 0)], false⟩ := by kernel_rfl
@[simp] theorem Try.ty71 : tyOf Try.prog 71 = some ⟨.arr 0 16, 0, 0, [], false⟩ := by kernel_rfl
@[simp] theorem Try.ty74 : tyOf Try.prog 74 = some ⟨.int .u32, 1, 4, [.lit (.int .u32 0)], true⟩ := by kernel_rfl
@[simp] theorem Try.ty75 : tyOf Try.prog 75 = some ⟨.int .u8, 1, 1, [.lit (.int .u8 0)], true⟩ := by kernel_rfl
@[simp] theorem Try.ty76 : tyOf Try.prog 76 = some ⟨.int .u8, 1, 1, [.lit (.int .u8 0)], true⟩ := by kernel_rfl
@[simp] theorem Try.ty78 : tyOf Try.prog 78 = some ⟨.ptr 5, 1, 8, [.lit (.pointer none)], false⟩ := by kernel_rfl
@[simp] theorem Try.ty79 : tyOf Try.prog 79 = some ⟨.int .i32, 1, 4, [.lit (.int .i32 0)], true⟩ := by kernel_rfl
@[simp] theorem Try.ty80 : tyOf Try.prog 80 = some ⟨.int .i32, 1, 4, [.lit (.int .i32 0)], true⟩ := by kernel_rfl
end Go.Proofs

/- What the types of this program come to, as the layer of abstract values wants them: no condition. -/
import Derived.Test.YtdcfbacpklklcaaProg
import Derived.Test.YtdcfbacpklklcaaAb5
import Derived.KernelRfl
namespace Go.Proofs
open Go.Ab
noncomputable abbrev Try.ty : TyTab := tyOf Try.prog
theorem Try.tyOk : TyOk Try.prog Try.ty := ⟨fun _ _ h => h⟩
theorem Try.mixed : Try.prog.follows .mixedOrders = true := by kernel_rfl
@[simp] theorem Try.ty2 : tyOf Try.prog 2 = some ⟨.int .i64, 1, 8, [.lit (.int .i64 0)]⟩ := by kernel_rfl
@[simp] theorem Try.ty3 : tyOf Try.prog 3 = some ⟨.int .i64, 1, 8, [.lit (.int .i64 0)]⟩ := by kernel_rfl
@[simp] theorem Try.ty4 : tyOf Try.prog 4 = some ⟨.bool, 1, 1, [.lit (.bool false)]⟩ := by kernel_rfl
@[simp] theorem Try.ty5 : tyOf Try.prog 5 = some ⟨.int .u8, 1, 1, [.lit (.int .u8 0)]⟩ := by kernel_rfl
@[simp] theorem Try.ty6 : tyOf Try.prog 6 = some ⟨.int .u8, 1, 1, [.lit (.int .u8 0)]⟩ := by kernel_rfl
@[simp] theorem Try.ty7 : tyOf Try.prog 7 = some ⟨.struct [(0, 2), (1, 3), (2, 4), (3, 6)], 4, 24, [.lit (.int .i64 0), .lit (.int .i64 0), .lit (.bool false), .lit (.int .u8 0)]⟩ := by kernel_rfl
@[simp] theorem Try.ty8 : tyOf Try.prog 8 = some ⟨.struct [(0, 2), (1, 3), (2, 4), (3, 6)], 4, 24, [.lit (.int .i64 0), .lit (.int .i64 0), .lit (.bool false), .lit (.int .u8 0)]⟩ := by kernel_rfl
@[simp] theorem Try.ty9 : tyOf Try.prog 9 = some ⟨.str, 1, 16, [.lit (.string ⟨⟨[]⟩⟩)]⟩ := by kernel_rfl
@[simp] theorem Try.ty10 : tyOf Try.prog 10 = some ⟨.str, 1, 16, [.lit (.string ⟨⟨[]⟩⟩)]⟩ := by kernel_rfl
@[simp] theorem Try.ty11 : tyOf Try.prog 11 = some ⟨.str, 1, 16, [.lit (.string ⟨⟨[]⟩⟩)]⟩ := by kernel_rfl
@[simp] theorem Try.ty12 : tyOf Try.prog 12 = some ⟨.int .u64, 1, 8, [.lit (.int .u64 0)]⟩ := by kernel_rfl
@[simp] theorem Try.ty13 : tyOf Try.prog 13 = some ⟨.struct [(0, 9), (1, 12)], 2, 24, [.lit (.string ⟨⟨[]⟩⟩), .lit (.int .u64 0)]⟩ := by kernel_rfl
@[simp] theorem Try.ty14 : tyOf Try.prog 14 = some ⟨.struct [(0, 9), (1, 12)], 2, 24, [.lit (.string ⟨⟨[]⟩⟩), .lit (.int .u64 0)]⟩ := by kernel_rfl
@[simp] theorem Try.ty15 : tyOf Try.prog 15 = some ⟨.ptr 73, 1, 8, [.lit (.pointer none)]⟩ := by kernel_rfl
@[simp] theorem Try.ty16 : tyOf Try.prog 16 = some ⟨.ptr 76, 1, 8, [.lit (.pointer none)]⟩ := by kernel_rfl
@[simp] theorem Try.ty17 : tyOf Try.prog 17 = some ⟨.ptr 85, 1, 8, [.lit (.pointer none)]⟩ := by kernel_rfl
@[simp] theorem Try.ty18 : tyOf Try.prog 18 = some ⟨.struct [(0, 17)], 1, 8, [.lit (.pointer none)]⟩ := by kernel_rfl
@[simp] theorem Try.ty19 : tyOf Try.prog 19 = some ⟨.struct [(0, 17)], 1, 8, [.lit (.pointer none)]⟩ := by kernel_rfl
@[simp] theorem Try.ty20 : tyOf Try.prog 20 = some ⟨.iface, 1, 16, [.lit .nilIface]⟩ := by kernel_rfl
@[simp] theorem Try.ty21 : tyOf Try.prog 21 = some ⟨.int .i32, 1, 4, [.lit (.int .i32 0)]⟩ := by kernel_rfl
@[simp] theorem Try.ty22 : tyOf Try.prog 22 = some ⟨.slice 3, 1, 24, [.sl [] .full]⟩ := by kernel_rfl
@[simp] theorem Try.ty24 : tyOf Try.prog 24 = some ⟨.ptr 60, 1, 8, [.lit (.pointer none)]⟩ := by kernel_rfl
@[simp] theorem Try.ty25 : tyOf Try.prog 25 = some ⟨.int .i64, 1, 8, [.lit (.int .i64 0)]⟩ := by kernel_rfl
@[simp] theorem Try.ty28 : tyOf Try.prog 28 = some ⟨.struct [(0, 4), (1, 3), (2, 3), (3, 3)], 4, 32, [.lit (.bool false), .lit (.int .i64 0), .lit (.int .i64 0), .lit (.int .i64 0)]⟩ := by kernel_rfl
@[simp] theorem Try.ty29 : tyOf Try.prog 29 = some ⟨.struct [(0, 4), (1, 3), (2, 3), (3, 3)], 4, 32, [.lit (.bool false), .lit (.int .i64 0), .lit (.int .i64 0), .lit (.int .i64 0)]⟩ := by kernel_rfl
@[simp] theorem Try.ty30 : tyOf Try.prog 30 = some ⟨.slice 37, 1, 24, [.sl [] .full]⟩ := by kernel_rfl
@[simp] theorem Try.ty31 : tyOf Try.prog 31 = some ⟨.struct [(0, 30)], 1, 24, [.sl [] .full]⟩ := by kernel_rfl
@[simp] theorem Try.ty32 : tyOf Try.prog 32 = some ⟨.struct [(0, 30)], 1, 24, [.sl [] .full]⟩ := by kernel_rfl
@[simp] theorem Try.ty35 : tyOf Try.prog 35 = some ⟨.slice 5, 1, 24, [.sl [] .full]⟩ := by kernel_rfl
@[simp] theorem Try.ty36 : tyOf Try.prog 36 = some ⟨.struct [(0, 2), (1, 2), (2, 4), (3, 4), (4, 4), (5, 9), (6, 3)], 7, 48, [.lit (.int .i64 0), .lit (.int .i64 0), .lit (.bool false), .lit (.bool false), .lit (.bool false), .lit (.string ⟨⟨[]⟩⟩), .lit (.int .i64 0)]⟩ := by kernel_rfl
@[simp] theorem Try.ty37 : tyOf Try.prog 37 = some ⟨.struct [(0, 2), (1, 2), (2, 4), (3, 4), (4, 4), (5, 9), (6, 3)], 7, 48, [.lit (.int .i64 0), .lit (.int .i64 0), .lit (.bool false), .lit (.bool false), .lit (.bool false), .lit (.string ⟨⟨[]⟩⟩), .lit (.int .i64 0)]⟩ := by kernel_rfl
@[simp] theorem Try.ty43 : tyOf Try.prog 43 = some ⟨.ptr 65, 1, 8, [.lit (.pointer none)]⟩ := by kernel_rfl
@[simp] theorem Try.ty46 : tyOf Try.prog 46 = some ⟨.struct [(0, 3), (1, 3), (2, 3)], 3, 24, [.lit (.int .i64 0), .lit (.int .i64 0), .lit (.int .i64 0)]⟩ := by kernel_rfl
@[simp] theorem Try.ty47 : tyOf Try.prog 47 = some ⟨.struct [(0, 3), (1, 3), (2, 3)], 3, 24, [.lit (.int .i64 0), .lit (.int .i64 0), .lit (.int .i64 0)]⟩ := by kernel_rfl
@[simp] theorem Try.ty48 : tyOf Try.prog 48 = some ⟨.int .u64, 1, 8, [.lit (.int .u64 0)]⟩ := by kernel_rfl
@[simp] theorem Try.ty52 : tyOf Try.prog 52 = some ⟨.struct [(0, 3), (1, 3), (2, 3), (3, 22), (4, 3), (5, 3), (6, 3), (7, 22)], 8, 96, [.lit (.int .i64 0), .lit (.int .i64 0), .lit (.int .i64 0), .sl [] .full, .lit (.int .i64 0), .lit (.int .i64 0), .lit (.int .i64 0), .sl [] .full]⟩ := by kernel_rfl
@[simp] theorem Try.ty53 : tyOf Try.prog 53 = some ⟨.struct [(0, 3), (1, 3), (2, 3), (3, 22), (4, 3), (5, 3), (6, 3), (7, 22)], 8, 96, [.lit (.int .i64 0), .lit (.int .i64 0), .lit (.int .i64 0), .sl [] .full, .lit (.int .i64 0), .lit (.int .i64 0), .lit (.int .i64 0), .sl [] .full]⟩ := by kernel_rfl
@[simp] theorem Try.ty59 : tyOf Try.prog 59 = some ⟨.struct [(0, 29), (4, 32), (5, 3), (6, 3)], 7, 72, [.lit (.bool false), .lit (.int .i64 0), .lit (.int .i64 0), .lit (.int .i64 0), .sl [] .full, .lit (.int .i64 0), .lit (.int .i64 0)]⟩ := by kernel_rfl
@[simp] theorem Try.ty60 : tyOf Try.prog 60 = some ⟨.struct [(0, 29), (4, 32), (5, 3), (6, 3)], 7, 72, [.lit (.bool false), .lit (.int .i64 0), .lit (.int .i64 0), .lit (.int .i64 0), .sl [] .full, .lit (.int .i64 0), .lit (.int .i64 0)]⟩ := by kernel_rfl
@[simp] theorem Try.ty64 : tyOf Try.prog 64 = some ⟨.struct [(0, 47), (3, 22), (4, 3), (5, 3), (6, 3), (7, 3), (8, 3)], 9, 88, [.lit (.int .i64 0), .lit (.int .i64 0), .lit (.int .i64 0), .sl [] .full, .lit (.int .i64 0), .lit (.int .i64 0), .lit (.int .i64 0), .lit (.int .i64 0), .lit (.int .i64 0)]⟩ := by kernel_rfl
@[simp] theorem Try.ty65 : tyOf Try.prog 65 = some ⟨.struct [(0, 47), (3, 22), (4, 3), (5, 3), (6, 3), (7, 3), (8, 3)], 9, 88, [.lit (.int .i64 0), .lit (.int .i64 0), .lit (.int .i64 0), .sl [] .full, .lit (.int .i64 0), .lit (.int .i64 0), .lit (.int .i64 0), .lit (.int .i64 0), .lit (.int .i64 0)]⟩ := by kernel_rfl
@[simp] theorem Try.ty72 : tyOf Try.prog 72 = some ⟨.struct [(0, 17), (1, 17), (2, 17), (3, 9)], 4, 40, [.lit (.pointer none), .lit (.pointer none), .lit (.pointer none), .lit (.string ⟨⟨[]⟩⟩)]⟩ := by kernel_rfl
@[simp] theorem Try.ty73 : tyOf Try.prog 73 = some ⟨.struct [(0, 17), (1, 17), (2, 17), (3, 9)], 4, 40, [.lit (.pointer none), .lit (.pointer none), .lit (.pointer none), .lit (.string ⟨⟨[]⟩⟩)]⟩ := by kernel_rfl
@[simp] theorem Try.ty74 : tyOf Try.prog 74 = some ⟨.arr 0 16, 0, 0, []⟩ := by kernel_rfl
@[simp] theorem Try.ty75 : tyOf Try.prog 75 = some ⟨.struct [(0, 74)], 0, 0, []⟩ := by kernel_rfl
@[simp] theorem Try.ty76 : tyOf Try.prog 76 = some ⟨.struct [(0, 74)], 0, 0, []⟩ := by kernel_rfl
@[simp] theorem Try.ty77 : tyOf Try.prog 77 = some ⟨.int .u32, 1, 4, [.lit (.int .u32 0)]⟩ := by kernel_rfl
@[simp] theorem Try.ty78 : tyOf Try.prog 78 = some ⟨.int .u8, 1, 1, [.lit (.int .u8 0)]⟩ := by kernel_rfl
@[simp] theorem Try.ty79 : tyOf Try.prog 79 = some ⟨.int .u8, 1, 1, [.lit (.int .u8 0)]⟩ := by kernel_rfl
@[simp] theorem Try.ty81 : tyOf Try.prog 81 = some ⟨.ptr 5, 1, 8, [.lit (.pointer none)]⟩ := by kernel_rfl
@[simp] theorem Try.ty82 : tyOf Try.prog 82 = some ⟨.int .i32, 1, 4, [.lit (.int .i32 0)]⟩ := by kernel_rfl
@[simp] theorem Try.ty83 : tyOf Try.prog 83 = some ⟨.int .i32, 1, 4, [.lit (.int .i32 0)]⟩ := by kernel_rfl
@[simp] theorem Try.ty84 : tyOf Try.prog 84 = some ⟨.struct [(0, 12), (1, 12), (2, 77), (3, 78), (4, 5), (5, 5), (6, 79), (7, 80), (8, 81), (9, 82), (10, 83)], 11, 48, [.lit (.int .u64 0), .lit (.int .u64 0), .lit (.int .u32 0), .lit (.int .u8 0), .lit (.int .u8 0), .lit (.int .u8 0), .lit (.int .u8 0), .lit .nilFunc, .lit (.pointer none), .lit (.int .i32 0), .lit (.int .i32 0)]⟩ := by kernel_rfl
@[simp] theorem Try.ty85 : tyOf Try.prog 85 = some ⟨.struct [(0, 12), (1, 12), (2, 77), (3, 78), (4, 5), (5, 5), (6, 79), (7, 80), (8, 81), (9, 82), (10, 83)], 11, 48, [.lit (.int .u64 0), .lit (.int .u64 0), .lit (.int .u32 0), .lit (.int .u8 0), .lit (.int .u8 0), .lit (.int .u8 0), .lit (.int .u8 0), .lit .nilFunc, .lit (.pointer none), .lit (.int .i32 0), .lit (.int .i32 0)]⟩ := by kernel_rfl
end Go.Proofs

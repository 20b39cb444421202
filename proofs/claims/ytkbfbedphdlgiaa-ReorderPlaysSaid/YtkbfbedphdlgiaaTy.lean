/- What the types of this program come to, as the layer of abstract values wants them: no condition. -/
import Derived.Test.YtkbfbedphdlgiaaProg
import Derived.Test.YtkbfbedphdlgiaaAb5
import Derived.KernelRfl
namespace Go.Proofs
open Go.Ab
noncomputable abbrev Try.ty : TyTab := tyOf Try.prog
theorem Try.tyOk : TyOk Try.prog Try.ty := ⟨fun _ _ h => h⟩
theorem Try.mixed : Try.prog.follows .mixedOrders = true := by kernel_rfl
@[simp] theorem Try.ty2 : tyOf Try.prog 2 = some ⟨.int .i64, 1, 8, [.lit (.int .i64 0)], true⟩ := by kernel_rfl
@[simp] theorem Try.ty3 : tyOf Try.prog 3 = some ⟨.int .i64, 1, 8, [.lit (.int .i64 0)], true⟩ := by kernel_rfl
@[simp] theorem Try.ty4 : tyOf Try.prog 4 = some ⟨.bool, 1, 1, [.lit (.bool false)], true⟩ := by kernel_rfl
@[simp] theorem Try.ty5 : tyOf Try.prog 5 = some ⟨.int .u8, 1, 1, [.lit (.int .u8 0)], true⟩ := by kernel_rfl
@[simp] theorem Try.ty6 : tyOf Try.prog 6 = some ⟨.int .u8, 1, 1, [.lit (.int .u8 0)], true⟩ := by kernel_rfl
@[simp] theorem Try.ty9 : tyOf Try.prog 9 = some ⟨.str, 1, 16, [.lit (.string ⟨⟨[]⟩⟩)], true⟩ := by kernel_rfl
@[simp] theorem Try.ty10 : tyOf Try.prog 10 = some ⟨.str, 1, 16, [.lit (.string ⟨⟨[]⟩⟩)], true⟩ := by kernel_rfl
@[simp] theorem Try.ty11 : tyOf Try.prog 11 = some ⟨.str, 1, 16, [.lit (.string ⟨⟨[]⟩⟩)], true⟩ := by kernel_rfl
@[simp] theorem Try.ty12 : tyOf Try.prog 12 = some ⟨.int .u64, 1, 8, [.lit (.int .u64 0)], true⟩ := by kernel_rfl
@[simp] theorem Try.ty15 : tyOf Try.prog 15 = some ⟨.ptr 109, 1, 8, [.lit (.pointer none)], false⟩ := by kernel_rfl
@[simp] theorem Try.ty16 : tyOf Try.prog 16 = some ⟨.ptr 112, 1, 8, [.lit (.pointer none)], false⟩ := by kernel_rfl
@[simp] theorem Try.ty17 : tyOf Try.prog 17 = some ⟨.ptr 120, 1, 8, [.lit (.pointer none)], false⟩ := by kernel_rfl
@[simp] theorem Try.ty18 : tyOf Try.prog 18 = some ⟨.struct [(0, 17)], 1, 8, [.lit (.pointer none)], false⟩ := by kernel_rfl
@[simp] theorem Try.ty19 : tyOf Try.prog 19 = some ⟨.struct [(0, 17)], 1, 8, [.lit (.pointer none)], false⟩ := by kernel_rfl
@[simp] theorem Try.ty20 : tyOf Try.prog 20 = some ⟨.iface, 1, 16, [.lit .nilIface], false⟩ := by kernel_rfl
@[simp] theorem Try.ty21 : tyOf Try.prog 21 = some ⟨.int .i32, 1, 4, [.lit (.int .i32 0)], true⟩ := by kernel_rfl
@[simp] theorem Try.ty22 : tyOf Try.prog 22 = some ⟨.ptr 62, 1, 8, [.lit (.pointer none)], false⟩ := by kernel_rfl
@[simp] theorem Try.ty23 : tyOf Try.prog 23 = some ⟨.int .i64, 1, 8, [.lit (.int .i64 0)], true⟩ := by kernel_rfl
@[simp] theorem Try.ty26 : tyOf Try.prog 26 = some ⟨.struct [(0, 3), (1, 3)], 2, 16, [.lit (.int .i64 0), .lit (.int .i64 0)], true⟩ := by kernel_rfl
@[simp] theorem Try.ty27 : tyOf Try.prog 27 = some ⟨.struct [(0, 3), (1, 3)], 2, 16, [.lit (.int .i64 0), .lit (.int .i64 0)], true⟩ := by kernel_rfl
@[simp] theorem Try.ty30 : tyOf Try.prog 30 = some ⟨.slice 3, 1, 24, [.sl [] .full], false⟩ := by kernel_rfl
@[simp] theorem Try.ty31 : tyOf Try.prog 31 = some ⟨.slice 35, 1, 24, [.sl [] .full], false⟩ := by kernel_rfl
@[simp] theorem Try.ty34 : tyOf Try.prog 34 = some ⟨.struct [(0, 2), (1, 9), (2, 3)], 3, 32, [.lit (.int .i64 0), .lit (.string ⟨⟨[]⟩⟩), .lit (.int .i64 0)], true⟩ := by kernel_rfl
@[simp] theorem Try.ty35 : tyOf Try.prog 35 = some ⟨.struct [(0, 2), (1, 9), (2, 3)], 3, 32, [.lit (.int .i64 0), .lit (.string ⟨⟨[]⟩⟩), .lit (.int .i64 0)], true⟩ := by kernel_rfl
@[simp] theorem Try.ty36 : tyOf Try.prog 36 = some ⟨.map 3 3, 1, 8, [.lit (.map none)], false⟩ := by kernel_rfl
@[simp] theorem Try.ty39 : tyOf Try.prog 39 = some ⟨.slice 2, 1, 24, [.sl [] .full], false⟩ := by kernel_rfl
@[simp] theorem Try.ty41 : tyOf Try.prog 41 = some ⟨.slice 52, 1, 24, [.sl [] .full], false⟩ := by kernel_rfl
@[simp] theorem Try.ty42 : tyOf Try.prog 42 = some ⟨.slice 53, 1, 24, [.sl [] .full], false⟩ := by kernel_rfl
@[simp] theorem Try.ty43 : tyOf Try.prog 43 = some ⟨.struct [(0, 3), (1, 3), (2, 4), (3, 2), (4, 42), (5, 3)], 6, 64, [.lit (.int .i64 0), .lit (.int .i64 0), .lit (.bool false), .lit (.int .i64 0), .sl [] .full, .lit (.int .i64 0)], false⟩ := by kernel_rfl
@[simp] theorem Try.ty44 : tyOf Try.prog 44 = some ⟨.struct [(0, 3), (1, 3), (2, 4), (3, 2), (4, 42), (5, 3)], 6, 64, [.lit (.int .i64 0), .lit (.int .i64 0), .lit (.bool false), .lit (.int .i64 0), .sl [] .full, .lit (.int .i64 0)], false⟩ := by kernel_rfl
@[simp] theorem Try.ty45 : tyOf Try.prog 45 = some ⟨.struct [(0, 22), (1, 44), (7, 3)], 8, 80, [.lit (.pointer none), .lit (.int .i64 0), .lit (.int .i64 0), .lit (.bool false), .lit (.int .i64 0), .sl [] .full, .lit (.int .i64 0), .lit (.int .i64 0)], false⟩ := by kernel_rfl
@[simp] theorem Try.ty46 : tyOf Try.prog 46 = some ⟨.struct [(0, 22), (1, 44), (7, 3)], 8, 80, [.lit (.pointer none), .lit (.int .i64 0), .lit (.int .i64 0), .lit (.bool false), .lit (.int .i64 0), .sl [] .full, .lit (.int .i64 0), .lit (.int .i64 0)], false⟩ := by kernel_rfl
@[simp] theorem Try.ty51 : tyOf Try.prog 51 = some ⟨.struct [(0, 3), (1, 3), (2, 9)], 3, 32, [.lit (.int .i64 0), .lit (.int .i64 0), .lit (.string ⟨⟨[]⟩⟩)], true⟩ := by kernel_rfl
@[simp] theorem Try.ty52 : tyOf Try.prog 52 = some ⟨.struct [(0, 3), (1, 3), (2, 9)], 3, 32, [.lit (.int .i64 0), .lit (.int .i64 0), .lit (.string ⟨⟨[]⟩⟩)], true⟩ := by kernel_rfl
@[simp] theorem Try.ty53 : tyOf Try.prog 53 = some ⟨.struct [(0, 2), (1, 9), (2, 3)], 3, 32, [.lit (.int .i64 0), .lit (.string ⟨⟨[]⟩⟩), .lit (.int .i64 0)], true⟩ := by kernel_rfl
@[simp] theorem Try.ty60 : tyOf Try.prog 60 = some ⟨.map 2 35, 1, 8, [.lit (.map none)], false⟩ := by kernel_rfl
@[simp] theorem Try.ty61 : tyOf Try.prog 61 = some ⟨.struct [(0, 27), (2, 4), (3, 2), (4, 60), (5, 3)], 6, 48, [.lit (.int .i64 0), .lit (.int .i64 0), .lit (.bool false), .lit (.int .i64 0), .lit (.map none), .lit (.int .i64 0)], false⟩ := by kernel_rfl
@[simp] theorem Try.ty62 : tyOf Try.prog 62 = some ⟨.struct [(0, 27), (2, 4), (3, 2), (4, 60), (5, 3)], 6, 48, [.lit (.int .i64 0), .lit (.int .i64 0), .lit (.bool false), .lit (.int .i64 0), .lit (.map none), .lit (.int .i64 0)], false⟩ := by kernel_rfl
@[simp] theorem Try.ty84 : tyOf Try.prog 84 = some ⟨.int .u64, 1, 8, [.lit (.int .u64 0)], true⟩ := by kernel_rfl
@[simp] theorem Try.ty86 : tyOf Try.prog 86 = some ⟨.int .i64, 1, 8, [.lit (.int .i64 0)], true⟩ := by kernel_rfl
@[simp] theorem Try.ty95 : tyOf Try.prog 95 = some ⟨.int .u32, 1, 4, [.lit (.int .u32 0)], true⟩ := by kernel_rfl
@[simp] theorem Try.ty97 : tyOf Try.prog 97 = some ⟨.int .u64, 1, 8, [.lit (.int .u64 0)], true⟩ := by kernel_rfl
@[simp] theorem Try.ty98 : tyOf Try.prog 98 = some ⟨.int .u64, 1, 8, [.lit (.int .u64 0)], true⟩ := by kernel_rfl
@[simp] theorem Try.ty102 : tyOf Try.prog 102 = some ⟨.ptr 3, 1, 8, [.lit (.pointer none)], false⟩ := by kernel_rfl
@[simp] theorem Try.ty104 : tyOf Try.prog 104 = some ⟨.ptr 98, 1, 8, [.lit (.pointer none)], false⟩ := by kernel_rfl
@[simp] theorem Try.ty110 : tyOf Try.prog 110 = some ⟨.arr 0 16, 0, 0, [], false⟩ := by kernel_rfl
@[simp] theorem Try.ty113 : tyOf Try.prog 113 = some ⟨.int .u8, 1, 1, [.lit (.int .u8 0)], true⟩ := by kernel_rfl
@[simp] theorem Try.ty114 : tyOf Try.prog 114 = some ⟨.int .u8, 1, 1, [.lit (.int .u8 0)], true⟩ := by kernel_rfl
@[simp] theorem Try.ty116 : tyOf Try.prog 116 = some ⟨.ptr 5, 1, 8, [.lit (.pointer none)], false⟩ := by kernel_rfl
@[simp] theorem Try.ty117 : tyOf Try.prog 117 = some ⟨.int .i32, 1, 4, [.lit (.int .i32 0)], true⟩ := by kernel_rfl
@[simp] theorem Try.ty118 : tyOf Try.prog 118 = some ⟨.int .i32, 1, 4, [.lit (.int .i32 0)], true⟩ := by kernel_rfl
end Go.Proofs

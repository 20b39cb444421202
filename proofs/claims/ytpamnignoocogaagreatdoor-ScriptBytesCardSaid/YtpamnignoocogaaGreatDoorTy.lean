/- What the types of this program come to, as the layer of abstract values wants them: no condition. -/
import Derived.Test.YtpamnignoocogaaGreatDoorProg
import Derived.Test.YtpamnignoocogaaGreatDoorAb7
import Derived.KernelRfl
namespace Go.Proofs
open Go.Ab
noncomputable def Tryz.ty : TyTab := ⟨tyOf Tryz.prog, methOf Tryz.prog, implOf Tryz.prog⟩
@[simp] theorem Tryz.ty_tab (t : TypeId) : Tryz.ty.tab t = tyOf Tryz.prog t := by simp only [Tryz.ty]
@[simp] theorem Tryz.ty_meth : Tryz.ty.meth = methOf Tryz.prog := by simp only [Tryz.ty]
@[simp] theorem Tryz.ty_impl : Tryz.ty.impl = implOf Tryz.prog := by simp only [Tryz.ty]
theorem Tryz.tyOk : TyOk Tryz.prog Tryz.ty := ⟨fun _ _ h => by rw [Tryz.ty_tab] at h; exact h, fun _ _ _ h => by rw [Tryz.ty_meth] at h; exact h, fun _ _ _ h => by rw [Tryz.ty_impl] at h; exact h⟩
theorem Tryz.mixed : Tryz.prog.follows .mixedOrders = true := by kernel_rfl
@[simp] theorem Tryz.ty2 : tyOf Tryz.prog 2 = some ⟨.int .i64, 1, 8, [.lit (.int .i64 0)], true⟩ := by kernel_rfl
@[simp] theorem Tryz.ty3 : tyOf Tryz.prog 3 = some ⟨.int .i64, 1, 8, [.lit (.int .i64 0)], true⟩ := by kernel_rfl
@[simp] theorem Tryz.ty4 : tyOf Tryz.prog 4 = some ⟨.bool, 1, 1, [.lit (.bool false)], true⟩ := by kernel_rfl
@[simp] theorem Tryz.ty5 : tyOf Tryz.prog 5 = some ⟨.int .u8, 1, 1, [.lit (.int .u8 0)], true⟩ := by kernel_rfl
@[simp] theorem Tryz.ty6 : tyOf Tryz.prog 6 = some ⟨.int .u8, 1, 1, [.lit (.int .u8 0)], true⟩ := by kernel_rfl
@[simp] theorem Tryz.ty9 : tyOf Tryz.prog 9 = some ⟨.str, 1, 16, [.lit (.string ⟨⟨[]⟩⟩)], true⟩ := by kernel_rfl
@[simp] theorem Tryz.ty10 : tyOf Tryz.prog 10 = some ⟨.str, 1, 16, [.lit (.string ⟨⟨[]⟩⟩)], true⟩ := by kernel_rfl
@[simp] theorem Tryz.ty11 : tyOf Tryz.prog 11 = some ⟨.str, 1, 16, [.lit (.string ⟨⟨[]⟩⟩)], true⟩ := by kernel_rfl
@[simp] theorem Tryz.ty12 : tyOf Tryz.prog 12 = some ⟨.int .u64, 1, 8, [.lit (.int .u64 0)], true⟩ := by kernel_rfl
@[simp] theorem Tryz.ty15 : tyOf Tryz.prog 15 = some ⟨.ptr 684, 1, 8, [.lit (.pointer none)], false⟩ := by kernel_rfl
@[simp] theorem Tryz.ty16 : tyOf Tryz.prog 16 = some ⟨.ptr 687, 1, 8, [.lit (.pointer none)], false⟩ := by kernel_rfl
@[simp] theorem Tryz.ty17 : tyOf Tryz.prog 17 = some ⟨.ptr 694, 1, 8, [.lit (.pointer none)], false⟩ := by kernel_rfl
@[simp] theorem Tryz.ty18 : tyOf Tryz.prog 18 = some ⟨.struct [(0, 17)], 1, 8, [.lit (.pointer none)], false⟩ := by kernel_rfl
@[simp] theorem Tryz.ty19 : tyOf Tryz.prog 19 = some ⟨.struct [(0, 17)], 1, 8, [.lit (.pointer none)], false⟩ := by kernel_rfl
@[simp] theorem Tryz.ty20 : tyOf Tryz.prog 20 = some ⟨.iface, 1, 16, [.lit .nilIface], false⟩ := by kernel_rfl
@[simp] theorem Tryz.ty21 : tyOf Tryz.prog 21 = some ⟨.int .i32, 1, 4, [.lit (.int .i32 0)], true⟩ := by kernel_rfl
@[simp] theorem Tryz.ty23 : tyOf Tryz.prog 23 = some ⟨.slice 39, 1, 24, [.sl [] .full], false⟩ := by kernel_rfl
@[simp] theorem Tryz.ty24 : tyOf Tryz.prog 24 = some ⟨.int .i64, 1, 8, [.lit (.int .i64 0)], true⟩ := by kernel_rfl
@[simp] theorem Tryz.ty27 : tyOf Tryz.prog 27 = some ⟨.slice 9, 1, 24, [.sl [] .full], false⟩ := by kernel_rfl
@[simp] theorem Tryz.ty30 : tyOf Tryz.prog 30 = some ⟨.slice 116, 1, 24, [.sl [] .full], false⟩ := by kernel_rfl
@[simp] theorem Tryz.ty31 : tyOf Tryz.prog 31 = some ⟨.struct [(0, 3), (1, 9), (2, 9), (3, 3), (4, 3), (5, 3), (6, 3), (7, 4), (8, 4), (9, 30)], 10, 104, [.lit (.int .i64 0), .lit (.string ⟨⟨[]⟩⟩), .lit (.string ⟨⟨[]⟩⟩), .lit (.int .i64 0), .lit (.int .i64 0), .lit (.int .i64 0), .lit (.int .i64 0), .lit (.bool false), .lit (.bool false), .sl [] .full], false⟩ := by kernel_rfl
@[simp] theorem Tryz.ty32 : tyOf Tryz.prog 32 = some ⟨.struct [(0, 3), (1, 9), (2, 9), (3, 3), (4, 3), (5, 3), (6, 3), (7, 4), (8, 4), (9, 30)], 10, 104, [.lit (.int .i64 0), .lit (.string ⟨⟨[]⟩⟩), .lit (.string ⟨⟨[]⟩⟩), .lit (.int .i64 0), .lit (.int .i64 0), .lit (.int .i64 0), .lit (.int .i64 0), .lit (.bool false), .lit (.bool false), .sl [] .full], false⟩ := by kernel_rfl
@[simp] theorem Tryz.ty33 : tyOf Tryz.prog 33 = some ⟨.struct [(0, 3), (1, 3), (2, 3), (3, 9), (4, 32)], 14, 144, [.lit (.int .i64 0), .lit (.int .i64 0), .lit (.int .i64 0), .lit (.string ⟨⟨[]⟩⟩), .lit (.int .i64 0), .lit (.string ⟨⟨[]⟩⟩), .lit (.string ⟨⟨[]⟩⟩), .lit (.int .i64 0), .lit (.int .i64 0), .lit (.int .i64 0), .lit (.int .i64 0), .lit (.bool false), .lit (.bool false), .sl [] .full], false⟩ := by kernel_rfl
@[simp] theorem Tryz.ty34 : tyOf Tryz.prog 34 = some ⟨.struct [(0, 3), (1, 3), (2, 3), (3, 9), (4, 32)], 14, 144, [.lit (.int .i64 0), .lit (.int .i64 0), .lit (.int .i64 0), .lit (.string ⟨⟨[]⟩⟩), .lit (.int .i64 0), .lit (.string ⟨⟨[]⟩⟩), .lit (.string ⟨⟨[]⟩⟩), .lit (.int .i64 0), .lit (.int .i64 0), .lit (.int .i64 0), .lit (.int .i64 0), .lit (.bool false), .lit (.bool false), .sl [] .full], false⟩ := by kernel_rfl
@[simp] theorem Tryz.ty38 : tyOf Tryz.prog 38 = some ⟨.struct [(0, 3), (1, 3), (2, 9), (3, 3)], 4, 40, [.lit (.int .i64 0), .lit (.int .i64 0), .lit (.string ⟨⟨[]⟩⟩), .lit (.int .i64 0)], true⟩ := by kernel_rfl
@[simp] theorem Tryz.ty39 : tyOf Tryz.prog 39 = some ⟨.struct [(0, 3), (1, 3), (2, 9), (3, 3)], 4, 40, [.lit (.int .i64 0), .lit (.int .i64 0), .lit (.string ⟨⟨[]⟩⟩), .lit (.int .i64 0)], true⟩ := by kernel_rfl
@[simp] theorem Tryz.ty53 : tyOf Tryz.prog 53 = some ⟨.struct [(0, 3), (1, 3)], 2, 16, [.lit (.int .i64 0), .lit (.int .i64 0)], true⟩ := by kernel_rfl
@[simp] theorem Tryz.ty54 : tyOf Tryz.prog 54 = some ⟨.struct [(0, 3), (1, 3)], 2, 16, [.lit (.int .i64 0), .lit (.int .i64 0)], true⟩ := by kernel_rfl
@[simp] theorem Tryz.ty55 : tyOf Tryz.prog 55 = some ⟨.struct [(0, 4), (1, 3), (2, 3), (3, 3)], 4, 32, [.lit (.bool false), .lit (.int .i64 0), .lit (.int .i64 0), .lit (.int .i64 0)], true⟩ := by kernel_rfl
@[simp] theorem Tryz.ty56 : tyOf Tryz.prog 56 = some ⟨.struct [(0, 4), (1, 3), (2, 3), (3, 3)], 4, 32, [.lit (.bool false), .lit (.int .i64 0), .lit (.int .i64 0), .lit (.int .i64 0)], true⟩ := by kernel_rfl
@[simp] theorem Tryz.ty57 : tyOf Tryz.prog 57 = some ⟨.struct [(0, 54), (2, 56)], 6, 48, [.lit (.int .i64 0), .lit (.int .i64 0), .lit (.bool false), .lit (.int .i64 0), .lit (.int .i64 0), .lit (.int .i64 0)], true⟩ := by kernel_rfl
@[simp] theorem Tryz.ty58 : tyOf Tryz.prog 58 = some ⟨.struct [(0, 54), (2, 56)], 6, 48, [.lit (.int .i64 0), .lit (.int .i64 0), .lit (.bool false), .lit (.int .i64 0), .lit (.int .i64 0), .lit (.int .i64 0)], true⟩ := by kernel_rfl
@[simp] theorem Tryz.ty59 : tyOf Tryz.prog 59 = some ⟨.struct [(0, 3), (1, 3), (2, 3), (3, 3), (4, 3)], 5, 40, [.lit (.int .i64 0), .lit (.int .i64 0), .lit (.int .i64 0), .lit (.int .i64 0), .lit (.int .i64 0)], true⟩ := by kernel_rfl
@[simp] theorem Tryz.ty60 : tyOf Tryz.prog 60 = some ⟨.struct [(0, 3), (1, 3), (2, 3), (3, 3), (4, 3)], 5, 40, [.lit (.int .i64 0), .lit (.int .i64 0), .lit (.int .i64 0), .lit (.int .i64 0), .lit (.int .i64 0)], true⟩ := by kernel_rfl
@[simp] theorem Tryz.ty61 : tyOf Tryz.prog 61 = some ⟨.struct [(0, 3), (1, 3)], 2, 16, [.lit (.int .i64 0), .lit (.int .i64 0)], true⟩ := by kernel_rfl
@[simp] theorem Tryz.ty62 : tyOf Tryz.prog 62 = some ⟨.struct [(0, 3), (1, 3)], 2, 16, [.lit (.int .i64 0), .lit (.int .i64 0)], true⟩ := by kernel_rfl
@[simp] theorem Tryz.ty63 : tyOf Tryz.prog 63 = some ⟨.struct [(0, 3), (1, 3)], 2, 16, [.lit (.int .i64 0), .lit (.int .i64 0)], true⟩ := by kernel_rfl
@[simp] theorem Tryz.ty64 : tyOf Tryz.prog 64 = some ⟨.struct [(0, 3), (1, 3)], 2, 16, [.lit (.int .i64 0), .lit (.int .i64 0)], true⟩ := by kernel_rfl
@[simp] theorem Tryz.ty65 : tyOf Tryz.prog 65 = some ⟨.struct [(0, 3), (1, 3), (2, 3)], 3, 24, [.lit (.int .i64 0), .lit (.int .i64 0), .lit (.int .i64 0)], true⟩ := by kernel_rfl
@[simp] theorem Tryz.ty66 : tyOf Tryz.prog 66 = some ⟨.struct [(0, 3), (1, 3), (2, 3)], 3, 24, [.lit (.int .i64 0), .lit (.int .i64 0), .lit (.int .i64 0)], true⟩ := by kernel_rfl
@[simp] theorem Tryz.ty67 : tyOf Tryz.prog 67 = some ⟨.slice 3, 1, 24, [.sl [] .full], false⟩ := by kernel_rfl
@[simp] theorem Tryz.ty68 : tyOf Tryz.prog 68 = some ⟨.struct [(0, 58), (6, 60), (11, 62), (13, 64), (15, 66), (18, 67), (19, 3), (20, 3), (21, 3), (22, 3), (23, 3), (24, 3)], 25, 216, [.lit (.int .i64 0), .lit (.int .i64 0), .lit (.bool false), .lit (.int .i64 0), .lit (.int .i64 0), .lit (.int .i64 0), .lit (.int .i64 0), .lit (.int .i64 0), .lit (.int .i64 0), .lit (.int .i64 0), .lit (.int .i64 0), .lit (.int .i64 0), .lit (.int .i64 0), .lit (.int .i64 0), .lit (.int .i64 0), .lit (.int .i64 0), .lit (.int .i64 0), .lit (.int .i64 0), .sl [] .full, .lit (.int .i64 0), .lit (.int .i64 0), .lit (.int .i64 0), .lit (.int .i64 0), .lit (.int .i64 0), .lit (.int .i64 0)], false⟩ := by kernel_rfl
@[simp] theorem Tryz.ty69 : tyOf Tryz.prog 69 = some ⟨.struct [(0, 58), (6, 60), (11, 62), (13, 64), (15, 66), (18, 67), (19, 3), (20, 3), (21, 3), (22, 3), (23, 3), (24, 3)], 25, 216, [.lit (.int .i64 0), .lit (.int .i64 0), .lit (.bool false), .lit (.int .i64 0), .lit (.int .i64 0), .lit (.int .i64 0), .lit (.int .i64 0), .lit (.int .i64 0), .lit (.int .i64 0), .lit (.int .i64 0), .lit (.int .i64 0), .lit (.int .i64 0), .lit (.int .i64 0), .lit (.int .i64 0), .lit (.int .i64 0), .lit (.int .i64 0), .lit (.int .i64 0), .lit (.int .i64 0), .sl [] .full, .lit (.int .i64 0), .lit (.int .i64 0), .lit (.int .i64 0), .lit (.int .i64 0), .lit (.int .i64 0), .lit (.int .i64 0)], false⟩ := by kernel_rfl
@[simp] theorem Tryz.ty77 : tyOf Tryz.prog 77 = some ⟨.slice 5, 1, 24, [.sl [] .full], false⟩ := by kernel_rfl
@[simp] theorem Tryz.ty79 : tyOf Tryz.prog 79 = some ⟨.ptr 81, 1, 8, [.lit (.pointer none)], false⟩ := by kernel_rfl
@[simp] theorem Tryz.ty80 : tyOf Tryz.prog 80 = some ⟨.struct [(0, 79), (1, 77)], 2, 32, [.lit (.pointer none), .sl [] .full], false⟩ := by kernel_rfl
@[simp] theorem Tryz.ty81 : tyOf Tryz.prog 81 = some ⟨.struct [(0, 79), (1, 77)], 2, 32, [.lit (.pointer none), .sl [] .full], false⟩ := by kernel_rfl
@[simp] theorem Tryz.ty82 : tyOf Tryz.prog 82 = some ⟨.iface, 1, 16, [.lit .nilIface], false⟩ := by kernel_rfl
@[simp] theorem Tryz.ty83 : tyOf Tryz.prog 83 = some ⟨.iface, 1, 16, [.lit .nilIface], false⟩ := by kernel_rfl
@[simp] theorem Tryz.ty85 : tyOf Tryz.prog 85 = some ⟨.int .u64, 1, 8, [.lit (.int .u64 0)], true⟩ := by kernel_rfl
@[simp] theorem Tryz.ty90 : tyOf Tryz.prog 90 = some ⟨.struct [(0, 3), (1, 9), (2, 9), (3, 3), (4, 3), (5, 3), (6, 3), (7, 4), (8, 4), (9, 30)], 10, 104, [.lit (.int .i64 0), .lit (.string ⟨⟨[]⟩⟩), .lit (.string ⟨⟨[]⟩⟩), .lit (.int .i64 0), .lit (.int .i64 0), .lit (.int .i64 0), .lit (.int .i64 0), .lit (.bool false), .lit (.bool false), .sl [] .full], false⟩ := by kernel_rfl
@[simp] theorem Tryz.ty94 : tyOf Tryz.prog 94 = some ⟨.slice 21, 1, 24, [.sl [] .full], false⟩ := by kernel_rfl
@[simp] theorem Tryz.ty102 : tyOf Tryz.prog 102 = some ⟨.ptr 158, 1, 8, [.lit (.pointer none)], false⟩ := by kernel_rfl
@[simp] theorem Tryz.ty114 : tyOf Tryz.prog 114 = some ⟨.int .u64, 1, 8, [.lit (.int .u64 0)], true⟩ := by kernel_rfl
@[simp] theorem Tryz.ty116 : tyOf Tryz.prog 116 = some ⟨.int .u32, 1, 4, [.lit (.int .u32 0)], true⟩ := by kernel_rfl
@[simp] theorem Tryz.ty118 : tyOf Tryz.prog 118 = some ⟨.ptr 5, 1, 8, [.lit (.pointer none)], false⟩ := by kernel_rfl
@[simp] theorem Tryz.ty125 : tyOf Tryz.prog 125 = some ⟨.struct [(0, 81)], 2, 32, [.lit (.pointer none), .sl [] .full], false⟩ := by kernel_rfl
@[simp] theorem Tryz.ty126 : tyOf Tryz.prog 126 = some ⟨.struct [(0, 81)], 2, 32, [.lit (.pointer none), .sl [] .full], false⟩ := by kernel_rfl
@[simp] theorem Tryz.ty127 : tyOf Tryz.prog 127 = some ⟨.ptr 126, 1, 8, [.lit (.pointer none)], false⟩ := by kernel_rfl
@[simp] theorem Tryz.ty131 : tyOf Tryz.prog 131 = some ⟨.int .u16, 1, 2, [.lit (.int .u16 0)], true⟩ := by kernel_rfl
@[simp] theorem Tryz.ty136 : tyOf Tryz.prog 136 = some ⟨.ptr 180, 1, 8, [.lit (.pointer none)], false⟩ := by kernel_rfl
@[simp] theorem Tryz.ty145 : tyOf Tryz.prog 145 = some ⟨.ptr 206, 1, 8, [.lit (.pointer none)], false⟩ := by kernel_rfl
@[simp] theorem Tryz.ty147 : tyOf Tryz.prog 147 = some ⟨.map 3 209, 1, 8, [.lit (.map none)], false⟩ := by kernel_rfl
@[simp] theorem Tryz.ty148 : tyOf Tryz.prog 148 = some ⟨.map 116 272, 1, 8, [.lit (.map none)], false⟩ := by kernel_rfl
@[simp] theorem Tryz.ty149 : tyOf Tryz.prog 149 = some ⟨.map 116 359, 1, 8, [.lit (.map none)], false⟩ := by kernel_rfl
@[simp] theorem Tryz.ty150 : tyOf Tryz.prog 150 = some ⟨.map 303 309, 1, 8, [.lit (.map none)], false⟩ := by kernel_rfl
@[simp] theorem Tryz.ty151 : tyOf Tryz.prog 151 = some ⟨.map 3 308, 1, 8, [.lit (.map none)], false⟩ := by kernel_rfl
@[simp] theorem Tryz.ty152 : tyOf Tryz.prog 152 = some ⟨.slice 557, 1, 24, [.sl [] .full], false⟩ := by kernel_rfl
@[simp] theorem Tryz.ty153 : tyOf Tryz.prog 153 = some ⟨.arr 4 3, 4, 32, [.lit (.int .i64 0), .lit (.int .i64 0), .lit (.int .i64 0), .lit (.int .i64 0)], true⟩ := by kernel_rfl
@[simp] theorem Tryz.ty154 : tyOf Tryz.prog 154 = some ⟨.struct [(0, 152), (1, 153)], 5, 56, [.sl [] .full, .lit (.int .i64 0), .lit (.int .i64 0), .lit (.int .i64 0), .lit (.int .i64 0)], false⟩ := by kernel_rfl
@[simp] theorem Tryz.ty155 : tyOf Tryz.prog 155 = some ⟨.struct [(0, 152), (1, 153)], 5, 56, [.sl [] .full, .lit (.int .i64 0), .lit (.int .i64 0), .lit (.int .i64 0), .lit (.int .i64 0)], false⟩ := by kernel_rfl
@[simp] theorem Tryz.ty156 : tyOf Tryz.prog 156 = some ⟨.slice 161, 1, 24, [.sl [] .full], false⟩ := by kernel_rfl
@[simp] theorem Tryz.ty157 : tyOf Tryz.prog 157 = some ⟨.struct [(0, 69), (25, 145), (26, 3), (27, 3), (28, 147), (29, 148), (30, 149), (31, 150), (32, 151), (33, 155), (38, 3), (39, 156)], 40, 368, [.lit (.int .i64 0), .lit (.int .i64 0), .lit (.bool false), .lit (.int .i64 0), .lit (.int .i64 0), .lit (.int .i64 0), .lit (.int .i64 0), .lit (.int .i64 0), .lit (.int .i64 0), .lit (.int .i64 0), .lit (.int .i64 0), .lit (.int .i64 0), .lit (.int .i64 0), .lit (.int .i64 0), .lit (.int .i64 0), .lit (.int .i64 0), .lit (.int .i64 0), .lit (.int .i64 0), .sl [] .full, .lit (.int .i64 0), .lit (.int .i64 0), .lit (.int .i64 0), .lit (.int .i64 0), .lit (.int .i64 0), .lit (.int .i64 0), .lit (.pointer none), .lit (.int .i64 0), .lit (.int .i64 0), .lit (.map none), .lit (.map none), .lit (.map none), .lit (.map none), .lit (.map none), .sl [] .full, .lit (.int .i64 0), .lit (.int .i64 0), .lit (.int .i64 0), .lit (.int .i64 0), .lit (.int .i64 0), .sl [] .full], false⟩ := by kernel_rfl
@[simp] theorem Tryz.ty158 : tyOf Tryz.prog 158 = some ⟨.struct [(0, 69), (25, 145), (26, 3), (27, 3), (28, 147), (29, 148), (30, 149), (31, 150), (32, 151), (33, 155), (38, 3), (39, 156)], 40, 368, [.lit (.int .i64 0), .lit (.int .i64 0), .lit (.bool false), .lit (.int .i64 0), .lit (.int .i64 0), .lit (.int .i64 0), .lit (.int .i64 0), .lit (.int .i64 0), .lit (.int .i64 0), .lit (.int .i64 0), .lit (.int .i64 0), .lit (.int .i64 0), .lit (.int .i64 0), .lit (.int .i64 0), .lit (.int .i64 0), .lit (.int .i64 0), .lit (.int .i64 0), .lit (.int .i64 0), .sl [] .full, .lit (.int .i64 0), .lit (.int .i64 0), .lit (.int .i64 0), .lit (.int .i64 0), .lit (.int .i64 0), .lit (.int .i64 0), .lit (.pointer none), .lit (.int .i64 0), .lit (.int .i64 0), .lit (.map none), .lit (.map none), .lit (.map none), .lit (.map none), .lit (.map none), .sl [] .full, .lit (.int .i64 0), .lit (.int .i64 0), .lit (.int .i64 0), .lit (.int .i64 0), .lit (.int .i64 0), .sl [] .full], false⟩ := by kernel_rfl
@[simp] theorem Tryz.ty160 : tyOf Tryz.prog 160 = some ⟨.struct [(0, 3), (1, 3), (2, 9), (3, 24)], 4, 40, [.lit (.int .i64 0), .lit (.int .i64 0), .lit (.string ⟨⟨[]⟩⟩), .lit (.int .i64 0)], true⟩ := by kernel_rfl
@[simp] theorem Tryz.ty161 : tyOf Tryz.prog 161 = some ⟨.struct [(0, 3), (1, 3), (2, 9), (3, 24)], 4, 40, [.lit (.int .i64 0), .lit (.int .i64 0), .lit (.string ⟨⟨[]⟩⟩), .lit (.int .i64 0)], true⟩ := by kernel_rfl
@[simp] theorem Tryz.ty171 : tyOf Tryz.prog 171 = some ⟨.slice 131, 1, 24, [.sl [] .full], false⟩ := by kernel_rfl
@[simp] theorem Tryz.ty175 : tyOf Tryz.prog 175 = some ⟨.ptr 228, 1, 8, [.lit (.pointer none)], false⟩ := by kernel_rfl
@[simp] theorem Tryz.ty178 : tyOf Tryz.prog 178 = some ⟨.slice 346, 1, 24, [.sl [] .full], false⟩ := by kernel_rfl
@[simp] theorem Tryz.ty179 : tyOf Tryz.prog 179 = some ⟨.struct [(0, 9), (1, 24)], 2, 24, [.lit (.string ⟨⟨[]⟩⟩), .lit (.int .i64 0)], true⟩ := by kernel_rfl
@[simp] theorem Tryz.ty180 : tyOf Tryz.prog 180 = some ⟨.struct [(0, 9), (1, 24)], 2, 24, [.lit (.string ⟨⟨[]⟩⟩), .lit (.int .i64 0)], true⟩ := by kernel_rfl
@[simp] theorem Tryz.ty182 : tyOf Tryz.prog 182 = some ⟨.ptr 90, 1, 8, [.lit (.pointer none)], false⟩ := by kernel_rfl
@[simp] theorem Tryz.ty190 : tyOf Tryz.prog 190 = some ⟨.slice 24, 1, 24, [.sl [] .full], false⟩ := by kernel_rfl
@[simp] theorem Tryz.ty191 : tyOf Tryz.prog 191 = some ⟨.ptr 242, 1, 8, [.lit (.pointer none)], false⟩ := by kernel_rfl
@[simp] theorem Tryz.ty194 : tyOf Tryz.prog 194 = some ⟨.ptr 245, 1, 8, [.lit (.pointer none)], false⟩ := by kernel_rfl
@[simp] theorem Tryz.ty197 : tyOf Tryz.prog 197 = some ⟨.ptr 248, 1, 8, [.lit (.pointer none)], false⟩ := by kernel_rfl
@[simp] theorem Tryz.ty200 : tyOf Tryz.prog 200 = some ⟨.ptr 251, 1, 8, [.lit (.pointer none)], false⟩ := by kernel_rfl
@[simp] theorem Tryz.ty202 : tyOf Tryz.prog 202 = some ⟨.map 261 267, 1, 8, [.lit (.map none)], false⟩ := by kernel_rfl
@[simp] theorem Tryz.ty203 : tyOf Tryz.prog 203 = some ⟨.map 303 504, 1, 8, [.lit (.map none)], false⟩ := by kernel_rfl
@[simp] theorem Tryz.ty204 : tyOf Tryz.prog 204 = some ⟨.map 116 263, 1, 8, [.lit (.map none)], false⟩ := by kernel_rfl
@[simp] theorem Tryz.ty205 : tyOf Tryz.prog 205 = some ⟨.struct [(0, 200), (1, 202), (2, 203), (3, 204)], 4, 32, [.lit (.pointer none), .lit (.map none), .lit (.map none), .lit (.map none)], false⟩ := by kernel_rfl
@[simp] theorem Tryz.ty206 : tyOf Tryz.prog 206 = some ⟨.struct [(0, 200), (1, 202), (2, 203), (3, 204)], 4, 32, [.lit (.pointer none), .lit (.map none), .lit (.map none), .lit (.map none)], false⟩ := by kernel_rfl
@[simp] theorem Tryz.ty209 : tyOf Tryz.prog 209 = some ⟨.ptr 214, 1, 8, [.lit (.pointer none)], false⟩ := by kernel_rfl
@[simp] theorem Tryz.ty211 : tyOf Tryz.prog 211 = some ⟨.ptr 295, 1, 8, [.lit (.pointer none)], false⟩ := by kernel_rfl
@[simp] theorem Tryz.ty212 : tyOf Tryz.prog 212 = some ⟨.ptr 408, 1, 8, [.lit (.pointer none)], false⟩ := by kernel_rfl
@[simp] theorem Tryz.ty213 : tyOf Tryz.prog 213 = some ⟨.struct [(0, 211), (1, 212), (2, 194), (3, 4)], 4, 32, [.lit (.pointer none), .lit (.pointer none), .lit (.pointer none), .lit (.bool false)], false⟩ := by kernel_rfl
@[simp] theorem Tryz.ty214 : tyOf Tryz.prog 214 = some ⟨.struct [(0, 211), (1, 212), (2, 194), (3, 4)], 4, 32, [.lit (.pointer none), .lit (.pointer none), .lit (.pointer none), .lit (.bool false)], false⟩ := by kernel_rfl
@[simp] theorem Tryz.ty222 : tyOf Tryz.prog 222 = some ⟨.ptr 218, 1, 8, [.lit (.pointer none)], false⟩ := by kernel_rfl
@[simp] theorem Tryz.ty224 : tyOf Tryz.prog 224 = some ⟨.slice 114, 1, 24, [.sl [] .full], false⟩ := by kernel_rfl
@[simp] theorem Tryz.ty225 : tyOf Tryz.prog 225 = some ⟨.slice 230, 1, 24, [.sl [] .full], false⟩ := by kernel_rfl
@[simp] theorem Tryz.ty226 : tyOf Tryz.prog 226 = some ⟨.slice 233, 1, 24, [.sl [] .full], false⟩ := by kernel_rfl
@[simp] theorem Tryz.ty227 : tyOf Tryz.prog 227 = some ⟨.struct [(0, 225), (1, 226), (2, 3)], 3, 56, [.sl [] .full, .sl [] .full, .lit (.int .i64 0)], false⟩ := by kernel_rfl
@[simp] theorem Tryz.ty228 : tyOf Tryz.prog 228 = some ⟨.struct [(0, 225), (1, 226), (2, 3)], 3, 56, [.sl [] .full, .sl [] .full, .lit (.int .i64 0)], false⟩ := by kernel_rfl
@[simp] theorem Tryz.ty229 : tyOf Tryz.prog 229 = some ⟨.struct [(0, 131), (1, 131), (2, 131)], 3, 6, [.lit (.int .u16 0), .lit (.int .u16 0), .lit (.int .u16 0)], true⟩ := by kernel_rfl
@[simp] theorem Tryz.ty230 : tyOf Tryz.prog 230 = some ⟨.struct [(0, 131), (1, 131), (2, 131)], 3, 6, [.lit (.int .u16 0), .lit (.int .u16 0), .lit (.int .u16 0)], true⟩ := by kernel_rfl
@[simp] theorem Tryz.ty232 : tyOf Tryz.prog 232 = some ⟨.struct [(0, 116), (1, 116), (2, 116)], 3, 12, [.lit (.int .u32 0), .lit (.int .u32 0), .lit (.int .u32 0)], true⟩ := by kernel_rfl
@[simp] theorem Tryz.ty233 : tyOf Tryz.prog 233 = some ⟨.struct [(0, 116), (1, 116), (2, 116)], 3, 12, [.lit (.int .u32 0), .lit (.int .u32 0), .lit (.int .u32 0)], true⟩ := by kernel_rfl
@[simp] theorem Tryz.ty235 : tyOf Tryz.prog 235 = some ⟨.ptr 346, 1, 8, [.lit (.pointer none)], false⟩ := by kernel_rfl
@[simp] theorem Tryz.ty241 : tyOf Tryz.prog 241 = some ⟨.struct [(0, 66), (3, 67), (4, 3), (5, 3), (6, 3), (7, 3), (8, 3)], 9, 88, [.lit (.int .i64 0), .lit (.int .i64 0), .lit (.int .i64 0), .sl [] .full, .lit (.int .i64 0), .lit (.int .i64 0), .lit (.int .i64 0), .lit (.int .i64 0), .lit (.int .i64 0)], false⟩ := by kernel_rfl
@[simp] theorem Tryz.ty242 : tyOf Tryz.prog 242 = some ⟨.struct [(0, 66), (3, 67), (4, 3), (5, 3), (6, 3), (7, 3), (8, 3)], 9, 88, [.lit (.int .i64 0), .lit (.int .i64 0), .lit (.int .i64 0), .sl [] .full, .lit (.int .i64 0), .lit (.int .i64 0), .lit (.int .i64 0), .lit (.int .i64 0), .lit (.int .i64 0)], false⟩ := by kernel_rfl
@[simp] theorem Tryz.ty243 : tyOf Tryz.prog 243 = some ⟨.slice 434, 1, 24, [.sl [] .full], false⟩ := by kernel_rfl
@[simp] theorem Tryz.ty244 : tyOf Tryz.prog 244 = some ⟨.struct [(0, 3), (1, 243), (2, 3), (3, 3), (4, 3)], 5, 56, [.lit (.int .i64 0), .sl [] .full, .lit (.int .i64 0), .lit (.int .i64 0), .lit (.int .i64 0)], false⟩ := by kernel_rfl
@[simp] theorem Tryz.ty245 : tyOf Tryz.prog 245 = some ⟨.struct [(0, 3), (1, 243), (2, 3), (3, 3), (4, 3)], 5, 56, [.lit (.int .i64 0), .sl [] .full, .lit (.int .i64 0), .lit (.int .i64 0), .lit (.int .i64 0)], false⟩ := by kernel_rfl
@[simp] theorem Tryz.ty246 : tyOf Tryz.prog 246 = some ⟨.slice 432, 1, 24, [.sl [] .full], false⟩ := by kernel_rfl
@[simp] theorem Tryz.ty247 : tyOf Tryz.prog 247 = some ⟨.struct [(0, 246), (1, 3), (2, 3), (3, 3), (4, 3)], 5, 56, [.sl [] .full, .lit (.int .i64 0), .lit (.int .i64 0), .lit (.int .i64 0), .lit (.int .i64 0)], false⟩ := by kernel_rfl
@[simp] theorem Tryz.ty248 : tyOf Tryz.prog 248 = some ⟨.struct [(0, 246), (1, 3), (2, 3), (3, 3), (4, 3)], 5, 56, [.sl [] .full, .lit (.int .i64 0), .lit (.int .i64 0), .lit (.int .i64 0), .lit (.int .i64 0)], false⟩ := by kernel_rfl
@[simp] theorem Tryz.ty249 : tyOf Tryz.prog 249 = some ⟨.map 3 390, 1, 8, [.lit (.map none)], false⟩ := by kernel_rfl
@[simp] theorem Tryz.ty250 : tyOf Tryz.prog 250 = some ⟨.struct [(0, 249), (1, 3)], 2, 16, [.lit (.map none), .lit (.int .i64 0)], false⟩ := by kernel_rfl
@[simp] theorem Tryz.ty251 : tyOf Tryz.prog 251 = some ⟨.struct [(0, 249), (1, 3)], 2, 16, [.lit (.map none), .lit (.int .i64 0)], false⟩ := by kernel_rfl
@[simp] theorem Tryz.ty252 : tyOf Tryz.prog 252 = some ⟨.slice 330, 1, 24, [.sl [] .full], false⟩ := by kernel_rfl
@[simp] theorem Tryz.ty256 : tyOf Tryz.prog 256 = some ⟨.struct [(0, 4), (1, 5), (2, 131), (3, 116), (4, 116), (5, 30), (6, 4), (7, 131), (8, 9), (9, 9), (10, 3)], 11, 88, [.lit (.bool false), .lit (.int .u8 0), .lit (.int .u16 0), .lit (.int .u32 0), .lit (.int .u32 0), .sl [] .full, .lit (.bool false), .lit (.int .u16 0), .lit (.string ⟨⟨[]⟩⟩), .lit (.string ⟨⟨[]⟩⟩), .lit (.int .i64 0)], false⟩ := by kernel_rfl
@[simp] theorem Tryz.ty257 : tyOf Tryz.prog 257 = some ⟨.struct [(0, 4), (1, 5), (2, 131), (3, 116), (4, 116), (5, 30), (6, 4), (7, 131), (8, 9), (9, 9), (10, 3)], 11, 88, [.lit (.bool false), .lit (.int .u8 0), .lit (.int .u16 0), .lit (.int .u32 0), .lit (.int .u32 0), .sl [] .full, .lit (.bool false), .lit (.int .u16 0), .lit (.string ⟨⟨[]⟩⟩), .lit (.string ⟨⟨[]⟩⟩), .lit (.int .i64 0)], false⟩ := by kernel_rfl
@[simp] theorem Tryz.ty260 : tyOf Tryz.prog 260 = some ⟨.struct [(0, 3), (1, 3)], 2, 16, [.lit (.int .i64 0), .lit (.int .i64 0)], true⟩ := by kernel_rfl
@[simp] theorem Tryz.ty261 : tyOf Tryz.prog 261 = some ⟨.struct [(0, 3), (1, 3)], 2, 16, [.lit (.int .i64 0), .lit (.int .i64 0)], true⟩ := by kernel_rfl
@[simp] theorem Tryz.ty262 : tyOf Tryz.prog 262 = some ⟨.struct [(0, 261), (2, 3)], 3, 24, [.lit (.int .i64 0), .lit (.int .i64 0), .lit (.int .i64 0)], true⟩ := by kernel_rfl
@[simp] theorem Tryz.ty263 : tyOf Tryz.prog 263 = some ⟨.struct [(0, 261), (2, 3)], 3, 24, [.lit (.int .i64 0), .lit (.int .i64 0), .lit (.int .i64 0)], true⟩ := by kernel_rfl
@[simp] theorem Tryz.ty266 : tyOf Tryz.prog 266 = some ⟨.struct [(0, 4), (1, 4), (2, 30)], 3, 32, [.lit (.bool false), .lit (.bool false), .sl [] .full], false⟩ := by kernel_rfl
@[simp] theorem Tryz.ty267 : tyOf Tryz.prog 267 = some ⟨.struct [(0, 4), (1, 4), (2, 30)], 3, 32, [.lit (.bool false), .lit (.bool false), .sl [] .full], false⟩ := by kernel_rfl
@[simp] theorem Tryz.ty270 : tyOf Tryz.prog 270 = some ⟨.slice 306, 1, 24, [.sl [] .full], false⟩ := by kernel_rfl
@[simp] theorem Tryz.ty272 : tyOf Tryz.prog 272 = some ⟨.ptr 377, 1, 8, [.lit (.pointer none)], false⟩ := by kernel_rfl
@[simp] theorem Tryz.ty292 : tyOf Tryz.prog 292 = some ⟨.map 3 420, 1, 8, [.lit (.map none)], false⟩ := by kernel_rfl
@[simp] theorem Tryz.ty293 : tyOf Tryz.prog 293 = some ⟨.ptr 549, 1, 8, [.lit (.pointer none)], false⟩ := by kernel_rfl
@[simp] theorem Tryz.ty294 : tyOf Tryz.prog 294 = some ⟨.struct [(0, 60), (5, 292), (6, 293), (7, 3), (8, 3)], 9, 72, [.lit (.int .i64 0), .lit (.int .i64 0), .lit (.int .i64 0), .lit (.int .i64 0), .lit (.int .i64 0), .lit (.map none), .lit (.pointer none), .lit (.int .i64 0), .lit (.int .i64 0)], false⟩ := by kernel_rfl
@[simp] theorem Tryz.ty295 : tyOf Tryz.prog 295 = some ⟨.struct [(0, 60), (5, 292), (6, 293), (7, 3), (8, 3)], 9, 72, [.lit (.int .i64 0), .lit (.int .i64 0), .lit (.int .i64 0), .lit (.int .i64 0), .lit (.int .i64 0), .lit (.map none), .lit (.pointer none), .lit (.int .i64 0), .lit (.int .i64 0)], false⟩ := by kernel_rfl
@[simp] theorem Tryz.ty296 : tyOf Tryz.prog 296 = some ⟨.slice 301, 1, 24, [.sl [] .full], false⟩ := by kernel_rfl
@[simp] theorem Tryz.ty298 : tyOf Tryz.prog 298 = some ⟨.struct [(0, 3), (1, 3), (2, 3), (3, 4)], 4, 32, [.lit (.int .i64 0), .lit (.int .i64 0), .lit (.int .i64 0), .lit (.bool false)], true⟩ := by kernel_rfl
@[simp] theorem Tryz.ty299 : tyOf Tryz.prog 299 = some ⟨.struct [(0, 3), (1, 3), (2, 3), (3, 4)], 4, 32, [.lit (.int .i64 0), .lit (.int .i64 0), .lit (.int .i64 0), .lit (.bool false)], true⟩ := by kernel_rfl
@[simp] theorem Tryz.ty300 : tyOf Tryz.prog 300 = some ⟨.struct [(0, 3), (1, 299)], 5, 40, [.lit (.int .i64 0), .lit (.int .i64 0), .lit (.int .i64 0), .lit (.int .i64 0), .lit (.bool false)], true⟩ := by kernel_rfl
@[simp] theorem Tryz.ty301 : tyOf Tryz.prog 301 = some ⟨.struct [(0, 3), (1, 299)], 5, 40, [.lit (.int .i64 0), .lit (.int .i64 0), .lit (.int .i64 0), .lit (.int .i64 0), .lit (.bool false)], true⟩ := by kernel_rfl
@[simp] theorem Tryz.ty302 : tyOf Tryz.prog 302 = some ⟨.struct [(0, 3), (1, 261)], 3, 24, [.lit (.int .i64 0), .lit (.int .i64 0), .lit (.int .i64 0)], true⟩ := by kernel_rfl
@[simp] theorem Tryz.ty303 : tyOf Tryz.prog 303 = some ⟨.struct [(0, 3), (1, 261)], 3, 24, [.lit (.int .i64 0), .lit (.int .i64 0), .lit (.int .i64 0)], true⟩ := by kernel_rfl
@[simp] theorem Tryz.ty304 : tyOf Tryz.prog 304 = some ⟨.slice 429, 1, 24, [.sl [] .full], false⟩ := by kernel_rfl
@[simp] theorem Tryz.ty305 : tyOf Tryz.prog 305 = some ⟨.struct [(0, 304)], 1, 24, [.sl [] .full], false⟩ := by kernel_rfl
@[simp] theorem Tryz.ty306 : tyOf Tryz.prog 306 = some ⟨.struct [(0, 304)], 1, 24, [.sl [] .full], false⟩ := by kernel_rfl
@[simp] theorem Tryz.ty307 : tyOf Tryz.prog 307 = some ⟨.struct [(0, 303), (3, 116), (4, 306)], 5, 56, [.lit (.int .i64 0), .lit (.int .i64 0), .lit (.int .i64 0), .lit (.int .u32 0), .sl [] .full], false⟩ := by kernel_rfl
@[simp] theorem Tryz.ty308 : tyOf Tryz.prog 308 = some ⟨.struct [(0, 303), (3, 116), (4, 306)], 5, 56, [.lit (.int .i64 0), .lit (.int .i64 0), .lit (.int .i64 0), .lit (.int .u32 0), .sl [] .full], false⟩ := by kernel_rfl
@[simp] theorem Tryz.ty309 : tyOf Tryz.prog 309 = some ⟨.ptr 315, 1, 8, [.lit (.pointer none)], false⟩ := by kernel_rfl
@[simp] theorem Tryz.ty310 : tyOf Tryz.prog 310 = some ⟨.slice 257, 1, 24, [.sl [] .full], false⟩ := by kernel_rfl
@[simp] theorem Tryz.ty311 : tyOf Tryz.prog 311 = some ⟨.ptr 444, 1, 8, [.lit (.pointer none)], false⟩ := by kernel_rfl
@[simp] theorem Tryz.ty312 : tyOf Tryz.prog 312 = some ⟨.ptr 426, 1, 8, [.lit (.pointer none)], false⟩ := by kernel_rfl
@[simp] theorem Tryz.ty313 : tyOf Tryz.prog 313 = some ⟨.ptr 446, 1, 8, [.lit (.pointer none)], false⟩ := by kernel_rfl
@[simp] theorem Tryz.ty314 : tyOf Tryz.prog 314 = some ⟨.struct [(0, 3), (1, 4), (2, 4), (3, 311), (4, 312), (5, 197), (6, 191), (7, 313)], 8, 56, [.lit (.int .i64 0), .lit (.bool false), .lit (.bool false), .lit (.pointer none), .lit (.pointer none), .lit (.pointer none), .lit (.pointer none), .lit (.pointer none)], false⟩ := by kernel_rfl
@[simp] theorem Tryz.ty315 : tyOf Tryz.prog 315 = some ⟨.struct [(0, 3), (1, 4), (2, 4), (3, 311), (4, 312), (5, 197), (6, 191), (7, 313)], 8, 56, [.lit (.int .i64 0), .lit (.bool false), .lit (.bool false), .lit (.pointer none), .lit (.pointer none), .lit (.pointer none), .lit (.pointer none), .lit (.pointer none)], false⟩ := by kernel_rfl
@[simp] theorem Tryz.ty320 : tyOf Tryz.prog 320 = some ⟨.int .i64, 1, 8, [.lit (.int .i64 0)], true⟩ := by kernel_rfl
@[simp] theorem Tryz.ty321 : tyOf Tryz.prog 321 = some ⟨.slice 303, 1, 24, [.sl [] .full], false⟩ := by kernel_rfl
@[simp] theorem Tryz.ty327 : tyOf Tryz.prog 327 = some ⟨.struct [(0, 116), (1, 116)], 2, 8, [.lit (.int .u32 0), .lit (.int .u32 0)], true⟩ := by kernel_rfl
@[simp] theorem Tryz.ty328 : tyOf Tryz.prog 328 = some ⟨.struct [(0, 116), (1, 116)], 2, 8, [.lit (.int .u32 0), .lit (.int .u32 0)], true⟩ := by kernel_rfl
@[simp] theorem Tryz.ty329 : tyOf Tryz.prog 329 = some ⟨.iface, 1, 16, [.lit .nilIface], false⟩ := by kernel_rfl
@[simp] theorem Tryz.ty330 : tyOf Tryz.prog 330 = some ⟨.iface, 1, 16, [.lit .nilIface], false⟩ := by kernel_rfl
@[simp] theorem Tryz.ty335 : tyOf Tryz.prog 335 = some ⟨.int .i64, 1, 8, [.lit (.int .i64 0)], true⟩ := by kernel_rfl
@[simp] theorem Tryz.ty338 : tyOf Tryz.prog 338 = some ⟨.ptr 454, 1, 8, [.lit (.pointer none)], false⟩ := by kernel_rfl
@[simp] theorem Tryz.ty341 : tyOf Tryz.prog 341 = some ⟨.ptr 230, 1, 8, [.lit (.pointer none)], false⟩ := by kernel_rfl
@[simp] theorem Tryz.ty342 : tyOf Tryz.prog 342 = some ⟨.ptr 233, 1, 8, [.lit (.pointer none)], false⟩ := by kernel_rfl
@[simp] theorem Tryz.ty343 : tyOf Tryz.prog 343 = some ⟨.arr 3 21, 3, 12, [.lit (.int .i32 0), .lit (.int .i32 0), .lit (.int .i32 0)], true⟩ := by kernel_rfl
@[simp] theorem Tryz.ty344 : tyOf Tryz.prog 344 = some ⟨.arr 3 21, 3, 12, [.lit (.int .i32 0), .lit (.int .i32 0), .lit (.int .i32 0)], true⟩ := by kernel_rfl
@[simp] theorem Tryz.ty345 : tyOf Tryz.prog 345 = some ⟨.struct [(0, 116), (1, 116), (2, 344)], 5, 20, [.lit (.int .u32 0), .lit (.int .u32 0), .lit (.int .i32 0), .lit (.int .i32 0), .lit (.int .i32 0)], true⟩ := by kernel_rfl
@[simp] theorem Tryz.ty346 : tyOf Tryz.prog 346 = some ⟨.struct [(0, 116), (1, 116), (2, 344)], 5, 20, [.lit (.int .u32 0), .lit (.int .u32 0), .lit (.int .i32 0), .lit (.int .i32 0), .lit (.int .i32 0)], true⟩ := by kernel_rfl
@[simp] theorem Tryz.ty347 : tyOf Tryz.prog 347 = some ⟨.struct [(0, 5), (1, 5)], 2, 2, [.lit (.int .u8 0), .lit (.int .u8 0)], true⟩ := by kernel_rfl
@[simp] theorem Tryz.ty348 : tyOf Tryz.prog 348 = some ⟨.struct [(0, 5), (1, 5)], 2, 2, [.lit (.int .u8 0), .lit (.int .u8 0)], true⟩ := by kernel_rfl
@[simp] theorem Tryz.ty349 : tyOf Tryz.prog 349 = some ⟨.arr 16 348, 32, 32, [.lit (.int .u8 0), .lit (.int .u8 0), .lit (.int .u8 0), .lit (.int .u8 0), .lit (.int .u8 0), .lit (.int .u8 0), .lit (.int .u8 0), .lit (.int .u8 0), .lit (.int .u8 0), .lit (.int .u8 0), .lit (.int .u8 0), .lit (.int .u8 0), .lit (.int .u8 0), .lit (.int .u8 0), .lit (.int .u8 0), .lit (.int .u8 0), .lit (.int .u8 0), .lit (.int .u8 0), .lit (.int .u8 0), .lit (.int .u8 0), .lit (.int .u8 0), .lit (.int .u8 0), .lit (.int .u8 0), .lit (.int .u8 0), .lit (.int .u8 0), .lit (.int .u8 0), .lit (.int .u8 0), .lit (.int .u8 0), .lit (.int .u8 0), .lit (.int .u8 0), .lit (.int .u8 0), .lit (.int .u8 0)], true⟩ := by kernel_rfl
@[simp] theorem Tryz.ty355 : tyOf Tryz.prog 355 = some ⟨.slice 573, 1, 24, [.sl [] .full], false⟩ := by kernel_rfl
@[simp] theorem Tryz.ty356 : tyOf Tryz.prog 356 = some ⟨.struct [(0, 116), (1, 114), (2, 116), (3, 116), (4, 116), (5, 355)], 6, 56, [.lit (.int .u32 0), .lit (.int .u64 0), .lit (.int .u32 0), .lit (.int .u32 0), .lit (.int .u32 0), .sl [] .full], false⟩ := by kernel_rfl
@[simp] theorem Tryz.ty357 : tyOf Tryz.prog 357 = some ⟨.struct [(0, 116), (1, 114), (2, 116), (3, 116), (4, 116), (5, 355)], 6, 56, [.lit (.int .u32 0), .lit (.int .u64 0), .lit (.int .u32 0), .lit (.int .u32 0), .lit (.int .u32 0), .sl [] .full], false⟩ := by kernel_rfl
@[simp] theorem Tryz.ty359 : tyOf Tryz.prog 359 = some ⟨.ptr 464, 1, 8, [.lit (.pointer none)], false⟩ := by kernel_rfl
@[simp] theorem Tryz.ty361 : tyOf Tryz.prog 361 = some ⟨.struct [(0, 171), (1, 4), (2, 114), (3, 4)], 4, 48, [.sl [] .full, .lit (.bool false), .lit (.int .u64 0), .lit (.bool false)], false⟩ := by kernel_rfl
@[simp] theorem Tryz.ty362 : tyOf Tryz.prog 362 = some ⟨.struct [(0, 171), (1, 4), (2, 114), (3, 4)], 4, 48, [.sl [] .full, .lit (.bool false), .lit (.int .u64 0), .lit (.bool false)], false⟩ := by kernel_rfl
@[simp] theorem Tryz.ty369 : tyOf Tryz.prog 369 = some ⟨.ptr 487, 1, 8, [.lit (.pointer none)], false⟩ := by kernel_rfl
@[simp] theorem Tryz.ty370 : tyOf Tryz.prog 370 = some ⟨.ptr 531, 1, 8, [.lit (.pointer none)], false⟩ := by kernel_rfl
@[simp] theorem Tryz.ty371 : tyOf Tryz.prog 371 = some ⟨.struct [(0, 4), (1, 2), (2, 131), (3, 3), (4, 3)], 5, 40, [.lit (.bool false), .lit (.int .i64 0), .lit (.int .u16 0), .lit (.int .i64 0), .lit (.int .i64 0)], true⟩ := by kernel_rfl
@[simp] theorem Tryz.ty372 : tyOf Tryz.prog 372 = some ⟨.struct [(0, 4), (1, 2), (2, 131), (3, 3), (4, 3)], 5, 40, [.lit (.bool false), .lit (.int .i64 0), .lit (.int .u16 0), .lit (.int .i64 0), .lit (.int .i64 0)], true⟩ := by kernel_rfl
@[simp] theorem Tryz.ty373 : tyOf Tryz.prog 373 = some ⟨.struct [(0, 4), (1, 2)], 2, 16, [.lit (.bool false), .lit (.int .i64 0)], true⟩ := by kernel_rfl
@[simp] theorem Tryz.ty374 : tyOf Tryz.prog 374 = some ⟨.struct [(0, 4), (1, 2)], 2, 16, [.lit (.bool false), .lit (.int .i64 0)], true⟩ := by kernel_rfl
@[simp] theorem Tryz.ty375 : tyOf Tryz.prog 375 = some ⟨.map 2 257, 1, 8, [.lit (.map none)], false⟩ := by kernel_rfl
@[simp] theorem Tryz.ty376 : tyOf Tryz.prog 376 = some ⟨.struct [(0, 369), (1, 370), (2, 372), (7, 374), (9, 375), (10, 3), (11, 3)], 12, 96, [.lit (.pointer none), .lit (.pointer none), .lit (.bool false), .lit (.int .i64 0), .lit (.int .u16 0), .lit (.int .i64 0), .lit (.int .i64 0), .lit (.bool false), .lit (.int .i64 0), .lit (.map none), .lit (.int .i64 0), .lit (.int .i64 0)], false⟩ := by kernel_rfl
@[simp] theorem Tryz.ty377 : tyOf Tryz.prog 377 = some ⟨.struct [(0, 369), (1, 370), (2, 372), (7, 374), (9, 375), (10, 3), (11, 3)], 12, 96, [.lit (.pointer none), .lit (.pointer none), .lit (.bool false), .lit (.int .i64 0), .lit (.int .u16 0), .lit (.int .i64 0), .lit (.int .i64 0), .lit (.bool false), .lit (.int .i64 0), .lit (.map none), .lit (.int .i64 0), .lit (.int .i64 0)], false⟩ := by kernel_rfl
@[simp] theorem Tryz.ty380 : tyOf Tryz.prog 380 = some ⟨.slice 384, 1, 24, [.sl [] .full], false⟩ := by kernel_rfl
@[simp] theorem Tryz.ty383 : tyOf Tryz.prog 383 = some ⟨.struct [(0, 2), (1, 9), (2, 3)], 3, 32, [.lit (.int .i64 0), .lit (.string ⟨⟨[]⟩⟩), .lit (.int .i64 0)], true⟩ := by kernel_rfl
@[simp] theorem Tryz.ty384 : tyOf Tryz.prog 384 = some ⟨.struct [(0, 2), (1, 9), (2, 3)], 3, 32, [.lit (.int .i64 0), .lit (.string ⟨⟨[]⟩⟩), .lit (.int .i64 0)], true⟩ := by kernel_rfl
@[simp] theorem Tryz.ty389 : tyOf Tryz.prog 389 = some ⟨.struct [(0, 3), (1, 9), (2, 9)], 3, 40, [.lit (.int .i64 0), .lit (.string ⟨⟨[]⟩⟩), .lit (.string ⟨⟨[]⟩⟩)], true⟩ := by kernel_rfl
@[simp] theorem Tryz.ty390 : tyOf Tryz.prog 390 = some ⟨.struct [(0, 3), (1, 9), (2, 9)], 3, 40, [.lit (.int .i64 0), .lit (.string ⟨⟨[]⟩⟩), .lit (.string ⟨⟨[]⟩⟩)], true⟩ := by kernel_rfl
@[simp] theorem Tryz.ty407 : tyOf Tryz.prog 407 = some ⟨.struct [(0, 64), (2, 3), (3, 4), (4, 4), (5, 3), (6, 3)], 7, 48, [.lit (.int .i64 0), .lit (.int .i64 0), .lit (.int .i64 0), .lit (.bool false), .lit (.bool false), .lit (.int .i64 0), .lit (.int .i64 0)], true⟩ := by kernel_rfl
@[simp] theorem Tryz.ty408 : tyOf Tryz.prog 408 = some ⟨.struct [(0, 64), (2, 3), (3, 4), (4, 4), (5, 3), (6, 3)], 7, 48, [.lit (.int .i64 0), .lit (.int .i64 0), .lit (.int .i64 0), .lit (.bool false), .lit (.bool false), .lit (.int .i64 0), .lit (.int .i64 0)], true⟩ := by kernel_rfl
@[simp] theorem Tryz.ty418 : tyOf Tryz.prog 418 = some ⟨.ptr 545, 1, 8, [.lit (.pointer none)], false⟩ := by kernel_rfl
@[simp] theorem Tryz.ty419 : tyOf Tryz.prog 419 = some ⟨.struct [(0, 418), (1, 4)], 2, 16, [.lit (.pointer none), .lit (.bool false)], false⟩ := by kernel_rfl
@[simp] theorem Tryz.ty420 : tyOf Tryz.prog 420 = some ⟨.struct [(0, 418), (1, 4)], 2, 16, [.lit (.pointer none), .lit (.bool false)], false⟩ := by kernel_rfl
@[simp] theorem Tryz.ty425 : tyOf Tryz.prog 425 = some ⟨.struct [(0, 4), (1, 116), (2, 5), (3, 131), (4, 3), (5, 3), (6, 3), (7, 2), (8, 2), (9, 4), (10, 3), (11, 3), (12, 3)], 13, 88, [.lit (.bool false), .lit (.int .u32 0), .lit (.int .u8 0), .lit (.int .u16 0), .lit (.int .i64 0), .lit (.int .i64 0), .lit (.int .i64 0), .lit (.int .i64 0), .lit (.int .i64 0), .lit (.bool false), .lit (.int .i64 0), .lit (.int .i64 0), .lit (.int .i64 0)], true⟩ := by kernel_rfl
@[simp] theorem Tryz.ty426 : tyOf Tryz.prog 426 = some ⟨.struct [(0, 4), (1, 116), (2, 5), (3, 131), (4, 3), (5, 3), (6, 3), (7, 2), (8, 2), (9, 4), (10, 3), (11, 3), (12, 3)], 13, 88, [.lit (.bool false), .lit (.int .u32 0), .lit (.int .u8 0), .lit (.int .u16 0), .lit (.int .i64 0), .lit (.int .i64 0), .lit (.int .i64 0), .lit (.int .i64 0), .lit (.int .i64 0), .lit (.bool false), .lit (.int .i64 0), .lit (.int .i64 0), .lit (.int .i64 0)], true⟩ := by kernel_rfl
@[simp] theorem Tryz.ty428 : tyOf Tryz.prog 428 = some ⟨.struct [(0, 2), (1, 2), (2, 4), (3, 4), (4, 4), (5, 9), (6, 3)], 7, 48, [.lit (.int .i64 0), .lit (.int .i64 0), .lit (.bool false), .lit (.bool false), .lit (.bool false), .lit (.string ⟨⟨[]⟩⟩), .lit (.int .i64 0)], true⟩ := by kernel_rfl
@[simp] theorem Tryz.ty429 : tyOf Tryz.prog 429 = some ⟨.struct [(0, 2), (1, 2), (2, 4), (3, 4), (4, 4), (5, 9), (6, 3)], 7, 48, [.lit (.int .i64 0), .lit (.int .i64 0), .lit (.bool false), .lit (.bool false), .lit (.bool false), .lit (.string ⟨⟨[]⟩⟩), .lit (.int .i64 0)], true⟩ := by kernel_rfl
@[simp] theorem Tryz.ty431 : tyOf Tryz.prog 431 = some ⟨.struct [(0, 4), (1, 131), (2, 9), (3, 3), (4, 3)], 5, 40, [.lit (.bool false), .lit (.int .u16 0), .lit (.string ⟨⟨[]⟩⟩), .lit (.int .i64 0), .lit (.int .i64 0)], true⟩ := by kernel_rfl
@[simp] theorem Tryz.ty432 : tyOf Tryz.prog 432 = some ⟨.struct [(0, 4), (1, 131), (2, 9), (3, 3), (4, 3)], 5, 40, [.lit (.bool false), .lit (.int .u16 0), .lit (.string ⟨⟨[]⟩⟩), .lit (.int .i64 0), .lit (.int .i64 0)], true⟩ := by kernel_rfl
@[simp] theorem Tryz.ty433 : tyOf Tryz.prog 433 = some ⟨.struct [(0, 3), (1, 3)], 2, 16, [.lit (.int .i64 0), .lit (.int .i64 0)], true⟩ := by kernel_rfl
@[simp] theorem Tryz.ty434 : tyOf Tryz.prog 434 = some ⟨.struct [(0, 3), (1, 3)], 2, 16, [.lit (.int .i64 0), .lit (.int .i64 0)], true⟩ := by kernel_rfl
@[simp] theorem Tryz.ty443 : tyOf Tryz.prog 443 = some ⟨.struct [(0, 4), (1, 4), (2, 3), (3, 3), (4, 4), (5, 3), (6, 3)], 7, 48, [.lit (.bool false), .lit (.bool false), .lit (.int .i64 0), .lit (.int .i64 0), .lit (.bool false), .lit (.int .i64 0), .lit (.int .i64 0)], true⟩ := by kernel_rfl
@[simp] theorem Tryz.ty444 : tyOf Tryz.prog 444 = some ⟨.struct [(0, 4), (1, 4), (2, 3), (3, 3), (4, 4), (5, 3), (6, 3)], 7, 48, [.lit (.bool false), .lit (.bool false), .lit (.int .i64 0), .lit (.int .i64 0), .lit (.bool false), .lit (.int .i64 0), .lit (.int .i64 0)], true⟩ := by kernel_rfl
@[simp] theorem Tryz.ty445 : tyOf Tryz.prog 445 = some ⟨.struct [(0, 62), (2, 4), (3, 3), (4, 3), (5, 3)], 6, 48, [.lit (.int .i64 0), .lit (.int .i64 0), .lit (.bool false), .lit (.int .i64 0), .lit (.int .i64 0), .lit (.int .i64 0)], true⟩ := by kernel_rfl
@[simp] theorem Tryz.ty446 : tyOf Tryz.prog 446 = some ⟨.struct [(0, 62), (2, 4), (3, 3), (4, 3), (5, 3)], 6, 48, [.lit (.int .i64 0), .lit (.int .i64 0), .lit (.bool false), .lit (.int .i64 0), .lit (.int .i64 0), .lit (.int .i64 0)], true⟩ := by kernel_rfl
@[simp] theorem Tryz.ty453 : tyOf Tryz.prog 453 = some ⟨.struct [(0, 9), (1, 9), (2, 83)], 3, 48, [.lit (.string ⟨⟨[]⟩⟩), .lit (.string ⟨⟨[]⟩⟩), .lit .nilIface], false⟩ := by kernel_rfl
@[simp] theorem Tryz.ty454 : tyOf Tryz.prog 454 = some ⟨.struct [(0, 9), (1, 9), (2, 83)], 3, 48, [.lit (.string ⟨⟨[]⟩⟩), .lit (.string ⟨⟨[]⟩⟩), .lit .nilIface], false⟩ := by kernel_rfl
@[simp] theorem Tryz.ty457 : tyOf Tryz.prog 457 = some ⟨.struct [(0, 116), (1, 355)], 2, 32, [.lit (.int .u32 0), .sl [] .full], false⟩ := by kernel_rfl
@[simp] theorem Tryz.ty458 : tyOf Tryz.prog 458 = some ⟨.struct [(0, 116), (1, 355)], 2, 32, [.lit (.int .u32 0), .sl [] .full], false⟩ := by kernel_rfl
@[simp] theorem Tryz.ty461 : tyOf Tryz.prog 461 = some ⟨.struct [(0, 5), (1, 5), (2, 9)], 3, 24, [.lit (.int .u8 0), .lit (.int .u8 0), .lit (.string ⟨⟨[]⟩⟩)], true⟩ := by kernel_rfl
@[simp] theorem Tryz.ty462 : tyOf Tryz.prog 462 = some ⟨.struct [(0, 5), (1, 5), (2, 9)], 3, 24, [.lit (.int .u8 0), .lit (.int .u8 0), .lit (.string ⟨⟨[]⟩⟩)], true⟩ := by kernel_rfl
@[simp] theorem Tryz.ty463 : tyOf Tryz.prog 463 = some ⟨.struct [(0, 4), (1, 114), (2, 116)], 3, 24, [.lit (.bool false), .lit (.int .u64 0), .lit (.int .u32 0)], true⟩ := by kernel_rfl
@[simp] theorem Tryz.ty464 : tyOf Tryz.prog 464 = some ⟨.struct [(0, 4), (1, 114), (2, 116)], 3, 24, [.lit (.bool false), .lit (.int .u64 0), .lit (.int .u32 0)], true⟩ := by kernel_rfl
@[simp] theorem Tryz.ty465 : tyOf Tryz.prog 465 = some ⟨.slice 582, 1, 24, [.sl [] .full], false⟩ := by kernel_rfl
@[simp] theorem Tryz.ty466 : tyOf Tryz.prog 466 = some ⟨.struct [(0, 116), (1, 116), (2, 465)], 3, 32, [.lit (.int .u32 0), .lit (.int .u32 0), .sl [] .full], false⟩ := by kernel_rfl
@[simp] theorem Tryz.ty467 : tyOf Tryz.prog 467 = some ⟨.struct [(0, 116), (1, 116), (2, 465)], 3, 32, [.lit (.int .u32 0), .lit (.int .u32 0), .sl [] .full], false⟩ := by kernel_rfl
@[simp] theorem Tryz.ty469 : tyOf Tryz.prog 469 = some ⟨.slice 473, 1, 24, [.sl [] .full], false⟩ := by kernel_rfl
@[simp] theorem Tryz.ty470 : tyOf Tryz.prog 470 = some ⟨.struct [(0, 116), (1, 469)], 2, 32, [.lit (.int .u32 0), .sl [] .full], false⟩ := by kernel_rfl
@[simp] theorem Tryz.ty471 : tyOf Tryz.prog 471 = some ⟨.struct [(0, 116), (1, 469)], 2, 32, [.lit (.int .u32 0), .sl [] .full], false⟩ := by kernel_rfl
@[simp] theorem Tryz.ty472 : tyOf Tryz.prog 472 = some ⟨.struct [(0, 116), (1, 5)], 2, 8, [.lit (.int .u32 0), .lit (.int .u8 0)], true⟩ := by kernel_rfl
@[simp] theorem Tryz.ty473 : tyOf Tryz.prog 473 = some ⟨.struct [(0, 116), (1, 5)], 2, 8, [.lit (.int .u32 0), .lit (.int .u8 0)], true⟩ := by kernel_rfl
@[simp] theorem Tryz.ty474 : tyOf Tryz.prog 474 = some ⟨.struct [(0, 116), (1, 114), (2, 30)], 3, 40, [.lit (.int .u32 0), .lit (.int .u64 0), .sl [] .full], false⟩ := by kernel_rfl
@[simp] theorem Tryz.ty475 : tyOf Tryz.prog 475 = some ⟨.struct [(0, 116), (1, 114), (2, 30)], 3, 40, [.lit (.int .u32 0), .lit (.int .u64 0), .sl [] .full], false⟩ := by kernel_rfl
@[simp] theorem Tryz.ty477 : tyOf Tryz.prog 477 = some ⟨.struct [(0, 30), (1, 9)], 2, 40, [.sl [] .full, .lit (.string ⟨⟨[]⟩⟩)], false⟩ := by kernel_rfl
@[simp] theorem Tryz.ty478 : tyOf Tryz.prog 478 = some ⟨.struct [(0, 30), (1, 9)], 2, 40, [.sl [] .full, .lit (.string ⟨⟨[]⟩⟩)], false⟩ := by kernel_rfl
@[simp] theorem Tryz.ty482 : tyOf Tryz.prog 482 = some ⟨.ptr 372, 1, 8, [.lit (.pointer none)], false⟩ := by kernel_rfl
@[simp] theorem Tryz.ty485 : tyOf Tryz.prog 485 = some ⟨.map 2 384, 1, 8, [.lit (.map none)], false⟩ := by kernel_rfl
@[simp] theorem Tryz.ty486 : tyOf Tryz.prog 486 = some ⟨.struct [(0, 54), (2, 4), (3, 2), (4, 485), (5, 3)], 6, 48, [.lit (.int .i64 0), .lit (.int .i64 0), .lit (.bool false), .lit (.int .i64 0), .lit (.map none), .lit (.int .i64 0)], false⟩ := by kernel_rfl
@[simp] theorem Tryz.ty487 : tyOf Tryz.prog 487 = some ⟨.struct [(0, 54), (2, 4), (3, 2), (4, 485), (5, 3)], 6, 48, [.lit (.int .i64 0), .lit (.int .i64 0), .lit (.bool false), .lit (.int .i64 0), .lit (.map none), .lit (.int .i64 0)], false⟩ := by kernel_rfl
@[simp] theorem Tryz.ty497 : tyOf Tryz.prog 497 = some ⟨.slice 390, 1, 24, [.sl [] .full], false⟩ := by kernel_rfl
@[simp] theorem Tryz.ty503 : tyOf Tryz.prog 503 = some ⟨.struct [(0, 3), (1, 4)], 2, 16, [.lit (.int .i64 0), .lit (.bool false)], true⟩ := by kernel_rfl
@[simp] theorem Tryz.ty504 : tyOf Tryz.prog 504 = some ⟨.struct [(0, 3), (1, 4)], 2, 16, [.lit (.int .i64 0), .lit (.bool false)], true⟩ := by kernel_rfl
@[simp] theorem Tryz.ty521 : tyOf Tryz.prog 521 = some ⟨.slice 299, 1, 24, [.sl [] .full], false⟩ := by kernel_rfl
@[simp] theorem Tryz.ty530 : tyOf Tryz.prog 530 = some ⟨.struct [(0, 56), (4, 306), (5, 3), (6, 3)], 7, 72, [.lit (.bool false), .lit (.int .i64 0), .lit (.int .i64 0), .lit (.int .i64 0), .sl [] .full, .lit (.int .i64 0), .lit (.int .i64 0)], false⟩ := by kernel_rfl
@[simp] theorem Tryz.ty531 : tyOf Tryz.prog 531 = some ⟨.struct [(0, 56), (4, 306), (5, 3), (6, 3)], 7, 72, [.lit (.bool false), .lit (.int .i64 0), .lit (.int .i64 0), .lit (.int .i64 0), .sl [] .full, .lit (.int .i64 0), .lit (.int .i64 0)], false⟩ := by kernel_rfl
@[simp] theorem Tryz.ty540 : tyOf Tryz.prog 540 = some ⟨.slice 542, 1, 24, [.sl [] .full], false⟩ := by kernel_rfl
@[simp] theorem Tryz.ty541 : tyOf Tryz.prog 541 = some ⟨.struct [(0, 3), (1, 3)], 2, 16, [.lit (.int .i64 0), .lit (.int .i64 0)], true⟩ := by kernel_rfl
@[simp] theorem Tryz.ty542 : tyOf Tryz.prog 542 = some ⟨.struct [(0, 3), (1, 3)], 2, 16, [.lit (.int .i64 0), .lit (.int .i64 0)], true⟩ := by kernel_rfl
@[simp] theorem Tryz.ty544 : tyOf Tryz.prog 544 = some ⟨.struct [(0, 3), (1, 3), (2, 521), (3, 3), (4, 4)], 5, 56, [.lit (.int .i64 0), .lit (.int .i64 0), .sl [] .full, .lit (.int .i64 0), .lit (.bool false)], false⟩ := by kernel_rfl
@[simp] theorem Tryz.ty545 : tyOf Tryz.prog 545 = some ⟨.struct [(0, 3), (1, 3), (2, 521), (3, 3), (4, 4)], 5, 56, [.lit (.int .i64 0), .lit (.int .i64 0), .sl [] .full, .lit (.int .i64 0), .lit (.bool false)], false⟩ := by kernel_rfl
@[simp] theorem Tryz.ty547 : tyOf Tryz.prog 547 = some ⟨.map 3 3, 1, 8, [.lit (.map none)], false⟩ := by kernel_rfl
@[simp] theorem Tryz.ty548 : tyOf Tryz.prog 548 = some ⟨.struct [(0, 3), (1, 547), (2, 547), (3, 3), (4, 4)], 5, 40, [.lit (.int .i64 0), .lit (.map none), .lit (.map none), .lit (.int .i64 0), .lit (.bool false)], false⟩ := by kernel_rfl
@[simp] theorem Tryz.ty549 : tyOf Tryz.prog 549 = some ⟨.struct [(0, 3), (1, 547), (2, 547), (3, 3), (4, 4)], 5, 40, [.lit (.int .i64 0), .lit (.map none), .lit (.map none), .lit (.int .i64 0), .lit (.bool false)], false⟩ := by kernel_rfl
@[simp] theorem Tryz.ty550 : tyOf Tryz.prog 550 = some ⟨.struct [(0, 4), (1, 4), (2, 3), (3, 3), (4, 4), (5, 3), (6, 3), (7, 4), (8, 3)], 9, 64, [.lit (.bool false), .lit (.bool false), .lit (.int .i64 0), .lit (.int .i64 0), .lit (.bool false), .lit (.int .i64 0), .lit (.int .i64 0), .lit (.bool false), .lit (.int .i64 0)], true⟩ := by kernel_rfl
@[simp] theorem Tryz.ty551 : tyOf Tryz.prog 551 = some ⟨.struct [(0, 4), (1, 4), (2, 3), (3, 3), (4, 4), (5, 3), (6, 3), (7, 4), (8, 3)], 9, 64, [.lit (.bool false), .lit (.bool false), .lit (.int .i64 0), .lit (.int .i64 0), .lit (.bool false), .lit (.int .i64 0), .lit (.int .i64 0), .lit (.bool false), .lit (.int .i64 0)], true⟩ := by kernel_rfl
@[simp] theorem Tryz.ty555 : tyOf Tryz.prog 555 = some ⟨.ptr 155, 1, 8, [.lit (.pointer none)], false⟩ := by kernel_rfl
@[simp] theorem Tryz.ty556 : tyOf Tryz.prog 556 = some ⟨.struct [(0, 3), (1, 3), (2, 320)], 3, 24, [.lit (.int .i64 0), .lit (.int .i64 0), .lit (.int .i64 0)], true⟩ := by kernel_rfl
@[simp] theorem Tryz.ty557 : tyOf Tryz.prog 557 = some ⟨.struct [(0, 3), (1, 3), (2, 320)], 3, 24, [.lit (.int .i64 0), .lit (.int .i64 0), .lit (.int .i64 0)], true⟩ := by kernel_rfl
@[simp] theorem Tryz.ty560 : tyOf Tryz.prog 560 = some ⟨.iface, 1, 16, [.lit .nilIface], false⟩ := by kernel_rfl
@[simp] theorem Tryz.ty563 : tyOf Tryz.prog 563 = some ⟨.arr 24 5, 24, 24, [.lit (.int .u8 0), .lit (.int .u8 0), .lit (.int .u8 0), .lit (.int .u8 0), .lit (.int .u8 0), .lit (.int .u8 0), .lit (.int .u8 0), .lit (.int .u8 0), .lit (.int .u8 0), .lit (.int .u8 0), .lit (.int .u8 0), .lit (.int .u8 0), .lit (.int .u8 0), .lit (.int .u8 0), .lit (.int .u8 0), .lit (.int .u8 0), .lit (.int .u8 0), .lit (.int .u8 0), .lit (.int .u8 0), .lit (.int .u8 0), .lit (.int .u8 0), .lit (.int .u8 0), .lit (.int .u8 0), .lit (.int .u8 0)], true⟩ := by kernel_rfl
@[simp] theorem Tryz.ty569 : tyOf Tryz.prog 569 = some ⟨.ptr 571, 1, 8, [.lit (.pointer none)], false⟩ := by kernel_rfl
@[simp] theorem Tryz.ty572 : tyOf Tryz.prog 572 = some ⟨.struct [(0, 116), (1, 5), (2, 116), (3, 116), (4, 116), (5, 116), (6, 116)], 7, 28, [.lit (.int .u32 0), .lit (.int .u8 0), .lit (.int .u32 0), .lit (.int .u32 0), .lit (.int .u32 0), .lit (.int .u32 0), .lit (.int .u32 0)], true⟩ := by kernel_rfl
@[simp] theorem Tryz.ty573 : tyOf Tryz.prog 573 = some ⟨.struct [(0, 116), (1, 5), (2, 116), (3, 116), (4, 116), (5, 116), (6, 116)], 7, 28, [.lit (.int .u32 0), .lit (.int .u8 0), .lit (.int .u32 0), .lit (.int .u32 0), .lit (.int .u32 0), .lit (.int .u32 0), .lit (.int .u32 0)], true⟩ := by kernel_rfl
@[simp] theorem Tryz.ty574 : tyOf Tryz.prog 574 = some ⟨.slice 579, 1, 24, [.sl [] .full], false⟩ := by kernel_rfl
@[simp] theorem Tryz.ty575 : tyOf Tryz.prog 575 = some ⟨.struct [(0, 574)], 1, 24, [.sl [] .full], false⟩ := by kernel_rfl
@[simp] theorem Tryz.ty576 : tyOf Tryz.prog 576 = some ⟨.struct [(0, 574)], 1, 24, [.sl [] .full], false⟩ := by kernel_rfl
@[simp] theorem Tryz.ty577 : tyOf Tryz.prog 577 = some ⟨.slice 643, 1, 24, [.sl [] .full], false⟩ := by kernel_rfl
@[simp] theorem Tryz.ty578 : tyOf Tryz.prog 578 = some ⟨.struct [(0, 116), (1, 577)], 2, 32, [.lit (.int .u32 0), .sl [] .full], false⟩ := by kernel_rfl
@[simp] theorem Tryz.ty579 : tyOf Tryz.prog 579 = some ⟨.struct [(0, 116), (1, 577)], 2, 32, [.lit (.int .u32 0), .sl [] .full], false⟩ := by kernel_rfl
@[simp] theorem Tryz.ty581 : tyOf Tryz.prog 581 = some ⟨.struct [(0, 131), (1, 131)], 2, 4, [.lit (.int .u16 0), .lit (.int .u16 0)], true⟩ := by kernel_rfl
@[simp] theorem Tryz.ty582 : tyOf Tryz.prog 582 = some ⟨.struct [(0, 131), (1, 131)], 2, 4, [.lit (.int .u16 0), .lit (.int .u16 0)], true⟩ := by kernel_rfl
@[simp] theorem Tryz.ty584 : tyOf Tryz.prog 584 = some ⟨.ptr 362, 1, 8, [.lit (.pointer none)], false⟩ := by kernel_rfl
@[simp] theorem Tryz.ty585 : tyOf Tryz.prog 585 = some ⟨.ptr 432, 1, 8, [.lit (.pointer none)], false⟩ := by kernel_rfl
@[simp] theorem Tryz.ty597 : tyOf Tryz.prog 597 = some ⟨.map 9 3, 1, 8, [.lit (.map none)], false⟩ := by kernel_rfl
@[simp] theorem Tryz.ty612 : tyOf Tryz.prog 612 = some ⟨.int .i64, 1, 8, [.lit (.int .i64 0)], true⟩ := by kernel_rfl
@[simp] theorem Tryz.ty621 : tyOf Tryz.prog 621 = some ⟨.slice 2, 1, 24, [.sl [] .full], false⟩ := by kernel_rfl
@[simp] theorem Tryz.ty640 : tyOf Tryz.prog 640 = some ⟨.arr 20 114, 20, 160, [.lit (.int .u64 0), .lit (.int .u64 0), .lit (.int .u64 0), .lit (.int .u64 0), .lit (.int .u64 0), .lit (.int .u64 0), .lit (.int .u64 0), .lit (.int .u64 0), .lit (.int .u64 0), .lit (.int .u64 0), .lit (.int .u64 0), .lit (.int .u64 0), .lit (.int .u64 0), .lit (.int .u64 0), .lit (.int .u64 0), .lit (.int .u64 0), .lit (.int .u64 0), .lit (.int .u64 0), .lit (.int .u64 0), .lit (.int .u64 0)], true⟩ := by kernel_rfl
@[simp] theorem Tryz.ty642 : tyOf Tryz.prog 642 = some ⟨.struct [(0, 5), (1, 9)], 2, 24, [.lit (.int .u8 0), .lit (.string ⟨⟨[]⟩⟩)], true⟩ := by kernel_rfl
@[simp] theorem Tryz.ty643 : tyOf Tryz.prog 643 = some ⟨.struct [(0, 5), (1, 9)], 2, 24, [.lit (.int .u8 0), .lit (.string ⟨⟨[]⟩⟩)], true⟩ := by kernel_rfl
@[simp] theorem Tryz.ty644 : tyOf Tryz.prog 644 = some ⟨.ptr 374, 1, 8, [.lit (.pointer none)], false⟩ := by kernel_rfl
@[simp] theorem Tryz.ty647 : tyOf Tryz.prog 647 = some ⟨.int .u64, 1, 8, [.lit (.int .u64 0)], true⟩ := by kernel_rfl
@[simp] theorem Tryz.ty651 : tyOf Tryz.prog 651 = some ⟨.ptr 3, 1, 8, [.lit (.pointer none)], false⟩ := by kernel_rfl
@[simp] theorem Tryz.ty658 : tyOf Tryz.prog 658 = some ⟨.ptr 551, 1, 8, [.lit (.pointer none)], false⟩ := by kernel_rfl
@[simp] theorem Tryz.ty667 : tyOf Tryz.prog 667 = some ⟨.ptr 647, 1, 8, [.lit (.pointer none)], false⟩ := by kernel_rfl
@[simp] theorem Tryz.ty672 : tyOf Tryz.prog 672 = some ⟨.arr 32 5, 32, 32, [.lit (.int .u8 0), .lit (.int .u8 0), .lit (.int .u8 0), .lit (.int .u8 0), .lit (.int .u8 0), .lit (.int .u8 0), .lit (.int .u8 0), .lit (.int .u8 0), .lit (.int .u8 0), .lit (.int .u8 0), .lit (.int .u8 0), .lit (.int .u8 0), .lit (.int .u8 0), .lit (.int .u8 0), .lit (.int .u8 0), .lit (.int .u8 0), .lit (.int .u8 0), .lit (.int .u8 0), .lit (.int .u8 0), .lit (.int .u8 0), .lit (.int .u8 0), .lit (.int .u8 0), .lit (.int .u8 0), .lit (.int .u8 0), .lit (.int .u8 0), .lit (.int .u8 0), .lit (.int .u8 0), .lit (.int .u8 0), .lit (.int .u8 0), .lit (.int .u8 0), .lit (.int .u8 0), .lit (.int .u8 0)], true⟩ := by kernel_rfl
@[simp] theorem Tryz.ty685 : tyOf Tryz.prog 685 = some ⟨.arr 0 16, 0, 0, [], false⟩ := by kernel_rfl
@[simp] theorem Tryz.ty688 : tyOf Tryz.prog 688 = some ⟨.int .u8, 1, 1, [.lit (.int .u8 0)], true⟩ := by kernel_rfl
@[simp] theorem Tryz.ty689 : tyOf Tryz.prog 689 = some ⟨.int .u8, 1, 1, [.lit (.int .u8 0)], true⟩ := by kernel_rfl
@[simp] theorem Tryz.ty691 : tyOf Tryz.prog 691 = some ⟨.int .i32, 1, 4, [.lit (.int .i32 0)], true⟩ := by kernel_rfl
@[simp] theorem Tryz.ty692 : tyOf Tryz.prog 692 = some ⟨.int .i32, 1, 4, [.lit (.int .i32 0)], true⟩ := by kernel_rfl
@[simp] theorem Tryz.impl329_328 : implOf Tryz.prog 329 328 = some true := by kernel_rfl
@[simp] theorem Tryz.impl330_328 : implOf Tryz.prog 330 328 = some true := by kernel_rfl
@[simp] theorem Tryz.impl329_357 : implOf Tryz.prog 329 357 = some true := by kernel_rfl
@[simp] theorem Tryz.impl330_357 : implOf Tryz.prog 330 357 = some true := by kernel_rfl
@[simp] theorem Tryz.impl329_458 : implOf Tryz.prog 329 458 = some true := by kernel_rfl
@[simp] theorem Tryz.impl330_458 : implOf Tryz.prog 330 458 = some true := by kernel_rfl
@[simp] theorem Tryz.impl329_462 : implOf Tryz.prog 329 462 = some true := by kernel_rfl
@[simp] theorem Tryz.impl330_462 : implOf Tryz.prog 330 462 = some true := by kernel_rfl
@[simp] theorem Tryz.impl329_467 : implOf Tryz.prog 329 467 = some true := by kernel_rfl
@[simp] theorem Tryz.impl330_467 : implOf Tryz.prog 330 467 = some true := by kernel_rfl
@[simp] theorem Tryz.impl329_471 : implOf Tryz.prog 329 471 = some true := by kernel_rfl
@[simp] theorem Tryz.impl330_471 : implOf Tryz.prog 330 471 = some true := by kernel_rfl
@[simp] theorem Tryz.impl329_475 : implOf Tryz.prog 329 475 = some true := by kernel_rfl
@[simp] theorem Tryz.impl330_475 : implOf Tryz.prog 330 475 = some true := by kernel_rfl
@[simp] theorem Tryz.impl329_478 : implOf Tryz.prog 329 478 = some true := by kernel_rfl
@[simp] theorem Tryz.impl330_478 : implOf Tryz.prog 330 478 = some true := by kernel_rfl
@[simp] theorem Tryz.impl329_576 : implOf Tryz.prog 329 576 = some true := by kernel_rfl
@[simp] theorem Tryz.impl330_576 : implOf Tryz.prog 330 576 = some true := by kernel_rfl
@[simp] theorem Tryz.impl560_328 : implOf Tryz.prog 560 328 = some true := by kernel_rfl
@[simp] theorem Tryz.impl560_357 : implOf Tryz.prog 560 357 = some true := by kernel_rfl
@[simp] theorem Tryz.impl560_458 : implOf Tryz.prog 560 458 = some true := by kernel_rfl
@[simp] theorem Tryz.impl560_462 : implOf Tryz.prog 560 462 = some true := by kernel_rfl
@[simp] theorem Tryz.impl560_467 : implOf Tryz.prog 560 467 = some true := by kernel_rfl
@[simp] theorem Tryz.impl560_471 : implOf Tryz.prog 560 471 = some true := by kernel_rfl
@[simp] theorem Tryz.impl560_475 : implOf Tryz.prog 560 475 = some true := by kernel_rfl
@[simp] theorem Tryz.impl560_478 : implOf Tryz.prog 560 478 = some true := by kernel_rfl
@[simp] theorem Tryz.impl560_576 : implOf Tryz.prog 560 576 = some true := by kernel_rfl
@[simp] theorem Tryz.meth328_507 : methOf Tryz.prog 328 "Head" = some 507 := by kernel_rfl
@[simp] theorem Tryz.meth328_508 : methOf Tryz.prog 328 "antiphon/rtcp.put" = some 508 := by kernel_rfl
@[simp] theorem Tryz.meth357_511 : methOf Tryz.prog 357 "Head" = some 511 := by kernel_rfl
@[simp] theorem Tryz.meth357_512 : methOf Tryz.prog 357 "antiphon/rtcp.put" = some 512 := by kernel_rfl
@[simp] theorem Tryz.meth458_515 : methOf Tryz.prog 458 "Head" = some 515 := by kernel_rfl
@[simp] theorem Tryz.meth458_516 : methOf Tryz.prog 458 "antiphon/rtcp.put" = some 516 := by kernel_rfl
@[simp] theorem Tryz.meth462_517 : methOf Tryz.prog 462 "Head" = some 517 := by kernel_rfl
@[simp] theorem Tryz.meth462_518 : methOf Tryz.prog 462 "antiphon/rtcp.put" = some 518 := by kernel_rfl
@[simp] theorem Tryz.meth467_519 : methOf Tryz.prog 467 "Head" = some 519 := by kernel_rfl
@[simp] theorem Tryz.meth467_520 : methOf Tryz.prog 467 "antiphon/rtcp.put" = some 520 := by kernel_rfl
@[simp] theorem Tryz.meth471_521 : methOf Tryz.prog 471 "Head" = some 521 := by kernel_rfl
@[simp] theorem Tryz.meth471_522 : methOf Tryz.prog 471 "antiphon/rtcp.put" = some 522 := by kernel_rfl
@[simp] theorem Tryz.meth475_523 : methOf Tryz.prog 475 "Head" = some 523 := by kernel_rfl
@[simp] theorem Tryz.meth475_524 : methOf Tryz.prog 475 "antiphon/rtcp.put" = some 524 := by kernel_rfl
@[simp] theorem Tryz.meth478_526 : methOf Tryz.prog 478 "Head" = some 526 := by kernel_rfl
@[simp] theorem Tryz.meth478_527 : methOf Tryz.prog 478 "antiphon/rtcp.put" = some 527 := by kernel_rfl
@[simp] theorem Tryz.meth576_532 : methOf Tryz.prog 576 "Head" = some 532 := by kernel_rfl
@[simp] theorem Tryz.meth576_533 : methOf Tryz.prog 576 "antiphon/rtcp.put" = some 533 := by kernel_rfl
theorem cw {f : FuncId} {fn : Func} {c : Code} (hf : Tryz.prog.funcs[f]? = some fn) (hb : fn.body = some c) (hname : (fn.name == "runtime.NumGoroutine") = false) {l : List AV} {M : List AObj} {out : Out} {rs : List ResultVar} (hrs : fn.results.toList = rs) {n : Nat} (hn : fn.ntmps = n) (hl : l.length ≤ n)
    (h : out.obl → belM M.length M → belL M.length l → AWp Tryz.prog n M.length c (retPost Tryz.ty rs out M) ⟨argsE 0 l, M⟩) : CallOk Tryz.prog f l M out := call_of_awp Tryz.tyOk hf hb hname hrs hn hl h
theorem tq {Γ : Gam} (hΓ : GamOk Tryz.prog Γ) {n B : Nat} {Q : Exit → St → Prop} {σ : St} {id : Nat} {ops : Array Oper} (keep dead : List Nat) {A : Env} {M : List AObj} {y : Code} (h2 : AWp Tryz.prog n B y Q ⟨A, M⟩) (h : regE keep dead ops.toList σ ⟨A, M⟩ (runR Tryz.ty Γ ops ops.toList σ.A σ.M) := by simp; exact rr) (hd : dstsOk ops n ops.toList [] = true := by kernel_rfl) (hn : noTags σ.A = true := by rfl) : AWp Tryz.prog n B (.seq (.region id ops false) y) Q σ := AWp.thn (AWp.reg Tryz.tyOk hΓ (keep := keep) (dead := dead) hd hn h) h2
theorem tl {Γ : Gam} (hΓ : GamOk Tryz.prog Γ) {n B : Nat} {Q : Exit → St → Prop} {σ : St} {id : Nat} {ops : Array Oper} (keep dead : List Nat) {A : Env} {M : List AObj} (h2 : Q .normal ⟨A, M⟩) (h : regE keep dead ops.toList σ ⟨A, M⟩ (runR Tryz.ty Γ ops ops.toList σ.A σ.M) := by simp; exact rr) (hd : dstsOk ops n ops.toList [] = true := by kernel_rfl) (hn : noTags σ.A = true := by rfl) : AWp Tryz.prog n B (.region id ops false) Q σ := AWp.lst (AWp.reg Tryz.tyOk hΓ (keep := keep) (dead := dead) hd hn h) h2
theorem td {Γ : Gam} (hΓ : GamOk Tryz.prog Γ) {n B : Nat} {Q : Exit → St → Prop} {σ : St} {id : Nat} {ops : Array Oper} (keep dead : List Nat) (ps : List (Nat × Nat)) (info : List (Bool × List Nat)) {A : Env} {M : List AObj} (h : regF Tryz.ty Γ ps info keep dead ops.toList σ ⟨A, M⟩ (runR Tryz.ty Γ ops ops.toList σ.A σ.M)) {y : Code} (h2 : AWp Tryz.prog n B y Q ⟨A, M⟩) (hd : drawB n ps ops.toList info = true := by kernel_rfl) (hn : noTags σ.A = true := by rfl) : AWp Tryz.prog n B (.seq (.region id ops true) y) Q σ := AWp.thn (AWp.regD Tryz.mixed Tryz.tyOk hΓ (keep := keep) (dead := dead) ps info hd hn h) h2
end Go.Proofs

/- What the types of this program come to, as the layer of abstract values wants them: no condition. -/
import Derived.Test.YtbijdlgffebenaaGreatProg
import Derived.Test.YtbijdlgffebenaaGreatAb5
import Derived.KernelRfl
namespace Go.Proofs
open Go.Ab
noncomputable abbrev Tryz.ty : TyTab := tyOf Tryz.prog
theorem Tryz.tyOk : TyOk Tryz.prog Tryz.ty := ⟨fun _ _ h => h⟩
theorem Tryz.mixed : Tryz.prog.follows .mixedOrders = true := by kernel_rfl
@[simp] theorem Tryz.ty2 : tyOf Tryz.prog 2 = some ⟨.int .i64, 1, 8, [.lit (.int .i64 0)], true⟩ := by kernel_rfl
@[simp] theorem Tryz.ty3 : tyOf Tryz.prog 3 = some ⟨.int .i64, 1, 8, [.lit (.int .i64 0)], true⟩ := by kernel_rfl
@[simp] theorem Tryz.ty4 : tyOf Tryz.prog 4 = some ⟨.bool, 1, 1, [.lit (.bool false)], true⟩ := by kernel_rfl
@[simp] theorem Tryz.ty5 : tyOf Tryz.prog 5 = some ⟨.int .u8, 1, 1, [.lit (.int .u8 0)], true⟩ := by kernel_rfl
@[simp] theorem Tryz.ty6 : tyOf Tryz.prog 6 = some ⟨.int .u8, 1, 1, [.lit (.int .u8 0)], true⟩ := by kernel_rfl
@[simp] theorem Tryz.ty9 : tyOf Tryz.prog 9 = some ⟨.str, 1, 16, [.lit (.string ⟨⟨[]⟩⟩)], true⟩ := by kernel_rfl
@[simp] theorem Tryz.ty10 : tyOf Tryz.prog 10 = some ⟨.str, 1, 16, [.lit (.string ⟨⟨[]⟩⟩)], true⟩ := by kernel_rfl
@[simp] theorem Tryz.ty11 : tyOf Tryz.prog 11 = some ⟨.str, 1, 16, [.lit (.string ⟨⟨[]⟩⟩)], true⟩ := by kernel_rfl
@[simp] theorem Tryz.ty12 : tyOf Tryz.prog 12 = some ⟨.int .u64, 1, 8, [.lit (.int .u64 0)], true⟩ := by kernel_rfl
@[simp] theorem Tryz.ty15 : tyOf Tryz.prog 15 = some ⟨.ptr 241, 1, 8, [.lit (.pointer none)], false⟩ := by kernel_rfl
@[simp] theorem Tryz.ty16 : tyOf Tryz.prog 16 = some ⟨.ptr 244, 1, 8, [.lit (.pointer none)], false⟩ := by kernel_rfl
@[simp] theorem Tryz.ty17 : tyOf Tryz.prog 17 = some ⟨.ptr 251, 1, 8, [.lit (.pointer none)], false⟩ := by kernel_rfl
@[simp] theorem Tryz.ty18 : tyOf Tryz.prog 18 = some ⟨.struct [(0, 17)], 1, 8, [.lit (.pointer none)], false⟩ := by kernel_rfl
@[simp] theorem Tryz.ty19 : tyOf Tryz.prog 19 = some ⟨.struct [(0, 17)], 1, 8, [.lit (.pointer none)], false⟩ := by kernel_rfl
@[simp] theorem Tryz.ty20 : tyOf Tryz.prog 20 = some ⟨.iface, 1, 16, [.lit .nilIface], false⟩ := by kernel_rfl
@[simp] theorem Tryz.ty21 : tyOf Tryz.prog 21 = some ⟨.int .i32, 1, 4, [.lit (.int .i32 0)], true⟩ := by kernel_rfl
@[simp] theorem Tryz.ty22 : tyOf Tryz.prog 22 = some ⟨.int .u16, 1, 2, [.lit (.int .u16 0)], true⟩ := by kernel_rfl
@[simp] theorem Tryz.ty23 : tyOf Tryz.prog 23 = some ⟨.slice 3, 1, 24, [.sl [] .full], false⟩ := by kernel_rfl
@[simp] theorem Tryz.ty24 : tyOf Tryz.prog 24 = some ⟨.slice 50, 1, 24, [.sl [] .full], false⟩ := by kernel_rfl
@[simp] theorem Tryz.ty26 : tyOf Tryz.prog 26 = some ⟨.ptr 83, 1, 8, [.lit (.pointer none)], false⟩ := by kernel_rfl
@[simp] theorem Tryz.ty27 : tyOf Tryz.prog 27 = some ⟨.struct [(0, 4), (1, 2), (2, 2), (3, 3), (4, 3)], 5, 40, [.lit (.bool false), .lit (.int .i64 0), .lit (.int .i64 0), .lit (.int .i64 0), .lit (.int .i64 0)], true⟩ := by kernel_rfl
@[simp] theorem Tryz.ty28 : tyOf Tryz.prog 28 = some ⟨.struct [(0, 4), (1, 2), (2, 2), (3, 3), (4, 3)], 5, 40, [.lit (.bool false), .lit (.int .i64 0), .lit (.int .i64 0), .lit (.int .i64 0), .lit (.int .i64 0)], true⟩ := by kernel_rfl
@[simp] theorem Tryz.ty29 : tyOf Tryz.prog 29 = some ⟨.slice 108, 1, 24, [.sl [] .full], false⟩ := by kernel_rfl
@[simp] theorem Tryz.ty30 : tyOf Tryz.prog 30 = some ⟨.struct [(0, 3), (1, 3), (2, 4), (3, 2), (4, 29), (5, 3)], 6, 64, [.lit (.int .i64 0), .lit (.int .i64 0), .lit (.bool false), .lit (.int .i64 0), .sl [] .full, .lit (.int .i64 0)], false⟩ := by kernel_rfl
@[simp] theorem Tryz.ty31 : tyOf Tryz.prog 31 = some ⟨.struct [(0, 3), (1, 3), (2, 4), (3, 2), (4, 29), (5, 3)], 6, 64, [.lit (.int .i64 0), .lit (.int .i64 0), .lit (.bool false), .lit (.int .i64 0), .sl [] .full, .lit (.int .i64 0)], false⟩ := by kernel_rfl
@[simp] theorem Tryz.ty32 : tyOf Tryz.prog 32 = some ⟨.slice 113, 1, 24, [.sl [] .full], false⟩ := by kernel_rfl
@[simp] theorem Tryz.ty33 : tyOf Tryz.prog 33 = some ⟨.struct [(0, 4), (1, 3), (2, 3), (3, 3), (4, 32), (5, 3), (6, 3)], 7, 72, [.lit (.bool false), .lit (.int .i64 0), .lit (.int .i64 0), .lit (.int .i64 0), .sl [] .full, .lit (.int .i64 0), .lit (.int .i64 0)], false⟩ := by kernel_rfl
@[simp] theorem Tryz.ty34 : tyOf Tryz.prog 34 = some ⟨.struct [(0, 4), (1, 3), (2, 3), (3, 3), (4, 32), (5, 3), (6, 3)], 7, 72, [.lit (.bool false), .lit (.int .i64 0), .lit (.int .i64 0), .lit (.int .i64 0), .sl [] .full, .lit (.int .i64 0), .lit (.int .i64 0)], false⟩ := by kernel_rfl
@[simp] theorem Tryz.ty35 : tyOf Tryz.prog 35 = some ⟨.slice 110, 1, 24, [.sl [] .full], false⟩ := by kernel_rfl
@[simp] theorem Tryz.ty36 : tyOf Tryz.prog 36 = some ⟨.struct [(0, 28), (5, 2), (6, 31), (12, 34), (19, 35), (20, 3), (21, 3)], 22, 224, [.lit (.bool false), .lit (.int .i64 0), .lit (.int .i64 0), .lit (.int .i64 0), .lit (.int .i64 0), .lit (.int .i64 0), .lit (.int .i64 0), .lit (.int .i64 0), .lit (.bool false), .lit (.int .i64 0), .sl [] .full, .lit (.int .i64 0), .lit (.bool false), .lit (.int .i64 0), .lit (.int .i64 0), .lit (.int .i64 0), .sl [] .full, .lit (.int .i64 0), .lit (.int .i64 0), .sl [] .full, .lit (.int .i64 0), .lit (.int .i64 0)], false⟩ := by kernel_rfl
@[simp] theorem Tryz.ty37 : tyOf Tryz.prog 37 = some ⟨.struct [(0, 28), (5, 2), (6, 31), (12, 34), (19, 35), (20, 3), (21, 3)], 22, 224, [.lit (.bool false), .lit (.int .i64 0), .lit (.int .i64 0), .lit (.int .i64 0), .lit (.int .i64 0), .lit (.int .i64 0), .lit (.int .i64 0), .lit (.int .i64 0), .lit (.bool false), .lit (.int .i64 0), .sl [] .full, .lit (.int .i64 0), .lit (.bool false), .lit (.int .i64 0), .lit (.int .i64 0), .lit (.int .i64 0), .sl [] .full, .lit (.int .i64 0), .lit (.int .i64 0), .sl [] .full, .lit (.int .i64 0), .lit (.int .i64 0)], false⟩ := by kernel_rfl
@[simp] theorem Tryz.ty40 : tyOf Tryz.prog 40 = some ⟨.struct [(0, 3), (1, 3)], 2, 16, [.lit (.int .i64 0), .lit (.int .i64 0)], true⟩ := by kernel_rfl
@[simp] theorem Tryz.ty41 : tyOf Tryz.prog 41 = some ⟨.struct [(0, 3), (1, 3)], 2, 16, [.lit (.int .i64 0), .lit (.int .i64 0)], true⟩ := by kernel_rfl
@[simp] theorem Tryz.ty42 : tyOf Tryz.prog 42 = some ⟨.struct [(0, 4), (1, 3), (2, 3), (3, 3)], 4, 32, [.lit (.bool false), .lit (.int .i64 0), .lit (.int .i64 0), .lit (.int .i64 0)], true⟩ := by kernel_rfl
@[simp] theorem Tryz.ty43 : tyOf Tryz.prog 43 = some ⟨.struct [(0, 4), (1, 3), (2, 3), (3, 3)], 4, 32, [.lit (.bool false), .lit (.int .i64 0), .lit (.int .i64 0), .lit (.int .i64 0)], true⟩ := by kernel_rfl
@[simp] theorem Tryz.ty44 : tyOf Tryz.prog 44 = some ⟨.struct [(0, 41), (2, 43)], 6, 48, [.lit (.int .i64 0), .lit (.int .i64 0), .lit (.bool false), .lit (.int .i64 0), .lit (.int .i64 0), .lit (.int .i64 0)], true⟩ := by kernel_rfl
@[simp] theorem Tryz.ty45 : tyOf Tryz.prog 45 = some ⟨.struct [(0, 41), (2, 43)], 6, 48, [.lit (.int .i64 0), .lit (.int .i64 0), .lit (.bool false), .lit (.int .i64 0), .lit (.int .i64 0), .lit (.int .i64 0)], true⟩ := by kernel_rfl
@[simp] theorem Tryz.ty47 : tyOf Tryz.prog 47 = some ⟨.slice 55, 1, 24, [.sl [] .full], false⟩ := by kernel_rfl
@[simp] theorem Tryz.ty49 : tyOf Tryz.prog 49 = some ⟨.struct [(0, 3), (1, 3), (2, 9)], 3, 32, [.lit (.int .i64 0), .lit (.int .i64 0), .lit (.string ⟨⟨[]⟩⟩)], true⟩ := by kernel_rfl
@[simp] theorem Tryz.ty50 : tyOf Tryz.prog 50 = some ⟨.struct [(0, 3), (1, 3), (2, 9)], 3, 32, [.lit (.int .i64 0), .lit (.int .i64 0), .lit (.string ⟨⟨[]⟩⟩)], true⟩ := by kernel_rfl
@[simp] theorem Tryz.ty51 : tyOf Tryz.prog 51 = some ⟨.int .u32, 1, 4, [.lit (.int .u32 0)], true⟩ := by kernel_rfl
@[simp] theorem Tryz.ty53 : tyOf Tryz.prog 53 = some ⟨.slice 51, 1, 24, [.sl [] .full], false⟩ := by kernel_rfl
@[simp] theorem Tryz.ty54 : tyOf Tryz.prog 54 = some ⟨.struct [(0, 4), (1, 5), (2, 22), (3, 51), (4, 51), (5, 53), (6, 4), (7, 22), (8, 9), (9, 9), (10, 3)], 11, 88, [.lit (.bool false), .lit (.int .u8 0), .lit (.int .u16 0), .lit (.int .u32 0), .lit (.int .u32 0), .sl [] .full, .lit (.bool false), .lit (.int .u16 0), .lit (.string ⟨⟨[]⟩⟩), .lit (.string ⟨⟨[]⟩⟩), .lit (.int .i64 0)], false⟩ := by kernel_rfl
@[simp] theorem Tryz.ty55 : tyOf Tryz.prog 55 = some ⟨.struct [(0, 4), (1, 5), (2, 22), (3, 51), (4, 51), (5, 53), (6, 4), (7, 22), (8, 9), (9, 9), (10, 3)], 11, 88, [.lit (.bool false), .lit (.int .u8 0), .lit (.int .u16 0), .lit (.int .u32 0), .lit (.int .u32 0), .sl [] .full, .lit (.bool false), .lit (.int .u16 0), .lit (.string ⟨⟨[]⟩⟩), .lit (.string ⟨⟨[]⟩⟩), .lit (.int .i64 0)], false⟩ := by kernel_rfl
@[simp] theorem Tryz.ty56 : tyOf Tryz.prog 56 = some ⟨.slice 89, 1, 24, [.sl [] .full], false⟩ := by kernel_rfl
@[simp] theorem Tryz.ty57 : tyOf Tryz.prog 57 = some ⟨.int .i64, 1, 8, [.lit (.int .i64 0)], true⟩ := by kernel_rfl
@[simp] theorem Tryz.ty60 : tyOf Tryz.prog 60 = some ⟨.slice 32, 1, 24, [.sl [] .full], false⟩ := by kernel_rfl
@[simp] theorem Tryz.ty63 : tyOf Tryz.prog 63 = some ⟨.struct [(0, 4), (1, 5), (2, 22), (3, 51), (4, 51), (5, 53), (6, 4), (7, 22), (8, 9), (9, 9), (10, 3)], 11, 88, [.lit (.bool false), .lit (.int .u8 0), .lit (.int .u16 0), .lit (.int .u32 0), .lit (.int .u32 0), .sl [] .full, .lit (.bool false), .lit (.int .u16 0), .lit (.string ⟨⟨[]⟩⟩), .lit (.string ⟨⟨[]⟩⟩), .lit (.int .i64 0)], false⟩ := by kernel_rfl
@[simp] theorem Tryz.ty70 : tyOf Tryz.prog 70 = some ⟨.slice 22, 1, 24, [.sl [] .full], false⟩ := by kernel_rfl
@[simp] theorem Tryz.ty72 : tyOf Tryz.prog 72 = some ⟨.slice 2, 1, 24, [.sl [] .full], false⟩ := by kernel_rfl
@[simp] theorem Tryz.ty75 : tyOf Tryz.prog 75 = some ⟨.ptr 125, 1, 8, [.lit (.pointer none)], false⟩ := by kernel_rfl
@[simp] theorem Tryz.ty76 : tyOf Tryz.prog 76 = some ⟨.ptr 157, 1, 8, [.lit (.pointer none)], false⟩ := by kernel_rfl
@[simp] theorem Tryz.ty77 : tyOf Tryz.prog 77 = some ⟨.struct [(0, 4), (1, 2), (2, 22), (3, 3), (4, 3)], 5, 40, [.lit (.bool false), .lit (.int .i64 0), .lit (.int .u16 0), .lit (.int .i64 0), .lit (.int .i64 0)], true⟩ := by kernel_rfl
@[simp] theorem Tryz.ty78 : tyOf Tryz.prog 78 = some ⟨.struct [(0, 4), (1, 2), (2, 22), (3, 3), (4, 3)], 5, 40, [.lit (.bool false), .lit (.int .i64 0), .lit (.int .u16 0), .lit (.int .i64 0), .lit (.int .i64 0)], true⟩ := by kernel_rfl
@[simp] theorem Tryz.ty79 : tyOf Tryz.prog 79 = some ⟨.struct [(0, 4), (1, 2)], 2, 16, [.lit (.bool false), .lit (.int .i64 0)], true⟩ := by kernel_rfl
@[simp] theorem Tryz.ty80 : tyOf Tryz.prog 80 = some ⟨.struct [(0, 4), (1, 2)], 2, 16, [.lit (.bool false), .lit (.int .i64 0)], true⟩ := by kernel_rfl
@[simp] theorem Tryz.ty81 : tyOf Tryz.prog 81 = some ⟨.map 2 55, 1, 8, [.lit (.map none)], false⟩ := by kernel_rfl
@[simp] theorem Tryz.ty82 : tyOf Tryz.prog 82 = some ⟨.struct [(0, 75), (1, 76), (2, 78), (7, 80), (9, 81), (10, 3), (11, 3)], 12, 96, [.lit (.pointer none), .lit (.pointer none), .lit (.bool false), .lit (.int .i64 0), .lit (.int .u16 0), .lit (.int .i64 0), .lit (.int .i64 0), .lit (.bool false), .lit (.int .i64 0), .lit (.map none), .lit (.int .i64 0), .lit (.int .i64 0)], false⟩ := by kernel_rfl
@[simp] theorem Tryz.ty83 : tyOf Tryz.prog 83 = some ⟨.struct [(0, 75), (1, 76), (2, 78), (7, 80), (9, 81), (10, 3), (11, 3)], 12, 96, [.lit (.pointer none), .lit (.pointer none), .lit (.bool false), .lit (.int .i64 0), .lit (.int .u16 0), .lit (.int .i64 0), .lit (.int .i64 0), .lit (.bool false), .lit (.int .i64 0), .lit (.map none), .lit (.int .i64 0), .lit (.int .i64 0)], false⟩ := by kernel_rfl
@[simp] theorem Tryz.ty87 : tyOf Tryz.prog 87 = some ⟨.slice 114, 1, 24, [.sl [] .full], false⟩ := by kernel_rfl
@[simp] theorem Tryz.ty88 : tyOf Tryz.prog 88 = some ⟨.struct [(0, 87)], 1, 24, [.sl [] .full], false⟩ := by kernel_rfl
@[simp] theorem Tryz.ty89 : tyOf Tryz.prog 89 = some ⟨.struct [(0, 87)], 1, 24, [.sl [] .full], false⟩ := by kernel_rfl
@[simp] theorem Tryz.ty90 : tyOf Tryz.prog 90 = some ⟨.struct [(0, 4), (1, 4), (2, 3), (3, 3), (4, 4), (5, 3), (6, 3), (7, 4), (8, 3)], 9, 64, [.lit (.bool false), .lit (.bool false), .lit (.int .i64 0), .lit (.int .i64 0), .lit (.bool false), .lit (.int .i64 0), .lit (.int .i64 0), .lit (.bool false), .lit (.int .i64 0)], true⟩ := by kernel_rfl
@[simp] theorem Tryz.ty91 : tyOf Tryz.prog 91 = some ⟨.struct [(0, 4), (1, 4), (2, 3), (3, 3), (4, 4), (5, 3), (6, 3), (7, 4), (8, 3)], 9, 64, [.lit (.bool false), .lit (.bool false), .lit (.int .i64 0), .lit (.int .i64 0), .lit (.bool false), .lit (.int .i64 0), .lit (.int .i64 0), .lit (.bool false), .lit (.int .i64 0)], true⟩ := by kernel_rfl
@[simp] theorem Tryz.ty94 : tyOf Tryz.prog 94 = some ⟨.slice 5, 1, 24, [.sl [] .full], false⟩ := by kernel_rfl
@[simp] theorem Tryz.ty98 : tyOf Tryz.prog 98 = some ⟨.slice 102, 1, 24, [.sl [] .full], false⟩ := by kernel_rfl
@[simp] theorem Tryz.ty101 : tyOf Tryz.prog 101 = some ⟨.struct [(0, 2), (1, 9), (2, 3)], 3, 32, [.lit (.int .i64 0), .lit (.string ⟨⟨[]⟩⟩), .lit (.int .i64 0)], true⟩ := by kernel_rfl
@[simp] theorem Tryz.ty102 : tyOf Tryz.prog 102 = some ⟨.struct [(0, 2), (1, 9), (2, 3)], 3, 32, [.lit (.int .i64 0), .lit (.string ⟨⟨[]⟩⟩), .lit (.int .i64 0)], true⟩ := by kernel_rfl
@[simp] theorem Tryz.ty108 : tyOf Tryz.prog 108 = some ⟨.struct [(0, 2), (1, 9), (2, 3)], 3, 32, [.lit (.int .i64 0), .lit (.string ⟨⟨[]⟩⟩), .lit (.int .i64 0)], true⟩ := by kernel_rfl
@[simp] theorem Tryz.ty109 : tyOf Tryz.prog 109 = some ⟨.struct [(0, 2), (1, 63)], 12, 96, [.lit (.int .i64 0), .lit (.bool false), .lit (.int .u8 0), .lit (.int .u16 0), .lit (.int .u32 0), .lit (.int .u32 0), .sl [] .full, .lit (.bool false), .lit (.int .u16 0), .lit (.string ⟨⟨[]⟩⟩), .lit (.string ⟨⟨[]⟩⟩), .lit (.int .i64 0)], false⟩ := by kernel_rfl
@[simp] theorem Tryz.ty110 : tyOf Tryz.prog 110 = some ⟨.struct [(0, 2), (1, 63)], 12, 96, [.lit (.int .i64 0), .lit (.bool false), .lit (.int .u8 0), .lit (.int .u16 0), .lit (.int .u32 0), .lit (.int .u32 0), .sl [] .full, .lit (.bool false), .lit (.int .u16 0), .lit (.string ⟨⟨[]⟩⟩), .lit (.string ⟨⟨[]⟩⟩), .lit (.int .i64 0)], false⟩ := by kernel_rfl
@[simp] theorem Tryz.ty112 : tyOf Tryz.prog 112 = some ⟨.struct [(0, 2), (1, 2), (2, 4), (3, 4), (4, 4), (5, 9), (6, 3)], 7, 48, [.lit (.int .i64 0), .lit (.int .i64 0), .lit (.bool false), .lit (.bool false), .lit (.bool false), .lit (.string ⟨⟨[]⟩⟩), .lit (.int .i64 0)], true⟩ := by kernel_rfl
@[simp] theorem Tryz.ty113 : tyOf Tryz.prog 113 = some ⟨.struct [(0, 2), (1, 2), (2, 4), (3, 4), (4, 4), (5, 9), (6, 3)], 7, 48, [.lit (.int .i64 0), .lit (.int .i64 0), .lit (.bool false), .lit (.bool false), .lit (.bool false), .lit (.string ⟨⟨[]⟩⟩), .lit (.int .i64 0)], true⟩ := by kernel_rfl
@[simp] theorem Tryz.ty114 : tyOf Tryz.prog 114 = some ⟨.struct [(0, 2), (1, 2), (2, 4), (3, 4), (4, 4), (5, 9), (6, 3)], 7, 48, [.lit (.int .i64 0), .lit (.int .i64 0), .lit (.bool false), .lit (.bool false), .lit (.bool false), .lit (.string ⟨⟨[]⟩⟩), .lit (.int .i64 0)], true⟩ := by kernel_rfl
@[simp] theorem Tryz.ty123 : tyOf Tryz.prog 123 = some ⟨.map 2 102, 1, 8, [.lit (.map none)], false⟩ := by kernel_rfl
@[simp] theorem Tryz.ty124 : tyOf Tryz.prog 124 = some ⟨.struct [(0, 41), (2, 4), (3, 2), (4, 123), (5, 3)], 6, 48, [.lit (.int .i64 0), .lit (.int .i64 0), .lit (.bool false), .lit (.int .i64 0), .lit (.map none), .lit (.int .i64 0)], false⟩ := by kernel_rfl
@[simp] theorem Tryz.ty125 : tyOf Tryz.prog 125 = some ⟨.struct [(0, 41), (2, 4), (3, 2), (4, 123), (5, 3)], 6, 48, [.lit (.int .i64 0), .lit (.int .i64 0), .lit (.bool false), .lit (.int .i64 0), .lit (.map none), .lit (.int .i64 0)], false⟩ := by kernel_rfl
@[simp] theorem Tryz.ty130 : tyOf Tryz.prog 130 = some ⟨.ptr 132, 1, 8, [.lit (.pointer none)], false⟩ := by kernel_rfl
@[simp] theorem Tryz.ty131 : tyOf Tryz.prog 131 = some ⟨.struct [(0, 130), (1, 94)], 2, 32, [.lit (.pointer none), .sl [] .full], false⟩ := by kernel_rfl
@[simp] theorem Tryz.ty132 : tyOf Tryz.prog 132 = some ⟨.struct [(0, 130), (1, 94)], 2, 32, [.lit (.pointer none), .sl [] .full], false⟩ := by kernel_rfl
@[simp] theorem Tryz.ty133 : tyOf Tryz.prog 133 = some ⟨.struct [(0, 132)], 2, 32, [.lit (.pointer none), .sl [] .full], false⟩ := by kernel_rfl
@[simp] theorem Tryz.ty134 : tyOf Tryz.prog 134 = some ⟨.struct [(0, 132)], 2, 32, [.lit (.pointer none), .sl [] .full], false⟩ := by kernel_rfl
@[simp] theorem Tryz.ty135 : tyOf Tryz.prog 135 = some ⟨.ptr 134, 1, 8, [.lit (.pointer none)], false⟩ := by kernel_rfl
@[simp] theorem Tryz.ty139 : tyOf Tryz.prog 139 = some ⟨.int .u64, 1, 8, [.lit (.int .u64 0)], true⟩ := by kernel_rfl
@[simp] theorem Tryz.ty140 : tyOf Tryz.prog 140 = some ⟨.ptr 78, 1, 8, [.lit (.pointer none)], false⟩ := by kernel_rfl
@[simp] theorem Tryz.ty156 : tyOf Tryz.prog 156 = some ⟨.struct [(0, 43), (4, 89), (5, 3), (6, 3)], 7, 72, [.lit (.bool false), .lit (.int .i64 0), .lit (.int .i64 0), .lit (.int .i64 0), .sl [] .full, .lit (.int .i64 0), .lit (.int .i64 0)], false⟩ := by kernel_rfl
@[simp] theorem Tryz.ty157 : tyOf Tryz.prog 157 = some ⟨.struct [(0, 43), (4, 89), (5, 3), (6, 3)], 7, 72, [.lit (.bool false), .lit (.int .i64 0), .lit (.int .i64 0), .lit (.int .i64 0), .sl [] .full, .lit (.int .i64 0), .lit (.int .i64 0)], false⟩ := by kernel_rfl
@[simp] theorem Tryz.ty164 : tyOf Tryz.prog 164 = some ⟨.iface, 1, 16, [.lit .nilIface], false⟩ := by kernel_rfl
@[simp] theorem Tryz.ty165 : tyOf Tryz.prog 165 = some ⟨.iface, 1, 16, [.lit .nilIface], false⟩ := by kernel_rfl
@[simp] theorem Tryz.ty169 : tyOf Tryz.prog 169 = some ⟨.int .u64, 1, 8, [.lit (.int .u64 0)], true⟩ := by kernel_rfl
@[simp] theorem Tryz.ty181 : tyOf Tryz.prog 181 = some ⟨.struct [(0, 4), (1, 4), (2, 3), (3, 3), (4, 4), (5, 3), (6, 3), (7, 4), (8, 3)], 9, 64, [.lit (.bool false), .lit (.bool false), .lit (.int .i64 0), .lit (.int .i64 0), .lit (.bool false), .lit (.int .i64 0), .lit (.int .i64 0), .lit (.bool false), .lit (.int .i64 0)], true⟩ := by kernel_rfl
@[simp] theorem Tryz.ty189 : tyOf Tryz.prog 189 = some ⟨.ptr 5, 1, 8, [.lit (.pointer none)], false⟩ := by kernel_rfl
@[simp] theorem Tryz.ty190 : tyOf Tryz.prog 190 = some ⟨.slice 169, 1, 24, [.sl [] .full], false⟩ := by kernel_rfl
@[simp] theorem Tryz.ty193 : tyOf Tryz.prog 193 = some ⟨.ptr 80, 1, 8, [.lit (.pointer none)], false⟩ := by kernel_rfl
@[simp] theorem Tryz.ty195 : tyOf Tryz.prog 195 = some ⟨.ptr 212, 1, 8, [.lit (.pointer none)], false⟩ := by kernel_rfl
@[simp] theorem Tryz.ty199 : tyOf Tryz.prog 199 = some ⟨.struct [(0, 9), (1, 3)], 2, 24, [.lit (.string ⟨⟨[]⟩⟩), .lit (.int .i64 0)], true⟩ := by kernel_rfl
@[simp] theorem Tryz.ty200 : tyOf Tryz.prog 200 = some ⟨.struct [(0, 9), (1, 3)], 2, 24, [.lit (.string ⟨⟨[]⟩⟩), .lit (.int .i64 0)], true⟩ := by kernel_rfl
@[simp] theorem Tryz.ty211 : tyOf Tryz.prog 211 = some ⟨.struct [(0, 9), (1, 57)], 2, 24, [.lit (.string ⟨⟨[]⟩⟩), .lit (.int .i64 0)], true⟩ := by kernel_rfl
@[simp] theorem Tryz.ty212 : tyOf Tryz.prog 212 = some ⟨.struct [(0, 9), (1, 57)], 2, 24, [.lit (.string ⟨⟨[]⟩⟩), .lit (.int .i64 0)], true⟩ := by kernel_rfl
@[simp] theorem Tryz.ty214 : tyOf Tryz.prog 214 = some ⟨.ptr 91, 1, 8, [.lit (.pointer none)], false⟩ := by kernel_rfl
@[simp] theorem Tryz.ty220 : tyOf Tryz.prog 220 = some ⟨.int .i64, 1, 8, [.lit (.int .i64 0)], true⟩ := by kernel_rfl
@[simp] theorem Tryz.ty232 : tyOf Tryz.prog 232 = some ⟨.int .u64, 1, 8, [.lit (.int .u64 0)], true⟩ := by kernel_rfl
@[simp] theorem Tryz.ty236 : tyOf Tryz.prog 236 = some ⟨.ptr 3, 1, 8, [.lit (.pointer none)], false⟩ := by kernel_rfl
@[simp] theorem Tryz.ty238 : tyOf Tryz.prog 238 = some ⟨.ptr 232, 1, 8, [.lit (.pointer none)], false⟩ := by kernel_rfl
@[simp] theorem Tryz.ty242 : tyOf Tryz.prog 242 = some ⟨.arr 0 16, 0, 0, [], false⟩ := by kernel_rfl
@[simp] theorem Tryz.ty245 : tyOf Tryz.prog 245 = some ⟨.int .u8, 1, 1, [.lit (.int .u8 0)], true⟩ := by kernel_rfl
@[simp] theorem Tryz.ty246 : tyOf Tryz.prog 246 = some ⟨.int .u8, 1, 1, [.lit (.int .u8 0)], true⟩ := by kernel_rfl
@[simp] theorem Tryz.ty248 : tyOf Tryz.prog 248 = some ⟨.int .i32, 1, 4, [.lit (.int .i32 0)], true⟩ := by kernel_rfl
@[simp] theorem Tryz.ty249 : tyOf Tryz.prog 249 = some ⟨.int .i32, 1, 4, [.lit (.int .i32 0)], true⟩ := by kernel_rfl
end Go.Proofs

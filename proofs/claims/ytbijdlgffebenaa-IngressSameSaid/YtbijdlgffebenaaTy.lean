/- What the types of this program come to, as the layer of abstract values wants them: no condition. -/
import Derived.Test.YtbijdlgffebenaaProg
import Derived.Test.YtbijdlgffebenaaAb5
import Derived.KernelRfl
namespace Go.Proofs
open Go.Ab
noncomputable abbrev Try.ty : TyTab := tyOf Try.prog
theorem Try.tyOk : TyOk Try.prog Try.ty := ⟨fun _ _ h => h⟩
theorem Try.mixed : Try.prog.follows .mixedOrders = true := by kernel_rfl
@[simp] theorem Try.ty2 : tyOf Try.prog 2 = some ⟨.int .i64, 1, 8, [.lit (.int .i64 0)], true⟩ := by kernel_rfl
@[simp] theorem Try.ty3 : tyOf Try.prog 3 = some ⟨.int .i64, 1, 8, [.lit (.int .i64 0)], true⟩ := by kernel_rfl
@[simp] theorem Try.ty4 : tyOf Try.prog 4 = some ⟨.bool, 1, 1, [.lit (.bool false)], true⟩ := by kernel_rfl
@[simp] theorem Try.ty5 : tyOf Try.prog 5 = some ⟨.int .u8, 1, 1, [.lit (.int .u8 0)], true⟩ := by kernel_rfl
@[simp] theorem Try.ty6 : tyOf Try.prog 6 = some ⟨.int .u8, 1, 1, [.lit (.int .u8 0)], true⟩ := by kernel_rfl
@[simp] theorem Try.ty9 : tyOf Try.prog 9 = some ⟨.str, 1, 16, [.lit (.string ⟨⟨[]⟩⟩)], true⟩ := by kernel_rfl
@[simp] theorem Try.ty10 : tyOf Try.prog 10 = some ⟨.str, 1, 16, [.lit (.string ⟨⟨[]⟩⟩)], true⟩ := by kernel_rfl
@[simp] theorem Try.ty11 : tyOf Try.prog 11 = some ⟨.str, 1, 16, [.lit (.string ⟨⟨[]⟩⟩)], true⟩ := by kernel_rfl
@[simp] theorem Try.ty12 : tyOf Try.prog 12 = some ⟨.int .u64, 1, 8, [.lit (.int .u64 0)], true⟩ := by kernel_rfl
@[simp] theorem Try.ty15 : tyOf Try.prog 15 = some ⟨.ptr 171, 1, 8, [.lit (.pointer none)], false⟩ := by kernel_rfl
@[simp] theorem Try.ty16 : tyOf Try.prog 16 = some ⟨.ptr 174, 1, 8, [.lit (.pointer none)], false⟩ := by kernel_rfl
@[simp] theorem Try.ty17 : tyOf Try.prog 17 = some ⟨.ptr 181, 1, 8, [.lit (.pointer none)], false⟩ := by kernel_rfl
@[simp] theorem Try.ty18 : tyOf Try.prog 18 = some ⟨.struct [(0, 17)], 1, 8, [.lit (.pointer none)], false⟩ := by kernel_rfl
@[simp] theorem Try.ty19 : tyOf Try.prog 19 = some ⟨.struct [(0, 17)], 1, 8, [.lit (.pointer none)], false⟩ := by kernel_rfl
@[simp] theorem Try.ty20 : tyOf Try.prog 20 = some ⟨.iface, 1, 16, [.lit .nilIface], false⟩ := by kernel_rfl
@[simp] theorem Try.ty21 : tyOf Try.prog 21 = some ⟨.int .i32, 1, 4, [.lit (.int .i32 0)], true⟩ := by kernel_rfl
@[simp] theorem Try.ty22 : tyOf Try.prog 22 = some ⟨.int .u16, 1, 2, [.lit (.int .u16 0)], true⟩ := by kernel_rfl
@[simp] theorem Try.ty23 : tyOf Try.prog 23 = some ⟨.slice 3, 1, 24, [.sl [] .full], false⟩ := by kernel_rfl
@[simp] theorem Try.ty25 : tyOf Try.prog 25 = some ⟨.ptr 70, 1, 8, [.lit (.pointer none)], false⟩ := by kernel_rfl
@[simp] theorem Try.ty26 : tyOf Try.prog 26 = some ⟨.struct [(0, 4), (1, 2), (2, 2), (3, 3), (4, 3)], 5, 40, [.lit (.bool false), .lit (.int .i64 0), .lit (.int .i64 0), .lit (.int .i64 0), .lit (.int .i64 0)], true⟩ := by kernel_rfl
@[simp] theorem Try.ty27 : tyOf Try.prog 27 = some ⟨.struct [(0, 4), (1, 2), (2, 2), (3, 3), (4, 3)], 5, 40, [.lit (.bool false), .lit (.int .i64 0), .lit (.int .i64 0), .lit (.int .i64 0), .lit (.int .i64 0)], true⟩ := by kernel_rfl
@[simp] theorem Try.ty28 : tyOf Try.prog 28 = some ⟨.slice 182, 1, 24, [.sl [] .full], false⟩ := by kernel_rfl
@[simp] theorem Try.ty29 : tyOf Try.prog 29 = some ⟨.struct [(0, 3), (1, 3), (2, 4), (3, 2), (4, 28), (5, 3)], 6, 64, [.lit (.int .i64 0), .lit (.int .i64 0), .lit (.bool false), .lit (.int .i64 0), .sl [] .full, .lit (.int .i64 0)], false⟩ := by kernel_rfl
@[simp] theorem Try.ty30 : tyOf Try.prog 30 = some ⟨.struct [(0, 3), (1, 3), (2, 4), (3, 2), (4, 28), (5, 3)], 6, 64, [.lit (.int .i64 0), .lit (.int .i64 0), .lit (.bool false), .lit (.int .i64 0), .sl [] .full, .lit (.int .i64 0)], false⟩ := by kernel_rfl
@[simp] theorem Try.ty31 : tyOf Try.prog 31 = some ⟨.slice 183, 1, 24, [.sl [] .full], false⟩ := by kernel_rfl
@[simp] theorem Try.ty32 : tyOf Try.prog 32 = some ⟨.struct [(0, 4), (1, 3), (2, 3), (3, 3), (4, 31), (5, 3), (6, 3)], 7, 72, [.lit (.bool false), .lit (.int .i64 0), .lit (.int .i64 0), .lit (.int .i64 0), .sl [] .full, .lit (.int .i64 0), .lit (.int .i64 0)], false⟩ := by kernel_rfl
@[simp] theorem Try.ty33 : tyOf Try.prog 33 = some ⟨.struct [(0, 4), (1, 3), (2, 3), (3, 3), (4, 31), (5, 3), (6, 3)], 7, 72, [.lit (.bool false), .lit (.int .i64 0), .lit (.int .i64 0), .lit (.int .i64 0), .sl [] .full, .lit (.int .i64 0), .lit (.int .i64 0)], false⟩ := by kernel_rfl
@[simp] theorem Try.ty34 : tyOf Try.prog 34 = some ⟨.slice 186, 1, 24, [.sl [] .full], false⟩ := by kernel_rfl
@[simp] theorem Try.ty35 : tyOf Try.prog 35 = some ⟨.struct [(0, 27), (5, 2), (6, 30), (12, 33), (19, 34), (20, 3), (21, 3)], 22, 224, [.lit (.bool false), .lit (.int .i64 0), .lit (.int .i64 0), .lit (.int .i64 0), .lit (.int .i64 0), .lit (.int .i64 0), .lit (.int .i64 0), .lit (.int .i64 0), .lit (.bool false), .lit (.int .i64 0), .sl [] .full, .lit (.int .i64 0), .lit (.bool false), .lit (.int .i64 0), .lit (.int .i64 0), .lit (.int .i64 0), .sl [] .full, .lit (.int .i64 0), .lit (.int .i64 0), .sl [] .full, .lit (.int .i64 0), .lit (.int .i64 0)], false⟩ := by kernel_rfl
@[simp] theorem Try.ty36 : tyOf Try.prog 36 = some ⟨.struct [(0, 27), (5, 2), (6, 30), (12, 33), (19, 34), (20, 3), (21, 3)], 22, 224, [.lit (.bool false), .lit (.int .i64 0), .lit (.int .i64 0), .lit (.int .i64 0), .lit (.int .i64 0), .lit (.int .i64 0), .lit (.int .i64 0), .lit (.int .i64 0), .lit (.bool false), .lit (.int .i64 0), .sl [] .full, .lit (.int .i64 0), .lit (.bool false), .lit (.int .i64 0), .lit (.int .i64 0), .lit (.int .i64 0), .sl [] .full, .lit (.int .i64 0), .lit (.int .i64 0), .sl [] .full, .lit (.int .i64 0), .lit (.int .i64 0)], false⟩ := by kernel_rfl
@[simp] theorem Try.ty39 : tyOf Try.prog 39 = some ⟨.struct [(0, 3), (1, 3)], 2, 16, [.lit (.int .i64 0), .lit (.int .i64 0)], true⟩ := by kernel_rfl
@[simp] theorem Try.ty40 : tyOf Try.prog 40 = some ⟨.struct [(0, 3), (1, 3)], 2, 16, [.lit (.int .i64 0), .lit (.int .i64 0)], true⟩ := by kernel_rfl
@[simp] theorem Try.ty41 : tyOf Try.prog 41 = some ⟨.struct [(0, 4), (1, 3), (2, 3), (3, 3)], 4, 32, [.lit (.bool false), .lit (.int .i64 0), .lit (.int .i64 0), .lit (.int .i64 0)], true⟩ := by kernel_rfl
@[simp] theorem Try.ty42 : tyOf Try.prog 42 = some ⟨.struct [(0, 4), (1, 3), (2, 3), (3, 3)], 4, 32, [.lit (.bool false), .lit (.int .i64 0), .lit (.int .i64 0), .lit (.int .i64 0)], true⟩ := by kernel_rfl
@[simp] theorem Try.ty43 : tyOf Try.prog 43 = some ⟨.struct [(0, 40), (2, 42)], 6, 48, [.lit (.int .i64 0), .lit (.int .i64 0), .lit (.bool false), .lit (.int .i64 0), .lit (.int .i64 0), .lit (.int .i64 0)], true⟩ := by kernel_rfl
@[simp] theorem Try.ty44 : tyOf Try.prog 44 = some ⟨.struct [(0, 40), (2, 42)], 6, 48, [.lit (.int .i64 0), .lit (.int .i64 0), .lit (.bool false), .lit (.int .i64 0), .lit (.int .i64 0), .lit (.int .i64 0)], true⟩ := by kernel_rfl
@[simp] theorem Try.ty45 : tyOf Try.prog 45 = some ⟨.slice 54, 1, 24, [.sl [] .full], false⟩ := by kernel_rfl
@[simp] theorem Try.ty47 : tyOf Try.prog 47 = some ⟨.slice 58, 1, 24, [.sl [] .full], false⟩ := by kernel_rfl
@[simp] theorem Try.ty48 : tyOf Try.prog 48 = some ⟨.int .i64, 1, 8, [.lit (.int .i64 0)], true⟩ := by kernel_rfl
@[simp] theorem Try.ty51 : tyOf Try.prog 51 = some ⟨.int .u32, 1, 4, [.lit (.int .u32 0)], true⟩ := by kernel_rfl
@[simp] theorem Try.ty52 : tyOf Try.prog 52 = some ⟨.slice 51, 1, 24, [.sl [] .full], false⟩ := by kernel_rfl
@[simp] theorem Try.ty53 : tyOf Try.prog 53 = some ⟨.struct [(0, 4), (1, 5), (2, 22), (3, 51), (4, 51), (5, 52), (6, 4), (7, 22), (8, 9), (9, 9), (10, 3)], 11, 88, [.lit (.bool false), .lit (.int .u8 0), .lit (.int .u16 0), .lit (.int .u32 0), .lit (.int .u32 0), .sl [] .full, .lit (.bool false), .lit (.int .u16 0), .lit (.string ⟨⟨[]⟩⟩), .lit (.string ⟨⟨[]⟩⟩), .lit (.int .i64 0)], false⟩ := by kernel_rfl
@[simp] theorem Try.ty54 : tyOf Try.prog 54 = some ⟨.struct [(0, 4), (1, 5), (2, 22), (3, 51), (4, 51), (5, 52), (6, 4), (7, 22), (8, 9), (9, 9), (10, 3)], 11, 88, [.lit (.bool false), .lit (.int .u8 0), .lit (.int .u16 0), .lit (.int .u32 0), .lit (.int .u32 0), .sl [] .full, .lit (.bool false), .lit (.int .u16 0), .lit (.string ⟨⟨[]⟩⟩), .lit (.string ⟨⟨[]⟩⟩), .lit (.int .i64 0)], false⟩ := by kernel_rfl
@[simp] theorem Try.ty56 : tyOf Try.prog 56 = some ⟨.slice 60, 1, 24, [.sl [] .full], false⟩ := by kernel_rfl
@[simp] theorem Try.ty57 : tyOf Try.prog 57 = some ⟨.struct [(0, 56)], 1, 24, [.sl [] .full], false⟩ := by kernel_rfl
@[simp] theorem Try.ty58 : tyOf Try.prog 58 = some ⟨.struct [(0, 56)], 1, 24, [.sl [] .full], false⟩ := by kernel_rfl
@[simp] theorem Try.ty59 : tyOf Try.prog 59 = some ⟨.struct [(0, 2), (1, 2), (2, 4), (3, 4), (4, 4), (5, 9), (6, 3)], 7, 48, [.lit (.int .i64 0), .lit (.int .i64 0), .lit (.bool false), .lit (.bool false), .lit (.bool false), .lit (.string ⟨⟨[]⟩⟩), .lit (.int .i64 0)], true⟩ := by kernel_rfl
@[simp] theorem Try.ty60 : tyOf Try.prog 60 = some ⟨.struct [(0, 2), (1, 2), (2, 4), (3, 4), (4, 4), (5, 9), (6, 3)], 7, 48, [.lit (.int .i64 0), .lit (.int .i64 0), .lit (.bool false), .lit (.bool false), .lit (.bool false), .lit (.string ⟨⟨[]⟩⟩), .lit (.int .i64 0)], true⟩ := by kernel_rfl
@[simp] theorem Try.ty62 : tyOf Try.prog 62 = some ⟨.ptr 100, 1, 8, [.lit (.pointer none)], false⟩ := by kernel_rfl
@[simp] theorem Try.ty63 : tyOf Try.prog 63 = some ⟨.ptr 126, 1, 8, [.lit (.pointer none)], false⟩ := by kernel_rfl
@[simp] theorem Try.ty64 : tyOf Try.prog 64 = some ⟨.struct [(0, 4), (1, 2), (2, 22), (3, 3), (4, 3)], 5, 40, [.lit (.bool false), .lit (.int .i64 0), .lit (.int .u16 0), .lit (.int .i64 0), .lit (.int .i64 0)], true⟩ := by kernel_rfl
@[simp] theorem Try.ty65 : tyOf Try.prog 65 = some ⟨.struct [(0, 4), (1, 2), (2, 22), (3, 3), (4, 3)], 5, 40, [.lit (.bool false), .lit (.int .i64 0), .lit (.int .u16 0), .lit (.int .i64 0), .lit (.int .i64 0)], true⟩ := by kernel_rfl
@[simp] theorem Try.ty66 : tyOf Try.prog 66 = some ⟨.struct [(0, 4), (1, 2)], 2, 16, [.lit (.bool false), .lit (.int .i64 0)], true⟩ := by kernel_rfl
@[simp] theorem Try.ty67 : tyOf Try.prog 67 = some ⟨.struct [(0, 4), (1, 2)], 2, 16, [.lit (.bool false), .lit (.int .i64 0)], true⟩ := by kernel_rfl
@[simp] theorem Try.ty68 : tyOf Try.prog 68 = some ⟨.map 2 54, 1, 8, [.lit (.map none)], false⟩ := by kernel_rfl
@[simp] theorem Try.ty69 : tyOf Try.prog 69 = some ⟨.struct [(0, 62), (1, 63), (2, 65), (7, 67), (9, 68), (10, 3), (11, 3)], 12, 96, [.lit (.pointer none), .lit (.pointer none), .lit (.bool false), .lit (.int .i64 0), .lit (.int .u16 0), .lit (.int .i64 0), .lit (.int .i64 0), .lit (.bool false), .lit (.int .i64 0), .lit (.map none), .lit (.int .i64 0), .lit (.int .i64 0)], false⟩ := by kernel_rfl
@[simp] theorem Try.ty70 : tyOf Try.prog 70 = some ⟨.struct [(0, 62), (1, 63), (2, 65), (7, 67), (9, 68), (10, 3), (11, 3)], 12, 96, [.lit (.pointer none), .lit (.pointer none), .lit (.bool false), .lit (.int .i64 0), .lit (.int .u16 0), .lit (.int .i64 0), .lit (.int .i64 0), .lit (.bool false), .lit (.int .i64 0), .lit (.map none), .lit (.int .i64 0), .lit (.int .i64 0)], false⟩ := by kernel_rfl
@[simp] theorem Try.ty72 : tyOf Try.prog 72 = some ⟨.slice 9, 1, 24, [.sl [] .full], false⟩ := by kernel_rfl
@[simp] theorem Try.ty82 : tyOf Try.prog 82 = some ⟨.map 3 3, 1, 8, [.lit (.map none)], false⟩ := by kernel_rfl
@[simp] theorem Try.ty84 : tyOf Try.prog 84 = some ⟨.struct [(0, 4), (1, 4), (2, 3), (3, 3), (4, 4), (5, 3), (6, 3), (7, 4), (8, 3)], 9, 64, [.lit (.bool false), .lit (.bool false), .lit (.int .i64 0), .lit (.int .i64 0), .lit (.bool false), .lit (.int .i64 0), .lit (.int .i64 0), .lit (.bool false), .lit (.int .i64 0)], true⟩ := by kernel_rfl
@[simp] theorem Try.ty85 : tyOf Try.prog 85 = some ⟨.struct [(0, 4), (1, 4), (2, 3), (3, 3), (4, 4), (5, 3), (6, 3), (7, 4), (8, 3)], 9, 64, [.lit (.bool false), .lit (.bool false), .lit (.int .i64 0), .lit (.int .i64 0), .lit (.bool false), .lit (.int .i64 0), .lit (.int .i64 0), .lit (.bool false), .lit (.int .i64 0)], true⟩ := by kernel_rfl
@[simp] theorem Try.ty88 : tyOf Try.prog 88 = some ⟨.slice 5, 1, 24, [.sl [] .full], false⟩ := by kernel_rfl
@[simp] theorem Try.ty92 : tyOf Try.prog 92 = some ⟨.slice 96, 1, 24, [.sl [] .full], false⟩ := by kernel_rfl
@[simp] theorem Try.ty95 : tyOf Try.prog 95 = some ⟨.struct [(0, 2), (1, 9), (2, 3)], 3, 32, [.lit (.int .i64 0), .lit (.string ⟨⟨[]⟩⟩), .lit (.int .i64 0)], true⟩ := by kernel_rfl
@[simp] theorem Try.ty96 : tyOf Try.prog 96 = some ⟨.struct [(0, 2), (1, 9), (2, 3)], 3, 32, [.lit (.int .i64 0), .lit (.string ⟨⟨[]⟩⟩), .lit (.int .i64 0)], true⟩ := by kernel_rfl
@[simp] theorem Try.ty98 : tyOf Try.prog 98 = some ⟨.map 2 96, 1, 8, [.lit (.map none)], false⟩ := by kernel_rfl
@[simp] theorem Try.ty99 : tyOf Try.prog 99 = some ⟨.struct [(0, 40), (2, 4), (3, 2), (4, 98), (5, 3)], 6, 48, [.lit (.int .i64 0), .lit (.int .i64 0), .lit (.bool false), .lit (.int .i64 0), .lit (.map none), .lit (.int .i64 0)], false⟩ := by kernel_rfl
@[simp] theorem Try.ty100 : tyOf Try.prog 100 = some ⟨.struct [(0, 40), (2, 4), (3, 2), (4, 98), (5, 3)], 6, 48, [.lit (.int .i64 0), .lit (.int .i64 0), .lit (.bool false), .lit (.int .i64 0), .lit (.map none), .lit (.int .i64 0)], false⟩ := by kernel_rfl
@[simp] theorem Try.ty107 : tyOf Try.prog 107 = some ⟨.ptr 109, 1, 8, [.lit (.pointer none)], false⟩ := by kernel_rfl
@[simp] theorem Try.ty108 : tyOf Try.prog 108 = some ⟨.struct [(0, 107), (1, 88)], 2, 32, [.lit (.pointer none), .sl [] .full], false⟩ := by kernel_rfl
@[simp] theorem Try.ty109 : tyOf Try.prog 109 = some ⟨.struct [(0, 107), (1, 88)], 2, 32, [.lit (.pointer none), .sl [] .full], false⟩ := by kernel_rfl
@[simp] theorem Try.ty110 : tyOf Try.prog 110 = some ⟨.struct [(0, 109)], 2, 32, [.lit (.pointer none), .sl [] .full], false⟩ := by kernel_rfl
@[simp] theorem Try.ty111 : tyOf Try.prog 111 = some ⟨.struct [(0, 109)], 2, 32, [.lit (.pointer none), .sl [] .full], false⟩ := by kernel_rfl
@[simp] theorem Try.ty112 : tyOf Try.prog 112 = some ⟨.ptr 111, 1, 8, [.lit (.pointer none)], false⟩ := by kernel_rfl
@[simp] theorem Try.ty116 : tyOf Try.prog 116 = some ⟨.int .u64, 1, 8, [.lit (.int .u64 0)], true⟩ := by kernel_rfl
@[simp] theorem Try.ty117 : tyOf Try.prog 117 = some ⟨.ptr 65, 1, 8, [.lit (.pointer none)], false⟩ := by kernel_rfl
@[simp] theorem Try.ty125 : tyOf Try.prog 125 = some ⟨.struct [(0, 42), (4, 58), (5, 3), (6, 3)], 7, 72, [.lit (.bool false), .lit (.int .i64 0), .lit (.int .i64 0), .lit (.int .i64 0), .sl [] .full, .lit (.int .i64 0), .lit (.int .i64 0)], false⟩ := by kernel_rfl
@[simp] theorem Try.ty126 : tyOf Try.prog 126 = some ⟨.struct [(0, 42), (4, 58), (5, 3), (6, 3)], 7, 72, [.lit (.bool false), .lit (.int .i64 0), .lit (.int .i64 0), .lit (.int .i64 0), .sl [] .full, .lit (.int .i64 0), .lit (.int .i64 0)], false⟩ := by kernel_rfl
@[simp] theorem Try.ty128 : tyOf Try.prog 128 = some ⟨.iface, 1, 16, [.lit .nilIface], false⟩ := by kernel_rfl
@[simp] theorem Try.ty129 : tyOf Try.prog 129 = some ⟨.iface, 1, 16, [.lit .nilIface], false⟩ := by kernel_rfl
@[simp] theorem Try.ty132 : tyOf Try.prog 132 = some ⟨.slice 22, 1, 24, [.sl [] .full], false⟩ := by kernel_rfl
@[simp] theorem Try.ty134 : tyOf Try.prog 134 = some ⟨.int .u64, 1, 8, [.lit (.int .u64 0)], true⟩ := by kernel_rfl
@[simp] theorem Try.ty143 : tyOf Try.prog 143 = some ⟨.slice 2, 1, 24, [.sl [] .full], false⟩ := by kernel_rfl
@[simp] theorem Try.ty148 : tyOf Try.prog 148 = some ⟨.ptr 5, 1, 8, [.lit (.pointer none)], false⟩ := by kernel_rfl
@[simp] theorem Try.ty149 : tyOf Try.prog 149 = some ⟨.slice 134, 1, 24, [.sl [] .full], false⟩ := by kernel_rfl
@[simp] theorem Try.ty152 : tyOf Try.prog 152 = some ⟨.ptr 67, 1, 8, [.lit (.pointer none)], false⟩ := by kernel_rfl
@[simp] theorem Try.ty154 : tyOf Try.prog 154 = some ⟨.ptr 164, 1, 8, [.lit (.pointer none)], false⟩ := by kernel_rfl
@[simp] theorem Try.ty163 : tyOf Try.prog 163 = some ⟨.struct [(0, 9), (1, 48)], 2, 24, [.lit (.string ⟨⟨[]⟩⟩), .lit (.int .i64 0)], true⟩ := by kernel_rfl
@[simp] theorem Try.ty164 : tyOf Try.prog 164 = some ⟨.struct [(0, 9), (1, 48)], 2, 24, [.lit (.string ⟨⟨[]⟩⟩), .lit (.int .i64 0)], true⟩ := by kernel_rfl
@[simp] theorem Try.ty166 : tyOf Try.prog 166 = some ⟨.ptr 85, 1, 8, [.lit (.pointer none)], false⟩ := by kernel_rfl
@[simp] theorem Try.ty172 : tyOf Try.prog 172 = some ⟨.arr 0 16, 0, 0, [], false⟩ := by kernel_rfl
@[simp] theorem Try.ty175 : tyOf Try.prog 175 = some ⟨.int .u8, 1, 1, [.lit (.int .u8 0)], true⟩ := by kernel_rfl
@[simp] theorem Try.ty176 : tyOf Try.prog 176 = some ⟨.int .u8, 1, 1, [.lit (.int .u8 0)], true⟩ := by kernel_rfl
@[simp] theorem Try.ty178 : tyOf Try.prog 178 = some ⟨.int .i32, 1, 4, [.lit (.int .i32 0)], true⟩ := by kernel_rfl
@[simp] theorem Try.ty179 : tyOf Try.prog 179 = some ⟨.int .i32, 1, 4, [.lit (.int .i32 0)], true⟩ := by kernel_rfl
@[simp] theorem Try.ty182 : tyOf Try.prog 182 = some ⟨.struct [(0, 2), (1, 9), (2, 3)], 3, 32, [.lit (.int .i64 0), .lit (.string ⟨⟨[]⟩⟩), .lit (.int .i64 0)], true⟩ := by kernel_rfl
@[simp] theorem Try.ty183 : tyOf Try.prog 183 = some ⟨.struct [(0, 2), (1, 2), (2, 4), (3, 4), (4, 4), (5, 9), (6, 3)], 7, 48, [.lit (.int .i64 0), .lit (.int .i64 0), .lit (.bool false), .lit (.bool false), .lit (.bool false), .lit (.string ⟨⟨[]⟩⟩), .lit (.int .i64 0)], true⟩ := by kernel_rfl
@[simp] theorem Try.ty184 : tyOf Try.prog 184 = some ⟨.struct [(0, 4), (1, 5), (2, 22), (3, 51), (4, 51), (5, 52), (6, 4), (7, 22), (8, 9), (9, 9), (10, 3)], 11, 88, [.lit (.bool false), .lit (.int .u8 0), .lit (.int .u16 0), .lit (.int .u32 0), .lit (.int .u32 0), .sl [] .full, .lit (.bool false), .lit (.int .u16 0), .lit (.string ⟨⟨[]⟩⟩), .lit (.string ⟨⟨[]⟩⟩), .lit (.int .i64 0)], false⟩ := by kernel_rfl
@[simp] theorem Try.ty185 : tyOf Try.prog 185 = some ⟨.struct [(0, 2), (1, 184)], 12, 96, [.lit (.int .i64 0), .lit (.bool false), .lit (.int .u8 0), .lit (.int .u16 0), .lit (.int .u32 0), .lit (.int .u32 0), .sl [] .full, .lit (.bool false), .lit (.int .u16 0), .lit (.string ⟨⟨[]⟩⟩), .lit (.string ⟨⟨[]⟩⟩), .lit (.int .i64 0)], false⟩ := by kernel_rfl
@[simp] theorem Try.ty186 : tyOf Try.prog 186 = some ⟨.struct [(0, 2), (1, 184)], 12, 96, [.lit (.int .i64 0), .lit (.bool false), .lit (.int .u8 0), .lit (.int .u16 0), .lit (.int .u32 0), .lit (.int .u32 0), .sl [] .full, .lit (.bool false), .lit (.int .u16 0), .lit (.string ⟨⟨[]⟩⟩), .lit (.string ⟨⟨[]⟩⟩), .lit (.int .i64 0)], false⟩ := by kernel_rfl
end Go.Proofs

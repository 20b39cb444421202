/- What the types of this program come to, as the layer of abstract values wants them: no condition. -/
import Derived.Test.YtnoeflijefijcaaProg
import Derived.Test.YtnoeflijefijcaaAb7
import Derived.KernelRfl
namespace Go.Proofs
open Go.Ab
noncomputable abbrev Try.ty : TyTab := tyOf Try.prog
theorem Try.tyOk : TyOk Try.prog Try.ty := ⟨fun _ _ h => h⟩
theorem Try.mixed : Try.prog.follows .mixedOrders = true := by kernel_rfl
@[simp] theorem Try.ty2 : tyOf Try.prog 2 = some ⟨.int .i64, 1, 8, [.lit (.int .i64 0)], true⟩ := by kernel_rfl
@[simp] theorem Try.ty3 : tyOf Try.prog 3 = some ⟨.int .i64, 1, 8, [.lit (.int .i64 0)], true⟩ := by kernel_rfl
@[simp] theorem Try.ty4 : tyOf Try.prog 4 = some ⟨.bool, 1, 1, [.lit (.bool false)], true⟩ := by kernel_rfl
@[simp] theorem Try.ty5 : tyOf Try.prog 5 = some ⟨.int .u8, 1, 1, [.lit (.int .u8 0)], true⟩ := by kernel_rfl
@[simp] theorem Try.ty6 : tyOf Try.prog 6 = some ⟨.int .u8, 1, 1, [.lit (.int .u8 0)], true⟩ := by kernel_rfl
@[simp] theorem Try.ty9 : tyOf Try.prog 9 = some ⟨.str, 1, 16, [.lit (.string ⟨⟨[]⟩⟩)], true⟩ := by kernel_rfl
@[simp] theorem Try.ty10 : tyOf Try.prog 10 = some ⟨.str, 1, 16, [.lit (.string ⟨⟨[]⟩⟩)], true⟩ := by kernel_rfl
@[simp] theorem Try.ty11 : tyOf Try.prog 11 = some ⟨.str, 1, 16, [.lit (.string ⟨⟨[]⟩⟩)], true⟩ := by kernel_rfl
@[simp] theorem Try.ty12 : tyOf Try.prog 12 = some ⟨.int .u64, 1, 8, [.lit (.int .u64 0)], true⟩ := by kernel_rfl
@[simp] theorem Try.ty15 : tyOf Try.prog 15 = some ⟨.ptr 182, 1, 8, [.lit (.pointer none)], false⟩ := by kernel_rfl
@[simp] theorem Try.ty16 : tyOf Try.prog 16 = some ⟨.ptr 185, 1, 8, [.lit (.pointer none)], false⟩ := by kernel_rfl
@[simp] theorem Try.ty17 : tyOf Try.prog 17 = some ⟨.ptr 193, 1, 8, [.lit (.pointer none)], false⟩ := by kernel_rfl
@[simp] theorem Try.ty18 : tyOf Try.prog 18 = some ⟨.struct [(0, 17)], 1, 8, [.lit (.pointer none)], false⟩ := by kernel_rfl
@[simp] theorem Try.ty19 : tyOf Try.prog 19 = some ⟨.struct [(0, 17)], 1, 8, [.lit (.pointer none)], false⟩ := by kernel_rfl
@[simp] theorem Try.ty20 : tyOf Try.prog 20 = some ⟨.iface, 1, 16, [.lit .nilIface], false⟩ := by kernel_rfl
@[simp] theorem Try.ty21 : tyOf Try.prog 21 = some ⟨.int .i32, 1, 4, [.lit (.int .i32 0)], true⟩ := by kernel_rfl
@[simp] theorem Try.ty22 : tyOf Try.prog 22 = some ⟨.struct [(0, 3), (1, 3), (2, 3), (3, 3), (4, 3)], 5, 40, [.lit (.int .i64 0), .lit (.int .i64 0), .lit (.int .i64 0), .lit (.int .i64 0), .lit (.int .i64 0)], true⟩ := by kernel_rfl
@[simp] theorem Try.ty23 : tyOf Try.prog 23 = some ⟨.struct [(0, 3), (1, 3), (2, 3), (3, 3), (4, 3)], 5, 40, [.lit (.int .i64 0), .lit (.int .i64 0), .lit (.int .i64 0), .lit (.int .i64 0), .lit (.int .i64 0)], true⟩ := by kernel_rfl
@[simp] theorem Try.ty24 : tyOf Try.prog 24 = some ⟨.ptr 72, 1, 8, [.lit (.pointer none)], false⟩ := by kernel_rfl
@[simp] theorem Try.ty25 : tyOf Try.prog 25 = some ⟨.int .i64, 1, 8, [.lit (.int .i64 0)], true⟩ := by kernel_rfl
@[simp] theorem Try.ty33 : tyOf Try.prog 33 = some ⟨.slice 55, 1, 24, [.sl [] .full], false⟩ := by kernel_rfl
@[simp] theorem Try.ty34 : tyOf Try.prog 34 = some ⟨.slice 50, 1, 24, [.sl [] .full], false⟩ := by kernel_rfl
@[simp] theorem Try.ty35 : tyOf Try.prog 35 = some ⟨.slice 145, 1, 24, [.sl [] .full], false⟩ := by kernel_rfl
@[simp] theorem Try.ty36 : tyOf Try.prog 36 = some ⟨.struct [(0, 3), (1, 35), (2, 3), (3, 4)], 4, 48, [.lit (.int .i64 0), .sl [] .full, .lit (.int .i64 0), .lit (.bool false)], false⟩ := by kernel_rfl
@[simp] theorem Try.ty37 : tyOf Try.prog 37 = some ⟨.struct [(0, 3), (1, 35), (2, 3), (3, 4)], 4, 48, [.lit (.int .i64 0), .sl [] .full, .lit (.int .i64 0), .lit (.bool false)], false⟩ := by kernel_rfl
@[simp] theorem Try.ty38 : tyOf Try.prog 38 = some ⟨.struct [(0, 3), (1, 3), (2, 3), (3, 3), (4, 3), (5, 34), (6, 37), (10, 3), (11, 3)], 12, 128, [.lit (.int .i64 0), .lit (.int .i64 0), .lit (.int .i64 0), .lit (.int .i64 0), .lit (.int .i64 0), .sl [] .full, .lit (.int .i64 0), .sl [] .full, .lit (.int .i64 0), .lit (.bool false), .lit (.int .i64 0), .lit (.int .i64 0)], false⟩ := by kernel_rfl
@[simp] theorem Try.ty39 : tyOf Try.prog 39 = some ⟨.struct [(0, 3), (1, 3), (2, 3), (3, 3), (4, 3), (5, 34), (6, 37), (10, 3), (11, 3)], 12, 128, [.lit (.int .i64 0), .lit (.int .i64 0), .lit (.int .i64 0), .lit (.int .i64 0), .lit (.int .i64 0), .sl [] .full, .lit (.int .i64 0), .sl [] .full, .lit (.int .i64 0), .lit (.bool false), .lit (.int .i64 0), .lit (.int .i64 0)], false⟩ := by kernel_rfl
@[simp] theorem Try.ty40 : tyOf Try.prog 40 = some ⟨.struct [(0, 24), (1, 39), (13, 3), (14, 3)], 15, 152, [.lit (.pointer none), .lit (.int .i64 0), .lit (.int .i64 0), .lit (.int .i64 0), .lit (.int .i64 0), .lit (.int .i64 0), .sl [] .full, .lit (.int .i64 0), .sl [] .full, .lit (.int .i64 0), .lit (.bool false), .lit (.int .i64 0), .lit (.int .i64 0), .lit (.int .i64 0), .lit (.int .i64 0)], false⟩ := by kernel_rfl
@[simp] theorem Try.ty41 : tyOf Try.prog 41 = some ⟨.struct [(0, 24), (1, 39), (13, 3), (14, 3)], 15, 152, [.lit (.pointer none), .lit (.int .i64 0), .lit (.int .i64 0), .lit (.int .i64 0), .lit (.int .i64 0), .lit (.int .i64 0), .sl [] .full, .lit (.int .i64 0), .sl [] .full, .lit (.int .i64 0), .lit (.bool false), .lit (.int .i64 0), .lit (.int .i64 0), .lit (.int .i64 0), .lit (.int .i64 0)], false⟩ := by kernel_rfl
@[simp] theorem Try.ty45 : tyOf Try.prog 45 = some ⟨.map 3 3, 1, 8, [.lit (.map none)], false⟩ := by kernel_rfl
@[simp] theorem Try.ty46 : tyOf Try.prog 46 = some ⟨.slice 57, 1, 24, [.sl [] .full], false⟩ := by kernel_rfl
@[simp] theorem Try.ty47 : tyOf Try.prog 47 = some ⟨.struct [(0, 3), (1, 3), (2, 46), (3, 4)], 4, 48, [.lit (.int .i64 0), .lit (.int .i64 0), .sl [] .full, .lit (.bool false)], false⟩ := by kernel_rfl
@[simp] theorem Try.ty48 : tyOf Try.prog 48 = some ⟨.struct [(0, 3), (1, 3), (2, 46), (3, 4)], 4, 48, [.lit (.int .i64 0), .lit (.int .i64 0), .sl [] .full, .lit (.bool false)], false⟩ := by kernel_rfl
@[simp] theorem Try.ty49 : tyOf Try.prog 49 = some ⟨.struct [(0, 3), (1, 4), (2, 48)], 6, 64, [.lit (.int .i64 0), .lit (.bool false), .lit (.int .i64 0), .lit (.int .i64 0), .sl [] .full, .lit (.bool false)], false⟩ := by kernel_rfl
@[simp] theorem Try.ty50 : tyOf Try.prog 50 = some ⟨.struct [(0, 3), (1, 4), (2, 48)], 6, 64, [.lit (.int .i64 0), .lit (.bool false), .lit (.int .i64 0), .lit (.int .i64 0), .sl [] .full, .lit (.bool false)], false⟩ := by kernel_rfl
@[simp] theorem Try.ty51 : tyOf Try.prog 51 = some ⟨.slice 59, 1, 24, [.sl [] .full], false⟩ := by kernel_rfl
@[simp] theorem Try.ty54 : tyOf Try.prog 54 = some ⟨.struct [(0, 3), (1, 3), (2, 3), (3, 4), (4, 4)], 5, 32, [.lit (.int .i64 0), .lit (.int .i64 0), .lit (.int .i64 0), .lit (.bool false), .lit (.bool false)], true⟩ := by kernel_rfl
@[simp] theorem Try.ty55 : tyOf Try.prog 55 = some ⟨.struct [(0, 3), (1, 3), (2, 3), (3, 4), (4, 4)], 5, 32, [.lit (.int .i64 0), .lit (.int .i64 0), .lit (.int .i64 0), .lit (.bool false), .lit (.bool false)], true⟩ := by kernel_rfl
@[simp] theorem Try.ty56 : tyOf Try.prog 56 = some ⟨.struct [(0, 3), (1, 3), (2, 3), (3, 4)], 4, 32, [.lit (.int .i64 0), .lit (.int .i64 0), .lit (.int .i64 0), .lit (.bool false)], true⟩ := by kernel_rfl
@[simp] theorem Try.ty57 : tyOf Try.prog 57 = some ⟨.struct [(0, 3), (1, 3), (2, 3), (3, 4)], 4, 32, [.lit (.int .i64 0), .lit (.int .i64 0), .lit (.int .i64 0), .lit (.bool false)], true⟩ := by kernel_rfl
@[simp] theorem Try.ty58 : tyOf Try.prog 58 = some ⟨.struct [(0, 3), (1, 57)], 5, 40, [.lit (.int .i64 0), .lit (.int .i64 0), .lit (.int .i64 0), .lit (.int .i64 0), .lit (.bool false)], true⟩ := by kernel_rfl
@[simp] theorem Try.ty59 : tyOf Try.prog 59 = some ⟨.struct [(0, 3), (1, 57)], 5, 40, [.lit (.int .i64 0), .lit (.int .i64 0), .lit (.int .i64 0), .lit (.int .i64 0), .lit (.bool false)], true⟩ := by kernel_rfl
@[simp] theorem Try.ty64 : tyOf Try.prog 64 = some ⟨.slice 79, 1, 24, [.sl [] .full], false⟩ := by kernel_rfl
@[simp] theorem Try.ty67 : tyOf Try.prog 67 = some ⟨.ptr 105, 1, 8, [.lit (.pointer none)], false⟩ := by kernel_rfl
@[simp] theorem Try.ty70 : tyOf Try.prog 70 = some ⟨.map 3 82, 1, 8, [.lit (.map none)], false⟩ := by kernel_rfl
@[simp] theorem Try.ty71 : tyOf Try.prog 71 = some ⟨.struct [(0, 23), (5, 70), (6, 67), (7, 3), (8, 3)], 9, 72, [.lit (.int .i64 0), .lit (.int .i64 0), .lit (.int .i64 0), .lit (.int .i64 0), .lit (.int .i64 0), .lit (.map none), .lit (.pointer none), .lit (.int .i64 0), .lit (.int .i64 0)], false⟩ := by kernel_rfl
@[simp] theorem Try.ty72 : tyOf Try.prog 72 = some ⟨.struct [(0, 23), (5, 70), (6, 67), (7, 3), (8, 3)], 9, 72, [.lit (.int .i64 0), .lit (.int .i64 0), .lit (.int .i64 0), .lit (.int .i64 0), .lit (.int .i64 0), .lit (.map none), .lit (.pointer none), .lit (.int .i64 0), .lit (.int .i64 0)], false⟩ := by kernel_rfl
@[simp] theorem Try.ty75 : tyOf Try.prog 75 = some ⟨.struct [(0, 3), (1, 3), (2, 3), (3, 4)], 4, 32, [.lit (.int .i64 0), .lit (.int .i64 0), .lit (.int .i64 0), .lit (.bool false)], true⟩ := by kernel_rfl
@[simp] theorem Try.ty78 : tyOf Try.prog 78 = some ⟨.struct [(0, 3), (1, 75)], 5, 40, [.lit (.int .i64 0), .lit (.int .i64 0), .lit (.int .i64 0), .lit (.int .i64 0), .lit (.bool false)], true⟩ := by kernel_rfl
@[simp] theorem Try.ty79 : tyOf Try.prog 79 = some ⟨.struct [(0, 3), (1, 75)], 5, 40, [.lit (.int .i64 0), .lit (.int .i64 0), .lit (.int .i64 0), .lit (.int .i64 0), .lit (.bool false)], true⟩ := by kernel_rfl
@[simp] theorem Try.ty80 : tyOf Try.prog 80 = some ⟨.ptr 113, 1, 8, [.lit (.pointer none)], false⟩ := by kernel_rfl
@[simp] theorem Try.ty81 : tyOf Try.prog 81 = some ⟨.struct [(0, 80), (1, 4)], 2, 16, [.lit (.pointer none), .lit (.bool false)], false⟩ := by kernel_rfl
@[simp] theorem Try.ty82 : tyOf Try.prog 82 = some ⟨.struct [(0, 80), (1, 4)], 2, 16, [.lit (.pointer none), .lit (.bool false)], false⟩ := by kernel_rfl
@[simp] theorem Try.ty87 : tyOf Try.prog 87 = some ⟨.int .u64, 1, 8, [.lit (.int .u64 0)], true⟩ := by kernel_rfl
@[simp] theorem Try.ty95 : tyOf Try.prog 95 = some ⟨.slice 3, 1, 24, [.sl [] .full], false⟩ := by kernel_rfl
@[simp] theorem Try.ty101 : tyOf Try.prog 101 = some ⟨.slice 75, 1, 24, [.sl [] .full], false⟩ := by kernel_rfl
@[simp] theorem Try.ty104 : tyOf Try.prog 104 = some ⟨.struct [(0, 3), (1, 45), (2, 45), (3, 3), (4, 4)], 5, 40, [.lit (.int .i64 0), .lit (.map none), .lit (.map none), .lit (.int .i64 0), .lit (.bool false)], false⟩ := by kernel_rfl
@[simp] theorem Try.ty105 : tyOf Try.prog 105 = some ⟨.struct [(0, 3), (1, 45), (2, 45), (3, 3), (4, 4)], 5, 40, [.lit (.int .i64 0), .lit (.map none), .lit (.map none), .lit (.int .i64 0), .lit (.bool false)], false⟩ := by kernel_rfl
@[simp] theorem Try.ty112 : tyOf Try.prog 112 = some ⟨.struct [(0, 3), (1, 3), (2, 101), (3, 3), (4, 4)], 5, 56, [.lit (.int .i64 0), .lit (.int .i64 0), .sl [] .full, .lit (.int .i64 0), .lit (.bool false)], false⟩ := by kernel_rfl
@[simp] theorem Try.ty113 : tyOf Try.prog 113 = some ⟨.struct [(0, 3), (1, 3), (2, 101), (3, 3), (4, 4)], 5, 56, [.lit (.int .i64 0), .lit (.int .i64 0), .sl [] .full, .lit (.int .i64 0), .lit (.bool false)], false⟩ := by kernel_rfl
@[simp] theorem Try.ty133 : tyOf Try.prog 133 = some ⟨.slice 135, 1, 24, [.sl [] .full], false⟩ := by kernel_rfl
@[simp] theorem Try.ty134 : tyOf Try.prog 134 = some ⟨.struct [(0, 3), (1, 3)], 2, 16, [.lit (.int .i64 0), .lit (.int .i64 0)], true⟩ := by kernel_rfl
@[simp] theorem Try.ty135 : tyOf Try.prog 135 = some ⟨.struct [(0, 3), (1, 3)], 2, 16, [.lit (.int .i64 0), .lit (.int .i64 0)], true⟩ := by kernel_rfl
@[simp] theorem Try.ty139 : tyOf Try.prog 139 = some ⟨.slice 140, 1, 24, [.sl [] .full], false⟩ := by kernel_rfl
@[simp] theorem Try.ty140 : tyOf Try.prog 140 = some ⟨.struct [(0, 3), (1, 3)], 2, 16, [.lit (.int .i64 0), .lit (.int .i64 0)], true⟩ := by kernel_rfl
@[simp] theorem Try.ty144 : tyOf Try.prog 144 = some ⟨.struct [(0, 3), (1, 3), (2, 3)], 3, 24, [.lit (.int .i64 0), .lit (.int .i64 0), .lit (.int .i64 0)], true⟩ := by kernel_rfl
@[simp] theorem Try.ty145 : tyOf Try.prog 145 = some ⟨.struct [(0, 3), (1, 3), (2, 3)], 3, 24, [.lit (.int .i64 0), .lit (.int .i64 0), .lit (.int .i64 0)], true⟩ := by kernel_rfl
@[simp] theorem Try.ty160 : tyOf Try.prog 160 = some ⟨.int .i64, 1, 8, [.lit (.int .i64 0)], true⟩ := by kernel_rfl
@[simp] theorem Try.ty168 : tyOf Try.prog 168 = some ⟨.int .u32, 1, 4, [.lit (.int .u32 0)], true⟩ := by kernel_rfl
@[simp] theorem Try.ty170 : tyOf Try.prog 170 = some ⟨.int .u64, 1, 8, [.lit (.int .u64 0)], true⟩ := by kernel_rfl
@[simp] theorem Try.ty172 : tyOf Try.prog 172 = some ⟨.int .u64, 1, 8, [.lit (.int .u64 0)], true⟩ := by kernel_rfl
@[simp] theorem Try.ty176 : tyOf Try.prog 176 = some ⟨.ptr 3, 1, 8, [.lit (.pointer none)], false⟩ := by kernel_rfl
@[simp] theorem Try.ty178 : tyOf Try.prog 178 = some ⟨.ptr 172, 1, 8, [.lit (.pointer none)], false⟩ := by kernel_rfl
@[simp] theorem Try.ty183 : tyOf Try.prog 183 = some ⟨.arr 0 16, 0, 0, [], false⟩ := by kernel_rfl
@[simp] theorem Try.ty186 : tyOf Try.prog 186 = some ⟨.int .u8, 1, 1, [.lit (.int .u8 0)], true⟩ := by kernel_rfl
@[simp] theorem Try.ty187 : tyOf Try.prog 187 = some ⟨.int .u8, 1, 1, [.lit (.int .u8 0)], true⟩ := by kernel_rfl
@[simp] theorem Try.ty189 : tyOf Try.prog 189 = some ⟨.ptr 5, 1, 8, [.lit (.pointer none)], false⟩ := by kernel_rfl
@[simp] theorem Try.ty190 : tyOf Try.prog 190 = some ⟨.int .i32, 1, 4, [.lit (.int .i32 0)], true⟩ := by kernel_rfl
@[simp] theorem Try.ty191 : tyOf Try.prog 191 = some ⟨.int .i32, 1, 4, [.lit (.int .i32 0)], true⟩ := by kernel_rfl
theorem rr {α β : Type} {a : α} {b : β} : a = a ∧ b = b := ⟨rfl, rfl⟩
theorem Try.tg {Γ : Gam} (hΓ : GamOk Try.prog Γ) {n B : Nat} {Q : Exit → St → Prop} {σ : St} {id : Nat} {ops : Array Oper} (keep dead : List Nat) {A : Env} {M : List AObj} (hd : dstsOk ops n ops.toList [] = true) (hn : noTags σ.A = true) (h : regE keep dead ops.toList σ ⟨A, M⟩ (runR Try.ty Γ ops ops.toList σ.A σ.M)) {y : Code} (h2 : AWp Try.prog n B y Q ⟨A, M⟩) : AWp Try.prog n B (.seq (.region id ops false) y) Q σ := AWp.thn (AWp.reg Try.tyOk hΓ (keep := keep) (dead := dead) hd hn h) h2
theorem Try.td {Γ : Gam} (hΓ : GamOk Try.prog Γ) {n B : Nat} {Q : Exit → St → Prop} {σ : St} {id : Nat} {ops : Array Oper} (keep dead : List Nat) (ps : List (Nat × Nat)) (info : List (Bool × List Nat)) {A : Env} {M : List AObj} (hd : drawB n ps ops.toList info = true) (hn : noTags σ.A = true) (h : regF Try.ty Γ ps info keep dead ops.toList σ ⟨A, M⟩ (runR Try.ty Γ ops ops.toList σ.A σ.M)) {y : Code} (h2 : AWp Try.prog n B y Q ⟨A, M⟩) : AWp Try.prog n B (.seq (.region id ops true) y) Q σ := AWp.thn (AWp.regD Try.mixed Try.tyOk hΓ (keep := keep) (dead := dead) ps info hd hn h) h2
end Go.Proofs

import Derived.Test.YtoiieebljbhpbaaGreatDoorProg
import Derived.Test.YtoiieebljbhpbaaGreatDoorAb7
import Derived.KernelRfl
namespace Go.Proofs
open Go.Ab
noncomputable def Tryz.ty : TyTab := ⟨tyOf Tryz.prog, methOf Tryz.prog, implOf Tryz.prog⟩
@[simp] theorem Tryz.ty_tab (t : TypeId) : Tryz.ty.tab t = tyOf Tryz.prog t := by simp only [Tryz.ty]
@[simp] theorem Tryz.ty_meth : Tryz.ty.meth = methOf Tryz.prog := by simp only [Tryz.ty]
@[simp] theorem Tryz.ty_impl : Tryz.ty.impl = implOf Tryz.prog := by simp only [Tryz.ty]
theorem Tryz.tyOk : TyOk Tryz.prog Tryz.ty := ⟨fun _ _ h => by rw [Tryz.ty_tab] at h; exact h, fun _ _ _ h => by rw [Tryz.ty_meth] at h; exact h, fun _ _ _ h => by rw [Tryz.ty_impl] at h; exact h⟩
theorem Tryz.mixed : Tryz.prog.follows .mixedOrders = true := by kernel_rfl
@[simp] theorem Tryz.ty3 : tyOf Tryz.prog 3 = some ⟨.int .i64, 1, 8, [.lit (.int .i64 0)], true⟩ := by kernel_rfl
@[simp] theorem Tryz.ty4 : tyOf Tryz.prog 4 = some ⟨.bool, 1, 1, [.lit (.bool false)], true⟩ := by kernel_rfl
@[simp] theorem Tryz.ty5 : tyOf Tryz.prog 5 = some ⟨.int .u8, 1, 1, [.lit (.int .u8 0)], true⟩ := by kernel_rfl
@[simp] theorem Tryz.ty9 : tyOf Tryz.prog 9 = some ⟨.str, 1, 16, [.lit (.string ⟨⟨[]⟩⟩)], true⟩ := by kernel_rfl
@[simp] theorem Tryz.ty21 : tyOf Tryz.prog 21 = some ⟨.int .i32, 1, 4, [.lit (.int .i32 0)], true⟩ := by kernel_rfl
@[simp] theorem Tryz.ty22 : tyOf Tryz.prog 22 = some ⟨.slice 37, 1, 24, [.sl [] .full], false⟩ := by kernel_rfl
@[simp] theorem Tryz.ty24 : tyOf Tryz.prog 24 = some ⟨.ptr 31, 1, 8, [.lit (.pointer none)], false⟩ := by kernel_rfl
@[simp] theorem Tryz.ty26 : tyOf Tryz.prog 26 = some ⟨.ptr 107, 1, 8, [.lit (.pointer none)], false⟩ := by kernel_rfl
@[simp] theorem Tryz.ty27 : tyOf Tryz.prog 27 = some ⟨.map 42 60, 1, 8, [.lit (.map none)], false⟩ := by kernel_rfl
@[simp] theorem Tryz.ty28 : tyOf Tryz.prog 28 = some ⟨.map 51 56, 1, 8, [.lit (.map none)], false⟩ := by kernel_rfl
@[simp] theorem Tryz.ty29 : tyOf Tryz.prog 29 = some ⟨.map 54 65, 1, 8, [.lit (.map none)], false⟩ := by kernel_rfl
@[simp] theorem Tryz.ty31 : tyOf Tryz.prog 31 = some ⟨.struct [(0, 26), (1, 27), (2, 28), (3, 29)], 4, 32, [.lit (.pointer none), .lit (.map none), .lit (.map none), .lit (.map none)], false⟩ := by kernel_rfl
@[simp] theorem Tryz.ty32 : tyOf Tryz.prog 32 = some ⟨.int .i64, 1, 8, [.lit (.int .i64 0)], true⟩ := by kernel_rfl
@[simp] theorem Tryz.ty35 : tyOf Tryz.prog 35 = some ⟨.slice 54, 1, 24, [.sl [] .full], false⟩ := by kernel_rfl
@[simp] theorem Tryz.ty37 : tyOf Tryz.prog 37 = some ⟨.struct [(0, 3), (1, 9), (2, 9), (3, 3), (4, 3), (5, 3), (6, 3), (7, 4), (8, 4), (9, 35)], 10, 104, [.lit (.int .i64 0), .lit (.string ⟨⟨[]⟩⟩), .lit (.string ⟨⟨[]⟩⟩), .lit (.int .i64 0), .lit (.int .i64 0), .lit (.int .i64 0), .lit (.int .i64 0), .lit (.bool false), .lit (.bool false), .sl [] .full], false⟩ := by kernel_rfl
@[simp] theorem Tryz.ty39 : tyOf Tryz.prog 39 = some ⟨.slice 3, 1, 24, [.sl [] .full], false⟩ := by kernel_rfl
@[simp] theorem Tryz.ty42 : tyOf Tryz.prog 42 = some ⟨.struct [(0, 3), (1, 3)], 2, 16, [.lit (.int .i64 0), .lit (.int .i64 0)], true⟩ := by kernel_rfl
@[simp] theorem Tryz.ty45 : tyOf Tryz.prog 45 = some ⟨.struct [(0, 3), (1, 9), (2, 9)], 3, 40, [.lit (.int .i64 0), .lit (.string ⟨⟨[]⟩⟩), .lit (.string ⟨⟨[]⟩⟩)], true⟩ := by kernel_rfl
@[simp] theorem Tryz.ty48 : tyOf Tryz.prog 48 = some ⟨.slice 51, 1, 24, [.sl [] .full], false⟩ := by kernel_rfl
@[simp] theorem Tryz.ty51 : tyOf Tryz.prog 51 = some ⟨.struct [(0, 3), (1, 42)], 3, 24, [.lit (.int .i64 0), .lit (.int .i64 0), .lit (.int .i64 0)], true⟩ := by kernel_rfl
@[simp] theorem Tryz.ty54 : tyOf Tryz.prog 54 = some ⟨.int .u32, 1, 4, [.lit (.int .u32 0)], true⟩ := by kernel_rfl
@[simp] theorem Tryz.ty56 : tyOf Tryz.prog 56 = some ⟨.struct [(0, 3), (1, 4)], 2, 16, [.lit (.int .i64 0), .lit (.bool false)], true⟩ := by kernel_rfl
@[simp] theorem Tryz.ty60 : tyOf Tryz.prog 60 = some ⟨.struct [(0, 4), (1, 4), (2, 35)], 3, 32, [.lit (.bool false), .lit (.bool false), .sl [] .full], false⟩ := by kernel_rfl
@[simp] theorem Tryz.ty65 : tyOf Tryz.prog 65 = some ⟨.struct [(0, 42), (2, 3)], 3, 24, [.lit (.int .i64 0), .lit (.int .i64 0), .lit (.int .i64 0)], true⟩ := by kernel_rfl
@[simp] theorem Tryz.ty87 : tyOf Tryz.prog 87 = some ⟨.int .u16, 1, 2, [.lit (.int .u16 0)], true⟩ := by kernel_rfl
@[simp] theorem Tryz.ty89 : tyOf Tryz.prog 89 = some ⟨.struct [(0, 4), (1, 5), (2, 87), (3, 54), (4, 54), (5, 35), (6, 4), (7, 87), (8, 9), (9, 9), (10, 3)], 11, 88, [.lit (.bool false), .lit (.int .u8 0), .lit (.int .u16 0), .lit (.int .u32 0), .lit (.int .u32 0), .sl [] .full, .lit (.bool false), .lit (.int .u16 0), .lit (.string ⟨⟨[]⟩⟩), .lit (.string ⟨⟨[]⟩⟩), .lit (.int .i64 0)], false⟩ := by kernel_rfl
@[simp] theorem Tryz.ty94 : tyOf Tryz.prog 94 = some ⟨.struct [(0, 4), (1, 4), (2, 3), (3, 3), (4, 4), (5, 3), (6, 3), (7, 4), (8, 3)], 9, 64, [.lit (.bool false), .lit (.bool false), .lit (.int .i64 0), .lit (.int .i64 0), .lit (.bool false), .lit (.int .i64 0), .lit (.int .i64 0), .lit (.bool false), .lit (.int .i64 0)], true⟩ := by kernel_rfl
@[simp] theorem Tryz.ty98 : tyOf Tryz.prog 98 = some ⟨.struct [(0, 54), (1, 54)], 2, 8, [.lit (.int .u32 0), .lit (.int .u32 0)], true⟩ := by kernel_rfl
@[simp] theorem Tryz.ty105 : tyOf Tryz.prog 105 = some ⟨.map 3 45, 1, 8, [.lit (.map none)], false⟩ := by kernel_rfl
@[simp] theorem Tryz.ty107 : tyOf Tryz.prog 107 = some ⟨.struct [(0, 105), (1, 3)], 2, 16, [.lit (.map none), .lit (.int .i64 0)], false⟩ := by kernel_rfl
@[simp] theorem Tryz.ty139 : tyOf Tryz.prog 139 = some ⟨.slice 5, 1, 24, [.sl [] .full], false⟩ := by kernel_rfl
@[simp] theorem Tryz.ty141 : tyOf Tryz.prog 141 = some ⟨.struct [(0, 138), (1, 139)], 2, 32, [.lit (.pointer none), .sl [] .full], false⟩ := by kernel_rfl
@[simp] theorem Tryz.ty143 : tyOf Tryz.prog 143 = some ⟨.struct [(0, 141)], 2, 32, [.lit (.pointer none), .sl [] .full], false⟩ := by kernel_rfl
@[simp] theorem Tryz.ty150 : tyOf Tryz.prog 150 = some ⟨.slice 152, 1, 24, [.sl [] .full], false⟩ := by kernel_rfl
@[simp] theorem Tryz.ty152 : tyOf Tryz.prog 152 = some ⟨.iface, 1, 16, [.lit .nilIface], false⟩ := by kernel_rfl
@[simp] theorem Tryz.ty159 : tyOf Tryz.prog 159 = some ⟨.slice 45, 1, 24, [.sl [] .full], false⟩ := by kernel_rfl
@[simp] theorem Tryz.ty163 : tyOf Tryz.prog 163 = some ⟨.slice 9, 1, 24, [.sl [] .full], false⟩ := by kernel_rfl
@[simp] theorem Tryz.ty185 : tyOf Tryz.prog 185 = some ⟨.struct [(0, 9), (1, 32)], 2, 24, [.lit (.string ⟨⟨[]⟩⟩), .lit (.int .i64 0)], true⟩ := by kernel_rfl
@[simp] theorem Tryz.ty186 : tyOf Tryz.prog 186 = some ⟨.int .u64, 1, 8, [.lit (.int .u64 0)], true⟩ := by kernel_rfl
@[simp] theorem Tryz.ty192 : tyOf Tryz.prog 192 = some ⟨.slice 87, 1, 24, [.sl [] .full], false⟩ := by kernel_rfl
@[simp] theorem Tryz.ty195 : tyOf Tryz.prog 195 = some ⟨.iface, 1, 16, [.lit .nilIface], false⟩ := by kernel_rfl
@[simp] theorem Tryz.ty206 : tyOf Tryz.prog 206 = some ⟨.map 9 3, 1, 8, [.lit (.map none)], false⟩ := by kernel_rfl
@[simp] theorem Tryz.ty220 : tyOf Tryz.prog 220 = some ⟨.slice 186, 1, 24, [.sl [] .full], false⟩ := by kernel_rfl
@[simp] theorem Tryz.impl195_98 : implOf Tryz.prog 195 98 = some true := by kernel_rfl
@[simp] theorem Tryz.meth98_220 : methOf Tryz.prog 98 "Head" = some 220 := by kernel_rfl
@[simp] theorem Tryz.meth98_221 : methOf Tryz.prog 98 "antiphon/rtcp.put" = some 221 := by kernel_rfl
theorem cw {f : FuncId} {fn : Func} {c : Code} (hf : Tryz.prog.funcs[f]? = some fn) (hb : fn.body = some c) (hname : (fn.name == "runtime.NumGoroutine") = false) {l : List AV} {M : List qau} {out : Out} {rs : List ResultVar} (hrs : fn.results.toList = rs) {n : Nat} (hn : fn.ntmps = n) (hl : l.length ≤ n)
    (h : out.obl → belM M.length M → belL M.length l → AWp Tryz.prog n M.length c (retPost Tryz.ty rs out M) ⟨argsE 0 l, M⟩) : qao Tryz.prog f l M out := call_of_awp Tryz.tyOk hf hb hname hrs hn hl h
theorem tq {Γ : Gam} (hΓ : qbc Tryz.prog Γ) {n B : Nat} {Q : Exit → St → Prop} {σ : St} {id : Nat} {ops : Array Oper} (keep dead : List Nat) {A : Env} {M : List qau} {y : Code} (h2 : AWp Tryz.prog n B y Q ⟨A, M⟩) (h : regE keep dead ops.toList σ ⟨A, M⟩ (runR Tryz.ty Γ ops ops.toList σ.A σ.M) := by simp; exact rr) (hd : dstsOk ops n ops.toList [] = true := by kernel_rfl) (hn : noTags σ.A = true := by rfl) : AWp Tryz.prog n B (.seq (.region id ops false) y) Q σ := AWp.thn (AWp.reg Tryz.tyOk hΓ (keep := keep) (dead := dead) hd hn h) h2
theorem tl {Γ : Gam} (hΓ : qbc Tryz.prog Γ) {n B : Nat} {Q : Exit → St → Prop} {σ : St} {id : Nat} {ops : Array Oper} (keep dead : List Nat) {A : Env} {M : List qau} (h2 : Q .normal ⟨A, M⟩) (h : regE keep dead ops.toList σ ⟨A, M⟩ (runR Tryz.ty Γ ops ops.toList σ.A σ.M) := by simp; exact rr) (hd : dstsOk ops n ops.toList [] = true := by kernel_rfl) (hn : noTags σ.A = true := by rfl) : AWp Tryz.prog n B (.region id ops false) Q σ := AWp.lst (AWp.reg Tryz.tyOk hΓ (keep := keep) (dead := dead) hd hn h) h2
theorem td {Γ : Gam} (hΓ : qbc Tryz.prog Γ) {n B : Nat} {Q : Exit → St → Prop} {σ : St} {id : Nat} {ops : Array Oper} (keep dead : List Nat) (ps : List (Nat × Nat)) (info : List (Bool × List Nat)) {A : Env} {M : List qau} (h : regF Tryz.ty Γ ps info keep dead ops.toList σ ⟨A, M⟩ (runR Tryz.ty Γ ops ops.toList σ.A σ.M)) {y : Code} (h2 : AWp Tryz.prog n B y Q ⟨A, M⟩) (hd : drawB n ps ops.toList info = true := by kernel_rfl) (hn : noTags σ.A = true := by rfl) : AWp Tryz.prog n B (.seq (.region id ops true) y) Q σ := AWp.thn (AWp.regD Tryz.mixed Tryz.tyOk hΓ (keep := keep) (dead := dead) ps info hd hn h) h2
end Go.Proofs

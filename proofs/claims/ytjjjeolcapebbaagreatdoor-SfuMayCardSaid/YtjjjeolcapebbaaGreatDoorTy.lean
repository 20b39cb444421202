/- What the types of this program come to, as the layer of abstract values wants them: no condition. -/
import Derived.Test.YtjjjeolcapebbaaGreatDoorProg
import Derived.Test.YtjjjeolcapebbaaGreatDoorM10
import Derived.KernelRfl
namespace Go.Proofs
open Go.Ab
noncomputable def Tryz.ty : TyTab := ⟨tyOf Tryz.prog, methOf Tryz.prog, implOf Tryz.prog, none⟩
@[simp] theorem Tryz.ty_nl : Tryz.ty.nl = none := by simp only [Tryz.ty]
@[simp] theorem Tryz.ty_tab (t : TypeId) : Tryz.ty.tab t = tyOf Tryz.prog t := by simp only [Tryz.ty]
@[simp] theorem Tryz.ty_meth : Tryz.ty.meth = methOf Tryz.prog := by simp only [Tryz.ty]
@[simp] theorem Tryz.ty_impl : Tryz.ty.impl = implOf Tryz.prog := by simp only [Tryz.ty]
theorem Tryz.tyOk : TyOk Tryz.prog Tryz.ty := ⟨fun _ _ h => by rw [Tryz.ty_tab] at h; exact h, fun _ _ _ h => by rw [Tryz.ty_meth] at h; exact h, fun _ _ _ h => by rw [Tryz.ty_impl] at h; exact h⟩
theorem Tryz.mixed : Tryz.prog.follows .mixedOrders = true := by kernel_rfl
@[simp] theorem Tryz.ty3 : tyOf Tryz.prog 3 = some ⟨.int .i64, 1, 8, [.lit (.int .i64 0)], true⟩ := by kernel_rfl
@[simp] theorem Tryz.ty4 : tyOf Tryz.prog 4 = some ⟨.bool, 1, 1, [.lit (.bool false)], true⟩ := by kernel_rfl
@[simp] theorem Tryz.ty22 : tyOf Tryz.prog 22 = some ⟨.slice 3, 1, 24, [.sl [] .full], false⟩ := by kernel_rfl
@[simp] theorem Tryz.ty24 : tyOf Tryz.prog 24 = some ⟨.struct [(0, 3), (1, 3)], 2, 16, [.lit (.int .i64 0), .lit (.int .i64 0)], true⟩ := by kernel_rfl
@[simp] theorem Tryz.ty26 : tyOf Tryz.prog 26 = some ⟨.struct [(0, 4), (1, 3), (2, 3), (3, 3)], 4, 32, [.lit (.bool false), .lit (.int .i64 0), .lit (.int .i64 0), .lit (.int .i64 0)], true⟩ := by kernel_rfl
@[simp] theorem Tryz.ty28 : tyOf Tryz.prog 28 = some ⟨.struct [(0, 24), (2, 26)], 6, 48, [.lit (.int .i64 0), .lit (.int .i64 0), .lit (.bool false), .lit (.int .i64 0), .lit (.int .i64 0), .lit (.int .i64 0)], true⟩ := by kernel_rfl
@[simp] theorem Tryz.ty30 : tyOf Tryz.prog 30 = some ⟨.struct [(0, 3), (1, 3), (2, 3), (3, 3), (4, 3)], 5, 40, [.lit (.int .i64 0), .lit (.int .i64 0), .lit (.int .i64 0), .lit (.int .i64 0), .lit (.int .i64 0)], true⟩ := by kernel_rfl
@[simp] theorem Tryz.ty32 : tyOf Tryz.prog 32 = some ⟨.struct [(0, 3), (1, 3)], 2, 16, [.lit (.int .i64 0), .lit (.int .i64 0)], true⟩ := by kernel_rfl
@[simp] theorem Tryz.ty34 : tyOf Tryz.prog 34 = some ⟨.struct [(0, 3), (1, 3)], 2, 16, [.lit (.int .i64 0), .lit (.int .i64 0)], true⟩ := by kernel_rfl
@[simp] theorem Tryz.ty36 : tyOf Tryz.prog 36 = some ⟨.struct [(0, 3), (1, 3), (2, 3)], 3, 24, [.lit (.int .i64 0), .lit (.int .i64 0), .lit (.int .i64 0)], true⟩ := by kernel_rfl
@[simp] theorem Tryz.ty38 : tyOf Tryz.prog 38 = some ⟨.struct [(0, 28), (6, 30), (11, 32), (13, 34), (15, 36), (18, 22), (19, 3), (20, 3), (21, 3), (22, 3), (23, 3), (24, 3)], 25, 216, [.lit (.int .i64 0), .lit (.int .i64 0), .lit (.bool false), .lit (.int .i64 0), .lit (.int .i64 0), .lit (.int .i64 0), .lit (.int .i64 0), .lit (.int .i64 0), .lit (.int .i64 0), .lit (.int .i64 0), .lit (.int .i64 0), .lit (.int .i64 0), .lit (.int .i64 0), .lit (.int .i64 0), .lit (.int .i64 0), .lit (.int .i64 0), .lit (.int .i64 0), .lit (.int .i64 0), .sl [] .full, .lit (.int .i64 0), .lit (.int .i64 0), .lit (.int .i64 0), .lit (.int .i64 0), .lit (.int .i64 0), .lit (.int .i64 0)], false⟩ := by kernel_rfl
@[simp] theorem Tryz.ty40 : tyOf Tryz.prog 40 = some ⟨.ptr 60, 1, 8, [.lit (.pointer none)], false⟩ := by kernel_rfl
@[simp] theorem Tryz.ty41 : tyOf Tryz.prog 41 = some ⟨.int .i64, 1, 8, [.lit (.int .i64 0)], true⟩ := by kernel_rfl
@[simp] theorem Tryz.ty47 : tyOf Tryz.prog 47 = some ⟨.ptr 89, 1, 8, [.lit (.pointer none)], false⟩ := by kernel_rfl
@[simp] theorem Tryz.ty49 : tyOf Tryz.prog 49 = some ⟨.map 3 132, 1, 8, [.lit (.map none)], false⟩ := by kernel_rfl
@[simp] theorem Tryz.ty50 : tyOf Tryz.prog 50 = some ⟨.map 94 191, 1, 8, [.lit (.map none)], false⟩ := by kernel_rfl
@[simp] theorem Tryz.ty51 : tyOf Tryz.prog 51 = some ⟨.map 94 273, 1, 8, [.lit (.map none)], false⟩ := by kernel_rfl
@[simp] theorem Tryz.ty52 : tyOf Tryz.prog 52 = some ⟨.map 168 227, 1, 8, [.lit (.map none)], false⟩ := by kernel_rfl
@[simp] theorem Tryz.ty53 : tyOf Tryz.prog 53 = some ⟨.map 3 226, 1, 8, [.lit (.map none)], false⟩ := by kernel_rfl
@[simp] theorem Tryz.ty57 : tyOf Tryz.prog 57 = some ⟨.struct [(0, 54), (1, 55)], 5, 56, [.sl [] .full, .lit (.int .i64 0), .lit (.int .i64 0), .lit (.int .i64 0), .lit (.int .i64 0)], false⟩ := by kernel_rfl
@[simp] theorem Tryz.ty58 : tyOf Tryz.prog 58 = some ⟨.slice 72, 1, 24, [.sl [] .full], false⟩ := by kernel_rfl
@[simp] theorem Tryz.ty60 : tyOf Tryz.prog 60 = some ⟨.struct [(0, 38), (25, 47), (26, 3), (27, 3), (28, 49), (29, 50), (30, 51), (31, 52), (32, 53), (33, 57), (38, 3), (39, 58)], 40, 368, [.lit (.int .i64 0), .lit (.int .i64 0), .lit (.bool false), .lit (.int .i64 0), .lit (.int .i64 0), .lit (.int .i64 0), .lit (.int .i64 0), .lit (.int .i64 0), .lit (.int .i64 0), .lit (.int .i64 0), .lit (.int .i64 0), .lit (.int .i64 0), .lit (.int .i64 0), .lit (.int .i64 0), .lit (.int .i64 0), .lit (.int .i64 0), .lit (.int .i64 0), .lit (.int .i64 0), .sl [] .full, .lit (.int .i64 0), .lit (.int .i64 0), .lit (.int .i64 0), .lit (.int .i64 0), .lit (.int .i64 0), .lit (.int .i64 0), .lit (.pointer none), .lit (.int .i64 0), .lit (.int .i64 0), .lit (.map none), .lit (.map none), .lit (.map none), .lit (.map none), .lit (.map none), .sl [] .full, .lit (.int .i64 0), .lit (.int .i64 0), .lit (.int .i64 0), .lit (.int .i64 0), .lit (.int .i64 0), .sl [] .full], false⟩ := by kernel_rfl
@[simp] theorem Tryz.ty65 : tyOf Tryz.prog 65 = some ⟨.slice 94, 1, 24, [.sl [] .full], false⟩ := by kernel_rfl
@[simp] theorem Tryz.ty73 : tyOf Tryz.prog 73 = some ⟨.slice 41, 1, 24, [.sl [] .full], false⟩ := by kernel_rfl
@[simp] theorem Tryz.ty94 : tyOf Tryz.prog 94 = some ⟨.int .u32, 1, 4, [.lit (.int .u32 0)], true⟩ := by kernel_rfl
@[simp] theorem Tryz.ty119 : tyOf Tryz.prog 119 = some ⟨.struct [(0, 36), (3, 22), (4, 3), (5, 3), (6, 3), (7, 3), (8, 3)], 9, 88, [.lit (.int .i64 0), .lit (.int .i64 0), .lit (.int .i64 0), .sl [] .full, .lit (.int .i64 0), .lit (.int .i64 0), .lit (.int .i64 0), .lit (.int .i64 0), .lit (.int .i64 0)], false⟩ := by kernel_rfl
@[simp] theorem Tryz.ty121 : tyOf Tryz.prog 121 = some ⟨.slice 347, 1, 24, [.sl [] .full], false⟩ := by kernel_rfl
@[simp] theorem Tryz.ty123 : tyOf Tryz.prog 123 = some ⟨.struct [(0, 3), (1, 121), (2, 3), (3, 3), (4, 3)], 5, 56, [.lit (.int .i64 0), .sl [] .full, .lit (.int .i64 0), .lit (.int .i64 0), .lit (.int .i64 0)], false⟩ := by kernel_rfl
@[simp] theorem Tryz.ty124 : tyOf Tryz.prog 124 = some ⟨.slice 345, 1, 24, [.sl [] .full], false⟩ := by kernel_rfl
@[simp] theorem Tryz.ty126 : tyOf Tryz.prog 126 = some ⟨.struct [(0, 124), (1, 3), (2, 3), (3, 3), (4, 3)], 5, 56, [.sl [] .full, .lit (.int .i64 0), .lit (.int .i64 0), .lit (.int .i64 0), .lit (.int .i64 0)], false⟩ := by kernel_rfl
@[simp] theorem Tryz.ty222 : tyOf Tryz.prog 222 = some ⟨.slice 343, 1, 24, [.sl [] .full], false⟩ := by kernel_rfl
@[simp] theorem Tryz.ty343 : tyOf Tryz.prog 343 = some ⟨.struct [(0, 2), (1, 2), (2, 4), (3, 4), (4, 4), (5, 9), (6, 3)], 7, 48, [.lit (.int .i64 0), .lit (.int .i64 0), .lit (.bool false), .lit (.bool false), .lit (.bool false), .lit (.string ⟨⟨[]⟩⟩), .lit (.int .i64 0)], true⟩ := by kernel_rfl
@[simp] theorem Tryz.ty345 : tyOf Tryz.prog 345 = some ⟨.struct [(0, 4), (1, 105), (2, 9), (3, 3), (4, 3)], 5, 40, [.lit (.bool false), .lit (.int .u16 0), .lit (.string ⟨⟨[]⟩⟩), .lit (.int .i64 0), .lit (.int .i64 0)], true⟩ := by kernel_rfl
theorem cw {f : FuncId} {fn : Func} {c : Code} (hf : Tryz.prog.funcs[f]? = some fn) (hb : fn.body = some c) (hname : (fn.name == "runtime.NumGoroutine") = false) {l : List AV} {M : List AObj} {out : Out} {rs : List ResultVar} (hrs : fn.results.toList = rs) {n : Nat} (hn : fn.ntmps = n) (hl : l.length ≤ n)
    (h : out.obl → belM M.length M → belL M.length l → AWp Tryz.prog n M.length c (retPost Tryz.ty rs out M) ⟨argsE 0 l, M⟩) : CallOk Tryz.prog f l M out := call_of_awp Tryz.tyOk hf hb hname hrs hn hl h
theorem tq {Γ : Gam} (hΓ : GamOk Tryz.prog Γ) {n B : Nat} {Q : Exit → St → Prop} {σ : St} {id : Nat} {ops : Array Oper} (keep dead : List Nat) {A : Env} {M : List AObj} {y : Code} (h2 : AWp Tryz.prog n B y Q ⟨A, M⟩) (h : regE keep dead ops.toList σ ⟨A, M⟩ (runR Tryz.ty Γ ops ops.toList σ.A σ.M) := by simp; exact rr) (hd : dstsOk ops n ops.toList [] = true := by kernel_rfl) (hn : noTags σ.A = true := by rfl) : AWp Tryz.prog n B (.seq (.region id ops false) y) Q σ := AWp.thn (AWp.reg Tryz.tyOk hΓ (keep := keep) (dead := dead) hd hn h) h2
theorem tl {Γ : Gam} (hΓ : GamOk Tryz.prog Γ) {n B : Nat} {Q : Exit → St → Prop} {σ : St} {id : Nat} {ops : Array Oper} (keep dead : List Nat) {A : Env} {M : List AObj} (h2 : Q .normal ⟨A, M⟩) (h : regE keep dead ops.toList σ ⟨A, M⟩ (runR Tryz.ty Γ ops ops.toList σ.A σ.M) := by simp; exact rr) (hd : dstsOk ops n ops.toList [] = true := by kernel_rfl) (hn : noTags σ.A = true := by rfl) : AWp Tryz.prog n B (.region id ops false) Q σ := AWp.lst (AWp.reg Tryz.tyOk hΓ (keep := keep) (dead := dead) hd hn h) h2
theorem td {Γ : Gam} (hΓ : GamOk Tryz.prog Γ) {n B : Nat} {Q : Exit → St → Prop} {σ : St} {id : Nat} {ops : Array Oper} (keep dead : List Nat) (ps : List (Nat × Nat)) (info : List (Bool × List Nat)) {A : Env} {M : List AObj} (h : regF Tryz.ty Γ ps info keep dead ops.toList σ ⟨A, M⟩ (runR Tryz.ty Γ ops ops.toList σ.A σ.M)) {y : Code} (h2 : AWp Tryz.prog n B y Q ⟨A, M⟩) (hd : drawB n ps ops.toList info = true := by kernel_rfl) (hn : noTags σ.A = true := by rfl) : AWp Tryz.prog n B (.seq (.region id ops true) y) Q σ := AWp.thn (AWp.regD Tryz.mixed Tryz.tyOk hΓ (keep := keep) (dead := dead) ps info hd hn h) h2
end Go.Proofs

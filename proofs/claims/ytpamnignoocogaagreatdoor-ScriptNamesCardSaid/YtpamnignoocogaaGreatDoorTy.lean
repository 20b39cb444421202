import Derived.Test.YtpamnignoocogaaGreatDoorProg
import Derived.Test.YtpamnignoocogaaGreatDoorAb7
import Derived.KernelRfl
namespace Go.Proofs
open Go.Ab
noncomputable def Tryz.ty : TyTab := ⟨tyOf Tryz.prog, methOf Tryz.prog, implOf Tryz.prog, none⟩
@[simp] theorem Tryz.ty_nl : Tryz.ty.nl = none := by simp only [Tryz.ty]
@[simp] theorem Tryz.ty_tab (t : TypeId) : Tryz.ty.tab t = tyOf Tryz.prog t := by simp only [Tryz.ty]
@[simp] theorem Tryz.ty_meth : Tryz.ty.meth = methOf Tryz.prog := by simp only [Tryz.ty]
@[simp] theorem Tryz.ty_impl : Tryz.ty.impl = implOf Tryz.prog := by simp only [Tryz.ty]
theorem Tryz.tyOk : TyOk Tryz.prog Tryz.ty := ⟨fun _ _ h => by rw [Tryz.ty_tab] at h; exact h, fun _ _ _ h => by rw [Tryz.ty_meth] at h; exact h, fun _ _ _ h => by rw [Tryz.ty_impl] at h; exact h⟩
theorem Tryz.mixed : Tryz.prog.follows .mixedOrders = true := by kernel_rfl
@[simp] theorem Tryz.ty3 : tyOf Tryz.prog 3 = some ⟨.int .i64, 1, 8, [.lit (.int .i64 0)], true⟩ := by kernel_rfl
@[simp] theorem Tryz.ty4 : tyOf Tryz.prog 4 = some ⟨.bool, 1, 1, [.lit (.bool false)], true⟩ := by kernel_rfl
@[simp] theorem Tryz.ty5 : tyOf Tryz.prog 5 = some ⟨.int .u8, 1, 1, [.lit (.int .u8 0)], true⟩ := by kernel_rfl
@[simp] theorem Tryz.ty9 : tyOf Tryz.prog 9 = some ⟨.str, 1, 16, [.lit (.string ⟨⟨[]⟩⟩)], true⟩ := by kernel_rfl
@[simp] theorem Tryz.ty21 : tyOf Tryz.prog 21 = some ⟨.int .i32, 1, 4, [.lit (.int .i32 0)], true⟩ := by kernel_rfl
@[simp] theorem Tryz.ty23 : tyOf Tryz.prog 23 = some ⟨.slice 39, 1, 24, [.sl [] .full], false⟩ := by kernel_rfl
@[simp] theorem Tryz.ty24 : tyOf Tryz.prog 24 = some ⟨.int .i64, 1, 8, [.lit (.int .i64 0)], true⟩ := by kernel_rfl
@[simp] theorem Tryz.ty27 : tyOf Tryz.prog 27 = some ⟨.slice 9, 1, 24, [.sl [] .full], false⟩ := by kernel_rfl
@[simp] theorem Tryz.ty30 : tyOf Tryz.prog 30 = some ⟨.slice 116, 1, 24, [.sl [] .full], false⟩ := by kernel_rfl
@[simp] theorem Tryz.ty39 : tyOf Tryz.prog 39 = some ⟨.struct [(0, 3), (1, 3), (2, 9), (3, 3)], 4, 40, [.lit (.int .i64 0), .lit (.int .i64 0), .lit (.string ⟨⟨[]⟩⟩), .lit (.int .i64 0)], true⟩ := by kernel_rfl
@[simp] theorem Tryz.ty67 : tyOf Tryz.prog 67 = some ⟨.slice 3, 1, 24, [.sl [] .full], false⟩ := by kernel_rfl
@[simp] theorem Tryz.ty77 : tyOf Tryz.prog 77 = some ⟨.slice 5, 1, 24, [.sl [] .full], false⟩ := by kernel_rfl
@[simp] theorem Tryz.ty81 : tyOf Tryz.prog 81 = some ⟨.struct [(0, 79), (1, 77)], 2, 32, [.lit (.pointer none), .sl [] .full], false⟩ := by kernel_rfl
@[simp] theorem Tryz.ty83 : tyOf Tryz.prog 83 = some ⟨.iface, 1, 16, [.lit .nilIface], false⟩ := by kernel_rfl
@[simp] theorem Tryz.ty90 : tyOf Tryz.prog 90 = some ⟨.struct [(0, 3), (1, 9), (2, 9), (3, 3), (4, 3), (5, 3), (6, 3), (7, 4), (8, 4), (9, 30)], 10, 104, [.lit (.int .i64 0), .lit (.string ⟨⟨[]⟩⟩), .lit (.string ⟨⟨[]⟩⟩), .lit (.int .i64 0), .lit (.int .i64 0), .lit (.int .i64 0), .lit (.int .i64 0), .lit (.bool false), .lit (.bool false), .sl [] .full], false⟩ := by kernel_rfl
@[simp] theorem Tryz.ty94 : tyOf Tryz.prog 94 = some ⟨.slice 21, 1, 24, [.sl [] .full], false⟩ := by kernel_rfl
@[simp] theorem Tryz.ty114 : tyOf Tryz.prog 114 = some ⟨.int .u64, 1, 8, [.lit (.int .u64 0)], true⟩ := by kernel_rfl
@[simp] theorem Tryz.ty116 : tyOf Tryz.prog 116 = some ⟨.int .u32, 1, 4, [.lit (.int .u32 0)], true⟩ := by kernel_rfl
@[simp] theorem Tryz.ty126 : tyOf Tryz.prog 126 = some ⟨.struct [(0, 81)], 2, 32, [.lit (.pointer none), .sl [] .full], false⟩ := by kernel_rfl
@[simp] theorem Tryz.ty131 : tyOf Tryz.prog 131 = some ⟨.int .u16, 1, 2, [.lit (.int .u16 0)], true⟩ := by kernel_rfl
@[simp] theorem Tryz.ty171 : tyOf Tryz.prog 171 = some ⟨.slice 131, 1, 24, [.sl [] .full], false⟩ := by kernel_rfl
@[simp] theorem Tryz.ty180 : tyOf Tryz.prog 180 = some ⟨.struct [(0, 9), (1, 24)], 2, 24, [.lit (.string ⟨⟨[]⟩⟩), .lit (.int .i64 0)], true⟩ := by kernel_rfl
@[simp] theorem Tryz.ty224 : tyOf Tryz.prog 224 = some ⟨.slice 114, 1, 24, [.sl [] .full], false⟩ := by kernel_rfl
theorem cw {f : FuncId} {fn : Func} {c : Code} (hf : Tryz.prog.funcs[f]? = some fn) (hb : fn.body = some c) (hname : (fn.name == "runtime.NumGoroutine") = false) {l : List AV} {M : List AObj} {out : Out} {rs : List ResultVar} (hrs : fn.results.toList = rs) {n : Nat} (hn : fn.ntmps = n) (hl : l.length ≤ n)
    (h : out.obl → belM M.length M → belL M.length l → AWp Tryz.prog n M.length c (retPost Tryz.ty rs out M) ⟨argsE 0 l, M⟩) : CallOk Tryz.prog f l M out := call_of_awp Tryz.tyOk hf hb hname hrs hn hl h
theorem tq {Γ : Gam} (hΓ : GamOk Tryz.prog Γ) {n B : Nat} {Q : Exit → St → Prop} {σ : St} {id : Nat} {ops : Array Oper} (keep dead : List Nat) {A : Env} {M : List AObj} {y : Code} (h2 : AWp Tryz.prog n B y Q ⟨A, M⟩) (h : regE keep dead ops.toList σ ⟨A, M⟩ (runR Tryz.ty Γ ops ops.toList σ.A σ.M) := by simp; exact rr) (hd : dstsOk ops n ops.toList [] = true := by kernel_rfl) (hn : noTags σ.A = true := by rfl) : AWp Tryz.prog n B (.seq (.region id ops false) y) Q σ := AWp.thn (AWp.reg Tryz.tyOk hΓ (keep := keep) (dead := dead) hd hn h) h2
theorem tl {Γ : Gam} (hΓ : GamOk Tryz.prog Γ) {n B : Nat} {Q : Exit → St → Prop} {σ : St} {id : Nat} {ops : Array Oper} (keep dead : List Nat) {A : Env} {M : List AObj} (h2 : Q .normal ⟨A, M⟩) (h : regE keep dead ops.toList σ ⟨A, M⟩ (runR Tryz.ty Γ ops ops.toList σ.A σ.M) := by simp; exact rr) (hd : dstsOk ops n ops.toList [] = true := by kernel_rfl) (hn : noTags σ.A = true := by rfl) : AWp Tryz.prog n B (.region id ops false) Q σ := AWp.lst (AWp.reg Tryz.tyOk hΓ (keep := keep) (dead := dead) hd hn h) h2
theorem td {Γ : Gam} (hΓ : GamOk Tryz.prog Γ) {n B : Nat} {Q : Exit → St → Prop} {σ : St} {id : Nat} {ops : Array Oper} (keep dead : List Nat) (ps : List (Nat × Nat)) (info : List (Bool × List Nat)) {A : Env} {M : List AObj} (h : regF Tryz.ty Γ ps info keep dead ops.toList σ ⟨A, M⟩ (runR Tryz.ty Γ ops ops.toList σ.A σ.M)) {y : Code} (h2 : AWp Tryz.prog n B y Q ⟨A, M⟩) (hd : drawB n ps ops.toList info = true := by kernel_rfl) (hn : noTags σ.A = true := by rfl) : AWp Tryz.prog n B (.seq (.region id ops true) y) Q σ := AWp.thn (AWp.regD Tryz.mixed Tryz.tyOk hΓ (keep := keep) (dead := dead) ps info hd hn h) h2
end Go.Proofs

/- What the types of this program come to, as the layer of abstract values wants them: no condition. -/
import Derived.Test.YtpjplfnapgpfmaaGreatProg
import Derived.Test.YtpjplfnapgpfmaaGreatAb7
import Derived.KernelRfl
namespace Go.Proofs
open Go.Ab
noncomputable def Tryz.ty : TyTab := ⟨tyOf Tryz.prog, methOf Tryz.prog, implOf Tryz.prog⟩
@[simp] theorem Tryz.ty_tab (t : TypeId) : Tryz.ty.tab t = tyOf Tryz.prog t := by simp only [Tryz.ty]
@[simp] theorem Tryz.ty_meth : Tryz.ty.meth = methOf Tryz.prog := by simp only [Tryz.ty]
@[simp] theorem Tryz.ty_impl : Tryz.ty.impl = implOf Tryz.prog := by simp only [Tryz.ty]
theorem Tryz.tyOk : TyOk Tryz.prog Tryz.ty := ⟨fun _ _ h => by rw [Tryz.ty_tab] at h; exact h, fun _ _ _ h => by rw [Tryz.ty_meth] at h; exact h, fun _ _ _ h => by rw [Tryz.ty_impl] at h; exact h⟩
theorem Tryz.mixed : Tryz.prog.follows .mixedOrders = true := by kernel_rfl
@[simp] theorem Tryz.ty3 : tyOf Tryz.prog 3 = some ⟨.int .i64, 1, 8, [.lit (.int .i64 0)], true⟩ := by kernel_rfl
@[simp] theorem Tryz.ty4 : tyOf Tryz.prog 4 = some ⟨.bool, 1, 1, [.lit (.bool false)], true⟩ := by kernel_rfl
@[simp] theorem Tryz.ty5 : tyOf Tryz.prog 5 = some ⟨.int .u8, 1, 1, [.lit (.int .u8 0)], true⟩ := by kernel_rfl
@[simp] theorem Tryz.ty9 : tyOf Tryz.prog 9 = some ⟨.str, 1, 16, [.lit (.string ⟨⟨[]⟩⟩)], true⟩ := by kernel_rfl
@[simp] theorem Tryz.ty22 : tyOf Tryz.prog 22 = some ⟨.slice 43, 1, 24, [.sl [] .full], false⟩ := by kernel_rfl
@[simp] theorem Tryz.ty24 : tyOf Tryz.prog 24 = some ⟨.ptr 92, 1, 8, [.lit (.pointer none)], false⟩ := by kernel_rfl
@[simp] theorem Tryz.ty25 : tyOf Tryz.prog 25 = some ⟨.slice 53, 1, 24, [.sl [] .full], false⟩ := by kernel_rfl
@[simp] theorem Tryz.ty26 : tyOf Tryz.prog 26 = some ⟨.slice 197, 1, 24, [.sl [] .full], false⟩ := by kernel_rfl
@[simp] theorem Tryz.ty28 : tyOf Tryz.prog 28 = some ⟨.struct [(0, 3), (1, 26), (2, 3), (3, 4)], 4, 48, [.lit (.int .i64 0), .sl [] .full, .lit (.int .i64 0), .lit (.bool false)], false⟩ := by kernel_rfl
@[simp] theorem Tryz.ty30 : tyOf Tryz.prog 30 = some ⟨.struct [(0, 3), (1, 3), (2, 3), (3, 3), (4, 3), (5, 25), (6, 28), (10, 3), (11, 3)], 12, 128, [.lit (.int .i64 0), .lit (.int .i64 0), .lit (.int .i64 0), .lit (.int .i64 0), .lit (.int .i64 0), .sl [] .full, .lit (.int .i64 0), .sl [] .full, .lit (.int .i64 0), .lit (.bool false), .lit (.int .i64 0), .lit (.int .i64 0)], false⟩ := by kernel_rfl
@[simp] theorem Tryz.ty32 : tyOf Tryz.prog 32 = some ⟨.struct [(0, 24), (1, 30), (13, 3), (14, 3)], 15, 152, [.lit (.pointer none), .lit (.int .i64 0), .lit (.int .i64 0), .lit (.int .i64 0), .lit (.int .i64 0), .lit (.int .i64 0), .sl [] .full, .lit (.int .i64 0), .sl [] .full, .lit (.int .i64 0), .lit (.bool false), .lit (.int .i64 0), .lit (.int .i64 0), .lit (.int .i64 0), .lit (.int .i64 0)], false⟩ := by kernel_rfl
@[simp] theorem Tryz.ty36 : tyOf Tryz.prog 36 = some ⟨.struct [(0, 3), (1, 3), (2, 3), (3, 3), (4, 3)], 5, 40, [.lit (.int .i64 0), .lit (.int .i64 0), .lit (.int .i64 0), .lit (.int .i64 0), .lit (.int .i64 0)], true⟩ := by kernel_rfl
@[simp] theorem Tryz.ty38 : tyOf Tryz.prog 38 = some ⟨.map 3 3, 1, 8, [.lit (.map none)], false⟩ := by kernel_rfl
@[simp] theorem Tryz.ty39 : tyOf Tryz.prog 39 = some ⟨.slice 47, 1, 24, [.sl [] .full], false⟩ := by kernel_rfl
@[simp] theorem Tryz.ty43 : tyOf Tryz.prog 43 = some ⟨.struct [(0, 3), (1, 3), (2, 3), (3, 4), (4, 4)], 5, 32, [.lit (.int .i64 0), .lit (.int .i64 0), .lit (.int .i64 0), .lit (.bool false), .lit (.bool false)], true⟩ := by kernel_rfl
@[simp] theorem Tryz.ty45 : tyOf Tryz.prog 45 = some ⟨.struct [(0, 3), (1, 3), (2, 3), (3, 4)], 4, 32, [.lit (.int .i64 0), .lit (.int .i64 0), .lit (.int .i64 0), .lit (.bool false)], true⟩ := by kernel_rfl
@[simp] theorem Tryz.ty47 : tyOf Tryz.prog 47 = some ⟨.struct [(0, 3), (1, 45)], 5, 40, [.lit (.int .i64 0), .lit (.int .i64 0), .lit (.int .i64 0), .lit (.int .i64 0), .lit (.bool false)], true⟩ := by kernel_rfl
@[simp] theorem Tryz.ty49 : tyOf Tryz.prog 49 = some ⟨.slice 45, 1, 24, [.sl [] .full], false⟩ := by kernel_rfl
@[simp] theorem Tryz.ty51 : tyOf Tryz.prog 51 = some ⟨.struct [(0, 3), (1, 3), (2, 49), (3, 4)], 4, 48, [.lit (.int .i64 0), .lit (.int .i64 0), .sl [] .full, .lit (.bool false)], false⟩ := by kernel_rfl
@[simp] theorem Tryz.ty53 : tyOf Tryz.prog 53 = some ⟨.struct [(0, 3), (1, 4), (2, 51)], 6, 64, [.lit (.int .i64 0), .lit (.bool false), .lit (.int .i64 0), .lit (.int .i64 0), .sl [] .full, .lit (.bool false)], false⟩ := by kernel_rfl
@[simp] theorem Tryz.ty55 : tyOf Tryz.prog 55 = some ⟨.slice 101, 1, 24, [.sl [] .full], false⟩ := by kernel_rfl
@[simp] theorem Tryz.ty59 : tyOf Tryz.prog 59 = some ⟨.int .u16, 1, 2, [.lit (.int .u16 0)], true⟩ := by kernel_rfl
@[simp] theorem Tryz.ty60 : tyOf Tryz.prog 60 = some ⟨.int .u32, 1, 4, [.lit (.int .u32 0)], true⟩ := by kernel_rfl
@[simp] theorem Tryz.ty61 : tyOf Tryz.prog 61 = some ⟨.slice 60, 1, 24, [.sl [] .full], false⟩ := by kernel_rfl
@[simp] theorem Tryz.ty63 : tyOf Tryz.prog 63 = some ⟨.struct [(0, 4), (1, 5), (2, 59), (3, 60), (4, 60), (5, 61), (6, 4), (7, 59), (8, 9), (9, 9), (10, 3)], 11, 88, [.lit (.bool false), .lit (.int .u8 0), .lit (.int .u16 0), .lit (.int .u32 0), .lit (.int .u32 0), .sl [] .full, .lit (.bool false), .lit (.int .u16 0), .lit (.string ⟨⟨[]⟩⟩), .lit (.string ⟨⟨[]⟩⟩), .lit (.int .i64 0)], false⟩ := by kernel_rfl
@[simp] theorem Tryz.ty64 : tyOf Tryz.prog 64 = some ⟨.int .i64, 1, 8, [.lit (.int .i64 0)], true⟩ := by kernel_rfl
@[simp] theorem Tryz.ty69 : tyOf Tryz.prog 69 = some ⟨.struct [(0, 4), (1, 4), (2, 3), (3, 3), (4, 4), (5, 3), (6, 3), (7, 4), (8, 3)], 9, 64, [.lit (.bool false), .lit (.bool false), .lit (.int .i64 0), .lit (.int .i64 0), .lit (.bool false), .lit (.int .i64 0), .lit (.int .i64 0), .lit (.bool false), .lit (.int .i64 0)], true⟩ := by kernel_rfl
@[simp] theorem Tryz.ty73 : tyOf Tryz.prog 73 = some ⟨.struct [(0, 60), (1, 60)], 2, 8, [.lit (.int .u32 0), .lit (.int .u32 0)], true⟩ := by kernel_rfl
@[simp] theorem Tryz.ty76 : tyOf Tryz.prog 76 = some ⟨.int .u64, 1, 8, [.lit (.int .u64 0)], true⟩ := by kernel_rfl
@[simp] theorem Tryz.ty79 : tyOf Tryz.prog 79 = some ⟨.struct [(0, 3), (1, 3), (2, 3), (3, 4)], 4, 32, [.lit (.int .i64 0), .lit (.int .i64 0), .lit (.int .i64 0), .lit (.bool false)], true⟩ := by kernel_rfl
@[simp] theorem Tryz.ty89 : tyOf Tryz.prog 89 = some ⟨.map 3 97, 1, 8, [.lit (.map none)], false⟩ := by kernel_rfl
@[simp] theorem Tryz.ty90 : tyOf Tryz.prog 90 = some ⟨.ptr 171, 1, 8, [.lit (.pointer none)], false⟩ := by kernel_rfl
@[simp] theorem Tryz.ty92 : tyOf Tryz.prog 92 = some ⟨.struct [(0, 36), (5, 89), (6, 90), (7, 3), (8, 3)], 9, 72, [.lit (.int .i64 0), .lit (.int .i64 0), .lit (.int .i64 0), .lit (.int .i64 0), .lit (.int .i64 0), .lit (.map none), .lit (.pointer none), .lit (.int .i64 0), .lit (.int .i64 0)], false⟩ := by kernel_rfl
@[simp] theorem Tryz.ty95 : tyOf Tryz.prog 95 = some ⟨.ptr 168, 1, 8, [.lit (.pointer none)], false⟩ := by kernel_rfl
@[simp] theorem Tryz.ty97 : tyOf Tryz.prog 97 = some ⟨.struct [(0, 95), (1, 4)], 2, 16, [.lit (.pointer none), .lit (.bool false)], false⟩ := by kernel_rfl
@[simp] theorem Tryz.ty101 : tyOf Tryz.prog 101 = some ⟨.struct [(0, 3), (1, 79)], 5, 40, [.lit (.int .i64 0), .lit (.int .i64 0), .lit (.int .i64 0), .lit (.int .i64 0), .lit (.bool false)], true⟩ := by kernel_rfl
@[simp] theorem Tryz.ty115 : tyOf Tryz.prog 115 = some ⟨.slice 5, 1, 24, [.sl [] .full], false⟩ := by kernel_rfl
@[simp] theorem Tryz.ty117 : tyOf Tryz.prog 117 = some ⟨.struct [(0, 114), (1, 115)], 2, 32, [.lit (.pointer none), .sl [] .full], false⟩ := by kernel_rfl
@[simp] theorem Tryz.ty119 : tyOf Tryz.prog 119 = some ⟨.struct [(0, 117)], 2, 32, [.lit (.pointer none), .sl [] .full], false⟩ := by kernel_rfl
@[simp] theorem Tryz.ty126 : tyOf Tryz.prog 126 = some ⟨.slice 128, 1, 24, [.sl [] .full], false⟩ := by kernel_rfl
@[simp] theorem Tryz.ty128 : tyOf Tryz.prog 128 = some ⟨.iface, 1, 16, [.lit .nilIface], false⟩ := by kernel_rfl
@[simp] theorem Tryz.ty135 : tyOf Tryz.prog 135 = some ⟨.slice 79, 1, 24, [.sl [] .full], false⟩ := by kernel_rfl
@[simp] theorem Tryz.ty147 : tyOf Tryz.prog 147 = some ⟨.slice 3, 1, 24, [.sl [] .full], false⟩ := by kernel_rfl
@[simp] theorem Tryz.ty163 : tyOf Tryz.prog 163 = some ⟨.slice 165, 1, 24, [.sl [] .full], false⟩ := by kernel_rfl
@[simp] theorem Tryz.ty165 : tyOf Tryz.prog 165 = some ⟨.struct [(0, 3), (1, 3)], 2, 16, [.lit (.int .i64 0), .lit (.int .i64 0)], true⟩ := by kernel_rfl
@[simp] theorem Tryz.ty168 : tyOf Tryz.prog 168 = some ⟨.struct [(0, 3), (1, 3), (2, 135), (3, 3), (4, 4)], 5, 56, [.lit (.int .i64 0), .lit (.int .i64 0), .sl [] .full, .lit (.int .i64 0), .lit (.bool false)], false⟩ := by kernel_rfl
@[simp] theorem Tryz.ty171 : tyOf Tryz.prog 171 = some ⟨.struct [(0, 3), (1, 38), (2, 38), (3, 3), (4, 4)], 5, 40, [.lit (.int .i64 0), .lit (.map none), .lit (.map none), .lit (.int .i64 0), .lit (.bool false)], false⟩ := by kernel_rfl
@[simp] theorem Tryz.ty173 : tyOf Tryz.prog 173 = some ⟨.struct [(0, 9), (1, 64)], 2, 24, [.lit (.string ⟨⟨[]⟩⟩), .lit (.int .i64 0)], true⟩ := by kernel_rfl
@[simp] theorem Tryz.ty174 : tyOf Tryz.prog 174 = some ⟨.int .u64, 1, 8, [.lit (.int .u64 0)], true⟩ := by kernel_rfl
@[simp] theorem Tryz.ty180 : tyOf Tryz.prog 180 = some ⟨.slice 59, 1, 24, [.sl [] .full], false⟩ := by kernel_rfl
@[simp] theorem Tryz.ty182 : tyOf Tryz.prog 182 = some ⟨.slice 9, 1, 24, [.sl [] .full], false⟩ := by kernel_rfl
@[simp] theorem Tryz.ty184 : tyOf Tryz.prog 184 = some ⟨.iface, 1, 16, [.lit .nilIface], false⟩ := by kernel_rfl
@[simp] theorem Tryz.ty191 : tyOf Tryz.prog 191 = some ⟨.slice 192, 1, 24, [.sl [] .full], false⟩ := by kernel_rfl
@[simp] theorem Tryz.ty192 : tyOf Tryz.prog 192 = some ⟨.struct [(0, 3), (1, 3)], 2, 16, [.lit (.int .i64 0), .lit (.int .i64 0)], true⟩ := by kernel_rfl
@[simp] theorem Tryz.ty197 : tyOf Tryz.prog 197 = some ⟨.struct [(0, 3), (1, 3), (2, 3)], 3, 24, [.lit (.int .i64 0), .lit (.int .i64 0), .lit (.int .i64 0)], true⟩ := by kernel_rfl
@[simp] theorem Tryz.ty211 : tyOf Tryz.prog 211 = some ⟨.slice 174, 1, 24, [.sl [] .full], false⟩ := by kernel_rfl
@[simp] theorem Tryz.impl184_73 : implOf Tryz.prog 184 73 = some true := by kernel_rfl
@[simp] theorem Tryz.meth73_148 : methOf Tryz.prog 73 "Head" = some 148 := by kernel_rfl
@[simp] theorem Tryz.meth73_149 : methOf Tryz.prog 73 "antiphon/rtcp.put" = some 149 := by kernel_rfl
theorem cw {f : FuncId} {fn : Func} {c : Code} (hf : Tryz.prog.funcs[f]? = some fn) (hb : fn.body = some c) (hname : (fn.name == "runtime.NumGoroutine") = false) {l : List AV} {M : List AObj} {out : Out} {rs : List ResultVar} (hrs : fn.results.toList = rs) {n : Nat} (hn : fn.ntmps = n) (hl : l.length ≤ n)
    (h : out.obl → belM M.length M → belL M.length l → AWp Tryz.prog n M.length c (retPost Tryz.ty rs out M) ⟨argsE 0 l, M⟩) : CallOk Tryz.prog f l M out := call_of_awp Tryz.tyOk hf hb hname hrs hn hl h
theorem tq {Γ : Gam} (hΓ : GamOk Tryz.prog Γ) {n B : Nat} {Q : Exit → St → Prop} {σ : St} {id : Nat} {ops : Array Oper} (keep dead : List Nat) {A : Env} {M : List AObj} {y : Code} (h2 : AWp Tryz.prog n B y Q ⟨A, M⟩) (h : regE keep dead ops.toList σ ⟨A, M⟩ (runR Tryz.ty Γ ops ops.toList σ.A σ.M) := by simp; exact rr) (hd : dstsOk ops n ops.toList [] = true := by kernel_rfl) (hn : noTags σ.A = true := by rfl) : AWp Tryz.prog n B (.seq (.region id ops false) y) Q σ := AWp.thn (AWp.reg Tryz.tyOk hΓ (keep := keep) (dead := dead) hd hn h) h2
theorem tl {Γ : Gam} (hΓ : GamOk Tryz.prog Γ) {n B : Nat} {Q : Exit → St → Prop} {σ : St} {id : Nat} {ops : Array Oper} (keep dead : List Nat) {A : Env} {M : List AObj} (h2 : Q .normal ⟨A, M⟩) (h : regE keep dead ops.toList σ ⟨A, M⟩ (runR Tryz.ty Γ ops ops.toList σ.A σ.M) := by simp; exact rr) (hd : dstsOk ops n ops.toList [] = true := by kernel_rfl) (hn : noTags σ.A = true := by rfl) : AWp Tryz.prog n B (.region id ops false) Q σ := AWp.lst (AWp.reg Tryz.tyOk hΓ (keep := keep) (dead := dead) hd hn h) h2
theorem td {Γ : Gam} (hΓ : GamOk Tryz.prog Γ) {n B : Nat} {Q : Exit → St → Prop} {σ : St} {id : Nat} {ops : Array Oper} (keep dead : List Nat) (ps : List (Nat × Nat)) (info : List (Bool × List Nat)) {A : Env} {M : List AObj} (h : regF Tryz.ty Γ ps info keep dead ops.toList σ ⟨A, M⟩ (runR Tryz.ty Γ ops ops.toList σ.A σ.M)) {y : Code} (h2 : AWp Tryz.prog n B y Q ⟨A, M⟩) (hd : drawB n ps ops.toList info = true := by kernel_rfl) (hn : noTags σ.A = true := by rfl) : AWp Tryz.prog n B (.seq (.region id ops true) y) Q σ := AWp.thn (AWp.regD Tryz.mixed Tryz.tyOk hΓ (keep := keep) (dead := dead) ps info hd hn h) h2
end Go.Proofs

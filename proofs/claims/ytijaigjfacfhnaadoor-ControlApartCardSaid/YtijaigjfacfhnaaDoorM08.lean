/- That these functions compute what their plain functions do. No condition. -/
import Derived.Test.YtijaigjfacfhnaaDoorM07
import Derived.Test.YtijaigjfacfhnaaDoorTy
import Derived.Test.YtijaigjfacfhnaaDoorM02
import Derived.Test.YtijaigjfacfhnaaDoorCa
import Derived.Test.YtijaigjfacfhnaaDoorCe
import Derived.Test.YtijaigjfacfhnaaDoorCd
import Derived.Test.YtijaigjfacfhnaaDoorCb
import Derived.Test.YtijaigjfacfhnaaDoorM05
import Derived.Test.YtijaigjfacfhnaaDoorAb8
import Derived.Test.YtijaigjfacfhnaaDoorCc
section
namespace Go.Proofs
open Go.Ab
@[simp] def gLaw07ControlReads.out (_x0 : ByteArray) (r : Bool) : Out := { av := .lit (.bool r), M := none }
def gLaw07ControlReads.fin (x0 : ByteArray) (r : Bool) (σ : St) : Prop := finK (gLaw07ControlReads.out x0 r) [] σ.M (resA Tryd.ty σ.A σ.M Tryd.f3.results.toList)
set_option maxHeartbeats 4000000 in
set_option maxRecDepth 100000 in
theorem gLaw07ControlReads.can (x0 : ByteArray) (r : Bool) (hr : gLaw07ControlReads x0 = some r) : CallOk Tryd.prog 3 [.lit (.string x0)] [] (gLaw07ControlReads.out x0 r) := by
  unfold gLaw07ControlReads at hr
  have hΓ := (gamL_cons gControlCommandCheck.ok (gamL_cons gControlCommandText.ok (gamL_cons gLaw01Cut.ok (gamL_cons gLaw07Same.ok (gamL_cons gLaw07Awake.ok (gamL_cons gRef07Parse.ok (gamL_cons gControlParse.ok (gamL_nil))))))) : GamOk Tryd.prog _)
  refine call_of_awp Tryd.tyOk Tryd.func3 rfl (by kernel_rfl) rfl rfl (by simp) ?_
  intro _ _ _
  refine AWp.then ⟨[⟨0, none, .lit (.string x0)⟩], []⟩ (AWp.reg Tryd.tyOk hΓ (keep := []) (dead := []) (by kernel_rfl) rfl (by simp)) ?_
  obtain ⟨r1, h8, hr⟩ := bind_some' hr
  refine AWp.then ⟨[⟨0, none, .lit (.string r1)⟩], []⟩ (AWp.reg Tryd.tyOk hΓ (keep := [0]) (dead := []) (by kernel_rfl) rfl (by simp [h8])) ?_
  obtain ⟨r2, h9, hr⟩ := bind_some' hr
  refine AWp.then ⟨[⟨3, none, .ptr 0 0⟩, ⟨4, none, .lit (.int .i64 r2.2)⟩, ⟨0, none, .lit (.string r1)⟩], [.blk r2.1.enc]⟩ (AWp.reg Tryd.tyOk hΓ (keep := [3, 4]) (dead := []) (by kernel_rfl) rfl (by simp [h9])) ?_
  obtain ⟨r3, h10, hr⟩ := bind_some' hr
  refine AWp.then ⟨[⟨5, none, .ptr 1 0⟩, ⟨6, none, .lit (.int .i64 r3.2)⟩, ⟨3, none, .ptr 0 0⟩, ⟨4, none, .lit (.int .i64 r2.2)⟩, ⟨0, none, .lit (.string r1)⟩], [.blk r2.1.enc, .blk r3.1.enc]⟩ (AWp.reg Tryd.tyOk hΓ (keep := [5, 6]) (dead := []) (by kernel_rfl) rfl (by simp [h10])) ?_
  obtain ⟨r4, h11, hr⟩ := bind_some' hr
  obtain ⟨h12, hr⟩ := need_some hr
  obtain ⟨h13, hr⟩ := need_some hr
  obtain ⟨h14, hr⟩ := need_some hr
  refine AWp.then ⟨[⟨2, none, .lit (.bool (pickB (pickB (pickB r4 (eqI r2.2 r3.2) false) (eqI ((gLaw07Same r2.1 r3.1).getD dflt) 0) false) (pickB (neI r3.2 0) true (pickB (eqS ((gControlCommandText r2.1).getD dflt) r1) (eqI ((gControlCommandCheck r2.1).getD dflt) 0) false)) false))⟩], [.blk r2.1.enc, .blk r3.1.enc]⟩ (AWp.reg Tryd.tyOk hΓ (keep := [2]) (dead := [5, 6, 3, 4, 0]) (by kernel_rfl) rfl (by simp [h11, h12, h13, h14])) ?_
  refine AWp.ret ?_
  obtain rfl := some_inj hr
  refine fin_ret ?_
  simp

@[simp] noncomputable def gLaw07ControlReads.S : Sp
  | [.lit (.string x0)], _ => some { av := .lit (.bool ((gLaw07ControlReads x0).getD dflt)), M := none, obl := (gLaw07ControlReads x0).isSome = true }
  | _, _ => none

set_option maxHeartbeats 1000000 in
theorem gLaw07ControlReads.ok : SpecOk Tryd.prog 3 gLaw07ControlReads.S := by
  intro l M out h
  unfold gLaw07ControlReads.S at h
  split at h
  · rename_i x0
    cases h
    refine callOk_of fun ho => ?_
    have hs := ho
    obtain ⟨r, hr⟩ := Option.isSome_iff_exists.1 hs
    simp only [hr, Option.getD_some]
    have q := call_frame (M := M) [] (gLaw07ControlReads.can x0 r hr) (by simp) rfl (by intro k i hk; simp at hk)
    exact callOk_conv q trivial (by simp) (by simp [frameOut, gLaw07ControlReads.out]) (by simp [frameOut, gLaw07ControlReads.out])
  · cases h
end Go.Proofs
end
section
namespace Go.Ab
theorem eqI_d (a b : Int) : eqI a b = decide (a = b) := by
  unfold eqI; by_cases h : a = b <;> simp [h]
theorem neI_d (a b : Int) : neI a b = decide (a ≠ b) := by
  unfold neI; by_cases h : a = b <;> simp [h]
theorem ltI_d (a b : Int) : ltI a b = decide (a < b) := rfl
theorem leI_d (a b : Int) : leqI a b = decide (a ≤ b) := rfl
theorem eqI_t {a b : Int} (h : a = b) : eqI a b = true := by rw [eqI_d]; exact decide_eq_true h
theorem eqI_f {a b : Int} (h : a ≠ b) : eqI a b = false := by rw [eqI_d]; exact decide_eq_false h
theorem neI_t {a b : Int} (h : a ≠ b) : neI a b = true := by rw [neI_d]; exact decide_eq_true h
theorem neI_f {a b : Int} (h : a = b) : neI a b = false := by rw [neI_d]; exact decide_eq_false (fun q => q h)
theorem ltI_t {a b : Int} (h : a < b) : ltI a b = true := decide_eq_true h
theorem ltI_f {a b : Int} (h : ¬ a < b) : ltI a b = false := decide_eq_false h
theorem leI_t {a b : Int} (h : a ≤ b) : leqI a b = true := decide_eq_true h
theorem leI_f {a b : Int} (h : ¬ a ≤ b) : leqI a b = false := decide_eq_false h
theorem eqB_d (a b : Bool) : eqB a b = decide (a = b) := by cases a <;> cases b <;> rfl
theorem neB_d (a b : Bool) : neB a b = decide (a ≠ b) := by cases a <;> cases b <;> rfl
theorem notB_d (a : Bool) : notB a = !a := rfl
theorem pickB_and (x y : Bool) : pickB x y false = (x && y) := by cases x <;> rfl
theorem pickB_or (x y : Bool) : pickB x true y = (x || y) := by cases x <;> rfl
theorem minI_d (a b : Int) : minI a b = min a b := rfl
theorem maxI_d (a b : Int) : maxI a b = max a b := rfl
theorem addI_n {a b : Int} (h0 : -9223372036854775808 ≤ a + b) (h1 : a + b < 9223372036854775808) : addI .i64 a b = a + b := wrap64_of h0 h1
theorem subI_n {a b : Int} (h0 : -9223372036854775808 ≤ a - b) (h1 : a - b < 9223372036854775808) : subI .i64 a b = a - b := wrap64_of h0 h1
theorem mulI_n {a b : Int} (h0 : -9223372036854775808 ≤ a * b) (h1 : a * b < 9223372036854775808) : mulI .i64 a b = a * b := wrap64_of h0 h1
theorem tdiv_bounds {a b : Int} (h : 0 ≤ a) (hb : 0 < b) : 0 ≤ a.tdiv b ∧ a.tdiv b ≤ a := by
  rw [Int.tdiv_eq_ediv_of_nonneg h]
  exact ⟨Int.ediv_nonneg h (by omega), Int.ediv_le_self _ h⟩
theorem quoI_n {a b : Int} (h : 0 ≤ a) (h2 : a < 9223372036854775808) (hb : 0 < b) : quoI .i64 a b = a / b := by
  have := tdiv_bounds h hb
  unfold quoI
  rw [wrap64_of (by omega) (by omega), Int.tdiv_eq_ediv_of_nonneg h]
theorem need_t {α : Type} {p : Prop} {x : Option α} (h : p) : need p x = x := by unfold need; rw [if_pos h]
@[simp] theorem need_true {α : Type} (x : Option α) : need True x = x := need_t trivial
@[simp] theorem flC_go {V X : Type} (v : V) (k : V → Option X) : flC (.go v) k = k v := rfl
@[simp] theorem flC_out {V X : Type} (x : X) (k : V → Option X) : flC (.out x) k = some x := rfl
@[simp] theorem bind_so {α β : Type} (x : α) (k : α → Option β) : (some x).bind k = k x := rfl
@[simp] theorem getD_so {α : Type} (x y : α) : (some x).getD y = x := rfl
theorem under_iff {e : Bool} {b : Bool} {p : Prop} : Under e b p ↔ (e = b → p) := Iff.rfl
theorem under_of {e : Bool} {b : Bool} {p : Prop} (h : p) : Under e b p := fun _ => h
theorem InB_iff {n m : Int} : InB n m ↔ 0 ≤ n ∧ n < m := Iff.rfl
theorem lenL_nn {α : Type} (l : List α) : 0 ≤ lenL l := by unfold lenL; omega
theorem optC_none {α β : Type} (x : α) (k : β → α) : optC (none : Option β) x k = x := rfl
theorem optC_some {α β : Type} (b : β) (x : α) (k : β → α) : optC (some b) x k = k b := rfl
theorem notB_t' : notB false = true := rfl
theorem notB_f' : notB true = false := rfl
/-- What a round must come to. -/
def RoundP {S T : Type} (I : S → Prop) (Q : T → Prop) (μ : S → Nat) (s : S) : Option (Fl S T) → Prop
  | some (.go s') => I s' ∧ μ s' < μ s
  | some (.out t) => Q t
  | none => False
theorem loop_ends {S T : Type} {body : S → Option (Fl S T)} (I : S → Prop) (Q : T → Prop) (μ : S → Nat) (h : ∀ s, I s → RoundP I Q μ s (body s)) (s : S) (hs : I s) : ∃ t, loopF body s = some t ∧ Q t :=
  loopF_ends I Q μ (fun s hI => by
    have q := h s hI
    cases hb : body s with
    | none => rw [hb] at q; exact q.elim
    | some f =>
      rw [hb] at q
      refine ⟨f, rfl, ?_⟩
      cases f <;> exact q) s hs
end Go.Ab
end
section
namespace Go.Proofs
open Go.Ab
@[simp] def gLaw07ControlChecks.out (_x0 : Antiphonref07Command) (r : Bool) : Out := { av := .lit (.bool r), M := none }
def gLaw07ControlChecks.fin (x0 : Antiphonref07Command) (r : Bool) (σ : St) : Prop := finK (gLaw07ControlChecks.out x0 r) [] σ.M (resA Tryd.ty σ.A σ.M Tryd.f4.results.toList)
set_option maxHeartbeats 4000000 in
set_option maxRecDepth 100000 in
theorem gLaw07ControlChecks.can (x0 : Antiphonref07Command) (r : Bool) (hr : gLaw07ControlChecks x0 = some r) : CallOk Tryd.prog 4 [.agg [.lit (.int .i64 x0.fKind), .lit (.string x0.fRoom), .lit (.string x0.fName), .lit (.int .i64 x0.fPeer), .lit (.int .i64 x0.fOf), .lit (.int .i64 x0.fTrack), .lit (.int .i64 x0.fLayer), .lit (.bool x0.fOn), .lit (.bool x0.fVideo), .sl (x0.fSsrcs.map (eNum .u32)) .no]] [] (gLaw07ControlChecks.out x0 r) := by
  unfold gLaw07ControlChecks at hr
  have hΓ := (gamL_cons gControlCommandCheck.ok (gamL_cons gControlCommandText.ok (gamL_cons gLaw07Few.ok (gamL_cons gLaw07Same.ok (gamL_cons gLaw07Told.ok (gamL_cons gLaw07Awake.ok (gamL_cons gRef07Check.ok (gamL_cons gRef07Text.ok (gamL_cons gControlParse.ok (gamL_nil))))))))) : GamOk Tryd.prog _)
  refine call_of_awp Tryd.tyOk Tryd.func4 rfl (by kernel_rfl) rfl rfl (by simp) ?_
  intro _ _ _
  refine AWp.then ⟨[⟨1, none, .ptr 0 0⟩], [.blk x0.enc]⟩ (AWp.reg Tryd.tyOk hΓ (keep := [1]) (dead := [0]) (by kernel_rfl) rfl (by simp)) ?_
  obtain ⟨r1, h13, hr⟩ := bind_some' hr
  refine AWp.then ⟨[⟨1, none, .ptr 0 0⟩], [.blk r1.enc]⟩ (AWp.reg Tryd.tyOk hΓ (keep := []) (dead := []) (by kernel_rfl) rfl (by simp [h13])) ?_
  obtain ⟨r2, h14, hr⟩ := bind_some' hr
  refine AWp.then ⟨[⟨3, none, .lit (.int .i64 r2)⟩, ⟨1, none, .ptr 0 0⟩], [.blk r1.enc]⟩ (AWp.reg Tryd.tyOk hΓ (keep := [3]) (dead := []) (by kernel_rfl) rfl (by simp [h14])) ?_
  refine AWp.seq ?_
  obtain ⟨r3, h15, hr⟩ := bind_some' hr
  obtain ⟨h16, hr⟩ := need_some hr
  obtain ⟨h17, hr⟩ := need_some hr
  refine AWp.then ⟨[⟨18, none, .lit (.bool (pickB (notB r3) true (neI r2 ((gRef07Check ((gLaw07Told r1).getD dflt)).getD dflt))))⟩, ⟨3, none, .lit (.int .i64 r2)⟩, ⟨1, none, .ptr 0 0⟩], [.blk r1.enc]⟩ (AWp.reg Tryd.tyOk hΓ (keep := [18]) (dead := []) (by kernel_rfl) rfl (by simp [h15, h16, h17])) ?_
  refine AWp.cond (b := (pickB (notB r3) true (neI r2 ((gRef07Check ((gLaw07Told r1).getD dflt)).getD dflt)))) (by simp) (fun h18 => ?_) (fun h18 => ?_)
  · have hr := cond_t h18 hr
    refine AWp.then ⟨[⟨2, none, .lit (.bool false)⟩], [.blk r1.enc]⟩ (AWp.reg Tryd.tyOk hΓ (keep := [2]) (dead := [18, 3, 1]) (by kernel_rfl) rfl (by simp [h18])) ?_
    refine AWp.ret ?_
    obtain rfl := some_inj hr
    refine fin_ret ?_
    simp
  · have hr := cond_f h18 hr
    refine AWp.skip ?_
    refine AWp.seq ?_
    refine AWp.then ⟨[⟨20, none, .lit (.bool (neI r2 0))⟩, ⟨1, none, .ptr 0 0⟩], [.blk r1.enc]⟩ (AWp.reg Tryd.tyOk hΓ (keep := [20]) (dead := [18, 3]) (by kernel_rfl) rfl (by simp [h18])) ?_
    refine AWp.cond (b := (neI r2 0)) (by simp) (fun h19 => ?_) (fun h19 => ?_)
    · have hr := cond_t h19 hr
      refine AWp.then ⟨[⟨2, none, .lit (.bool true)⟩], [.blk r1.enc]⟩ (AWp.reg Tryd.tyOk hΓ (keep := [2]) (dead := [20, 1]) (by kernel_rfl) rfl (by simp [h19])) ?_
      refine AWp.ret ?_
      obtain rfl := some_inj hr
      refine fin_ret ?_
      simp
    · have hr := cond_f h19 hr
      refine AWp.skip ?_
      obtain ⟨r4, h20, hr⟩ := bind_some' hr
      obtain ⟨r5, h21, hr⟩ := bind_some' hr
      refine AWp.then ⟨[⟨4, none, .ptr 1 0⟩, ⟨5, none, .lit (.int .i64 r5.2)⟩, ⟨1, none, .ptr 0 0⟩], [.blk r1.enc, .blk r5.1.enc]⟩ (AWp.reg Tryd.tyOk hΓ (keep := [4, 5]) (dead := [20]) (by kernel_rfl) rfl (by simp [h19, h20, h21])) ?_
      obtain ⟨r6, h22, hr⟩ := bind_some' hr
      obtain ⟨r7, h23, hr⟩ := bind_some' hr
      obtain ⟨h24, hr⟩ := need_some hr
      refine AWp.then ⟨[⟨2, none, .lit (.bool (pickB (pickB (eqS r4 r7) (eqI r5.2 0) false) (eqI ((gLaw07Same r5.1 r6).getD dflt) 0) false))⟩], [.blk r1.enc, .blk r5.1.enc]⟩ (AWp.regD Tryd.mixed Tryd.tyOk hΓ (keep := [2]) (dead := [4, 5, 1]) [] [(false, []), (false, []), (false, []), (false, []), (false, []), (false, []), (false, []), (false, [33]), (false, [33]), (false, []), (false, []), (false, [37]), (false, [37]), (false, [37]), (false, [37]), (false, [37]), (false, []), (false, [])] (by kernel_rfl) rfl (by simp [h20, h22, h23, h24])) ?_
      refine AWp.ret ?_
      obtain rfl := some_inj hr
      refine fin_ret ?_
      simp

@[simp] noncomputable def gLaw07ControlChecks.S : Sp
  | [.agg e0], _ => some { av := .lit (.bool ((gLaw07ControlChecks (Antiphonref07Command.dec e0)).getD dflt)), M := none, obl := WeakL e0 (Antiphonref07Command.enc (Antiphonref07Command.dec e0)) ∧ (gLaw07ControlChecks (Antiphonref07Command.dec e0)).isSome = true }
  | _, _ => none

set_option maxHeartbeats 1000000 in
theorem gLaw07ControlChecks.ok : SpecOk Tryd.prog 4 gLaw07ControlChecks.S := by
  intro l M out h
  unfold gLaw07ControlChecks.S at h
  split at h
  · rename_i e0
    cases h
    refine callOk_of fun ho => ?_
    obtain ⟨ox0, hs⟩ := ho
    generalize (Antiphonref07Command.dec e0) = x0 at *
    obtain ⟨r, hr⟩ := Option.isSome_iff_exists.1 hs
    simp only [hr, Option.getD_some]
    have q := call_frame (M := M) [] (gLaw07ControlChecks.can x0 r hr) (by simp) rfl (by intro k i hk; simp at hk)
    exact callOk_conv q trivial (by simp; exact ox0) (by simp [frameOut, gLaw07ControlChecks.out]) (by simp [frameOut, gLaw07ControlChecks.out])
  · cases h
end Go.Proofs
end

/- That these functions compute what their plain functions do. No condition. -/
import Derived.Test.YtbijdlgffebenaaQ05
import Derived.Test.YtbijdlgffebenaaTy
import Derived.Test.YtbijdlgffebenaaAb8
section
namespace Go.Proofs
open Go.Ab
@[simp] def gh.out (_x0 : List Int) (r : Int) : Out := { av := .lit (.int .i64 r), M := none }
def gh.fin (x0 : List Int) (r : Int) (σ : St) : Prop := finK (gh.out x0 r) [] σ.M (resA Try.ty σ.A σ.M Try.f58.results.toList)
set_option maxHeartbeats 4000000 in
set_option maxRecDepth 100000 in
theorem gh.can (x0 : List Int) (r : Int) (hr : gh x0 = some r) : CallOk Try.prog 58 [.sl (x0.map (eNum .i64)) .no] [] (gh.out x0 r) := by
 unfold gh at hr
 have hΓ := gamL_nil (P := Try.prog)
 refine Lf Try.tyOk Try.func58 rfl (by kernel_rfl) rfl rfl (by simp) ?_
 intro _ _ _
 refine AWp.then ⟨[⟨0, none, .sl (x0.map (eNum .i64)) .no⟩], []⟩ (AWp.reg Try.tyOk hΓ [] [] (by kernel_rfl) rfl (by simp)) ?_
 refine AWp.meetF (fun (v1 : Unit) (γ1 : Unit) => ⟨[⟨0, none, .sl (x0.map (eNum .i64)) .no⟩], []⟩) (gh.fin x0) hr (fun f hr => ?_) (fun v1 γ1 hr => ?_) (fun _ h => h)
 ·refine AWp.then ⟨[⟨7, none, .b (ltI (lenL x0) 1)⟩, ⟨0, none, .sl (x0.map (eNum .i64)) .no⟩], []⟩ (AWp.reg Try.tyOk hΓ [7] [] (by kernel_rfl) rfl (by simp)) ?_
  refine AWp.cond (b := (ltI (lenL x0) 1)) (by simp) (fun h5 => ?_) (fun h5 => ?_)
  ·have hr := Lj h5 hr
   cases hr
  ·have hr := Lk h5 hr
   refine AWp.skip ?_
   obtain rfl := La hr
   exact Lo () 0 (by first | (simp; done) | simp [h5])
 ·obtain ⟨h6, hr⟩ := Li hr
  refine AWp.then ⟨[⟨3, none, .n (nthI x0 0)⟩, ⟨0, none, .sl (x0.map (eNum .i64)) .no⟩], []⟩ (AWp.reg Try.tyOk hΓ [3] [] (by kernel_rfl) rfl (by simp [h6])) ?_
  refine AWp.seq ?_
  refine AWp.then ⟨[⟨4, none, .n 1⟩, ⟨3, none, .n (nthI x0 0)⟩, ⟨0, none, .sl (x0.map (eNum .i64)) .no⟩], []⟩ (AWp.reg Try.tyOk hΓ [4] [] (by kernel_rfl) rfl (by simp)) ?_
  refine AWp.loopE (fun (s2 : Int × Int) (γ2 : Unit) => ⟨[⟨4, none, .n s2.1⟩, ⟨3, none, .n s2.2⟩, ⟨0, none, .sl (x0.map (eNum .i64)) .no⟩], []⟩) (fun (v2 : Int) (γ2a : Unit) => ⟨[⟨3, none, .n v2⟩], []⟩) (gh.fin x0) hr () 0 (by simp) (fun s2 f γ2 hr => ?_) (fun v2 γ2a σ1 m1 hr hc => ?_) (fun _ h => h)
  ·unfold gh.loop2 at hr
   refine AWp.seq ?_
   refine AWp.then ⟨[⟨15, none, .b (ltI s2.1 (lenL x0))⟩, ⟨4, none, .n s2.1⟩, ⟨3, none, .n s2.2⟩, ⟨0, none, .sl (x0.map (eNum .i64)) .no⟩], []⟩ (AWp.reg Try.tyOk hΓ [15] [] (by kernel_rfl) rfl (by simp)) ?_
   refine AWp.cond (b := (ltI s2.1 (lenL x0))) (by simp) (fun h7 => ?_) (fun h7 => ?_)
   ·have hr := Lj h7 hr
    refine AWp.skip ?_
    refine AWp.seq ?_
    refine AWp.block ?_
    obtain ⟨h8, hr⟩ := Li hr
    refine AWp.last ⟨[⟨3, none, .n (minI s2.2 (nthI x0 s2.1))⟩, ⟨4, none, .n s2.1⟩, ⟨0, none, .sl (x0.map (eNum .i64)) .no⟩], []⟩ (AWp.reg Try.tyOk hΓ [3] [15] (by kernel_rfl) rfl (by simp [h7, h8])) ?_
    refine AWp.last ⟨[⟨4, none, .n (addI .i64 s2.1 1)⟩, ⟨3, none, .n (minI s2.2 (nthI x0 s2.1))⟩, ⟨0, none, .sl (x0.map (eNum .i64)) .no⟩], []⟩ (AWp.reg Try.tyOk hΓ [4] [] (by kernel_rfl) rfl (by simp)) ?_
    obtain rfl := La hr
    exact round_go () 0 (by first | (simp; done) | simp [h6, h7, h8])
   ·have hr := Lk h7 hr
    refine AWp.exit ?_
    obtain rfl := La hr
    exact round_out () 0 (by first | (simp; done) | simp [h6, h7])
  ·refine AWp.conv hc ?_
   refine AWp.then ⟨[⟨2, none, .n v2⟩], []⟩ (AWp.reg Try.tyOk hΓ [2] [3] (by kernel_rfl) rfl (by simp)) ?_
   refine AWp.ret ?_
   obtain rfl := La hr
   refine Lg ?_
   simp

@[simp] noncomputable def gh.S : Sp
 | [.sl e0 _], _ => some { av := .lit (.int .i64 ((gh (e0.map decI)).getD dflt)), M := none, obl := e0 = (e0.map decI).map (eNum .i64) ∧ (gh (e0.map decI)).isSome = true }
 | _, _ => none

set_option maxHeartbeats 1000000 in
theorem gh.ok : SpecOk Try.prog 58 gh.S := by
 intro l M out h
 unfold gh.S at h
 split at h
 ·rename_i e0 k0
  cases h
  refine callOk_of fun ho => ?_
  obtain ⟨ox0, hs⟩ := ho
  generalize (e0.map decI) = x0 at *
  subst ox0
  obtain ⟨r, hr⟩ := Option.isSome_iff_exists.1 hs
  simp only [hr, Option.getD_some]
  have q := Lh (M := M) [] (gh.can x0 r hr) (by simp) rfl (by intro k i hk; simp at hk)
  exact callOk_conv q trivial (by simp) (by simp [frameOut, gh.out]) (by simp [frameOut, gh.out])
 ·cases h
end Go.Proofs
end
section
namespace Go.Ab
theorem eqI_d (a b : Int) : eqI a b = decide (a = b) := by
  unfold eqI; by_cases h : a = b <;> simp [h]
theorem neI_d (a b : Int) : neI a b = decide (a ≠ b) := by
  unfold neI; by_cases h : a = b <;> simp [h]
theorem ltI_d (a b : Int) : ltI a b = decide (a < b) := rfl
theorem leI_d (a b : Int) : leqI a b = decide (a ≤ b) := rfl
theorem eqI_t {a b : Int} (h : a = b) : eqI a b = true := by rw [eqI_d]; exact decide_eq_true h
theorem eqI_f {a b : Int} (h : a ≠ b) : eqI a b = false := by rw [eqI_d]; exact decide_eq_false h
theorem neI_t {a b : Int} (h : a ≠ b) : neI a b = true := by rw [neI_d]; exact decide_eq_true h
theorem neI_f {a b : Int} (h : a = b) : neI a b = false := by rw [neI_d]; exact decide_eq_false (fun q => q h)
theorem ltI_t {a b : Int} (h : a < b) : ltI a b = true := decide_eq_true h
theorem ltI_f {a b : Int} (h : ¬ a < b) : ltI a b = false := decide_eq_false h
theorem leI_t {a b : Int} (h : a ≤ b) : leqI a b = true := decide_eq_true h
theorem leI_f {a b : Int} (h : ¬ a ≤ b) : leqI a b = false := decide_eq_false h
theorem eqB_d (a b : Bool) : eqB a b = decide (a = b) := by cases a <;> cases b <;> rfl
theorem neB_d (a b : Bool) : neB a b = decide (a ≠ b) := by cases a <;> cases b <;> rfl
theorem notB_d (a : Bool) : notB a = !a := rfl
theorem pickB_and (x y : Bool) : pickB x y false = (x && y) := by cases x <;> rfl
theorem pickB_or (x y : Bool) : pickB x true y = (x || y) := by cases x <;> rfl
theorem minI_d (a b : Int) : minI a b = min a b := rfl
theorem maxI_d (a b : Int) : maxI a b = max a b := rfl
theorem addI_n {a b : Int} (h0 : -9223372036854775808 ≤ a + b) (h1 : a + b < 9223372036854775808) : addI .i64 a b = a + b := Lu h0 h1
theorem subI_n {a b : Int} (h0 : -9223372036854775808 ≤ a - b) (h1 : a - b < 9223372036854775808) : subI .i64 a b = a - b := Lu h0 h1
theorem mulI_n {a b : Int} (h0 : -9223372036854775808 ≤ a * b) (h1 : a * b < 9223372036854775808) : mulI .i64 a b = a * b := Lu h0 h1
theorem tdiv_bounds {a b : Int} (h : 0 ≤ a) (hb : 0 < b) : 0 ≤ a.tdiv b ∧ a.tdiv b ≤ a := by
  rw [Int.tdiv_eq_ediv_of_nonneg h]
  exact ⟨Int.ediv_nonneg h (by omega), Int.ediv_le_self _ h⟩
theorem quoI_n {a b : Int} (h : 0 ≤ a) (h2 : a < 9223372036854775808) (hb : 0 < b) : quoI .i64 a b = a / b := by
  have := tdiv_bounds h hb
  unfold quoI
  rw [Lu (by omega) (by omega), Int.tdiv_eq_ediv_of_nonneg h]
theorem Le {α : Type} {p : Prop} {x : Option α} (h : p) : need p x = x := by unfold need; rw [if_pos h]
@[simp] theorem need_true {α : Type} (x : Option α) : need True x = x := Le trivial
@[simp] theorem flC_go {V X : Type} (v : V) (k : V → Option X) : flC (.go v) k = k v := rfl
@[simp] theorem flC_out {V X : Type} (x : X) (k : V → Option X) : flC (.out x) k = some x := rfl
@[simp] theorem Lb {α β : Type} (x : α) (k : α → Option β) : (some x).bind k = k x := rfl
@[simp] theorem getD_so {α : Type} (x y : α) : (some x).getD y = x := rfl
theorem under_iff {e : Bool} {b : Bool} {p : Prop} : Under e b p ↔ (e = b → p) := Iff.rfl
theorem under_of {e : Bool} {b : Bool} {p : Prop} (h : p) : Under e b p := fun _ => h
theorem InB_iff {n m : Int} : InB n m ↔ 0 ≤ n ∧ n < m := Iff.rfl
theorem lenL_nn {α : Type} (l : List α) : 0 ≤ lenL l := by unfold lenL; omega
theorem optC_none {α β : Type} (x : α) (k : β → α) : optC (none : Option β) x k = x := rfl
theorem optC_some {α β : Type} (b : β) (x : α) (k : β → α) : optC (some b) x k = k b := rfl
theorem notB_t' : notB false = true := rfl
theorem notB_f' : notB true = false := rfl
def RoundP {S T : Type} (I : S → Prop) (Q : T → Prop) (μ : S → Nat) (s : S) : Option (Fl S T) → Prop
  | some (.go s') => I s' ∧ μ s' < μ s
  | some (.out t) => Q t
  | none => False
theorem loop_ends {S T : Type} {body : S → Option (Fl S T)} (I : S → Prop) (Q : T → Prop) (μ : S → Nat) (h : ∀ s, I s → RoundP I Q μ s (body s)) (s : S) (hs : I s) : ∃ t, loopF body s = some t ∧ Q t :=
  loopF_ends I Q μ (fun s hI => by
    have q := h s hI
    cases hb : body s with
    | none => rw [hb] at q; exact q.elim
    | some f =>
      rw [hb] at q
      refine ⟨f, rfl, ?_⟩
      cases f <;> exact q) s hs
end Go.Ab
end

/- What comes in at the law, and that it answers true. No condition. -/
import Derived.Test.YtijaigjfacfhnaaDoorM04
import Derived.Test.YtijaigjfacfhnaaDoorVg
import Derived.Test.YtijaigjfacfhnaaDoorGd
import Derived.Test.YtijaigjfacfhnaaDoorTy
namespace Go.Proofs
open Go.Ab

set_option maxRecDepth 100000 in
theorem Antiphonref07Command.sh2 {av : AV} (h : ShV2 Tryd.prog 25 av) : ∃ x : Antiphonref07Command, av = .agg x.enc ∧ SsOk x := by
  obtain ⟨_, rfl, k⟩ := shV2_struct Tryd.ty25 h
  clear h
  obtain ⟨_, _, rfl, h0, k⟩ := k
  obtain ⟨x0, rfl, w0⟩ := sh2_int (k := .i64) (by kernel_rfl) h0
  obtain ⟨_, _, rfl, h1, k⟩ := k
  obtain ⟨x1, rfl, w1⟩ := sh2_string (by kernel_rfl) h1
  obtain ⟨_, _, rfl, h2, k⟩ := k
  obtain ⟨x2, rfl, w2⟩ := sh2_string (by kernel_rfl) h2
  obtain ⟨_, _, rfl, h3, k⟩ := k
  obtain ⟨x3, rfl, w3⟩ := sh2_int (k := .i64) (by kernel_rfl) h3
  obtain ⟨_, _, rfl, h4, k⟩ := k
  obtain ⟨x4, rfl, w4⟩ := sh2_int (k := .i64) (by kernel_rfl) h4
  obtain ⟨_, _, rfl, h5, k⟩ := k
  obtain ⟨x5, rfl, w5⟩ := sh2_int (k := .i64) (by kernel_rfl) h5
  obtain ⟨_, _, rfl, h6, k⟩ := k
  obtain ⟨x6, rfl, w6⟩ := sh2_int (k := .i64) (by kernel_rfl) h6
  obtain ⟨_, _, rfl, h7, k⟩ := k
  obtain ⟨x7, rfl⟩ := sh2_bool (by kernel_rfl) h7
  obtain ⟨_, _, rfl, h8, k⟩ := k
  obtain ⟨x8, rfl⟩ := sh2_bool (by kernel_rfl) h8
  obtain ⟨_, _, rfl, h9, k⟩ := k
  obtain ⟨x9, rfl, w9, v9⟩ := sh2_ints (k := .u32) (e := 44) (by kernel_rfl) (by kernel_rfl) h9
  obtain rfl := k
  exact ⟨Antiphonref07Command.mk x0 x1 x2 x3 x4 x5 x6 x7 x8 x9, by simp, fun x hx => by
    have := v9 x hx
    simp [Lit.wf, IntKind.min, IntKind.max, IntKind.signed, IntKind.bits] at this
    omega⟩

set_option maxRecDepth 100000 in
theorem gLaw07ControlCut_call : ∀ xs, ShAll2 Tryd.prog Tryd.f5.params.toList xs → ∃ o : Prop, o ∧ CallOk Tryd.prog 5 xs [] { av := .lit (.bool true), obl := o } := by
  intro xs h
  rw [show Tryd.f5.params.toList = [25, 3] by kernel_rfl] at h
  obtain ⟨_, _, rfl, h0, h⟩ := shAll2_cons h
  obtain ⟨_, _, rfl, h1, h⟩ := shAll2_cons h
  obtain rfl := shAll2_nil h
  obtain ⟨x0, rfl, w0⟩ := Antiphonref07Command.sh2 h0
  obtain ⟨x1, rfl, w1⟩ := shV2_int (k := .i64) (by kernel_rfl) h1
  exact ⟨True, trivial, gLaw07ControlCut.can x0 x1 true (controlCut_plain x0 x1 w0)⟩
end Go.Proofs

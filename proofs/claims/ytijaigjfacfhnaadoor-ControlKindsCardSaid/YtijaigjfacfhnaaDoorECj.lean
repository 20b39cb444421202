/- What comes in at the law, and that it answers true. No condition. -/
import Derived.Test.YtijaigjfacfhnaaDoorCj
import Derived.Test.YtijaigjfacfhnaaDoorVg
import Derived.Test.YtijaigjfacfhnaaDoorM07
import Derived.Test.YtijaigjfacfhnaaDoorTy
namespace Go.Proofs
open Go.Ab

set_option maxRecDepth 100000 in
theorem gLaw07ControlKinds_call : ∀ xs, ShAll Tryd.prog Tryd.f7.params.toList xs → ∃ o : Prop, o ∧ CallOk Tryd.prog 7 xs [] { av := .lit (.bool true), obl := o } := by
  intro xs h
  rw [show Tryd.f7.params.toList = [3, 3] by kernel_rfl] at h
  obtain ⟨_, _, rfl, h0, h⟩ := shAll_cons h
  obtain ⟨_, _, rfl, h1, h⟩ := shAll_cons h
  obtain rfl := shAll_nil h
  obtain ⟨x0, rfl, w0⟩ := shV_int (k := .i64) (by kernel_rfl) h0
  obtain ⟨x1, rfl, w1⟩ := shV_int (k := .i64) (by kernel_rfl) h1
  exact ⟨True, trivial, gLaw07ControlKinds.can x0 x1 true (controlKinds_plain x0 x1)⟩
end Go.Proofs

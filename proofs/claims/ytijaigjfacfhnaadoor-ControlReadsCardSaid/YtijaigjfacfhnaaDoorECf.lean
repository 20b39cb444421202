/- What comes in at the law, and that it answers true. No condition. -/
import Derived.Test.YtijaigjfacfhnaaDoorM08
import Derived.Test.YtijaigjfacfhnaaDoorVg
import Derived.Test.YtijaigjfacfhnaaDoorM07
import Derived.Test.YtijaigjfacfhnaaDoorTy
namespace Go.Proofs
open Go.Ab

set_option maxRecDepth 100000 in
theorem gLaw07ControlReads_call : ∀ xs, ShAll Tryd.prog Tryd.f3.params.toList xs → ∃ o : Prop, o ∧ CallOk Tryd.prog 3 xs [] { av := .lit (.bool true), obl := o } := by
  intro xs h
  rw [show Tryd.f3.params.toList = [9] by kernel_rfl] at h
  obtain ⟨_, _, rfl, h0, h⟩ := shAll_cons h
  obtain rfl := shAll_nil h
  obtain ⟨x0, rfl, w0⟩ := shV_string (by kernel_rfl) h0
  exact ⟨True, trivial, gLaw07ControlReads.can x0 true (controlReads_plain x0)⟩
end Go.Proofs

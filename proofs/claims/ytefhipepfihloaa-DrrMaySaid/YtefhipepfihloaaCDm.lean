/- What comes in at the law, and that it answers true. No condition. -/
import Derived.Test.YtefhipepfihloaaDm
import Derived.Test.YtefhipepfihloaaDu
import Derived.Test.YtefhipepfihloaaGm
import Derived.Test.YtefhipepfihloaaTy
namespace Go.Proofs
open Go.Ab

set_option maxRecDepth 100000 in
theorem gLaw19DrrMay_call : ∀ xs, ShAll Try.prog Try.f6.params.toList xs → ∃ o : Prop, o ∧ CallOk Try.prog 6 xs [] { av := .lit (.bool true), obl := o } := by
  intro xs h
  rw [show Try.f6.params.toList = [3, 3] by kernel_rfl] at h
  obtain ⟨_, _, rfl, h0, h⟩ := shAll_cons h
  obtain ⟨_, _, rfl, h1, h⟩ := shAll_cons h
  obtain rfl := shAll_nil h
  obtain ⟨x0, rfl, w0⟩ := shV_int (k := .i64) (by kernel_rfl) h0
  obtain ⟨x1, rfl, w1⟩ := shV_int (k := .i64) (by kernel_rfl) h1
  exact ⟨True, trivial, gLaw19DrrMay.can x0 x1 true (drrMay_plain x0 x1)⟩
end Go.Proofs

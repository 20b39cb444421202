/- What comes in at the law, and that it answers true. No condition. -/
import Derived.Test.YtkbfbedphdlgiaaRe
import Derived.Test.YtkbfbedphdlgiaaRk
import Derived.Test.YtkbfbedphdlgiaaGm
import Derived.Test.YtkbfbedphdlgiaaTy
namespace Go.Proofs
open Go.Ab

set_option maxRecDepth 100000 in
theorem gLaw09ReorderPerm_call : ∀ xs, ShAll Try.prog Try.f4.params.toList xs → ∃ o : Prop, o ∧ CallOk Try.prog 4 xs [] { av := .lit (.bool true), obl := o } := by
  intro xs h
  rw [show Try.f4.params.toList = [30] by kernel_rfl] at h
  obtain ⟨_, _, rfl, h0, h⟩ := shAll_cons h
  obtain rfl := shAll_nil h
  obtain ⟨x0, rfl, w0, _⟩ := shV_ints (k := .i64) (e := 3) (by kernel_rfl) (by kernel_rfl) h0
  exact ⟨True, trivial, gLaw09ReorderPerm.can x0 true (reorderPerm_true x0)⟩
end Go.Proofs

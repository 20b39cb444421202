/- What comes in at the law, and that it answers true. No condition. -/
import Derived.Test.YtbijdlgffebenaaIs
import Derived.Test.YtbijdlgffebenaaJs
import Derived.Test.YtbijdlgffebenaaM04
import Derived.Test.YtbijdlgffebenaaTy
namespace Go.Proofs
open Go.Ab

set_option maxRecDepth 100000 in
theorem gLaw11IngressSame_call : ∀ xs, ShAll Try.prog Try.f3.params.toList xs → ∃ o : Prop, o ∧ CallOk Try.prog 3 xs [] { av := .lit (.bool true), obl := o } := by
  intro xs h
  rw [show Try.f3.params.toList = [22, 23, 23] by kernel_rfl] at h
  obtain ⟨_, _, rfl, h0, h⟩ := shAll_cons h
  obtain ⟨_, _, rfl, h1, h⟩ := shAll_cons h
  obtain ⟨_, _, rfl, h2, h⟩ := shAll_cons h
  obtain rfl := shAll_nil h
  obtain ⟨x0, rfl, w0⟩ := shV_int (k := .u16) (by kernel_rfl) h0
  obtain ⟨x1, rfl, w1, _⟩ := shV_ints (k := .i64) (e := 3) (by kernel_rfl) (by kernel_rfl) h1
  obtain ⟨x2, rfl, w2, _⟩ := shV_ints (k := .i64) (e := 3) (by kernel_rfl) (by kernel_rfl) h2
  exact ⟨True, trivial, gLaw11IngressSame.can x0 x1 x2 true (ingressSame_plain x0 x1 x2)⟩
end Go.Proofs

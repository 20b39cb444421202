/- What comes in at the law, and that it answers true. No condition. -/
import Derived.Test.YtdcfbacpklklcaaLh
import Derived.Test.YtdcfbacpklklcaaLc
import Derived.Test.YtdcfbacpklklcaaGm
import Derived.Test.YtdcfbacpklklcaaTy
namespace Go.Proofs
open Go.Ab

theorem gLaw23LadderHolds_call : ∀ xs, ShAll Try.prog Try.f5.params.toList xs → ∃ o : Prop, o ∧ CallOk Try.prog 5 xs [] { av := .lit (.bool true), obl := o } := by
  intro xs h
  rw [show Try.f5.params.toList = [3, 3, 22, 22] by kernel_rfl] at h
  obtain ⟨_, _, rfl, h0, h⟩ := shAll_cons h
  obtain ⟨_, _, rfl, h1, h⟩ := shAll_cons h
  obtain ⟨_, _, rfl, h2, h⟩ := shAll_cons h
  obtain ⟨_, _, rfl, h3, h⟩ := shAll_cons h
  obtain rfl := shAll_nil h
  obtain ⟨x0, rfl, w0⟩ := shV_int (k := .i64) (by kernel_rfl) h0
  obtain ⟨x1, rfl, w1⟩ := shV_int (k := .i64) (by kernel_rfl) h1
  obtain ⟨x2, rfl, w2, _⟩ := shV_ints (k := .i64) (e := 3) (by kernel_rfl) (by kernel_rfl) h2
  obtain ⟨x3, rfl, w3, _⟩ := shV_ints (k := .i64) (e := 3) (by kernel_rfl) (by kernel_rfl) h3
  exact ⟨True, trivial, gLaw23LadderHolds.can x0 x1 x2 x3 true (holds_true x0 x1 x2 x3)⟩
end Go.Proofs

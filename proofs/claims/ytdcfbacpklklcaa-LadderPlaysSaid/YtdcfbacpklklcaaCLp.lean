/- What comes in at the law, and that it answers true. No condition. -/
import Derived.Test.YtdcfbacpklklcaaLp
import Derived.Test.YtdcfbacpklklcaaPy
import Derived.Test.YtdcfbacpklklcaaGm
import Derived.Test.YtdcfbacpklklcaaTy
namespace Go.Proofs
open Go.Ab

theorem gLaw23LadderPlays_call : ∀ xs, ShAll Try.prog Try.f6.params.toList xs → ∃ o : Prop, o ∧ CallOk Try.prog 6 xs [] { av := .lit (.bool true), obl := o } := by
  intro xs h
  rw [show Try.f6.params.toList = [3, 3, 3, 3, 22, 22] by kernel_rfl] at h
  obtain ⟨_, _, rfl, h0, h⟩ := shAll_cons h
  obtain ⟨_, _, rfl, h1, h⟩ := shAll_cons h
  obtain ⟨_, _, rfl, h2, h⟩ := shAll_cons h
  obtain ⟨_, _, rfl, h3, h⟩ := shAll_cons h
  obtain ⟨_, _, rfl, h4, h⟩ := shAll_cons h
  obtain ⟨_, _, rfl, h5, h⟩ := shAll_cons h
  obtain rfl := shAll_nil h
  obtain ⟨x0, rfl, w0⟩ := shV_int (k := .i64) (by kernel_rfl) h0
  obtain ⟨x1, rfl, w1⟩ := shV_int (k := .i64) (by kernel_rfl) h1
  obtain ⟨x2, rfl, w2⟩ := shV_int (k := .i64) (by kernel_rfl) h2
  obtain ⟨x3, rfl, w3⟩ := shV_int (k := .i64) (by kernel_rfl) h3
  obtain ⟨x4, rfl, w4, _⟩ := shV_ints (k := .i64) (e := 3) (by kernel_rfl) (by kernel_rfl) h4
  obtain ⟨x5, rfl, w5, _⟩ := shV_ints (k := .i64) (e := 3) (by kernel_rfl) (by kernel_rfl) h5
  exact ⟨True, trivial, gLaw23LadderPlays.can x0 x1 x2 x3 x4 x5 true (plays_true x0 x1 x2 x3 x4 x5)⟩
end Go.Proofs

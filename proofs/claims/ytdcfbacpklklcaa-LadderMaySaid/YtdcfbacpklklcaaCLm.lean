/- What comes in at the law, and that it answers true. No condition. -/
import Derived.Test.YtdcfbacpklklcaaLm
import Derived.Test.YtdcfbacpklklcaaMy
import Derived.Test.YtdcfbacpklklcaaGm
import Derived.Test.YtdcfbacpklklcaaTy
namespace Go.Proofs
open Go.Ab

theorem LadderConfig.sh {q : List AV} (h : ShE Try.prog 47 q) : ∃ x : LadderConfig, q = x.enc := by
  have k := sh_fields Try.ty47 h
  clear h
  obtain ⟨_, _, rfl, h0, k⟩ := k
  obtain ⟨x0, rfl, _⟩ := sh_int (k := .i64) (by kernel_rfl) h0
  obtain ⟨_, _, rfl, h1, k⟩ := k
  obtain ⟨x1, rfl, _⟩ := sh_int (k := .i64) (by kernel_rfl) h1
  obtain ⟨_, _, rfl, h2, k⟩ := k
  obtain ⟨x2, rfl, _⟩ := sh_int (k := .i64) (by kernel_rfl) h2
  obtain rfl := k
  exact ⟨LadderConfig.mk x0 x1 x2, by simp⟩

theorem gLaw23LadderMay_call : ∀ xs, ShAll Try.prog Try.f7.params.toList xs → ∃ o : Prop, o ∧ CallOk Try.prog 7 xs [] { av := .lit (.bool true), obl := o } := by
  intro xs h
  rw [show Try.f7.params.toList = [47, 3, 22] by kernel_rfl] at h
  obtain ⟨_, _, rfl, h0, h⟩ := shAll_cons h
  obtain ⟨_, _, rfl, h1, h⟩ := shAll_cons h
  obtain ⟨_, _, rfl, h2, h⟩ := shAll_cons h
  obtain rfl := shAll_nil h
  obtain ⟨_, rfl, k0⟩ := shV_agg Try.ty47 h0
  obtain ⟨x0, rfl⟩ := LadderConfig.sh k0
  obtain ⟨x1, rfl, w1⟩ := shV_int (k := .i64) (by kernel_rfl) h1
  obtain ⟨x2, rfl, w2, _⟩ := shV_ints (k := .i64) (e := 3) (by kernel_rfl) (by kernel_rfl) h2
  exact ⟨True, trivial, gLaw23LadderMay.can x0 x1 x2 true (may_true x0 x1 x2)⟩
end Go.Proofs

/- What comes in at the law, and that it answers true. No condition. -/
import Derived.Test.YtjjjeolcapebbaaGreatDoorPc
import Derived.Test.YtjjjeolcapebbaaGreatDoorPx
import Derived.Test.YtjjjeolcapebbaaGreatDoorM04
import Derived.Test.YtjjjeolcapebbaaGreatDoorTy
namespace Go.Proofs
open Go.Ab

set_option maxRecDepth 100000 in
theorem gLaw26SfuMay_call : ∀ xs, ShAll Tryz.prog Tryz.f3.params.toList xs → ∃ o : Prop, o ∧ CallOk Tryz.prog 3 xs [] { av := .lit (.bool true), obl := o } := by
  intro xs h
  rw [show Tryz.f3.params.toList = [22, 3, 3, 3, 3] by kernel_rfl] at h
  obtain ⟨_, _, rfl, h0, h⟩ := shAll_cons h
  obtain ⟨_, _, rfl, h1, h⟩ := shAll_cons h
  obtain ⟨_, _, rfl, h2, h⟩ := shAll_cons h
  obtain ⟨_, _, rfl, h3, h⟩ := shAll_cons h
  obtain ⟨_, _, rfl, h4, h⟩ := shAll_cons h
  obtain rfl := shAll_nil h
  obtain ⟨x0, rfl, w0, _⟩ := shV_ints (k := .i64) (e := 3) (by kernel_rfl) (by kernel_rfl) h0
  obtain ⟨x1, rfl, w1⟩ := shV_int (k := .i64) (by kernel_rfl) h1
  obtain ⟨x2, rfl, w2⟩ := shV_int (k := .i64) (by kernel_rfl) h2
  obtain ⟨x3, rfl, w3⟩ := shV_int (k := .i64) (by kernel_rfl) h3
  obtain ⟨x4, rfl, w4⟩ := shV_int (k := .i64) (by kernel_rfl) h4
  exact ⟨True, trivial, gLaw26SfuMay.can x0 x1 x2 x3 x4 true (sfuMay_plain x0 x1 x2 x3 x4)⟩
end Go.Proofs

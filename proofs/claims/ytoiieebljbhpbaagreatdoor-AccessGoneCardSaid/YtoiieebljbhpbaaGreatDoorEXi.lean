/- What comes in at the law, and that it answers true. No condition. -/
import Derived.Test.YtoiieebljbhpbaaGreatDoorM09
import Derived.Test.YtoiieebljbhpbaaGreatDoorM21
import Derived.Test.YtoiieebljbhpbaaGreatDoorGd
import Derived.Test.YtoiieebljbhpbaaGreatDoorTy
namespace Go.Proofs
open Go.Ab

set_option maxRecDepth 100000 in
theorem gLaw13AccessGone_call : ∀ xs, ShAll Tryz.prog Tryz.f7.params.toList xs → ∃ o : Prop, o ∧ CallOk Tryz.prog 7 xs [] { av := .lit (.bool true), obl := o } := by
 intro xs h
 rw [show Tryz.f7.params.toList = [3, 3, 4] by kernel_rfl] at h
 obtain ⟨_, _, rfl, h0, h⟩ := shAll_cons h
 obtain ⟨_, _, rfl, h1, h⟩ := shAll_cons h
 obtain ⟨_, _, rfl, h2, h⟩ := shAll_cons h
 obtain rfl := shAll_nil h
 obtain ⟨x0, rfl, w0⟩ := shV_int (k := .i64) (by kernel_rfl) h0
 obtain ⟨x1, rfl, w1⟩ := shV_int (k := .i64) (by kernel_rfl) h1
 obtain ⟨x2, rfl⟩ := shV_bool (by kernel_rfl) h2
 exact ⟨True, trivial, gz.can x0 x1 x2 true (accessGone_plain x0 x1 x2)⟩
end Go.Proofs

/- What comes in at the law, and that it answers true. No condition. -/
import Derived.Test.YtoaiieheibcnlaaDoorNh
import Derived.Test.YtoaiieheibcnlaaDoorNs
import Derived.Test.YtoaiieheibcnlaaDoorGm
import Derived.Test.YtoaiieheibcnlaaDoorTy
namespace Go.Proofs
open Go.Ab

set_option maxRecDepth 100000 in
theorem gLaw06LabelRunes_call : ∀ xs, ShAll Tryd.prog Tryd.f5.params.toList xs → ∃ o : Prop, o ∧ CallOk Tryd.prog 5 xs [] { av := .lit (.bool true), obl := o } := by
  intro xs h
  rw [show Tryd.f5.params.toList = [29, 3] by kernel_rfl] at h
  obtain ⟨_, _, rfl, h0, h⟩ := shAll_cons h
  obtain ⟨_, _, rfl, h1, h⟩ := shAll_cons h
  obtain rfl := shAll_nil h
  obtain ⟨x0, rfl, w0, v0⟩ := shV_ints (k := .i32) (e := 21) (by kernel_rfl) (by kernel_rfl) h0
  obtain ⟨x1, rfl, w1⟩ := shV_int (k := .i64) (by kernel_rfl) h1
  exact ⟨True, trivial, gLaw06LabelRunes.can x0 x1 true (labelRunes_plain x0 x1 (fun r hr => by have := v0 r hr; simpa [I32B, Lit.wf, IntKind.min, IntKind.max, IntKind.signed, IntKind.bits] using this))⟩
end Go.Proofs

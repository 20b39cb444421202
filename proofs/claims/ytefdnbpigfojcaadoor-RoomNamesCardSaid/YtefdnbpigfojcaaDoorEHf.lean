/- What comes in at the law, and that it answers true. No condition. -/
import Derived.Test.YtefdnbpigfojcaaDoorHf
import Derived.Test.YtefdnbpigfojcaaDoorHk
import Derived.Test.YtefdnbpigfojcaaDoorM01
import Derived.Test.YtefdnbpigfojcaaDoorTy
namespace Go.Proofs
open Go.Ab

set_option maxRecDepth 100000 in
theorem gLaw12RoomNames_call : ∀ xs, ShAll Tryd.prog Tryd.f3.params.toList xs → ∃ o : Prop, o ∧ CallOk Tryd.prog 3 xs [] { av := .lit (.bool true), obl := o } := by
  intro xs h
  rw [show Tryd.f3.params.toList = [9, 9, 9] by kernel_rfl] at h
  obtain ⟨_, _, rfl, h0, h⟩ := shAll_cons h
  obtain ⟨_, _, rfl, h1, h⟩ := shAll_cons h
  obtain ⟨_, _, rfl, h2, h⟩ := shAll_cons h
  obtain rfl := shAll_nil h
  obtain ⟨x0, rfl, w0⟩ := shV_string (by kernel_rfl) h0
  obtain ⟨x1, rfl, w1⟩ := shV_string (by kernel_rfl) h1
  obtain ⟨x2, rfl, w2⟩ := shV_string (by kernel_rfl) h2
  exact ⟨True, trivial, gLaw12RoomNames.can x0 x1 x2 true (roomNames_plain x0 x1 x2)⟩
end Go.Proofs

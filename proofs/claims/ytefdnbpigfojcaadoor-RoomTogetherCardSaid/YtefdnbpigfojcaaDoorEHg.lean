/- What comes in at the law, and that it answers true. No condition. -/
import Derived.Test.YtefdnbpigfojcaaDoorHg
import Derived.Test.YtefdnbpigfojcaaDoorHl
import Derived.Test.YtefdnbpigfojcaaDoorM01
import Derived.Test.YtefdnbpigfojcaaDoorTy
namespace Go.Proofs
open Go.Ab

set_option maxRecDepth 100000 in
theorem gLaw12RoomTogether_call : ∀ xs, ShAll Tryd.prog Tryd.f4.params.toList xs → ∃ o : Prop, o ∧ CallOk Tryd.prog 4 xs [] { av := .lit (.bool true), obl := o } := by
  intro xs h
  rw [show Tryd.f4.params.toList = [34] by kernel_rfl] at h
  obtain ⟨_, _, rfl, h0, h⟩ := shAll_cons h
  obtain rfl := shAll_nil h
  obtain ⟨x0, rfl, w0, _⟩ := shV_ints (k := .i64) (e := 3) (by kernel_rfl) (by kernel_rfl) h0
  exact ⟨True, trivial, gLaw12RoomTogether.can x0 true (roomTogether_plain x0)⟩
end Go.Proofs

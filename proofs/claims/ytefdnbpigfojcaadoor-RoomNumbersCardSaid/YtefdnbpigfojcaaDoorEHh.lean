/- What comes in at the law, and that it answers true. No condition. -/
import Derived.Test.YtefdnbpigfojcaaDoorHh
import Derived.Test.YtefdnbpigfojcaaDoorHl
import Derived.Test.YtefdnbpigfojcaaDoorM01
import Derived.Test.YtefdnbpigfojcaaDoorTy
namespace Go.Proofs
open Go.Ab

set_option maxRecDepth 100000 in
theorem gLaw12RoomNumbers_call : ∀ xs, ShAll Tryd.prog Tryd.f6.params.toList xs → ∃ o : Prop, o ∧ CallOk Tryd.prog 6 xs [] { av := .lit (.bool true), obl := o } := by
  intro xs h
  rw [show Tryd.f6.params.toList = [3, 34] by kernel_rfl] at h
  obtain ⟨_, _, rfl, h0, h⟩ := shAll_cons h
  obtain ⟨_, _, rfl, h1, h⟩ := shAll_cons h
  obtain rfl := shAll_nil h
  obtain ⟨x0, rfl, w0⟩ := shV_int (k := .i64) (by kernel_rfl) h0
  obtain ⟨x1, rfl, w1, _⟩ := shV_ints (k := .i64) (e := 3) (by kernel_rfl) (by kernel_rfl) h1
  exact ⟨True, trivial, gLaw12RoomNumbers.can x0 x1 true (roomNumbers_plain x0 x1)⟩
end Go.Proofs

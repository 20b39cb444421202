/- What comes in at the law, and that it answers true. No condition. -/
import Derived.Test.YtpamnignoocogaaGreatDoorM02
import Derived.Test.YtpamnignoocogaaGreatDoorBx
import Derived.Test.YtpamnignoocogaaGreatDoorM10
namespace Go.Proofs
open Go.Ab

set_option maxRecDepth 100000 in
theorem gLaw27ScriptBytes_call : ∀ xs, ShAll Tryz.prog Tryz.f4.params.toList xs → ∃ o : Prop, o ∧ CallOk Tryz.prog 4 xs [] { av := .lit (.bool true), obl := o } := by
  intro xs h
  rw [show Tryz.f4.params.toList = [9, 9] by kernel_rfl] at h
  obtain ⟨_, _, rfl, h0, h⟩ := shAll_cons h
  obtain ⟨_, _, rfl, h1, h⟩ := shAll_cons h
  obtain rfl := shAll_nil h
  obtain ⟨x0, rfl, w0⟩ := shV_string (by kernel_rfl) h0
  obtain ⟨x1, rfl, w1⟩ := shV_string (by kernel_rfl) h1
  exact ⟨True, trivial, gLaw27ScriptBytes.can x0 x1 true (scriptBytes_plain x0 x1 w0 w1)⟩
end Go.Proofs

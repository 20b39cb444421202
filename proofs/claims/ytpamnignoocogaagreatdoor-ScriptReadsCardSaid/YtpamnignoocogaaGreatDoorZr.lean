import Derived.Test.YtpamnignoocogaaGreatDoorSm
import Derived.Test.YtpamnignoocogaaGreatDoorBz
import Derived.Test.YtpamnignoocogaaGreatDoorM10
namespace Go.Proofs
open Go.Ab
set_option maxRecDepth 100000 in
theorem gLaw27ScriptReads_call : ∀ xs, ShAll Tryz.prog Tryz.f3.params.toList xs → ∃ o : Prop, o ∧ CallOk Tryz.prog 3 xs [] { av := .lit (.bool true), obl := o } := by
 intro xs h;rw [show Tryz.f3.params.toList = [9] by kernel_rfl] at h;obtain ⟨_, _, rfl, h0, h⟩ := shAll_cons h;obtain rfl := shAll_nil h;obtain ⟨x0, rfl, w0⟩ := shV_string (by kernel_rfl) h0;exact ⟨True, trivial, gv.can x0 true (scriptReads_plain x0 w0)⟩
end Go.Proofs

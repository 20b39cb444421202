import Derived.Test.YtpamnignoocogaaGreatDoorSq
import Derived.Test.YtpamnignoocogaaGreatDoorCx
import Derived.Test.YtpamnignoocogaaGreatDoorM05
namespace Go.Proofs
open Go.Ab
set_option maxRecDepth 100000 in
theorem gLaw27ScriptNames_call : ∀ xs, ShAll Tryz.prog Tryz.f5.params.toList xs → ∃ o : Prop, o ∧ CallOk Tryz.prog 5 xs [] { av := .lit (.bool true), obl := o } := by
 intro xs h;rw [show Tryz.f5.params.toList = [27, 27] by kernel_rfl] at h;obtain ⟨_, _, rfl, h0, h⟩ := shAll_cons h;obtain ⟨_, _, rfl, h1, h⟩ := shAll_cons h;obtain rfl := shAll_nil h;obtain ⟨x0, rfl, _, b0⟩ := shV_rows (e := 9) (enc := eTxt) (wf := fun s => s.size ≤ maxLen) (by kernel_rfl) (fun q h => sh_string (by kernel_rfl) h) h0;obtain ⟨x1, rfl, _, b1⟩ := shV_rows (e := 9) (enc := eTxt) (wf := fun s => s.size ≤ maxLen) (by kernel_rfl) (fun q h => sh_string (by kernel_rfl) h) h1;exact ⟨True, trivial, ge.can x0 x1 true (scriptNames_plain x0 x1 b0 b1)⟩
end Go.Proofs

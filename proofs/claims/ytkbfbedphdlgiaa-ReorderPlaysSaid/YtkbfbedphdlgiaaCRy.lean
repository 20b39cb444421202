/- What comes in at the law, and that it answers true. No condition. -/
import Derived.Test.YtkbfbedphdlgiaaRy
import Derived.Test.YtkbfbedphdlgiaaRx
import Derived.Test.YtkbfbedphdlgiaaGm
import Derived.Test.YtkbfbedphdlgiaaTy
namespace Go.Proofs
open Go.Ab

theorem Antiphonlaw09Act.sh {q : List AV} (h : ShE Try.prog 52 q) : ∃ x : Antiphonlaw09Act, q = x.enc := by
  have k := sh_fields Try.ty52 h
  clear h
  obtain ⟨_, _, rfl, h0, k⟩ := k
  obtain ⟨x0, rfl, _⟩ := sh_int (k := .i64) (by kernel_rfl) h0
  obtain ⟨_, _, rfl, h1, k⟩ := k
  obtain ⟨x1, rfl, _⟩ := sh_int (k := .i64) (by kernel_rfl) h1
  obtain ⟨_, _, rfl, h2, k⟩ := k
  obtain ⟨x2, rfl, _⟩ := sh_string (by kernel_rfl) h2
  obtain rfl := k
  exact ⟨Antiphonlaw09Act.mk x0 x1 x2, by simp⟩

set_option maxRecDepth 100000 in
theorem gLaw09ReorderPlays_call : ∀ xs, ShAll Try.prog Try.f7.params.toList xs → ∃ o : Prop, o ∧ CallOk Try.prog 7 xs [] { av := .lit (.bool true), obl := o } := by
  intro xs h
  rw [show Try.f7.params.toList = [3, 3, 41] by kernel_rfl] at h
  obtain ⟨_, _, rfl, h0, h⟩ := shAll_cons h
  obtain ⟨_, _, rfl, h1, h⟩ := shAll_cons h
  obtain ⟨_, _, rfl, h2, h⟩ := shAll_cons h
  obtain rfl := shAll_nil h
  obtain ⟨x0, rfl, w0⟩ := shV_int (k := .i64) (by kernel_rfl) h0
  obtain ⟨x1, rfl, w1⟩ := shV_int (k := .i64) (by kernel_rfl) h1
  obtain ⟨x2, rfl, w2, _⟩ := shV_rows (e := 52) (wf := fun _ => True) (by kernel_rfl) (fun q h => by obtain ⟨x, hx⟩ := Antiphonlaw09Act.sh h; exact ⟨x, hx, trivial⟩) h2
  exact ⟨True, trivial, gLaw09ReorderPlays.can x0 x1 x2 true (reorderPlays_true x0 x1 x2)⟩
end Go.Proofs

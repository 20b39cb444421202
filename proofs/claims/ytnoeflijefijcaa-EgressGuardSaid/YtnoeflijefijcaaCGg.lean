/- What comes in at the law, and that it answers true. No condition. -/
import Derived.Test.YtnoeflijefijcaaGg
import Derived.Test.YtnoeflijefijcaaYp
import Derived.Test.YtnoeflijefijcaaM06
import Derived.Test.YtnoeflijefijcaaTy
namespace Go.Proofs
open Go.Ab

theorem Th.sh {q : List AV} (h : ShE Try.prog 55 q) : ∃ x : Th, q = x.enc ∧ (Lit.int .i64 x.fId).wf = true := by
  have k := sh_fields Try.ty55 h
  clear h
  obtain ⟨_, _, rfl, h0, k⟩ := k
  obtain ⟨x0, rfl, _⟩ := sh_int (k := .i64) (by kernel_rfl) h0
  obtain ⟨_, _, rfl, h1, k⟩ := k
  obtain ⟨x1, rfl, w1⟩ := sh_int (k := .i64) (by kernel_rfl) h1
  obtain ⟨_, _, rfl, h2, k⟩ := k
  obtain ⟨x2, rfl, _⟩ := sh_int (k := .i64) (by kernel_rfl) h2
  obtain ⟨_, _, rfl, h3, k⟩ := k
  obtain ⟨x3, rfl⟩ := sh_bool (by kernel_rfl) h3
  obtain ⟨_, _, rfl, h4, k⟩ := k
  obtain ⟨x4, rfl⟩ := sh_bool (by kernel_rfl) h4
  obtain rfl := k
  exact ⟨Th.mk x0 x1 x2 x3 x4, by simp, w1⟩

set_option maxRecDepth 100000 in
theorem gLaw20EgressGuard_call : ∀ xs, ShAll Try.prog Try.f4.params.toList xs → ∃ o : Prop, o ∧ CallOk Try.prog 4 xs [] { av := .lit (.bool true), obl := o } := by
  intro xs h
  rw [show Try.f4.params.toList = [3, 3, 33] by kernel_rfl] at h
  obtain ⟨_, _, rfl, h0, h⟩ := shAll_cons h
  obtain ⟨_, _, rfl, h1, h⟩ := shAll_cons h
  obtain ⟨_, _, rfl, h2, h⟩ := shAll_cons h
  obtain rfl := shAll_nil h
  obtain ⟨x0, rfl, w0⟩ := shV_int (k := .i64) (by kernel_rfl) h0
  obtain ⟨x1, rfl, w1⟩ := shV_int (k := .i64) (by kernel_rfl) h1
  obtain ⟨x2, rfl, w2, v2⟩ := shV_rows (e := 55) (wf := fun x : Th => (Lit.int .i64 x.fId).wf = true) (by kernel_rfl) (fun q h => Th.sh h) h2
  exact ⟨True, trivial, gc.can x0 x1 x2 true (egressGuard_plain x0 x1 x2 v2)⟩
end Go.Proofs

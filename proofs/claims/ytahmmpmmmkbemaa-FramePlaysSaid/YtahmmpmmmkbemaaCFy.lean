/- What comes in at the law, and that it answers true. No condition. -/
import Derived.Test.YtahmmpmmmkbemaaFy
import Derived.Test.YtahmmpmmmkbemaaFz
import Derived.Test.YtahmmpmmmkbemaaGm
import Derived.Test.YtahmmpmmmkbemaaTy
namespace Go.Proofs
open Go.Ab

theorem Antiphonlaw10Act.sh {q : List AV} (h : ShE Try.prog 38 q) : ∃ x : Antiphonlaw10Act, q = x.enc := by
  have k := sh_fields Try.ty38 h
  clear h
  obtain ⟨_, _, rfl, h0, k⟩ := k
  obtain ⟨x0, rfl, _⟩ := sh_int (k := .i64) (by kernel_rfl) h0
  obtain ⟨_, _, rfl, h1, k⟩ := k
  obtain ⟨x1, rfl, _⟩ := sh_int (k := .i64) (by kernel_rfl) h1
  obtain ⟨_, _, rfl, h2, k⟩ := k
  obtain ⟨x2, rfl, _⟩ := sh_int (k := .i64) (by kernel_rfl) h2
  obtain ⟨_, _, rfl, h3, k⟩ := k
  obtain ⟨x3, rfl⟩ := sh_bool (by kernel_rfl) h3
  obtain ⟨_, _, rfl, h4, k⟩ := k
  obtain ⟨x4, rfl⟩ := sh_bool (by kernel_rfl) h4
  obtain ⟨_, _, rfl, h5, k⟩ := k
  obtain ⟨x5, rfl⟩ := sh_bool (by kernel_rfl) h5
  obtain ⟨_, _, rfl, h6, k⟩ := k
  obtain ⟨x6, rfl, _⟩ := sh_string (by kernel_rfl) h6
  obtain rfl := k
  exact ⟨Antiphonlaw10Act.mk x0 x1 x2 x3 x4 x5 x6, by simp⟩

theorem gLaw10FramePlays_call : ∀ xs, ShAll Try.prog Try.f3.params.toList xs → ∃ o : Prop, o ∧ CallOk Try.prog 3 xs [] { av := .lit (.bool true), obl := o } := by
  intro xs h
  rw [show Try.f3.params.toList = [4, 3, 3, 3, 22] by kernel_rfl] at h
  obtain ⟨_, _, rfl, h0, h⟩ := shAll_cons h
  obtain ⟨_, _, rfl, h1, h⟩ := shAll_cons h
  obtain ⟨_, _, rfl, h2, h⟩ := shAll_cons h
  obtain ⟨_, _, rfl, h3, h⟩ := shAll_cons h
  obtain ⟨_, _, rfl, h4, h⟩ := shAll_cons h
  obtain rfl := shAll_nil h
  obtain ⟨x0, rfl⟩ := shV_bool (by kernel_rfl) h0
  obtain ⟨x1, rfl, w1⟩ := shV_int (k := .i64) (by kernel_rfl) h1
  obtain ⟨x2, rfl, w2⟩ := shV_int (k := .i64) (by kernel_rfl) h2
  obtain ⟨x3, rfl, w3⟩ := shV_int (k := .i64) (by kernel_rfl) h3
  obtain ⟨x4, rfl, w4, _⟩ := shV_rows (e := 38) (wf := fun _ => True) (by kernel_rfl) (fun q h => by obtain ⟨x, hx⟩ := Antiphonlaw10Act.sh h; exact ⟨x, hx, trivial⟩) h4
  exact ⟨True, trivial, gLaw10FramePlays.can x0 x1 x2 x3 x4 true (fplays_true x0 x1 x2 x3 x4)⟩
end Go.Proofs

/- What comes in at the law, and that it answers true. No condition. -/
import Derived.Test.YtefdnbpigfojcaaDoorHe
import Derived.Test.YtefdnbpigfojcaaDoorHk
import Derived.Test.YtefdnbpigfojcaaDoorM01
import Derived.Test.YtefdnbpigfojcaaDoorTy
namespace Go.Proofs
open Go.Ab

theorem Antiphonlaw12Act.sh {q : List AV} (h : ShE Tryd.prog 42 q) : ∃ x : Antiphonlaw12Act, q = x.enc := by
  have k := sh_fields Tryd.ty42 h
  clear h
  obtain ⟨_, _, rfl, h0, k⟩ := k
  obtain ⟨x0, rfl, _⟩ := sh_int (k := .i64) (by kernel_rfl) h0
  obtain ⟨_, _, rfl, h1, k⟩ := k
  obtain ⟨x1, rfl, _⟩ := sh_int (k := .i64) (by kernel_rfl) h1
  obtain ⟨_, _, rfl, h2, k⟩ := k
  obtain ⟨x2, rfl, _⟩ := sh_string (by kernel_rfl) h2
  obtain ⟨_, _, rfl, h3, k⟩ := k
  obtain ⟨x3, rfl, _⟩ := sh_string (by kernel_rfl) h3
  obtain rfl := k
  exact ⟨Antiphonlaw12Act.mk x0 x1 x2 x3, by simp⟩

set_option maxRecDepth 100000 in
theorem gLaw12RoomPlays_call : ∀ xs, ShAll Tryd.prog Tryd.f5.params.toList xs → ∃ o : Prop, o ∧ CallOk Tryd.prog 5 xs [] { av := .lit (.bool true), obl := o } := by
  intro xs h
  rw [show Tryd.f5.params.toList = [37] by kernel_rfl] at h
  obtain ⟨_, _, rfl, h0, h⟩ := shAll_cons h
  obtain rfl := shAll_nil h
  obtain ⟨x0, rfl, w0, _⟩ := shV_rows (e := 42) (wf := fun _ => True) (by kernel_rfl) (fun q h => by obtain ⟨x, hx⟩ := Antiphonlaw12Act.sh h; exact ⟨x, hx, trivial⟩) h0
  exact ⟨True, trivial, gLaw12RoomPlays.can x0 true (roomPlays_plain x0)⟩
end Go.Proofs

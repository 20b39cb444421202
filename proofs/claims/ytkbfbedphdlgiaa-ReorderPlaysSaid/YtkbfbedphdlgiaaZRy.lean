/- The statement 'ReorderPlays': for every input the law answers true, and what came in reads as it did. No condition. -/
import Derived.Test.YtkbfbedphdlgiaaCRy
import Derived.Test.YtkbfbedphdlgiaaRows
namespace Go.Proofs.Ytkbfbedphdlgiaa
open Go.ChangeShapes Go.WideShapes Go.ChangeAt Go.RowKit Go.Ab

set_option maxRecDepth 100000 in
theorem reorderPlays_lifted (os : Os) (started : os.Started) (H : Type) (enc : TypeId × Value → H) :
    ReturnsInHanded {} Try.checked os 7 .any (Rows.reorderPlaysSpec.pre6 enc Try.prog Try.f7 Rows.reorderPlaysRow.domain false) (Rows.reorderPlaysSpec.post enc Try.prog Try.f7 false true false false) := by
  refine law_lifted (C := Try.checked) (l := [3, 9, 52]) (tb := 4) (by kernel_rfl) started (by kernel_rfl) Try.func7
    (ChangeSpec.witness6 (enc := enc) (C := Try.checked) false ⟨#[], #[.int .i64 0, .int .i64 0, .slice none 0 0], []⟩ 8 (by kernel_rfl) (by kernel_rfl) (by kernel_rfl) (by kernel_rfl)) rfl (by kernel_rfl) (by kernel_rfl) (fun ds hd => ?_)
    (kids_rows (by kernel_rfl) (by kernel_rfl)) (by kernel_rfl) (by kernel_rfl) (by kernel_rfl) gLaw09ReorderPlays_call
  match ds, hd with
  | [d0, d1, d2], _ => rfl

theorem reorderPlays_holds : Rows.ReorderPlaysSaid :=
  OpenClaim.holds_of_wide 7 Try.f7 rfl rfl rfl rfl rfl rfl rfl ⟨rfl, rfl, rfl, rfl, rfl⟩ rfl rfl rfl rfl rfl (by kernel_rfl) Try.func7 (by kernel_rfl)
    (of_decide_eq_true (by kernel_rfl)) (by unfold Func.isWrapper; first | (rw [if_pos (by decide +kernel)]; kernel_rfl) | (rw [if_neg (by decide +kernel)]; exact ⟨rfl, rfl⟩))
    (fun os started H enc _ => reorderPlays_lifted os started H enc)
#print axioms reorderPlays_holds
end Go.Proofs.Ytkbfbedphdlgiaa

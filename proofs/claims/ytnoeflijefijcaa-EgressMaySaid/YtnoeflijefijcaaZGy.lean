/- The statement 'EgressMay': for every input the law answers true, and what came in reads as it did. No condition. -/
import Derived.Test.YtnoeflijefijcaaM05
import Derived.Test.YtnoeflijefijcaaRows
namespace Go.Proofs.Ytnoeflijefijcaa
open Go.ChangeShapes Go.WideShapes Go.ChangeAt Go.RowKit Go.Ab

set_option maxRecDepth 100000 in
theorem egressMay_lifted (os : Os) (started : os.Started) (H : Type) (enc : TypeId × Value → H) :
    ReturnsInHanded {} Try.checked os 3 .any (Rows.egressMaySpec.pre6 enc Try.prog Try.f3 Rows.egressMayRow.domain false) (Rows.egressMaySpec.post enc Try.prog Try.f3 false true false false) := by
  refine law_lifted (C := Try.checked) (l := [3, 23]) (tb := 4) (by kernel_rfl) started (by kernel_rfl) Try.func3
    (ChangeSpec.witness6 (enc := enc) (C := Try.checked) false ⟨#[], #[.agg #[.int .i64 0, .int .i64 0, .int .i64 0, .int .i64 0, .int .i64 0], .int .i64 0, .int .i64 0], []⟩ 8 (by kernel_rfl) (by kernel_rfl) (by kernel_rfl) (by kernel_rfl)) rfl (by kernel_rfl) (by kernel_rfl) (fun ds hd => ?_)
    (kids_rows (by kernel_rfl) (by kernel_rfl)) (by kernel_rfl) (by kernel_rfl) (by kernel_rfl) gLaw20EgressMay_call (fun _ => trivial)
  match ds, hd with
  | [d0, d1, d2], _ => rfl

theorem egressMay_holds : Rows.EgressMaySaid :=
  OpenClaim.holds_of_wide 3 Try.f3 rfl rfl rfl rfl rfl rfl rfl ⟨rfl, rfl, rfl, rfl, rfl⟩ rfl rfl rfl rfl rfl (by kernel_rfl) Try.func3 (by kernel_rfl)
    (of_decide_eq_true (by kernel_rfl)) (by unfold Func.isWrapper; first | (rw [if_pos (by decide +kernel)]; kernel_rfl) | (rw [if_neg (by decide +kernel)]; exact ⟨rfl, rfl⟩))
    (fun os started H enc _ => egressMay_lifted os started H enc)
#print axioms egressMay_holds
end Go.Proofs.Ytnoeflijefijcaa

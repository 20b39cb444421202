/- The statement 'EgressGuard': for every input the law answers true, and what came in reads as it did. No condition. -/
import Derived.Test.YtnoeflijefijcaaCGg
import Derived.Test.YtnoeflijefijcaaRows
namespace Go.Proofs.Ytnoeflijefijcaa
open Go.ChangeShapes Go.WideShapes Go.ChangeAt Go.RowKit Go.Ab

set_option maxRecDepth 100000 in
theorem egressGuard_lifted (os : Os) (started : os.Started) (H : Type) (enc : TypeId × Value → H) :
    ReturnsInHanded {} Try.checked os 4 .any (Rows.egressGuardSpec.pre6 enc Try.prog Try.f4 Rows.egressGuardRow.domain false) (Rows.egressGuardSpec.post enc Try.prog Try.f4 false true false false) := by
  refine law_lifted (C := Try.checked) (l := [3, 4, 55]) (tb := 4) (by kernel_rfl) started (by kernel_rfl) Try.func4
    (ChangeSpec.witness6 (enc := enc) (C := Try.checked) false ⟨#[], #[.int .i64 0, .int .i64 0, .slice none 0 0], []⟩ 8 (by kernel_rfl) (by kernel_rfl) (by kernel_rfl) (by kernel_rfl)) rfl (by kernel_rfl) (by kernel_rfl) (fun ds hd => ?_)
    (kids_rows (by kernel_rfl) (by kernel_rfl)) (by kernel_rfl) (by kernel_rfl) (by kernel_rfl) gLaw20EgressGuard_call (fun _ => trivial)
  match ds, hd with
  | [d0, d1, d2], _ => rfl

theorem egressGuard_holds : Rows.EgressGuardSaid :=
  OpenClaim.holds_of_wide 4 Try.f4 rfl rfl rfl rfl rfl rfl rfl ⟨rfl, rfl, rfl, rfl, rfl⟩ rfl rfl rfl rfl rfl (by kernel_rfl) Try.func4 (by kernel_rfl)
    (of_decide_eq_true (by kernel_rfl)) (by unfold Func.isWrapper; first | (rw [if_pos (by decide +kernel)]; kernel_rfl) | (rw [if_neg (by decide +kernel)]; exact rr))
    (fun os started H enc _ => egressGuard_lifted os started H enc)
#print axioms egressGuard_holds
end Go.Proofs.Ytnoeflijefijcaa

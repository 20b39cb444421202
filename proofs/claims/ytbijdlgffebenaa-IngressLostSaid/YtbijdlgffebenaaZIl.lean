/- The statement 'IngressLost': for every input the law answers true, and what came in reads as it did. No condition. -/
import Derived.Test.YtbijdlgffebenaaQ07
import Derived.Test.YtbijdlgffebenaaRows
namespace Go.Proofs.Ytbijdlgffebenaa
open Go.ChangeShapes Go.WideShapes Go.ChangeAt Go.RowKit Go.Ab

set_option maxRecDepth 100000 in
theorem ingressLost_lifted (os : Os) (started : os.Started) (H : Type) (enc : TypeId × Value → H) :
    ReturnsInHanded {} Try.checked os 6 .any (Rows.ingressLostSpec.pre6 enc Try.prog Try.f6 Rows.ingressLostRow.domain false) (Rows.ingressLostSpec.post enc Try.prog Try.f6 false true false false) := by
  refine law_lifted (C := Try.checked) (l := [3, 22]) (tb := 4) (by kernel_rfl) started (by kernel_rfl) Try.func6
    (ChangeSpec.witness6 (enc := enc) (C := Try.checked) false ⟨#[], #[.int .u16 0, .slice none 0 0, .slice none 0 0], []⟩ 8 (by kernel_rfl) (by kernel_rfl) (by kernel_rfl) (by kernel_rfl)) rfl (by kernel_rfl) (by kernel_rfl) (fun ds hd => ?_)
    (kids_rows (by kernel_rfl) (by kernel_rfl)) (by kernel_rfl) (by kernel_rfl) (by kernel_rfl) gLaw11IngressLost_call
  match ds, hd with
  | [d0, d1, d2], _ => rfl

theorem ingressLost_holds : Rows.IngressLostSaid :=
  OpenClaim.holds_of_wide 6 Try.f6 rfl rfl rfl rfl rfl rfl rfl ⟨rfl, rfl, rfl, rfl, rfl⟩ rfl rfl rfl rfl rfl (by kernel_rfl) Try.func6 (by kernel_rfl)
    (of_decide_eq_true (by kernel_rfl)) (by unfold Func.isWrapper; first | (rw [if_pos (by decide +kernel)]; kernel_rfl) | (rw [if_neg (by decide +kernel)]; exact ⟨rfl, rfl⟩))
    (fun os started H enc _ => ingressLost_lifted os started H enc)
#print axioms ingressLost_holds
end Go.Proofs.Ytbijdlgffebenaa

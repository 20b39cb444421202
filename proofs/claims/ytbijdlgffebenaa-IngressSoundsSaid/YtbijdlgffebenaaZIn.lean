/- The statement 'IngressSounds': for every input the law answers true, and what came in reads as it did. No condition. -/
import Derived.Test.YtbijdlgffebenaaM03
import Derived.Test.YtbijdlgffebenaaRows
namespace Go.Proofs.Ytbijdlgffebenaa
open Go.ChangeShapes Go.WideShapes Go.ChangeAt Go.RowKit Go.Ab

set_option maxRecDepth 100000 in
theorem ingressSounds_lifted (os : Os) (started : os.Started) (H : Type) (enc : TypeId × Value → H) :
    ReturnsInHanded {} Try.checked os 4 .any (Rows.ingressSoundsSpec.pre6 enc Try.prog Try.f4 Rows.ingressSoundsRow.domain false) (Rows.ingressSoundsSpec.post enc Try.prog Try.f4 false true false false) := by
  refine law_lifted (C := Try.checked) (l := [9, 22]) (tb := 4) (by kernel_rfl) started (by kernel_rfl) Try.func4
    (ChangeSpec.witness6 (enc := enc) (C := Try.checked) false ⟨#[], #[.slice none 0 0, .int .u16 0], []⟩ 8 (by kernel_rfl) (by kernel_rfl) (by kernel_rfl) (by kernel_rfl)) rfl (by kernel_rfl) (by kernel_rfl) (fun ds hd => ?_)
    (kids_rows (by kernel_rfl) (by kernel_rfl)) (by kernel_rfl) (by kernel_rfl) (by kernel_rfl) gLaw11IngressSounds_call
  match ds, hd with
  | [d0, d1], _ => rfl

theorem ingressSounds_holds : Rows.IngressSoundsSaid :=
  OpenClaim.holds_of_wide 4 Try.f4 rfl rfl rfl rfl rfl rfl rfl ⟨rfl, rfl, rfl, rfl, rfl⟩ rfl rfl rfl rfl rfl (by kernel_rfl) Try.func4 (by kernel_rfl)
    (of_decide_eq_true (by kernel_rfl)) (by unfold Func.isWrapper; first | (rw [if_pos (by decide +kernel)]; kernel_rfl) | (rw [if_neg (by decide +kernel)]; exact ⟨rfl, rfl⟩))
    (fun os started H enc _ => ingressSounds_lifted os started H enc)
#print axioms ingressSounds_holds
end Go.Proofs.Ytbijdlgffebenaa

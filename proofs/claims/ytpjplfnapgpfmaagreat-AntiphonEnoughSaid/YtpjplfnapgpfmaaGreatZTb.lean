/- The statement 'AntiphonEnough': for every input the law answers true, and what came in reads as it did. No condition. -/
import Derived.Test.YtpjplfnapgpfmaaGreatM12
import Derived.Test.YtpjplfnapgpfmaaGreatRows
namespace Go.Proofs.YtpjplfnapgpfmaaGreat
open Go.ChangeShapes Go.WideShapes Go.ChangeAt Go.RowKit Go.Ab

set_option maxRecDepth 100000 in
theorem antiphonEnough_lifted (os : Os) (started : os.Started) (H : Type) (enc : TypeId × Value → H) :
  ReturnsInHanded {} Tryz.checked os 4 .any (Rows.antiphonEnoughSpec.pre6 enc Tryz.prog Tryz.f4 Rows.antiphonEnoughRow.domain false) (Rows.antiphonEnoughSpec.post enc Tryz.prog Tryz.f4 false true false false) := by
 refine law_lifted (C := Tryz.checked) (l := [3, 4, 43]) (tb := 4) (by kernel_rfl) started (by kernel_rfl) Tryz.func4
  (ChangeSpec.witness6 (enc := enc) (C := Tryz.checked) false ⟨#[], #[.int .i64 0, .int .i64 0, .slice none 0 0], []⟩ 8 (by kernel_rfl) (by kernel_rfl) (by kernel_rfl) (by kernel_rfl)) rfl (by kernel_rfl) (by kernel_rfl) (fun ds hd => ?_)
  (kids_rows (by kernel_rfl) (by kernel_rfl)) (by kernel_rfl) (by kernel_rfl) (by kernel_rfl) gTopAntiphonEnough_call (fun _ => trivial)
 match ds, hd with
 | [d0, d1, d2], _ => rfl

theorem antiphonEnough_holds : Rows.AntiphonEnoughSaid :=
 OpenClaim.holds_of_wide 4 Tryz.f4 rfl rfl rfl rfl rfl rfl rfl ⟨rfl, rfl, rfl, rfl, rfl⟩ rfl rfl rfl rfl rfl (by kernel_rfl) Tryz.func4 (by kernel_rfl)
  (of_decide_eq_true (by kernel_rfl)) (by unfold Func.isWrapper; first | (rw [if_pos (by decide +kernel)]; kernel_rfl) | (rw [if_neg (by decide +kernel)]; exact ⟨rfl, rfl⟩))
  (fun os started H enc _ => antiphonEnough_lifted os started H enc)
#print axioms antiphonEnough_holds
end Go.Proofs.YtpjplfnapgpfmaaGreat

/- The statement 'AccessGone': where unicode's tables lie as they are laid, for every input the law answers true, and what came in reads as it did. No condition. -/
import Derived.Test.YtoiieebljbhpbaaGreatDoorEXi
import Derived.Test.YtoiieebljbhpbaaGreatDoorM01
import Derived.Test.YtoiieebljbhpbaaGreatDoorM06
import Derived.Test.YtoiieebljbhpbaaGreatDoorTie
import Derived.Test.YtoiieebljbhpbaaGreatDoorCards
import Derived.SevenTiedAt
namespace Go.Proofs.YtoiieebljbhpbaaGreatDoor
open Go.ChangeShapes Go.WideShapes Go.ChangeAt Go.RowKit Go.Ab

set_option maxRecDepth 100000 in
theorem accessGone_lifted (os : Os) (started : os.Started) (H : Type) (enc : TypeId × Value → H) :
  ReturnsInHanded {} Tryz.checked os 7 .any (fun w args => (Rows.accessGoneSpec.pre enc Tryz.prog Tryz.f7 Rows.accessGoneRow.domain false w args ∧ laidMetH Tryz.prog laidU w) ∧ sizedMet enc Tryz.prog Tryz.f7 (OpenSpec.ofChange Rows.accessGoneSpec) false w args) (Rows.accessGoneSpec.post enc Tryz.prog Tryz.f7 false true false false) := by
 refine law_lifted_laid (C := Tryz.checked) (laid := laidU) (l := [3, 4]) (tb := 4) (by kernel_rfl) started (by kernel_rfl) Tryz.func7
  (ChangeSpec.witness_shaped (enc := enc) (C := Tryz.checked) (os := os) (X := fun w _ => laidMetH Tryz.prog laidU w) false (World.laidAll Tryz.prog os laidU) #[.int .i64 0, .int .i64 0, .bool false] 8 (World.laidAll_os _ _ _)
   (laid_shape os _) (by kernel_rfl) (by kernel_rfl) (by kernel_rfl) (laid_world os _)) rfl (by kernel_rfl) (by kernel_rfl) (fun ds hd => ?_)
  (kids_rows (by kernel_rfl) (by kernel_rfl)) (by kernel_rfl) (by kernel_rfl) (by kernel_rfl) gLaw13AccessGone_call facts_laid
 match ds, hd with
 | [d0, d1, d2], _ => rfl

theorem accessGone_holds : Rows.AccessGoneSaid :=
 OpenClaim.holds_of_wide 7 Tryz.f7 rfl rfl rfl rfl rfl rfl rfl ⟨rfl, rfl, rfl, rfl, rfl⟩ rfl rfl rfl rfl rfl (by kernel_rfl) Tryz.func7 (by kernel_rfl)
  (of_decide_eq_true (by kernel_rfl)) (by unfold Func.isWrapper; first | (rw [if_pos (by decide +kernel)]; kernel_rfl) | (rw [if_neg (by decide +kernel)]; exact ⟨rfl, rfl⟩))
  (fun os started H enc _ => accessGone_lifted os started H enc)
theorem accessGone_card : Rows.AccessGoneCardSaid :=
 Claim7.holds_tied_plain_at .later [] [.data, .pinned, .pinned, .pinned] true (true, "f81c4a73f87e0aa59c515bd935056df98d640dd36d1f9efe2384056fa9139d41") true
  accessGone_holds (fun _ h => by cases h) (by kernel_rfl) (fun _ h => by cases h) accessGone_row_tie rfl ⟨rfl, rfl⟩ (by kernel_rfl) rfl
  (fun f fn hf hfn => by
   obtain rfl : f = 7 := Option.some.inj ((show Tryz.prog.funcNamed "antiphon/antiphonlaw13.AccessGone" = some 7 by kernel_rfl).symm.trans hf) |>.symm
   obtain rfl : fn = Tryz.f7 := (Option.some.inj (Tryz.func7.symm.trans hfn)).symm
   exact ⟨by kernel_rfl, fun j t ht => by
    rw [Tryz.params7] at ht
    have hm : t ∈ [3, 3, 4] := by simpa using Array.mem_of_getElem? ht
    have hall : ([3, 3, 4].all fun u => !Tryz.prog.wantsStandIn u) = true := by kernel_rfl
    exact (show Tryz.prog.wantsStandIn t = false by simpa using List.all_eq_true.1 hall t hm)⟩)
  (by kernel_rfl)
#print axioms accessGone_card
end Go.Proofs.YtoiieebljbhpbaaGreatDoor

import Derived.Test.YtoiieebljbhpbaaGreatDoorEXw
import Derived.Test.YtoiieebljbhpbaaGreatDoorM01
import Derived.Test.YtoiieebljbhpbaaGreatDoorGd
import Derived.Test.YtoiieebljbhpbaaGreatDoorTie
import Derived.Test.YtoiieebljbhpbaaGreatDoorCards
import Derived.SevenTiedAt
namespace Go.Proofs.YtoiieebljbhpbaaGreatDoor
open Go.ChangeShapes Go.WideShapes Go.ChangeAt Go.RowKit Go.Ab
set_option maxRecDepth 100000 in
theorem antiphonWants_lifted (os : Os) (started : os.Started) (H : Type) (enc : TypeId × Value → H) :
  ReturnsInHanded {} Tryz.checked os 3 .any (fun w args => (Rows.antiphonWantsSpec.pre enc Tryz.prog Tryz.f3 Rows.antiphonWantsRow.domain false w args ∧ laidMetH Tryz.prog laidU w) ∧ sizedMet enc Tryz.prog Tryz.f3 (OpenSpec.ofChange Rows.antiphonWantsSpec) false w args) (Rows.antiphonWantsSpec.post enc Tryz.prog Tryz.f3 false true false false) := by
 refine law_lifted_deep (C := Tryz.checked) (laid := laidU) (d := [3, 4, 9, 22, 35, 37, 54]) (tb := 4) (by kernel_rfl) started (by kernel_rfl) Tryz.func3
  (ChangeSpec.witness_shaped (enc := enc) (C := Tryz.checked) (os := os) (X := fun w _ => laidMetH Tryz.prog laidU w) false (World.laidAll Tryz.prog os laidU) #[.slice none 0 0, .int .i64 0] 8 (World.laidAll_os _ _ _)
   (laid_shape os _) (by kernel_rfl) (by kernel_rfl) (by kernel_rfl) (laid_world os _)) rfl (by kernel_rfl) (by kernel_rfl) (fun ds hd => ?_)
  (kids_rows (by kernel_rfl) (by kernel_rfl)) (by kernel_rfl) (by kernel_rfl) (by kernel_rfl) gTopAntiphonWants_call facts_laid
 match ds, hd with
 | [d0, d1], _ => rfl
theorem antiphonWants_holds : Rows.AntiphonWantsSaid :=
 OpenClaim.holds_of_wide 3 Tryz.f3 rfl rfl rfl rfl rfl rfl rfl ⟨rfl, rfl, rfl, rfl, rfl⟩ rfl rfl rfl rfl rfl (by kernel_rfl) Tryz.func3 (by kernel_rfl)
  (of_decide_eq_true (by kernel_rfl)) (by unfold Func.isWrapper; first | (rw [if_pos (by decide +kernel)]; kernel_rfl) | (rw [if_neg (by decide +kernel)]; exact ⟨rfl, rfl⟩))
  (fun os started H enc _ => antiphonWants_lifted os started H enc)
theorem antiphonWants_card : Rows.AntiphonWantsCardSaid :=
 Claim7.holds_tied_plain_at .later [] [.data, .pinned, .pinned, .pinned] true (true, "f81c4a73f87e0aa59c515bd935056df98d640dd36d1f9efe2384056fa9139d41") true
  antiphonWants_holds (fun _ h => by cases h) (by kernel_rfl) (fun _ h => by cases h) antiphonWants_row_tie rfl ⟨rfl, rfl⟩ (by kernel_rfl) rfl
  (fun f fn hf hfn => by
   obtain rfl : f = 3 := Option.some.inj ((show Tryz.prog.funcNamed "antiphon/antiphontop.AntiphonWants" = some 3 by kernel_rfl).symm.trans hf) |>.symm;obtain rfl : fn = Tryz.f3 := (Option.some.inj (Tryz.func3.symm.trans hfn)).symm
   exact ⟨by kernel_rfl, fun j t ht => by
    rw [Tryz.params3] at ht;have hm : t ∈ [22, 3] := by simpa using Array.mem_of_getElem? ht
    have hall : ([22, 3].all fun u => !Tryz.prog.wantsStandIn u) = true := by kernel_rfl
    exact (show Tryz.prog.wantsStandIn t = false by simpa using List.all_eq_true.1 hall t hm)⟩)
  (by kernel_rfl)
#print axioms antiphonWants_card
end Go.Proofs.YtoiieebljbhpbaaGreatDoor

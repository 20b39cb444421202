/- The statement 'RoomTogether': where unicode's tables lie as they are laid, for every input the law answers true, and what came in reads as it did. No condition. -/
import Derived.Test.YtefdnbpigfojcaaDoorEHg
import Derived.Test.YtefdnbpigfojcaaDoorM09
import Derived.Test.YtefdnbpigfojcaaDoorM05
import Derived.Test.YtefdnbpigfojcaaDoorTie
import Derived.Test.YtefdnbpigfojcaaDoorCards
import Derived.SevenTiedAt
namespace Go.Proofs.YtefdnbpigfojcaaDoor
open Go.ChangeShapes Go.WideShapes Go.ChangeAt Go.RowKit Go.Ab

set_option maxRecDepth 100000 in
theorem roomTogether_lifted (os : Os) (started : os.Started) (H : Type) (enc : TypeId × Value → H) :
    ReturnsInHanded {} Tryd.checked os 4 .any (fun w args => (Rows.roomTogetherSpec.pre enc Tryd.prog Tryd.f4 Rows.roomTogetherRow.domain false w args ∧ laidMetH Tryd.prog laidU w) ∧ sizedMet enc Tryd.prog Tryd.f4 (OpenSpec.ofChange Rows.roomTogetherSpec) false w args) (Rows.roomTogetherSpec.post enc Tryd.prog Tryd.f4 false true false false) := by
  refine law_lifted_laid (C := Tryd.checked) (laid := laidU) (l := [3]) (tb := 4) (by kernel_rfl) started (by kernel_rfl) Tryd.func4
    (ChangeSpec.witness_shaped (enc := enc) (C := Tryd.checked) (os := os) (X := fun w _ => laidMetH Tryd.prog laidU w) false (World.laidAll Tryd.prog os laidU) #[.slice none 0 0] 8 (World.laidAll_os _ _ _)
      (laid_shape os _) (by kernel_rfl) (by kernel_rfl) (by kernel_rfl) (laid_world os _)) rfl (by kernel_rfl) (by kernel_rfl) (fun ds hd => ?_)
    (kids_rows (by kernel_rfl) (by kernel_rfl)) (by kernel_rfl) (by kernel_rfl) (by kernel_rfl) gLaw12RoomTogether_call facts_laid
  match ds, hd with
  | [d0], _ => rfl

theorem roomTogether_holds : Rows.RoomTogetherSaid :=
  OpenClaim.holds_of_wide 4 Tryd.f4 rfl rfl rfl rfl rfl rfl rfl ⟨rfl, rfl, rfl, rfl, rfl⟩ rfl rfl rfl rfl rfl (by kernel_rfl) Tryd.func4 (by kernel_rfl)
    (of_decide_eq_true (by kernel_rfl)) (by unfold Func.isWrapper; first | (rw [if_pos (by decide +kernel)]; kernel_rfl) | (rw [if_neg (by decide +kernel)]; exact ⟨rfl, rfl⟩))
    (fun os started H enc _ => roomTogether_lifted os started H enc)

/-- The tied card of the row. -/
theorem roomTogether_card : Rows.RoomTogetherCardSaid :=
  Claim7.holds_tied_plain_at .later [] [.data, .pinned, .pinned, .pinned] true (true, "df7eeeab4871abc83cf85c7061ebafbe1301a98e8216f054d0753335a93b3ea8") false
    roomTogether_holds (fun _ h => by cases h) (by kernel_rfl) (fun _ h => by cases h) roomTogether_row_tie rfl ⟨rfl, rfl⟩ (by kernel_rfl) rfl
    (fun f fn hf hfn => by
      obtain rfl : f = 4 := Option.some.inj ((show Tryd.prog.funcNamed "antiphon/antiphonlaw12.RoomTogether" = some 4 by kernel_rfl).symm.trans hf) |>.symm
      obtain rfl : fn = Tryd.f4 := (Option.some.inj (Tryd.func4.symm.trans hfn)).symm
      exact ⟨by kernel_rfl, fun j t ht => by
        rw [Tryd.params4] at ht
        have hm : t ∈ [34] := by simpa using Array.mem_of_getElem? ht
        have hall : ([34].all fun u => !Tryd.prog.wantsStandIn u) = true := by kernel_rfl
        exact (show Tryd.prog.wantsStandIn t = false by simpa using List.all_eq_true.1 hall t hm)⟩)
    (by kernel_rfl)
#print axioms roomTogether_card
end Go.Proofs.YtefdnbpigfojcaaDoor

/- The statement 'RoomNames': where unicode's tables lie as they are laid, for every input the law answers true, and what came in reads as it did. No condition. -/
import Derived.Test.YtefdnbpigfojcaaDoorEHf
import Derived.Test.YtefdnbpigfojcaaDoorM09
import Derived.Test.YtefdnbpigfojcaaDoorM05
import Derived.Test.YtefdnbpigfojcaaDoorTie
import Derived.Test.YtefdnbpigfojcaaDoorCards
import Derived.SevenTiedAt
namespace Go.Proofs.YtefdnbpigfojcaaDoor
open Go.ChangeShapes Go.WideShapes Go.ChangeAt Go.RowKit Go.Ab

set_option maxRecDepth 100000 in
theorem roomNames_lifted (os : Os) (started : os.Started) (H : Type) (enc : TypeId × Value → H) :
    ReturnsInHanded {} Tryd.checked os 3 .any (fun w args => (Rows.roomNamesSpec.pre enc Tryd.prog Tryd.f3 Rows.roomNamesRow.domain false w args ∧ laidMetH Tryd.prog laidU w) ∧ sizedMet enc Tryd.prog Tryd.f3 (OpenSpec.ofChange Rows.roomNamesSpec) false w args) (Rows.roomNamesSpec.post enc Tryd.prog Tryd.f3 false true false false) := by
  refine law_lifted_laid (C := Tryd.checked) (laid := laidU) (l := [9]) (tb := 4) (by kernel_rfl) started (by kernel_rfl) Tryd.func3
    (ChangeSpec.witness_shaped (enc := enc) (C := Tryd.checked) (os := os) (X := fun w _ => laidMetH Tryd.prog laidU w) false (World.laidAll Tryd.prog os laidU) #[.string ⟨#[]⟩, .string ⟨#[]⟩, .string ⟨#[]⟩] 8 (World.laidAll_os _ _ _)
      (laid_shape os _) (by kernel_rfl) (by kernel_rfl) (by kernel_rfl) (laid_world os _)) rfl (by kernel_rfl) (by kernel_rfl) (fun ds hd => ?_)
    (kids_rows (by kernel_rfl) (by kernel_rfl)) (by kernel_rfl) (by kernel_rfl) (by kernel_rfl) gLaw12RoomNames_call facts_laid
  match ds, hd with
  | [d0, d1, d2], _ => rfl

theorem roomNames_holds : Rows.RoomNamesSaid :=
  OpenClaim.holds_of_wide 3 Tryd.f3 rfl rfl rfl rfl rfl rfl rfl ⟨rfl, rfl, rfl, rfl, rfl⟩ rfl rfl rfl rfl rfl (by kernel_rfl) Tryd.func3 (by kernel_rfl)
    (of_decide_eq_true (by kernel_rfl)) (by unfold Func.isWrapper; first | (rw [if_pos (by decide +kernel)]; kernel_rfl) | (rw [if_neg (by decide +kernel)]; exact ⟨rfl, rfl⟩))
    (fun os started H enc _ => roomNames_lifted os started H enc)

/-- The tied card of the row. -/
theorem roomNames_card : Rows.RoomNamesCardSaid :=
  Claim7.holds_tied_plain_at .later [] [.data, .pinned, .pinned, .pinned] true (true, "df7eeeab4871abc83cf85c7061ebafbe1301a98e8216f054d0753335a93b3ea8") false
    roomNames_holds (fun _ h => by cases h) (by kernel_rfl) (fun _ h => by cases h) roomNames_row_tie rfl ⟨rfl, rfl⟩ (by kernel_rfl) rfl
    (fun f fn hf hfn => by
      obtain rfl : f = 3 := Option.some.inj ((show Tryd.prog.funcNamed "antiphon/antiphonlaw12.RoomNames" = some 3 by kernel_rfl).symm.trans hf) |>.symm
      obtain rfl : fn = Tryd.f3 := (Option.some.inj (Tryd.func3.symm.trans hfn)).symm
      exact ⟨by kernel_rfl, fun j t ht => by
        rw [Tryd.params3] at ht
        have hm : t ∈ [9, 9, 9] := by simpa using Array.mem_of_getElem? ht
        have hall : ([9, 9, 9].all fun u => !Tryd.prog.wantsStandIn u) = true := by kernel_rfl
        exact (show Tryd.prog.wantsStandIn t = false by simpa using List.all_eq_true.1 hall t hm)⟩)
    (by kernel_rfl)
#print axioms roomNames_card
end Go.Proofs.YtefdnbpigfojcaaDoor

/- The statement 'SfuMay': where unicode's tables lie as they are laid, for every input the law answers true, and what came in reads as it did. No condition. -/
import Derived.Test.YtjjjeolcapebbaaGreatDoorEPc
import Derived.Test.YtjjjeolcapebbaaGreatDoorLu
import Derived.Test.YtjjjeolcapebbaaGreatDoorM02
import Derived.Test.YtjjjeolcapebbaaGreatDoorTie
import Derived.Test.YtjjjeolcapebbaaGreatDoorZj
import Derived.Test.YtjjjeolcapebbaaGreatDoorCards
import Derived.SevenTiedAt
namespace Go.Proofs.YtjjjeolcapebbaaGreatDoor
open Go.ChangeShapes Go.WideShapes Go.ChangeAt Go.RowKit Go.Ab

set_option maxRecDepth 100000 in
theorem sfuMay_lifted (os : Os) (started : os.Started) (H : Type) (enc : TypeId × Value → H) :
    ReturnsInHanded {} Tryz.checked os 3 .any (fun w args => (Rows.sfuMaySpec.pre enc Tryz.prog Tryz.f3 Rows.sfuMayRow.domain false w args ∧ laidMetH Tryz.prog laidU w) ∧ sizedMet enc Tryz.prog Tryz.f3 (OpenSpec.ofChange Rows.sfuMaySpec) false w args) (Rows.sfuMaySpec.post enc Tryz.prog Tryz.f3 false true false false) := by
  refine law_lifted_laid (C := Tryz.checked) (laid := laidU) (l := [3]) (tb := 4) (by kernel_rfl) started (by kernel_rfl) Tryz.func3
    (ChangeSpec.witness_shaped (enc := enc) (C := Tryz.checked) (os := os) (X := fun w _ => laidMetH Tryz.prog laidU w) false (World.laidAll Tryz.prog os laidU) #[.slice none 0 0, .int .i64 0, .int .i64 0, .int .i64 0, .int .i64 0] 8 (World.laidAll_os _ _ _)
      (laid_shape os _) (by kernel_rfl) (by kernel_rfl) (by kernel_rfl) (laid_world os _)) rfl (by kernel_rfl) (by kernel_rfl) (fun ds hd => ?_)
    Tryz.kids Tryz.slots (by kernel_rfl) (by kernel_rfl) gLaw26SfuMay_call facts_laid
  match ds, hd with
  | [d0, d1, d2, d3, d4], _ => rfl

theorem sfuMay_joined : joinedFacts Tryz.pinned.checked.prog 3 Tryz.f3 Rows.sfuMaySpec Rows.sfuMayRow = true := by
  unfold joinedFacts
  rw [show laidOutB Tryz.pinned.checked.prog = true from Tryz.laidOut, show mapsRowed Tryz.pinned.checked.prog = true from Tryz.mapsRow, show (Rows.sfuMayRow.inPlace == Tryz.pinned.checked.prog.inPlace 3) = true from sfuMay_inPlace, show (Rows.sfuMayRow.unfollowed == Tryz.pinned.checked.prog.unfollowed 3) = true from sfuMay_unfollowed, show (Rows.sfuMayRow.recurses == Tryz.pinned.checked.prog.recurses 3) = true from sfuMay_recurses, show (Rows.sfuMayRow.named == Tryz.pinned.checked.prog.varsNamed 3) = true from sfuMay_named, show Tryz.pinned.checked.prog.stopsHeard = true from sfuMay_heard, show Tryz.pinned.checked.prog.mayEnter = true from sfuMay_enters]
  kernel_rfl
theorem sfuMay_wf : Rows.sfuMayRow.wfByText (OpenSpec.ofChange Rows.sfuMaySpec) = true := by kernel_rfl
theorem sfuMay_main : Tryz.pinned.checked.prog.mainIs = some (true, "008b67cd0be7e839926329eb5a563424acc08343b5993efd3202ae71c22d2ae8".toList) := by kernel_rfl
theorem sfuMay_looks : true = Tryz.pinned.checked.prog.looks [] := by
  unfold Program.looks
  exact (List.any_eq_true.2 ⟨73, List.mem_range.2 (of_decide_eq_true (by kernel_rfl)), by kernel_rfl⟩).symm
theorem sfuMay_goes : false = Rows.sfuMayRow.goesBy Tryz.pinned.checked.prog := goesBy_none Tryz.goesNot _ rfl
theorem sfuMay_holds : Rows.SfuMaySaid :=
  OpenClaim.holds_of_wide 3 Tryz.f3 rfl rfl rfl rfl rfl rfl rfl ⟨rfl, rfl, rfl, rfl, rfl⟩ rfl rfl rfl rfl rfl (by kernel_rfl) Tryz.func3 sfuMay_joined
    (of_decide_eq_true (by kernel_rfl)) (by unfold Func.isWrapper; first | (rw [if_pos (by decide +kernel)]; kernel_rfl) | (rw [if_neg (by decide +kernel)]; exact ⟨rfl, rfl⟩))
    (fun os started H enc _ => sfuMay_lifted os started H enc)

/-- The tied card of the row. -/
theorem sfuMay_card : Rows.SfuMayCardSaid :=
  Claim7.holds_tied_plain_at .later [] [.data, .pinned, .pinned, .pinned] true (true, "008b67cd0be7e839926329eb5a563424acc08343b5993efd3202ae71c22d2ae8") true
    sfuMay_holds (fun _ h => by cases h) sfuMay_wf (fun _ h => by cases h) sfuMay_row_tie rfl ⟨rfl, rfl⟩ sfuMay_main rfl
    (fun f fn hf hfn => by
      obtain rfl : f = 3 := Option.some.inj ((show Tryz.prog.funcNamed "antiphon/antiphonlaw26.SfuMay" = some 3 by kernel_rfl).symm.trans hf) |>.symm
      obtain rfl : fn = Tryz.f3 := (Option.some.inj (Tryz.func3.symm.trans hfn)).symm
      exact ⟨sfuMay_looks, fun j t ht => by
        rw [Tryz.params3] at ht
        have hm : t ∈ [22, 3, 3, 3, 3] := by simpa using Array.mem_of_getElem? ht
        have hall : ([22, 3, 3, 3, 3].all fun u => !Tryz.prog.wantsStandIn u) = true := by kernel_rfl
        exact (show Tryz.prog.wantsStandIn t = false by simpa using List.all_eq_true.1 hall t hm)⟩)
    sfuMay_goes
#print axioms sfuMay_card
end Go.Proofs.YtjjjeolcapebbaaGreatDoor

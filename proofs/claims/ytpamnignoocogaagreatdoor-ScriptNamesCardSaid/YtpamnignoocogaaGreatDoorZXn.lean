import Derived.Test.YtpamnignoocogaaGreatDoorZn
import Derived.Test.YtpamnignoocogaaGreatDoorLu
import Derived.Test.YtpamnignoocogaaGreatDoorM08
import Derived.Test.YtpamnignoocogaaGreatDoorTi
import Derived.Test.YtpamnignoocogaaGreatDoorZk
import Derived.Test.YtpamnignoocogaaGreatDoorCards
import Derived.SevenTiedAt
namespace Go.Proofs.YtpamnignoocogaaGreatDoor
open Go.ChangeShapes Go.WideShapes Go.ChangeAt Go.RowKit Go.Ab
set_option maxRecDepth 100000 in
theorem scriptNames_lifted (os : Os) (started : os.Started) (H : Type) (enc : TypeId × Value → H) :
  ReturnsInHanded {} Tryz.checked os 5 .any (fun w args => (Rows.scriptNamesSpec.pre enc Tryz.prog Tryz.f5 Rows.scriptNamesRow.domain false w args ∧ laidMetH Tryz.prog laidU w) ∧ sizedMet enc Tryz.prog Tryz.f5 (OpenSpec.ofChange Rows.scriptNamesSpec) false w args) (Rows.scriptNamesSpec.post enc Tryz.prog Tryz.f5 false true false false) := by
 refine law_lifted_shaped (C := Tryz.checked) (laid := laidU) (l := [9]) (tb := 4) (by kernel_rfl) started (by kernel_rfl) Tryz.func5
  (ChangeSpec.witness_shaped (enc := enc) (C := Tryz.checked) (os := os) (X := fun w _ => laidMetH Tryz.prog laidU w) false (World.laidAll Tryz.prog os laidU) #[.slice none 0 0, .slice none 0 0] 8 (World.laidAll_os _ _ _)
   (laid_shape os _) (by kernel_rfl) (by kernel_rfl) (by kernel_rfl) (laid_world os _)) rfl (by kernel_rfl) (by kernel_rfl) (fun ds hd => ?_)
  Tryz.kids Tryz.slots (by kernel_rfl) (by kernel_rfl) gLaw27ScriptNames_call facts_laid
 match ds, hd with
 | [d0, d1], _ => rfl
theorem scriptNames_joined : joinedFacts Tryz.pinned.checked.prog 5 Tryz.f5 Rows.scriptNamesSpec Rows.scriptNamesRow = true := by
 unfold joinedFacts;rw [show laidOutB Tryz.pinned.checked.prog = true from Tryz.laidOut, show mapsRowed Tryz.pinned.checked.prog = true from Tryz.mapsRow, show (Rows.scriptNamesRow.inPlace == Tryz.pinned.checked.prog.inPlace 5) = true from scriptNames_inPlace, show (Rows.scriptNamesRow.unfollowed == Tryz.pinned.checked.prog.unfollowed 5) = true from scriptNames_unfollowed, show (Rows.scriptNamesRow.recurses == Tryz.pinned.checked.prog.recurses 5) = true from scriptNames_recurses, show (Rows.scriptNamesRow.named == Tryz.pinned.checked.prog.varsNamed 5) = true from scriptNames_named, show Tryz.pinned.checked.prog.stopsHeard = true from scriptNames_heard, show Tryz.pinned.checked.prog.mayEnter = true from scriptNames_enters]
 kernel_rfl
theorem scriptNames_wf : Rows.scriptNamesRow.wfByText (OpenSpec.ofChange Rows.scriptNamesSpec) = true := by kernel_rfl
theorem scriptNames_main : Tryz.pinned.checked.prog.mainIs = some (true, "054d172cfbb0228f1488525935db2bd0f520eefb9b76aea8cfb990f6cbbaf0f8".toList) := by kernel_rfl
theorem scriptNames_looks : true = Tryz.pinned.checked.prog.looks [] := by
 unfold Program.looks;exact (List.any_eq_true.2 ⟨141, List.mem_range.2 (of_decide_eq_true (by kernel_rfl)), by kernel_rfl⟩).symm
theorem scriptNames_goes : false = Rows.scriptNamesRow.goesBy Tryz.pinned.checked.prog := goesBy_none Tryz.goesNot _ rfl
theorem scriptNames_holds : Rows.ScriptNamesSaid :=
 OpenClaim.holds_of_wide 5 Tryz.f5 rfl rfl rfl rfl rfl rfl rfl ⟨rfl, rfl, rfl, rfl, rfl⟩ rfl rfl rfl rfl rfl (by kernel_rfl) Tryz.func5 scriptNames_joined
  (of_decide_eq_true (by kernel_rfl)) (by unfold Func.isWrapper; first | (rw [if_pos (by decide +kernel)]; kernel_rfl) | (rw [if_neg (by decide +kernel)]; exact ⟨rfl, rfl⟩))
  (fun os started H enc _ => scriptNames_lifted os started H enc)
theorem scriptNames_card : Rows.ScriptNamesCardSaid :=
 Claim7.holds_tied_plain_at .later [] [.pinned, .data, .sentinel, .sentinel, .data, .data, .data, .data, .pinned, .pinned, .pinned] true (true, "054d172cfbb0228f1488525935db2bd0f520eefb9b76aea8cfb990f6cbbaf0f8") true
  scriptNames_holds (fun _ h => by cases h) scriptNames_wf (fun _ h => by cases h) scriptNames_row_tie rfl ⟨rfl, rfl⟩ scriptNames_main rfl
  (fun f fn hf hfn => by
   obtain rfl : f = 5 := Option.some.inj ((show Tryz.prog.funcNamed "antiphon/antiphonlaw27.ScriptNames" = some 5 by kernel_rfl).symm.trans hf) |>.symm;obtain rfl : fn = Tryz.f5 := (Option.some.inj (Tryz.func5.symm.trans hfn)).symm
   exact ⟨scriptNames_looks, fun j t ht => by
    rw [Tryz.params5] at ht;have hm : t ∈ [27, 27] := by simpa using Array.mem_of_getElem? ht
    have hall : ([27, 27].all fun u => !Tryz.prog.wantsStandIn u) = true := by kernel_rfl
    exact (show Tryz.prog.wantsStandIn t = false by simpa using List.all_eq_true.1 hall t hm)⟩)
  scriptNames_goes
#print axioms scriptNames_card
end Go.Proofs.YtpamnignoocogaaGreatDoor

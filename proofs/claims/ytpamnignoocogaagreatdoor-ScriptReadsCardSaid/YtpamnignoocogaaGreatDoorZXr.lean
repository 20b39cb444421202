import Derived.Test.YtpamnignoocogaaGreatDoorZr
import Derived.Test.YtpamnignoocogaaGreatDoorLu
import Derived.Test.YtpamnignoocogaaGreatDoorM05
import Derived.Test.YtpamnignoocogaaGreatDoorTi
import Derived.Test.YtpamnignoocogaaGreatDoorZj
import Derived.Test.YtpamnignoocogaaGreatDoorCards
import Derived.SevenTiedAt
namespace Go.Proofs.YtpamnignoocogaaGreatDoor
open Go.ChangeShapes Go.WideShapes Go.ChangeAt Go.RowKit Go.Ab
set_option maxRecDepth 100000 in
theorem scriptReads_lifted (os : Os) (started : os.Started) (H : Type) (enc : TypeId × Value → H) :
  ReturnsInHanded {} Tryz.checked os 3 .any (fun w args => (Rows.scriptReadsSpec.pre enc Tryz.prog Tryz.f3 Rows.scriptReadsRow.domain false w args ∧ laidMetH Tryz.prog laidU w) ∧ sizedMet enc Tryz.prog Tryz.f3 (OpenSpec.ofChange Rows.scriptReadsSpec) false w args) (Rows.scriptReadsSpec.post enc Tryz.prog Tryz.f3 false true false false) := by
 refine law_lifted_shaped (C := Tryz.checked) (laid := laidU) (l := [9]) (tb := 4) (by kernel_rfl) started (by kernel_rfl) Tryz.func3
  (ChangeSpec.witness_shaped (enc := enc) (C := Tryz.checked) (os := os) (X := fun w _ => laidMetH Tryz.prog laidU w) false (World.laidAll Tryz.prog os laidU) #[.string ⟨#[]⟩] 8 (World.laidAll_os _ _ _)
   (laid_shape os _) (by kernel_rfl) (by kernel_rfl) (by kernel_rfl) (laid_world os _)) rfl (by kernel_rfl) (by kernel_rfl) (fun ds hd => ?_)
  Tryz.kids Tryz.slots (by kernel_rfl) (by kernel_rfl) gLaw27ScriptReads_call facts_laid
 match ds, hd with
 | [d0], _ => rfl
theorem scriptReads_joined : joinedFacts Tryz.pinned.checked.prog 3 Tryz.f3 Rows.scriptReadsSpec Rows.scriptReadsRow = true := by
 unfold joinedFacts;rw [show laidOutB Tryz.pinned.checked.prog = true from Tryz.laidOut, show mapsRowed Tryz.pinned.checked.prog = true from Tryz.mapsRow, show (Rows.scriptReadsRow.inPlace == Tryz.pinned.checked.prog.inPlace 3) = true from scriptReads_inPlace, show (Rows.scriptReadsRow.unfollowed == Tryz.pinned.checked.prog.unfollowed 3) = true from scriptReads_unfollowed, show (Rows.scriptReadsRow.recurses == Tryz.pinned.checked.prog.recurses 3) = true from scriptReads_recurses, show (Rows.scriptReadsRow.named == Tryz.pinned.checked.prog.varsNamed 3) = true from scriptReads_named, show Tryz.pinned.checked.prog.stopsHeard = true from scriptReads_heard, show Tryz.pinned.checked.prog.mayEnter = true from scriptReads_enters]
 kernel_rfl
theorem scriptReads_wf : Rows.scriptReadsRow.wfByText (OpenSpec.ofChange Rows.scriptReadsSpec) = true := by kernel_rfl
theorem scriptReads_main : Tryz.pinned.checked.prog.mainIs = some (true, "054d172cfbb0228f1488525935db2bd0f520eefb9b76aea8cfb990f6cbbaf0f8".toList) := by kernel_rfl
theorem scriptReads_looks : true = Tryz.pinned.checked.prog.looks [] := by
 unfold Program.looks;exact (List.any_eq_true.2 ⟨141, List.mem_range.2 (of_decide_eq_true (by kernel_rfl)), by kernel_rfl⟩).symm
theorem scriptReads_goes : false = Rows.scriptReadsRow.goesBy Tryz.pinned.checked.prog := goesBy_none Tryz.goesNot _ rfl
theorem scriptReads_holds : Rows.ScriptReadsSaid :=
 OpenClaim.holds_of_wide 3 Tryz.f3 rfl rfl rfl rfl rfl rfl rfl ⟨rfl, rfl, rfl, rfl, rfl⟩ rfl rfl rfl rfl rfl (by kernel_rfl) Tryz.func3 scriptReads_joined
  (of_decide_eq_true (by kernel_rfl)) (by unfold Func.isWrapper; first | (rw [if_pos (by decide +kernel)]; kernel_rfl) | (rw [if_neg (by decide +kernel)]; exact ⟨rfl, rfl⟩))
  (fun os started H enc _ => scriptReads_lifted os started H enc)
theorem scriptReads_card : Rows.ScriptReadsCardSaid :=
 Claim7.holds_tied_plain_at .later [] [.pinned, .data, .sentinel, .sentinel, .data, .data, .data, .data, .pinned, .pinned, .pinned] true (true, "054d172cfbb0228f1488525935db2bd0f520eefb9b76aea8cfb990f6cbbaf0f8") true
  scriptReads_holds (fun _ h => by cases h) scriptReads_wf (fun _ h => by cases h) scriptReads_row_tie rfl ⟨rfl, rfl⟩ scriptReads_main rfl
  (fun f fn hf hfn => by
   obtain rfl : f = 3 := Option.some.inj ((show Tryz.prog.funcNamed "antiphon/antiphonlaw27.ScriptReads" = some 3 by kernel_rfl).symm.trans hf) |>.symm;obtain rfl : fn = Tryz.f3 := (Option.some.inj (Tryz.func3.symm.trans hfn)).symm
   exact ⟨scriptReads_looks, fun j t ht => by
    rw [Tryz.params3] at ht;have hm : t ∈ [9] := by simpa using Array.mem_of_getElem? ht
    have hall : ([9].all fun u => !Tryz.prog.wantsStandIn u) = true := by kernel_rfl
    exact (show Tryz.prog.wantsStandIn t = false by simpa using List.all_eq_true.1 hall t hm)⟩)
  scriptReads_goes
#print axioms scriptReads_card
end Go.Proofs.YtpamnignoocogaaGreatDoor

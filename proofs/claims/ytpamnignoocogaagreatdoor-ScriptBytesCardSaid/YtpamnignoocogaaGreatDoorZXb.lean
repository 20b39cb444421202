/- The statement 'ScriptBytes': where unicode's tables lie as they are laid, for every input the law answers true, and what came in reads as it did. No condition. -/
import Derived.Test.YtpamnignoocogaaGreatDoorZc
import Derived.Test.YtpamnignoocogaaGreatDoorLu
import Derived.Test.YtpamnignoocogaaGreatDoorM03
import Derived.Test.YtpamnignoocogaaGreatDoorTi
import Derived.Test.YtpamnignoocogaaGreatDoorZj
import Derived.Test.YtpamnignoocogaaGreatDoorCards
import Derived.SevenTiedAt
namespace Go.Proofs.YtpamnignoocogaaGreatDoor
open Go.ChangeShapes Go.WideShapes Go.ChangeAt Go.RowKit Go.Ab

set_option maxRecDepth 100000 in
theorem scriptBytes_lifted (os : Os) (started : os.Started) (H : Type) (enc : TypeId × Value → H) :
    ReturnsInHanded {} Tryz.checked os 4 .any (fun w args => (Rows.scriptBytesSpec.pre enc Tryz.prog Tryz.f4 Rows.scriptBytesRow.domain false w args ∧ laidMetH Tryz.prog laidU w) ∧ sizedMet enc Tryz.prog Tryz.f4 (OpenSpec.ofChange Rows.scriptBytesSpec) false w args) (Rows.scriptBytesSpec.post enc Tryz.prog Tryz.f4 false true false false) := by
  refine law_lifted_shaped (C := Tryz.checked) (laid := laidU) (l := [9]) (tb := 4) (by kernel_rfl) started (by kernel_rfl) Tryz.func4
    (ChangeSpec.witness_shaped (enc := enc) (C := Tryz.checked) (os := os) (X := fun w _ => laidMetH Tryz.prog laidU w) false (World.laidAll Tryz.prog os laidU) #[.string ⟨#[]⟩, .string ⟨#[]⟩] 8 (World.laidAll_os _ _ _)
      (laid_shape os _) (by kernel_rfl) (by kernel_rfl) (by kernel_rfl) (laid_world os _)) rfl (by kernel_rfl) (by kernel_rfl) (fun ds hd => ?_)
    Tryz.kids Tryz.slots (by kernel_rfl) (by kernel_rfl) gLaw27ScriptBytes_call facts_laid
  match ds, hd with
  | [d0, d1], _ => rfl

theorem scriptBytes_joined : joinedFacts Tryz.pinned.checked.prog 4 Tryz.f4 Rows.scriptBytesSpec Rows.scriptBytesRow = true := by
  unfold joinedFacts
  rw [show laidOutB Tryz.pinned.checked.prog = true from Tryz.laidOut, show mapsRowed Tryz.pinned.checked.prog = true from Tryz.mapsRow, show (Rows.scriptBytesRow.inPlace == Tryz.pinned.checked.prog.inPlace 4) = true from scriptBytes_inPlace, show (Rows.scriptBytesRow.unfollowed == Tryz.pinned.checked.prog.unfollowed 4) = true from scriptBytes_unfollowed, show (Rows.scriptBytesRow.recurses == Tryz.pinned.checked.prog.recurses 4) = true from scriptBytes_recurses, show (Rows.scriptBytesRow.named == Tryz.pinned.checked.prog.varsNamed 4) = true from scriptBytes_named, show Tryz.pinned.checked.prog.stopsHeard = true from scriptBytes_heard, show Tryz.pinned.checked.prog.mayEnter = true from scriptBytes_enters]
  kernel_rfl
theorem scriptBytes_wf : Rows.scriptBytesRow.wfByText (OpenSpec.ofChange Rows.scriptBytesSpec) = true := by kernel_rfl
theorem scriptBytes_main : Tryz.pinned.checked.prog.mainIs = some (true, "054d172cfbb0228f1488525935db2bd0f520eefb9b76aea8cfb990f6cbbaf0f8".toList) := by kernel_rfl
theorem scriptBytes_looks : true = Tryz.pinned.checked.prog.looks [] := by
  unfold Program.looks
  exact (List.any_eq_true.2 ⟨141, List.mem_range.2 (of_decide_eq_true (by kernel_rfl)), by kernel_rfl⟩).symm
theorem scriptBytes_goes : false = Rows.scriptBytesRow.goesBy Tryz.pinned.checked.prog := goesBy_none Tryz.goesNot _ rfl
theorem scriptBytes_holds : Rows.ScriptBytesSaid :=
  OpenClaim.holds_of_wide 4 Tryz.f4 rfl rfl rfl rfl rfl rfl rfl ⟨rfl, rfl, rfl, rfl, rfl⟩ rfl rfl rfl rfl rfl (by kernel_rfl) Tryz.func4 scriptBytes_joined
    (of_decide_eq_true (by kernel_rfl)) (by unfold Func.isWrapper; first | (rw [if_pos (by decide +kernel)]; kernel_rfl) | (rw [if_neg (by decide +kernel)]; exact ⟨rfl, rfl⟩))
    (fun os started H enc _ => scriptBytes_lifted os started H enc)

/-- The tied card of the row. -/
theorem scriptBytes_card : Rows.ScriptBytesCardSaid :=
  Claim7.holds_tied_plain_at .later [] [.pinned, .data, .sentinel, .sentinel, .data, .data, .data, .data, .pinned, .pinned, .pinned] true (true, "054d172cfbb0228f1488525935db2bd0f520eefb9b76aea8cfb990f6cbbaf0f8") true
    scriptBytes_holds (fun _ h => by cases h) scriptBytes_wf (fun _ h => by cases h) scriptBytes_row_tie rfl ⟨rfl, rfl⟩ scriptBytes_main rfl
    (fun f fn hf hfn => by
      obtain rfl : f = 4 := Option.some.inj ((show Tryz.prog.funcNamed "antiphon/antiphonlaw27.ScriptBytes" = some 4 by kernel_rfl).symm.trans hf) |>.symm
      obtain rfl : fn = Tryz.f4 := (Option.some.inj (Tryz.func4.symm.trans hfn)).symm
      exact ⟨scriptBytes_looks, fun j t ht => by
        rw [Tryz.params4] at ht
        have hm : t ∈ [9, 9] := by simpa using Array.mem_of_getElem? ht
        have hall : ([9, 9].all fun u => !Tryz.prog.wantsStandIn u) = true := by kernel_rfl
        exact (show Tryz.prog.wantsStandIn t = false by simpa using List.all_eq_true.1 hall t hm)⟩)
    scriptBytes_goes
#print axioms scriptBytes_card
end Go.Proofs.YtpamnignoocogaaGreatDoor

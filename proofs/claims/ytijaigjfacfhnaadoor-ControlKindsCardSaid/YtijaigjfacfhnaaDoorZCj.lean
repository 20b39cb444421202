/- The statement 'ControlKinds': where unicode's tables lie as they are laid, for every input the law answers true, and what came in reads as it did. No condition. -/
import Derived.Test.YtijaigjfacfhnaaDoorECj
import Derived.Test.YtijaigjfacfhnaaDoorM01
import Derived.Test.YtijaigjfacfhnaaDoorM11
import Derived.Test.YtijaigjfacfhnaaDoorTie
import Derived.Test.YtijaigjfacfhnaaDoorCards
import Derived.SevenTiedAt
namespace Go.Proofs.YtijaigjfacfhnaaDoor
open Go.ChangeShapes Go.WideShapes Go.ChangeAt Go.RowKit Go.Ab

set_option maxRecDepth 100000 in
theorem controlKinds_lifted (os : Os) (started : os.Started) (H : Type) (enc : TypeId × Value → H) :
    ReturnsInHanded {} Tryd.checked os 7 .any (fun w args => (Rows.controlKindsSpec.pre enc Tryd.prog Tryd.f7 Rows.controlKindsRow.domain false w args ∧ laidMetH Tryd.prog laidU w) ∧ sizedMet enc Tryd.prog Tryd.f7 (OpenSpec.ofChange Rows.controlKindsSpec) false w args) (Rows.controlKindsSpec.post enc Tryd.prog Tryd.f7 false true false false) := by
  refine law_lifted_laid (C := Tryd.checked) (laid := laidU) (l := [3]) (tb := 4) (by kernel_rfl) started (by kernel_rfl) Tryd.func7
    (ChangeSpec.witness_shaped (enc := enc) (C := Tryd.checked) (os := os) (X := fun w _ => laidMetH Tryd.prog laidU w) false (World.laidAll Tryd.prog os laidU) #[.int .i64 0, .int .i64 0] 8 (World.laidAll_os _ _ _)
      (laid_shape os _) (by kernel_rfl) (by kernel_rfl) (by kernel_rfl) (laid_world os _)) rfl (by kernel_rfl) (by kernel_rfl) (fun ds hd => ?_)
    (kids_rows (by kernel_rfl) (by kernel_rfl)) (by kernel_rfl) (by kernel_rfl) (by kernel_rfl) gLaw07ControlKinds_call facts_laid
  match ds, hd with
  | [d0, d1], _ => rfl

theorem controlKinds_holds : Rows.ControlKindsSaid :=
  OpenClaim.holds_of_wide 7 Tryd.f7 rfl rfl rfl rfl rfl rfl rfl ⟨rfl, rfl, rfl, rfl, rfl⟩ rfl rfl rfl rfl rfl (by kernel_rfl) Tryd.func7 (by kernel_rfl)
    (of_decide_eq_true (by kernel_rfl)) (by unfold Func.isWrapper; first | (rw [if_pos (by decide +kernel)]; kernel_rfl) | (rw [if_neg (by decide +kernel)]; exact ⟨rfl, rfl⟩))
    (fun os started H enc _ => controlKinds_lifted os started H enc)

/-- The tied card of the row. -/
theorem controlKinds_card : Rows.ControlKindsCardSaid :=
  Claim7.holds_tied_plain_at .later [] [.data, .pinned, .pinned] true (true, "c5631d791db8b75f4c3fb536128ff2dede51cd8553b63e77d34c5c9c0d596a3d") false
    controlKinds_holds (fun _ h => by cases h) (by kernel_rfl) (fun _ h => by cases h) controlKinds_row_tie rfl ⟨rfl, rfl⟩ (by kernel_rfl) rfl
    (fun f fn hf hfn => by
      obtain rfl : f = 7 := Option.some.inj ((show Tryd.prog.funcNamed "antiphon/antiphonlaw07.ControlKinds" = some 7 by kernel_rfl).symm.trans hf) |>.symm
      obtain rfl : fn = Tryd.f7 := (Option.some.inj (Tryd.func7.symm.trans hfn)).symm
      exact ⟨by kernel_rfl, fun j t ht => by
        rw [Tryd.params7] at ht
        have hm : t ∈ [3, 3] := by simpa using Array.mem_of_getElem? ht
        have hall : ([3, 3].all fun u => !Tryd.prog.wantsStandIn u) = true := by kernel_rfl
        exact (show Tryd.prog.wantsStandIn t = false by simpa using List.all_eq_true.1 hall t hm)⟩)
    (by kernel_rfl)
#print axioms controlKinds_card
end Go.Proofs.YtijaigjfacfhnaaDoor

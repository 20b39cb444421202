/- unicode.IsLetter, IsDigit, ToLower as contracts on abstract values. No condition. -/
import Derived.Test.YtoaiieheibcnlaaDoorUnD
import Derived.Test.YtoaiieheibcnlaaDoorTy
import Derived.Test.YtoaiieheibcnlaaDoorBl
namespace Go.Ab
open Go.Proofs Go.RowKit

@[simp] noncomputable def isLetterS : Sp
  | [.lit (.int .i32 r)], _ => some { av := .lit (.bool (letterR r)), obl := I32B r }
  | _, _ => none
@[simp] noncomputable def isDigitS : Sp
  | [.lit (.int .i32 r)], _ => some { av := .lit (.bool (digitR r)), obl := I32B r }
  | _, _ => none
@[simp] noncomputable def toLowerS : Sp
  | [.lit (.int .i32 r)], _ => some { av := .lit (.int .i32 (lowerR r)) }
  | _, _ => none

/-- A call that only makes blocks, and hands back a plain value. -/
theorem ok_below {P : Program} {f : FuncId} {g : G} {vs : List Value} {v : Value} (hent : ∀ args w, (callFunc f args).run P w = .ok (.enter f args) w) (sm : Sim g)
    (hc : Calls P f vs.toArray g.w fun e w' => e = .returned v ∧ Below g.w.heap.size g.w w') {ob : Prop} : 
    (callFunc f vs.toArray).run P g.w = .ok (.enter f vs.toArray) g.w ∧ Calls P f vs.toArray g.w fun e w' => ∃ u, e = .returned u ∧ Post g { av := .lit v, obl := ob } u w' := by
  refine ⟨hent _ _, hc.mono ?_⟩
  rintro e w' ⟨rfl, hb⟩
  exact ⟨v, rfl, g.β, g.ρ, sim_below hb sm, .lit _, keep_below hb⟩
end Go.Ab
namespace Go.Proofs
open Go.RowKit Go.Ab
theorem gIsLetter.ok : SpecOk Tryd.prog 21 isLetterS := by
  intro l M out h
  unfold isLetterS at h
  split at h
  · rename_i r
    cases h
    intro g vs hM sm hr ho
    cases hr with | cons hv hr => cases hr with | nil =>
    cases hv
    exact ok_below (fun _ _ => by kernel_rfl) sm (Any.unicode_IsLetter_all Tryd.laysLetter Tryd.gProps r g.w ho.1 ho.2 sm.fct.here.1 sm.fct.here.2.1)
  · cases h
theorem gIsDigit.ok : SpecOk Tryd.prog 22 isDigitS := by
  intro l M out h
  unfold isDigitS at h
  split at h
  · rename_i r
    cases h
    intro g vs hM sm hr ho
    cases hr with | cons hv hr => cases hr with | nil =>
    cases hv
    exact ok_below (fun _ _ => by kernel_rfl) sm (Any.unicode_IsDigit_all Tryd.laysDigit r g.w ho.1 ho.2 sm.fct.here.2.2.1)
  · cases h
theorem gToLower.ok : SpecOk Tryd.prog 20 toLowerS := by
  intro l M out h
  unfold toLowerS at h
  split at h
  · rename_i r
    cases h
    intro g vs hM sm hr ho
    cases hr with | cons hv hr => cases hr with | nil =>
    cases hv
    refine ok_below (fun _ _ => by kernel_rfl) sm ((Any.unicode_ToLower_laid Tryd.laysLower r g.w sm.fct.here.2.2.2).mono ?_)
    rintro e w' ⟨rfl, q, rfl⟩
    exact ⟨rfl, below_drewN _ _⟩
  · cases h
end Go.Proofs

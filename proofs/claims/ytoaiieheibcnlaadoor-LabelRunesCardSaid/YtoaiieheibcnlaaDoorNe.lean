/- That these functions compute what their plain functions do. No condition. -/
import Derived.Test.YtoaiieheibcnlaaDoorNeD
import Derived.Test.YtoaiieheibcnlaaDoorTy
import Derived.Test.YtoaiieheibcnlaaDoorNa
namespace Go.Proofs
open Go.Ab
@[simp] def gLaw06Awake.out  (r : Bool) : Out := { av := .lit (.bool r), M := none }
def gLaw06Awake.fin  (r : Bool) (σ : St) : Prop := finK (gLaw06Awake.out  r) [] σ.M (resA Tryd.ty σ.A σ.M Tryd.f8.results.toList)
set_option maxHeartbeats 4000000 in
set_option maxRecDepth 100000 in
theorem gLaw06Awake.can  (r : Bool) (hr : gLaw06Awake = some r) : CallOk Tryd.prog 8 [] [] (gLaw06Awake.out  r) := by
  unfold gLaw06Awake at hr
  have hΓ := (gamL_cons gLabelCheck.ok (gamL_cons gLabelClass.ok (gamL_cons gLabelSame.ok (gamL_cons gLabelShort.ok (gamL_nil)))) : GamOk Tryd.prog _)
  refine call_of_awp Tryd.tyOk Tryd.func8 rfl (by kernel_rfl) rfl rfl (by simp) ?_
  intro _ _ _
  refine AWp.then ⟨[], []⟩ (AWp.reg Tryd.tyOk hΓ (keep := []) (dead := []) (by kernel_rfl) rfl (by simp)) ?_
  obtain ⟨r1, h6, hr⟩ := bind_some' hr
  obtain ⟨h7, hr⟩ := need_some hr
  obtain ⟨h8, hr⟩ := need_some hr
  obtain ⟨h9, hr⟩ := need_some hr
  obtain ⟨h10, hr⟩ := need_some hr
  refine AWp.then ⟨[⟨0, none, .lit (.bool (pickB (pickB (pickB (pickB (eqI r1 0) (eqI ((gLabelCheck ⟨#[45, 97]⟩).getD dflt) 6) false) ((gLabelSame ⟨#[65, 98]⟩ ⟨#[97, 66]⟩).getD dflt) false) (eqI ((gLabelClass 55).getD dflt) 2) false) (eqS ((gLabelShort ⟨#[97, 98, 45, 99]⟩ 3).getD dflt) ⟨#[97, 98]⟩) false))⟩], []⟩ (AWp.reg Tryd.tyOk hΓ (keep := [0]) (dead := []) (by kernel_rfl) rfl (by simp [h6, h7, h8, h9, h10])) ?_
  refine AWp.ret ?_
  obtain rfl := some_inj hr
  refine fin_ret ?_
  simp

@[simp] noncomputable def gLaw06Awake.S : Sp
  | [], _ => some { av := .lit (.bool (gLaw06Awake.getD dflt)), M := none, obl := gLaw06Awake.isSome = true }
  | _, _ => none

set_option maxHeartbeats 1000000 in
theorem gLaw06Awake.ok : SpecOk Tryd.prog 8 gLaw06Awake.S := by
  intro l M out h
  unfold gLaw06Awake.S at h
  split at h
  · cases h
    refine callOk_of fun ho => ?_
    have hs := ho
    obtain ⟨r, hr⟩ := Option.isSome_iff_exists.1 hs
    simp only [hr, Option.getD_some]
    have q := call_frame (M := M) [] (gLaw06Awake.can r hr) (by simp) rfl (by intro k i hk; simp at hk)
    exact callOk_conv q trivial (by simp) (by simp [frameOut, gLaw06Awake.out]) (by simp [frameOut, gLaw06Awake.out])
  · cases h
end Go.Proofs

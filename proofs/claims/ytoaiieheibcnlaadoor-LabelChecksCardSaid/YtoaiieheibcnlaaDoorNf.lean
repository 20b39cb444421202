/- That these functions compute what their plain functions do. No condition. -/
import Derived.Test.YtoaiieheibcnlaaDoorNfD
import Derived.Test.YtoaiieheibcnlaaDoorTy
import Derived.Test.YtoaiieheibcnlaaDoorCu
import Derived.Test.YtoaiieheibcnlaaDoorNe
import Derived.Test.YtoaiieheibcnlaaDoorNb
import Derived.Test.YtoaiieheibcnlaaDoorNa
namespace Go.Proofs
open Go.Ab
@[simp] def gLaw06LabelChecks.out (_x0 : ByteArray) (r : Bool) : Out := { av := .lit (.bool r), M := none }
def gLaw06LabelChecks.fin (x0 : ByteArray) (r : Bool) (σ : St) : Prop := finK (gLaw06LabelChecks.out x0 r) [] σ.M (resA Tryd.ty σ.A σ.M Tryd.f3.results.toList)
set_option maxHeartbeats 4000000 in
set_option maxRecDepth 100000 in
theorem gLaw06LabelChecks.can (x0 : ByteArray) (r : Bool) (hr : gLaw06LabelChecks x0 = some r) : CallOk Tryd.prog 3 [.lit (.string x0)] [] (gLaw06LabelChecks.out x0 r) := by
  unfold gLaw06LabelChecks at hr
  have hΓ := (gamL_cons gLaw01Cut.ok (gamL_cons gLaw06Awake.ok (gamL_cons gRef06Good.ok (gamL_cons gLabelCheck.ok (gamL_nil)))) : GamOk Tryd.prog _)
  refine call_of_awp Tryd.tyOk Tryd.func3 rfl (by kernel_rfl) rfl rfl (by simp) ?_
  intro _ _ _
  refine AWp.then ⟨[⟨0, none, .lit (.string x0)⟩], []⟩ (AWp.reg Tryd.tyOk hΓ (keep := []) (dead := []) (by kernel_rfl) rfl (by simp)) ?_
  obtain ⟨r1, h5, hr⟩ := bind_some' hr
  refine AWp.then ⟨[⟨0, none, .lit (.string r1)⟩], []⟩ (AWp.reg Tryd.tyOk hΓ (keep := [0]) (dead := []) (by kernel_rfl) rfl (by simp [h5])) ?_
  obtain ⟨r2, h6, hr⟩ := bind_some' hr
  refine AWp.then ⟨[⟨3, none, .lit (.int .i64 r2)⟩, ⟨0, none, .lit (.string r1)⟩], []⟩ (AWp.reg Tryd.tyOk hΓ (keep := [3]) (dead := []) (by kernel_rfl) rfl (by simp [h6])) ?_
  obtain ⟨r3, h7, hr⟩ := bind_some' hr
  obtain ⟨h8, hr⟩ := need_some hr
  refine AWp.then ⟨[⟨2, none, .lit (.bool (pickB (pickB r3 (eqB (eqI r2 0) ((gRef06Good r1).getD dflt)) false) (pickB (eqI r2 0) true (eqI r2 6)) false))⟩], []⟩ (AWp.reg Tryd.tyOk hΓ (keep := [2]) (dead := [3, 0]) (by kernel_rfl) rfl (by simp [h7, h8])) ?_
  refine AWp.ret ?_
  obtain rfl := some_inj hr
  refine fin_ret ?_
  simp

@[simp] noncomputable def gLaw06LabelChecks.S : Sp
  | [.lit (.string x0)], _ => some { av := .lit (.bool ((gLaw06LabelChecks x0).getD dflt)), M := none, obl := (gLaw06LabelChecks x0).isSome = true }
  | _, _ => none

set_option maxHeartbeats 1000000 in
theorem gLaw06LabelChecks.ok : SpecOk Tryd.prog 3 gLaw06LabelChecks.S := by
  intro l M out h
  unfold gLaw06LabelChecks.S at h
  split at h
  · rename_i x0
    cases h
    refine callOk_of fun ho => ?_
    have hs := ho
    obtain ⟨r, hr⟩ := Option.isSome_iff_exists.1 hs
    simp only [hr, Option.getD_some]
    have q := call_frame (M := M) [] (gLaw06LabelChecks.can x0 r hr) (by simp) rfl (by intro k i hk; simp at hk)
    exact callOk_conv q trivial (by simp) (by simp [frameOut, gLaw06LabelChecks.out]) (by simp [frameOut, gLaw06LabelChecks.out])
  · cases h
end Go.Proofs

/- That these functions compute what their plain functions do. No condition. -/
import Derived.Test.YtoaiieheibcnlaaDoorCuD
import Derived.Test.YtoaiieheibcnlaaDoorTy
namespace Go.Proofs
open Go.Ab
@[simp] def gLaw01Cut.out (_x0 : ByteArray) (_x1 : Int) (r : ByteArray) : Out := { av := .lit (.string r), M := none }
def gLaw01Cut.fin (x0 : ByteArray) (x1 : Int) (r : ByteArray) (σ : St) : Prop := finK (gLaw01Cut.out x0 x1 r) [] σ.M (resA Tryd.ty σ.A σ.M Tryd.f6.results.toList)
set_option maxHeartbeats 4000000 in
set_option maxRecDepth 100000 in
theorem gLaw01Cut.can (x0 : ByteArray) (x1 : Int) (r : ByteArray) (hr : gLaw01Cut x0 x1 = some r) : CallOk Tryd.prog 6 [.lit (.string x0), .lit (.int .i64 x1)] [] (gLaw01Cut.out x0 x1 r) := by
  unfold gLaw01Cut at hr
  have hΓ := gamL_nil (P := Tryd.prog)
  refine call_of_awp Tryd.tyOk Tryd.func6 rfl (by kernel_rfl) rfl rfl (by simp) ?_
  intro _ _ _
  refine AWp.then ⟨[⟨0, none, .lit (.string x0)⟩, ⟨1, none, .lit (.int .i64 x1)⟩], []⟩ (AWp.reg Tryd.tyOk hΓ (keep := []) (dead := []) (by kernel_rfl) rfl (by simp)) ?_
  refine AWp.seq ?_
  refine AWp.then ⟨[⟨8, none, .lit (.bool (ltI x1 (lenS x0)))⟩, ⟨0, none, .lit (.string x0)⟩, ⟨1, none, .lit (.int .i64 x1)⟩], []⟩ (AWp.reg Tryd.tyOk hΓ (keep := [8]) (dead := []) (by kernel_rfl) rfl (by simp)) ?_
  refine AWp.cond (b := (ltI x1 (lenS x0))) (by simp) (fun h3 => ?_) (fun h3 => ?_)
  · have hr := cond_t h3 hr
    obtain ⟨h4, hr⟩ := need_some hr
    refine AWp.then ⟨[⟨4, none, .lit (.string (cutS x0 0 x1))⟩], []⟩ (AWp.reg Tryd.tyOk hΓ (keep := [4]) (dead := [8, 0, 1]) (by kernel_rfl) rfl (by simp [h3, h4])) ?_
    refine AWp.ret ?_
    obtain rfl := some_inj hr
    refine fin_ret ?_
    simp
  · have hr := cond_f h3 hr
    refine AWp.skip ?_
    refine AWp.then ⟨[⟨4, none, .lit (.string x0)⟩], []⟩ (AWp.reg Tryd.tyOk hΓ (keep := [4]) (dead := [8, 0, 1]) (by kernel_rfl) rfl (by simp [h3])) ?_
    refine AWp.ret ?_
    obtain rfl := some_inj hr
    refine fin_ret ?_
    simp

@[simp] noncomputable def gLaw01Cut.S : Sp
  | [.lit (.string x0), .lit (.int .i64 x1)], _ => some { av := .lit (.string ((gLaw01Cut x0 x1).getD dflt)), M := none, obl := (gLaw01Cut x0 x1).isSome = true }
  | _, _ => none

set_option maxHeartbeats 1000000 in
theorem gLaw01Cut.ok : SpecOk Tryd.prog 6 gLaw01Cut.S := by
  intro l M out h
  unfold gLaw01Cut.S at h
  split at h
  · rename_i x0 x1
    cases h
    refine callOk_of fun ho => ?_
    have hs := ho
    obtain ⟨r, hr⟩ := Option.isSome_iff_exists.1 hs
    simp only [hr, Option.getD_some]
    have q := call_frame (M := M) [] (gLaw01Cut.can x0 x1 r hr) (by simp) rfl (by intro k i hk; simp at hk)
    exact callOk_conv q trivial (by simp) (by simp [frameOut, gLaw01Cut.out]) (by simp [frameOut, gLaw01Cut.out])
  · cases h
end Go.Proofs

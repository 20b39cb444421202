/- That these functions compute what their plain functions do. No condition. -/
import Derived.Test.YtoaiieheibcnlaaDoorNgD
import Derived.Test.YtoaiieheibcnlaaDoorTy
import Derived.Test.YtoaiieheibcnlaaDoorCu
import Derived.Test.YtoaiieheibcnlaaDoorNe
import Derived.Test.YtoaiieheibcnlaaDoorNb
import Derived.Test.YtoaiieheibcnlaaDoorNa
namespace Go.Proofs
open Go.Ab
@[simp] def gLaw06LabelSame.out (_x0 : ByteArray) (_x1 : ByteArray) (r : Bool) : Out := { av := .lit (.bool r), M := none }
def gLaw06LabelSame.fin (x0 : ByteArray) (x1 : ByteArray) (r : Bool) (σ : St) : Prop := finK (gLaw06LabelSame.out x0 x1 r) [] σ.M (resA Tryd.ty σ.A σ.M Tryd.f4.results.toList)
set_option maxHeartbeats 4000000 in
set_option maxRecDepth 100000 in
theorem gLaw06LabelSame.can (x0 : ByteArray) (x1 : ByteArray) (r : Bool) (hr : gLaw06LabelSame x0 x1 = some r) : CallOk Tryd.prog 4 [.lit (.string x0), .lit (.string x1)] [] (gLaw06LabelSame.out x0 x1 r) := by
  unfold gLaw06LabelSame at hr
  have hΓ := (gamL_cons gLaw01Cut.ok (gamL_cons gLaw06Awake.ok (gamL_cons gRef06Fold.ok (gamL_cons gRef06Good.ok (gamL_cons gLabelSame.ok (gamL_nil))))) : GamOk Tryd.prog _)
  refine call_of_awp Tryd.tyOk Tryd.func4 rfl (by kernel_rfl) rfl rfl (by simp) ?_
  intro _ _ _
  refine AWp.then ⟨[⟨0, none, .lit (.string x0)⟩, ⟨1, none, .lit (.string x1)⟩], []⟩ (AWp.reg Tryd.tyOk hΓ (keep := []) (dead := []) (by kernel_rfl) rfl (by simp)) ?_
  obtain ⟨r1, h12, hr⟩ := bind_some' hr
  obtain ⟨r2, h13, hr⟩ := bind_some' hr
  refine AWp.then ⟨[⟨0, none, .lit (.string r1)⟩, ⟨1, none, .lit (.string r2)⟩], []⟩ (AWp.reg Tryd.tyOk hΓ (keep := [0, 1]) (dead := []) (by kernel_rfl) rfl (by simp [h12, h13])) ?_
  refine AWp.seq ?_
  obtain ⟨r3, h14, hr⟩ := bind_some' hr
  obtain ⟨h15, hr⟩ := need_some hr
  obtain ⟨h16, hr⟩ := need_some hr
  refine AWp.then ⟨[⟨20, none, .lit (.bool (pickB (pickB (notB r3) true (notB ((gRef06Good r1).getD dflt))) true (notB ((gRef06Good r2).getD dflt))))⟩, ⟨0, none, .lit (.string r1)⟩, ⟨1, none, .lit (.string r2)⟩], []⟩ (AWp.reg Tryd.tyOk hΓ (keep := [20]) (dead := []) (by kernel_rfl) rfl (by simp [h14, h15, h16])) ?_
  refine AWp.cond (b := (pickB (pickB (notB r3) true (notB ((gRef06Good r1).getD dflt))) true (notB ((gRef06Good r2).getD dflt)))) (by simp) (fun h17 => ?_) (fun h17 => ?_)
  · have hr := cond_t h17 hr
    refine AWp.then ⟨[⟨4, none, .lit (.bool r3)⟩], []⟩ (AWp.reg Tryd.tyOk hΓ (keep := [4]) (dead := [20, 0, 1]) (by kernel_rfl) rfl (by simp [h14, h17])) ?_
    refine AWp.ret ?_
    obtain rfl := some_inj hr
    refine fin_ret ?_
    simp
  · have hr := cond_f h17 hr
    refine AWp.skip ?_
    obtain ⟨r4, h18, hr⟩ := bind_some' hr
    obtain ⟨r5, h19, hr⟩ := bind_some' hr
    obtain ⟨r6, h20, hr⟩ := bind_some' hr
    obtain ⟨h21, hr⟩ := need_some hr
    obtain ⟨h22, hr⟩ := need_some hr
    refine AWp.then ⟨[⟨4, none, .lit (.bool (pickB (pickB (eqB r4 (eqS r5 r6)) (eqB r4 ((gLabelSame r2 r1).getD dflt)) false) ((gLabelSame r1 r1).getD dflt) false))⟩], []⟩ (AWp.reg Tryd.tyOk hΓ (keep := [4]) (dead := [20, 0, 1]) (by kernel_rfl) rfl (by simp [h17, h18, h19, h20, h21, h22])) ?_
    refine AWp.ret ?_
    obtain rfl := some_inj hr
    refine fin_ret ?_
    simp

@[simp] noncomputable def gLaw06LabelSame.S : Sp
  | [.lit (.string x0), .lit (.string x1)], _ => some { av := .lit (.bool ((gLaw06LabelSame x0 x1).getD dflt)), M := none, obl := (gLaw06LabelSame x0 x1).isSome = true }
  | _, _ => none

set_option maxHeartbeats 1000000 in
theorem gLaw06LabelSame.ok : SpecOk Tryd.prog 4 gLaw06LabelSame.S := by
  intro l M out h
  unfold gLaw06LabelSame.S at h
  split at h
  · rename_i x0 x1
    cases h
    refine callOk_of fun ho => ?_
    have hs := ho
    obtain ⟨r, hr⟩ := Option.isSome_iff_exists.1 hs
    simp only [hr, Option.getD_some]
    have q := call_frame (M := M) [] (gLaw06LabelSame.can x0 x1 r hr) (by simp) rfl (by intro k i hk; simp at hk)
    exact callOk_conv q trivial (by simp) (by simp [frameOut, gLaw06LabelSame.out]) (by simp [frameOut, gLaw06LabelSame.out])
  · cases h
end Go.Proofs

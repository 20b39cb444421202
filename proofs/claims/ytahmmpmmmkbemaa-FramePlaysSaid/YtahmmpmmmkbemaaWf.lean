/- That these functions compute what their plain functions do. No condition. -/
import Derived.Test.YtahmmpmmmkbemaaWfD
import Derived.Test.YtahmmpmmmkbemaaTy
import Derived.Test.YtahmmpmmmkbemaaFr
namespace Go.Proofs
open Go.Ab
@[simp] def gLaw10Awake.out  (r : Bool) : Out := { av := .lit (.bool r), M := none }
def gLaw10Awake.fin  (r : Bool) (σ : St) : Prop := finK (gLaw10Awake.out  r) [] σ.M (resA Try.ty σ.A σ.M Try.f5.results.toList)
set_option maxHeartbeats 4000000 in
set_option maxRecDepth 100000 in
theorem gLaw10Awake.can  (r : Bool) (hr : gLaw10Awake = some r) : CallOk Try.prog 5 [] [] (gLaw10Awake.out  r) := by
  unfold gLaw10Awake at hr
  have hΓ := (gamL_cons gFrameMakerOpen.ok (gamL_cons gFrameMakerPut.ok (gamL_cons gFrameFrameKey.ok (gamL_cons gFrameFrameSize.ok (gamL_cons gFrameNew.ok (gamL_nil))))) : GamOk Try.prog _)
  refine call_of_awp Try.tyOk Try.func5 rfl (by kernel_rfl) rfl rfl (by simp) ?_
  intro _ _ _
  refine AWp.then ⟨[], []⟩ (AWp.reg Try.tyOk hΓ (keep := []) (dead := []) (by kernel_rfl) rfl (by simp)) ?_
  obtain ⟨r1, h10, hr⟩ := bind_some' hr
  cases h11 : r1.1 with
  | none =>
    have hr := optC_n h11 hr
    refine AWp.then ⟨[⟨1, none, .lit (.pointer none)⟩, ⟨2, none, .lit (.int .i64 r1.2)⟩], []⟩ (AWp.reg Try.tyOk hΓ (keep := [1, 2]) (dead := []) (by kernel_rfl) rfl (by simp [h10, h11])) ?_
    refine AWp.seq ?_
    refine AWp.then ⟨[⟨17, none, .lit (.bool (pickB (neI r1.2 0) true true))⟩, ⟨1, none, .lit (.pointer none)⟩], []⟩ (AWp.reg Try.tyOk hΓ (keep := [17]) (dead := [2]) (by kernel_rfl) rfl (by simp)) ?_
    refine AWp.cond (b := (pickB (neI r1.2 0) true true)) (by simp) (fun h12 => ?_) (fun h12 => ?_)
    · have hr := cond_t h12 hr
      refine AWp.then ⟨[⟨0, none, .lit (.bool false)⟩], []⟩ (AWp.reg Try.tyOk hΓ (keep := [0]) (dead := [17, 1]) (by kernel_rfl) rfl (by simp [h12])) ?_
      refine AWp.ret ?_
      obtain rfl := some_inj hr
      refine fin_ret ?_
      simp
    · have hr := cond_f h12 hr
      refine AWp.skip ?_
      refine AWp.seq ?_
      cases hr
  | some o1 =>
    have hr := optC_s h11 hr
    refine AWp.then ⟨[⟨1, none, .ptr 1 0⟩, ⟨2, none, .lit (.int .i64 r1.2)⟩], [.dead, .blk [.lit (.bool o1.fConfig.fVideo), .lit (.int .i64 o1.fConfig.fBytes), .lit (.int .i64 o1.fConfig.fUnits), .lit (.int .i64 o1.fConfig.fWait), .sl (o1.fOpen.fUnits.map Antiphonref10Unit.enc) .no, .lit (.int .i64 o1.fWhole), .lit (.int .i64 o1.fLost)]]⟩ (AWp.reg Try.tyOk hΓ (keep := [1, 2]) (dead := []) (by kernel_rfl) rfl (by simp [h10, h11])) ?_
    refine AWp.seq ?_
    refine AWp.then ⟨[⟨17, none, .lit (.bool (pickB (neI r1.2 0) true false))⟩, ⟨1, none, .ptr 1 0⟩], [.dead, .blk [.lit (.bool o1.fConfig.fVideo), .lit (.int .i64 o1.fConfig.fBytes), .lit (.int .i64 o1.fConfig.fUnits), .lit (.int .i64 o1.fConfig.fWait), .sl (o1.fOpen.fUnits.map Antiphonref10Unit.enc) .no, .lit (.int .i64 o1.fWhole), .lit (.int .i64 o1.fLost)]]⟩ (AWp.reg Try.tyOk hΓ (keep := [17]) (dead := [2]) (by kernel_rfl) rfl (by simp)) ?_
    refine AWp.cond (b := (pickB (neI r1.2 0) true false)) (by simp) (fun h13 => ?_) (fun h13 => ?_)
    · have hr := cond_t h13 hr
      refine AWp.then ⟨[⟨0, none, .lit (.bool false)⟩], [.dead, .blk [.lit (.bool o1.fConfig.fVideo), .lit (.int .i64 o1.fConfig.fBytes), .lit (.int .i64 o1.fConfig.fUnits), .lit (.int .i64 o1.fConfig.fWait), .sl (o1.fOpen.fUnits.map Antiphonref10Unit.enc) .no, .lit (.int .i64 o1.fWhole), .lit (.int .i64 o1.fLost)]]⟩ (AWp.reg Try.tyOk hΓ (keep := [0]) (dead := [17, 1]) (by kernel_rfl) rfl (by simp [h13])) ?_
      refine AWp.ret ?_
      obtain rfl := some_inj hr
      refine fin_ret ?_
      simp
    · have hr := cond_f h13 hr
      refine AWp.skip ?_
      obtain ⟨r2, h14, hr⟩ := bind_some' hr
      refine AWp.then ⟨[⟨4, none, .lit (.bool r2.2.1)⟩, ⟨1, none, .ptr 1 0⟩], [.dead, .blk [.lit (.bool r2.2.2.fConfig.fVideo), .lit (.int .i64 r2.2.2.fConfig.fBytes), .lit (.int .i64 r2.2.2.fConfig.fUnits), .lit (.int .i64 r2.2.2.fConfig.fWait), .sl (r2.2.2.fOpen.fUnits.map Antiphonref10Unit.enc) .no, .lit (.int .i64 r2.2.2.fWhole), .lit (.int .i64 r2.2.2.fLost)], .blk [.sl (r2.1.fUnits.map Antiphonref10Unit.enc) .no]]⟩ (AWp.reg Try.tyOk hΓ (keep := [4]) (dead := [17]) (by kernel_rfl) rfl (by simp [h13, h14])) ?_
      obtain ⟨r3, h15, hr⟩ := bind_some' hr
      refine AWp.then ⟨[⟨5, none, .ptr 3 0⟩, ⟨6, none, .lit (.bool r3.2.1)⟩, ⟨4, none, .lit (.bool r2.2.1)⟩, ⟨1, none, .ptr 1 0⟩], [.dead, .blk [.lit (.bool r3.2.2.fConfig.fVideo), .lit (.int .i64 r3.2.2.fConfig.fBytes), .lit (.int .i64 r3.2.2.fConfig.fUnits), .lit (.int .i64 r3.2.2.fConfig.fWait), .sl (r3.2.2.fOpen.fUnits.map Antiphonref10Unit.enc) .no, .lit (.int .i64 r3.2.2.fWhole), .lit (.int .i64 r3.2.2.fLost)], .blk [.sl (r2.1.fUnits.map Antiphonref10Unit.enc) .no], .blk [.sl (r3.1.fUnits.map Antiphonref10Unit.enc) .no]]⟩ (AWp.reg Try.tyOk hΓ (keep := [5, 6]) (dead := []) (by kernel_rfl) rfl (by simp [h15])) ?_
      obtain ⟨h16, hr⟩ := need_some hr
      obtain ⟨h17, hr⟩ := need_some hr
      obtain ⟨h18, hr⟩ := need_some hr
      refine AWp.then ⟨[⟨0, none, .lit (.bool (pickB (pickB (pickB (pickB (pickB (notB r2.2.1) r3.2.1 false) (eqI (lenL r3.1.fUnits) 2) false) ((gFrameFrameKey r3.1).getD dflt) false) (eqI ((gFrameFrameSize r3.1).getD dflt) 2) false) (eqI ((gFrameMakerOpen r3.2.2).getD dflt) 0) false))⟩], [.dead, .blk [.lit (.bool r3.2.2.fConfig.fVideo), .lit (.int .i64 r3.2.2.fConfig.fBytes), .lit (.int .i64 r3.2.2.fConfig.fUnits), .lit (.int .i64 r3.2.2.fConfig.fWait), .sl (r3.2.2.fOpen.fUnits.map Antiphonref10Unit.enc) .no, .lit (.int .i64 r3.2.2.fWhole), .lit (.int .i64 r3.2.2.fLost)], .blk [.sl (r2.1.fUnits.map Antiphonref10Unit.enc) .no], .blk [.sl (r3.1.fUnits.map Antiphonref10Unit.enc) .no]]⟩ (AWp.reg Try.tyOk hΓ (keep := [0]) (dead := [5, 6, 4, 1]) (by kernel_rfl) rfl (by simp [h16, h17, h18])) ?_
      refine AWp.ret ?_
      obtain rfl := some_inj hr
      refine fin_ret ?_
      simp

@[simp] noncomputable def gLaw10Awake.S : Sp
  | [], _ => some { av := .lit (.bool (gLaw10Awake.getD dflt)), M := none, obl := gLaw10Awake.isSome = true }
  | _, _ => none

set_option maxHeartbeats 1000000 in
theorem gLaw10Awake.ok : SpecOk Try.prog 5 gLaw10Awake.S := by
  intro l M out h
  unfold gLaw10Awake.S at h
  split at h
  · cases h
    refine callOk_of fun ho => ?_
    have hs := ho
    obtain ⟨r, hr⟩ := Option.isSome_iff_exists.1 hs
    simp only [hr, Option.getD_some]
    have q := call_frame (M := M) [] (gLaw10Awake.can r hr) (by simp) rfl (by intro k i hk; simp at hk)
    exact callOk_conv q trivial (by simp) (by simp [frameOut, gLaw10Awake.out]) (by simp [frameOut, gLaw10Awake.out])
  · cases h
end Go.Proofs

/- That these functions compute what their plain functions do. No condition. -/
import Derived.Test.YtbijdlgffebenaaM01
import Derived.Test.YtbijdlgffebenaaTy
namespace Go.Proofs
open Go.Ab
theorem libClone7.ok : SpecOk Try.prog 53 (cloneS 7 48) := by
  intro l M out h
  unfold cloneS at h
  split at h
  · rename_i els tok
    cases h
    refine callOk_nil ?_ ?_
    · refine call_of_vc Try.mixed Try.tyOk gamL_nil (fun | 0 => [2] | 1 => [4] | 2 => [2] | 3 => [2] | _ => []) (fun _ => []) Try.func53 rfl (by kernel_rfl) rfl rfl (by simp) ?_
      intro _ hbM hbA
      simp [hbM]
    · refine call_of_vc Try.mixed Try.tyOk gamL_nil (fun | 0 => [2] | 1 => [4] | 2 => [2] | 3 => [2] | _ => []) (fun _ => []) Try.func53 rfl (by kernel_rfl) rfl rfl (by simp) ?_
      intro ho hbM hbA
      simp at hbA ho
      simp [hbA, hbM, ho, appL]
      try exact ho.1
  · cases h

@[simp] def gFrameMakerOpen.out (_x0 : FrameMaker) (r : Int) : Out := { av := .lit (.int .i64 r), M := none }
set_option maxHeartbeats 4000000 in
set_option maxRecDepth 100000 in
theorem gFrameMakerOpen.can (x0 : FrameMaker) (r : Int) (hr : gFrameMakerOpen x0 = some r) : CallOk Try.prog 46 [.ptr 0 0] [.blk x0.enc] (gFrameMakerOpen.out x0 r) := by
  unfold gFrameMakerOpen at hr
  have hΓ := gamL_nil (P := Try.prog)
  refine call_of_awp Try.tyOk Try.func46 rfl (by kernel_rfl) rfl rfl (by simp) ?_
  intro _ _ _
  refine AWp.then ⟨[⟨0, none, .ptr 0 0⟩], [.blk x0.enc]⟩ (AWp.reg Try.tyOk hΓ (keep := []) (dead := []) (by kernel_rfl) rfl (by simp)) ?_
  refine AWp.then ⟨[⟨2, none, .lit (.int .i64 (lenL x0.fOpen.fUnits))⟩], [.blk x0.enc]⟩ (AWp.reg Try.tyOk hΓ (keep := [2]) (dead := [0]) (by kernel_rfl) rfl (by simp)) ?_
  refine AWp.ret ?_
  obtain rfl := some_inj hr
  refine fin_ret ?_
  simp

@[simp] noncomputable def gFrameMakerOpen.S : Sp
  | [.ptr i0 0], M => match M[i0]? with
    | some (.blk c0) => some { av := .lit (.int .i64 ((gFrameMakerOpen (FrameMaker.dec c0)).getD dflt)), M := none, obl := c0 = FrameMaker.enc (FrameMaker.dec c0) ∧ (gFrameMakerOpen (FrameMaker.dec c0)).isSome = true }
    | _ => none
  | _, _ => none

set_option maxHeartbeats 1000000 in
theorem gFrameMakerOpen.ok : SpecOk Try.prog 46 gFrameMakerOpen.S := by
  intro l M out h
  unfold gFrameMakerOpen.S at h
  split at h
  · rename_i i0
    split at h
    case h_2 => cases h
    rename_i c0 hM0
    cases h
    refine callOk_of fun ho => ?_
    obtain ⟨oc0, hs⟩ := ho
    generalize (FrameMaker.dec c0) = y0 at *
    subst oc0
    obtain ⟨r, hr⟩ := Option.isSome_iff_exists.1 hs
    simp only [hr, Option.getD_some]
    have q := call_frame (M := M) [i0] (gFrameMakerOpen.can y0 r hr) (by simp) rfl (by intro k i hk; (cases k with | zero => (simp at hk; subst hk; simp [hM0]) | succ k => (simp at hk)))
    exact callOk_conv q trivial (by simp [into]) (by simp [frameOut, gFrameMakerOpen.out]) (by simp only [frameOut, gFrameMakerOpen.out, Option.getD_some, Option.getD_none]; simp [hM0, set_same])
  · cases h

@[simp] def gFrameFrameKey.out (_x0 : FrameFrame) (r : Bool) : Out := { av := .lit (.bool r), M := none }
set_option maxHeartbeats 4000000 in
set_option maxRecDepth 100000 in
theorem gFrameFrameKey.can (x0 : FrameFrame) (r : Bool) (hr : gFrameFrameKey x0 = some r) : CallOk Try.prog 12 [.agg [.sl (x0.fUnits.map Antiphonref10Unit.enc) .no]] [] (gFrameFrameKey.out x0 r) := by
  unfold gFrameFrameKey at hr
  have hΓ := gamL_nil (P := Try.prog)
  refine call_of_awp Try.tyOk Try.func12 rfl (by kernel_rfl) rfl rfl (by simp) ?_
  intro _ _ _
  refine AWp.then ⟨[⟨1, none, .ptr 0 0⟩], [.blk [.sl (x0.fUnits.map Antiphonref10Unit.enc) .no]]⟩ (AWp.reg Try.tyOk hΓ (keep := [1]) (dead := [0]) (by kernel_rfl) rfl (by simp)) ?_
  obtain ⟨h2, hr⟩ := need_some hr
  refine AWp.then ⟨[⟨2, none, .lit (.bool (pickB (ltI 0 (lenL x0.fUnits)) ((nthI x0.fUnits 0).fKey) false))⟩], [.blk [.sl (x0.fUnits.map Antiphonref10Unit.enc) .no]]⟩ (AWp.reg Try.tyOk hΓ (keep := [2]) (dead := [1]) (by kernel_rfl) rfl (by simp [h2])) ?_
  refine AWp.ret ?_
  obtain rfl := some_inj hr
  refine fin_ret ?_
  simp

@[simp] noncomputable def gFrameFrameKey.S : Sp
  | [.agg e0], _ => some { av := .lit (.bool ((gFrameFrameKey (FrameFrame.dec e0)).getD dflt)), M := none, obl := WeakL e0 (FrameFrame.enc (FrameFrame.dec e0)) ∧ (gFrameFrameKey (FrameFrame.dec e0)).isSome = true }
  | _, _ => none

set_option maxHeartbeats 1000000 in
theorem gFrameFrameKey.ok : SpecOk Try.prog 12 gFrameFrameKey.S := by
  intro l M out h
  unfold gFrameFrameKey.S at h
  split at h
  · rename_i e0
    cases h
    refine callOk_of fun ho => ?_
    obtain ⟨ox0, hs⟩ := ho
    generalize (FrameFrame.dec e0) = x0 at *
    obtain ⟨r, hr⟩ := Option.isSome_iff_exists.1 hs
    simp only [hr, Option.getD_some]
    have q := call_frame (M := M) [] (gFrameFrameKey.can x0 r hr) (by simp) rfl (by intro k i hk; simp at hk)
    exact callOk_conv q trivial (by simp; exact ox0) (by simp [frameOut, gFrameFrameKey.out]) (by simp [frameOut, gFrameFrameKey.out])
  · cases h

@[simp] def gFrameFrameSize.out (_x0 : FrameFrame) (r : Int) : Out := { av := .lit (.int .i64 r), M := none }
def gFrameFrameSize.fin (x0 : FrameFrame) (r : Int) (σ : St) : Prop := finK (gFrameFrameSize.out x0 r) [] σ.M (resA Try.ty σ.A σ.M Try.f54.results.toList)
set_option maxHeartbeats 4000000 in
set_option maxRecDepth 100000 in
theorem gFrameFrameSize.can (x0 : FrameFrame) (r : Int) (hr : gFrameFrameSize x0 = some r) : CallOk Try.prog 54 [.agg [.sl (x0.fUnits.map Antiphonref10Unit.enc) .no]] [] (gFrameFrameSize.out x0 r) := by
  unfold gFrameFrameSize at hr
  have hΓ := gamL_nil (P := Try.prog)
  refine call_of_awp Try.tyOk Try.func54 rfl (by kernel_rfl) rfl rfl (by simp) ?_
  intro _ _ _
  refine AWp.then ⟨[⟨1, none, .ptr 0 0⟩], [.blk [.sl (x0.fUnits.map Antiphonref10Unit.enc) .no]]⟩ (AWp.reg Try.tyOk hΓ (keep := [1]) (dead := [0]) (by kernel_rfl) rfl (by simp)) ?_
  refine AWp.then ⟨[⟨3, none, .lit (.int .i64 0)⟩, ⟨1, none, .ptr 0 0⟩], [.blk [.sl (x0.fUnits.map Antiphonref10Unit.enc) .no]]⟩ (AWp.reg Try.tyOk hΓ (keep := [3]) (dead := []) (by kernel_rfl) rfl (by simp)) ?_
  refine AWp.seq ?_
  refine AWp.then ⟨[⟨7, none, .sl (x0.fUnits.map Antiphonref10Unit.enc) .no⟩, ⟨8, none, .lit (.int .i64 (lenL x0.fUnits))⟩, ⟨9, none, .lit (.int .i64 0)⟩, ⟨3, none, .lit (.int .i64 0)⟩], [.blk [.sl (x0.fUnits.map Antiphonref10Unit.enc) .no]]⟩ (AWp.reg Try.tyOk hΓ (keep := [7, 8, 9]) (dead := [1]) (by kernel_rfl) rfl (by simp)) ?_
  refine AWp.loopE (fun (s1 : Int × Int) (γ1 : Unit) => ⟨[⟨7, none, .sl (x0.fUnits.map Antiphonref10Unit.enc) .no⟩, ⟨8, none, .lit (.int .i64 (lenL x0.fUnits))⟩, ⟨9, none, .lit (.int .i64 s1.1)⟩, ⟨3, none, .lit (.int .i64 s1.2)⟩], [.blk [.sl (x0.fUnits.map Antiphonref10Unit.enc) .no]]⟩) (fun (v1 : Int) (γ1a : Unit) => ⟨[⟨3, none, .lit (.int .i64 v1)⟩], [.blk [.sl (x0.fUnits.map Antiphonref10Unit.enc) .no]]⟩) (gFrameFrameSize.fin x0) hr () 1 (by simp) (fun s1 f γ1 hr => ?_) (fun v1 γ1a σ1 m1 hr hc => ?_) (fun _ h => h)
  · unfold gFrameFrameSize.loop1 at hr
    refine AWp.then ⟨[⟨10, none, .lit (.bool (ltI s1.1 (lenL x0.fUnits)))⟩, ⟨7, none, .sl (x0.fUnits.map Antiphonref10Unit.enc) .no⟩, ⟨8, none, .lit (.int .i64 (lenL x0.fUnits))⟩, ⟨9, none, .lit (.int .i64 s1.1)⟩, ⟨3, none, .lit (.int .i64 s1.2)⟩], [.blk [.sl (x0.fUnits.map Antiphonref10Unit.enc) .no]]⟩ (AWp.reg Try.tyOk hΓ (keep := [10]) (dead := []) (by kernel_rfl) rfl (by simp)) ?_
    refine AWp.seq ?_
    refine AWp.cond (b := (ltI s1.1 (lenL x0.fUnits))) (by simp) (fun h3 => ?_) (fun h3 => ?_)
    · have hr := cond_t h3 hr
      refine AWp.skip ?_
      refine AWp.seq ?_
      refine AWp.block ?_
      obtain ⟨h4, hr⟩ := need_some hr
      refine AWp.then ⟨[⟨5, none, .ptr 1 0⟩, ⟨7, none, .sl (x0.fUnits.map Antiphonref10Unit.enc) .no⟩, ⟨8, none, .lit (.int .i64 (lenL x0.fUnits))⟩, ⟨9, none, .lit (.int .i64 s1.1)⟩, ⟨3, none, .lit (.int .i64 s1.2)⟩], [.blk [.sl (x0.fUnits.map Antiphonref10Unit.enc) .no], .blk (nthI x0.fUnits s1.1).enc]⟩ (AWp.reg Try.tyOk hΓ (keep := [5]) (dead := [10]) (by kernel_rfl) rfl (by simp [h3, h4])) ?_
      refine AWp.last ⟨[⟨3, none, .lit (.int .i64 (addI .i64 s1.2 (lenS ((nthI x0.fUnits s1.1).fText))))⟩, ⟨7, none, .sl (x0.fUnits.map Antiphonref10Unit.enc) .no⟩, ⟨8, none, .lit (.int .i64 (lenL x0.fUnits))⟩, ⟨9, none, .lit (.int .i64 s1.1)⟩], [.blk [.sl (x0.fUnits.map Antiphonref10Unit.enc) .no], .blk (nthI x0.fUnits s1.1).enc]⟩ (AWp.reg Try.tyOk hΓ (keep := [3]) (dead := [5]) (by kernel_rfl) rfl (by simp)) ?_
      refine AWp.last ⟨[⟨9, none, .lit (.int .i64 (addI .i64 s1.1 1))⟩, ⟨3, none, .lit (.int .i64 (addI .i64 s1.2 (lenS ((nthI x0.fUnits s1.1).fText))))⟩, ⟨7, none, .sl (x0.fUnits.map Antiphonref10Unit.enc) .no⟩, ⟨8, none, .lit (.int .i64 (lenL x0.fUnits))⟩], [.blk [.sl (x0.fUnits.map Antiphonref10Unit.enc) .no], .blk (nthI x0.fUnits s1.1).enc]⟩ (AWp.reg Try.tyOk hΓ (keep := [9]) (dead := []) (by kernel_rfl) rfl (by simp)) ?_
      obtain rfl := some_inj hr
      exact round_go () 1 (by first | (simp; done) | simp [h3, h4])
    · have hr := cond_f h3 hr
      refine AWp.exit ?_
      obtain rfl := some_inj hr
      exact round_out () 1 (by first | (simp; done) | simp [h3])
  · refine AWp.conv hc ?_
    refine AWp.then ⟨[⟨2, none, .lit (.int .i64 v1)⟩], [.blk [.sl (x0.fUnits.map Antiphonref10Unit.enc) .no]]⟩ (AWp.reg Try.tyOk hΓ (keep := [2]) (dead := [3]) (by kernel_rfl) rfl (by simp)) ?_
    refine AWp.ret ?_
    obtain rfl := some_inj hr
    refine fin_ret ?_
    simp

@[simp] noncomputable def gFrameFrameSize.S : Sp
  | [.agg e0], _ => some { av := .lit (.int .i64 ((gFrameFrameSize (FrameFrame.dec e0)).getD dflt)), M := none, obl := WeakL e0 (FrameFrame.enc (FrameFrame.dec e0)) ∧ (gFrameFrameSize (FrameFrame.dec e0)).isSome = true }
  | _, _ => none

set_option maxHeartbeats 1000000 in
theorem gFrameFrameSize.ok : SpecOk Try.prog 54 gFrameFrameSize.S := by
  intro l M out h
  unfold gFrameFrameSize.S at h
  split at h
  · rename_i e0
    cases h
    refine callOk_of fun ho => ?_
    obtain ⟨ox0, hs⟩ := ho
    generalize (FrameFrame.dec e0) = x0 at *
    obtain ⟨r, hr⟩ := Option.isSome_iff_exists.1 hs
    simp only [hr, Option.getD_some]
    have q := call_frame (M := M) [] (gFrameFrameSize.can x0 r hr) (by simp) rfl (by intro k i hk; simp at hk)
    exact callOk_conv q trivial (by simp; exact ox0) (by simp [frameOut, gFrameFrameSize.out]) (by simp [frameOut, gFrameFrameSize.out])
  · cases h

@[simp] def gFrameConfigCheck.out (_x0 : FrameConfig) (r : Int) : Out := { av := .lit (.int .i64 r), M := none }
set_option maxHeartbeats 4000000 in
set_option maxRecDepth 100000 in
theorem gFrameConfigCheck.can (x0 : FrameConfig) (r : Int) (hr : gFrameConfigCheck x0 = some r) : CallOk Try.prog 22 [.agg [.lit (.bool x0.fVideo), .lit (.int .i64 x0.fBytes), .lit (.int .i64 x0.fUnits), .lit (.int .i64 x0.fWait)]] [] (gFrameConfigCheck.out x0 r) := by
  unfold gFrameConfigCheck at hr
  have hΓ := gamL_nil (P := Try.prog)
  refine call_of_awp Try.tyOk Try.func22 rfl (by kernel_rfl) rfl rfl (by simp) ?_
  intro _ _ _
  refine AWp.then ⟨[⟨1, none, .ptr 0 0⟩], [.blk x0.enc]⟩ (AWp.reg Try.tyOk hΓ (keep := [1]) (dead := [0]) (by kernel_rfl) rfl (by simp)) ?_
  refine AWp.seq ?_
  refine AWp.then ⟨[⟨30, none, .lit (.bool (pickB (pickB (pickB (pickB (pickB (ltI x0.fBytes 1) true (ltI 1048576 x0.fBytes)) true (ltI x0.fUnits 1)) true (ltI 1024 x0.fUnits)) true (ltI x0.fWait 0)) true (ltI 1099511627776 x0.fWait)))⟩], [.blk x0.enc]⟩ (AWp.reg Try.tyOk hΓ (keep := [30]) (dead := [1]) (by kernel_rfl) rfl (by simp)) ?_
  refine AWp.cond (b := (pickB (pickB (pickB (pickB (pickB (ltI x0.fBytes 1) true (ltI 1048576 x0.fBytes)) true (ltI x0.fUnits 1)) true (ltI 1024 x0.fUnits)) true (ltI x0.fWait 0)) true (ltI 1099511627776 x0.fWait))) (by simp) (fun h2 => ?_) (fun h2 => ?_)
  · have hr := cond_t h2 hr
    refine AWp.then ⟨[⟨2, none, .lit (.int .i64 5)⟩], [.blk x0.enc]⟩ (AWp.reg Try.tyOk hΓ (keep := [2]) (dead := [30]) (by kernel_rfl) rfl (by simp [h2])) ?_
    refine AWp.ret ?_
    obtain rfl := some_inj hr
    refine fin_ret ?_
    simp
  · have hr := cond_f h2 hr
    refine AWp.skip ?_
    refine AWp.then ⟨[⟨2, none, .lit (.int .i64 0)⟩], [.blk x0.enc]⟩ (AWp.reg Try.tyOk hΓ (keep := [2]) (dead := [30]) (by kernel_rfl) rfl (by simp [h2])) ?_
    refine AWp.ret ?_
    obtain rfl := some_inj hr
    refine fin_ret ?_
    simp

@[simp] noncomputable def gFrameConfigCheck.S : Sp
  | [.agg e0], _ => some { av := .lit (.int .i64 ((gFrameConfigCheck (FrameConfig.dec e0)).getD dflt)), M := none, obl := WeakL e0 (FrameConfig.enc (FrameConfig.dec e0)) ∧ (gFrameConfigCheck (FrameConfig.dec e0)).isSome = true }
  | _, _ => none

set_option maxHeartbeats 1000000 in
theorem gFrameConfigCheck.ok : SpecOk Try.prog 22 gFrameConfigCheck.S := by
  intro l M out h
  unfold gFrameConfigCheck.S at h
  split at h
  · rename_i e0
    cases h
    refine callOk_of fun ho => ?_
    obtain ⟨ox0, hs⟩ := ho
    generalize (FrameConfig.dec e0) = x0 at *
    obtain ⟨r, hr⟩ := Option.isSome_iff_exists.1 hs
    simp only [hr, Option.getD_some]
    have q := call_frame (M := M) [] (gFrameConfigCheck.can x0 r hr) (by simp) rfl (by intro k i hk; simp at hk)
    exact callOk_conv q trivial (by simp; exact ox0) (by simp [frameOut, gFrameConfigCheck.out]) (by simp [frameOut, gFrameConfigCheck.out])
  · cases h

@[simp] def gFrameMakerDrop.out (_x0 : FrameMaker) (r : FrameMaker) : Out := { av := .tup [], M := some [.blk [.lit (.bool r.fConfig.fVideo), .lit (.int .i64 r.fConfig.fBytes), .lit (.int .i64 r.fConfig.fUnits), .lit (.int .i64 r.fConfig.fWait), .sl (r.fOpen.fUnits.map Antiphonref10Unit.enc) .no, .lit (.int .i64 r.fWhole), .lit (.int .i64 r.fLost)]] }
set_option maxHeartbeats 4000000 in
set_option maxRecDepth 100000 in
theorem gFrameMakerDrop.can (x0 : FrameMaker) (r : FrameMaker) (hr : gFrameMakerDrop x0 = some r) : CallOk Try.prog 47 [.ptr 0 0] [.blk x0.enc] (gFrameMakerDrop.out x0 r) := by
  unfold gFrameMakerDrop at hr
  have hΓ := (gamL_cons gFrameMakerOpen.ok (gamL_nil) : GamOk Try.prog _)
  refine call_of_awp Try.tyOk Try.func47 rfl (by kernel_rfl) rfl rfl (by simp) ?_
  intro _ _ _
  obtain ⟨r1, h2, hr⟩ := bind_some' hr
  refine AWp.then ⟨[⟨0, none, .ptr 0 0⟩], [.blk (x0.fConfig.enc ++ [.sl (x0.fOpen.fUnits.map Antiphonref10Unit.enc) .no, .lit (.int .i64 x0.fWhole), .lit (.int .i64 (addI .i64 x0.fLost r1))])]⟩ (AWp.regD Try.mixed Try.tyOk hΓ (keep := []) (dead := []) [] [(false, []), (false, []), (false, []), (false, []), (false, []), (false, []), (false, []), (false, []), (false, []), (true, [])] (by kernel_rfl) rfl (by simp [h2])) ?_
  refine AWp.last ⟨[], [.blk (x0.fConfig.enc ++ [.sl [] .no, .lit (.int .i64 x0.fWhole), .lit (.int .i64 (addI .i64 x0.fLost r1))])]⟩ (AWp.reg Try.tyOk hΓ (keep := []) (dead := [0]) (by kernel_rfl) rfl (by simp)) ?_
  obtain rfl := some_inj hr
  refine fin_norm ?_
  simp

@[simp] noncomputable def gFrameMakerDrop.S : Sp
  | [.ptr i0 0], M => match M[i0]? with
    | some (.blk c0) => (fun (r : FrameMaker) => some { av := .tup [], M := some (M.set i0 (.blk [.lit (.bool (r.fConfig.fVideo)), .lit (.int .i64 (r.fConfig.fBytes)), .lit (.int .i64 (r.fConfig.fUnits)), .lit (.int .i64 (r.fConfig.fWait)), .sl ((r.fOpen.fUnits).map Antiphonref10Unit.enc) .no, .lit (.int .i64 (r.fWhole)), .lit (.int .i64 (r.fLost))])), obl := c0 = FrameMaker.enc (FrameMaker.dec c0) ∧ (gFrameMakerDrop (FrameMaker.dec c0)).isSome = true }) ((gFrameMakerDrop (FrameMaker.dec c0)).getD dflt)
    | _ => none
  | _, _ => none

set_option maxHeartbeats 1000000 in
theorem gFrameMakerDrop.ok : SpecOk Try.prog 47 gFrameMakerDrop.S := by
  intro l M out h
  unfold gFrameMakerDrop.S at h
  split at h
  · rename_i i0
    split at h
    case h_2 => cases h
    rename_i c0 hM0
    try dsimp only at h
    cases h
    refine callOk_of fun ho => ?_
    obtain ⟨oc0, hs⟩ := ho
    generalize (FrameMaker.dec c0) = y0 at *
    subst oc0
    obtain ⟨r, hr⟩ := Option.isSome_iff_exists.1 hs
    simp only [hr, Option.getD_some]
    have q := call_frame (M := M) [i0] (gFrameMakerDrop.can y0 r hr) (by simp) rfl (by intro k i hk; (cases k with | zero => (simp at hk; subst hk; simp [hM0]) | succ k => (simp at hk)))
    exact callOk_conv q trivial (by simp [into]) (by simp [frameOut, gFrameMakerDrop.out]) (by simp [frameOut, gFrameMakerDrop.out])
  · cases h

@[simp] def gFrameMakerFollows.out (_x0 : FrameMaker) (_x1 : Antiphonref10Unit) (r : Bool) : Out := { av := .lit (.bool r), M := none }
set_option maxHeartbeats 4000000 in
set_option maxRecDepth 100000 in
theorem gFrameMakerFollows.can (x0 : FrameMaker) (x1 : Antiphonref10Unit) (r : Bool) (hr : gFrameMakerFollows x0 x1 = some r) : CallOk Try.prog 52 [.ptr 0 0, .agg [.lit (.int .i64 x1.fAt), .lit (.int .i64 x1.fTime), .lit (.bool x1.fMarker), .lit (.bool x1.fStart), .lit (.bool x1.fKey), .lit (.string x1.fText), .lit (.int .i64 x1.fTick)]] [.blk x0.enc] (gFrameMakerFollows.out x0 x1 r) := by
  unfold gFrameMakerFollows at hr
  have hΓ := (gamL_cons gFrameMakerOpen.ok (gamL_nil) : GamOk Try.prog _)
  refine call_of_awp Try.tyOk Try.func52 rfl (by kernel_rfl) rfl rfl (by simp) ?_
  intro _ _ _
  refine AWp.then ⟨[⟨3, none, .ptr 1 0⟩, ⟨0, none, .ptr 0 0⟩], [.blk x0.enc, .blk x1.enc]⟩ (AWp.reg Try.tyOk hΓ (keep := [3]) (dead := [1]) (by kernel_rfl) rfl (by simp)) ?_
  obtain ⟨r1, h4, hr⟩ := bind_some' hr
  refine AWp.then ⟨[⟨5, none, .lit (.int .i64 r1)⟩, ⟨3, none, .ptr 1 0⟩, ⟨0, none, .ptr 0 0⟩], [.blk x0.enc, .blk x1.enc]⟩ (AWp.reg Try.tyOk hΓ (keep := [5]) (dead := []) (by kernel_rfl) rfl (by simp [h4])) ?_
  refine AWp.seq ?_
  refine AWp.then ⟨[⟨10, none, .lit (.bool (eqI r1 0))⟩, ⟨5, none, .lit (.int .i64 r1)⟩, ⟨3, none, .ptr 1 0⟩, ⟨0, none, .ptr 0 0⟩], [.blk x0.enc, .blk x1.enc]⟩ (AWp.reg Try.tyOk hΓ (keep := [10]) (dead := []) (by kernel_rfl) rfl (by simp)) ?_
  refine AWp.cond (b := (eqI r1 0)) (by simp) (fun h5 => ?_) (fun h5 => ?_)
  · have hr := cond_t h5 hr
    refine AWp.then ⟨[⟨4, none, .lit (.bool false)⟩], [.blk x0.enc, .blk x1.enc]⟩ (AWp.reg Try.tyOk hΓ (keep := [4]) (dead := [10, 5, 3, 0]) (by kernel_rfl) rfl (by simp [h5])) ?_
    refine AWp.ret ?_
    obtain rfl := some_inj hr
    refine fin_ret ?_
    simp
  · have hr := cond_f h5 hr
    refine AWp.skip ?_
    obtain ⟨h6, hr⟩ := need_some hr
    refine AWp.then ⟨[⟨6, none, .ptr 2 0⟩, ⟨3, none, .ptr 1 0⟩], [.blk x0.enc, .blk x1.enc, .blk (nthI x0.fOpen.fUnits (subI .i64 r1 1)).enc]⟩ (AWp.reg Try.tyOk hΓ (keep := [6]) (dead := [10, 5, 0]) (by kernel_rfl) rfl (by simp [h5, h6])) ?_
    refine AWp.then ⟨[⟨4, none, .lit (.bool (pickB (pickB (eqI x1.fAt (addI .i64 ((nthI x0.fOpen.fUnits (subI .i64 r1 1)).fAt) 1)) (eqI x1.fTime ((nthI x0.fOpen.fUnits (subI .i64 r1 1)).fTime)) false) (notB x1.fStart) false))⟩], [.blk x0.enc, .blk x1.enc, .blk (nthI x0.fOpen.fUnits (subI .i64 r1 1)).enc]⟩ (AWp.reg Try.tyOk hΓ (keep := [4]) (dead := [6, 3]) (by kernel_rfl) rfl (by simp)) ?_
    refine AWp.ret ?_
    obtain rfl := some_inj hr
    refine fin_ret ?_
    simp

@[simp] noncomputable def gFrameMakerFollows.S : Sp
  | [.ptr i0 0, .agg e1], M => match M[i0]? with
    | some (.blk c0) => some { av := .lit (.bool ((gFrameMakerFollows (FrameMaker.dec c0) (Antiphonref10Unit.dec e1)).getD dflt)), M := none, obl := WeakL e1 (Antiphonref10Unit.enc (Antiphonref10Unit.dec e1)) ∧ c0 = FrameMaker.enc (FrameMaker.dec c0) ∧ (gFrameMakerFollows (FrameMaker.dec c0) (Antiphonref10Unit.dec e1)).isSome = true }
    | _ => none
  | _, _ => none

set_option maxHeartbeats 1000000 in
theorem gFrameMakerFollows.ok : SpecOk Try.prog 52 gFrameMakerFollows.S := by
  intro l M out h
  unfold gFrameMakerFollows.S at h
  split at h
  · rename_i i0 e1
    split at h
    case h_2 => cases h
    rename_i c0 hM0
    cases h
    refine callOk_of fun ho => ?_
    obtain ⟨ox1, oc0, hs⟩ := ho
    generalize (FrameMaker.dec c0) = y0 at *
    generalize (Antiphonref10Unit.dec e1) = x1 at *
    subst oc0
    obtain ⟨r, hr⟩ := Option.isSome_iff_exists.1 hs
    simp only [hr, Option.getD_some]
    have q := call_frame (M := M) [i0] (gFrameMakerFollows.can y0 x1 r hr) (by simp) rfl (by intro k i hk; (cases k with | zero => (simp at hk; subst hk; simp [hM0]) | succ k => (simp at hk)))
    exact callOk_conv q trivial (by simp [into]; exact ox1) (by simp [frameOut, gFrameMakerFollows.out]) (by simp only [frameOut, gFrameMakerFollows.out, Option.getD_some, Option.getD_none]; simp [hM0, set_same])
  · cases h

@[simp] def gFrameNew.out (_x0 : FrameConfig) (r : Option FrameMaker × Int) : Out := { av := .tup [(optC r.1 (.lit (.pointer none)) fun _ => .ptr 1 0), .lit (.int .i64 r.2)], M := some (optC r.1 [] fun m0 => [.dead, .blk [.lit (.bool m0.fConfig.fVideo), .lit (.int .i64 m0.fConfig.fBytes), .lit (.int .i64 m0.fConfig.fUnits), .lit (.int .i64 m0.fConfig.fWait), .sl (m0.fOpen.fUnits.map Antiphonref10Unit.enc) .no, .lit (.int .i64 m0.fWhole), .lit (.int .i64 m0.fLost)]]) }
set_option maxHeartbeats 4000000 in
set_option maxRecDepth 100000 in
theorem gFrameNew.can (x0 : FrameConfig) (r : Option FrameMaker × Int) (hr : gFrameNew x0 = some r) : CallOk Try.prog 31 [.agg [.lit (.bool x0.fVideo), .lit (.int .i64 x0.fBytes), .lit (.int .i64 x0.fUnits), .lit (.int .i64 x0.fWait)]] [] (gFrameNew.out x0 r) := by
  unfold gFrameNew at hr
  have hΓ := (gamL_cons gFrameConfigCheck.ok (gamL_nil) : GamOk Try.prog _)
  refine call_of_awp Try.tyOk Try.func31 rfl (by kernel_rfl) rfl rfl (by simp) ?_
  intro _ _ _
  refine AWp.then ⟨[⟨1, none, .ptr 0 0⟩], [.blk x0.enc]⟩ (AWp.reg Try.tyOk hΓ (keep := [1]) (dead := [0]) (by kernel_rfl) rfl (by simp)) ?_
  refine AWp.seq ?_
  obtain ⟨r1, h3, hr⟩ := bind_some' hr
  refine AWp.then ⟨[⟨4, none, .lit (.int .i64 r1)⟩, ⟨1, none, .ptr 0 0⟩], [.blk x0.enc]⟩ (AWp.reg Try.tyOk hΓ (keep := [4]) (dead := []) (by kernel_rfl) rfl (by simp [h3])) ?_
  refine AWp.then ⟨[⟨8, none, .lit (.bool (neI r1 0))⟩, ⟨4, none, .lit (.int .i64 r1)⟩, ⟨1, none, .ptr 0 0⟩], [.blk x0.enc]⟩ (AWp.reg Try.tyOk hΓ (keep := [8]) (dead := []) (by kernel_rfl) rfl (by simp)) ?_
  refine AWp.cond (b := (neI r1 0)) (by simp) (fun h4 => ?_) (fun h4 => ?_)
  · have hr := cond_t h4 hr
    refine AWp.then ⟨[⟨2, none, .lit (.pointer none)⟩, ⟨3, none, .lit (.int .i64 r1)⟩], [.blk x0.enc]⟩ (AWp.reg Try.tyOk hΓ (keep := [2, 3]) (dead := [8, 4, 1]) (by kernel_rfl) rfl (by simp [h4])) ?_
    refine AWp.ret ?_
    obtain rfl := some_inj hr
    refine fin_ret ?_
    simp
  · have hr := cond_f h4 hr
    refine AWp.skip ?_
    refine AWp.then ⟨[⟨2, none, .ptr 1 0⟩, ⟨3, none, .lit (.int .i64 0)⟩], [.blk x0.enc, .blk (x0.enc ++ [.sl [] .no, .lit (.int .i64 0), .lit (.int .i64 0)])]⟩ (AWp.reg Try.tyOk hΓ (keep := [2, 3]) (dead := [8, 4, 1]) (by kernel_rfl) rfl (by simp [h4])) ?_
    refine AWp.ret ?_
    obtain rfl := some_inj hr
    refine fin_ret ?_
    simp

@[simp] noncomputable def gFrameNew.S : Sp
  | [.agg e0], M => some { av := .tup [(optC (((gFrameNew (FrameConfig.dec e0)).getD dflt).1) (.lit (.pointer none)) fun _ => .ptr (M.length + 1) 0), .lit (.int .i64 (((gFrameNew (FrameConfig.dec e0)).getD dflt).2))], M := some (optC (((gFrameNew (FrameConfig.dec e0)).getD dflt).1) M fun m0 => M ++ [.dead, .blk [.lit (.bool m0.fConfig.fVideo), .lit (.int .i64 m0.fConfig.fBytes), .lit (.int .i64 m0.fConfig.fUnits), .lit (.int .i64 m0.fConfig.fWait), .sl (m0.fOpen.fUnits.map Antiphonref10Unit.enc) .no, .lit (.int .i64 m0.fWhole), .lit (.int .i64 m0.fLost)]]), obl := WeakL e0 (FrameConfig.enc (FrameConfig.dec e0)) ∧ (gFrameNew (FrameConfig.dec e0)).isSome = true }
  | _, _ => none

set_option maxHeartbeats 1000000 in
theorem gFrameNew.ok : SpecOk Try.prog 31 gFrameNew.S := by
  intro l M out h
  unfold gFrameNew.S at h
  split at h
  · rename_i e0
    cases h
    refine callOk_of fun ho => ?_
    obtain ⟨ox0, hs⟩ := ho
    generalize (FrameConfig.dec e0) = x0 at *
    obtain ⟨r, hr⟩ := Option.isSome_iff_exists.1 hs
    simp only [hr, Option.getD_some]
    have q := call_frame (M := M) [] (gFrameNew.can x0 r hr) (by simp) rfl (by intro k i hk; simp at hk)
    cases hc : r.1 with
    | none => exact callOk_conv q trivial (by simp; exact ox0) (by simp [hc, frameOut, gFrameNew.out]) (by simp [hc, frameOut, gFrameNew.out])
    | some m0 => exact callOk_conv q trivial (by simp; exact ox0) (by simp [hc, frameOut, gFrameNew.out, into]) (by simp [hc, frameOut, gFrameNew.out, into])
  · cases h

@[simp] def gFrameMakerPut.out (_x0 : FrameMaker) (_x1 : Antiphonref10Unit) (r : FrameFrame × Bool × FrameMaker) : Out := { av := .tup [.agg [.sl (r.1.fUnits.map Antiphonref10Unit.enc) .no], .lit (.bool r.2.1)], M := some [.blk [.lit (.bool r.2.2.fConfig.fVideo), .lit (.int .i64 r.2.2.fConfig.fBytes), .lit (.int .i64 r.2.2.fConfig.fUnits), .lit (.int .i64 r.2.2.fConfig.fWait), .sl (r.2.2.fOpen.fUnits.map Antiphonref10Unit.enc) .no, .lit (.int .i64 r.2.2.fWhole), .lit (.int .i64 r.2.2.fLost)]] }
def gFrameMakerPut.fin (x0 : FrameMaker) (x1 : Antiphonref10Unit) (r : FrameFrame × Bool × FrameMaker) (σ : St) : Prop := finK (gFrameMakerPut.out x0 x1 r) [.blk x0.enc] σ.M (resA Try.ty σ.A σ.M Try.f43.results.toList)
set_option maxHeartbeats 4000000 in
set_option maxRecDepth 100000 in
theorem gFrameMakerPut.can (x0 : FrameMaker) (x1 : Antiphonref10Unit) (r : FrameFrame × Bool × FrameMaker) (hr : gFrameMakerPut x0 x1 = some r) : CallOk Try.prog 43 [.ptr 0 0, .agg [.lit (.int .i64 x1.fAt), .lit (.int .i64 x1.fTime), .lit (.bool x1.fMarker), .lit (.bool x1.fStart), .lit (.bool x1.fKey), .lit (.string x1.fText), .lit (.int .i64 x1.fTick)]] [.blk x0.enc] (gFrameMakerPut.out x0 x1 r) := by
  unfold gFrameMakerPut at hr
  have hΓ := (gamL_cons gFrameMakerOpen.ok (gamL_cons gFrameMakerDrop.ok (gamL_cons gFrameMakerFollows.ok (gamL_cons gFrameFrameSize.ok (gamL_cons libClone7.ok (gamL_nil))))) : GamOk Try.prog _)
  refine call_of_awp Try.tyOk Try.func43 rfl (by kernel_rfl) rfl rfl (by simp) ?_
  intro _ _ _
  refine AWp.then ⟨[⟨3, none, .ptr 1 0⟩, ⟨4, none, .ptr 2 0⟩, ⟨0, none, .ptr 0 0⟩], [.blk x0.enc, .blk x1.enc, .blk [.sl [] .full]]⟩ (AWp.reg Try.tyOk hΓ (keep := [3, 4]) (dead := [1]) (by kernel_rfl) rfl (by simp)) ?_
  refine AWp.meetF (fun (v1 : FrameMaker) (γ1 : Unit) => ⟨[⟨3, none, .ptr 1 0⟩, ⟨4, none, .ptr 2 0⟩, ⟨0, none, .ptr 0 0⟩], [.blk v1.enc, .blk x1.enc, .blk [.sl [] .full]]⟩) (gFrameMakerPut.fin x0 x1) hr (fun f hr => ?_) (fun v1 γ1 hr => ?_) (fun _ h => h)
  · obtain ⟨r1, h12, hr⟩ := bind_some' hr
    refine AWp.then ⟨[⟨10, none, .lit (.bool (notB r1))⟩, ⟨3, none, .ptr 1 0⟩, ⟨4, none, .ptr 2 0⟩, ⟨0, none, .ptr 0 0⟩], [.blk x0.enc, .blk x1.enc, .blk [.sl [] .full]]⟩ (AWp.reg Try.tyOk hΓ (keep := [10]) (dead := []) (by kernel_rfl) rfl (by simp [h12])) ?_
    refine AWp.cond (b := (notB r1)) (by simp) (fun h13 => ?_) (fun h13 => ?_)
    · have hr := cond_t h13 hr
      obtain ⟨r2, h14, hr⟩ := bind_some' hr
      refine AWp.then ⟨[⟨3, none, .ptr 1 0⟩, ⟨4, none, .ptr 2 0⟩, ⟨0, none, .ptr 0 0⟩], [.blk r2.enc, .blk x1.enc, .blk [.sl [] .full]]⟩ (AWp.reg Try.tyOk hΓ (keep := []) (dead := [10]) (by kernel_rfl) rfl (by simp [h13, h14])) ?_
      refine AWp.then ⟨[⟨22, none, .lit (.bool (pickB r2.fConfig.fVideo (notB x1.fStart) false))⟩, ⟨3, none, .ptr 1 0⟩, ⟨4, none, .ptr 2 0⟩, ⟨0, none, .ptr 0 0⟩], [.blk r2.enc, .blk x1.enc, .blk [.sl [] .full]]⟩ (AWp.reg Try.tyOk hΓ (keep := [22]) (dead := []) (by kernel_rfl) rfl (by simp)) ?_
      refine AWp.cond (b := (pickB r2.fConfig.fVideo (notB x1.fStart) false)) (by simp) (fun h15 => ?_) (fun h15 => ?_)
      · have hr := cond_t h15 hr
        refine AWp.then ⟨[⟨4, none, .ptr 2 0⟩], [.blk (r2.fConfig.enc ++ [.sl (r2.fOpen.fUnits.map Antiphonref10Unit.enc) .no, .lit (.int .i64 r2.fWhole), .lit (.int .i64 (addI .i64 r2.fLost 1))]), .blk x1.enc, .blk [.sl [] .full]]⟩ (AWp.reg Try.tyOk hΓ (keep := []) (dead := [22, 3, 0]) (by kernel_rfl) rfl (by simp [h15])) ?_
        refine AWp.then ⟨[⟨5, none, .lit (.bool false)⟩, ⟨4, none, .ptr 2 0⟩], [.blk (r2.fConfig.enc ++ [.sl (r2.fOpen.fUnits.map Antiphonref10Unit.enc) .no, .lit (.int .i64 r2.fWhole), .lit (.int .i64 (addI .i64 r2.fLost 1))]), .blk x1.enc, .blk [.sl [] .no]]⟩ (AWp.reg Try.tyOk hΓ (keep := [5]) (dead := []) (by kernel_rfl) rfl (by simp)) ?_
        refine AWp.ret ?_
        obtain rfl := some_inj hr
        refine meet_ret ?_
        refine fin_ret ?_
        simp
      · have hr := cond_f h15 hr
        refine AWp.skip ?_
        obtain rfl := some_inj hr
        exact meet_go () 3 (by first | (simp; done) | simp [h12, h13, h14, h15])
    · have hr := cond_f h13 hr
      refine AWp.skip ?_
      obtain rfl := some_inj hr
      exact meet_go () 3 (by first | (simp; done) | simp [h12, h13])
  · obtain ⟨h16, hr⟩ := need_some hr
    obtain ⟨h17, hr⟩ := need_some hr
    refine AWp.then ⟨[⟨3, none, .ptr 1 0⟩, ⟨4, none, .ptr 2 0⟩, ⟨0, none, .ptr 0 0⟩], [.blk (v1.fConfig.enc ++ [.sl ((appL v1.fOpen.fUnits [x1]).map Antiphonref10Unit.enc) (.own 3 2 7), .lit (.int .i64 v1.fWhole), .lit (.int .i64 v1.fLost)]), .blk x1.enc, .blk [.sl [] .full], .room 2]⟩ (AWp.regD Try.mixed Try.tyOk hΓ (keep := []) (dead := []) [(0, 7), (0, 10), (7, 0), (8, 0)] [(false, []), (false, []), (false, []), (false, []), (false, []), (false, []), (true, []), (false, []), (false, []), (true, []), (false, []), (false, []), (false, []), (true, [])] (by kernel_rfl) rfl (by simp [h16, h17])) ?_
    refine AWp.seq ?_
    refine AWp.conv (m := 4) (σ' := ⟨[⟨3, none, .ptr 1 0⟩, ⟨4, none, .ptr 2 0⟩, ⟨0, none, .ptr 0 0⟩], [.blk (v1.fConfig.enc ++ [.sl ((appL v1.fOpen.fUnits [x1]).map Antiphonref10Unit.enc) .no, .lit (.int .i64 v1.fWhole), .lit (.int .i64 v1.fLost)]), .blk x1.enc, .blk [.sl [] .full], .room 2]⟩) (by simp) ?_
    obtain ⟨r3, h18, hr⟩ := bind_some' hr
    obtain ⟨h19, hr⟩ := need_some hr
    refine AWp.then ⟨[⟨64, none, .lit (.bool (pickB (ltI v1.fConfig.fUnits r3) true (ltI v1.fConfig.fBytes ((gFrameFrameSize (FrameFrame.mk (appL v1.fOpen.fUnits [x1]))).getD dflt))))⟩, ⟨3, none, .ptr 1 0⟩, ⟨4, none, .ptr 2 0⟩, ⟨0, none, .ptr 0 0⟩], [.blk (v1.fConfig.enc ++ [.sl ((appL v1.fOpen.fUnits [x1]).map Antiphonref10Unit.enc) .no, .lit (.int .i64 v1.fWhole), .lit (.int .i64 v1.fLost)]), .blk x1.enc, .blk [.sl [] .full], .room 2]⟩ (AWp.regD Try.mixed Try.tyOk hΓ (keep := [64]) (dead := []) [] [(false, []), (false, []), (false, []), (false, []), (false, []), (false, []), (false, []), (false, []), (false, []), (false, [52]), (false, [52]), (false, [52]), (false, [52]), (false, [52]), (false, [52]), (false, [52]), (false, [52]), (false, [52]), (false, [52]), (false, [52]), (false, [])] (by kernel_rfl) rfl (by simp [h18, h19])) ?_
    refine AWp.cond (b := (pickB (ltI v1.fConfig.fUnits r3) true (ltI v1.fConfig.fBytes ((gFrameFrameSize (FrameFrame.mk (appL v1.fOpen.fUnits [x1]))).getD dflt)))) (by simp) (fun h20 => ?_) (fun h20 => ?_)
    · have hr := cond_t h20 hr
      obtain ⟨r4, h21, hr⟩ := bind_some' hr
      refine AWp.then ⟨[⟨4, none, .ptr 2 0⟩], [.blk r4.enc, .blk x1.enc, .blk [.sl [] .full], .room 2]⟩ (AWp.reg Try.tyOk hΓ (keep := []) (dead := [64, 3, 0]) (by kernel_rfl) rfl (by simp [h20, h21])) ?_
      refine AWp.then ⟨[⟨5, none, .lit (.bool false)⟩, ⟨4, none, .ptr 2 0⟩], [.blk r4.enc, .blk x1.enc, .blk [.sl [] .no], .room 2]⟩ (AWp.reg Try.tyOk hΓ (keep := [5]) (dead := []) (by kernel_rfl) rfl (by simp)) ?_
      refine AWp.ret ?_
      obtain rfl := some_inj hr
      refine fin_ret ?_
      simp
    · have hr := cond_f h20 hr
      refine AWp.skip ?_
      refine AWp.seq ?_
      refine AWp.then ⟨[⟨77, none, .lit (.bool (pickB v1.fConfig.fVideo (notB x1.fMarker) false))⟩, ⟨4, none, .ptr 2 0⟩, ⟨0, none, .ptr 0 0⟩], [.blk (v1.fConfig.enc ++ [.sl ((appL v1.fOpen.fUnits [x1]).map Antiphonref10Unit.enc) .no, .lit (.int .i64 v1.fWhole), .lit (.int .i64 v1.fLost)]), .blk x1.enc, .blk [.sl [] .full], .room 2]⟩ (AWp.reg Try.tyOk hΓ (keep := [77]) (dead := [64, 3]) (by kernel_rfl) rfl (by simp [h20])) ?_
      refine AWp.cond (b := (pickB v1.fConfig.fVideo (notB x1.fMarker) false)) (by simp) (fun h22 => ?_) (fun h22 => ?_)
      · have hr := cond_t h22 hr
        refine AWp.then ⟨[⟨5, none, .lit (.bool false)⟩, ⟨4, none, .ptr 2 0⟩], [.blk (v1.fConfig.enc ++ [.sl ((appL v1.fOpen.fUnits [x1]).map Antiphonref10Unit.enc) .no, .lit (.int .i64 v1.fWhole), .lit (.int .i64 v1.fLost)]), .blk x1.enc, .blk [.sl [] .no], .room 2]⟩ (AWp.reg Try.tyOk hΓ (keep := [5]) (dead := [77, 0]) (by kernel_rfl) rfl (by simp [h22])) ?_
        refine AWp.ret ?_
        obtain rfl := some_inj hr
        refine fin_ret ?_
        simp
      · have hr := cond_f h22 hr
        refine AWp.skip ?_
        refine AWp.then ⟨[⟨6, none, .ptr 4 0⟩, ⟨4, none, .ptr 2 0⟩, ⟨0, none, .ptr 0 0⟩], [.blk (v1.fConfig.enc ++ [.sl ((appL v1.fOpen.fUnits [x1]).map Antiphonref10Unit.enc) .no, .lit (.int .i64 v1.fWhole), .lit (.int .i64 v1.fLost)]), .blk x1.enc, .blk [.sl [] .full], .room 2, .blk [.sl ((appL v1.fOpen.fUnits [x1]).map Antiphonref10Unit.enc) .no]]⟩ (AWp.reg Try.tyOk hΓ (keep := [6]) (dead := [77]) (by kernel_rfl) rfl (by simp [h22])) ?_
        refine AWp.then ⟨[⟨6, none, .ptr 4 0⟩, ⟨4, none, .ptr 2 0⟩, ⟨0, none, .ptr 0 0⟩], [.blk (v1.fConfig.enc ++ [.sl [] .no, .lit (.int .i64 v1.fWhole), .lit (.int .i64 v1.fLost)]), .blk x1.enc, .blk [.sl [] .full], .room 2, .blk [.sl ((appL v1.fOpen.fUnits [x1]).map Antiphonref10Unit.enc) .no]]⟩ (AWp.reg Try.tyOk hΓ (keep := []) (dead := []) (by kernel_rfl) rfl (by simp)) ?_
        refine AWp.then ⟨[⟨6, none, .ptr 4 0⟩, ⟨4, none, .ptr 2 0⟩], [.blk (v1.fConfig.enc ++ [.sl [] .no, .lit (.int .i64 (addI .i64 v1.fWhole 1)), .lit (.int .i64 v1.fLost)]), .blk x1.enc, .blk [.sl [] .full], .room 2, .blk [.sl ((appL v1.fOpen.fUnits [x1]).map Antiphonref10Unit.enc) .no]]⟩ (AWp.reg Try.tyOk hΓ (keep := []) (dead := [0]) (by kernel_rfl) rfl (by simp)) ?_
        refine AWp.then ⟨[⟨5, none, .lit (.bool true)⟩, ⟨4, none, .ptr 2 0⟩], [.blk (v1.fConfig.enc ++ [.sl [] .no, .lit (.int .i64 (addI .i64 v1.fWhole 1)), .lit (.int .i64 v1.fLost)]), .blk x1.enc, .blk [.sl ((appL v1.fOpen.fUnits [x1]).map Antiphonref10Unit.enc) .no], .room 2, .blk [.sl ((appL v1.fOpen.fUnits [x1]).map Antiphonref10Unit.enc) .no]]⟩ (AWp.reg Try.tyOk hΓ (keep := [5]) (dead := [6]) (by kernel_rfl) rfl (by simp)) ?_
        refine AWp.ret ?_
        obtain rfl := some_inj hr
        refine fin_ret ?_
        simp

@[simp] noncomputable def gFrameMakerPut.S : Sp
  | [.ptr i0 0, .agg e1], M => match M[i0]? with
    | some (.blk c0) => (fun (y1 : Antiphonref10Unit) => (fun (r : FrameFrame × Bool × FrameMaker) => some { av := .tup [.agg [.sl ((r.1.fUnits).map Antiphonref10Unit.enc) .no], .lit (.bool (r.2.1))], M := some (M.set i0 (.blk [.lit (.bool (r.2.2.fConfig.fVideo)), .lit (.int .i64 (r.2.2.fConfig.fBytes)), .lit (.int .i64 (r.2.2.fConfig.fUnits)), .lit (.int .i64 (r.2.2.fConfig.fWait)), .sl ((r.2.2.fOpen.fUnits).map Antiphonref10Unit.enc) .no, .lit (.int .i64 (r.2.2.fWhole)), .lit (.int .i64 (r.2.2.fLost))])), obl := WeakL e1 (Antiphonref10Unit.enc y1) ∧ c0 = FrameMaker.enc (FrameMaker.dec c0) ∧ (gFrameMakerPut (FrameMaker.dec c0) y1).isSome = true }) ((gFrameMakerPut (FrameMaker.dec c0) y1).getD dflt)) (Antiphonref10Unit.dec e1)
    | _ => none
  | _, _ => none

set_option maxHeartbeats 1000000 in
theorem gFrameMakerPut.ok : SpecOk Try.prog 43 gFrameMakerPut.S := by
  intro l M out h
  unfold gFrameMakerPut.S at h
  split at h
  · rename_i i0 e1
    split at h
    case h_2 => cases h
    rename_i c0 hM0
    try dsimp only at h
    cases h
    refine callOk_of fun ho => ?_
    obtain ⟨ox1, oc0, hs⟩ := ho
    generalize (FrameMaker.dec c0) = y0 at *
    generalize (Antiphonref10Unit.dec e1) = x1 at *
    subst oc0
    obtain ⟨r, hr⟩ := Option.isSome_iff_exists.1 hs
    simp only [hr, Option.getD_some]
    have q := call_frame (M := M) [i0] (gFrameMakerPut.can y0 x1 r hr) (by simp) rfl (by intro k i hk; (cases k with | zero => (simp at hk; subst hk; simp [hM0]) | succ k => (simp at hk)))
    exact callOk_conv q trivial (by simp [into]; exact ox1) (by simp [frameOut, gFrameMakerPut.out]) (by simp [frameOut, gFrameMakerPut.out])
  · cases h
end Go.Proofs

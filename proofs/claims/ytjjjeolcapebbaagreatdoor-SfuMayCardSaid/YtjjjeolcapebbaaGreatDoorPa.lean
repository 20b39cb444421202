/- That these functions compute what their plain functions do. No condition. -/
import Derived.Test.YtjjjeolcapebbaaGreatDoorM05
import Derived.Test.YtjjjeolcapebbaaGreatDoorTy
namespace Go.Proofs
open Go.Ab
theorem libClone1.ok : SpecOk Tryz.prog 35 (cloneS 1 8) := by
  intro l M out h
  unfold cloneS at h
  split at h
  · rename_i els tok
    cases h
    refine callOk_nil ?_ ?_
    · refine call_of_vc Tryz.mixed Tryz.tyOk gamL_nil (fun | 0 => [2] | 1 => [4] | 2 => [2] | 3 => [2] | _ => []) (fun _ => []) Tryz.func35 rfl (by kernel_rfl) rfl rfl (by simp) ?_
      intro _ hbM hbA
      simp [hbM]
    · refine call_of_vc Tryz.mixed Tryz.tyOk gamL_nil (fun | 0 => [2] | 1 => [4] | 2 => [2] | 3 => [2] | _ => []) (fun _ => []) Tryz.func35 rfl (by kernel_rfl) rfl rfl (by simp) ?_
      intro ho hbM hbA
      simp at hbA ho
      simp [hbA, hbM, ho, appL]
      try exact ho.1
  · cases h

@[simp] def gReorderConfigCheck.out (_x0 : ReorderConfig) (r : Int) : Out := { av := .lit (.int .i64 r), M := none }
set_option maxHeartbeats 4000000 in
set_option maxRecDepth 100000 in
theorem gReorderConfigCheck.can (x0 : ReorderConfig) (r : Int) (hr : gReorderConfigCheck x0 = some r) : CallOk Tryz.prog 32 [.agg [.lit (.int .i64 x0.fMost), .lit (.int .i64 x0.fWait)]] [] (gReorderConfigCheck.out x0 r) := by
  unfold gReorderConfigCheck at hr
  have hΓ := gamL_nil (P := Tryz.prog)
  refine cw Tryz.func32 rfl (by kernel_rfl) rfl rfl (by simp) fun _ _ _ => ?_
  refine tq hΓ [1] [0] ?_
  refine AWp.seq ?_
  refine tq hΓ [20] [1] ?_
  refine AWp.cnd hr (by simp) (fun h2 hr => ?_) (fun h2 hr => ?_)
  · refine tq hΓ [2] [20] ?_ (by simp [h2]; exact rr)
    obtain rfl := some_inj hr
    exact AWp.ret (fin_ret (by simp))
  · refine AWp.skip ?_
    refine tq hΓ [2] [20] ?_ (by simp [h2]; exact rr)
    obtain rfl := some_inj hr
    exact AWp.ret (fin_ret (by simp))

@[simp] noncomputable def gReorderConfigCheck.S : Sp
  | [.agg e0], _ => some { av := .lit (.int .i64 ((gReorderConfigCheck (ReorderConfig.dec e0)).getD dflt)), M := none, obl := WeakL e0 (ReorderConfig.enc (ReorderConfig.dec e0)) ∧ (gReorderConfigCheck (ReorderConfig.dec e0)).isSome = true }
  | _, _ => none

set_option maxHeartbeats 1000000 in
theorem gReorderConfigCheck.ok : SpecOk Tryz.prog 32 gReorderConfigCheck.S := by
  intro l M out h
  unfold gReorderConfigCheck.S at h
  split at h
  · rename_i e0
    cases h
    refine callOk_of fun ho => ?_
    obtain ⟨ox0, hs⟩ := ho
    generalize (ReorderConfig.dec e0) = x0 at *
    obtain ⟨r, hr⟩ := so1 hs
    simp only [hr, gd1]
    have q := call_frame (M := M) [] (gReorderConfigCheck.can x0 r hr) (by simp) rfl ixn
    exact callOk_conv q trivial (by simp; exact ox0) (by simp [frameOut]) (by simp [frameOut])
  · cases h

@[simp] def gFrameConfigCheck.out (_x0 : FrameConfig) (r : Int) : Out := { av := .lit (.int .i64 r), M := none }
set_option maxHeartbeats 4000000 in
set_option maxRecDepth 100000 in
theorem gFrameConfigCheck.can (x0 : FrameConfig) (r : Int) (hr : gFrameConfigCheck x0 = some r) : CallOk Tryz.prog 33 [.agg [.lit (.bool x0.fVideo), .lit (.int .i64 x0.fBytes), .lit (.int .i64 x0.fUnits), .lit (.int .i64 x0.fWait)]] [] (gFrameConfigCheck.out x0 r) := by
  unfold gFrameConfigCheck at hr
  have hΓ := gamL_nil (P := Tryz.prog)
  refine cw Tryz.func33 rfl (by kernel_rfl) rfl rfl (by simp) fun _ _ _ => ?_
  refine tq hΓ [1] [0] ?_
  refine AWp.seq ?_
  refine tq hΓ [30] [1] ?_
  refine AWp.cnd hr (by simp) (fun h2 hr => ?_) (fun h2 hr => ?_)
  · refine tq hΓ [2] [30] ?_ (by simp [h2]; exact rr)
    obtain rfl := some_inj hr
    exact AWp.ret (fin_ret (by simp))
  · refine AWp.skip ?_
    refine tq hΓ [2] [30] ?_ (by simp [h2]; exact rr)
    obtain rfl := some_inj hr
    exact AWp.ret (fin_ret (by simp))

@[simp] noncomputable def gFrameConfigCheck.S : Sp
  | [.agg e0], _ => some { av := .lit (.int .i64 ((gFrameConfigCheck (FrameConfig.dec e0)).getD dflt)), M := none, obl := WeakL e0 (FrameConfig.enc (FrameConfig.dec e0)) ∧ (gFrameConfigCheck (FrameConfig.dec e0)).isSome = true }
  | _, _ => none

set_option maxHeartbeats 1000000 in
theorem gFrameConfigCheck.ok : SpecOk Tryz.prog 33 gFrameConfigCheck.S := by
  intro l M out h
  unfold gFrameConfigCheck.S at h
  split at h
  · rename_i e0
    cases h
    refine callOk_of fun ho => ?_
    obtain ⟨ox0, hs⟩ := ho
    generalize (FrameConfig.dec e0) = x0 at *
    obtain ⟨r, hr⟩ := so1 hs
    simp only [hr, gd1]
    have q := call_frame (M := M) [] (gFrameConfigCheck.can x0 r hr) (by simp) rfl ixn
    exact callOk_conv q trivial (by simp; exact ox0) (by simp [frameOut]) (by simp [frameOut])
  · cases h

@[simp] def gIngressConfigCheck.out (_x0 : IngressConfig) (r : Int) : Out := { av := .lit (.int .i64 r), M := none }
set_option maxHeartbeats 4000000 in
set_option maxRecDepth 100000 in
theorem gIngressConfigCheck.can (x0 : IngressConfig) (r : Int) (hr : gIngressConfigCheck x0 = some r) : CallOk Tryz.prog 12 [.agg [.lit (.int .i64 x0.fOrder.fMost), .lit (.int .i64 x0.fOrder.fWait), .lit (.bool x0.fFrame.fVideo), .lit (.int .i64 x0.fFrame.fBytes), .lit (.int .i64 x0.fFrame.fUnits), .lit (.int .i64 x0.fFrame.fWait)]] [] (gIngressConfigCheck.out x0 r) := by
  unfold gIngressConfigCheck at hr
  have hΓ := (gamL_cons gFrameConfigCheck.ok (gamL_cons gReorderConfigCheck.ok (gamL_nil)) : GamOk Tryz.prog _)
  refine cw Tryz.func12 rfl (by kernel_rfl) rfl rfl (by simp) fun _ _ _ => ?_
  refine tq hΓ [1] [0] ?_
  refine AWp.seq ?_
  obtain ⟨r1, h4, hr⟩ := bind_some' hr
  refine tq hΓ [3] [] ?_ (by simp [h4]; exact rr)
  refine tq hΓ [8] [] ?_ (by simp; exact rr)
  refine AWp.cnd hr (by simp) (fun h5 hr => ?_) (fun h5 hr => ?_)
  · refine tq hΓ [2] [8, 3, 1] ?_ (by simp [h5]; exact rr)
    obtain rfl := some_inj hr
    exact AWp.ret (fin_ret (by simp))
  · refine AWp.skip ?_
    obtain ⟨r2, h6, hr⟩ := bind_some' hr
    refine tq hΓ [2] [8, 3, 1] ?_ (by simp [h5, h6]; exact rr)
    obtain rfl := some_inj hr
    exact AWp.ret (fin_ret (by simp))

@[simp] noncomputable def gIngressConfigCheck.S : Sp
  | [.agg e0], _ => some { av := .lit (.int .i64 ((gIngressConfigCheck (IngressConfig.dec e0)).getD dflt)), M := none, obl := WeakL e0 (IngressConfig.enc (IngressConfig.dec e0)) ∧ (gIngressConfigCheck (IngressConfig.dec e0)).isSome = true }
  | _, _ => none

set_option maxHeartbeats 1000000 in
theorem gIngressConfigCheck.ok : SpecOk Tryz.prog 12 gIngressConfigCheck.S := by
  intro l M out h
  unfold gIngressConfigCheck.S at h
  split at h
  · rename_i e0
    cases h
    refine callOk_of fun ho => ?_
    obtain ⟨ox0, hs⟩ := ho
    generalize (IngressConfig.dec e0) = x0 at *
    obtain ⟨r, hr⟩ := so1 hs
    simp only [hr, gd1]
    have q := call_frame (M := M) [] (gIngressConfigCheck.can x0 r hr) (by simp) rfl ixn
    exact callOk_conv q trivial (by simp; exact ox0) (by simp [frameOut]) (by simp [frameOut])
  · cases h

@[simp] def gEgressConfigCheck.out (_x0 : EgressConfig) (r : Int) : Out := { av := .lit (.int .i64 r), M := none }
set_option maxHeartbeats 4000000 in
set_option maxRecDepth 100000 in
theorem gEgressConfigCheck.can (x0 : EgressConfig) (r : Int) (hr : gEgressConfigCheck x0 = some r) : CallOk Tryz.prog 13 [.agg [.lit (.int .i64 x0.fFrames), .lit (.int .i64 x0.fBytes), .lit (.int .i64 x0.fAge), .lit (.int .i64 x0.fMost), .lit (.int .i64 x0.fGuard)]] [] (gEgressConfigCheck.out x0 r) := by
  unfold gEgressConfigCheck at hr
  have hΓ := gamL_nil (P := Tryz.prog)
  refine cw Tryz.func13 rfl (by kernel_rfl) rfl rfl (by simp) fun _ _ _ => ?_
  refine tq hΓ [1] [0] ?_
  refine AWp.seq ?_
  refine AWp.block ?_
  refine tq hΓ [3] [] ?_
  refine AWp.cnd hr (by simp) (fun h3 hr => ?_) (fun h3 hr => ?_)
  · refine tq hΓ [2] [3, 1] ?_ (by simp [h3]; exact rr)
    obtain rfl := some_inj hr
    exact AWp.ret (fin_ret (by simp))
  · refine tq hΓ [32] [3, 1] ?_ (by simp [h3]; exact rr)
    refine AWp.cnd hr (by simp) (fun h4 hr => ?_) (fun h4 hr => ?_)
    · refine tq hΓ [2] [32] ?_ (by simp [h4]; exact rr)
      obtain rfl := some_inj hr
      exact AWp.ret (fin_ret (by simp))
    · refine AWp.skip ?_
      refine tq hΓ [2] [32] ?_ (by simp [h4]; exact rr)
      obtain rfl := some_inj hr
      exact AWp.ret (fin_ret (by simp))

@[simp] noncomputable def gEgressConfigCheck.S : Sp
  | [.agg e0], _ => some { av := .lit (.int .i64 ((gEgressConfigCheck (EgressConfig.dec e0)).getD dflt)), M := none, obl := WeakL e0 (EgressConfig.enc (EgressConfig.dec e0)) ∧ (gEgressConfigCheck (EgressConfig.dec e0)).isSome = true }
  | _, _ => none

set_option maxHeartbeats 1000000 in
theorem gEgressConfigCheck.ok : SpecOk Tryz.prog 13 gEgressConfigCheck.S := by
  intro l M out h
  unfold gEgressConfigCheck.S at h
  split at h
  · rename_i e0
    cases h
    refine callOk_of fun ho => ?_
    obtain ⟨ox0, hs⟩ := ho
    generalize (EgressConfig.dec e0) = x0 at *
    obtain ⟨r, hr⟩ := so1 hs
    simp only [hr, gd1]
    have q := call_frame (M := M) [] (gEgressConfigCheck.can x0 r hr) (by simp) rfl ixn
    exact callOk_conv q trivial (by simp; exact ox0) (by simp [frameOut]) (by simp [frameOut])
  · cases h

@[simp] def gPliConfigCheck.out (_x0 : PliConfig) (r : Int) : Out := { av := .lit (.int .i64 r), M := none }
set_option maxHeartbeats 4000000 in
set_option maxRecDepth 100000 in
theorem gPliConfigCheck.can (x0 : PliConfig) (r : Int) (hr : gPliConfigCheck x0 = some r) : CallOk Tryz.prog 14 [.agg [.lit (.int .i64 x0.fFirst), .lit (.int .i64 x0.fMost)]] [] (gPliConfigCheck.out x0 r) := by
  unfold gPliConfigCheck at hr
  have hΓ := gamL_nil (P := Tryz.prog)
  refine cw Tryz.func14 rfl (by kernel_rfl) rfl rfl (by simp) fun _ _ _ => ?_
  refine tq hΓ [1] [0] ?_
  refine AWp.seq ?_
  refine tq hΓ [17] [1] ?_
  refine AWp.cnd hr (by simp) (fun h2 hr => ?_) (fun h2 hr => ?_)
  · refine tq hΓ [2] [17] ?_ (by simp [h2]; exact rr)
    obtain rfl := some_inj hr
    exact AWp.ret (fin_ret (by simp))
  · refine AWp.skip ?_
    refine tq hΓ [2] [17] ?_ (by simp [h2]; exact rr)
    obtain rfl := some_inj hr
    exact AWp.ret (fin_ret (by simp))

@[simp] noncomputable def gPliConfigCheck.S : Sp
  | [.agg e0], _ => some { av := .lit (.int .i64 ((gPliConfigCheck (PliConfig.dec e0)).getD dflt)), M := none, obl := WeakL e0 (PliConfig.enc (PliConfig.dec e0)) ∧ (gPliConfigCheck (PliConfig.dec e0)).isSome = true }
  | _, _ => none

set_option maxHeartbeats 1000000 in
theorem gPliConfigCheck.ok : SpecOk Tryz.prog 14 gPliConfigCheck.S := by
  intro l M out h
  unfold gPliConfigCheck.S at h
  split at h
  · rename_i e0
    cases h
    refine callOk_of fun ho => ?_
    obtain ⟨ox0, hs⟩ := ho
    generalize (PliConfig.dec e0) = x0 at *
    obtain ⟨r, hr⟩ := so1 hs
    simp only [hr, gd1]
    have q := call_frame (M := M) [] (gPliConfigCheck.can x0 r hr) (by simp) rfl ixn
    exact callOk_conv q trivial (by simp; exact ox0) (by simp [frameOut]) (by simp [frameOut])
  · cases h

@[simp] def gStallConfigCheck.out (_x0 : StallConfig) (r : Int) : Out := { av := .lit (.int .i64 r), M := none }
set_option maxHeartbeats 4000000 in
set_option maxRecDepth 100000 in
theorem gStallConfigCheck.can (x0 : StallConfig) (r : Int) (hr : gStallConfigCheck x0 = some r) : CallOk Tryz.prog 15 [.agg [.lit (.int .i64 x0.fAfter), .lit (.int .i64 x0.fRest)]] [] (gStallConfigCheck.out x0 r) := by
  unfold gStallConfigCheck at hr
  have hΓ := gamL_nil (P := Tryz.prog)
  refine cw Tryz.func15 rfl (by kernel_rfl) rfl rfl (by simp) fun _ _ _ => ?_
  refine tq hΓ [1] [0] ?_
  refine AWp.seq ?_
  refine tq hΓ [20] [1] ?_
  refine AWp.cnd hr (by simp) (fun h2 hr => ?_) (fun h2 hr => ?_)
  · refine tq hΓ [2] [20] ?_ (by simp [h2]; exact rr)
    obtain rfl := some_inj hr
    exact AWp.ret (fin_ret (by simp))
  · refine AWp.skip ?_
    refine tq hΓ [2] [20] ?_ (by simp [h2]; exact rr)
    obtain rfl := some_inj hr
    exact AWp.ret (fin_ret (by simp))

@[simp] noncomputable def gStallConfigCheck.S : Sp
  | [.agg e0], _ => some { av := .lit (.int .i64 ((gStallConfigCheck (StallConfig.dec e0)).getD dflt)), M := none, obl := WeakL e0 (StallConfig.enc (StallConfig.dec e0)) ∧ (gStallConfigCheck (StallConfig.dec e0)).isSome = true }
  | _, _ => none

set_option maxHeartbeats 1000000 in
theorem gStallConfigCheck.ok : SpecOk Tryz.prog 15 gStallConfigCheck.S := by
  intro l M out h
  unfold gStallConfigCheck.S at h
  split at h
  · rename_i e0
    cases h
    refine callOk_of fun ho => ?_
    obtain ⟨ox0, hs⟩ := ho
    generalize (StallConfig.dec e0) = x0 at *
    obtain ⟨r, hr⟩ := so1 hs
    simp only [hr, gd1]
    have q := call_frame (M := M) [] (gStallConfigCheck.can x0 r hr) (by simp) rfl ixn
    exact callOk_conv q trivial (by simp; exact ox0) (by simp [frameOut]) (by simp [frameOut])
  · cases h

@[simp] def gLadderConfigCheck.out (_x0 : LadderConfig) (r : Int) : Out := { av := .lit (.int .i64 r), M := none }
set_option maxHeartbeats 4000000 in
set_option maxRecDepth 100000 in
theorem gLadderConfigCheck.can (x0 : LadderConfig) (r : Int) (hr : gLadderConfigCheck x0 = some r) : CallOk Tryz.prog 16 [.agg [.lit (.int .i64 x0.fDown), .lit (.int .i64 x0.fUp), .lit (.int .i64 x0.fSpare)]] [] (gLadderConfigCheck.out x0 r) := by
  unfold gLadderConfigCheck at hr
  have hΓ := gamL_nil (P := Tryz.prog)
  refine cw Tryz.func16 rfl (by kernel_rfl) rfl rfl (by simp) fun _ _ _ => ?_
  refine tq hΓ [1] [0] ?_
  refine AWp.seq ?_
  refine tq hΓ [30] [1] ?_
  refine AWp.cnd hr (by simp) (fun h2 hr => ?_) (fun h2 hr => ?_)
  · refine tq hΓ [2] [30] ?_ (by simp [h2]; exact rr)
    obtain rfl := some_inj hr
    exact AWp.ret (fin_ret (by simp))
  · refine AWp.skip ?_
    refine tq hΓ [2] [30] ?_ (by simp [h2]; exact rr)
    obtain rfl := some_inj hr
    exact AWp.ret (fin_ret (by simp))

@[simp] noncomputable def gLadderConfigCheck.S : Sp
  | [.agg e0], _ => some { av := .lit (.int .i64 ((gLadderConfigCheck (LadderConfig.dec e0)).getD dflt)), M := none, obl := WeakL e0 (LadderConfig.enc (LadderConfig.dec e0)) ∧ (gLadderConfigCheck (LadderConfig.dec e0)).isSome = true }
  | _, _ => none

set_option maxHeartbeats 1000000 in
theorem gLadderConfigCheck.ok : SpecOk Tryz.prog 16 gLadderConfigCheck.S := by
  intro l M out h
  unfold gLadderConfigCheck.S at h
  split at h
  · rename_i e0
    cases h
    refine callOk_of fun ho => ?_
    obtain ⟨ox0, hs⟩ := ho
    generalize (LadderConfig.dec e0) = x0 at *
    obtain ⟨r, hr⟩ := so1 hs
    simp only [hr, gd1]
    have q := call_frame (M := M) [] (gLadderConfigCheck.can x0 r hr) (by simp) rfl ixn
    exact callOk_conv q trivial (by simp; exact ox0) (by simp [frameOut]) (by simp [frameOut])
  · cases h

@[simp] def gCmpIsNaNInt.out (_x0 : Int) (r : Bool) : Out := { av := .lit (.bool r), M := none }
set_option maxHeartbeats 4000000 in
set_option maxRecDepth 100000 in
theorem gCmpIsNaNInt.can (x0 : Int) (r : Bool) (hr : gCmpIsNaNInt x0 = some r) : CallOk Tryz.prog 121 [.lit (.int .i64 x0)] [] (gCmpIsNaNInt.out x0 r) := by
  unfold gCmpIsNaNInt at hr
  have hΓ := gamL_nil (P := Tryz.prog)
  refine cw Tryz.func121 rfl (by kernel_rfl) rfl rfl (by simp) fun _ _ _ => ?_
  refine tq hΓ [] [] ?_
  refine tq hΓ [2] [0] ?_
  obtain rfl := some_inj hr
  exact AWp.ret (fin_ret (by simp))

@[simp] noncomputable def gCmpIsNaNInt.S : Sp
  | [.lit (.int .i64 x0)], _ => some { av := .lit (.bool ((gCmpIsNaNInt x0).getD dflt)), M := none, obl := (gCmpIsNaNInt x0).isSome = true }
  | _, _ => none

set_option maxHeartbeats 1000000 in
theorem gCmpIsNaNInt.ok : SpecOk Tryz.prog 121 gCmpIsNaNInt.S := by
  intro l M out h
  unfold gCmpIsNaNInt.S at h
  split at h
  · rename_i x0
    cases h
    refine callOk_of fun ho => ?_
    have hs := ho
    obtain ⟨r, hr⟩ := so1 hs
    simp only [hr, gd1]
    have q := call_frame (M := M) [] (gCmpIsNaNInt.can x0 r hr) (by simp) rfl ixn
    exact callOk_conv q trivial (by simp) (by simp [frameOut]) (by simp [frameOut])
  · cases h

@[simp] def gCmpLessInt.out (_x0 : Int) (_x1 : Int) (r : Bool) : Out := { av := .lit (.bool r), M := none }
set_option maxHeartbeats 4000000 in
set_option maxRecDepth 100000 in
theorem gCmpLessInt.can (x0 : Int) (x1 : Int) (r : Bool) (hr : gCmpLessInt x0 x1 = some r) : CallOk Tryz.prog 69 [.lit (.int .i64 x0), .lit (.int .i64 x1)] [] (gCmpLessInt.out x0 x1 r) := by
  unfold gCmpLessInt at hr
  have hΓ := (gamL_cons gCmpIsNaNInt.ok (gamL_nil) : GamOk Tryz.prog _)
  refine cw Tryz.func69 rfl (by kernel_rfl) rfl rfl (by simp) fun _ _ _ => ?_
  refine tq hΓ [] [] ?_
  obtain ⟨r1, h3, hr⟩ := bind_some' hr
  obtain ⟨h4, hr⟩ := need_some hr
  refine tq hΓ [4] [0, 1] ?_ (by simp [h3, h4]; exact rr)
  obtain rfl := some_inj hr
  exact AWp.ret (fin_ret (by simp))

@[simp] noncomputable def gCmpLessInt.S : Sp
  | [.lit (.int .i64 x0), .lit (.int .i64 x1)], _ => some { av := .lit (.bool ((gCmpLessInt x0 x1).getD dflt)), M := none, obl := (gCmpLessInt x0 x1).isSome = true }
  | _, _ => none

set_option maxHeartbeats 1000000 in
theorem gCmpLessInt.ok : SpecOk Tryz.prog 69 gCmpLessInt.S := by
  intro l M out h
  unfold gCmpLessInt.S at h
  split at h
  · rename_i x0 x1
    cases h
    refine callOk_of fun ho => ?_
    have hs := ho
    obtain ⟨r, hr⟩ := so1 hs
    simp only [hr, gd1]
    have q := call_frame (M := M) [] (gCmpLessInt.can x0 x1 r hr) (by simp) rfl ixn
    exact callOk_conv q trivial (by simp) (by simp [frameOut]) (by simp [frameOut])
  · cases h

@[simp] def gSlicesIsSortedIntInt.out (_x0 : List Int) (r : Bool) : Out := { av := .lit (.bool r), M := none }
def gSlicesIsSortedIntInt.fin (x0 : List Int) (r : Bool) (σ : St) : Prop := finK (gSlicesIsSortedIntInt.out x0 r) [] σ.M (resA Tryz.ty σ.A σ.M Tryz.f34.results.toList)
set_option maxHeartbeats 4000000 in
set_option maxRecDepth 100000 in
theorem gSlicesIsSortedIntInt.can (x0 : List Int) (r : Bool) (hr : gSlicesIsSortedIntInt x0 = some r) : CallOk Tryz.prog 34 [.sl (x0.map (eNum .i64)) .no] [] (gSlicesIsSortedIntInt.out x0 r) := by
  unfold gSlicesIsSortedIntInt at hr
  have hΓ := (gamL_cons gCmpLessInt.ok (gamL_nil) : GamOk Tryz.prog _)
  refine cw Tryz.func34 rfl (by kernel_rfl) rfl rfl (by simp) fun _ _ _ => ?_
  refine tq hΓ [] [] ?_
  refine AWp.seq ?_
  refine tq hΓ [3] [] ?_
  refine AWp.loopE (fun (s1 : Int) (γ1 : Unit) => ⟨[⟨3, none, .lit (.int .i64 s1)⟩, ⟨0, none, .sl (x0.map (eNum .i64)) .no⟩], []⟩) (fun (v1 : Unit) (γ1a : Unit) => ⟨[], []⟩) (gSlicesIsSortedIntInt.fin x0) hr () 0 (by simp) (fun s1 f γ1 hr => ?_) (fun v1 γ1a σ1 m1 hr hc => ?_) (fun _ h => h)
  · unfold gSlicesIsSortedIntInt.loop1 at hr
    refine AWp.seq ?_
    refine tq hΓ [8] [] ?_
    refine AWp.cnd hr (by simp) (fun h6 hr => ?_) (fun h6 hr => ?_)
    · refine AWp.skip ?_
      refine AWp.seq ?_
      refine AWp.block ?_
      obtain ⟨h7, hr⟩ := need_some hr
      obtain ⟨h8, hr⟩ := need_some hr
      obtain ⟨r1, h9, hr⟩ := bind_some' hr
      refine td hΓ [20] [8] [] [(false, []), (false, []), (false, []), (false, []), (false, []), (false, []), (false, []), (false, []), (false, []), (false, [])] (by simp [h6, h7, h8, h9]; exact rr) ?_
      refine AWp.cnd hr (by simp) (fun h10 hr => ?_) (fun h10 hr => ?_)
      · refine tq hΓ [2] [20, 3, 0] ?_ (by simp [h10]; exact rr)
        refine AWp.ret ?_
        obtain rfl := some_inj hr
        refine round_ret ?_
        refine fin_ret ?_
        simp
      · refine AWp.skip ?_
        refine tl hΓ [3] [20] ?_ (by simp [h10]; exact rr)
        obtain rfl := some_inj hr
        exact round_go () 0 (by first | (simp; done) | simp [h6, h7, h8, h9, h10])
    · refine AWp.exit ?_
      obtain rfl := some_inj hr
      exact round_out () 0 (by first | (simp; done) | simp [h6])
  · refine AWp.conv hc ?_
    refine tq hΓ [2] [] ?_
    obtain rfl := some_inj hr
    exact AWp.ret (fin_ret (by simp))

@[simp] noncomputable def gSlicesIsSortedIntInt.S : Sp
  | [.sl e0 _], _ => some { av := .lit (.bool ((gSlicesIsSortedIntInt (e0.map decI)).getD dflt)), M := none, obl := e0 = (e0.map decI).map (eNum .i64) ∧ (gSlicesIsSortedIntInt (e0.map decI)).isSome = true }
  | _, _ => none

set_option maxHeartbeats 1000000 in
theorem gSlicesIsSortedIntInt.ok : SpecOk Tryz.prog 34 gSlicesIsSortedIntInt.S := by
  intro l M out h
  unfold gSlicesIsSortedIntInt.S at h
  split at h
  · rename_i e0 k0
    cases h
    refine callOk_of fun ho => ?_
    obtain ⟨ox0, hs⟩ := ho
    generalize (e0.map decI) = x0 at *
    subst ox0
    obtain ⟨r, hr⟩ := so1 hs
    simp only [hr, gd1]
    have q := call_frame (M := M) [] (gSlicesIsSortedIntInt.can x0 r hr) (by simp) rfl ixn
    exact callOk_conv q trivial (by simp) (by simp [frameOut]) (by simp [frameOut])
  · cases h

@[simp] def gLadderLadderStep.m (x0 : LadderLadder) (_x1 : Int) : List AObj := [.blk x0.enc]
@[simp] def gLadderLadderStep.out (_x0 : LadderLadder) (_x1 : Int) (r : LadderLadder) : Out := { av := .tup [], M := some [.blk [.lit (.int .i64 r.fConfig.fDown), .lit (.int .i64 r.fConfig.fUp), .lit (.int .i64 r.fConfig.fSpare), .sl (r.fNeeds.map (eNum .i64)) .no, .lit (.int .i64 r.fAt), .lit (.int .i64 r.fMost), .lit (.int .i64 r.fBad), .lit (.int .i64 r.fGood), .lit (.int .i64 r.fMoves)]] }
set_option maxHeartbeats 4000000 in
set_option maxRecDepth 100000 in
theorem gLadderLadderStep.can (x0 : LadderLadder) (x1 : Int) (r : LadderLadder) (hr : gLadderLadderStep x0 x1 = some r) : CallOk Tryz.prog 70 [.ptr 0 0, .lit (.int .i64 x1)] (gLadderLadderStep.m x0 x1) (gLadderLadderStep.out x0 x1 r) := by
  unfold gLadderLadderStep at hr
  have hΓ := gamL_nil (P := Tryz.prog)
  refine cw Tryz.func70 rfl (by kernel_rfl) rfl rfl (by simp) fun _ _ _ => ?_
  refine tq hΓ [] [1] ?_
  refine tl hΓ [] [0] ?_
  obtain rfl := some_inj hr
  exact fin_norm (by simp)

@[simp] noncomputable def gLadderLadderStep.S : Sp
  | [.ptr i0 0, .lit (.int .i64 x1)], M => (rdB M i0).bind fun c0 => (fun (r : LadderLadder) => some { av := .tup [], M := some (M.set i0 (.blk [.lit (.int .i64 (r.fConfig.fDown)), .lit (.int .i64 (r.fConfig.fUp)), .lit (.int .i64 (r.fConfig.fSpare)), .sl ((r.fNeeds).map (eNum .i64)) .no, .lit (.int .i64 (r.fAt)), .lit (.int .i64 (r.fMost)), .lit (.int .i64 (r.fBad)), .lit (.int .i64 (r.fGood)), .lit (.int .i64 (r.fMoves))])), obl := c0 = LadderLadder.enc (LadderLadder.dec c0) ∧ (gLadderLadderStep (LadderLadder.dec c0) x1).isSome = true }) ((gLadderLadderStep (LadderLadder.dec c0) x1).getD dflt)
  | _, _ => none

set_option maxHeartbeats 1000000 in
theorem gLadderLadderStep.ok : SpecOk Tryz.prog 70 gLadderLadderStep.S := by
  intro l M out h
  unfold gLadderLadderStep.S at h
  split at h
  · rename_i i0 x1
    obtain ⟨c0, hM0, h⟩ := bB h
    try dsimp only at h
    cases h
    refine callOk_of fun ho => ?_
    obtain ⟨oc0, hs⟩ := ho
    generalize (LadderLadder.dec c0) = y0 at *
    subst oc0
    obtain ⟨r, hr⟩ := so1 hs
    simp only [hr, gd1]
    have q := call_frame (M := M) [i0] (gLadderLadderStep.can y0 x1 r hr) (by simp) rfl (ix (by simp [hM0]) ixn)
    exact callOk_conv q trivial (by simp [into]) (by simp [frameOut]) (by simp [frameOut])
  · cases h

@[simp] def gLadderLadderWant.m (x0 : LadderLadder) (_x1 : Int) : List AObj := [.blk x0.enc]
@[simp] def gLadderLadderWant.out (_x0 : LadderLadder) (_x1 : Int) (r : Bool × LadderLadder) : Out := { av := .lit (.bool r.1), M := some [.blk [.lit (.int .i64 r.2.fConfig.fDown), .lit (.int .i64 r.2.fConfig.fUp), .lit (.int .i64 r.2.fConfig.fSpare), .sl (r.2.fNeeds.map (eNum .i64)) .no, .lit (.int .i64 r.2.fAt), .lit (.int .i64 r.2.fMost), .lit (.int .i64 r.2.fBad), .lit (.int .i64 r.2.fGood), .lit (.int .i64 r.2.fMoves)]] }
set_option maxHeartbeats 4000000 in
set_option maxRecDepth 100000 in
theorem gLadderLadderWant.can (x0 : LadderLadder) (x1 : Int) (r : Bool × LadderLadder) (hr : gLadderLadderWant x0 x1 = some r) : CallOk Tryz.prog 36 [.ptr 0 0, .lit (.int .i64 x1)] (gLadderLadderWant.m x0 x1) (gLadderLadderWant.out x0 x1 r) := by
  unfold gLadderLadderWant at hr
  have hΓ := (gamL_cons gLadderLadderStep.ok (gamL_nil) : GamOk Tryz.prog _)
  refine cw Tryz.func36 rfl (by kernel_rfl) rfl rfl (by simp) fun _ _ _ => ?_
  refine tq hΓ [] [] ?_
  refine tq hΓ [] [1] ?_
  refine AWp.seq ?_
  refine td hΓ [25] [] [] [(false, []), (false, []), (false, []), (false, []), (false, []), (false, []), (false, []), (false, []), (false, [])] (by simp; exact rr) ?_
  refine AWp.cnd hr (by simp) (fun h3 hr => ?_) (fun h3 hr => ?_)
  · refine tq hΓ [4] [25, 0] ?_ (by simp [h3]; exact rr)
    obtain rfl := some_inj hr
    exact AWp.ret (fin_ret (by simp))
  · refine AWp.skip ?_
    obtain ⟨r1, h4, hr⟩ := bind_some' hr
    refine tq hΓ [] [25, 0] ?_ (by simp [h3, h4]; exact rr)
    refine tq hΓ [4] [] ?_ (by simp; exact rr)
    obtain rfl := some_inj hr
    exact AWp.ret (fin_ret (by simp))

@[simp] noncomputable def gLadderLadderWant.S : Sp
  | [.ptr i0 0, .lit (.int .i64 x1)], M => (rdB M i0).bind fun c0 => (fun (r : Bool × LadderLadder) => some { av := .lit (.bool (r.1)), M := some (M.set i0 (.blk [.lit (.int .i64 (r.2.fConfig.fDown)), .lit (.int .i64 (r.2.fConfig.fUp)), .lit (.int .i64 (r.2.fConfig.fSpare)), .sl ((r.2.fNeeds).map (eNum .i64)) .no, .lit (.int .i64 (r.2.fAt)), .lit (.int .i64 (r.2.fMost)), .lit (.int .i64 (r.2.fBad)), .lit (.int .i64 (r.2.fGood)), .lit (.int .i64 (r.2.fMoves))])), obl := c0 = LadderLadder.enc (LadderLadder.dec c0) ∧ (gLadderLadderWant (LadderLadder.dec c0) x1).isSome = true }) ((gLadderLadderWant (LadderLadder.dec c0) x1).getD dflt)
  | _, _ => none

set_option maxHeartbeats 1000000 in
theorem gLadderLadderWant.ok : SpecOk Tryz.prog 36 gLadderLadderWant.S := by
  intro l M out h
  unfold gLadderLadderWant.S at h
  split at h
  · rename_i i0 x1
    obtain ⟨c0, hM0, h⟩ := bB h
    try dsimp only at h
    cases h
    refine callOk_of fun ho => ?_
    obtain ⟨oc0, hs⟩ := ho
    generalize (LadderLadder.dec c0) = y0 at *
    subst oc0
    obtain ⟨r, hr⟩ := so1 hs
    simp only [hr, gd1]
    have q := call_frame (M := M) [i0] (gLadderLadderWant.can y0 x1 r hr) (by simp) rfl (ix (by simp [hM0]) ixn)
    exact callOk_conv q trivial (by simp [into]) (by simp [frameOut]) (by simp [frameOut])
  · cases h

@[simp] def gLadderNew.out (_x0 : LadderConfig) (_x1 : Int) (_x2 : List Int) (r : Option LadderLadder × Int) : Out := { av := .tup [(optC r.1 (.lit (.pointer none)) fun _ => .ptr 2 0), .lit (.int .i64 r.2)], M := some (optC r.1 [] fun m0 => [.dead, .dead, .blk [.lit (.int .i64 m0.fConfig.fDown), .lit (.int .i64 m0.fConfig.fUp), .lit (.int .i64 m0.fConfig.fSpare), .sl (m0.fNeeds.map (eNum .i64)) .no, .lit (.int .i64 m0.fAt), .lit (.int .i64 m0.fMost), .lit (.int .i64 m0.fBad), .lit (.int .i64 m0.fGood), .lit (.int .i64 m0.fMoves)]]) }
set_option maxHeartbeats 4000000 in
set_option maxRecDepth 100000 in
theorem gLadderNew.can (x0 : LadderConfig) (x1 : Int) (x2 : List Int) (r : Option LadderLadder × Int) (hr : gLadderNew x0 x1 x2 = some r) : CallOk Tryz.prog 17 [.agg [.lit (.int .i64 x0.fDown), .lit (.int .i64 x0.fUp), .lit (.int .i64 x0.fSpare)], .lit (.int .i64 x1), .sl (x2.map (eNum .i64)) .no] [] (gLadderNew.out x0 x1 x2 r) := by
  unfold gLadderNew at hr
  have hΓ := (gamL_cons gLadderLadderWant.ok (gamL_cons gLadderConfigCheck.ok (gamL_cons libClone1.ok (gamL_cons gSlicesIsSortedIntInt.ok (gamL_nil)))) : GamOk Tryz.prog _)
  refine cw Tryz.func17 rfl (by kernel_rfl) rfl rfl (by simp) fun _ _ _ => ?_
  refine tq hΓ [3] [0] ?_
  refine AWp.seq ?_
  obtain ⟨r1, h9, hr⟩ := bind_some' hr
  refine tq hΓ [8] [] ?_ (by simp [h9]; exact rr)
  refine tq hΓ [13] [] ?_ (by simp; exact rr)
  refine AWp.cnd hr (by simp) (fun h10 hr => ?_) (fun h10 hr => ?_)
  · refine tq hΓ [6, 7] [13, 8, 3, 1, 2] ?_ (by simp [h10]; exact rr)
    obtain rfl := some_inj hr
    exact AWp.ret (fin_ret (by simp))
  · refine AWp.skip ?_
    refine AWp.seq ?_
    obtain ⟨h11, hr⟩ := need_some hr
    obtain ⟨h12, hr⟩ := need_some hr
    obtain ⟨h13, hr⟩ := need_some hr
    refine tq hΓ [42] [13, 8] ?_ (by simp [h10, h11, h12, h13]; exact rr)
    refine AWp.cnd hr (by simp) (fun h14 hr => ?_) (fun h14 hr => ?_)
    · refine tq hΓ [6, 7] [42, 3, 1, 2] ?_ (by simp [h14]; exact rr)
      obtain rfl := some_inj hr
      exact AWp.ret (fin_ret (by simp))
    · refine AWp.skip ?_
      obtain ⟨h15, hr⟩ := need_some hr
      refine td hΓ [9] [42, 3, 2] [(0, 3)] [(false, []), (false, []), (true, []), (false, []), (true, []), (false, [])] (by simp [h14, h15]; exact rr) ?_
      refine AWp.conv (m := 3) (σ' := ⟨[⟨9, none, .ptr 2 0⟩, ⟨1, none, .lit (.int .i64 x1)⟩], [.blk x0.enc, .room 1, .blk (x0.enc ++ [.sl (x2.map (eNum .i64)) .no, .lit (.int .i64 0), .lit (.int .i64 0), .lit (.int .i64 0), .lit (.int .i64 0), .lit (.int .i64 0)])]⟩) (by simp) ?_
      obtain ⟨r2, h16, hr⟩ := bind_some' hr
      refine tq hΓ [] [1] ?_ (by simp [h16]; exact rr)
      refine tq hΓ [] [] ?_ (by simp; exact rr)
      refine tq hΓ [6, 7] [9] ?_ (by simp; exact rr)
      obtain rfl := some_inj hr
      exact AWp.ret (fin_ret (by simp))

@[simp] noncomputable def gLadderNew.S : Sp
  | [.agg e0, .lit (.int .i64 x1), .sl e2 _], M => some { av := .tup [(optC (((gLadderNew (LadderConfig.dec e0) x1 (e2.map decI)).getD dflt).1) (.lit (.pointer none)) fun _ => .ptr (M.length + 2) 0), .lit (.int .i64 (((gLadderNew (LadderConfig.dec e0) x1 (e2.map decI)).getD dflt).2))], M := some (optC (((gLadderNew (LadderConfig.dec e0) x1 (e2.map decI)).getD dflt).1) M fun m0 => M ++ [.dead, .dead, .blk [.lit (.int .i64 m0.fConfig.fDown), .lit (.int .i64 m0.fConfig.fUp), .lit (.int .i64 m0.fConfig.fSpare), .sl (m0.fNeeds.map (eNum .i64)) .no, .lit (.int .i64 m0.fAt), .lit (.int .i64 m0.fMost), .lit (.int .i64 m0.fBad), .lit (.int .i64 m0.fGood), .lit (.int .i64 m0.fMoves)]]), obl := WeakL e0 (LadderConfig.enc (LadderConfig.dec e0)) ∧ e2 = (e2.map decI).map (eNum .i64) ∧ (gLadderNew (LadderConfig.dec e0) x1 (e2.map decI)).isSome = true }
  | _, _ => none

set_option maxHeartbeats 1000000 in
theorem gLadderNew.ok : SpecOk Tryz.prog 17 gLadderNew.S := by
  intro l M out h
  unfold gLadderNew.S at h
  split at h
  · rename_i e0 x1 e2 k2
    cases h
    refine callOk_of fun ho => ?_
    obtain ⟨ox0, ox2, hs⟩ := ho
    generalize (LadderConfig.dec e0) = x0 at *
    generalize (e2.map decI) = x2 at *
    subst ox2
    obtain ⟨r, hr⟩ := so1 hs
    simp only [hr, gd1]
    have q := call_frame (M := M) [] (gLadderNew.can x0 x1 x2 r hr) (by simp) rfl ixn
    cases hc : r.1 with
    | none => exact callOk_conv q trivial (by simp; exact ox0) (by simp [hc, frameOut]) (by simp [hc, frameOut])
    | some m0 => exact callOk_conv q trivial (by simp; exact ox0) (by simp [hc, frameOut, into]) (by simp [hc, frameOut, into])
  · cases h

@[simp] def gRateNew.out (_x0 : Int) (r : Option RateMeter × Int) : Out := { av := .tup [(optC r.1 (.lit (.pointer none)) fun _ => .ptr 0 0), .lit (.int .i64 r.2)], M := some (optC r.1 [] fun m0 => [.blk [.lit (.int .i64 m0.fWindow), .sl (m0.fL.map RatePart.enc) .no, .lit (.int .i64 m0.fSum), .lit (.int .i64 m0.fTotal), .lit (.int .i64 m0.fCap)]]) }
set_option maxHeartbeats 4000000 in
set_option maxRecDepth 100000 in
theorem gRateNew.can (x0 : Int) (r : Option RateMeter × Int) (hr : gRateNew x0 = some r) : CallOk Tryz.prog 18 [.lit (.int .i64 x0)] [] (gRateNew.out x0 r) := by
  unfold gRateNew at hr
  have hΓ := gamL_nil (P := Tryz.prog)
  refine cw Tryz.func18 rfl (by kernel_rfl) rfl rfl (by simp) fun _ _ _ => ?_
  refine tq hΓ [] [] ?_
  refine AWp.seq ?_
  refine tq hΓ [9] [] ?_
  refine AWp.cnd hr (by simp) (fun h2 hr => ?_) (fun h2 hr => ?_)
  · refine tq hΓ [2, 3] [9, 0] ?_ (by simp [h2]; exact rr)
    obtain rfl := some_inj hr
    exact AWp.ret (fin_ret (by simp))
  · refine AWp.skip ?_
    refine tq hΓ [2, 3] [9, 0] ?_ (by simp [h2]; exact rr)
    obtain rfl := some_inj hr
    exact AWp.ret (fin_ret (by simp))

@[simp] noncomputable def gRateNew.S : Sp
  | [.lit (.int .i64 x0)], M => some { av := .tup [(optC (((gRateNew x0).getD dflt).1) (.lit (.pointer none)) fun _ => .ptr M.length 0), .lit (.int .i64 (((gRateNew x0).getD dflt).2))], M := some (optC (((gRateNew x0).getD dflt).1) M fun m0 => M ++ [.blk [.lit (.int .i64 m0.fWindow), .sl (m0.fL.map RatePart.enc) .no, .lit (.int .i64 m0.fSum), .lit (.int .i64 m0.fTotal), .lit (.int .i64 m0.fCap)]]), obl := (gRateNew x0).isSome = true }
  | _, _ => none

set_option maxHeartbeats 1000000 in
theorem gRateNew.ok : SpecOk Tryz.prog 18 gRateNew.S := by
  intro l M out h
  unfold gRateNew.S at h
  split at h
  · rename_i x0
    cases h
    refine callOk_of fun ho => ?_
    have hs := ho
    obtain ⟨r, hr⟩ := so1 hs
    simp only [hr, gd1]
    have q := call_frame (M := M) [] (gRateNew.can x0 r hr) (by simp) rfl ixn
    cases hc : r.1 with
    | none => exact callOk_conv q trivial (by simp) (by simp [hc, frameOut]) (by simp [hc, frameOut])
    | some m0 => exact callOk_conv q trivial (by simp) (by simp [hc, frameOut, into]) (by simp [hc, frameOut, into])
  · cases h
end Go.Proofs

/- That these functions compute what their plain functions do. No condition. -/
import Derived.Test.YtbijdlgffebenaaM11
import Derived.Test.YtbijdlgffebenaaTy
namespace Go.Proofs
open Go.Ab
@[simp] def gSerialHalfUint16.out  (r : Int) : Out := { av := .lit (.int .u16 r), M := none }
set_option maxHeartbeats 4000000 in
set_option maxRecDepth 100000 in
theorem gSerialHalfUint16.can  (r : Int) (hr : gSerialHalfUint16 = some r) : CallOk Try.prog 63 [] [] (gSerialHalfUint16.out  r) := by
  unfold gSerialHalfUint16 at hr
  have hΓ := gamL_nil (P := Try.prog)
  refine call_of_awp Try.tyOk Try.func63 rfl (by kernel_rfl) rfl rfl (by simp) ?_
  intro _ _ _
  refine AWp.then ⟨[], []⟩ (AWp.reg Try.tyOk hΓ (keep := []) (dead := []) (by kernel_rfl) rfl (by simp)) ?_
  refine AWp.then ⟨[⟨1, none, .lit (.int .u16 0)⟩], []⟩ (AWp.reg Try.tyOk hΓ (keep := [1]) (dead := []) (by kernel_rfl) rfl (by simp)) ?_
  obtain ⟨h2, hr⟩ := need_some hr
  refine AWp.then ⟨[⟨0, none, .lit (.int .u16 (addI .u16 (shrI .u16 (subI .u16 0 1) 1) 1))⟩], []⟩ (AWp.reg Try.tyOk hΓ (keep := [0]) (dead := [1]) (by kernel_rfl) rfl (by simp [h2])) ?_
  refine AWp.ret ?_
  obtain rfl := some_inj hr
  refine fin_ret ?_
  simp

@[simp] noncomputable def gSerialHalfUint16.S : Sp
  | [], _ => some { av := .lit (.int .u16 (gSerialHalfUint16.getD dflt)), M := none, obl := gSerialHalfUint16.isSome = true }
  | _, _ => none

set_option maxHeartbeats 1000000 in
theorem gSerialHalfUint16.ok : SpecOk Try.prog 63 gSerialHalfUint16.S := by
  intro l M out h
  unfold gSerialHalfUint16.S at h
  split at h
  · cases h
    refine callOk_of fun ho => ?_
    have hs := ho
    obtain ⟨r, hr⟩ := Option.isSome_iff_exists.1 hs
    simp only [hr, Option.getD_some]
    have q := call_frame (M := M) [] (gSerialHalfUint16.can r hr) (by simp) rfl (by intro k i hk; simp at hk)
    exact callOk_conv q trivial (by simp) (by simp [frameOut, gSerialHalfUint16.out]) (by simp [frameOut, gSerialHalfUint16.out])
  · cases h

@[simp] def gSerialHalfUint32.out  (r : Int) : Out := { av := .lit (.int .u32 r), M := none }
set_option maxHeartbeats 4000000 in
set_option maxRecDepth 100000 in
theorem gSerialHalfUint32.can  (r : Int) (hr : gSerialHalfUint32 = some r) : CallOk Try.prog 77 [] [] (gSerialHalfUint32.out  r) := by
  unfold gSerialHalfUint32 at hr
  have hΓ := gamL_nil (P := Try.prog)
  refine call_of_awp Try.tyOk Try.func77 rfl (by kernel_rfl) rfl rfl (by simp) ?_
  intro _ _ _
  refine AWp.then ⟨[], []⟩ (AWp.reg Try.tyOk hΓ (keep := []) (dead := []) (by kernel_rfl) rfl (by simp)) ?_
  refine AWp.then ⟨[⟨1, none, .lit (.int .u32 0)⟩], []⟩ (AWp.reg Try.tyOk hΓ (keep := [1]) (dead := []) (by kernel_rfl) rfl (by simp)) ?_
  obtain ⟨h2, hr⟩ := need_some hr
  refine AWp.then ⟨[⟨0, none, .lit (.int .u32 (addI .u32 (shrI .u32 (subI .u32 0 1) 1) 1))⟩], []⟩ (AWp.reg Try.tyOk hΓ (keep := [0]) (dead := [1]) (by kernel_rfl) rfl (by simp [h2])) ?_
  refine AWp.ret ?_
  obtain rfl := some_inj hr
  refine fin_ret ?_
  simp

@[simp] noncomputable def gSerialHalfUint32.S : Sp
  | [], _ => some { av := .lit (.int .u32 (gSerialHalfUint32.getD dflt)), M := none, obl := gSerialHalfUint32.isSome = true }
  | _, _ => none

set_option maxHeartbeats 1000000 in
theorem gSerialHalfUint32.ok : SpecOk Try.prog 77 gSerialHalfUint32.S := by
  intro l M out h
  unfold gSerialHalfUint32.S at h
  split at h
  · cases h
    refine callOk_of fun ho => ?_
    have hs := ho
    obtain ⟨r, hr⟩ := Option.isSome_iff_exists.1 hs
    simp only [hr, Option.getD_some]
    have q := call_frame (M := M) [] (gSerialHalfUint32.can r hr) (by simp) rfl (by intro k i hk; simp at hk)
    exact callOk_conv q trivial (by simp) (by simp [frameOut, gSerialHalfUint32.out]) (by simp [frameOut, gSerialHalfUint32.out])
  · cases h

@[simp] def gSerialDistUint16.out (_x0 : Int) (_x1 : Int) (r : Int) : Out := { av := .lit (.int .i64 r), M := none }
set_option maxHeartbeats 4000000 in
set_option maxRecDepth 100000 in
theorem gSerialDistUint16.can (x0 : Int) (x1 : Int) (r : Int) (hr : gSerialDistUint16 x0 x1 = some r) : CallOk Try.prog 51 [.lit (.int .u16 x0), .lit (.int .u16 x1)] [] (gSerialDistUint16.out x0 x1 r) := by
  unfold gSerialDistUint16 at hr
  have hΓ := (gamL_cons gSerialHalfUint16.ok (gamL_nil) : GamOk Try.prog _)
  refine call_of_awp Try.tyOk Try.func51 rfl (by kernel_rfl) rfl rfl (by simp) ?_
  intro _ _ _
  refine AWp.then ⟨[⟨0, none, .lit (.int .u16 x0)⟩, ⟨1, none, .lit (.int .u16 x1)⟩], []⟩ (AWp.reg Try.tyOk hΓ (keep := []) (dead := []) (by kernel_rfl) rfl (by simp)) ?_
  refine AWp.then ⟨[⟨5, none, .lit (.int .u16 (subI .u16 x0 x1))⟩, ⟨0, none, .lit (.int .u16 x0)⟩, ⟨1, none, .lit (.int .u16 x1)⟩], []⟩ (AWp.reg Try.tyOk hΓ (keep := [5]) (dead := []) (by kernel_rfl) rfl (by simp)) ?_
  refine AWp.seq ?_
  obtain ⟨r1, h3, hr⟩ := bind_some' hr
  refine AWp.then ⟨[⟨11, none, .lit (.bool (ltI (subI .u16 x0 x1) r1))⟩, ⟨5, none, .lit (.int .u16 (subI .u16 x0 x1))⟩, ⟨0, none, .lit (.int .u16 x0)⟩, ⟨1, none, .lit (.int .u16 x1)⟩], []⟩ (AWp.reg Try.tyOk hΓ (keep := [11]) (dead := []) (by kernel_rfl) rfl (by simp [h3])) ?_
  refine AWp.cond (b := (ltI (subI .u16 x0 x1) r1)) (by simp) (fun h4 => ?_) (fun h4 => ?_)
  · have hr := cond_t h4 hr
    refine AWp.then ⟨[⟨4, none, .lit (.int .i64 (cvtI .i64 (subI .u16 x0 x1)))⟩], []⟩ (AWp.reg Try.tyOk hΓ (keep := [4]) (dead := [11, 5, 0, 1]) (by kernel_rfl) rfl (by simp [h4])) ?_
    refine AWp.ret ?_
    obtain rfl := some_inj hr
    refine fin_ret ?_
    simp
  · have hr := cond_f h4 hr
    refine AWp.skip ?_
    refine AWp.then ⟨[⟨4, none, .lit (.int .i64 (negI .i64 (cvtI .i64 (subI .u16 x1 x0))))⟩], []⟩ (AWp.reg Try.tyOk hΓ (keep := [4]) (dead := [11, 5, 0, 1]) (by kernel_rfl) rfl (by simp [h4])) ?_
    refine AWp.ret ?_
    obtain rfl := some_inj hr
    refine fin_ret ?_
    simp

@[simp] noncomputable def gSerialDistUint16.S : Sp
  | [.lit (.int .u16 x0), .lit (.int .u16 x1)], _ => some { av := .lit (.int .i64 ((gSerialDistUint16 x0 x1).getD dflt)), M := none, obl := (gSerialDistUint16 x0 x1).isSome = true }
  | _, _ => none

set_option maxHeartbeats 1000000 in
theorem gSerialDistUint16.ok : SpecOk Try.prog 51 gSerialDistUint16.S := by
  intro l M out h
  unfold gSerialDistUint16.S at h
  split at h
  · rename_i x0 x1
    cases h
    refine callOk_of fun ho => ?_
    have hs := ho
    obtain ⟨r, hr⟩ := Option.isSome_iff_exists.1 hs
    simp only [hr, Option.getD_some]
    have q := call_frame (M := M) [] (gSerialDistUint16.can x0 x1 r hr) (by simp) rfl (by intro k i hk; simp at hk)
    exact callOk_conv q trivial (by simp) (by simp [frameOut, gSerialDistUint16.out]) (by simp [frameOut, gSerialDistUint16.out])
  · cases h

@[simp] def gSerialDistUint32.out (_x0 : Int) (_x1 : Int) (r : Int) : Out := { av := .lit (.int .i64 r), M := none }
set_option maxHeartbeats 4000000 in
set_option maxRecDepth 100000 in
theorem gSerialDistUint32.can (x0 : Int) (x1 : Int) (r : Int) (hr : gSerialDistUint32 x0 x1 = some r) : CallOk Try.prog 73 [.lit (.int .u32 x0), .lit (.int .u32 x1)] [] (gSerialDistUint32.out x0 x1 r) := by
  unfold gSerialDistUint32 at hr
  have hΓ := (gamL_cons gSerialHalfUint32.ok (gamL_nil) : GamOk Try.prog _)
  refine call_of_awp Try.tyOk Try.func73 rfl (by kernel_rfl) rfl rfl (by simp) ?_
  intro _ _ _
  refine AWp.then ⟨[⟨0, none, .lit (.int .u32 x0)⟩, ⟨1, none, .lit (.int .u32 x1)⟩], []⟩ (AWp.reg Try.tyOk hΓ (keep := []) (dead := []) (by kernel_rfl) rfl (by simp)) ?_
  refine AWp.then ⟨[⟨5, none, .lit (.int .u32 (subI .u32 x0 x1))⟩, ⟨0, none, .lit (.int .u32 x0)⟩, ⟨1, none, .lit (.int .u32 x1)⟩], []⟩ (AWp.reg Try.tyOk hΓ (keep := [5]) (dead := []) (by kernel_rfl) rfl (by simp)) ?_
  refine AWp.seq ?_
  obtain ⟨r1, h3, hr⟩ := bind_some' hr
  refine AWp.then ⟨[⟨11, none, .lit (.bool (ltI (subI .u32 x0 x1) r1))⟩, ⟨5, none, .lit (.int .u32 (subI .u32 x0 x1))⟩, ⟨0, none, .lit (.int .u32 x0)⟩, ⟨1, none, .lit (.int .u32 x1)⟩], []⟩ (AWp.reg Try.tyOk hΓ (keep := [11]) (dead := []) (by kernel_rfl) rfl (by simp [h3])) ?_
  refine AWp.cond (b := (ltI (subI .u32 x0 x1) r1)) (by simp) (fun h4 => ?_) (fun h4 => ?_)
  · have hr := cond_t h4 hr
    refine AWp.then ⟨[⟨4, none, .lit (.int .i64 (cvtI .i64 (subI .u32 x0 x1)))⟩], []⟩ (AWp.reg Try.tyOk hΓ (keep := [4]) (dead := [11, 5, 0, 1]) (by kernel_rfl) rfl (by simp [h4])) ?_
    refine AWp.ret ?_
    obtain rfl := some_inj hr
    refine fin_ret ?_
    simp
  · have hr := cond_f h4 hr
    refine AWp.skip ?_
    refine AWp.then ⟨[⟨4, none, .lit (.int .i64 (negI .i64 (cvtI .i64 (subI .u32 x1 x0))))⟩], []⟩ (AWp.reg Try.tyOk hΓ (keep := [4]) (dead := [11, 5, 0, 1]) (by kernel_rfl) rfl (by simp [h4])) ?_
    refine AWp.ret ?_
    obtain rfl := some_inj hr
    refine fin_ret ?_
    simp

@[simp] noncomputable def gSerialDistUint32.S : Sp
  | [.lit (.int .u32 x0), .lit (.int .u32 x1)], _ => some { av := .lit (.int .i64 ((gSerialDistUint32 x0 x1).getD dflt)), M := none, obl := (gSerialDistUint32 x0 x1).isSome = true }
  | _, _ => none

set_option maxHeartbeats 1000000 in
theorem gSerialDistUint32.ok : SpecOk Try.prog 73 gSerialDistUint32.S := by
  intro l M out h
  unfold gSerialDistUint32.S at h
  split at h
  · rename_i x0 x1
    cases h
    refine callOk_of fun ho => ?_
    have hs := ho
    obtain ⟨r, hr⟩ := Option.isSome_iff_exists.1 hs
    simp only [hr, Option.getD_some]
    have q := call_frame (M := M) [] (gSerialDistUint32.can x0 x1 r hr) (by simp) rfl (by intro k i hk; simp at hk)
    exact callOk_conv q trivial (by simp) (by simp [frameOut, gSerialDistUint32.out]) (by simp [frameOut, gSerialDistUint32.out])
  · cases h

@[simp] def gSerialNearUint16.out (_x0 : Int) (_x1 : Int) (r : Int) : Out := { av := .lit (.int .i64 r), M := none }
set_option maxHeartbeats 4000000 in
set_option maxRecDepth 100000 in
theorem gSerialNearUint16.can (x0 : Int) (x1 : Int) (r : Int) (hr : gSerialNearUint16 x0 x1 = some r) : CallOk Try.prog 39 [.lit (.int .i64 x0), .lit (.int .u16 x1)] [] (gSerialNearUint16.out x0 x1 r) := by
  unfold gSerialNearUint16 at hr
  have hΓ := (gamL_cons gSerialDistUint16.ok (gamL_nil) : GamOk Try.prog _)
  refine call_of_awp Try.tyOk Try.func39 rfl (by kernel_rfl) rfl rfl (by simp) ?_
  intro _ _ _
  refine AWp.then ⟨[⟨0, none, .lit (.int .i64 x0)⟩, ⟨1, none, .lit (.int .u16 x1)⟩], []⟩ (AWp.reg Try.tyOk hΓ (keep := []) (dead := []) (by kernel_rfl) rfl (by simp)) ?_
  obtain ⟨r1, h2, hr⟩ := bind_some' hr
  refine AWp.then ⟨[⟨4, none, .lit (.int .i64 (addI .i64 x0 r1))⟩], []⟩ (AWp.reg Try.tyOk hΓ (keep := [4]) (dead := [0, 1]) (by kernel_rfl) rfl (by simp [h2])) ?_
  refine AWp.ret ?_
  obtain rfl := some_inj hr
  refine fin_ret ?_
  simp

@[simp] noncomputable def gSerialNearUint16.S : Sp
  | [.lit (.int .i64 x0), .lit (.int .u16 x1)], _ => some { av := .lit (.int .i64 ((gSerialNearUint16 x0 x1).getD dflt)), M := none, obl := (gSerialNearUint16 x0 x1).isSome = true }
  | _, _ => none

set_option maxHeartbeats 1000000 in
theorem gSerialNearUint16.ok : SpecOk Try.prog 39 gSerialNearUint16.S := by
  intro l M out h
  unfold gSerialNearUint16.S at h
  split at h
  · rename_i x0 x1
    cases h
    refine callOk_of fun ho => ?_
    have hs := ho
    obtain ⟨r, hr⟩ := Option.isSome_iff_exists.1 hs
    simp only [hr, Option.getD_some]
    have q := call_frame (M := M) [] (gSerialNearUint16.can x0 x1 r hr) (by simp) rfl (by intro k i hk; simp at hk)
    exact callOk_conv q trivial (by simp) (by simp [frameOut, gSerialNearUint16.out]) (by simp [frameOut, gSerialNearUint16.out])
  · cases h

@[simp] def gSerialNearUint32.out (_x0 : Int) (_x1 : Int) (r : Int) : Out := { av := .lit (.int .i64 r), M := none }
set_option maxHeartbeats 4000000 in
set_option maxRecDepth 100000 in
theorem gSerialNearUint32.can (x0 : Int) (x1 : Int) (r : Int) (hr : gSerialNearUint32 x0 x1 = some r) : CallOk Try.prog 64 [.lit (.int .i64 x0), .lit (.int .u32 x1)] [] (gSerialNearUint32.out x0 x1 r) := by
  unfold gSerialNearUint32 at hr
  have hΓ := (gamL_cons gSerialDistUint32.ok (gamL_nil) : GamOk Try.prog _)
  refine call_of_awp Try.tyOk Try.func64 rfl (by kernel_rfl) rfl rfl (by simp) ?_
  intro _ _ _
  refine AWp.then ⟨[⟨0, none, .lit (.int .i64 x0)⟩, ⟨1, none, .lit (.int .u32 x1)⟩], []⟩ (AWp.reg Try.tyOk hΓ (keep := []) (dead := []) (by kernel_rfl) rfl (by simp)) ?_
  obtain ⟨r1, h2, hr⟩ := bind_some' hr
  refine AWp.then ⟨[⟨4, none, .lit (.int .i64 (addI .i64 x0 r1))⟩], []⟩ (AWp.reg Try.tyOk hΓ (keep := [4]) (dead := [0, 1]) (by kernel_rfl) rfl (by simp [h2])) ?_
  refine AWp.ret ?_
  obtain rfl := some_inj hr
  refine fin_ret ?_
  simp

@[simp] noncomputable def gSerialNearUint32.S : Sp
  | [.lit (.int .i64 x0), .lit (.int .u32 x1)], _ => some { av := .lit (.int .i64 ((gSerialNearUint32 x0 x1).getD dflt)), M := none, obl := (gSerialNearUint32 x0 x1).isSome = true }
  | _, _ => none

set_option maxHeartbeats 1000000 in
theorem gSerialNearUint32.ok : SpecOk Try.prog 64 gSerialNearUint32.S := by
  intro l M out h
  unfold gSerialNearUint32.S at h
  split at h
  · rename_i x0 x1
    cases h
    refine callOk_of fun ho => ?_
    have hs := ho
    obtain ⟨r, hr⟩ := Option.isSome_iff_exists.1 hs
    simp only [hr, Option.getD_some]
    have q := call_frame (M := M) [] (gSerialNearUint32.can x0 x1 r hr) (by simp) rfl (by intro k i hk; simp at hk)
    exact callOk_conv q trivial (by simp) (by simp [frameOut, gSerialNearUint32.out]) (by simp [frameOut, gSerialNearUint32.out])
  · cases h

@[simp] def gExtendSeqRestartInIngressSource2.out (_x0 : IngressSource) (_x1 : Int) (r : Int × IngressSource) : Out := { av := .lit (.int .i64 r.1), M := some [.blk [.ptr 1 0, .ptr 3 0, .lit (.bool r.2.fSeq.fBegun), .lit (.int .i64 r.2.fSeq.fMost), .lit (.int .u16 r.2.fSeq.fOdd), .lit (.int .i64 r.2.fSeq.fRun), .lit (.int .i64 r.2.fSeq.fJumps), .lit (.bool r.2.fClock.fBegun), .lit (.int .i64 r.2.fClock.fLast), .mp 4, .lit (.int .i64 r.2.fBad), .lit (.int .i64 r.2.fKeys)], .blk [.lit (.int .i64 r.2.fBuffer.fConfig.fMost), .lit (.int .i64 r.2.fBuffer.fConfig.fWait), .lit (.bool r.2.fBuffer.fBegun), .lit (.int .i64 r.2.fBuffer.fNext), .mp 2, .lit (.int .i64 r.2.fBuffer.fLost)], .mapo (encM (kI .i64) (vA Antiphonref09Thing.enc) r.2.fBuffer.fOf), .blk [.lit (.bool r.2.fMaker.fConfig.fVideo), .lit (.int .i64 r.2.fMaker.fConfig.fBytes), .lit (.int .i64 r.2.fMaker.fConfig.fUnits), .lit (.int .i64 r.2.fMaker.fConfig.fWait), .sl (r.2.fMaker.fOpen.fUnits.map Antiphonref10Unit.enc) .no, .lit (.int .i64 r.2.fMaker.fWhole), .lit (.int .i64 r.2.fMaker.fLost)], .mapo (encM (kI .i64) (vA Antiphonref03Packet.enc) r.2.fOf)] }
set_option maxHeartbeats 4000000 in
set_option maxRecDepth 100000 in
theorem gExtendSeqRestartInIngressSource2.can (x0 : IngressSource) (x1 : Int) (r : Int × IngressSource) (hr : gExtendSeqRestartInIngressSource2 x0 x1 = some r) : CallOk Try.prog 40 [.ptr 0 2, .lit (.int .u16 x1)] [.blk ([.ptr 1 0, .ptr 3 0] ++ x0.fSeq.enc ++ x0.fClock.enc ++ [.mp 4, .lit (.int .i64 x0.fBad), .lit (.int .i64 x0.fKeys)]), .blk (x0.fBuffer.fConfig.enc ++ [.lit (.bool x0.fBuffer.fBegun), .lit (.int .i64 x0.fBuffer.fNext), .mp 2, .lit (.int .i64 x0.fBuffer.fLost)]), .mapo (encM (kI .i64) (vA Antiphonref09Thing.enc) x0.fBuffer.fOf), .blk x0.fMaker.enc, .mapo (encM (kI .i64) (vA Antiphonref03Packet.enc) x0.fOf)] (gExtendSeqRestartInIngressSource2.out x0 x1 r) := by
  unfold gExtendSeqRestartInIngressSource2 at hr
  have hΓ := gamL_nil (P := Try.prog)
  refine call_of_awp Try.tyOk Try.func40 rfl (by kernel_rfl) rfl rfl (by simp) ?_
  intro _ _ _
  refine AWp.then ⟨[⟨0, none, .ptr 0 2⟩, ⟨1, none, .lit (.int .u16 x1)⟩], [.blk ([.ptr 1 0, .ptr 3 0] ++ x0.fSeq.enc ++ x0.fClock.enc ++ [.mp 4, .lit (.int .i64 x0.fBad), .lit (.int .i64 x0.fKeys)]), .blk (x0.fBuffer.fConfig.enc ++ [.lit (.bool x0.fBuffer.fBegun), .lit (.int .i64 x0.fBuffer.fNext), .mp 2, .lit (.int .i64 x0.fBuffer.fLost)]), .mapo (encM (kI .i64) (vA Antiphonref09Thing.enc) x0.fBuffer.fOf), .blk x0.fMaker.enc, .mapo (encM (kI .i64) (vA Antiphonref03Packet.enc) x0.fOf)]⟩ (AWp.reg Try.tyOk hΓ (keep := []) (dead := []) (by kernel_rfl) rfl (by simp)) ?_
  obtain ⟨h3, hr⟩ := need_some hr
  obtain ⟨h4, hr⟩ := need_some hr
  refine AWp.then ⟨[⟨0, none, .ptr 0 2⟩], [.blk ([.ptr 1 0, .ptr 3 0, .lit (.bool x0.fSeq.fBegun), .lit (.int .i64 (bitsOp .or .i64 (shlI .i64 (addI .i64 (shrI .i64 x0.fSeq.fMost 16) 2) 16) (cvtI .i64 x1))), .lit (.int .u16 x0.fSeq.fOdd), .lit (.int .i64 x0.fSeq.fRun), .lit (.int .i64 x0.fSeq.fJumps)] ++ x0.fClock.enc ++ [.mp 4, .lit (.int .i64 x0.fBad), .lit (.int .i64 x0.fKeys)]), .blk (x0.fBuffer.fConfig.enc ++ [.lit (.bool x0.fBuffer.fBegun), .lit (.int .i64 x0.fBuffer.fNext), .mp 2, .lit (.int .i64 x0.fBuffer.fLost)]), .mapo (encM (kI .i64) (vA Antiphonref09Thing.enc) x0.fBuffer.fOf), .blk x0.fMaker.enc, .mapo (encM (kI .i64) (vA Antiphonref03Packet.enc) x0.fOf)]⟩ (AWp.reg Try.tyOk hΓ (keep := []) (dead := [1]) (by kernel_rfl) rfl (by simp [h3])) ?_
  refine AWp.then ⟨[⟨0, none, .ptr 0 2⟩], [.blk ([.ptr 1 0, .ptr 3 0, .lit (.bool x0.fSeq.fBegun), .lit (.int .i64 (bitsOp .or .i64 (shlI .i64 (addI .i64 (shrI .i64 x0.fSeq.fMost 16) 2) 16) (cvtI .i64 x1))), .lit (.int .u16 x0.fSeq.fOdd), .lit (.int .i64 x0.fSeq.fRun), .lit (.int .i64 (addI .i64 x0.fSeq.fJumps 1))] ++ x0.fClock.enc ++ [.mp 4, .lit (.int .i64 x0.fBad), .lit (.int .i64 x0.fKeys)]), .blk (x0.fBuffer.fConfig.enc ++ [.lit (.bool x0.fBuffer.fBegun), .lit (.int .i64 x0.fBuffer.fNext), .mp 2, .lit (.int .i64 x0.fBuffer.fLost)]), .mapo (encM (kI .i64) (vA Antiphonref09Thing.enc) x0.fBuffer.fOf), .blk x0.fMaker.enc, .mapo (encM (kI .i64) (vA Antiphonref03Packet.enc) x0.fOf)]⟩ (AWp.reg Try.tyOk hΓ (keep := []) (dead := []) (by kernel_rfl) rfl (by simp)) ?_
  refine AWp.then ⟨[⟨0, none, .ptr 0 2⟩], [.blk ([.ptr 1 0, .ptr 3 0, .lit (.bool x0.fSeq.fBegun), .lit (.int .i64 (bitsOp .or .i64 (shlI .i64 (addI .i64 (shrI .i64 x0.fSeq.fMost 16) 2) 16) (cvtI .i64 x1))), .lit (.int .u16 x0.fSeq.fOdd), .lit (.int .i64 0), .lit (.int .i64 (addI .i64 x0.fSeq.fJumps 1))] ++ x0.fClock.enc ++ [.mp 4, .lit (.int .i64 x0.fBad), .lit (.int .i64 x0.fKeys)]), .blk (x0.fBuffer.fConfig.enc ++ [.lit (.bool x0.fBuffer.fBegun), .lit (.int .i64 x0.fBuffer.fNext), .mp 2, .lit (.int .i64 x0.fBuffer.fLost)]), .mapo (encM (kI .i64) (vA Antiphonref09Thing.enc) x0.fBuffer.fOf), .blk x0.fMaker.enc, .mapo (encM (kI .i64) (vA Antiphonref03Packet.enc) x0.fOf)]⟩ (AWp.reg Try.tyOk hΓ (keep := []) (dead := []) (by kernel_rfl) rfl (by simp)) ?_
  refine AWp.then ⟨[⟨4, none, .lit (.int .i64 (bitsOp .or .i64 (shlI .i64 (addI .i64 (shrI .i64 x0.fSeq.fMost 16) 2) 16) (cvtI .i64 x1)))⟩], [.blk ([.ptr 1 0, .ptr 3 0, .lit (.bool x0.fSeq.fBegun), .lit (.int .i64 (bitsOp .or .i64 (shlI .i64 (addI .i64 (shrI .i64 x0.fSeq.fMost 16) 2) 16) (cvtI .i64 x1))), .lit (.int .u16 x0.fSeq.fOdd), .lit (.int .i64 0), .lit (.int .i64 (addI .i64 x0.fSeq.fJumps 1))] ++ x0.fClock.enc ++ [.mp 4, .lit (.int .i64 x0.fBad), .lit (.int .i64 x0.fKeys)]), .blk (x0.fBuffer.fConfig.enc ++ [.lit (.bool x0.fBuffer.fBegun), .lit (.int .i64 x0.fBuffer.fNext), .mp 2, .lit (.int .i64 x0.fBuffer.fLost)]), .mapo (encM (kI .i64) (vA Antiphonref09Thing.enc) x0.fBuffer.fOf), .blk x0.fMaker.enc, .mapo (encM (kI .i64) (vA Antiphonref03Packet.enc) x0.fOf)]⟩ (AWp.reg Try.tyOk hΓ (keep := [4]) (dead := [0]) (by kernel_rfl) rfl (by simp)) ?_
  refine AWp.ret ?_
  obtain rfl := some_inj hr
  refine fin_ret ?_
  simp

@[simp] noncomputable def gExtendSeqRestartInIngressSource2.S : Sp
  | [.ptr i0 2, .lit (.int .u16 x1)], M => match M[i0]? with
    | some (.blk c0) => (match nthE c0 0 with
    | some (.ptr i1 0) => (match M[i1]? with
    | some (.blk c1) => (match nthE c1 4 with
    | some (.mp i2) => (match M[i2]? with
    | some (.mapo c2) => (match nthE c0 1 with
    | some (.ptr i3 0) => (match M[i3]? with
    | some (.blk c3) => (match nthE c0 9 with
    | some (.mp i4) => (match M[i4]? with
    | some (.mapo c4) => (fun (y0 : IngressSource) => (fun (r : Int × IngressSource) => some { av := .lit (.int .i64 (r.1)), M := some (((((M.set i0 (.blk [.ptr i1 0, .ptr i3 0, .lit (.bool (r.2.fSeq.fBegun)), .lit (.int .i64 (r.2.fSeq.fMost)), .lit (.int .u16 (r.2.fSeq.fOdd)), .lit (.int .i64 (r.2.fSeq.fRun)), .lit (.int .i64 (r.2.fSeq.fJumps)), .lit (.bool (r.2.fClock.fBegun)), .lit (.int .i64 (r.2.fClock.fLast)), .mp i4, .lit (.int .i64 (r.2.fBad)), .lit (.int .i64 (r.2.fKeys))])).set i1 (.blk [.lit (.int .i64 (r.2.fBuffer.fConfig.fMost)), .lit (.int .i64 (r.2.fBuffer.fConfig.fWait)), .lit (.bool (r.2.fBuffer.fBegun)), .lit (.int .i64 (r.2.fBuffer.fNext)), .mp i2, .lit (.int .i64 (r.2.fBuffer.fLost))])).set i2 (.mapo (encM (kI .i64) (vA Antiphonref09Thing.enc) (r.2.fBuffer.fOf)))).set i3 (.blk [.lit (.bool (r.2.fMaker.fConfig.fVideo)), .lit (.int .i64 (r.2.fMaker.fConfig.fBytes)), .lit (.int .i64 (r.2.fMaker.fConfig.fUnits)), .lit (.int .i64 (r.2.fMaker.fConfig.fWait)), .sl ((r.2.fMaker.fOpen.fUnits).map Antiphonref10Unit.enc) .no, .lit (.int .i64 (r.2.fMaker.fWhole)), .lit (.int .i64 (r.2.fMaker.fLost))])).set i4 (.mapo (encM (kI .i64) (vA Antiphonref03Packet.enc) (r.2.fOf)))), obl := c0 = IngressSource.enc y0 i1 i3 i4 ∧ c1 = ReorderBuffer.enc (y0.fBuffer) i2 ∧ c2 = encM (kI .i64) (vA Antiphonref09Thing.enc) (y0.fBuffer.fOf) ∧ c3 = FrameMaker.enc (y0.fMaker) ∧ c4 = encM (kI .i64) (vA Antiphonref03Packet.enc) (y0.fOf) ∧ (gExtendSeqRestartInIngressSource2 y0 x1).isSome = true ∧ i0 ≠ i1 ∧ i0 ≠ i2 ∧ i0 ≠ i3 ∧ i0 ≠ i4 ∧ i1 ≠ i2 ∧ i1 ≠ i3 ∧ i1 ≠ i4 ∧ i2 ≠ i3 ∧ i2 ≠ i4 ∧ i3 ≠ i4 }) ((gExtendSeqRestartInIngressSource2 y0 x1).getD dflt)) (IngressSource.dec c0 (ReorderBuffer.dec c1 (decM dkI (dvA Antiphonref09Thing.dec) c2)) (FrameMaker.dec c3) (decM dkI (dvA Antiphonref03Packet.dec) c4))
    | _ => none)
    | _ => none)
    | _ => none)
    | _ => none)
    | _ => none)
    | _ => none)
    | _ => none)
    | _ => none)
    | _ => none
  | _, _ => none

set_option maxHeartbeats 1000000 in
theorem gExtendSeqRestartInIngressSource2.ok : SpecOk Try.prog 40 gExtendSeqRestartInIngressSource2.S := by
  intro l M out h
  unfold gExtendSeqRestartInIngressSource2.S at h
  split at h
  · rename_i i0 x1
    split at h
    case h_2 => cases h
    rename_i c0 hM0
    split at h
    case h_2 => cases h
    rename_i i1 he1
    split at h
    case h_2 => cases h
    rename_i c1 hM1
    split at h
    case h_2 => cases h
    rename_i i2 he2
    split at h
    case h_2 => cases h
    rename_i c2 hM2
    split at h
    case h_2 => cases h
    rename_i i3 he3
    split at h
    case h_2 => cases h
    rename_i c3 hM3
    split at h
    case h_2 => cases h
    rename_i i4 he4
    split at h
    case h_2 => cases h
    rename_i c4 hM4
    try dsimp only at h
    cases h
    refine callOk_of fun ho => ?_
    obtain ⟨oc0, oc1, oc2, oc3, oc4, hs, hne0, hne1, hne2, hne3, hne4, hne5, hne6, hne7, hne8, hne9⟩ := ho
    generalize (IngressSource.dec c0 (ReorderBuffer.dec c1 (decM dkI (dvA Antiphonref09Thing.dec) c2)) (FrameMaker.dec c3) (decM dkI (dvA Antiphonref03Packet.dec) c4)) = y0 at *
    subst oc0
    subst oc1
    subst oc2
    subst oc3
    subst oc4
    obtain ⟨r, hr⟩ := Option.isSome_iff_exists.1 hs
    simp only [hr, Option.getD_some]
    have q := call_frame (M := M) [i0, i1, i2, i3, i4] (gExtendSeqRestartInIngressSource2.can y0 x1 r hr) (by simp [hne0, hne1, hne2, hne3, hne4, hne5, hne6, hne7, hne8, hne9]) rfl (by intro k i hk; (cases k with | zero => (simp at hk; subst hk; simp [hM0, into]) | succ k => ((cases k with | zero => (simp at hk; subst hk; simp [hM1, into]) | succ k => ((cases k with | zero => (simp at hk; subst hk; simp [hM2]) | succ k => ((cases k with | zero => (simp at hk; subst hk; simp [hM3]) | succ k => ((cases k with | zero => (simp at hk; subst hk; simp [hM4]) | succ k => (simp at hk)))))))))))
    exact callOk_conv q trivial (by simp [into]) (by simp [frameOut, gExtendSeqRestartInIngressSource2.out, into]) (by simp [frameOut, gExtendSeqRestartInIngressSource2.out, into])
  · cases h

@[simp] def gExtendSeqPutInIngressSource2.out (_x0 : IngressSource) (_x1 : Int) (r : Int × Bool × IngressSource) : Out := { av := .tup [.lit (.int .i64 r.1), .lit (.bool r.2.1)], M := some [.blk [.ptr 1 0, .ptr 3 0, .lit (.bool r.2.2.fSeq.fBegun), .lit (.int .i64 r.2.2.fSeq.fMost), .lit (.int .u16 r.2.2.fSeq.fOdd), .lit (.int .i64 r.2.2.fSeq.fRun), .lit (.int .i64 r.2.2.fSeq.fJumps), .lit (.bool r.2.2.fClock.fBegun), .lit (.int .i64 r.2.2.fClock.fLast), .mp 4, .lit (.int .i64 r.2.2.fBad), .lit (.int .i64 r.2.2.fKeys)], .blk [.lit (.int .i64 r.2.2.fBuffer.fConfig.fMost), .lit (.int .i64 r.2.2.fBuffer.fConfig.fWait), .lit (.bool r.2.2.fBuffer.fBegun), .lit (.int .i64 r.2.2.fBuffer.fNext), .mp 2, .lit (.int .i64 r.2.2.fBuffer.fLost)], .mapo (encM (kI .i64) (vA Antiphonref09Thing.enc) r.2.2.fBuffer.fOf), .blk [.lit (.bool r.2.2.fMaker.fConfig.fVideo), .lit (.int .i64 r.2.2.fMaker.fConfig.fBytes), .lit (.int .i64 r.2.2.fMaker.fConfig.fUnits), .lit (.int .i64 r.2.2.fMaker.fConfig.fWait), .sl (r.2.2.fMaker.fOpen.fUnits.map Antiphonref10Unit.enc) .no, .lit (.int .i64 r.2.2.fMaker.fWhole), .lit (.int .i64 r.2.2.fMaker.fLost)], .mapo (encM (kI .i64) (vA Antiphonref03Packet.enc) r.2.2.fOf)] }
def gExtendSeqPutInIngressSource2.fin (x0 : IngressSource) (x1 : Int) (r : Int × Bool × IngressSource) (σ : St) : Prop := finK (gExtendSeqPutInIngressSource2.out x0 x1 r) [.blk ([.ptr 1 0, .ptr 3 0] ++ x0.fSeq.enc ++ x0.fClock.enc ++ [.mp 4, .lit (.int .i64 x0.fBad), .lit (.int .i64 x0.fKeys)]), .blk (x0.fBuffer.fConfig.enc ++ [.lit (.bool x0.fBuffer.fBegun), .lit (.int .i64 x0.fBuffer.fNext), .mp 2, .lit (.int .i64 x0.fBuffer.fLost)]), .mapo (encM (kI .i64) (vA Antiphonref09Thing.enc) x0.fBuffer.fOf), .blk x0.fMaker.enc, .mapo (encM (kI .i64) (vA Antiphonref03Packet.enc) x0.fOf)] σ.M (resA Try.ty σ.A σ.M Try.f26.results.toList)
set_option maxHeartbeats 4000000 in
set_option maxRecDepth 100000 in
theorem gExtendSeqPutInIngressSource2.can (x0 : IngressSource) (x1 : Int) (r : Int × Bool × IngressSource) (hr : gExtendSeqPutInIngressSource2 x0 x1 = some r) : CallOk Try.prog 26 [.ptr 0 2, .lit (.int .u16 x1)] [.blk ([.ptr 1 0, .ptr 3 0] ++ x0.fSeq.enc ++ x0.fClock.enc ++ [.mp 4, .lit (.int .i64 x0.fBad), .lit (.int .i64 x0.fKeys)]), .blk (x0.fBuffer.fConfig.enc ++ [.lit (.bool x0.fBuffer.fBegun), .lit (.int .i64 x0.fBuffer.fNext), .mp 2, .lit (.int .i64 x0.fBuffer.fLost)]), .mapo (encM (kI .i64) (vA Antiphonref09Thing.enc) x0.fBuffer.fOf), .blk x0.fMaker.enc, .mapo (encM (kI .i64) (vA Antiphonref03Packet.enc) x0.fOf)] (gExtendSeqPutInIngressSource2.out x0 x1 r) := by
  unfold gExtendSeqPutInIngressSource2 at hr
  have hΓ := (gamL_cons gExtendSeqRestartInIngressSource2.ok (gamL_cons gSerialNearUint16.ok (gamL_nil)) : GamOk Try.prog _)
  refine call_of_awp Try.tyOk Try.func26 rfl (by kernel_rfl) rfl rfl (by simp) ?_
  intro _ _ _
  refine AWp.then ⟨[⟨0, none, .ptr 0 2⟩, ⟨1, none, .lit (.int .u16 x1)⟩], [.blk ([.ptr 1 0, .ptr 3 0] ++ x0.fSeq.enc ++ x0.fClock.enc ++ [.mp 4, .lit (.int .i64 x0.fBad), .lit (.int .i64 x0.fKeys)]), .blk (x0.fBuffer.fConfig.enc ++ [.lit (.bool x0.fBuffer.fBegun), .lit (.int .i64 x0.fBuffer.fNext), .mp 2, .lit (.int .i64 x0.fBuffer.fLost)]), .mapo (encM (kI .i64) (vA Antiphonref09Thing.enc) x0.fBuffer.fOf), .blk x0.fMaker.enc, .mapo (encM (kI .i64) (vA Antiphonref03Packet.enc) x0.fOf)]⟩ (AWp.reg Try.tyOk hΓ (keep := []) (dead := []) (by kernel_rfl) rfl (by simp)) ?_
  refine AWp.seq ?_
  refine AWp.then ⟨[⟨12, none, .lit (.bool (notB x0.fSeq.fBegun))⟩, ⟨0, none, .ptr 0 2⟩, ⟨1, none, .lit (.int .u16 x1)⟩], [.blk ([.ptr 1 0, .ptr 3 0] ++ x0.fSeq.enc ++ x0.fClock.enc ++ [.mp 4, .lit (.int .i64 x0.fBad), .lit (.int .i64 x0.fKeys)]), .blk (x0.fBuffer.fConfig.enc ++ [.lit (.bool x0.fBuffer.fBegun), .lit (.int .i64 x0.fBuffer.fNext), .mp 2, .lit (.int .i64 x0.fBuffer.fLost)]), .mapo (encM (kI .i64) (vA Antiphonref09Thing.enc) x0.fBuffer.fOf), .blk x0.fMaker.enc, .mapo (encM (kI .i64) (vA Antiphonref03Packet.enc) x0.fOf)]⟩ (AWp.reg Try.tyOk hΓ (keep := [12]) (dead := []) (by kernel_rfl) rfl (by simp)) ?_
  refine AWp.cond (b := (notB x0.fSeq.fBegun)) (by simp) (fun h7 => ?_) (fun h7 => ?_)
  · have hr := cond_t h7 hr
    refine AWp.then ⟨[⟨0, none, .ptr 0 2⟩], [.blk ([.ptr 1 0, .ptr 3 0, .lit (.bool true), .lit (.int .i64 (addI .i64 1048576 (cvtI .i64 x1))), .lit (.int .u16 x0.fSeq.fOdd), .lit (.int .i64 x0.fSeq.fRun), .lit (.int .i64 x0.fSeq.fJumps)] ++ x0.fClock.enc ++ [.mp 4, .lit (.int .i64 x0.fBad), .lit (.int .i64 x0.fKeys)]), .blk (x0.fBuffer.fConfig.enc ++ [.lit (.bool x0.fBuffer.fBegun), .lit (.int .i64 x0.fBuffer.fNext), .mp 2, .lit (.int .i64 x0.fBuffer.fLost)]), .mapo (encM (kI .i64) (vA Antiphonref09Thing.enc) x0.fBuffer.fOf), .blk x0.fMaker.enc, .mapo (encM (kI .i64) (vA Antiphonref03Packet.enc) x0.fOf)]⟩ (AWp.reg Try.tyOk hΓ (keep := []) (dead := [12, 1]) (by kernel_rfl) rfl (by simp [h7])) ?_
    refine AWp.then ⟨[⟨4, none, .lit (.int .i64 (addI .i64 1048576 (cvtI .i64 x1)))⟩, ⟨5, none, .lit (.bool true)⟩], [.blk ([.ptr 1 0, .ptr 3 0, .lit (.bool true), .lit (.int .i64 (addI .i64 1048576 (cvtI .i64 x1))), .lit (.int .u16 x0.fSeq.fOdd), .lit (.int .i64 x0.fSeq.fRun), .lit (.int .i64 x0.fSeq.fJumps)] ++ x0.fClock.enc ++ [.mp 4, .lit (.int .i64 x0.fBad), .lit (.int .i64 x0.fKeys)]), .blk (x0.fBuffer.fConfig.enc ++ [.lit (.bool x0.fBuffer.fBegun), .lit (.int .i64 x0.fBuffer.fNext), .mp 2, .lit (.int .i64 x0.fBuffer.fLost)]), .mapo (encM (kI .i64) (vA Antiphonref09Thing.enc) x0.fBuffer.fOf), .blk x0.fMaker.enc, .mapo (encM (kI .i64) (vA Antiphonref03Packet.enc) x0.fOf)]⟩ (AWp.reg Try.tyOk hΓ (keep := [4, 5]) (dead := [0]) (by kernel_rfl) rfl (by simp)) ?_
    refine AWp.ret ?_
    obtain rfl := some_inj hr
    refine fin_ret ?_
    simp
  · have hr := cond_f h7 hr
    refine AWp.skip ?_
    obtain ⟨r1, h8, hr⟩ := bind_some' hr
    refine AWp.then ⟨[⟨6, none, .lit (.int .i64 r1)⟩, ⟨0, none, .ptr 0 2⟩, ⟨1, none, .lit (.int .u16 x1)⟩], [.blk ([.ptr 1 0, .ptr 3 0] ++ x0.fSeq.enc ++ x0.fClock.enc ++ [.mp 4, .lit (.int .i64 x0.fBad), .lit (.int .i64 x0.fKeys)]), .blk (x0.fBuffer.fConfig.enc ++ [.lit (.bool x0.fBuffer.fBegun), .lit (.int .i64 x0.fBuffer.fNext), .mp 2, .lit (.int .i64 x0.fBuffer.fLost)]), .mapo (encM (kI .i64) (vA Antiphonref09Thing.enc) x0.fBuffer.fOf), .blk x0.fMaker.enc, .mapo (encM (kI .i64) (vA Antiphonref03Packet.enc) x0.fOf)]⟩ (AWp.reg Try.tyOk hΓ (keep := [6]) (dead := [12]) (by kernel_rfl) rfl (by simp [h7, h8])) ?_
    refine AWp.seq ?_
    refine AWp.then ⟨[⟨7, none, .lit (.int .i64 (subI .i64 r1 x0.fSeq.fMost))⟩, ⟨6, none, .lit (.int .i64 r1)⟩, ⟨0, none, .ptr 0 2⟩, ⟨1, none, .lit (.int .u16 x1)⟩], [.blk ([.ptr 1 0, .ptr 3 0] ++ x0.fSeq.enc ++ x0.fClock.enc ++ [.mp 4, .lit (.int .i64 x0.fBad), .lit (.int .i64 x0.fKeys)]), .blk (x0.fBuffer.fConfig.enc ++ [.lit (.bool x0.fBuffer.fBegun), .lit (.int .i64 x0.fBuffer.fNext), .mp 2, .lit (.int .i64 x0.fBuffer.fLost)]), .mapo (encM (kI .i64) (vA Antiphonref09Thing.enc) x0.fBuffer.fOf), .blk x0.fMaker.enc, .mapo (encM (kI .i64) (vA Antiphonref03Packet.enc) x0.fOf)]⟩ (AWp.reg Try.tyOk hΓ (keep := [7]) (dead := []) (by kernel_rfl) rfl (by simp)) ?_
    refine AWp.then ⟨[⟨43, none, .lit (.bool (pickB (leqI (subI .i64 r1 x0.fSeq.fMost) 3000) (leqI (-3000) (subI .i64 r1 x0.fSeq.fMost)) false))⟩, ⟨6, none, .lit (.int .i64 r1)⟩, ⟨0, none, .ptr 0 2⟩, ⟨1, none, .lit (.int .u16 x1)⟩], [.blk ([.ptr 1 0, .ptr 3 0] ++ x0.fSeq.enc ++ x0.fClock.enc ++ [.mp 4, .lit (.int .i64 x0.fBad), .lit (.int .i64 x0.fKeys)]), .blk (x0.fBuffer.fConfig.enc ++ [.lit (.bool x0.fBuffer.fBegun), .lit (.int .i64 x0.fBuffer.fNext), .mp 2, .lit (.int .i64 x0.fBuffer.fLost)]), .mapo (encM (kI .i64) (vA Antiphonref09Thing.enc) x0.fBuffer.fOf), .blk x0.fMaker.enc, .mapo (encM (kI .i64) (vA Antiphonref03Packet.enc) x0.fOf)]⟩ (AWp.reg Try.tyOk hΓ (keep := [43]) (dead := [7]) (by kernel_rfl) rfl (by simp)) ?_
    refine AWp.cond (b := (pickB (leqI (subI .i64 r1 x0.fSeq.fMost) 3000) (leqI (-3000) (subI .i64 r1 x0.fSeq.fMost)) false)) (by simp) (fun h9 => ?_) (fun h9 => ?_)
    · have hr := cond_t h9 hr
      refine AWp.then ⟨[⟨6, none, .lit (.int .i64 r1)⟩, ⟨0, none, .ptr 0 2⟩], [.blk ([.ptr 1 0, .ptr 3 0, .lit (.bool x0.fSeq.fBegun), .lit (.int .i64 (maxI x0.fSeq.fMost r1)), .lit (.int .u16 x0.fSeq.fOdd), .lit (.int .i64 x0.fSeq.fRun), .lit (.int .i64 x0.fSeq.fJumps)] ++ x0.fClock.enc ++ [.mp 4, .lit (.int .i64 x0.fBad), .lit (.int .i64 x0.fKeys)]), .blk (x0.fBuffer.fConfig.enc ++ [.lit (.bool x0.fBuffer.fBegun), .lit (.int .i64 x0.fBuffer.fNext), .mp 2, .lit (.int .i64 x0.fBuffer.fLost)]), .mapo (encM (kI .i64) (vA Antiphonref09Thing.enc) x0.fBuffer.fOf), .blk x0.fMaker.enc, .mapo (encM (kI .i64) (vA Antiphonref03Packet.enc) x0.fOf)]⟩ (AWp.reg Try.tyOk hΓ (keep := []) (dead := [43, 1]) (by kernel_rfl) rfl (by simp [h9])) ?_
      refine AWp.then ⟨[⟨6, none, .lit (.int .i64 r1)⟩], [.blk ([.ptr 1 0, .ptr 3 0, .lit (.bool x0.fSeq.fBegun), .lit (.int .i64 (maxI x0.fSeq.fMost r1)), .lit (.int .u16 x0.fSeq.fOdd), .lit (.int .i64 0), .lit (.int .i64 x0.fSeq.fJumps)] ++ x0.fClock.enc ++ [.mp 4, .lit (.int .i64 x0.fBad), .lit (.int .i64 x0.fKeys)]), .blk (x0.fBuffer.fConfig.enc ++ [.lit (.bool x0.fBuffer.fBegun), .lit (.int .i64 x0.fBuffer.fNext), .mp 2, .lit (.int .i64 x0.fBuffer.fLost)]), .mapo (encM (kI .i64) (vA Antiphonref09Thing.enc) x0.fBuffer.fOf), .blk x0.fMaker.enc, .mapo (encM (kI .i64) (vA Antiphonref03Packet.enc) x0.fOf)]⟩ (AWp.reg Try.tyOk hΓ (keep := []) (dead := [0]) (by kernel_rfl) rfl (by simp)) ?_
      refine AWp.then ⟨[⟨4, none, .lit (.int .i64 r1)⟩, ⟨5, none, .lit (.bool true)⟩], [.blk ([.ptr 1 0, .ptr 3 0, .lit (.bool x0.fSeq.fBegun), .lit (.int .i64 (maxI x0.fSeq.fMost r1)), .lit (.int .u16 x0.fSeq.fOdd), .lit (.int .i64 0), .lit (.int .i64 x0.fSeq.fJumps)] ++ x0.fClock.enc ++ [.mp 4, .lit (.int .i64 x0.fBad), .lit (.int .i64 x0.fKeys)]), .blk (x0.fBuffer.fConfig.enc ++ [.lit (.bool x0.fBuffer.fBegun), .lit (.int .i64 x0.fBuffer.fNext), .mp 2, .lit (.int .i64 x0.fBuffer.fLost)]), .mapo (encM (kI .i64) (vA Antiphonref09Thing.enc) x0.fBuffer.fOf), .blk x0.fMaker.enc, .mapo (encM (kI .i64) (vA Antiphonref03Packet.enc) x0.fOf)]⟩ (AWp.reg Try.tyOk hΓ (keep := [4, 5]) (dead := [6]) (by kernel_rfl) rfl (by simp)) ?_
      refine AWp.ret ?_
      obtain rfl := some_inj hr
      refine fin_ret ?_
      simp
    · have hr := cond_f h9 hr
      refine AWp.skip ?_
      refine AWp.meetF (fun (v1 : ExtendSeq) (γ1 : Unit) => ⟨[⟨0, none, .ptr 0 2⟩, ⟨1, none, .lit (.int .u16 x1)⟩], [.blk ([.ptr 1 0, .ptr 3 0] ++ v1.enc ++ x0.fClock.enc ++ [.mp 4, .lit (.int .i64 x0.fBad), .lit (.int .i64 x0.fKeys)]), .blk (x0.fBuffer.fConfig.enc ++ [.lit (.bool x0.fBuffer.fBegun), .lit (.int .i64 x0.fBuffer.fNext), .mp 2, .lit (.int .i64 x0.fBuffer.fLost)]), .mapo (encM (kI .i64) (vA Antiphonref09Thing.enc) x0.fBuffer.fOf), .blk x0.fMaker.enc, .mapo (encM (kI .i64) (vA Antiphonref03Packet.enc) x0.fOf)]⟩) (gExtendSeqPutInIngressSource2.fin x0 x1) hr (fun f hr => ?_) (fun v1 γ1 hr => ?_) (fun _ h => h)
      · refine AWp.then ⟨[⟨69, none, .lit (.bool (pickB (ltI 0 x0.fSeq.fRun) (eqI x1 x0.fSeq.fOdd) false))⟩, ⟨0, none, .ptr 0 2⟩, ⟨1, none, .lit (.int .u16 x1)⟩], [.blk ([.ptr 1 0, .ptr 3 0] ++ x0.fSeq.enc ++ x0.fClock.enc ++ [.mp 4, .lit (.int .i64 x0.fBad), .lit (.int .i64 x0.fKeys)]), .blk (x0.fBuffer.fConfig.enc ++ [.lit (.bool x0.fBuffer.fBegun), .lit (.int .i64 x0.fBuffer.fNext), .mp 2, .lit (.int .i64 x0.fBuffer.fLost)]), .mapo (encM (kI .i64) (vA Antiphonref09Thing.enc) x0.fBuffer.fOf), .blk x0.fMaker.enc, .mapo (encM (kI .i64) (vA Antiphonref03Packet.enc) x0.fOf)]⟩ (AWp.reg Try.tyOk hΓ (keep := [69]) (dead := [43, 6]) (by kernel_rfl) rfl (by simp [h9])) ?_
        refine AWp.cond (b := (pickB (ltI 0 x0.fSeq.fRun) (eqI x1 x0.fSeq.fOdd) false)) (by simp) (fun h10 => ?_) (fun h10 => ?_)
        · have hr := cond_t h10 hr
          refine AWp.last ⟨[⟨0, none, .ptr 0 2⟩, ⟨1, none, .lit (.int .u16 x1)⟩], [.blk ([.ptr 1 0, .ptr 3 0, .lit (.bool x0.fSeq.fBegun), .lit (.int .i64 x0.fSeq.fMost), .lit (.int .u16 x0.fSeq.fOdd), .lit (.int .i64 (addI .i64 x0.fSeq.fRun 1)), .lit (.int .i64 x0.fSeq.fJumps)] ++ x0.fClock.enc ++ [.mp 4, .lit (.int .i64 x0.fBad), .lit (.int .i64 x0.fKeys)]), .blk (x0.fBuffer.fConfig.enc ++ [.lit (.bool x0.fBuffer.fBegun), .lit (.int .i64 x0.fBuffer.fNext), .mp 2, .lit (.int .i64 x0.fBuffer.fLost)]), .mapo (encM (kI .i64) (vA Antiphonref09Thing.enc) x0.fBuffer.fOf), .blk x0.fMaker.enc, .mapo (encM (kI .i64) (vA Antiphonref03Packet.enc) x0.fOf)]⟩ (AWp.reg Try.tyOk hΓ (keep := []) (dead := [69]) (by kernel_rfl) rfl (by simp [h10])) ?_
          obtain rfl := some_inj hr
          exact meet_go () 5 (by first | (simp; done) | simp [h7, h8, h9, h10])
        · have hr := cond_f h10 hr
          refine AWp.last ⟨[⟨0, none, .ptr 0 2⟩, ⟨1, none, .lit (.int .u16 x1)⟩], [.blk ([.ptr 1 0, .ptr 3 0, .lit (.bool x0.fSeq.fBegun), .lit (.int .i64 x0.fSeq.fMost), .lit (.int .u16 x0.fSeq.fOdd), .lit (.int .i64 1), .lit (.int .i64 x0.fSeq.fJumps)] ++ x0.fClock.enc ++ [.mp 4, .lit (.int .i64 x0.fBad), .lit (.int .i64 x0.fKeys)]), .blk (x0.fBuffer.fConfig.enc ++ [.lit (.bool x0.fBuffer.fBegun), .lit (.int .i64 x0.fBuffer.fNext), .mp 2, .lit (.int .i64 x0.fBuffer.fLost)]), .mapo (encM (kI .i64) (vA Antiphonref09Thing.enc) x0.fBuffer.fOf), .blk x0.fMaker.enc, .mapo (encM (kI .i64) (vA Antiphonref03Packet.enc) x0.fOf)]⟩ (AWp.reg Try.tyOk hΓ (keep := []) (dead := [69]) (by kernel_rfl) rfl (by simp [h10])) ?_
          obtain rfl := some_inj hr
          exact meet_go () 5 (by first | (simp; done) | simp [h7, h8, h9, h10])
      · refine AWp.then ⟨[⟨0, none, .ptr 0 2⟩, ⟨1, none, .lit (.int .u16 x1)⟩], [.blk ([.ptr 1 0, .ptr 3 0, .lit (.bool v1.fBegun), .lit (.int .i64 v1.fMost), .lit (.int .u16 (addI .u16 x1 1)), .lit (.int .i64 v1.fRun), .lit (.int .i64 v1.fJumps)] ++ x0.fClock.enc ++ [.mp 4, .lit (.int .i64 x0.fBad), .lit (.int .i64 x0.fKeys)]), .blk (x0.fBuffer.fConfig.enc ++ [.lit (.bool x0.fBuffer.fBegun), .lit (.int .i64 x0.fBuffer.fNext), .mp 2, .lit (.int .i64 x0.fBuffer.fLost)]), .mapo (encM (kI .i64) (vA Antiphonref09Thing.enc) x0.fBuffer.fOf), .blk x0.fMaker.enc, .mapo (encM (kI .i64) (vA Antiphonref03Packet.enc) x0.fOf)]⟩ (AWp.reg Try.tyOk hΓ (keep := []) (dead := []) (by kernel_rfl) rfl (by simp)) ?_
        refine AWp.seq ?_
        refine AWp.then ⟨[⟨89, none, .lit (.bool (leqI 2 v1.fRun))⟩, ⟨0, none, .ptr 0 2⟩, ⟨1, none, .lit (.int .u16 x1)⟩], [.blk ([.ptr 1 0, .ptr 3 0, .lit (.bool v1.fBegun), .lit (.int .i64 v1.fMost), .lit (.int .u16 (addI .u16 x1 1)), .lit (.int .i64 v1.fRun), .lit (.int .i64 v1.fJumps)] ++ x0.fClock.enc ++ [.mp 4, .lit (.int .i64 x0.fBad), .lit (.int .i64 x0.fKeys)]), .blk (x0.fBuffer.fConfig.enc ++ [.lit (.bool x0.fBuffer.fBegun), .lit (.int .i64 x0.fBuffer.fNext), .mp 2, .lit (.int .i64 x0.fBuffer.fLost)]), .mapo (encM (kI .i64) (vA Antiphonref09Thing.enc) x0.fBuffer.fOf), .blk x0.fMaker.enc, .mapo (encM (kI .i64) (vA Antiphonref03Packet.enc) x0.fOf)]⟩ (AWp.reg Try.tyOk hΓ (keep := [89]) (dead := []) (by kernel_rfl) rfl (by simp)) ?_
        refine AWp.cond (b := (leqI 2 v1.fRun)) (by simp) (fun h11 => ?_) (fun h11 => ?_)
        · have hr := cond_t h11 hr
          obtain ⟨r2, h12, hr⟩ := bind_some' hr
          refine AWp.then ⟨[⟨4, none, .lit (.int .i64 r2.1)⟩, ⟨5, none, .lit (.bool true)⟩], [.blk ([.ptr 1 0, .ptr 3 0] ++ r2.2.fSeq.enc ++ r2.2.fClock.enc ++ [.mp 4, .lit (.int .i64 r2.2.fBad), .lit (.int .i64 r2.2.fKeys)]), .blk (r2.2.fBuffer.fConfig.enc ++ [.lit (.bool r2.2.fBuffer.fBegun), .lit (.int .i64 r2.2.fBuffer.fNext), .mp 2, .lit (.int .i64 r2.2.fBuffer.fLost)]), .mapo (encM (kI .i64) (vA Antiphonref09Thing.enc) r2.2.fBuffer.fOf), .blk r2.2.fMaker.enc, .mapo (encM (kI .i64) (vA Antiphonref03Packet.enc) r2.2.fOf)]⟩ (AWp.reg Try.tyOk hΓ (keep := [4, 5]) (dead := [89, 0, 1]) (by kernel_rfl) rfl (by simp [h11, h12])) ?_
          refine AWp.ret ?_
          obtain rfl := some_inj hr
          refine fin_ret ?_
          simp
        · have hr := cond_f h11 hr
          refine AWp.skip ?_
          refine AWp.then ⟨[⟨4, none, .lit (.int .i64 0)⟩, ⟨5, none, .lit (.bool false)⟩], [.blk ([.ptr 1 0, .ptr 3 0, .lit (.bool v1.fBegun), .lit (.int .i64 v1.fMost), .lit (.int .u16 (addI .u16 x1 1)), .lit (.int .i64 v1.fRun), .lit (.int .i64 v1.fJumps)] ++ x0.fClock.enc ++ [.mp 4, .lit (.int .i64 x0.fBad), .lit (.int .i64 x0.fKeys)]), .blk (x0.fBuffer.fConfig.enc ++ [.lit (.bool x0.fBuffer.fBegun), .lit (.int .i64 x0.fBuffer.fNext), .mp 2, .lit (.int .i64 x0.fBuffer.fLost)]), .mapo (encM (kI .i64) (vA Antiphonref09Thing.enc) x0.fBuffer.fOf), .blk x0.fMaker.enc, .mapo (encM (kI .i64) (vA Antiphonref03Packet.enc) x0.fOf)]⟩ (AWp.reg Try.tyOk hΓ (keep := [4, 5]) (dead := [89, 0, 1]) (by kernel_rfl) rfl (by simp [h11])) ?_
          refine AWp.ret ?_
          obtain rfl := some_inj hr
          refine fin_ret ?_
          simp

@[simp] noncomputable def gExtendSeqPutInIngressSource2.S : Sp
  | [.ptr i0 2, .lit (.int .u16 x1)], M => match M[i0]? with
    | some (.blk c0) => (match nthE c0 0 with
    | some (.ptr i1 0) => (match M[i1]? with
    | some (.blk c1) => (match nthE c1 4 with
    | some (.mp i2) => (match M[i2]? with
    | some (.mapo c2) => (match nthE c0 1 with
    | some (.ptr i3 0) => (match M[i3]? with
    | some (.blk c3) => (match nthE c0 9 with
    | some (.mp i4) => (match M[i4]? with
    | some (.mapo c4) => (fun (y0 : IngressSource) => (fun (r : Int × Bool × IngressSource) => some { av := .tup [.lit (.int .i64 (r.1)), .lit (.bool (r.2.1))], M := some (((((M.set i0 (.blk [.ptr i1 0, .ptr i3 0, .lit (.bool (r.2.2.fSeq.fBegun)), .lit (.int .i64 (r.2.2.fSeq.fMost)), .lit (.int .u16 (r.2.2.fSeq.fOdd)), .lit (.int .i64 (r.2.2.fSeq.fRun)), .lit (.int .i64 (r.2.2.fSeq.fJumps)), .lit (.bool (r.2.2.fClock.fBegun)), .lit (.int .i64 (r.2.2.fClock.fLast)), .mp i4, .lit (.int .i64 (r.2.2.fBad)), .lit (.int .i64 (r.2.2.fKeys))])).set i1 (.blk [.lit (.int .i64 (r.2.2.fBuffer.fConfig.fMost)), .lit (.int .i64 (r.2.2.fBuffer.fConfig.fWait)), .lit (.bool (r.2.2.fBuffer.fBegun)), .lit (.int .i64 (r.2.2.fBuffer.fNext)), .mp i2, .lit (.int .i64 (r.2.2.fBuffer.fLost))])).set i2 (.mapo (encM (kI .i64) (vA Antiphonref09Thing.enc) (r.2.2.fBuffer.fOf)))).set i3 (.blk [.lit (.bool (r.2.2.fMaker.fConfig.fVideo)), .lit (.int .i64 (r.2.2.fMaker.fConfig.fBytes)), .lit (.int .i64 (r.2.2.fMaker.fConfig.fUnits)), .lit (.int .i64 (r.2.2.fMaker.fConfig.fWait)), .sl ((r.2.2.fMaker.fOpen.fUnits).map Antiphonref10Unit.enc) .no, .lit (.int .i64 (r.2.2.fMaker.fWhole)), .lit (.int .i64 (r.2.2.fMaker.fLost))])).set i4 (.mapo (encM (kI .i64) (vA Antiphonref03Packet.enc) (r.2.2.fOf)))), obl := c0 = IngressSource.enc y0 i1 i3 i4 ∧ c1 = ReorderBuffer.enc (y0.fBuffer) i2 ∧ c2 = encM (kI .i64) (vA Antiphonref09Thing.enc) (y0.fBuffer.fOf) ∧ c3 = FrameMaker.enc (y0.fMaker) ∧ c4 = encM (kI .i64) (vA Antiphonref03Packet.enc) (y0.fOf) ∧ (gExtendSeqPutInIngressSource2 y0 x1).isSome = true ∧ i0 ≠ i1 ∧ i0 ≠ i2 ∧ i0 ≠ i3 ∧ i0 ≠ i4 ∧ i1 ≠ i2 ∧ i1 ≠ i3 ∧ i1 ≠ i4 ∧ i2 ≠ i3 ∧ i2 ≠ i4 ∧ i3 ≠ i4 }) ((gExtendSeqPutInIngressSource2 y0 x1).getD dflt)) (IngressSource.dec c0 (ReorderBuffer.dec c1 (decM dkI (dvA Antiphonref09Thing.dec) c2)) (FrameMaker.dec c3) (decM dkI (dvA Antiphonref03Packet.dec) c4))
    | _ => none)
    | _ => none)
    | _ => none)
    | _ => none)
    | _ => none)
    | _ => none)
    | _ => none)
    | _ => none)
    | _ => none
  | _, _ => none

set_option maxHeartbeats 1000000 in
theorem gExtendSeqPutInIngressSource2.ok : SpecOk Try.prog 26 gExtendSeqPutInIngressSource2.S := by
  intro l M out h
  unfold gExtendSeqPutInIngressSource2.S at h
  split at h
  · rename_i i0 x1
    split at h
    case h_2 => cases h
    rename_i c0 hM0
    split at h
    case h_2 => cases h
    rename_i i1 he1
    split at h
    case h_2 => cases h
    rename_i c1 hM1
    split at h
    case h_2 => cases h
    rename_i i2 he2
    split at h
    case h_2 => cases h
    rename_i c2 hM2
    split at h
    case h_2 => cases h
    rename_i i3 he3
    split at h
    case h_2 => cases h
    rename_i c3 hM3
    split at h
    case h_2 => cases h
    rename_i i4 he4
    split at h
    case h_2 => cases h
    rename_i c4 hM4
    try dsimp only at h
    cases h
    refine callOk_of fun ho => ?_
    obtain ⟨oc0, oc1, oc2, oc3, oc4, hs, hne0, hne1, hne2, hne3, hne4, hne5, hne6, hne7, hne8, hne9⟩ := ho
    generalize (IngressSource.dec c0 (ReorderBuffer.dec c1 (decM dkI (dvA Antiphonref09Thing.dec) c2)) (FrameMaker.dec c3) (decM dkI (dvA Antiphonref03Packet.dec) c4)) = y0 at *
    subst oc0
    subst oc1
    subst oc2
    subst oc3
    subst oc4
    obtain ⟨r, hr⟩ := Option.isSome_iff_exists.1 hs
    simp only [hr, Option.getD_some]
    have q := call_frame (M := M) [i0, i1, i2, i3, i4] (gExtendSeqPutInIngressSource2.can y0 x1 r hr) (by simp [hne0, hne1, hne2, hne3, hne4, hne5, hne6, hne7, hne8, hne9]) rfl (by intro k i hk; (cases k with | zero => (simp at hk; subst hk; simp [hM0, into]) | succ k => ((cases k with | zero => (simp at hk; subst hk; simp [hM1, into]) | succ k => ((cases k with | zero => (simp at hk; subst hk; simp [hM2]) | succ k => ((cases k with | zero => (simp at hk; subst hk; simp [hM3]) | succ k => ((cases k with | zero => (simp at hk; subst hk; simp [hM4]) | succ k => (simp at hk)))))))))))
    exact callOk_conv q trivial (by simp [into]) (by simp [frameOut, gExtendSeqPutInIngressSource2.out, into]) (by simp [frameOut, gExtendSeqPutInIngressSource2.out, into])
  · cases h

@[simp] def gExtendClockPutInIngressSource7.out (_x0 : IngressSource) (_x1 : Int) (r : Int × IngressSource) : Out := { av := .lit (.int .i64 r.1), M := some [.blk [.ptr 1 0, .ptr 3 0, .lit (.bool r.2.fSeq.fBegun), .lit (.int .i64 r.2.fSeq.fMost), .lit (.int .u16 r.2.fSeq.fOdd), .lit (.int .i64 r.2.fSeq.fRun), .lit (.int .i64 r.2.fSeq.fJumps), .lit (.bool r.2.fClock.fBegun), .lit (.int .i64 r.2.fClock.fLast), .mp 4, .lit (.int .i64 r.2.fBad), .lit (.int .i64 r.2.fKeys)], .blk [.lit (.int .i64 r.2.fBuffer.fConfig.fMost), .lit (.int .i64 r.2.fBuffer.fConfig.fWait), .lit (.bool r.2.fBuffer.fBegun), .lit (.int .i64 r.2.fBuffer.fNext), .mp 2, .lit (.int .i64 r.2.fBuffer.fLost)], .mapo (encM (kI .i64) (vA Antiphonref09Thing.enc) r.2.fBuffer.fOf), .blk [.lit (.bool r.2.fMaker.fConfig.fVideo), .lit (.int .i64 r.2.fMaker.fConfig.fBytes), .lit (.int .i64 r.2.fMaker.fConfig.fUnits), .lit (.int .i64 r.2.fMaker.fConfig.fWait), .sl (r.2.fMaker.fOpen.fUnits.map Antiphonref10Unit.enc) .no, .lit (.int .i64 r.2.fMaker.fWhole), .lit (.int .i64 r.2.fMaker.fLost)], .mapo (encM (kI .i64) (vA Antiphonref03Packet.enc) r.2.fOf)] }
set_option maxHeartbeats 4000000 in
set_option maxRecDepth 100000 in
theorem gExtendClockPutInIngressSource7.can (x0 : IngressSource) (x1 : Int) (r : Int × IngressSource) (hr : gExtendClockPutInIngressSource7 x0 x1 = some r) : CallOk Try.prog 55 [.ptr 0 7, .lit (.int .u32 x1)] [.blk ([.ptr 1 0, .ptr 3 0] ++ x0.fSeq.enc ++ x0.fClock.enc ++ [.mp 4, .lit (.int .i64 x0.fBad), .lit (.int .i64 x0.fKeys)]), .blk (x0.fBuffer.fConfig.enc ++ [.lit (.bool x0.fBuffer.fBegun), .lit (.int .i64 x0.fBuffer.fNext), .mp 2, .lit (.int .i64 x0.fBuffer.fLost)]), .mapo (encM (kI .i64) (vA Antiphonref09Thing.enc) x0.fBuffer.fOf), .blk x0.fMaker.enc, .mapo (encM (kI .i64) (vA Antiphonref03Packet.enc) x0.fOf)] (gExtendClockPutInIngressSource7.out x0 x1 r) := by
  unfold gExtendClockPutInIngressSource7 at hr
  have hΓ := (gamL_cons gSerialNearUint32.ok (gamL_nil) : GamOk Try.prog _)
  refine call_of_awp Try.tyOk Try.func55 rfl (by kernel_rfl) rfl rfl (by simp) ?_
  intro _ _ _
  refine AWp.then ⟨[⟨0, none, .ptr 0 7⟩, ⟨1, none, .lit (.int .u32 x1)⟩], [.blk ([.ptr 1 0, .ptr 3 0] ++ x0.fSeq.enc ++ x0.fClock.enc ++ [.mp 4, .lit (.int .i64 x0.fBad), .lit (.int .i64 x0.fKeys)]), .blk (x0.fBuffer.fConfig.enc ++ [.lit (.bool x0.fBuffer.fBegun), .lit (.int .i64 x0.fBuffer.fNext), .mp 2, .lit (.int .i64 x0.fBuffer.fLost)]), .mapo (encM (kI .i64) (vA Antiphonref09Thing.enc) x0.fBuffer.fOf), .blk x0.fMaker.enc, .mapo (encM (kI .i64) (vA Antiphonref03Packet.enc) x0.fOf)]⟩ (AWp.reg Try.tyOk hΓ (keep := []) (dead := []) (by kernel_rfl) rfl (by simp)) ?_
  refine AWp.seq ?_
  refine AWp.then ⟨[⟨10, none, .lit (.bool (notB x0.fClock.fBegun))⟩, ⟨0, none, .ptr 0 7⟩, ⟨1, none, .lit (.int .u32 x1)⟩], [.blk ([.ptr 1 0, .ptr 3 0] ++ x0.fSeq.enc ++ x0.fClock.enc ++ [.mp 4, .lit (.int .i64 x0.fBad), .lit (.int .i64 x0.fKeys)]), .blk (x0.fBuffer.fConfig.enc ++ [.lit (.bool x0.fBuffer.fBegun), .lit (.int .i64 x0.fBuffer.fNext), .mp 2, .lit (.int .i64 x0.fBuffer.fLost)]), .mapo (encM (kI .i64) (vA Antiphonref09Thing.enc) x0.fBuffer.fOf), .blk x0.fMaker.enc, .mapo (encM (kI .i64) (vA Antiphonref03Packet.enc) x0.fOf)]⟩ (AWp.reg Try.tyOk hΓ (keep := [10]) (dead := []) (by kernel_rfl) rfl (by simp)) ?_
  refine AWp.cond (b := (notB x0.fClock.fBegun)) (by simp) (fun h3 => ?_) (fun h3 => ?_)
  · have hr := cond_t h3 hr
    refine AWp.then ⟨[⟨0, none, .ptr 0 7⟩], [.blk ([.ptr 1 0, .ptr 3 0] ++ x0.fSeq.enc ++ [.lit (.bool true), .lit (.int .i64 (addI .i64 68719476736 (cvtI .i64 x1))), .mp 4, .lit (.int .i64 x0.fBad), .lit (.int .i64 x0.fKeys)]), .blk (x0.fBuffer.fConfig.enc ++ [.lit (.bool x0.fBuffer.fBegun), .lit (.int .i64 x0.fBuffer.fNext), .mp 2, .lit (.int .i64 x0.fBuffer.fLost)]), .mapo (encM (kI .i64) (vA Antiphonref09Thing.enc) x0.fBuffer.fOf), .blk x0.fMaker.enc, .mapo (encM (kI .i64) (vA Antiphonref03Packet.enc) x0.fOf)]⟩ (AWp.reg Try.tyOk hΓ (keep := []) (dead := [10, 1]) (by kernel_rfl) rfl (by simp [h3])) ?_
    refine AWp.then ⟨[⟨4, none, .lit (.int .i64 (addI .i64 68719476736 (cvtI .i64 x1)))⟩], [.blk ([.ptr 1 0, .ptr 3 0] ++ x0.fSeq.enc ++ [.lit (.bool true), .lit (.int .i64 (addI .i64 68719476736 (cvtI .i64 x1))), .mp 4, .lit (.int .i64 x0.fBad), .lit (.int .i64 x0.fKeys)]), .blk (x0.fBuffer.fConfig.enc ++ [.lit (.bool x0.fBuffer.fBegun), .lit (.int .i64 x0.fBuffer.fNext), .mp 2, .lit (.int .i64 x0.fBuffer.fLost)]), .mapo (encM (kI .i64) (vA Antiphonref09Thing.enc) x0.fBuffer.fOf), .blk x0.fMaker.enc, .mapo (encM (kI .i64) (vA Antiphonref03Packet.enc) x0.fOf)]⟩ (AWp.reg Try.tyOk hΓ (keep := [4]) (dead := [0]) (by kernel_rfl) rfl (by simp)) ?_
    refine AWp.ret ?_
    obtain rfl := some_inj hr
    refine fin_ret ?_
    simp
  · have hr := cond_f h3 hr
    refine AWp.skip ?_
    obtain ⟨r1, h4, hr⟩ := bind_some' hr
    refine AWp.then ⟨[⟨5, none, .lit (.int .i64 r1)⟩, ⟨0, none, .ptr 0 7⟩], [.blk ([.ptr 1 0, .ptr 3 0] ++ x0.fSeq.enc ++ x0.fClock.enc ++ [.mp 4, .lit (.int .i64 x0.fBad), .lit (.int .i64 x0.fKeys)]), .blk (x0.fBuffer.fConfig.enc ++ [.lit (.bool x0.fBuffer.fBegun), .lit (.int .i64 x0.fBuffer.fNext), .mp 2, .lit (.int .i64 x0.fBuffer.fLost)]), .mapo (encM (kI .i64) (vA Antiphonref09Thing.enc) x0.fBuffer.fOf), .blk x0.fMaker.enc, .mapo (encM (kI .i64) (vA Antiphonref03Packet.enc) x0.fOf)]⟩ (AWp.reg Try.tyOk hΓ (keep := [5]) (dead := [10, 1]) (by kernel_rfl) rfl (by simp [h3, h4])) ?_
    refine AWp.then ⟨[⟨5, none, .lit (.int .i64 r1)⟩], [.blk ([.ptr 1 0, .ptr 3 0] ++ x0.fSeq.enc ++ [.lit (.bool x0.fClock.fBegun), .lit (.int .i64 (maxI x0.fClock.fLast r1)), .mp 4, .lit (.int .i64 x0.fBad), .lit (.int .i64 x0.fKeys)]), .blk (x0.fBuffer.fConfig.enc ++ [.lit (.bool x0.fBuffer.fBegun), .lit (.int .i64 x0.fBuffer.fNext), .mp 2, .lit (.int .i64 x0.fBuffer.fLost)]), .mapo (encM (kI .i64) (vA Antiphonref09Thing.enc) x0.fBuffer.fOf), .blk x0.fMaker.enc, .mapo (encM (kI .i64) (vA Antiphonref03Packet.enc) x0.fOf)]⟩ (AWp.reg Try.tyOk hΓ (keep := []) (dead := [0]) (by kernel_rfl) rfl (by simp)) ?_
    refine AWp.then ⟨[⟨4, none, .lit (.int .i64 r1)⟩], [.blk ([.ptr 1 0, .ptr 3 0] ++ x0.fSeq.enc ++ [.lit (.bool x0.fClock.fBegun), .lit (.int .i64 (maxI x0.fClock.fLast r1)), .mp 4, .lit (.int .i64 x0.fBad), .lit (.int .i64 x0.fKeys)]), .blk (x0.fBuffer.fConfig.enc ++ [.lit (.bool x0.fBuffer.fBegun), .lit (.int .i64 x0.fBuffer.fNext), .mp 2, .lit (.int .i64 x0.fBuffer.fLost)]), .mapo (encM (kI .i64) (vA Antiphonref09Thing.enc) x0.fBuffer.fOf), .blk x0.fMaker.enc, .mapo (encM (kI .i64) (vA Antiphonref03Packet.enc) x0.fOf)]⟩ (AWp.reg Try.tyOk hΓ (keep := [4]) (dead := [5]) (by kernel_rfl) rfl (by simp)) ?_
    refine AWp.ret ?_
    obtain rfl := some_inj hr
    refine fin_ret ?_
    simp

@[simp] noncomputable def gExtendClockPutInIngressSource7.S : Sp
  | [.ptr i0 7, .lit (.int .u32 x1)], M => match M[i0]? with
    | some (.blk c0) => (match nthE c0 0 with
    | some (.ptr i1 0) => (match M[i1]? with
    | some (.blk c1) => (match nthE c1 4 with
    | some (.mp i2) => (match M[i2]? with
    | some (.mapo c2) => (match nthE c0 1 with
    | some (.ptr i3 0) => (match M[i3]? with
    | some (.blk c3) => (match nthE c0 9 with
    | some (.mp i4) => (match M[i4]? with
    | some (.mapo c4) => (fun (y0 : IngressSource) => (fun (r : Int × IngressSource) => some { av := .lit (.int .i64 (r.1)), M := some (((((M.set i0 (.blk [.ptr i1 0, .ptr i3 0, .lit (.bool (r.2.fSeq.fBegun)), .lit (.int .i64 (r.2.fSeq.fMost)), .lit (.int .u16 (r.2.fSeq.fOdd)), .lit (.int .i64 (r.2.fSeq.fRun)), .lit (.int .i64 (r.2.fSeq.fJumps)), .lit (.bool (r.2.fClock.fBegun)), .lit (.int .i64 (r.2.fClock.fLast)), .mp i4, .lit (.int .i64 (r.2.fBad)), .lit (.int .i64 (r.2.fKeys))])).set i1 (.blk [.lit (.int .i64 (r.2.fBuffer.fConfig.fMost)), .lit (.int .i64 (r.2.fBuffer.fConfig.fWait)), .lit (.bool (r.2.fBuffer.fBegun)), .lit (.int .i64 (r.2.fBuffer.fNext)), .mp i2, .lit (.int .i64 (r.2.fBuffer.fLost))])).set i2 (.mapo (encM (kI .i64) (vA Antiphonref09Thing.enc) (r.2.fBuffer.fOf)))).set i3 (.blk [.lit (.bool (r.2.fMaker.fConfig.fVideo)), .lit (.int .i64 (r.2.fMaker.fConfig.fBytes)), .lit (.int .i64 (r.2.fMaker.fConfig.fUnits)), .lit (.int .i64 (r.2.fMaker.fConfig.fWait)), .sl ((r.2.fMaker.fOpen.fUnits).map Antiphonref10Unit.enc) .no, .lit (.int .i64 (r.2.fMaker.fWhole)), .lit (.int .i64 (r.2.fMaker.fLost))])).set i4 (.mapo (encM (kI .i64) (vA Antiphonref03Packet.enc) (r.2.fOf)))), obl := c0 = IngressSource.enc y0 i1 i3 i4 ∧ c1 = ReorderBuffer.enc (y0.fBuffer) i2 ∧ c2 = encM (kI .i64) (vA Antiphonref09Thing.enc) (y0.fBuffer.fOf) ∧ c3 = FrameMaker.enc (y0.fMaker) ∧ c4 = encM (kI .i64) (vA Antiphonref03Packet.enc) (y0.fOf) ∧ (gExtendClockPutInIngressSource7 y0 x1).isSome = true ∧ i0 ≠ i1 ∧ i0 ≠ i2 ∧ i0 ≠ i3 ∧ i0 ≠ i4 ∧ i1 ≠ i2 ∧ i1 ≠ i3 ∧ i1 ≠ i4 ∧ i2 ≠ i3 ∧ i2 ≠ i4 ∧ i3 ≠ i4 }) ((gExtendClockPutInIngressSource7 y0 x1).getD dflt)) (IngressSource.dec c0 (ReorderBuffer.dec c1 (decM dkI (dvA Antiphonref09Thing.dec) c2)) (FrameMaker.dec c3) (decM dkI (dvA Antiphonref03Packet.dec) c4))
    | _ => none)
    | _ => none)
    | _ => none)
    | _ => none)
    | _ => none)
    | _ => none)
    | _ => none)
    | _ => none)
    | _ => none
  | _, _ => none

set_option maxHeartbeats 1000000 in
theorem gExtendClockPutInIngressSource7.ok : SpecOk Try.prog 55 gExtendClockPutInIngressSource7.S := by
  intro l M out h
  unfold gExtendClockPutInIngressSource7.S at h
  split at h
  · rename_i i0 x1
    split at h
    case h_2 => cases h
    rename_i c0 hM0
    split at h
    case h_2 => cases h
    rename_i i1 he1
    split at h
    case h_2 => cases h
    rename_i c1 hM1
    split at h
    case h_2 => cases h
    rename_i i2 he2
    split at h
    case h_2 => cases h
    rename_i c2 hM2
    split at h
    case h_2 => cases h
    rename_i i3 he3
    split at h
    case h_2 => cases h
    rename_i c3 hM3
    split at h
    case h_2 => cases h
    rename_i i4 he4
    split at h
    case h_2 => cases h
    rename_i c4 hM4
    try dsimp only at h
    cases h
    refine callOk_of fun ho => ?_
    obtain ⟨oc0, oc1, oc2, oc3, oc4, hs, hne0, hne1, hne2, hne3, hne4, hne5, hne6, hne7, hne8, hne9⟩ := ho
    generalize (IngressSource.dec c0 (ReorderBuffer.dec c1 (decM dkI (dvA Antiphonref09Thing.dec) c2)) (FrameMaker.dec c3) (decM dkI (dvA Antiphonref03Packet.dec) c4)) = y0 at *
    subst oc0
    subst oc1
    subst oc2
    subst oc3
    subst oc4
    obtain ⟨r, hr⟩ := Option.isSome_iff_exists.1 hs
    simp only [hr, Option.getD_some]
    have q := call_frame (M := M) [i0, i1, i2, i3, i4] (gExtendClockPutInIngressSource7.can y0 x1 r hr) (by simp [hne0, hne1, hne2, hne3, hne4, hne5, hne6, hne7, hne8, hne9]) rfl (by intro k i hk; (cases k with | zero => (simp at hk; subst hk; simp [hM0, into]) | succ k => ((cases k with | zero => (simp at hk; subst hk; simp [hM1, into]) | succ k => ((cases k with | zero => (simp at hk; subst hk; simp [hM2]) | succ k => ((cases k with | zero => (simp at hk; subst hk; simp [hM3]) | succ k => ((cases k with | zero => (simp at hk; subst hk; simp [hM4]) | succ k => (simp at hk)))))))))))
    exact callOk_conv q trivial (by simp [into]) (by simp [frameOut, gExtendClockPutInIngressSource7.out, into]) (by simp [frameOut, gExtendClockPutInIngressSource7.out, into])
  · cases h
end Go.Proofs

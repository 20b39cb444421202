/- That these functions compute what their plain functions do. No condition. -/
import Derived.Test.YtnoeflijefijcaaQuD
import Derived.Test.YtnoeflijefijcaaTy
namespace Go.Proofs
open Go.Ab
@[simp] def gQueueNew.out (_x0 : Int) (_x1 : Int) (r : Option QueueQueue × Int) : Out := { av := .tup [(optC r.1 (.lit (.pointer none)) fun _ => .ptr 0 0), .lit (.int .i64 r.2)], M := some (optC r.1 [] fun m0 => [.blk [.lit (.int .i64 m0.fFrames), .lit (.int .i64 m0.fMost), .sl (m0.fL.map Antiphonref18Item.enc) .no, .lit (.int .i64 m0.fSize), .lit (.bool m0.fBroken)]]) }
set_option maxHeartbeats 4000000 in
set_option maxRecDepth 100000 in
theorem gQueueNew.can (x0 : Int) (x1 : Int) (r : Option QueueQueue × Int) (hr : gQueueNew x0 x1 = some r) : CallOk Try.prog 26 [.lit (.int .i64 x0), .lit (.int .i64 x1)] [] (gQueueNew.out x0 x1 r) := by
  unfold gQueueNew at hr
  have hΓ := gamL_nil (P := Try.prog)
  refine call_of_awp Try.tyOk Try.func26 rfl (by kernel_rfl) rfl rfl (by simp) ?_
  intro _ _ _
  refine AWp.then ⟨[⟨0, none, .lit (.int .i64 x0)⟩, ⟨1, none, .lit (.int .i64 x1)⟩], []⟩ (AWp.reg Try.tyOk hΓ (keep := []) (dead := []) (by kernel_rfl) rfl (by simp)) ?_
  refine AWp.seq ?_
  refine AWp.then ⟨[⟨19, none, .lit (.bool (pickB (pickB (pickB (ltI x0 1) true (ltI 1024 x0)) true (ltI x1 1)) true (ltI 16777216 x1)))⟩, ⟨0, none, .lit (.int .i64 x0)⟩, ⟨1, none, .lit (.int .i64 x1)⟩], []⟩ (AWp.reg Try.tyOk hΓ (keep := [19]) (dead := []) (by kernel_rfl) rfl (by simp)) ?_
  refine AWp.cond (b := (pickB (pickB (pickB (ltI x0 1) true (ltI 1024 x0)) true (ltI x1 1)) true (ltI 16777216 x1))) (by simp) (fun h2 => ?_) (fun h2 => ?_)
  · have hr := cond_t h2 hr
    refine AWp.then ⟨[⟨4, none, .lit (.pointer none)⟩, ⟨5, none, .lit (.int .i64 5)⟩], []⟩ (AWp.reg Try.tyOk hΓ (keep := [4, 5]) (dead := [19, 0, 1]) (by kernel_rfl) rfl (by simp [h2])) ?_
    refine AWp.ret ?_
    obtain rfl := some_inj hr
    refine fin_ret ?_
    simp
  · have hr := cond_f h2 hr
    refine AWp.skip ?_
    refine AWp.then ⟨[⟨4, none, .ptr 0 0⟩, ⟨5, none, .lit (.int .i64 0)⟩], [.blk [.lit (.int .i64 x0), .lit (.int .i64 x1), .sl [] .no, .lit (.int .i64 0), .lit (.bool true)]]⟩ (AWp.reg Try.tyOk hΓ (keep := [4, 5]) (dead := [19, 0, 1]) (by kernel_rfl) rfl (by simp [h2])) ?_
    refine AWp.ret ?_
    obtain rfl := some_inj hr
    refine fin_ret ?_
    simp

@[simp] noncomputable def gQueueNew.S : Sp
  | [.lit (.int .i64 x0), .lit (.int .i64 x1)], M => some { av := .tup [(optC (((gQueueNew x0 x1).getD dflt).1) (.lit (.pointer none)) fun _ => .ptr M.length 0), .lit (.int .i64 (((gQueueNew x0 x1).getD dflt).2))], M := some (optC (((gQueueNew x0 x1).getD dflt).1) M fun m0 => M ++ [.blk [.lit (.int .i64 m0.fFrames), .lit (.int .i64 m0.fMost), .sl (m0.fL.map Antiphonref18Item.enc) .no, .lit (.int .i64 m0.fSize), .lit (.bool m0.fBroken)]]), obl := (gQueueNew x0 x1).isSome = true }
  | _, _ => none

set_option maxHeartbeats 1000000 in
theorem gQueueNew.ok : SpecOk Try.prog 26 gQueueNew.S := by
  intro l M out h
  unfold gQueueNew.S at h
  split at h
  · rename_i x0 x1
    cases h
    refine callOk_of fun ho => ?_
    have hs := ho
    obtain ⟨r, hr⟩ := Option.isSome_iff_exists.1 hs
    simp only [hr, Option.getD_some]
    have q := call_frame (M := M) [] (gQueueNew.can x0 x1 r hr) (by simp) rfl (by intro k i hk; simp at hk)
    cases hc : r.1 with
    | none => exact callOk_conv q trivial (by simp) (by simp [hc, frameOut, gQueueNew.out]) (by simp [hc, frameOut, gQueueNew.out])
    | some m0 => exact callOk_conv q trivial (by simp) (by simp [hc, frameOut, gQueueNew.out, into]) (by simp [hc, frameOut, gQueueNew.out, into])
  · cases h

@[simp] def gQueueQueueLen.out (_x0 : QueueQueue) (r : Int) : Out := { av := .lit (.int .i64 r), M := none }
set_option maxHeartbeats 4000000 in
set_option maxRecDepth 100000 in
theorem gQueueQueueLen.can (x0 : QueueQueue) (r : Int) (hr : gQueueQueueLen x0 = some r) : CallOk Try.prog 33 [.ptr 0 0] [.blk x0.enc] (gQueueQueueLen.out x0 r) := by
  unfold gQueueQueueLen at hr
  have hΓ := gamL_nil (P := Try.prog)
  refine call_of_awp Try.tyOk Try.func33 rfl (by kernel_rfl) rfl rfl (by simp) ?_
  intro _ _ _
  refine AWp.then ⟨[⟨0, none, .ptr 0 0⟩], [.blk x0.enc]⟩ (AWp.reg Try.tyOk hΓ (keep := []) (dead := []) (by kernel_rfl) rfl (by simp)) ?_
  refine AWp.then ⟨[⟨2, none, .lit (.int .i64 (lenL x0.fL))⟩], [.blk x0.enc]⟩ (AWp.reg Try.tyOk hΓ (keep := [2]) (dead := [0]) (by kernel_rfl) rfl (by simp)) ?_
  refine AWp.ret ?_
  obtain rfl := some_inj hr
  refine fin_ret ?_
  simp

@[simp] noncomputable def gQueueQueueLen.S : Sp
  | [.ptr i0 0], M => match M[i0]? with
    | some (.blk c0) => some { av := .lit (.int .i64 ((gQueueQueueLen (QueueQueue.dec c0)).getD dflt)), M := none, obl := c0 = QueueQueue.enc (QueueQueue.dec c0) ∧ (gQueueQueueLen (QueueQueue.dec c0)).isSome = true }
    | _ => none
  | _, _ => none

set_option maxHeartbeats 1000000 in
theorem gQueueQueueLen.ok : SpecOk Try.prog 33 gQueueQueueLen.S := by
  intro l M out h
  unfold gQueueQueueLen.S at h
  split at h
  · rename_i i0
    split at h
    case h_2 => cases h
    rename_i c0 hM0
    cases h
    refine callOk_of fun ho => ?_
    obtain ⟨oc0, hs⟩ := ho
    generalize (QueueQueue.dec c0) = y0 at *
    subst oc0
    obtain ⟨r, hr⟩ := Option.isSome_iff_exists.1 hs
    simp only [hr, Option.getD_some]
    have q := call_frame (M := M) [i0] (gQueueQueueLen.can y0 r hr) (by simp) rfl (by intro k i hk; (cases k with | zero => (simp at hk; subst hk; simp [hM0]) | succ k => (simp at hk)))
    exact callOk_conv q trivial (by simp [into]) (by simp [frameOut, gQueueQueueLen.out]) (by simp only [frameOut, gQueueQueueLen.out, Option.getD_some, Option.getD_none]; simp [hM0, set_same])
  · cases h

@[simp] def gQueueQueueBroken.out (_x0 : QueueQueue) (r : Bool) : Out := { av := .lit (.bool r), M := none }
set_option maxHeartbeats 4000000 in
set_option maxRecDepth 100000 in
theorem gQueueQueueBroken.can (x0 : QueueQueue) (r : Bool) (hr : gQueueQueueBroken x0 = some r) : CallOk Try.prog 27 [.ptr 0 0] [.blk x0.enc] (gQueueQueueBroken.out x0 r) := by
  unfold gQueueQueueBroken at hr
  have hΓ := gamL_nil (P := Try.prog)
  refine call_of_awp Try.tyOk Try.func27 rfl (by kernel_rfl) rfl rfl (by simp) ?_
  intro _ _ _
  refine AWp.then ⟨[⟨0, none, .ptr 0 0⟩], [.blk x0.enc]⟩ (AWp.reg Try.tyOk hΓ (keep := []) (dead := []) (by kernel_rfl) rfl (by simp)) ?_
  refine AWp.then ⟨[⟨2, none, .lit (.bool x0.fBroken)⟩], [.blk x0.enc]⟩ (AWp.reg Try.tyOk hΓ (keep := [2]) (dead := [0]) (by kernel_rfl) rfl (by simp)) ?_
  refine AWp.ret ?_
  obtain rfl := some_inj hr
  refine fin_ret ?_
  simp

@[simp] noncomputable def gQueueQueueBroken.S : Sp
  | [.ptr i0 0], M => match M[i0]? with
    | some (.blk c0) => some { av := .lit (.bool ((gQueueQueueBroken (QueueQueue.dec c0)).getD dflt)), M := none, obl := c0 = QueueQueue.enc (QueueQueue.dec c0) ∧ (gQueueQueueBroken (QueueQueue.dec c0)).isSome = true }
    | _ => none
  | _, _ => none

set_option maxHeartbeats 1000000 in
theorem gQueueQueueBroken.ok : SpecOk Try.prog 27 gQueueQueueBroken.S := by
  intro l M out h
  unfold gQueueQueueBroken.S at h
  split at h
  · rename_i i0
    split at h
    case h_2 => cases h
    rename_i c0 hM0
    cases h
    refine callOk_of fun ho => ?_
    obtain ⟨oc0, hs⟩ := ho
    generalize (QueueQueue.dec c0) = y0 at *
    subst oc0
    obtain ⟨r, hr⟩ := Option.isSome_iff_exists.1 hs
    simp only [hr, Option.getD_some]
    have q := call_frame (M := M) [i0] (gQueueQueueBroken.can y0 r hr) (by simp) rfl (by intro k i hk; (cases k with | zero => (simp at hk; subst hk; simp [hM0]) | succ k => (simp at hk)))
    exact callOk_conv q trivial (by simp [into]) (by simp [frameOut, gQueueQueueBroken.out]) (by simp only [frameOut, gQueueQueueBroken.out, Option.getD_some, Option.getD_none]; simp [hM0, set_same])
  · cases h

@[simp] def gQueueQueueFirst.out (_x0 : QueueQueue) (r : Antiphonref18Item × Bool) : Out := { av := .tup [.agg [.lit (.int .i64 r.1.fN), .lit (.int .i64 r.1.fSize), .lit (.int .i64 r.1.fTick), .lit (.bool r.1.fKey)], .lit (.bool r.2)], M := none }
set_option maxHeartbeats 4000000 in
set_option maxRecDepth 100000 in
theorem gQueueQueueFirst.can (x0 : QueueQueue) (r : Antiphonref18Item × Bool) (hr : gQueueQueueFirst x0 = some r) : CallOk Try.prog 42 [.ptr 0 0] [.blk x0.enc] (gQueueQueueFirst.out x0 r) := by
  unfold gQueueQueueFirst at hr
  have hΓ := gamL_nil (P := Try.prog)
  refine call_of_awp Try.tyOk Try.func42 rfl (by kernel_rfl) rfl rfl (by simp) ?_
  intro _ _ _
  refine AWp.then ⟨[⟨2, none, .ptr 1 0⟩, ⟨0, none, .ptr 0 0⟩], [.blk x0.enc, .blk [.lit (.int .i64 0), .lit (.int .i64 0), .lit (.int .i64 0), .lit (.bool false)]]⟩ (AWp.reg Try.tyOk hΓ (keep := [2]) (dead := []) (by kernel_rfl) rfl (by simp)) ?_
  refine AWp.seq ?_
  refine AWp.then ⟨[⟨9, none, .lit (.bool (eqI (lenL x0.fL) 0))⟩, ⟨2, none, .ptr 1 0⟩, ⟨0, none, .ptr 0 0⟩], [.blk x0.enc, .blk [.lit (.int .i64 0), .lit (.int .i64 0), .lit (.int .i64 0), .lit (.bool false)]]⟩ (AWp.reg Try.tyOk hΓ (keep := [9]) (dead := []) (by kernel_rfl) rfl (by simp)) ?_
  refine AWp.cond (b := (eqI (lenL x0.fL) 0)) (by simp) (fun h3 => ?_) (fun h3 => ?_)
  · have hr := cond_t h3 hr
    refine AWp.then ⟨[⟨3, none, .lit (.bool false)⟩, ⟨2, none, .ptr 1 0⟩], [.blk x0.enc, .blk [.lit (.int .i64 0), .lit (.int .i64 0), .lit (.int .i64 0), .lit (.bool false)]]⟩ (AWp.reg Try.tyOk hΓ (keep := [3]) (dead := [9, 0]) (by kernel_rfl) rfl (by simp [h3])) ?_
    refine AWp.ret ?_
    obtain rfl := some_inj hr
    refine fin_ret ?_
    simp
  · have hr := cond_f h3 hr
    refine AWp.skip ?_
    obtain ⟨h4, hr⟩ := need_some hr
    refine AWp.then ⟨[⟨3, none, .lit (.bool true)⟩, ⟨2, none, .ptr 1 0⟩], [.blk x0.enc, .blk (nthI x0.fL 0).enc]⟩ (AWp.reg Try.tyOk hΓ (keep := [3]) (dead := [9, 0]) (by kernel_rfl) rfl (by simp [h3, h4])) ?_
    refine AWp.ret ?_
    obtain rfl := some_inj hr
    refine fin_ret ?_
    simp

@[simp] noncomputable def gQueueQueueFirst.S : Sp
  | [.ptr i0 0], M => match M[i0]? with
    | some (.blk c0) => (fun (r : Antiphonref18Item × Bool) => some { av := .tup [.agg [.lit (.int .i64 (r.1.fN)), .lit (.int .i64 (r.1.fSize)), .lit (.int .i64 (r.1.fTick)), .lit (.bool (r.1.fKey))], .lit (.bool (r.2))], M := none, obl := c0 = QueueQueue.enc (QueueQueue.dec c0) ∧ (gQueueQueueFirst (QueueQueue.dec c0)).isSome = true }) ((gQueueQueueFirst (QueueQueue.dec c0)).getD dflt)
    | _ => none
  | _, _ => none

set_option maxHeartbeats 1000000 in
theorem gQueueQueueFirst.ok : SpecOk Try.prog 42 gQueueQueueFirst.S := by
  intro l M out h
  unfold gQueueQueueFirst.S at h
  split at h
  · rename_i i0
    split at h
    case h_2 => cases h
    rename_i c0 hM0
    try dsimp only at h
    cases h
    refine callOk_of fun ho => ?_
    obtain ⟨oc0, hs⟩ := ho
    generalize (QueueQueue.dec c0) = y0 at *
    subst oc0
    obtain ⟨r, hr⟩ := Option.isSome_iff_exists.1 hs
    simp only [hr, Option.getD_some]
    have q := call_frame (M := M) [i0] (gQueueQueueFirst.can y0 r hr) (by simp) rfl (by intro k i hk; (cases k with | zero => (simp at hk; subst hk; simp [hM0]) | succ k => (simp at hk)))
    exact callOk_conv q trivial (by simp [into]) (by simp [frameOut, gQueueQueueFirst.out]) (by simp only [frameOut, gQueueQueueFirst.out, Option.getD_some, Option.getD_none]; simp [hM0, set_same])
  · cases h

@[simp] def gQueueQueueShift.out (_x0 : QueueQueue) (r : Antiphonref18Item × QueueQueue) : Out := { av := .agg [.lit (.int .i64 r.1.fN), .lit (.int .i64 r.1.fSize), .lit (.int .i64 r.1.fTick), .lit (.bool r.1.fKey)], M := some [.blk [.lit (.int .i64 r.2.fFrames), .lit (.int .i64 r.2.fMost), .sl (r.2.fL.map Antiphonref18Item.enc) .no, .lit (.int .i64 r.2.fSize), .lit (.bool r.2.fBroken)]] }
set_option maxHeartbeats 4000000 in
set_option maxRecDepth 100000 in
theorem gQueueQueueShift.can (x0 : QueueQueue) (r : Antiphonref18Item × QueueQueue) (hr : gQueueQueueShift x0 = some r) : CallOk Try.prog 64 [.ptr 0 0] [.blk x0.enc] (gQueueQueueShift.out x0 r) := by
  unfold gQueueQueueShift at hr
  have hΓ := gamL_nil (P := Try.prog)
  refine call_of_awp Try.tyOk Try.func64 rfl (by kernel_rfl) rfl rfl (by simp) ?_
  intro _ _ _
  refine AWp.then ⟨[⟨2, none, .ptr 1 0⟩, ⟨0, none, .ptr 0 0⟩], [.blk x0.enc, .blk [.lit (.int .i64 0), .lit (.int .i64 0), .lit (.int .i64 0), .lit (.bool false)]]⟩ (AWp.reg Try.tyOk hΓ (keep := [2]) (dead := []) (by kernel_rfl) rfl (by simp)) ?_
  obtain ⟨h3, hr⟩ := need_some hr
  refine AWp.then ⟨[⟨3, none, .ptr 2 0⟩, ⟨2, none, .ptr 1 0⟩, ⟨0, none, .ptr 0 0⟩], [.blk x0.enc, .blk [.lit (.int .i64 0), .lit (.int .i64 0), .lit (.int .i64 0), .lit (.bool false)], .blk (nthI x0.fL 0).enc]⟩ (AWp.reg Try.tyOk hΓ (keep := [3]) (dead := []) (by kernel_rfl) rfl (by simp [h3])) ?_
  obtain ⟨h4, hr⟩ := need_some hr
  refine AWp.then ⟨[⟨3, none, .ptr 2 0⟩, ⟨2, none, .ptr 1 0⟩, ⟨0, none, .ptr 0 0⟩], [.blk [.lit (.int .i64 x0.fFrames), .lit (.int .i64 x0.fMost), .sl ((cutL x0.fL 1 (lenL x0.fL)).map Antiphonref18Item.enc) .no, .lit (.int .i64 x0.fSize), .lit (.bool x0.fBroken)], .blk [.lit (.int .i64 0), .lit (.int .i64 0), .lit (.int .i64 0), .lit (.bool false)], .blk (nthI x0.fL 0).enc]⟩ (AWp.reg Try.tyOk hΓ (keep := []) (dead := []) (by kernel_rfl) rfl (by simp [h4])) ?_
  refine AWp.then ⟨[⟨3, none, .ptr 2 0⟩, ⟨2, none, .ptr 1 0⟩], [.blk [.lit (.int .i64 x0.fFrames), .lit (.int .i64 x0.fMost), .sl ((cutL x0.fL 1 (lenL x0.fL)).map Antiphonref18Item.enc) .no, .lit (.int .i64 (subI .i64 x0.fSize ((nthI x0.fL 0).fSize))), .lit (.bool x0.fBroken)], .blk [.lit (.int .i64 0), .lit (.int .i64 0), .lit (.int .i64 0), .lit (.bool false)], .blk (nthI x0.fL 0).enc]⟩ (AWp.regD Try.mixed Try.tyOk hΓ (keep := []) (dead := [0]) [] [(false, []), (false, []), (false, []), (false, []), (false, []), (false, []), (false, []), (false, []), (false, []), (true, [])] (by kernel_rfl) rfl (by simp)) ?_
  refine AWp.then ⟨[⟨2, none, .ptr 1 0⟩], [.blk [.lit (.int .i64 x0.fFrames), .lit (.int .i64 x0.fMost), .sl ((cutL x0.fL 1 (lenL x0.fL)).map Antiphonref18Item.enc) .no, .lit (.int .i64 (subI .i64 x0.fSize ((nthI x0.fL 0).fSize))), .lit (.bool x0.fBroken)], .blk (nthI x0.fL 0).enc, .blk (nthI x0.fL 0).enc]⟩ (AWp.reg Try.tyOk hΓ (keep := []) (dead := [3]) (by kernel_rfl) rfl (by simp)) ?_
  refine AWp.ret ?_
  obtain rfl := some_inj hr
  refine fin_ret ?_
  simp

@[simp] noncomputable def gQueueQueueShift.S : Sp
  | [.ptr i0 0], M => match M[i0]? with
    | some (.blk c0) => (fun (r : Antiphonref18Item × QueueQueue) => some { av := .agg [.lit (.int .i64 (r.1.fN)), .lit (.int .i64 (r.1.fSize)), .lit (.int .i64 (r.1.fTick)), .lit (.bool (r.1.fKey))], M := some (M.set i0 (.blk [.lit (.int .i64 (r.2.fFrames)), .lit (.int .i64 (r.2.fMost)), .sl ((r.2.fL).map Antiphonref18Item.enc) .no, .lit (.int .i64 (r.2.fSize)), .lit (.bool (r.2.fBroken))])), obl := c0 = QueueQueue.enc (QueueQueue.dec c0) ∧ (gQueueQueueShift (QueueQueue.dec c0)).isSome = true }) ((gQueueQueueShift (QueueQueue.dec c0)).getD dflt)
    | _ => none
  | _, _ => none

set_option maxHeartbeats 1000000 in
theorem gQueueQueueShift.ok : SpecOk Try.prog 64 gQueueQueueShift.S := by
  intro l M out h
  unfold gQueueQueueShift.S at h
  split at h
  · rename_i i0
    split at h
    case h_2 => cases h
    rename_i c0 hM0
    try dsimp only at h
    cases h
    refine callOk_of fun ho => ?_
    obtain ⟨oc0, hs⟩ := ho
    generalize (QueueQueue.dec c0) = y0 at *
    subst oc0
    obtain ⟨r, hr⟩ := Option.isSome_iff_exists.1 hs
    simp only [hr, Option.getD_some]
    have q := call_frame (M := M) [i0] (gQueueQueueShift.can y0 r hr) (by simp) rfl (by intro k i hk; (cases k with | zero => (simp at hk; subst hk; simp [hM0]) | succ k => (simp at hk)))
    exact callOk_conv q trivial (by simp [into]) (by simp [frameOut, gQueueQueueShift.out]) (by simp [frameOut, gQueueQueueShift.out])
  · cases h

@[simp] def gQueueQueuePop.out (_x0 : QueueQueue) (r : Antiphonref18Item × Bool × QueueQueue) : Out := { av := .tup [.agg [.lit (.int .i64 r.1.fN), .lit (.int .i64 r.1.fSize), .lit (.int .i64 r.1.fTick), .lit (.bool r.1.fKey)], .lit (.bool r.2.1)], M := some [.blk [.lit (.int .i64 r.2.2.fFrames), .lit (.int .i64 r.2.2.fMost), .sl (r.2.2.fL.map Antiphonref18Item.enc) .no, .lit (.int .i64 r.2.2.fSize), .lit (.bool r.2.2.fBroken)]] }
set_option maxHeartbeats 4000000 in
set_option maxRecDepth 100000 in
theorem gQueueQueuePop.can (x0 : QueueQueue) (r : Antiphonref18Item × Bool × QueueQueue) (hr : gQueueQueuePop x0 = some r) : CallOk Try.prog 43 [.ptr 0 0] [.blk x0.enc] (gQueueQueuePop.out x0 r) := by
  unfold gQueueQueuePop at hr
  have hΓ := (gamL_cons gQueueQueueShift.ok (gamL_nil) : GamOk Try.prog _)
  refine call_of_awp Try.tyOk Try.func43 rfl (by kernel_rfl) rfl rfl (by simp) ?_
  intro _ _ _
  refine AWp.then ⟨[⟨2, none, .ptr 1 0⟩, ⟨0, none, .ptr 0 0⟩], [.blk x0.enc, .blk [.lit (.int .i64 0), .lit (.int .i64 0), .lit (.int .i64 0), .lit (.bool false)]]⟩ (AWp.reg Try.tyOk hΓ (keep := [2]) (dead := []) (by kernel_rfl) rfl (by simp)) ?_
  refine AWp.seq ?_
  refine AWp.then ⟨[⟨9, none, .lit (.bool (eqI (lenL x0.fL) 0))⟩, ⟨2, none, .ptr 1 0⟩, ⟨0, none, .ptr 0 0⟩], [.blk x0.enc, .blk [.lit (.int .i64 0), .lit (.int .i64 0), .lit (.int .i64 0), .lit (.bool false)]]⟩ (AWp.reg Try.tyOk hΓ (keep := [9]) (dead := []) (by kernel_rfl) rfl (by simp)) ?_
  refine AWp.cond (b := (eqI (lenL x0.fL) 0)) (by simp) (fun h3 => ?_) (fun h3 => ?_)
  · have hr := cond_t h3 hr
    refine AWp.then ⟨[⟨3, none, .lit (.bool false)⟩, ⟨2, none, .ptr 1 0⟩], [.blk x0.enc, .blk [.lit (.int .i64 0), .lit (.int .i64 0), .lit (.int .i64 0), .lit (.bool false)]]⟩ (AWp.reg Try.tyOk hΓ (keep := [3]) (dead := [9, 0]) (by kernel_rfl) rfl (by simp [h3])) ?_
    refine AWp.ret ?_
    obtain rfl := some_inj hr
    refine fin_ret ?_
    simp
  · have hr := cond_f h3 hr
    refine AWp.skip ?_
    obtain ⟨r1, h4, hr⟩ := bind_some' hr
    refine AWp.then ⟨[⟨3, none, .lit (.bool true)⟩, ⟨2, none, .ptr 1 0⟩], [.blk r1.2.enc, .blk r1.1.enc]⟩ (AWp.reg Try.tyOk hΓ (keep := [3]) (dead := [9, 0]) (by kernel_rfl) rfl (by simp [h3, h4])) ?_
    refine AWp.ret ?_
    obtain rfl := some_inj hr
    refine fin_ret ?_
    simp

@[simp] noncomputable def gQueueQueuePop.S : Sp
  | [.ptr i0 0], M => match M[i0]? with
    | some (.blk c0) => (fun (r : Antiphonref18Item × Bool × QueueQueue) => some { av := .tup [.agg [.lit (.int .i64 (r.1.fN)), .lit (.int .i64 (r.1.fSize)), .lit (.int .i64 (r.1.fTick)), .lit (.bool (r.1.fKey))], .lit (.bool (r.2.1))], M := some (M.set i0 (.blk [.lit (.int .i64 (r.2.2.fFrames)), .lit (.int .i64 (r.2.2.fMost)), .sl ((r.2.2.fL).map Antiphonref18Item.enc) .no, .lit (.int .i64 (r.2.2.fSize)), .lit (.bool (r.2.2.fBroken))])), obl := c0 = QueueQueue.enc (QueueQueue.dec c0) ∧ (gQueueQueuePop (QueueQueue.dec c0)).isSome = true }) ((gQueueQueuePop (QueueQueue.dec c0)).getD dflt)
    | _ => none
  | _, _ => none

set_option maxHeartbeats 1000000 in
theorem gQueueQueuePop.ok : SpecOk Try.prog 43 gQueueQueuePop.S := by
  intro l M out h
  unfold gQueueQueuePop.S at h
  split at h
  · rename_i i0
    split at h
    case h_2 => cases h
    rename_i c0 hM0
    try dsimp only at h
    cases h
    refine callOk_of fun ho => ?_
    obtain ⟨oc0, hs⟩ := ho
    generalize (QueueQueue.dec c0) = y0 at *
    subst oc0
    obtain ⟨r, hr⟩ := Option.isSome_iff_exists.1 hs
    simp only [hr, Option.getD_some]
    have q := call_frame (M := M) [i0] (gQueueQueuePop.can y0 r hr) (by simp) rfl (by intro k i hk; (cases k with | zero => (simp at hk; subst hk; simp [hM0]) | succ k => (simp at hk)))
    exact callOk_conv q trivial (by simp [into]) (by simp [frameOut, gQueueQueuePop.out]) (by simp [frameOut, gQueueQueuePop.out])
  · cases h

@[simp] def gQueueQueueDrop.out (_x0 : QueueQueue) (r : List Antiphonref18Item × QueueQueue) : Out := { av := .sl (r.1.map Antiphonref18Item.enc) .no, M := some [.blk [.lit (.int .i64 r.2.fFrames), .lit (.int .i64 r.2.fMost), .sl (r.2.fL.map Antiphonref18Item.enc) .no, .lit (.int .i64 r.2.fSize), .lit (.bool r.2.fBroken)]] }
def gQueueQueueDrop.fin (x0 : QueueQueue) (r : List Antiphonref18Item × QueueQueue) (σ : St) : Prop := finK (gQueueQueueDrop.out x0 r) [.blk x0.enc] σ.M (resA Try.ty σ.A σ.M Try.f60.results.toList)
set_option maxHeartbeats 4000000 in
set_option maxRecDepth 100000 in
theorem gQueueQueueDrop.can (x0 : QueueQueue) (r : List Antiphonref18Item × QueueQueue) (hr : gQueueQueueDrop x0 = some r) : CallOk Try.prog 60 [.ptr 0 0] [.blk x0.enc] (gQueueQueueDrop.out x0 r) := by
  unfold gQueueQueueDrop at hr
  have hΓ := (gamL_cons gQueueQueueShift.ok (gamL_nil) : GamOk Try.prog _)
  refine call_of_awp Try.tyOk Try.func60 rfl (by kernel_rfl) rfl rfl (by simp) ?_
  intro _ _ _
  refine AWp.then ⟨[⟨0, none, .ptr 0 0⟩], [.blk x0.enc]⟩ (AWp.reg Try.tyOk hΓ (keep := []) (dead := []) (by kernel_rfl) rfl (by simp)) ?_
  obtain ⟨r1, h6, hr⟩ := bind_some' hr
  refine AWp.then ⟨[⟨3, none, .sl ([r1.1].map Antiphonref18Item.enc) .full⟩, ⟨0, none, .ptr 0 0⟩], [.blk r1.2.enc]⟩ (AWp.reg Try.tyOk hΓ (keep := [3]) (dead := []) (by kernel_rfl) rfl (by simp [h6])) ?_
  refine AWp.equip 3 4 (els := ([r1.1].map Antiphonref18Item.enc)) (by simp) (by simp) ?_
  refine AWp.loopB (fun (s1 : List Antiphonref18Item × QueueQueue) (γ1 : Nat) => ⟨[⟨3, none, .sl (s1.1.map Antiphonref18Item.enc) (.own 1 (γ1) 4)⟩, ⟨0, none, .ptr 0 0⟩], [.blk s1.2.enc, .room (γ1)]⟩) (fun (v1 : List Antiphonref18Item × QueueQueue) (γ1a : Nat) => ⟨[⟨3, none, .sl (v1.1.map Antiphonref18Item.enc) (.own 1 (γ1a) 4)⟩, ⟨0, none, .ptr 0 0⟩], [.blk v1.2.enc, .room (γ1a)]⟩) (gQueueQueueDrop.fin x0) hr 0 2 (by simp) (fun s1 f γ1 hr => ?_) (fun v1 γ1a hr => ?_) (fun _ h => h)
  · unfold gQueueQueueDrop.loop1 at hr
    refine AWp.seq ?_
    obtain ⟨h7, hr⟩ := need_some hr
    refine AWp.then ⟨[⟨22, none, .lit (.bool (pickB (ltI 0 (lenL s1.2.fL)) (notB ((nthI s1.2.fL 0).fKey)) false))⟩, ⟨3, none, .sl (s1.1.map Antiphonref18Item.enc) (.own 1 (γ1) 4)⟩, ⟨0, none, .ptr 0 0⟩], [.blk s1.2.enc, .room (γ1)]⟩ (AWp.reg Try.tyOk hΓ (keep := [22]) (dead := []) (by kernel_rfl) rfl (by simp [h7])) ?_
    refine AWp.cond (b := (pickB (ltI 0 (lenL s1.2.fL)) (notB ((nthI s1.2.fL 0).fKey)) false)) (by simp) (fun h8 => ?_) (fun h8 => ?_)
    · have hr := cond_t h8 hr
      refine AWp.skip ?_
      refine AWp.block ?_
      obtain ⟨r2, h9, hr⟩ := bind_some' hr
      obtain ⟨h10, hr⟩ := need_some hr
      refine AWp.last ⟨[⟨3, none, .sl ((appL s1.1 [r2.1]).map Antiphonref18Item.enc) (.own 1 (γ1 + 1) 4)⟩, ⟨0, none, .ptr 0 0⟩], [.blk r2.2.enc, .room (γ1 + 1)]⟩ (AWp.reg Try.tyOk hΓ (keep := [3]) (dead := [22]) (by kernel_rfl) rfl (by simp [h8, h9, h10])) ?_
      obtain rfl := some_inj hr
      exact round_go (γ1 + 1) 2 (by first | (simp; done) | simp [h6, h7, h8, h9, h10])
    · have hr := cond_f h8 hr
      refine AWp.exit ?_
      obtain rfl := some_inj hr
      exact round_out (γ1) 2 (by first | (simp; done) | simp [h6, h7, h8])
  · refine AWp.then ⟨[⟨3, none, .sl (v1.1.map Antiphonref18Item.enc) (.own 1 (γ1a) 4)⟩], [.blk [.lit (.int .i64 v1.2.fFrames), .lit (.int .i64 v1.2.fMost), .sl (v1.2.fL.map Antiphonref18Item.enc) .no, .lit (.int .i64 v1.2.fSize), .lit (.bool (pickB v1.2.fBroken true (eqI (lenL v1.2.fL) 0)))], .room (γ1a)]⟩ (AWp.reg Try.tyOk hΓ (keep := []) (dead := [0]) (by kernel_rfl) rfl (by simp)) ?_
    refine AWp.then ⟨[⟨2, none, .sl (v1.1.map Antiphonref18Item.enc) (.own 1 (γ1a) 4)⟩], [.blk [.lit (.int .i64 v1.2.fFrames), .lit (.int .i64 v1.2.fMost), .sl (v1.2.fL.map Antiphonref18Item.enc) .no, .lit (.int .i64 v1.2.fSize), .lit (.bool (pickB v1.2.fBroken true (eqI (lenL v1.2.fL) 0)))], .room (γ1a)]⟩ (AWp.reg Try.tyOk hΓ (keep := [2]) (dead := [3]) (by kernel_rfl) rfl (by simp)) ?_
    refine AWp.ret ?_
    obtain rfl := some_inj hr
    refine fin_ret ?_
    simp

@[simp] noncomputable def gQueueQueueDrop.S : Sp
  | [.ptr i0 0], M => match M[i0]? with
    | some (.blk c0) => (fun (r : List Antiphonref18Item × QueueQueue) => some { av := .sl ((r.1).map Antiphonref18Item.enc) .no, M := some (M.set i0 (.blk [.lit (.int .i64 (r.2.fFrames)), .lit (.int .i64 (r.2.fMost)), .sl ((r.2.fL).map Antiphonref18Item.enc) .no, .lit (.int .i64 (r.2.fSize)), .lit (.bool (r.2.fBroken))])), obl := c0 = QueueQueue.enc (QueueQueue.dec c0) ∧ (gQueueQueueDrop (QueueQueue.dec c0)).isSome = true }) ((gQueueQueueDrop (QueueQueue.dec c0)).getD dflt)
    | _ => none
  | _, _ => none

set_option maxHeartbeats 1000000 in
theorem gQueueQueueDrop.ok : SpecOk Try.prog 60 gQueueQueueDrop.S := by
  intro l M out h
  unfold gQueueQueueDrop.S at h
  split at h
  · rename_i i0
    split at h
    case h_2 => cases h
    rename_i c0 hM0
    try dsimp only at h
    cases h
    refine callOk_of fun ho => ?_
    obtain ⟨oc0, hs⟩ := ho
    generalize (QueueQueue.dec c0) = y0 at *
    subst oc0
    obtain ⟨r, hr⟩ := Option.isSome_iff_exists.1 hs
    simp only [hr, Option.getD_some]
    have q := call_frame (M := M) [i0] (gQueueQueueDrop.can y0 r hr) (by simp) rfl (by intro k i hk; (cases k with | zero => (simp at hk; subst hk; simp [hM0]) | succ k => (simp at hk)))
    exact callOk_conv q trivial (by simp [into]) (by simp [frameOut, gQueueQueueDrop.out]) (by simp [frameOut, gQueueQueueDrop.out])
  · cases h

@[simp] def gQueueQueuePut.out (_x0 : QueueQueue) (_x1 : Antiphonref18Item) (r : List Antiphonref18Item × Bool × QueueQueue) : Out := { av := .tup [.sl (r.1.map Antiphonref18Item.enc) .no, .lit (.bool r.2.1)], M := some [.blk [.lit (.int .i64 r.2.2.fFrames), .lit (.int .i64 r.2.2.fMost), .sl (r.2.2.fL.map Antiphonref18Item.enc) .no, .lit (.int .i64 r.2.2.fSize), .lit (.bool r.2.2.fBroken)]] }
def gQueueQueuePut.fin (x0 : QueueQueue) (x1 : Antiphonref18Item) (r : List Antiphonref18Item × Bool × QueueQueue) (σ : St) : Prop := finK (gQueueQueuePut.out x0 x1 r) [.blk x0.enc] σ.M (resA Try.ty σ.A σ.M Try.f40.results.toList)
set_option maxHeartbeats 4000000 in
set_option maxRecDepth 100000 in
theorem gQueueQueuePut.can (x0 : QueueQueue) (x1 : Antiphonref18Item) (r : List Antiphonref18Item × Bool × QueueQueue) (hr : gQueueQueuePut x0 x1 = some r) : CallOk Try.prog 40 [.ptr 0 0, .agg [.lit (.int .i64 x1.fN), .lit (.int .i64 x1.fSize), .lit (.int .i64 x1.fTick), .lit (.bool x1.fKey)]] [.blk x0.enc] (gQueueQueuePut.out x0 x1 r) := by
  unfold gQueueQueuePut at hr
  have hΓ := (gamL_cons gQueueQueueDrop.ok (gamL_nil) : GamOk Try.prog _)
  refine call_of_awp Try.tyOk Try.func40 rfl (by kernel_rfl) rfl rfl (by simp) ?_
  intro _ _ _
  refine AWp.then ⟨[⟨3, none, .ptr 1 0⟩, ⟨0, none, .ptr 0 0⟩], [.blk x0.enc, .blk x1.enc]⟩ (AWp.reg Try.tyOk hΓ (keep := [3]) (dead := [1]) (by kernel_rfl) rfl (by simp)) ?_
  refine AWp.seq ?_
  refine AWp.then ⟨[⟨29, none, .lit (.bool (pickB (pickB (ltI x1.fSize 0) true (ltI x0.fMost x1.fSize)) true (pickB x0.fBroken (notB x1.fKey) false)))⟩, ⟨3, none, .ptr 1 0⟩, ⟨0, none, .ptr 0 0⟩], [.blk x0.enc, .blk x1.enc]⟩ (AWp.regD Try.mixed Try.tyOk hΓ (keep := [29]) (dead := []) [] [(false, []), (false, []), (false, []), (false, []), (false, [10]), (false, [10]), (false, [10]), (false, [10]), (false, [10]), (false, [10]), (false, [10]), (false, []), (false, []), (false, [19]), (false, [19]), (false, [19]), (false, [19]), (false, [19]), (false, [24, 19]), (false, [24, 19]), (false, [24, 19]), (false, [19]), (false, [])] (by kernel_rfl) rfl (by simp)) ?_
  refine AWp.cond (b := (pickB (pickB (ltI x1.fSize 0) true (ltI x0.fMost x1.fSize)) true (pickB x0.fBroken (notB x1.fKey) false))) (by simp) (fun h8 => ?_) (fun h8 => ?_)
  · have hr := cond_t h8 hr
    refine AWp.then ⟨[], [.blk [.lit (.int .i64 x0.fFrames), .lit (.int .i64 x0.fMost), .sl (x0.fL.map Antiphonref18Item.enc) .no, .lit (.int .i64 x0.fSize), .lit (.bool true)], .blk x1.enc]⟩ (AWp.reg Try.tyOk hΓ (keep := []) (dead := [29, 3, 0]) (by kernel_rfl) rfl (by simp [h8])) ?_
    refine AWp.then ⟨[⟨4, none, .sl [] .full⟩, ⟨5, none, .lit (.bool false)⟩], [.blk [.lit (.int .i64 x0.fFrames), .lit (.int .i64 x0.fMost), .sl (x0.fL.map Antiphonref18Item.enc) .no, .lit (.int .i64 x0.fSize), .lit (.bool true)], .blk x1.enc]⟩ (AWp.reg Try.tyOk hΓ (keep := [4, 5]) (dead := []) (by kernel_rfl) rfl (by simp)) ?_
    refine AWp.ret ?_
    obtain rfl := some_inj hr
    refine fin_ret ?_
    simp
  · have hr := cond_f h8 hr
    refine AWp.skip ?_
    refine AWp.then ⟨[⟨6, none, .sl [] .full⟩, ⟨3, none, .ptr 1 0⟩, ⟨0, none, .ptr 0 0⟩], [.blk x0.enc, .blk x1.enc]⟩ (AWp.reg Try.tyOk hΓ (keep := [6]) (dead := [29]) (by kernel_rfl) rfl (by simp [h8])) ?_
    refine AWp.equip 6 4 (els := []) (by simp) (by simp) ?_
    refine AWp.loopB (fun (s1 : List Antiphonref18Item × QueueQueue) (γ1 : Nat) => ⟨[⟨6, none, .sl (s1.1.map Antiphonref18Item.enc) (.own 2 (γ1) 4)⟩, ⟨3, none, .ptr 1 0⟩, ⟨0, none, .ptr 0 0⟩], [.blk s1.2.enc, .blk x1.enc, .room (γ1)]⟩) (fun (v1 : List Antiphonref18Item × QueueQueue) (γ1a : Nat) => ⟨[⟨6, none, .sl (v1.1.map Antiphonref18Item.enc) (.own 2 (γ1a) 4)⟩, ⟨3, none, .ptr 1 0⟩, ⟨0, none, .ptr 0 0⟩], [.blk v1.2.enc, .blk x1.enc, .room (γ1a)]⟩) (gQueueQueuePut.fin x0 x1) hr 0 3 (by simp) (fun s1 f γ1 hr => ?_) (fun v1 γ1a hr => ?_) (fun _ h => h)
    · unfold gQueueQueuePut.loop1 at hr
      refine AWp.seq ?_
      refine AWp.then ⟨[⟨56, none, .lit (.bool (pickB (leqI s1.2.fFrames (lenL s1.2.fL)) true (ltI s1.2.fMost (addI .i64 s1.2.fSize x1.fSize))))⟩, ⟨6, none, .sl (s1.1.map Antiphonref18Item.enc) (.own 2 (γ1) 4)⟩, ⟨3, none, .ptr 1 0⟩, ⟨0, none, .ptr 0 0⟩], [.blk s1.2.enc, .blk x1.enc, .room (γ1)]⟩ (AWp.regD Try.mixed Try.tyOk hΓ (keep := [56]) (dead := []) [] [(false, []), (false, []), (false, []), (false, []), (false, []), (false, []), (false, []), (false, []), (false, []), (false, []), (false, []), (false, [43]), (false, [43]), (false, [43]), (false, [43]), (false, [43]), (false, [43]), (false, [43]), (false, [43]), (false, [43]), (false, [43]), (false, [43]), (false, [43]), (false, [])] (by kernel_rfl) rfl (by simp)) ?_
      refine AWp.cond (b := (pickB (leqI s1.2.fFrames (lenL s1.2.fL)) true (ltI s1.2.fMost (addI .i64 s1.2.fSize x1.fSize)))) (by simp) (fun h9 => ?_) (fun h9 => ?_)
      · have hr := cond_t h9 hr
        refine AWp.skip ?_
        refine AWp.block ?_
        obtain ⟨r1, h10, hr⟩ := bind_some' hr
        obtain ⟨h11, hr⟩ := need_some hr
        refine AWp.last ⟨[⟨6, none, .sl ((appL s1.1 r1.1).map Antiphonref18Item.enc) (.own 2 (γ1 + 1) 4)⟩, ⟨3, none, .ptr 1 0⟩, ⟨0, none, .ptr 0 0⟩], [.blk r1.2.enc, .blk x1.enc, .room (γ1 + 1)]⟩ (AWp.reg Try.tyOk hΓ (keep := [6]) (dead := [56]) (by kernel_rfl) rfl (by simp [h9, h10, h11])) ?_
        obtain rfl := some_inj hr
        exact round_go (γ1 + 1) 3 (by first | (simp; done) | simp [h8, h9, h10, h11])
      · have hr := cond_f h9 hr
        refine AWp.exit ?_
        obtain rfl := some_inj hr
        exact round_out (γ1) 3 (by first | (simp; done) | simp [h8, h9])
    · refine AWp.seq ?_
      refine AWp.then ⟨[⟨69, none, .lit (.bool (pickB v1.2.fBroken (notB x1.fKey) false))⟩, ⟨6, none, .sl (v1.1.map Antiphonref18Item.enc) (.own 2 (γ1a) 4)⟩, ⟨3, none, .ptr 1 0⟩, ⟨0, none, .ptr 0 0⟩], [.blk v1.2.enc, .blk x1.enc, .room (γ1a)]⟩ (AWp.reg Try.tyOk hΓ (keep := [69]) (dead := []) (by kernel_rfl) rfl (by simp)) ?_
      refine AWp.cond (b := (pickB v1.2.fBroken (notB x1.fKey) false)) (by simp) (fun h12 => ?_) (fun h12 => ?_)
      · have hr := cond_t h12 hr
        refine AWp.then ⟨[⟨4, none, .sl (v1.1.map Antiphonref18Item.enc) (.own 2 (γ1a) 4)⟩, ⟨5, none, .lit (.bool false)⟩], [.blk v1.2.enc, .blk x1.enc, .room (γ1a)]⟩ (AWp.reg Try.tyOk hΓ (keep := [4, 5]) (dead := [69, 6, 3, 0]) (by kernel_rfl) rfl (by simp [h12])) ?_
        refine AWp.ret ?_
        obtain rfl := some_inj hr
        refine fin_ret ?_
        simp
      · have hr := cond_f h12 hr
        refine AWp.skip ?_
        refine AWp.then ⟨[⟨6, none, .sl (v1.1.map Antiphonref18Item.enc) (.own 2 (γ1a) 4)⟩, ⟨3, none, .ptr 1 0⟩, ⟨0, none, .ptr 0 0⟩], [.blk [.lit (.int .i64 v1.2.fFrames), .lit (.int .i64 v1.2.fMost), .sl (v1.2.fL.map Antiphonref18Item.enc) .no, .lit (.int .i64 v1.2.fSize), .lit (.bool false)], .blk x1.enc, .room (γ1a)]⟩ (AWp.reg Try.tyOk hΓ (keep := []) (dead := [69]) (by kernel_rfl) rfl (by simp [h12])) ?_
        obtain ⟨h13, hr⟩ := need_some hr
        obtain ⟨h14, hr⟩ := need_some hr
        refine AWp.then ⟨[⟨6, none, .sl (v1.1.map Antiphonref18Item.enc) (.own 2 (γ1a) 4)⟩, ⟨3, none, .ptr 1 0⟩, ⟨0, none, .ptr 0 0⟩], [.blk [.lit (.int .i64 v1.2.fFrames), .lit (.int .i64 v1.2.fMost), .sl ((appL (cutL v1.2.fL 0 (lenL v1.2.fL)) [x1]).map Antiphonref18Item.enc) (.own 3 1 4), .lit (.int .i64 v1.2.fSize), .lit (.bool false)], .blk x1.enc, .room (γ1a), .room 1]⟩ (AWp.regD Try.mixed Try.tyOk hΓ (keep := []) (dead := []) [(0, 19)] [(false, []), (false, []), (false, []), (false, []), (false, []), (false, []), (false, []), (false, []), (false, []), (false, []), (false, []), (false, []), (false, []), (false, []), (false, []), (false, []), (false, []), (false, []), (true, []), (false, []), (false, []), (true, [])] (by kernel_rfl) rfl (by simp [h13, h14])) ?_
        refine AWp.then ⟨[⟨6, none, .sl (v1.1.map Antiphonref18Item.enc) (.own 2 (γ1a) 4)⟩], [.blk [.lit (.int .i64 v1.2.fFrames), .lit (.int .i64 v1.2.fMost), .sl ((appL (cutL v1.2.fL 0 (lenL v1.2.fL)) [x1]).map Antiphonref18Item.enc) (.own 3 1 4), .lit (.int .i64 (addI .i64 v1.2.fSize x1.fSize)), .lit (.bool false)], .blk x1.enc, .room (γ1a), .room 1]⟩ (AWp.regD Try.mixed Try.tyOk hΓ (keep := []) (dead := [3, 0]) [] [(false, []), (false, []), (false, []), (false, []), (false, []), (false, []), (false, []), (false, []), (false, []), (true, [])] (by kernel_rfl) rfl (by simp)) ?_
        refine AWp.then ⟨[⟨4, none, .sl (v1.1.map Antiphonref18Item.enc) (.own 2 (γ1a) 4)⟩, ⟨5, none, .lit (.bool true)⟩], [.blk [.lit (.int .i64 v1.2.fFrames), .lit (.int .i64 v1.2.fMost), .sl ((appL (cutL v1.2.fL 0 (lenL v1.2.fL)) [x1]).map Antiphonref18Item.enc) (.own 3 1 4), .lit (.int .i64 (addI .i64 v1.2.fSize x1.fSize)), .lit (.bool false)], .blk x1.enc, .room (γ1a), .room 1]⟩ (AWp.reg Try.tyOk hΓ (keep := [4, 5]) (dead := [6]) (by kernel_rfl) rfl (by simp)) ?_
        refine AWp.ret ?_
        obtain rfl := some_inj hr
        refine fin_ret ?_
        simp

@[simp] noncomputable def gQueueQueuePut.S : Sp
  | [.ptr i0 0, .agg e1], M => match M[i0]? with
    | some (.blk c0) => (fun (y1 : Antiphonref18Item) => (fun (r : List Antiphonref18Item × Bool × QueueQueue) => some { av := .tup [.sl ((r.1).map Antiphonref18Item.enc) .no, .lit (.bool (r.2.1))], M := some (M.set i0 (.blk [.lit (.int .i64 (r.2.2.fFrames)), .lit (.int .i64 (r.2.2.fMost)), .sl ((r.2.2.fL).map Antiphonref18Item.enc) .no, .lit (.int .i64 (r.2.2.fSize)), .lit (.bool (r.2.2.fBroken))])), obl := WeakL e1 (Antiphonref18Item.enc y1) ∧ c0 = QueueQueue.enc (QueueQueue.dec c0) ∧ (gQueueQueuePut (QueueQueue.dec c0) y1).isSome = true }) ((gQueueQueuePut (QueueQueue.dec c0) y1).getD dflt)) (Antiphonref18Item.dec e1)
    | _ => none
  | _, _ => none

set_option maxHeartbeats 1000000 in
theorem gQueueQueuePut.ok : SpecOk Try.prog 40 gQueueQueuePut.S := by
  intro l M out h
  unfold gQueueQueuePut.S at h
  split at h
  · rename_i i0 e1
    split at h
    case h_2 => cases h
    rename_i c0 hM0
    try dsimp only at h
    cases h
    refine callOk_of fun ho => ?_
    obtain ⟨ox1, oc0, hs⟩ := ho
    generalize (QueueQueue.dec c0) = y0 at *
    generalize (Antiphonref18Item.dec e1) = x1 at *
    subst oc0
    obtain ⟨r, hr⟩ := Option.isSome_iff_exists.1 hs
    simp only [hr, Option.getD_some]
    have q := call_frame (M := M) [i0] (gQueueQueuePut.can y0 x1 r hr) (by simp) rfl (by intro k i hk; (cases k with | zero => (simp at hk; subst hk; simp [hM0]) | succ k => (simp at hk)))
    exact callOk_conv q trivial (by simp [into]; exact ox1) (by simp [frameOut, gQueueQueuePut.out]) (by simp [frameOut, gQueueQueuePut.out])
  · cases h

end Go.Proofs

/- That these functions compute what their plain functions do. No condition. -/
import Derived.Test.YtbijdlgffebenaaM11
import Derived.Test.YtbijdlgffebenaaTy
import Derived.Test.YtbijdlgffebenaaFr
import Derived.Test.YtbijdlgffebenaaRo
import Derived.Test.YtbijdlgffebenaaEx
import Derived.Test.YtbijdlgffebenaaOx
import Derived.Test.YtbijdlgffebenaaRr
namespace Go.Proofs
open Go.Ab
@[simp] noncomputable def gIngressConfigCheck.S : Sp
  | [.agg e0], _ => some { av := .lit (.int .i64 ((gIngressConfigCheck (IngressConfig.dec e0)).getD dflt)), M := none, obl := WeakL e0 (IngressConfig.enc (IngressConfig.dec e0)) ∧ (gIngressConfigCheck (IngressConfig.dec e0)).isSome = true }
  | _, _ => none

@[simp] def gIngressNew.out (_x0 : IngressConfig) (r : Option IngressSource × Int) : Out := { av := .tup [(optC r.1 (.lit (.pointer none)) fun _ => .ptr 7 0), .lit (.int .i64 r.2)], M := some (optC r.1 [] fun m0 => [.dead, .dead, .mapo (encM (kI .i64) (vA Antiphonref09Thing.enc) m0.fBuffer.fOf), .blk [.lit (.int .i64 m0.fBuffer.fConfig.fMost), .lit (.int .i64 m0.fBuffer.fConfig.fWait), .lit (.bool m0.fBuffer.fBegun), .lit (.int .i64 m0.fBuffer.fNext), .mp 2, .lit (.int .i64 m0.fBuffer.fLost)], .dead, .blk [.lit (.bool m0.fMaker.fConfig.fVideo), .lit (.int .i64 m0.fMaker.fConfig.fBytes), .lit (.int .i64 m0.fMaker.fConfig.fUnits), .lit (.int .i64 m0.fMaker.fConfig.fWait), .sl (m0.fMaker.fOpen.fUnits.map Antiphonref10Unit.enc) .no, .lit (.int .i64 m0.fMaker.fWhole), .lit (.int .i64 m0.fMaker.fLost)], .mapo (encM (kI .i64) (vA Antiphonref03Packet.enc) m0.fOf), .blk [.ptr 3 0, .ptr 5 0, .lit (.bool m0.fSeq.fBegun), .lit (.int .i64 m0.fSeq.fMost), .lit (.int .u16 m0.fSeq.fOdd), .lit (.int .i64 m0.fSeq.fRun), .lit (.int .i64 m0.fSeq.fJumps), .lit (.bool m0.fClock.fBegun), .lit (.int .i64 m0.fClock.fLast), .mp 6, .lit (.int .i64 m0.fBad), .lit (.int .i64 m0.fKeys)]]) }
set_option maxHeartbeats 4000000 in
set_option maxRecDepth 100000 in
theorem gIngressNew.can (x0 : IngressConfig) (r : Option IngressSource × Int) (hr : gIngressNew x0 = some r) : CallOk Try.prog 19 [.agg [.lit (.int .i64 x0.fOrder.fMost), .lit (.int .i64 x0.fOrder.fWait), .lit (.bool x0.fFrame.fVideo), .lit (.int .i64 x0.fFrame.fBytes), .lit (.int .i64 x0.fFrame.fUnits), .lit (.int .i64 x0.fFrame.fWait)]] [] (gIngressNew.out x0 r) := by
  unfold gIngressNew at hr
  have hΓ := (gamL_cons gFrameNew.ok (gamL_cons gReorderNew.ok (gamL_nil)) : GamOk Try.prog _)
  refine call_of_awp Try.tyOk Try.func19 rfl (by kernel_rfl) rfl rfl (by simp) ?_
  intro _ _ _
  refine AWp.then ⟨[⟨1, none, .ptr 0 0⟩], [.blk x0.enc]⟩ (AWp.reg Try.tyOk hΓ (keep := [1]) (dead := [0]) (by kernel_rfl) rfl (by simp)) ?_
  obtain ⟨r1, h13, hr⟩ := bind_some' hr
  cases h14 : r1.1 with
  | none =>
    have hr := optC_n h14 hr
    refine AWp.then ⟨[⟨4, none, .lit (.pointer none)⟩, ⟨5, none, .lit (.int .i64 r1.2)⟩, ⟨1, none, .ptr 0 0⟩], [.blk x0.enc]⟩ (AWp.reg Try.tyOk hΓ (keep := [4, 5]) (dead := []) (by kernel_rfl) rfl (by simp [h13, h14])) ?_
    refine AWp.seq ?_
    refine AWp.then ⟨[⟨14, none, .lit (.bool (neI r1.2 0))⟩, ⟨4, none, .lit (.pointer none)⟩, ⟨5, none, .lit (.int .i64 r1.2)⟩, ⟨1, none, .ptr 0 0⟩], [.blk x0.enc]⟩ (AWp.reg Try.tyOk hΓ (keep := [14]) (dead := []) (by kernel_rfl) rfl (by simp)) ?_
    refine AWp.cond (b := (neI r1.2 0)) (by simp) (fun h15 => ?_) (fun h15 => ?_)
    · have hr := cond_t h15 hr
      refine AWp.then ⟨[⟨2, none, .lit (.pointer none)⟩, ⟨3, none, .lit (.int .i64 r1.2)⟩], [.blk x0.enc]⟩ (AWp.reg Try.tyOk hΓ (keep := [2, 3]) (dead := [14, 4, 5, 1]) (by kernel_rfl) rfl (by simp [h15])) ?_
      refine AWp.ret ?_
      obtain rfl := some_inj hr
      refine fin_ret ?_
      simp
    · have hr := cond_f h15 hr
      refine AWp.skip ?_
      obtain ⟨r2, h16, hr⟩ := bind_some' hr
      cases h17 : r2.1 with
      | none =>
        have hr := optC_n h17 hr
        refine AWp.then ⟨[⟨6, none, .lit (.pointer none)⟩, ⟨5, none, .lit (.int .i64 r2.2)⟩, ⟨4, none, .lit (.pointer none)⟩], [.blk x0.enc]⟩ (AWp.reg Try.tyOk hΓ (keep := [6, 5]) (dead := [14, 1]) (by kernel_rfl) rfl (by simp [h15, h16, h17])) ?_
        refine AWp.seq ?_
        refine AWp.then ⟨[⟨23, none, .lit (.bool (neI r2.2 0))⟩, ⟨6, none, .lit (.pointer none)⟩, ⟨5, none, .lit (.int .i64 r2.2)⟩, ⟨4, none, .lit (.pointer none)⟩], [.blk x0.enc]⟩ (AWp.reg Try.tyOk hΓ (keep := [23]) (dead := []) (by kernel_rfl) rfl (by simp)) ?_
        refine AWp.cond (b := (neI r2.2 0)) (by simp) (fun h18 => ?_) (fun h18 => ?_)
        · have hr := cond_t h18 hr
          refine AWp.then ⟨[⟨2, none, .lit (.pointer none)⟩, ⟨3, none, .lit (.int .i64 r2.2)⟩], [.blk x0.enc]⟩ (AWp.reg Try.tyOk hΓ (keep := [2, 3]) (dead := [23, 6, 5, 4]) (by kernel_rfl) rfl (by simp [h18])) ?_
          refine AWp.ret ?_
          obtain rfl := some_inj hr
          refine fin_ret ?_
          simp
        · have hr := cond_f h18 hr
          refine AWp.skip ?_
          refine AWp.then ⟨[⟨2, none, .ptr 2 0⟩, ⟨3, none, .lit (.int .i64 0)⟩], [.blk x0.enc, .mapo ([]), .blk [.lit (.pointer none), .lit (.pointer none), .lit (.bool false), .lit (.int .i64 0), .lit (.int .u16 0), .lit (.int .i64 0), .lit (.int .i64 0), .lit (.bool false), .lit (.int .i64 0), .mp 1, .lit (.int .i64 0), .lit (.int .i64 0)]]⟩ (AWp.reg Try.tyOk hΓ (keep := [2, 3]) (dead := [23, 6, 5, 4]) (by kernel_rfl) rfl (by simp [h18])) ?_
          cases hr
      | some o2 =>
        have hr := optC_s h17 hr
        refine AWp.then ⟨[⟨6, none, .ptr 2 0⟩, ⟨5, none, .lit (.int .i64 r2.2)⟩, ⟨4, none, .lit (.pointer none)⟩], [.blk x0.enc, .dead, .blk o2.enc]⟩ (AWp.reg Try.tyOk hΓ (keep := [6, 5]) (dead := [14, 1]) (by kernel_rfl) rfl (by simp [h15, h16, h17])) ?_
        refine AWp.seq ?_
        refine AWp.then ⟨[⟨23, none, .lit (.bool (neI r2.2 0))⟩, ⟨6, none, .ptr 2 0⟩, ⟨5, none, .lit (.int .i64 r2.2)⟩, ⟨4, none, .lit (.pointer none)⟩], [.blk x0.enc, .dead, .blk o2.enc]⟩ (AWp.reg Try.tyOk hΓ (keep := [23]) (dead := []) (by kernel_rfl) rfl (by simp)) ?_
        refine AWp.cond (b := (neI r2.2 0)) (by simp) (fun h19 => ?_) (fun h19 => ?_)
        · have hr := cond_t h19 hr
          refine AWp.then ⟨[⟨2, none, .lit (.pointer none)⟩, ⟨3, none, .lit (.int .i64 r2.2)⟩], [.blk x0.enc, .dead, .blk o2.enc]⟩ (AWp.reg Try.tyOk hΓ (keep := [2, 3]) (dead := [23, 6, 5, 4]) (by kernel_rfl) rfl (by simp [h19])) ?_
          refine AWp.ret ?_
          obtain rfl := some_inj hr
          refine fin_ret ?_
          simp
        · have hr := cond_f h19 hr
          refine AWp.skip ?_
          refine AWp.then ⟨[⟨2, none, .ptr 4 0⟩, ⟨3, none, .lit (.int .i64 0)⟩], [.blk x0.enc, .dead, .blk o2.enc, .mapo ([]), .blk [.lit (.pointer none), .ptr 2 0, .lit (.bool false), .lit (.int .i64 0), .lit (.int .u16 0), .lit (.int .i64 0), .lit (.int .i64 0), .lit (.bool false), .lit (.int .i64 0), .mp 3, .lit (.int .i64 0), .lit (.int .i64 0)]]⟩ (AWp.reg Try.tyOk hΓ (keep := [2, 3]) (dead := [23, 6, 5, 4]) (by kernel_rfl) rfl (by simp [h19])) ?_
          cases hr
  | some o1 =>
    have hr := optC_s h14 hr
    refine AWp.then ⟨[⟨4, none, .ptr 3 0⟩, ⟨5, none, .lit (.int .i64 r1.2)⟩, ⟨1, none, .ptr 0 0⟩], [.blk x0.enc, .dead, .mapo (encM (kI .i64) (vA Antiphonref09Thing.enc) o1.fOf), .blk (o1.fConfig.enc ++ [.lit (.bool o1.fBegun), .lit (.int .i64 o1.fNext), .mp 2, .lit (.int .i64 o1.fLost)])]⟩ (AWp.reg Try.tyOk hΓ (keep := [4, 5]) (dead := []) (by kernel_rfl) rfl (by simp [h13, h14])) ?_
    refine AWp.seq ?_
    refine AWp.then ⟨[⟨14, none, .lit (.bool (neI r1.2 0))⟩, ⟨4, none, .ptr 3 0⟩, ⟨5, none, .lit (.int .i64 r1.2)⟩, ⟨1, none, .ptr 0 0⟩], [.blk x0.enc, .dead, .mapo (encM (kI .i64) (vA Antiphonref09Thing.enc) o1.fOf), .blk (o1.fConfig.enc ++ [.lit (.bool o1.fBegun), .lit (.int .i64 o1.fNext), .mp 2, .lit (.int .i64 o1.fLost)])]⟩ (AWp.reg Try.tyOk hΓ (keep := [14]) (dead := []) (by kernel_rfl) rfl (by simp)) ?_
    refine AWp.cond (b := (neI r1.2 0)) (by simp) (fun h20 => ?_) (fun h20 => ?_)
    · have hr := cond_t h20 hr
      refine AWp.then ⟨[⟨2, none, .lit (.pointer none)⟩, ⟨3, none, .lit (.int .i64 r1.2)⟩], [.blk x0.enc, .dead, .mapo (encM (kI .i64) (vA Antiphonref09Thing.enc) o1.fOf), .blk (o1.fConfig.enc ++ [.lit (.bool o1.fBegun), .lit (.int .i64 o1.fNext), .mp 2, .lit (.int .i64 o1.fLost)])]⟩ (AWp.reg Try.tyOk hΓ (keep := [2, 3]) (dead := [14, 4, 5, 1]) (by kernel_rfl) rfl (by simp [h20])) ?_
      refine AWp.ret ?_
      obtain rfl := some_inj hr
      refine fin_ret ?_
      simp
    · have hr := cond_f h20 hr
      refine AWp.skip ?_
      obtain ⟨r2, h21, hr⟩ := bind_some' hr
      cases h22 : r2.1 with
      | none =>
        have hr := optC_n h22 hr
        refine AWp.then ⟨[⟨6, none, .lit (.pointer none)⟩, ⟨5, none, .lit (.int .i64 r2.2)⟩, ⟨4, none, .ptr 3 0⟩], [.blk x0.enc, .dead, .mapo (encM (kI .i64) (vA Antiphonref09Thing.enc) o1.fOf), .blk (o1.fConfig.enc ++ [.lit (.bool o1.fBegun), .lit (.int .i64 o1.fNext), .mp 2, .lit (.int .i64 o1.fLost)])]⟩ (AWp.reg Try.tyOk hΓ (keep := [6, 5]) (dead := [14, 1]) (by kernel_rfl) rfl (by simp [h20, h21, h22])) ?_
        refine AWp.seq ?_
        refine AWp.then ⟨[⟨23, none, .lit (.bool (neI r2.2 0))⟩, ⟨6, none, .lit (.pointer none)⟩, ⟨5, none, .lit (.int .i64 r2.2)⟩, ⟨4, none, .ptr 3 0⟩], [.blk x0.enc, .dead, .mapo (encM (kI .i64) (vA Antiphonref09Thing.enc) o1.fOf), .blk (o1.fConfig.enc ++ [.lit (.bool o1.fBegun), .lit (.int .i64 o1.fNext), .mp 2, .lit (.int .i64 o1.fLost)])]⟩ (AWp.reg Try.tyOk hΓ (keep := [23]) (dead := []) (by kernel_rfl) rfl (by simp)) ?_
        refine AWp.cond (b := (neI r2.2 0)) (by simp) (fun h23 => ?_) (fun h23 => ?_)
        · have hr := cond_t h23 hr
          refine AWp.then ⟨[⟨2, none, .lit (.pointer none)⟩, ⟨3, none, .lit (.int .i64 r2.2)⟩], [.blk x0.enc, .dead, .mapo (encM (kI .i64) (vA Antiphonref09Thing.enc) o1.fOf), .blk (o1.fConfig.enc ++ [.lit (.bool o1.fBegun), .lit (.int .i64 o1.fNext), .mp 2, .lit (.int .i64 o1.fLost)])]⟩ (AWp.reg Try.tyOk hΓ (keep := [2, 3]) (dead := [23, 6, 5, 4]) (by kernel_rfl) rfl (by simp [h23])) ?_
          refine AWp.ret ?_
          obtain rfl := some_inj hr
          refine fin_ret ?_
          simp
        · have hr := cond_f h23 hr
          refine AWp.skip ?_
          refine AWp.then ⟨[⟨2, none, .ptr 5 0⟩, ⟨3, none, .lit (.int .i64 0)⟩], [.blk x0.enc, .dead, .mapo (encM (kI .i64) (vA Antiphonref09Thing.enc) o1.fOf), .blk (o1.fConfig.enc ++ [.lit (.bool o1.fBegun), .lit (.int .i64 o1.fNext), .mp 2, .lit (.int .i64 o1.fLost)]), .mapo ([]), .blk [.ptr 3 0, .lit (.pointer none), .lit (.bool false), .lit (.int .i64 0), .lit (.int .u16 0), .lit (.int .i64 0), .lit (.int .i64 0), .lit (.bool false), .lit (.int .i64 0), .mp 4, .lit (.int .i64 0), .lit (.int .i64 0)]]⟩ (AWp.reg Try.tyOk hΓ (keep := [2, 3]) (dead := [23, 6, 5, 4]) (by kernel_rfl) rfl (by simp [h23])) ?_
          cases hr
      | some o2 =>
        have hr := optC_s h22 hr
        refine AWp.then ⟨[⟨6, none, .ptr 5 0⟩, ⟨5, none, .lit (.int .i64 r2.2)⟩, ⟨4, none, .ptr 3 0⟩], [.blk x0.enc, .dead, .mapo (encM (kI .i64) (vA Antiphonref09Thing.enc) o1.fOf), .blk (o1.fConfig.enc ++ [.lit (.bool o1.fBegun), .lit (.int .i64 o1.fNext), .mp 2, .lit (.int .i64 o1.fLost)]), .dead, .blk o2.enc]⟩ (AWp.reg Try.tyOk hΓ (keep := [6, 5]) (dead := [14, 1]) (by kernel_rfl) rfl (by simp [h20, h21, h22])) ?_
        refine AWp.seq ?_
        refine AWp.then ⟨[⟨23, none, .lit (.bool (neI r2.2 0))⟩, ⟨6, none, .ptr 5 0⟩, ⟨5, none, .lit (.int .i64 r2.2)⟩, ⟨4, none, .ptr 3 0⟩], [.blk x0.enc, .dead, .mapo (encM (kI .i64) (vA Antiphonref09Thing.enc) o1.fOf), .blk (o1.fConfig.enc ++ [.lit (.bool o1.fBegun), .lit (.int .i64 o1.fNext), .mp 2, .lit (.int .i64 o1.fLost)]), .dead, .blk o2.enc]⟩ (AWp.reg Try.tyOk hΓ (keep := [23]) (dead := []) (by kernel_rfl) rfl (by simp)) ?_
        refine AWp.cond (b := (neI r2.2 0)) (by simp) (fun h24 => ?_) (fun h24 => ?_)
        · have hr := cond_t h24 hr
          refine AWp.then ⟨[⟨2, none, .lit (.pointer none)⟩, ⟨3, none, .lit (.int .i64 r2.2)⟩], [.blk x0.enc, .dead, .mapo (encM (kI .i64) (vA Antiphonref09Thing.enc) o1.fOf), .blk (o1.fConfig.enc ++ [.lit (.bool o1.fBegun), .lit (.int .i64 o1.fNext), .mp 2, .lit (.int .i64 o1.fLost)]), .dead, .blk o2.enc]⟩ (AWp.reg Try.tyOk hΓ (keep := [2, 3]) (dead := [23, 6, 5, 4]) (by kernel_rfl) rfl (by simp [h24])) ?_
          refine AWp.ret ?_
          obtain rfl := some_inj hr
          refine fin_ret ?_
          simp
        · have hr := cond_f h24 hr
          refine AWp.skip ?_
          refine AWp.then ⟨[⟨2, none, .ptr 7 0⟩, ⟨3, none, .lit (.int .i64 0)⟩], [.blk x0.enc, .dead, .mapo (encM (kI .i64) (vA Antiphonref09Thing.enc) o1.fOf), .blk (o1.fConfig.enc ++ [.lit (.bool o1.fBegun), .lit (.int .i64 o1.fNext), .mp 2, .lit (.int .i64 o1.fLost)]), .dead, .blk o2.enc, .mapo ([]), .blk [.ptr 3 0, .ptr 5 0, .lit (.bool false), .lit (.int .i64 0), .lit (.int .u16 0), .lit (.int .i64 0), .lit (.int .i64 0), .lit (.bool false), .lit (.int .i64 0), .mp 6, .lit (.int .i64 0), .lit (.int .i64 0)]]⟩ (AWp.reg Try.tyOk hΓ (keep := [2, 3]) (dead := [23, 6, 5, 4]) (by kernel_rfl) rfl (by simp [h24])) ?_
          refine AWp.ret ?_
          obtain rfl := some_inj hr
          refine fin_ret ?_
          simp

@[simp] noncomputable def gIngressNew.S : Sp
  | [.agg e0], M => some { av := .tup [(optC (((gIngressNew (IngressConfig.dec e0)).getD dflt).1) (.lit (.pointer none)) fun _ => .ptr (M.length + 7) 0), .lit (.int .i64 (((gIngressNew (IngressConfig.dec e0)).getD dflt).2))], M := some (optC (((gIngressNew (IngressConfig.dec e0)).getD dflt).1) M fun m0 => M ++ [.dead, .dead, .mapo (encM (kI .i64) (vA Antiphonref09Thing.enc) m0.fBuffer.fOf), .blk [.lit (.int .i64 m0.fBuffer.fConfig.fMost), .lit (.int .i64 m0.fBuffer.fConfig.fWait), .lit (.bool m0.fBuffer.fBegun), .lit (.int .i64 m0.fBuffer.fNext), .mp (M.length + 2), .lit (.int .i64 m0.fBuffer.fLost)], .dead, .blk [.lit (.bool m0.fMaker.fConfig.fVideo), .lit (.int .i64 m0.fMaker.fConfig.fBytes), .lit (.int .i64 m0.fMaker.fConfig.fUnits), .lit (.int .i64 m0.fMaker.fConfig.fWait), .sl (m0.fMaker.fOpen.fUnits.map Antiphonref10Unit.enc) .no, .lit (.int .i64 m0.fMaker.fWhole), .lit (.int .i64 m0.fMaker.fLost)], .mapo (encM (kI .i64) (vA Antiphonref03Packet.enc) m0.fOf), .blk [.ptr (M.length + 3) 0, .ptr (M.length + 5) 0, .lit (.bool m0.fSeq.fBegun), .lit (.int .i64 m0.fSeq.fMost), .lit (.int .u16 m0.fSeq.fOdd), .lit (.int .i64 m0.fSeq.fRun), .lit (.int .i64 m0.fSeq.fJumps), .lit (.bool m0.fClock.fBegun), .lit (.int .i64 m0.fClock.fLast), .mp (M.length + 6), .lit (.int .i64 m0.fBad), .lit (.int .i64 m0.fKeys)]]), obl := WeakL e0 (IngressConfig.enc (IngressConfig.dec e0)) ∧ (gIngressNew (IngressConfig.dec e0)).isSome = true }
  | _, _ => none

set_option maxHeartbeats 1000000 in
theorem gIngressNew.ok : SpecOk Try.prog 19 gIngressNew.S := by
  intro l M out h
  unfold gIngressNew.S at h
  split at h
  · rename_i e0
    cases h
    refine callOk_of fun ho => ?_
    obtain ⟨ox0, hs⟩ := ho
    generalize (IngressConfig.dec e0) = x0 at *
    obtain ⟨r, hr⟩ := Option.isSome_iff_exists.1 hs
    simp only [hr, Option.getD_some]
    have q := call_frame (M := M) [] (gIngressNew.can x0 r hr) (by simp) rfl (by intro k i hk; simp at hk)
    cases hc : r.1 with
    | none => exact callOk_conv q trivial (by simp; exact ox0) (by simp [hc, frameOut, gIngressNew.out]) (by simp [hc, frameOut, gIngressNew.out])
    | some m0 => exact callOk_conv q trivial (by simp; exact ox0) (by simp [hc, frameOut, gIngressNew.out, into]) (by simp [hc, frameOut, gIngressNew.out, into])
  · cases h

@[simp] def gIngressSourceBad.out (_x0 : IngressSource) (r : Int) : Out := { av := .lit (.int .i64 r), M := none }
set_option maxHeartbeats 4000000 in
set_option maxRecDepth 100000 in
theorem gIngressSourceBad.can (x0 : IngressSource) (r : Int) (hr : gIngressSourceBad x0 = some r) : CallOk Try.prog 18 [.ptr 0 0] [.blk ([.ptr 1 0, .ptr 3 0] ++ x0.fSeq.enc ++ x0.fClock.enc ++ [.mp 4, .lit (.int .i64 x0.fBad), .lit (.int .i64 x0.fKeys)]), .blk (x0.fBuffer.fConfig.enc ++ [.lit (.bool x0.fBuffer.fBegun), .lit (.int .i64 x0.fBuffer.fNext), .mp 2, .lit (.int .i64 x0.fBuffer.fLost)]), .mapo (encM (kI .i64) (vA Antiphonref09Thing.enc) x0.fBuffer.fOf), .blk x0.fMaker.enc, .mapo (encM (kI .i64) (vA Antiphonref03Packet.enc) x0.fOf)] (gIngressSourceBad.out x0 r) := by
  unfold gIngressSourceBad at hr
  have hΓ := gamL_nil (P := Try.prog)
  refine call_of_awp Try.tyOk Try.func18 rfl (by kernel_rfl) rfl rfl (by simp) ?_
  intro _ _ _
  refine AWp.then ⟨[⟨0, none, .ptr 0 0⟩], [.blk ([.ptr 1 0, .ptr 3 0] ++ x0.fSeq.enc ++ x0.fClock.enc ++ [.mp 4, .lit (.int .i64 x0.fBad), .lit (.int .i64 x0.fKeys)]), .blk (x0.fBuffer.fConfig.enc ++ [.lit (.bool x0.fBuffer.fBegun), .lit (.int .i64 x0.fBuffer.fNext), .mp 2, .lit (.int .i64 x0.fBuffer.fLost)]), .mapo (encM (kI .i64) (vA Antiphonref09Thing.enc) x0.fBuffer.fOf), .blk x0.fMaker.enc, .mapo (encM (kI .i64) (vA Antiphonref03Packet.enc) x0.fOf)]⟩ (AWp.reg Try.tyOk hΓ (keep := []) (dead := []) (by kernel_rfl) rfl (by simp)) ?_
  refine AWp.then ⟨[⟨2, none, .lit (.int .i64 x0.fBad)⟩], [.blk ([.ptr 1 0, .ptr 3 0] ++ x0.fSeq.enc ++ x0.fClock.enc ++ [.mp 4, .lit (.int .i64 x0.fBad), .lit (.int .i64 x0.fKeys)]), .blk (x0.fBuffer.fConfig.enc ++ [.lit (.bool x0.fBuffer.fBegun), .lit (.int .i64 x0.fBuffer.fNext), .mp 2, .lit (.int .i64 x0.fBuffer.fLost)]), .mapo (encM (kI .i64) (vA Antiphonref09Thing.enc) x0.fBuffer.fOf), .blk x0.fMaker.enc, .mapo (encM (kI .i64) (vA Antiphonref03Packet.enc) x0.fOf)]⟩ (AWp.reg Try.tyOk hΓ (keep := [2]) (dead := [0]) (by kernel_rfl) rfl (by simp)) ?_
  refine AWp.ret ?_
  obtain rfl := some_inj hr
  refine fin_ret ?_
  simp

@[simp] noncomputable def gIngressSourceBad.S : Sp
  | [.ptr i0 0], M => match M[i0]? with
    | some (.blk c0) => (match nthE c0 0 with
    | some (.ptr i1 0) => (match M[i1]? with
    | some (.blk c1) => (match nthE c1 4 with
    | some (.mp i2) => (match M[i2]? with
    | some (.mapo c2) => (match nthE c0 1 with
    | some (.ptr i3 0) => (match M[i3]? with
    | some (.blk c3) => (match nthE c0 9 with
    | some (.mp i4) => (match M[i4]? with
    | some (.mapo c4) => (fun (y0 : IngressSource) => some { av := .lit (.int .i64 ((gIngressSourceBad y0).getD dflt)), M := none, obl := c0 = IngressSource.enc y0 i1 i3 i4 ∧ c1 = ReorderBuffer.enc (y0.fBuffer) i2 ∧ c2 = encM (kI .i64) (vA Antiphonref09Thing.enc) (y0.fBuffer.fOf) ∧ c3 = FrameMaker.enc (y0.fMaker) ∧ c4 = encM (kI .i64) (vA Antiphonref03Packet.enc) (y0.fOf) ∧ (gIngressSourceBad y0).isSome = true ∧ i0 ≠ i1 ∧ i0 ≠ i2 ∧ i0 ≠ i3 ∧ i0 ≠ i4 ∧ i1 ≠ i2 ∧ i1 ≠ i3 ∧ i1 ≠ i4 ∧ i2 ≠ i3 ∧ i2 ≠ i4 ∧ i3 ≠ i4 }) (IngressSource.dec c0 (ReorderBuffer.dec c1 (decM dkI (dvA Antiphonref09Thing.dec) c2)) (FrameMaker.dec c3) (decM dkI (dvA Antiphonref03Packet.dec) c4))
    | _ => none)
    | _ => none)
    | _ => none)
    | _ => none)
    | _ => none)
    | _ => none)
    | _ => none)
    | _ => none)
    | _ => none
  | _, _ => none

set_option maxHeartbeats 1000000 in
theorem gIngressSourceBad.ok : SpecOk Try.prog 18 gIngressSourceBad.S := by
  intro l M out h
  unfold gIngressSourceBad.S at h
  split at h
  · rename_i i0
    split at h
    case h_2 => cases h
    rename_i c0 hM0
    split at h
    case h_2 => cases h
    rename_i i1 he1
    split at h
    case h_2 => cases h
    rename_i c1 hM1
    split at h
    case h_2 => cases h
    rename_i i2 he2
    split at h
    case h_2 => cases h
    rename_i c2 hM2
    split at h
    case h_2 => cases h
    rename_i i3 he3
    split at h
    case h_2 => cases h
    rename_i c3 hM3
    split at h
    case h_2 => cases h
    rename_i i4 he4
    split at h
    case h_2 => cases h
    rename_i c4 hM4
    try dsimp only at h
    cases h
    refine callOk_of fun ho => ?_
    obtain ⟨oc0, oc1, oc2, oc3, oc4, hs, hne0, hne1, hne2, hne3, hne4, hne5, hne6, hne7, hne8, hne9⟩ := ho
    generalize (IngressSource.dec c0 (ReorderBuffer.dec c1 (decM dkI (dvA Antiphonref09Thing.dec) c2)) (FrameMaker.dec c3) (decM dkI (dvA Antiphonref03Packet.dec) c4)) = y0 at *
    subst oc0
    subst oc1
    subst oc2
    subst oc3
    subst oc4
    obtain ⟨r, hr⟩ := Option.isSome_iff_exists.1 hs
    simp only [hr, Option.getD_some]
    have q := call_frame (M := M) [i0, i1, i2, i3, i4] (gIngressSourceBad.can y0 r hr) (by simp [hne0, hne1, hne2, hne3, hne4, hne5, hne6, hne7, hne8, hne9]) rfl (by intro k i hk; (cases k with | zero => (simp at hk; subst hk; simp [hM0, into]) | succ k => ((cases k with | zero => (simp at hk; subst hk; simp [hM1, into]) | succ k => ((cases k with | zero => (simp at hk; subst hk; simp [hM2]) | succ k => ((cases k with | zero => (simp at hk; subst hk; simp [hM3]) | succ k => ((cases k with | zero => (simp at hk; subst hk; simp [hM4]) | succ k => (simp at hk)))))))))))
    exact callOk_conv q trivial (by simp [into]) (by simp [frameOut, gIngressSourceBad.out, into]) (by simp only [frameOut, gIngressSourceBad.out, Option.getD_some, Option.getD_none]; simp [into, hM0, hM1, hM2, hM3, hM4, set_same])
  · cases h

@[simp] def gIngressSourceUnit.out (_x0 : IngressSource) (_x1 : Antiphonref09Thing) (r : Antiphonref10Unit × IngressSource) : Out := { av := .agg [.lit (.int .i64 r.1.fAt), .lit (.int .i64 r.1.fTime), .lit (.bool r.1.fMarker), .lit (.bool r.1.fStart), .lit (.bool r.1.fKey), .lit (.string r.1.fText), .lit (.int .i64 r.1.fTick)], M := some [.blk [.ptr 1 0, .ptr 3 0, .lit (.bool r.2.fSeq.fBegun), .lit (.int .i64 r.2.fSeq.fMost), .lit (.int .u16 r.2.fSeq.fOdd), .lit (.int .i64 r.2.fSeq.fRun), .lit (.int .i64 r.2.fSeq.fJumps), .lit (.bool r.2.fClock.fBegun), .lit (.int .i64 r.2.fClock.fLast), .mp 4, .lit (.int .i64 r.2.fBad), .lit (.int .i64 r.2.fKeys)], .blk [.lit (.int .i64 r.2.fBuffer.fConfig.fMost), .lit (.int .i64 r.2.fBuffer.fConfig.fWait), .lit (.bool r.2.fBuffer.fBegun), .lit (.int .i64 r.2.fBuffer.fNext), .mp 2, .lit (.int .i64 r.2.fBuffer.fLost)], .mapo (encM (kI .i64) (vA Antiphonref09Thing.enc) r.2.fBuffer.fOf), .blk [.lit (.bool r.2.fMaker.fConfig.fVideo), .lit (.int .i64 r.2.fMaker.fConfig.fBytes), .lit (.int .i64 r.2.fMaker.fConfig.fUnits), .lit (.int .i64 r.2.fMaker.fConfig.fWait), .sl (r.2.fMaker.fOpen.fUnits.map Antiphonref10Unit.enc) .no, .lit (.int .i64 r.2.fMaker.fWhole), .lit (.int .i64 r.2.fMaker.fLost)], .mapo (encM (kI .i64) (vA Antiphonref03Packet.enc) r.2.fOf)] }
def gIngressSourceUnit.fin (x0 : IngressSource) (x1 : Antiphonref09Thing) (r : Antiphonref10Unit × IngressSource) (σ : St) : Prop := finK (gIngressSourceUnit.out x0 x1 r) [.blk ([.ptr 1 0, .ptr 3 0] ++ x0.fSeq.enc ++ x0.fClock.enc ++ [.mp 4, .lit (.int .i64 x0.fBad), .lit (.int .i64 x0.fKeys)]), .blk (x0.fBuffer.fConfig.enc ++ [.lit (.bool x0.fBuffer.fBegun), .lit (.int .i64 x0.fBuffer.fNext), .mp 2, .lit (.int .i64 x0.fBuffer.fLost)]), .mapo (encM (kI .i64) (vA Antiphonref09Thing.enc) x0.fBuffer.fOf), .blk x0.fMaker.enc, .mapo (encM (kI .i64) (vA Antiphonref03Packet.enc) x0.fOf)] σ.M (resA Try.ty σ.A σ.M Try.f44.results.toList)
set_option maxHeartbeats 4000000 in
set_option maxRecDepth 100000 in
theorem gIngressSourceUnit.can (x0 : IngressSource) (x1 : Antiphonref09Thing) (r : Antiphonref10Unit × IngressSource) (hr : gIngressSourceUnit x0 x1 = some r) : CallOk Try.prog 44 [.ptr 0 0, .agg [.lit (.int .i64 x1.fAt), .lit (.string x1.fText), .lit (.int .i64 x1.fTick)]] [.blk ([.ptr 1 0, .ptr 3 0] ++ x0.fSeq.enc ++ x0.fClock.enc ++ [.mp 4, .lit (.int .i64 x0.fBad), .lit (.int .i64 x0.fKeys)]), .blk (x0.fBuffer.fConfig.enc ++ [.lit (.bool x0.fBuffer.fBegun), .lit (.int .i64 x0.fBuffer.fNext), .mp 2, .lit (.int .i64 x0.fBuffer.fLost)]), .mapo (encM (kI .i64) (vA Antiphonref09Thing.enc) x0.fBuffer.fOf), .blk x0.fMaker.enc, .mapo (encM (kI .i64) (vA Antiphonref03Packet.enc) x0.fOf)] (gIngressSourceUnit.out x0 x1 r) := by
  unfold gIngressSourceUnit at hr
  have hΓ := (gamL_cons gExtendClockPutInIngressSource7.ok (gamL_cons gVp8Keyframe.ok (gamL_cons gVp8Parse.ok (gamL_nil))) : GamOk Try.prog _)
  refine call_of_awp Try.tyOk Try.func44 rfl (by kernel_rfl) rfl rfl (by simp) ?_
  intro _ _ _
  refine AWp.then ⟨[⟨3, none, .ptr 5 0⟩, ⟨4, none, .ptr 6 0⟩, ⟨0, none, .ptr 0 0⟩], [.blk ([.ptr 1 0, .ptr 3 0] ++ x0.fSeq.enc ++ x0.fClock.enc ++ [.mp 4, .lit (.int .i64 x0.fBad), .lit (.int .i64 x0.fKeys)]), .blk (x0.fBuffer.fConfig.enc ++ [.lit (.bool x0.fBuffer.fBegun), .lit (.int .i64 x0.fBuffer.fNext), .mp 2, .lit (.int .i64 x0.fBuffer.fLost)]), .mapo (encM (kI .i64) (vA Antiphonref09Thing.enc) x0.fBuffer.fOf), .blk x0.fMaker.enc, .mapo (encM (kI .i64) (vA Antiphonref03Packet.enc) x0.fOf), .blk x1.enc, .blk [.lit (.int .i64 0), .lit (.int .i64 0), .lit (.bool false), .lit (.bool false), .lit (.bool false), .lit (.string ⟨#[]⟩), .lit (.int .i64 0)]]⟩ (AWp.reg Try.tyOk hΓ (keep := [3, 4]) (dead := [1]) (by kernel_rfl) rfl (by simp)) ?_
  refine AWp.then ⟨[⟨5, none, .ptr 7 0⟩, ⟨3, none, .ptr 5 0⟩, ⟨4, none, .ptr 6 0⟩, ⟨0, none, .ptr 0 0⟩], [.blk ([.ptr 1 0, .ptr 3 0] ++ x0.fSeq.enc ++ x0.fClock.enc ++ [.mp 4, .lit (.int .i64 x0.fBad), .lit (.int .i64 x0.fKeys)]), .blk (x0.fBuffer.fConfig.enc ++ [.lit (.bool x0.fBuffer.fBegun), .lit (.int .i64 x0.fBuffer.fNext), .mp 2, .lit (.int .i64 x0.fBuffer.fLost)]), .mapo (encM (kI .i64) (vA Antiphonref09Thing.enc) x0.fBuffer.fOf), .blk x0.fMaker.enc, .mapo (encM (kI .i64) (vA Antiphonref03Packet.enc) x0.fOf), .blk x1.enc, .blk [.lit (.int .i64 0), .lit (.int .i64 0), .lit (.bool false), .lit (.bool false), .lit (.bool false), .lit (.string ⟨#[]⟩), .lit (.int .i64 0)], .blk (getM eqI x1.fAt (Antiphonref03Packet.mk false 0 0 0 0 [] false 0 ⟨⟨[]⟩⟩ ⟨⟨[]⟩⟩ 0) x0.fOf).enc]⟩ (AWp.regD Try.mixed Try.tyOk hΓ (keep := [5]) (dead := []) [(0, 8), (1, 8), (2, 8), (3, 8), (4, 8), (5, 8), (6, 8)] [(false, []), (false, []), (false, []), (false, []), (false, []), (false, []), (false, []), (true, []), (true, [])] (by kernel_rfl) rfl (by simp)) ?_
  refine AWp.then ⟨[⟨5, none, .ptr 7 0⟩, ⟨3, none, .ptr 5 0⟩, ⟨4, none, .ptr 6 0⟩, ⟨0, none, .ptr 0 0⟩], [.blk ([.ptr 1 0, .ptr 3 0] ++ x0.fSeq.enc ++ x0.fClock.enc ++ [.mp 4, .lit (.int .i64 x0.fBad), .lit (.int .i64 x0.fKeys)]), .blk (x0.fBuffer.fConfig.enc ++ [.lit (.bool x0.fBuffer.fBegun), .lit (.int .i64 x0.fBuffer.fNext), .mp 2, .lit (.int .i64 x0.fBuffer.fLost)]), .mapo (encM (kI .i64) (vA Antiphonref09Thing.enc) x0.fBuffer.fOf), .blk x0.fMaker.enc, .mapo (encM (kI .i64) (vA Antiphonref03Packet.enc) (delM eqI x1.fAt x0.fOf)), .blk x1.enc, .blk [.lit (.int .i64 0), .lit (.int .i64 0), .lit (.bool false), .lit (.bool false), .lit (.bool false), .lit (.string ⟨#[]⟩), .lit (.int .i64 0)], .blk (getM eqI x1.fAt (Antiphonref03Packet.mk false 0 0 0 0 [] false 0 ⟨⟨[]⟩⟩ ⟨⟨[]⟩⟩ 0) x0.fOf).enc]⟩ (AWp.regD Try.mixed Try.tyOk hΓ (keep := []) (dead := []) [] [(false, []), (false, []), (false, []), (false, []), (false, []), (false, []), (true, [])] (by kernel_rfl) rfl (by simp)) ?_
  obtain ⟨r1, h5, hr⟩ := bind_some' hr
  refine AWp.then ⟨[⟨6, none, .ptr 8 0⟩, ⟨5, none, .ptr 7 0⟩, ⟨4, none, .ptr 6 0⟩, ⟨0, none, .ptr 0 0⟩], [.blk ([.ptr 1 0, .ptr 3 0] ++ r1.2.fSeq.enc ++ r1.2.fClock.enc ++ [.mp 4, .lit (.int .i64 r1.2.fBad), .lit (.int .i64 r1.2.fKeys)]), .blk (r1.2.fBuffer.fConfig.enc ++ [.lit (.bool r1.2.fBuffer.fBegun), .lit (.int .i64 r1.2.fBuffer.fNext), .mp 2, .lit (.int .i64 r1.2.fBuffer.fLost)]), .mapo (encM (kI .i64) (vA Antiphonref09Thing.enc) r1.2.fBuffer.fOf), .blk r1.2.fMaker.enc, .mapo (encM (kI .i64) (vA Antiphonref03Packet.enc) r1.2.fOf), .blk x1.enc, .blk [.lit (.int .i64 0), .lit (.int .i64 0), .lit (.bool false), .lit (.bool false), .lit (.bool false), .lit (.string ⟨#[]⟩), .lit (.int .i64 0)], .blk (getM eqI x1.fAt (Antiphonref03Packet.mk false 0 0 0 0 [] false 0 ⟨⟨[]⟩⟩ ⟨⟨[]⟩⟩ 0) x0.fOf).enc, .blk [.lit (.int .i64 x1.fAt), .lit (.int .i64 r1.1), .lit (.bool ((getM eqI x1.fAt (Antiphonref03Packet.mk false 0 0 0 0 [] false 0 ⟨⟨[]⟩⟩ ⟨⟨[]⟩⟩ 0) x0.fOf).fMarker)), .lit (.bool false), .lit (.bool false), .lit (.string ((getM eqI x1.fAt (Antiphonref03Packet.mk false 0 0 0 0 [] false 0 ⟨⟨[]⟩⟩ ⟨⟨[]⟩⟩ 0) x0.fOf).fPayload)), .lit (.int .i64 x1.fTick)]]⟩ (AWp.regD Try.mixed Try.tyOk hΓ (keep := [6]) (dead := [3]) [(0, 8), (0, 16), (1, 8), (1, 16), (8, 0), (8, 16), (9, 0), (9, 16), (10, 0), (10, 16), (11, 0), (11, 16), (12, 0), (12, 16), (13, 0), (13, 16), (14, 16)] [(false, []), (false, []), (false, []), (false, []), (false, []), (false, []), (false, []), (true, []), (false, []), (false, []), (false, []), (false, []), (false, []), (false, []), (false, []), (true, []), (true, [])] (by kernel_rfl) rfl (by simp [h5])) ?_
  refine AWp.meetF (fun (v1 : Antiphonref10Unit) (γ1 : Unit) => ⟨[⟨6, none, .ptr 8 0⟩, ⟨4, none, .ptr 6 0⟩], [.blk ([.ptr 1 0, .ptr 3 0] ++ r1.2.fSeq.enc ++ r1.2.fClock.enc ++ [.mp 4, .lit (.int .i64 r1.2.fBad), .lit (.int .i64 r1.2.fKeys)]), .blk (r1.2.fBuffer.fConfig.enc ++ [.lit (.bool r1.2.fBuffer.fBegun), .lit (.int .i64 r1.2.fBuffer.fNext), .mp 2, .lit (.int .i64 r1.2.fBuffer.fLost)]), .mapo (encM (kI .i64) (vA Antiphonref09Thing.enc) r1.2.fBuffer.fOf), .blk r1.2.fMaker.enc, .mapo (encM (kI .i64) (vA Antiphonref03Packet.enc) r1.2.fOf), .blk x1.enc, .blk [.lit (.int .i64 0), .lit (.int .i64 0), .lit (.bool false), .lit (.bool false), .lit (.bool false), .lit (.string ⟨#[]⟩), .lit (.int .i64 0)], .blk (getM eqI x1.fAt (Antiphonref03Packet.mk false 0 0 0 0 [] false 0 ⟨⟨[]⟩⟩ ⟨⟨[]⟩⟩ 0) x0.fOf).enc, .blk v1.enc]⟩) (gIngressSourceUnit.fin x0 x1) hr (fun f hr => ?_) (fun v1 γ1 hr => ?_) (fun _ h => h)
  · obtain ⟨r2, h6, hr⟩ := bind_some' hr
    refine AWp.then ⟨[⟨7, none, .ptr 9 0⟩, ⟨8, none, .lit (.string r2.2.1)⟩, ⟨9, none, .lit (.int .i64 r2.2.2)⟩, ⟨6, none, .ptr 8 0⟩, ⟨4, none, .ptr 6 0⟩, ⟨0, none, .ptr 0 0⟩], [.blk ([.ptr 1 0, .ptr 3 0] ++ r1.2.fSeq.enc ++ r1.2.fClock.enc ++ [.mp 4, .lit (.int .i64 r1.2.fBad), .lit (.int .i64 r1.2.fKeys)]), .blk (r1.2.fBuffer.fConfig.enc ++ [.lit (.bool r1.2.fBuffer.fBegun), .lit (.int .i64 r1.2.fBuffer.fNext), .mp 2, .lit (.int .i64 r1.2.fBuffer.fLost)]), .mapo (encM (kI .i64) (vA Antiphonref09Thing.enc) r1.2.fBuffer.fOf), .blk r1.2.fMaker.enc, .mapo (encM (kI .i64) (vA Antiphonref03Packet.enc) r1.2.fOf), .blk x1.enc, .blk [.lit (.int .i64 0), .lit (.int .i64 0), .lit (.bool false), .lit (.bool false), .lit (.bool false), .lit (.string ⟨#[]⟩), .lit (.int .i64 0)], .blk (getM eqI x1.fAt (Antiphonref03Packet.mk false 0 0 0 0 [] false 0 ⟨⟨[]⟩⟩ ⟨⟨[]⟩⟩ 0) x0.fOf).enc, .blk [.lit (.int .i64 x1.fAt), .lit (.int .i64 r1.1), .lit (.bool ((getM eqI x1.fAt (Antiphonref03Packet.mk false 0 0 0 0 [] false 0 ⟨⟨[]⟩⟩ ⟨⟨[]⟩⟩ 0) x0.fOf).fMarker)), .lit (.bool false), .lit (.bool false), .lit (.string ((getM eqI x1.fAt (Antiphonref03Packet.mk false 0 0 0 0 [] false 0 ⟨⟨[]⟩⟩ ⟨⟨[]⟩⟩ 0) x0.fOf).fPayload)), .lit (.int .i64 x1.fTick)], .blk r2.1.enc]⟩ (AWp.reg Try.tyOk hΓ (keep := [7, 8, 9]) (dead := [5]) (by kernel_rfl) rfl (by simp [h6])) ?_
    refine AWp.then ⟨[⟨56, none, .lit (.bool (pickB r1.2.fMaker.fConfig.fVideo (eqI r2.2.2 0) false))⟩, ⟨7, none, .ptr 9 0⟩, ⟨8, none, .lit (.string r2.2.1)⟩, ⟨6, none, .ptr 8 0⟩, ⟨4, none, .ptr 6 0⟩], [.blk ([.ptr 1 0, .ptr 3 0] ++ r1.2.fSeq.enc ++ r1.2.fClock.enc ++ [.mp 4, .lit (.int .i64 r1.2.fBad), .lit (.int .i64 r1.2.fKeys)]), .blk (r1.2.fBuffer.fConfig.enc ++ [.lit (.bool r1.2.fBuffer.fBegun), .lit (.int .i64 r1.2.fBuffer.fNext), .mp 2, .lit (.int .i64 r1.2.fBuffer.fLost)]), .mapo (encM (kI .i64) (vA Antiphonref09Thing.enc) r1.2.fBuffer.fOf), .blk r1.2.fMaker.enc, .mapo (encM (kI .i64) (vA Antiphonref03Packet.enc) r1.2.fOf), .blk x1.enc, .blk [.lit (.int .i64 0), .lit (.int .i64 0), .lit (.bool false), .lit (.bool false), .lit (.bool false), .lit (.string ⟨#[]⟩), .lit (.int .i64 0)], .blk (getM eqI x1.fAt (Antiphonref03Packet.mk false 0 0 0 0 [] false 0 ⟨⟨[]⟩⟩ ⟨⟨[]⟩⟩ 0) x0.fOf).enc, .blk [.lit (.int .i64 x1.fAt), .lit (.int .i64 r1.1), .lit (.bool ((getM eqI x1.fAt (Antiphonref03Packet.mk false 0 0 0 0 [] false 0 ⟨⟨[]⟩⟩ ⟨⟨[]⟩⟩ 0) x0.fOf).fMarker)), .lit (.bool false), .lit (.bool false), .lit (.string ((getM eqI x1.fAt (Antiphonref03Packet.mk false 0 0 0 0 [] false 0 ⟨⟨[]⟩⟩ ⟨⟨[]⟩⟩ 0) x0.fOf).fPayload)), .lit (.int .i64 x1.fTick)], .blk r2.1.enc]⟩ (AWp.reg Try.tyOk hΓ (keep := [56]) (dead := [9, 0]) (by kernel_rfl) rfl (by simp)) ?_
    refine AWp.cond (b := (pickB r1.2.fMaker.fConfig.fVideo (eqI r2.2.2 0) false)) (by simp) (fun h7 => ?_) (fun h7 => ?_)
    · have hr := cond_t h7 hr
      refine AWp.then ⟨[⟨7, none, .ptr 9 0⟩, ⟨8, none, .lit (.string r2.2.1)⟩, ⟨6, none, .ptr 8 0⟩, ⟨4, none, .ptr 6 0⟩], [.blk ([.ptr 1 0, .ptr 3 0] ++ r1.2.fSeq.enc ++ r1.2.fClock.enc ++ [.mp 4, .lit (.int .i64 r1.2.fBad), .lit (.int .i64 r1.2.fKeys)]), .blk (r1.2.fBuffer.fConfig.enc ++ [.lit (.bool r1.2.fBuffer.fBegun), .lit (.int .i64 r1.2.fBuffer.fNext), .mp 2, .lit (.int .i64 r1.2.fBuffer.fLost)]), .mapo (encM (kI .i64) (vA Antiphonref09Thing.enc) r1.2.fBuffer.fOf), .blk r1.2.fMaker.enc, .mapo (encM (kI .i64) (vA Antiphonref03Packet.enc) r1.2.fOf), .blk x1.enc, .blk [.lit (.int .i64 0), .lit (.int .i64 0), .lit (.bool false), .lit (.bool false), .lit (.bool false), .lit (.string ⟨#[]⟩), .lit (.int .i64 0)], .blk (getM eqI x1.fAt (Antiphonref03Packet.mk false 0 0 0 0 [] false 0 ⟨⟨[]⟩⟩ ⟨⟨[]⟩⟩ 0) x0.fOf).enc, .blk [.lit (.int .i64 x1.fAt), .lit (.int .i64 r1.1), .lit (.bool ((getM eqI x1.fAt (Antiphonref03Packet.mk false 0 0 0 0 [] false 0 ⟨⟨[]⟩⟩ ⟨⟨[]⟩⟩ 0) x0.fOf).fMarker)), .lit (.bool (pickB r2.1.fStart (eqI r2.1.fPart 0) false)), .lit (.bool false), .lit (.string ((getM eqI x1.fAt (Antiphonref03Packet.mk false 0 0 0 0 [] false 0 ⟨⟨[]⟩⟩ ⟨⟨[]⟩⟩ 0) x0.fOf).fPayload)), .lit (.int .i64 x1.fTick)], .blk r2.1.enc]⟩ (AWp.reg Try.tyOk hΓ (keep := []) (dead := [56]) (by kernel_rfl) rfl (by simp [h7])) ?_
      obtain ⟨r3, h8, hr⟩ := bind_some' hr
      refine AWp.last ⟨[⟨6, none, .ptr 8 0⟩, ⟨4, none, .ptr 6 0⟩], [.blk ([.ptr 1 0, .ptr 3 0] ++ r1.2.fSeq.enc ++ r1.2.fClock.enc ++ [.mp 4, .lit (.int .i64 r1.2.fBad), .lit (.int .i64 r1.2.fKeys)]), .blk (r1.2.fBuffer.fConfig.enc ++ [.lit (.bool r1.2.fBuffer.fBegun), .lit (.int .i64 r1.2.fBuffer.fNext), .mp 2, .lit (.int .i64 r1.2.fBuffer.fLost)]), .mapo (encM (kI .i64) (vA Antiphonref09Thing.enc) r1.2.fBuffer.fOf), .blk r1.2.fMaker.enc, .mapo (encM (kI .i64) (vA Antiphonref03Packet.enc) r1.2.fOf), .blk x1.enc, .blk [.lit (.int .i64 0), .lit (.int .i64 0), .lit (.bool false), .lit (.bool false), .lit (.bool false), .lit (.string ⟨#[]⟩), .lit (.int .i64 0)], .blk (getM eqI x1.fAt (Antiphonref03Packet.mk false 0 0 0 0 [] false 0 ⟨⟨[]⟩⟩ ⟨⟨[]⟩⟩ 0) x0.fOf).enc, .blk [.lit (.int .i64 x1.fAt), .lit (.int .i64 r1.1), .lit (.bool ((getM eqI x1.fAt (Antiphonref03Packet.mk false 0 0 0 0 [] false 0 ⟨⟨[]⟩⟩ ⟨⟨[]⟩⟩ 0) x0.fOf).fMarker)), .lit (.bool (pickB r2.1.fStart (eqI r2.1.fPart 0) false)), .lit (.bool r3), .lit (.string ((getM eqI x1.fAt (Antiphonref03Packet.mk false 0 0 0 0 [] false 0 ⟨⟨[]⟩⟩ ⟨⟨[]⟩⟩ 0) x0.fOf).fPayload)), .lit (.int .i64 x1.fTick)], .blk r2.1.enc]⟩ (AWp.reg Try.tyOk hΓ (keep := []) (dead := [7, 8]) (by kernel_rfl) rfl (by simp [h8])) ?_
      obtain rfl := some_inj hr
      exact meet_go () 9 (by first | (simp; done) | simp [h5, h6, h7, h8])
    · have hr := cond_f h7 hr
      refine AWp.skip ?_
      obtain rfl := some_inj hr
      exact meet_go () 9 (by first | (simp; done) | simp [h5, h6, h7])
  · refine AWp.then ⟨[⟨4, none, .ptr 6 0⟩], [.blk ([.ptr 1 0, .ptr 3 0] ++ r1.2.fSeq.enc ++ r1.2.fClock.enc ++ [.mp 4, .lit (.int .i64 r1.2.fBad), .lit (.int .i64 r1.2.fKeys)]), .blk (r1.2.fBuffer.fConfig.enc ++ [.lit (.bool r1.2.fBuffer.fBegun), .lit (.int .i64 r1.2.fBuffer.fNext), .mp 2, .lit (.int .i64 r1.2.fBuffer.fLost)]), .mapo (encM (kI .i64) (vA Antiphonref09Thing.enc) r1.2.fBuffer.fOf), .blk r1.2.fMaker.enc, .mapo (encM (kI .i64) (vA Antiphonref03Packet.enc) r1.2.fOf), .blk x1.enc, .blk v1.enc, .blk (getM eqI x1.fAt (Antiphonref03Packet.mk false 0 0 0 0 [] false 0 ⟨⟨[]⟩⟩ ⟨⟨[]⟩⟩ 0) x0.fOf).enc, .blk v1.enc]⟩ (AWp.reg Try.tyOk hΓ (keep := []) (dead := [6]) (by kernel_rfl) rfl (by simp)) ?_
    refine AWp.ret ?_
    obtain rfl := some_inj hr
    refine fin_ret ?_
    simp

@[simp] noncomputable def gIngressSourceUnit.S : Sp
  | [.ptr i0 0, .agg e1], M => match M[i0]? with
    | some (.blk c0) => (match nthE c0 0 with
    | some (.ptr i1 0) => (match M[i1]? with
    | some (.blk c1) => (match nthE c1 4 with
    | some (.mp i2) => (match M[i2]? with
    | some (.mapo c2) => (match nthE c0 1 with
    | some (.ptr i3 0) => (match M[i3]? with
    | some (.blk c3) => (match nthE c0 9 with
    | some (.mp i4) => (match M[i4]? with
    | some (.mapo c4) => (fun (y0 : IngressSource) => (fun (y1 : Antiphonref09Thing) => (fun (r : Antiphonref10Unit × IngressSource) => some { av := .agg [.lit (.int .i64 (r.1.fAt)), .lit (.int .i64 (r.1.fTime)), .lit (.bool (r.1.fMarker)), .lit (.bool (r.1.fStart)), .lit (.bool (r.1.fKey)), .lit (.string (r.1.fText)), .lit (.int .i64 (r.1.fTick))], M := some (((((M.set i0 (.blk [.ptr i1 0, .ptr i3 0, .lit (.bool (r.2.fSeq.fBegun)), .lit (.int .i64 (r.2.fSeq.fMost)), .lit (.int .u16 (r.2.fSeq.fOdd)), .lit (.int .i64 (r.2.fSeq.fRun)), .lit (.int .i64 (r.2.fSeq.fJumps)), .lit (.bool (r.2.fClock.fBegun)), .lit (.int .i64 (r.2.fClock.fLast)), .mp i4, .lit (.int .i64 (r.2.fBad)), .lit (.int .i64 (r.2.fKeys))])).set i1 (.blk [.lit (.int .i64 (r.2.fBuffer.fConfig.fMost)), .lit (.int .i64 (r.2.fBuffer.fConfig.fWait)), .lit (.bool (r.2.fBuffer.fBegun)), .lit (.int .i64 (r.2.fBuffer.fNext)), .mp i2, .lit (.int .i64 (r.2.fBuffer.fLost))])).set i2 (.mapo (encM (kI .i64) (vA Antiphonref09Thing.enc) (r.2.fBuffer.fOf)))).set i3 (.blk [.lit (.bool (r.2.fMaker.fConfig.fVideo)), .lit (.int .i64 (r.2.fMaker.fConfig.fBytes)), .lit (.int .i64 (r.2.fMaker.fConfig.fUnits)), .lit (.int .i64 (r.2.fMaker.fConfig.fWait)), .sl ((r.2.fMaker.fOpen.fUnits).map Antiphonref10Unit.enc) .no, .lit (.int .i64 (r.2.fMaker.fWhole)), .lit (.int .i64 (r.2.fMaker.fLost))])).set i4 (.mapo (encM (kI .i64) (vA Antiphonref03Packet.enc) (r.2.fOf)))), obl := WeakL e1 (Antiphonref09Thing.enc y1) ∧ c0 = IngressSource.enc y0 i1 i3 i4 ∧ c1 = ReorderBuffer.enc (y0.fBuffer) i2 ∧ c2 = encM (kI .i64) (vA Antiphonref09Thing.enc) (y0.fBuffer.fOf) ∧ c3 = FrameMaker.enc (y0.fMaker) ∧ c4 = encM (kI .i64) (vA Antiphonref03Packet.enc) (y0.fOf) ∧ (gIngressSourceUnit y0 y1).isSome = true ∧ i0 ≠ i1 ∧ i0 ≠ i2 ∧ i0 ≠ i3 ∧ i0 ≠ i4 ∧ i1 ≠ i2 ∧ i1 ≠ i3 ∧ i1 ≠ i4 ∧ i2 ≠ i3 ∧ i2 ≠ i4 ∧ i3 ≠ i4 }) ((gIngressSourceUnit y0 y1).getD dflt)) (Antiphonref09Thing.dec e1)) (IngressSource.dec c0 (ReorderBuffer.dec c1 (decM dkI (dvA Antiphonref09Thing.dec) c2)) (FrameMaker.dec c3) (decM dkI (dvA Antiphonref03Packet.dec) c4))
    | _ => none)
    | _ => none)
    | _ => none)
    | _ => none)
    | _ => none)
    | _ => none)
    | _ => none)
    | _ => none)
    | _ => none
  | _, _ => none

set_option maxHeartbeats 1000000 in
theorem gIngressSourceUnit.ok : SpecOk Try.prog 44 gIngressSourceUnit.S := by
  intro l M out h
  unfold gIngressSourceUnit.S at h
  split at h
  · rename_i i0 e1
    split at h
    case h_2 => cases h
    rename_i c0 hM0
    split at h
    case h_2 => cases h
    rename_i i1 he1
    split at h
    case h_2 => cases h
    rename_i c1 hM1
    split at h
    case h_2 => cases h
    rename_i i2 he2
    split at h
    case h_2 => cases h
    rename_i c2 hM2
    split at h
    case h_2 => cases h
    rename_i i3 he3
    split at h
    case h_2 => cases h
    rename_i c3 hM3
    split at h
    case h_2 => cases h
    rename_i i4 he4
    split at h
    case h_2 => cases h
    rename_i c4 hM4
    try dsimp only at h
    cases h
    refine callOk_of fun ho => ?_
    obtain ⟨ox1, oc0, oc1, oc2, oc3, oc4, hs, hne0, hne1, hne2, hne3, hne4, hne5, hne6, hne7, hne8, hne9⟩ := ho
    generalize (IngressSource.dec c0 (ReorderBuffer.dec c1 (decM dkI (dvA Antiphonref09Thing.dec) c2)) (FrameMaker.dec c3) (decM dkI (dvA Antiphonref03Packet.dec) c4)) = y0 at *
    generalize (Antiphonref09Thing.dec e1) = x1 at *
    subst oc0
    subst oc1
    subst oc2
    subst oc3
    subst oc4
    obtain ⟨r, hr⟩ := Option.isSome_iff_exists.1 hs
    simp only [hr, Option.getD_some]
    have q := call_frame (M := M) [i0, i1, i2, i3, i4] (gIngressSourceUnit.can y0 x1 r hr) (by simp [hne0, hne1, hne2, hne3, hne4, hne5, hne6, hne7, hne8, hne9]) rfl (by intro k i hk; (cases k with | zero => (simp at hk; subst hk; simp [hM0, into]) | succ k => ((cases k with | zero => (simp at hk; subst hk; simp [hM1, into]) | succ k => ((cases k with | zero => (simp at hk; subst hk; simp [hM2]) | succ k => ((cases k with | zero => (simp at hk; subst hk; simp [hM3]) | succ k => ((cases k with | zero => (simp at hk; subst hk; simp [hM4]) | succ k => (simp at hk)))))))))))
    exact callOk_conv q trivial (by simp [into]; exact ox1) (by simp [frameOut, gIngressSourceUnit.out, into]) (by simp [frameOut, gIngressSourceUnit.out, into])
  · cases h

@[simp] def gIngressSourceFrames.out (_x0 : IngressSource) (_x1 : List Antiphonref09Thing) (r : List FrameFrame × IngressSource) : Out := { av := .sl (r.1.map FrameFrame.enc) .no, M := some [.blk [.ptr 1 0, .ptr 3 0, .lit (.bool r.2.fSeq.fBegun), .lit (.int .i64 r.2.fSeq.fMost), .lit (.int .u16 r.2.fSeq.fOdd), .lit (.int .i64 r.2.fSeq.fRun), .lit (.int .i64 r.2.fSeq.fJumps), .lit (.bool r.2.fClock.fBegun), .lit (.int .i64 r.2.fClock.fLast), .mp 4, .lit (.int .i64 r.2.fBad), .lit (.int .i64 r.2.fKeys)], .blk [.lit (.int .i64 r.2.fBuffer.fConfig.fMost), .lit (.int .i64 r.2.fBuffer.fConfig.fWait), .lit (.bool r.2.fBuffer.fBegun), .lit (.int .i64 r.2.fBuffer.fNext), .mp 2, .lit (.int .i64 r.2.fBuffer.fLost)], .mapo (encM (kI .i64) (vA Antiphonref09Thing.enc) r.2.fBuffer.fOf), .blk [.lit (.bool r.2.fMaker.fConfig.fVideo), .lit (.int .i64 r.2.fMaker.fConfig.fBytes), .lit (.int .i64 r.2.fMaker.fConfig.fUnits), .lit (.int .i64 r.2.fMaker.fConfig.fWait), .sl (r.2.fMaker.fOpen.fUnits.map Antiphonref10Unit.enc) .no, .lit (.int .i64 r.2.fMaker.fWhole), .lit (.int .i64 r.2.fMaker.fLost)], .mapo (encM (kI .i64) (vA Antiphonref03Packet.enc) r.2.fOf)] }
def gIngressSourceFrames.fin (x0 : IngressSource) (x1 : List Antiphonref09Thing) (r : List FrameFrame × IngressSource) (σ : St) : Prop := finK (gIngressSourceFrames.out x0 x1 r) [.blk ([.ptr 1 0, .ptr 3 0] ++ x0.fSeq.enc ++ x0.fClock.enc ++ [.mp 4, .lit (.int .i64 x0.fBad), .lit (.int .i64 x0.fKeys)]), .blk (x0.fBuffer.fConfig.enc ++ [.lit (.bool x0.fBuffer.fBegun), .lit (.int .i64 x0.fBuffer.fNext), .mp 2, .lit (.int .i64 x0.fBuffer.fLost)]), .mapo (encM (kI .i64) (vA Antiphonref09Thing.enc) x0.fBuffer.fOf), .blk x0.fMaker.enc, .mapo (encM (kI .i64) (vA Antiphonref03Packet.enc) x0.fOf)] σ.M (resA Try.ty σ.A σ.M Try.f28.results.toList)
set_option maxHeartbeats 4000000 in
set_option maxRecDepth 100000 in
theorem gIngressSourceFrames.can (x0 : IngressSource) (x1 : List Antiphonref09Thing) (r : List FrameFrame × IngressSource) (hr : gIngressSourceFrames x0 x1 = some r) : CallOk Try.prog 28 [.ptr 0 0, .sl (x1.map Antiphonref09Thing.enc) .no] [.blk ([.ptr 1 0, .ptr 3 0] ++ x0.fSeq.enc ++ x0.fClock.enc ++ [.mp 4, .lit (.int .i64 x0.fBad), .lit (.int .i64 x0.fKeys)]), .blk (x0.fBuffer.fConfig.enc ++ [.lit (.bool x0.fBuffer.fBegun), .lit (.int .i64 x0.fBuffer.fNext), .mp 2, .lit (.int .i64 x0.fBuffer.fLost)]), .mapo (encM (kI .i64) (vA Antiphonref09Thing.enc) x0.fBuffer.fOf), .blk x0.fMaker.enc, .mapo (encM (kI .i64) (vA Antiphonref03Packet.enc) x0.fOf)] (gIngressSourceFrames.out x0 x1 r) := by
  unfold gIngressSourceFrames at hr
  have hΓ := (gamL_cons gFrameMakerPut.ok (gamL_cons gIngressSourceUnit.ok (gamL_cons gFrameFrameKey.ok (gamL_nil))) : GamOk Try.prog _)
  refine call_of_awp Try.tyOk Try.func28 rfl (by kernel_rfl) rfl rfl (by simp) ?_
  intro _ _ _
  refine AWp.then ⟨[⟨0, none, .ptr 0 0⟩, ⟨1, none, .sl (x1.map Antiphonref09Thing.enc) .no⟩], [.blk ([.ptr 1 0, .ptr 3 0] ++ x0.fSeq.enc ++ x0.fClock.enc ++ [.mp 4, .lit (.int .i64 x0.fBad), .lit (.int .i64 x0.fKeys)]), .blk (x0.fBuffer.fConfig.enc ++ [.lit (.bool x0.fBuffer.fBegun), .lit (.int .i64 x0.fBuffer.fNext), .mp 2, .lit (.int .i64 x0.fBuffer.fLost)]), .mapo (encM (kI .i64) (vA Antiphonref09Thing.enc) x0.fBuffer.fOf), .blk x0.fMaker.enc, .mapo (encM (kI .i64) (vA Antiphonref03Packet.enc) x0.fOf)]⟩ (AWp.reg Try.tyOk hΓ (keep := []) (dead := []) (by kernel_rfl) rfl (by simp)) ?_
  refine AWp.then ⟨[⟨5, none, .sl [] .full⟩, ⟨0, none, .ptr 0 0⟩, ⟨1, none, .sl (x1.map Antiphonref09Thing.enc) .no⟩], [.blk ([.ptr 1 0, .ptr 3 0] ++ x0.fSeq.enc ++ x0.fClock.enc ++ [.mp 4, .lit (.int .i64 x0.fBad), .lit (.int .i64 x0.fKeys)]), .blk (x0.fBuffer.fConfig.enc ++ [.lit (.bool x0.fBuffer.fBegun), .lit (.int .i64 x0.fBuffer.fNext), .mp 2, .lit (.int .i64 x0.fBuffer.fLost)]), .mapo (encM (kI .i64) (vA Antiphonref09Thing.enc) x0.fBuffer.fOf), .blk x0.fMaker.enc, .mapo (encM (kI .i64) (vA Antiphonref03Packet.enc) x0.fOf)]⟩ (AWp.reg Try.tyOk hΓ (keep := [5]) (dead := []) (by kernel_rfl) rfl (by simp)) ?_
  refine AWp.seq ?_
  refine AWp.then ⟨[⟨10, none, .sl (x1.map Antiphonref09Thing.enc) .no⟩, ⟨11, none, .lit (.int .i64 (lenL x1))⟩, ⟨12, none, .lit (.int .i64 0)⟩, ⟨5, none, .sl [] .full⟩, ⟨0, none, .ptr 0 0⟩], [.blk ([.ptr 1 0, .ptr 3 0] ++ x0.fSeq.enc ++ x0.fClock.enc ++ [.mp 4, .lit (.int .i64 x0.fBad), .lit (.int .i64 x0.fKeys)]), .blk (x0.fBuffer.fConfig.enc ++ [.lit (.bool x0.fBuffer.fBegun), .lit (.int .i64 x0.fBuffer.fNext), .mp 2, .lit (.int .i64 x0.fBuffer.fLost)]), .mapo (encM (kI .i64) (vA Antiphonref09Thing.enc) x0.fBuffer.fOf), .blk x0.fMaker.enc, .mapo (encM (kI .i64) (vA Antiphonref03Packet.enc) x0.fOf)]⟩ (AWp.reg Try.tyOk hΓ (keep := [10, 11, 12]) (dead := [1]) (by kernel_rfl) rfl (by simp)) ?_
  refine AWp.equip 5 1 (els := []) (by simp) (by simp) ?_
  refine AWp.loopE (fun (s1 : Int × ExtendSeq × ExtendClock × Int × Int × ReorderConfig × Bool × Int × Int × (List (Int × Antiphonref09Thing)) × FrameMaker × (List (Int × Antiphonref03Packet)) × List FrameFrame) (γ1 : Nat) => ⟨[⟨10, none, .sl (x1.map Antiphonref09Thing.enc) .no⟩, ⟨11, none, .lit (.int .i64 (lenL x1))⟩, ⟨12, none, .lit (.int .i64 s1.1)⟩, ⟨5, none, .sl (s1.2.2.2.2.2.2.2.2.2.2.2.2.map FrameFrame.enc) (.own 5 (γ1) 1)⟩, ⟨0, none, .ptr 0 0⟩], [.blk ([.ptr 1 0, .ptr 3 0] ++ s1.2.1.enc ++ s1.2.2.1.enc ++ [.mp 4, .lit (.int .i64 s1.2.2.2.1), .lit (.int .i64 s1.2.2.2.2.1)]), .blk (s1.2.2.2.2.2.1.enc ++ [.lit (.bool s1.2.2.2.2.2.2.1), .lit (.int .i64 s1.2.2.2.2.2.2.2.1), .mp 2, .lit (.int .i64 s1.2.2.2.2.2.2.2.2.1)]), .mapo (encM (kI .i64) (vA Antiphonref09Thing.enc) s1.2.2.2.2.2.2.2.2.2.1), .blk s1.2.2.2.2.2.2.2.2.2.2.1.enc, .mapo (encM (kI .i64) (vA Antiphonref03Packet.enc) s1.2.2.2.2.2.2.2.2.2.2.2.1), .room (γ1)]⟩) (fun (v1 : List FrameFrame × ExtendSeq × ExtendClock × Int × Int × ReorderConfig × Bool × Int × Int × (List (Int × Antiphonref09Thing)) × FrameMaker × (List (Int × Antiphonref03Packet))) (γ1a : Nat) => ⟨[⟨5, none, .sl (v1.1.map FrameFrame.enc) (.own 5 (γ1a) 1)⟩], [.blk ([.ptr 1 0, .ptr 3 0] ++ v1.2.1.enc ++ v1.2.2.1.enc ++ [.mp 4, .lit (.int .i64 v1.2.2.2.1), .lit (.int .i64 v1.2.2.2.2.1)]), .blk (v1.2.2.2.2.2.1.enc ++ [.lit (.bool v1.2.2.2.2.2.2.1), .lit (.int .i64 v1.2.2.2.2.2.2.2.1), .mp 2, .lit (.int .i64 v1.2.2.2.2.2.2.2.2.1)]), .mapo (encM (kI .i64) (vA Antiphonref09Thing.enc) v1.2.2.2.2.2.2.2.2.2.1), .blk v1.2.2.2.2.2.2.2.2.2.2.1.enc, .mapo (encM (kI .i64) (vA Antiphonref03Packet.enc) v1.2.2.2.2.2.2.2.2.2.2.2), .room (γ1a)]⟩) (gIngressSourceFrames.fin x0 x1) hr 0 6 (by simp) (fun s1 f γ1 hr => ?_) (fun v1 γ1a σ1 m1 hr hc => ?_) (fun _ h => h)
  · unfold gIngressSourceFrames.loop1 at hr
    refine AWp.then ⟨[⟨13, none, .lit (.bool (ltI s1.1 (lenL x1)))⟩, ⟨10, none, .sl (x1.map Antiphonref09Thing.enc) .no⟩, ⟨11, none, .lit (.int .i64 (lenL x1))⟩, ⟨12, none, .lit (.int .i64 s1.1)⟩, ⟨5, none, .sl (s1.2.2.2.2.2.2.2.2.2.2.2.2.map FrameFrame.enc) (.own 5 (γ1) 1)⟩, ⟨0, none, .ptr 0 0⟩], [.blk ([.ptr 1 0, .ptr 3 0] ++ s1.2.1.enc ++ s1.2.2.1.enc ++ [.mp 4, .lit (.int .i64 s1.2.2.2.1), .lit (.int .i64 s1.2.2.2.2.1)]), .blk (s1.2.2.2.2.2.1.enc ++ [.lit (.bool s1.2.2.2.2.2.2.1), .lit (.int .i64 s1.2.2.2.2.2.2.2.1), .mp 2, .lit (.int .i64 s1.2.2.2.2.2.2.2.2.1)]), .mapo (encM (kI .i64) (vA Antiphonref09Thing.enc) s1.2.2.2.2.2.2.2.2.2.1), .blk s1.2.2.2.2.2.2.2.2.2.2.1.enc, .mapo (encM (kI .i64) (vA Antiphonref03Packet.enc) s1.2.2.2.2.2.2.2.2.2.2.2.1), .room (γ1)]⟩ (AWp.reg Try.tyOk hΓ (keep := [13]) (dead := []) (by kernel_rfl) rfl (by simp)) ?_
    refine AWp.seq ?_
    refine AWp.cond (b := (ltI s1.1 (lenL x1))) (by simp) (fun h9 => ?_) (fun h9 => ?_)
    · have hr := cond_t h9 hr
      refine AWp.skip ?_
      refine AWp.seq ?_
      refine AWp.block ?_
      obtain ⟨h10, hr⟩ := need_some hr
      refine AWp.then ⟨[⟨7, none, .ptr 6 0⟩, ⟨10, none, .sl (x1.map Antiphonref09Thing.enc) .no⟩, ⟨11, none, .lit (.int .i64 (lenL x1))⟩, ⟨12, none, .lit (.int .i64 s1.1)⟩, ⟨5, none, .sl (s1.2.2.2.2.2.2.2.2.2.2.2.2.map FrameFrame.enc) (.own 5 (γ1) 1)⟩, ⟨0, none, .ptr 0 0⟩], [.blk ([.ptr 1 0, .ptr 3 0] ++ s1.2.1.enc ++ s1.2.2.1.enc ++ [.mp 4, .lit (.int .i64 s1.2.2.2.1), .lit (.int .i64 s1.2.2.2.2.1)]), .blk (s1.2.2.2.2.2.1.enc ++ [.lit (.bool s1.2.2.2.2.2.2.1), .lit (.int .i64 s1.2.2.2.2.2.2.2.1), .mp 2, .lit (.int .i64 s1.2.2.2.2.2.2.2.2.1)]), .mapo (encM (kI .i64) (vA Antiphonref09Thing.enc) s1.2.2.2.2.2.2.2.2.2.1), .blk s1.2.2.2.2.2.2.2.2.2.2.1.enc, .mapo (encM (kI .i64) (vA Antiphonref03Packet.enc) s1.2.2.2.2.2.2.2.2.2.2.2.1), .room (γ1), .blk (nthI x1 s1.1).enc]⟩ (AWp.reg Try.tyOk hΓ (keep := [7]) (dead := [13]) (by kernel_rfl) rfl (by simp [h9, h10])) ?_
      obtain ⟨r1, h11, hr⟩ := bind_some' hr
      obtain ⟨r2, h12, hr⟩ := bind_some' hr
      refine AWp.then ⟨[⟨8, none, .ptr 7 0⟩, ⟨9, none, .lit (.bool r2.2.1)⟩, ⟨10, none, .sl (x1.map Antiphonref09Thing.enc) .no⟩, ⟨11, none, .lit (.int .i64 (lenL x1))⟩, ⟨12, none, .lit (.int .i64 s1.1)⟩, ⟨5, none, .sl (s1.2.2.2.2.2.2.2.2.2.2.2.2.map FrameFrame.enc) (.own 5 (γ1) 1)⟩, ⟨0, none, .ptr 0 0⟩], [.blk ([.ptr 1 0, .ptr 3 0] ++ r1.2.fSeq.enc ++ r1.2.fClock.enc ++ [.mp 4, .lit (.int .i64 r1.2.fBad), .lit (.int .i64 r1.2.fKeys)]), .blk (r1.2.fBuffer.fConfig.enc ++ [.lit (.bool r1.2.fBuffer.fBegun), .lit (.int .i64 r1.2.fBuffer.fNext), .mp 2, .lit (.int .i64 r1.2.fBuffer.fLost)]), .mapo (encM (kI .i64) (vA Antiphonref09Thing.enc) r1.2.fBuffer.fOf), .blk r2.2.2.enc, .mapo (encM (kI .i64) (vA Antiphonref03Packet.enc) r1.2.fOf), .room (γ1), .blk (nthI x1 s1.1).enc, .blk [.sl (r2.1.fUnits.map Antiphonref10Unit.enc) .no]]⟩ (AWp.regD Try.mixed Try.tyOk hΓ (keep := [8, 9]) (dead := [7]) [(0, 7), (1, 7), (2, 7), (3, 7), (8, 12), (9, 12), (10, 12), (10, 13)] [(false, []), (false, []), (false, []), (false, []), (false, []), (false, []), (true, []), (true, []), (false, []), (false, []), (false, []), (true, []), (true, []), (false, [])] (by kernel_rfl) rfl (by simp [h11, h12])) ?_
      refine AWp.seq ?_
      refine AWp.then ⟨[⟨28, none, .lit (.bool (notB r2.2.1))⟩, ⟨8, none, .ptr 7 0⟩, ⟨10, none, .sl (x1.map Antiphonref09Thing.enc) .no⟩, ⟨11, none, .lit (.int .i64 (lenL x1))⟩, ⟨12, none, .lit (.int .i64 s1.1)⟩, ⟨5, none, .sl (s1.2.2.2.2.2.2.2.2.2.2.2.2.map FrameFrame.enc) (.own 5 (γ1) 1)⟩, ⟨0, none, .ptr 0 0⟩], [.blk ([.ptr 1 0, .ptr 3 0] ++ r1.2.fSeq.enc ++ r1.2.fClock.enc ++ [.mp 4, .lit (.int .i64 r1.2.fBad), .lit (.int .i64 r1.2.fKeys)]), .blk (r1.2.fBuffer.fConfig.enc ++ [.lit (.bool r1.2.fBuffer.fBegun), .lit (.int .i64 r1.2.fBuffer.fNext), .mp 2, .lit (.int .i64 r1.2.fBuffer.fLost)]), .mapo (encM (kI .i64) (vA Antiphonref09Thing.enc) r1.2.fBuffer.fOf), .blk r2.2.2.enc, .mapo (encM (kI .i64) (vA Antiphonref03Packet.enc) r1.2.fOf), .room (γ1), .blk (nthI x1 s1.1).enc, .blk [.sl (r2.1.fUnits.map Antiphonref10Unit.enc) .no]]⟩ (AWp.reg Try.tyOk hΓ (keep := [28]) (dead := [9]) (by kernel_rfl) rfl (by simp)) ?_
      refine AWp.cond (b := (notB r2.2.1)) (by simp) (fun h13 => ?_) (fun h13 => ?_)
      · have hr := cond_t h13 hr
        refine AWp.exit ?_
        refine blockS_same ?_
        refine AWp.last ⟨[⟨12, none, .lit (.int .i64 (addI .i64 s1.1 1))⟩, ⟨10, none, .sl (x1.map Antiphonref09Thing.enc) .no⟩, ⟨11, none, .lit (.int .i64 (lenL x1))⟩, ⟨5, none, .sl (s1.2.2.2.2.2.2.2.2.2.2.2.2.map FrameFrame.enc) (.own 5 (γ1) 1)⟩, ⟨0, none, .ptr 0 0⟩], [.blk ([.ptr 1 0, .ptr 3 0] ++ r1.2.fSeq.enc ++ r1.2.fClock.enc ++ [.mp 4, .lit (.int .i64 r1.2.fBad), .lit (.int .i64 r1.2.fKeys)]), .blk (r1.2.fBuffer.fConfig.enc ++ [.lit (.bool r1.2.fBuffer.fBegun), .lit (.int .i64 r1.2.fBuffer.fNext), .mp 2, .lit (.int .i64 r1.2.fBuffer.fLost)]), .mapo (encM (kI .i64) (vA Antiphonref09Thing.enc) r1.2.fBuffer.fOf), .blk r2.2.2.enc, .mapo (encM (kI .i64) (vA Antiphonref03Packet.enc) r1.2.fOf), .room (γ1), .blk (nthI x1 s1.1).enc, .blk [.sl (r2.1.fUnits.map Antiphonref10Unit.enc) .no]]⟩ (AWp.reg Try.tyOk hΓ (keep := [12]) (dead := [28, 8]) (by kernel_rfl) rfl (by simp [h13])) ?_
        obtain rfl := some_inj hr
        exact round_go (γ1) 6 (by first | (simp; done) | simp [h9, h10, h11, h12, h13])
      · have hr := cond_f h13 hr
        refine AWp.skip ?_
        refine AWp.meetF (fun (v2 : Int) (γ2 : Unit) => ⟨[⟨8, none, .ptr 7 0⟩, ⟨10, none, .sl (x1.map Antiphonref09Thing.enc) .no⟩, ⟨11, none, .lit (.int .i64 (lenL x1))⟩, ⟨12, none, .lit (.int .i64 s1.1)⟩, ⟨5, none, .sl (s1.2.2.2.2.2.2.2.2.2.2.2.2.map FrameFrame.enc) (.own 5 (γ1) 1)⟩, ⟨0, none, .ptr 0 0⟩], [.blk ([.ptr 1 0, .ptr 3 0] ++ r1.2.fSeq.enc ++ r1.2.fClock.enc ++ [.mp 4, .lit (.int .i64 r1.2.fBad), .lit (.int .i64 v2)]), .blk (r1.2.fBuffer.fConfig.enc ++ [.lit (.bool r1.2.fBuffer.fBegun), .lit (.int .i64 r1.2.fBuffer.fNext), .mp 2, .lit (.int .i64 r1.2.fBuffer.fLost)]), .mapo (encM (kI .i64) (vA Antiphonref09Thing.enc) r1.2.fBuffer.fOf), .blk r2.2.2.enc, .mapo (encM (kI .i64) (vA Antiphonref03Packet.enc) r1.2.fOf), .room (γ1), .blk (nthI x1 s1.1).enc, .blk [.sl (r2.1.fUnits.map Antiphonref10Unit.enc) .no]]⟩) (QRr (gIngressSourceFrames.fin x0 x1)) hr (fun f hr => ?_) (fun v2 γ2 hr => ?_) (fun _ h => QRr_ret h)
        · obtain ⟨r3, h14, hr⟩ := bind_some' hr
          refine AWp.then ⟨[⟨30, none, .lit (.bool r3)⟩, ⟨8, none, .ptr 7 0⟩, ⟨10, none, .sl (x1.map Antiphonref09Thing.enc) .no⟩, ⟨11, none, .lit (.int .i64 (lenL x1))⟩, ⟨12, none, .lit (.int .i64 s1.1)⟩, ⟨5, none, .sl (s1.2.2.2.2.2.2.2.2.2.2.2.2.map FrameFrame.enc) (.own 5 (γ1) 1)⟩, ⟨0, none, .ptr 0 0⟩], [.blk ([.ptr 1 0, .ptr 3 0] ++ r1.2.fSeq.enc ++ r1.2.fClock.enc ++ [.mp 4, .lit (.int .i64 r1.2.fBad), .lit (.int .i64 r1.2.fKeys)]), .blk (r1.2.fBuffer.fConfig.enc ++ [.lit (.bool r1.2.fBuffer.fBegun), .lit (.int .i64 r1.2.fBuffer.fNext), .mp 2, .lit (.int .i64 r1.2.fBuffer.fLost)]), .mapo (encM (kI .i64) (vA Antiphonref09Thing.enc) r1.2.fBuffer.fOf), .blk r2.2.2.enc, .mapo (encM (kI .i64) (vA Antiphonref03Packet.enc) r1.2.fOf), .room (γ1), .blk (nthI x1 s1.1).enc, .blk [.sl (r2.1.fUnits.map Antiphonref10Unit.enc) .no]]⟩ (AWp.reg Try.tyOk hΓ (keep := [30]) (dead := [28]) (by kernel_rfl) rfl (by simp [h13, h14])) ?_
          refine AWp.cond (b := r3) (by simp) (fun h15 => ?_) (fun h15 => ?_)
          · have hr := cond_t h15 hr
            refine AWp.last ⟨[⟨8, none, .ptr 7 0⟩, ⟨10, none, .sl (x1.map Antiphonref09Thing.enc) .no⟩, ⟨11, none, .lit (.int .i64 (lenL x1))⟩, ⟨12, none, .lit (.int .i64 s1.1)⟩, ⟨5, none, .sl (s1.2.2.2.2.2.2.2.2.2.2.2.2.map FrameFrame.enc) (.own 5 (γ1) 1)⟩, ⟨0, none, .ptr 0 0⟩], [.blk ([.ptr 1 0, .ptr 3 0] ++ r1.2.fSeq.enc ++ r1.2.fClock.enc ++ [.mp 4, .lit (.int .i64 r1.2.fBad), .lit (.int .i64 (addI .i64 r1.2.fKeys 1))]), .blk (r1.2.fBuffer.fConfig.enc ++ [.lit (.bool r1.2.fBuffer.fBegun), .lit (.int .i64 r1.2.fBuffer.fNext), .mp 2, .lit (.int .i64 r1.2.fBuffer.fLost)]), .mapo (encM (kI .i64) (vA Antiphonref09Thing.enc) r1.2.fBuffer.fOf), .blk r2.2.2.enc, .mapo (encM (kI .i64) (vA Antiphonref03Packet.enc) r1.2.fOf), .room (γ1), .blk (nthI x1 s1.1).enc, .blk [.sl (r2.1.fUnits.map Antiphonref10Unit.enc) .no]]⟩ (AWp.reg Try.tyOk hΓ (keep := []) (dead := [30]) (by kernel_rfl) rfl (by simp [h15])) ?_
            obtain rfl := some_inj hr
            exact meet_go () 8 (by first | (simp; done) | simp [h9, h10, h11, h12, h13, h14, h15])
          · have hr := cond_f h15 hr
            refine AWp.skip ?_
            obtain rfl := some_inj hr
            exact meet_go () 8 (by first | (simp; done) | simp [h9, h10, h11, h12, h13, h14, h15])
        · obtain ⟨h16, hr⟩ := need_some hr
          refine AWp.last ⟨[⟨5, none, .sl ((appL s1.2.2.2.2.2.2.2.2.2.2.2.2 [r2.1]).map FrameFrame.enc) (.own 5 (γ1 + 1) 1)⟩, ⟨10, none, .sl (x1.map Antiphonref09Thing.enc) .no⟩, ⟨11, none, .lit (.int .i64 (lenL x1))⟩, ⟨12, none, .lit (.int .i64 s1.1)⟩, ⟨0, none, .ptr 0 0⟩], [.blk ([.ptr 1 0, .ptr 3 0] ++ r1.2.fSeq.enc ++ r1.2.fClock.enc ++ [.mp 4, .lit (.int .i64 r1.2.fBad), .lit (.int .i64 v2)]), .blk (r1.2.fBuffer.fConfig.enc ++ [.lit (.bool r1.2.fBuffer.fBegun), .lit (.int .i64 r1.2.fBuffer.fNext), .mp 2, .lit (.int .i64 r1.2.fBuffer.fLost)]), .mapo (encM (kI .i64) (vA Antiphonref09Thing.enc) r1.2.fBuffer.fOf), .blk r2.2.2.enc, .mapo (encM (kI .i64) (vA Antiphonref03Packet.enc) r1.2.fOf), .room (γ1 + 1), .blk (nthI x1 s1.1).enc, .blk [.sl (r2.1.fUnits.map Antiphonref10Unit.enc) .no]]⟩ (AWp.reg Try.tyOk hΓ (keep := [5]) (dead := [8]) (by kernel_rfl) rfl (by simp [h16])) ?_
          refine AWp.last ⟨[⟨12, none, .lit (.int .i64 (addI .i64 s1.1 1))⟩, ⟨5, none, .sl ((appL s1.2.2.2.2.2.2.2.2.2.2.2.2 [r2.1]).map FrameFrame.enc) (.own 5 (γ1 + 1) 1)⟩, ⟨10, none, .sl (x1.map Antiphonref09Thing.enc) .no⟩, ⟨11, none, .lit (.int .i64 (lenL x1))⟩, ⟨0, none, .ptr 0 0⟩], [.blk ([.ptr 1 0, .ptr 3 0] ++ r1.2.fSeq.enc ++ r1.2.fClock.enc ++ [.mp 4, .lit (.int .i64 r1.2.fBad), .lit (.int .i64 v2)]), .blk (r1.2.fBuffer.fConfig.enc ++ [.lit (.bool r1.2.fBuffer.fBegun), .lit (.int .i64 r1.2.fBuffer.fNext), .mp 2, .lit (.int .i64 r1.2.fBuffer.fLost)]), .mapo (encM (kI .i64) (vA Antiphonref09Thing.enc) r1.2.fBuffer.fOf), .blk r2.2.2.enc, .mapo (encM (kI .i64) (vA Antiphonref03Packet.enc) r1.2.fOf), .room (γ1 + 1), .blk (nthI x1 s1.1).enc, .blk [.sl (r2.1.fUnits.map Antiphonref10Unit.enc) .no]]⟩ (AWp.reg Try.tyOk hΓ (keep := [12]) (dead := []) (by kernel_rfl) rfl (by simp)) ?_
          obtain rfl := some_inj hr
          exact round_go (γ1 + 1) 6 (by first | (simp; done) | simp [h9, h10, h11, h12, h13, h16])
    · have hr := cond_f h9 hr
      refine AWp.exit ?_
      obtain rfl := some_inj hr
      exact round_out (γ1) 6 (by first | (simp; done) | simp [h9])
  · refine AWp.conv hc ?_
    refine AWp.then ⟨[⟨4, none, .sl (v1.1.map FrameFrame.enc) (.own 5 (γ1a) 1)⟩], [.blk ([.ptr 1 0, .ptr 3 0] ++ v1.2.1.enc ++ v1.2.2.1.enc ++ [.mp 4, .lit (.int .i64 v1.2.2.2.1), .lit (.int .i64 v1.2.2.2.2.1)]), .blk (v1.2.2.2.2.2.1.enc ++ [.lit (.bool v1.2.2.2.2.2.2.1), .lit (.int .i64 v1.2.2.2.2.2.2.2.1), .mp 2, .lit (.int .i64 v1.2.2.2.2.2.2.2.2.1)]), .mapo (encM (kI .i64) (vA Antiphonref09Thing.enc) v1.2.2.2.2.2.2.2.2.2.1), .blk v1.2.2.2.2.2.2.2.2.2.2.1.enc, .mapo (encM (kI .i64) (vA Antiphonref03Packet.enc) v1.2.2.2.2.2.2.2.2.2.2.2), .room (γ1a)]⟩ (AWp.reg Try.tyOk hΓ (keep := [4]) (dead := [5]) (by kernel_rfl) rfl (by simp)) ?_
    refine AWp.ret ?_
    obtain rfl := some_inj hr
    refine fin_ret ?_
    simp

@[simp] noncomputable def gIngressSourceFrames.S : Sp
  | [.ptr i0 0, .sl e1 _], M => match M[i0]? with
    | some (.blk c0) => (match nthE c0 0 with
    | some (.ptr i1 0) => (match M[i1]? with
    | some (.blk c1) => (match nthE c1 4 with
    | some (.mp i2) => (match M[i2]? with
    | some (.mapo c2) => (match nthE c0 1 with
    | some (.ptr i3 0) => (match M[i3]? with
    | some (.blk c3) => (match nthE c0 9 with
    | some (.mp i4) => (match M[i4]? with
    | some (.mapo c4) => (fun (y0 : IngressSource) => (fun (r : List FrameFrame × IngressSource) => some { av := .sl ((r.1).map FrameFrame.enc) .no, M := some (((((M.set i0 (.blk [.ptr i1 0, .ptr i3 0, .lit (.bool (r.2.fSeq.fBegun)), .lit (.int .i64 (r.2.fSeq.fMost)), .lit (.int .u16 (r.2.fSeq.fOdd)), .lit (.int .i64 (r.2.fSeq.fRun)), .lit (.int .i64 (r.2.fSeq.fJumps)), .lit (.bool (r.2.fClock.fBegun)), .lit (.int .i64 (r.2.fClock.fLast)), .mp i4, .lit (.int .i64 (r.2.fBad)), .lit (.int .i64 (r.2.fKeys))])).set i1 (.blk [.lit (.int .i64 (r.2.fBuffer.fConfig.fMost)), .lit (.int .i64 (r.2.fBuffer.fConfig.fWait)), .lit (.bool (r.2.fBuffer.fBegun)), .lit (.int .i64 (r.2.fBuffer.fNext)), .mp i2, .lit (.int .i64 (r.2.fBuffer.fLost))])).set i2 (.mapo (encM (kI .i64) (vA Antiphonref09Thing.enc) (r.2.fBuffer.fOf)))).set i3 (.blk [.lit (.bool (r.2.fMaker.fConfig.fVideo)), .lit (.int .i64 (r.2.fMaker.fConfig.fBytes)), .lit (.int .i64 (r.2.fMaker.fConfig.fUnits)), .lit (.int .i64 (r.2.fMaker.fConfig.fWait)), .sl ((r.2.fMaker.fOpen.fUnits).map Antiphonref10Unit.enc) .no, .lit (.int .i64 (r.2.fMaker.fWhole)), .lit (.int .i64 (r.2.fMaker.fLost))])).set i4 (.mapo (encM (kI .i64) (vA Antiphonref03Packet.enc) (r.2.fOf)))), obl := e1 = (e1.map Antiphonref09Thing.dec).map Antiphonref09Thing.enc ∧ c0 = IngressSource.enc y0 i1 i3 i4 ∧ c1 = ReorderBuffer.enc (y0.fBuffer) i2 ∧ c2 = encM (kI .i64) (vA Antiphonref09Thing.enc) (y0.fBuffer.fOf) ∧ c3 = FrameMaker.enc (y0.fMaker) ∧ c4 = encM (kI .i64) (vA Antiphonref03Packet.enc) (y0.fOf) ∧ (gIngressSourceFrames y0 (e1.map Antiphonref09Thing.dec)).isSome = true ∧ i0 ≠ i1 ∧ i0 ≠ i2 ∧ i0 ≠ i3 ∧ i0 ≠ i4 ∧ i1 ≠ i2 ∧ i1 ≠ i3 ∧ i1 ≠ i4 ∧ i2 ≠ i3 ∧ i2 ≠ i4 ∧ i3 ≠ i4 }) ((gIngressSourceFrames y0 (e1.map Antiphonref09Thing.dec)).getD dflt)) (IngressSource.dec c0 (ReorderBuffer.dec c1 (decM dkI (dvA Antiphonref09Thing.dec) c2)) (FrameMaker.dec c3) (decM dkI (dvA Antiphonref03Packet.dec) c4))
    | _ => none)
    | _ => none)
    | _ => none)
    | _ => none)
    | _ => none)
    | _ => none)
    | _ => none)
    | _ => none)
    | _ => none
  | _, _ => none

set_option maxHeartbeats 1000000 in
theorem gIngressSourceFrames.ok : SpecOk Try.prog 28 gIngressSourceFrames.S := by
  intro l M out h
  unfold gIngressSourceFrames.S at h
  split at h
  · rename_i i0 e1 k1
    split at h
    case h_2 => cases h
    rename_i c0 hM0
    split at h
    case h_2 => cases h
    rename_i i1 he1
    split at h
    case h_2 => cases h
    rename_i c1 hM1
    split at h
    case h_2 => cases h
    rename_i i2 he2
    split at h
    case h_2 => cases h
    rename_i c2 hM2
    split at h
    case h_2 => cases h
    rename_i i3 he3
    split at h
    case h_2 => cases h
    rename_i c3 hM3
    split at h
    case h_2 => cases h
    rename_i i4 he4
    split at h
    case h_2 => cases h
    rename_i c4 hM4
    try dsimp only at h
    cases h
    refine callOk_of fun ho => ?_
    obtain ⟨ox1, oc0, oc1, oc2, oc3, oc4, hs, hne0, hne1, hne2, hne3, hne4, hne5, hne6, hne7, hne8, hne9⟩ := ho
    generalize (IngressSource.dec c0 (ReorderBuffer.dec c1 (decM dkI (dvA Antiphonref09Thing.dec) c2)) (FrameMaker.dec c3) (decM dkI (dvA Antiphonref03Packet.dec) c4)) = y0 at *
    generalize (e1.map Antiphonref09Thing.dec) = x1 at *
    subst ox1
    subst oc0
    subst oc1
    subst oc2
    subst oc3
    subst oc4
    obtain ⟨r, hr⟩ := Option.isSome_iff_exists.1 hs
    simp only [hr, Option.getD_some]
    have q := call_frame (M := M) [i0, i1, i2, i3, i4] (gIngressSourceFrames.can y0 x1 r hr) (by simp [hne0, hne1, hne2, hne3, hne4, hne5, hne6, hne7, hne8, hne9]) rfl (by intro k i hk; (cases k with | zero => (simp at hk; subst hk; simp [hM0, into]) | succ k => ((cases k with | zero => (simp at hk; subst hk; simp [hM1, into]) | succ k => ((cases k with | zero => (simp at hk; subst hk; simp [hM2]) | succ k => ((cases k with | zero => (simp at hk; subst hk; simp [hM3]) | succ k => ((cases k with | zero => (simp at hk; subst hk; simp [hM4]) | succ k => (simp at hk)))))))))))
    exact callOk_conv q trivial (by simp [into]) (by simp [frameOut, gIngressSourceFrames.out, into]) (by simp [frameOut, gIngressSourceFrames.out, into])
  · cases h

@[simp] def gIngressSourcePut.out (_x0 : IngressSource) (_x1 : Antiphonref03Packet) (_x2 : Int) (r : List FrameFrame × Int × IngressSource) : Out := { av := .tup [.sl (r.1.map FrameFrame.enc) .no, .lit (.int .i64 r.2.1)], M := some [.blk [.ptr 1 0, .ptr 3 0, .lit (.bool r.2.2.fSeq.fBegun), .lit (.int .i64 r.2.2.fSeq.fMost), .lit (.int .u16 r.2.2.fSeq.fOdd), .lit (.int .i64 r.2.2.fSeq.fRun), .lit (.int .i64 r.2.2.fSeq.fJumps), .lit (.bool r.2.2.fClock.fBegun), .lit (.int .i64 r.2.2.fClock.fLast), .mp 4, .lit (.int .i64 r.2.2.fBad), .lit (.int .i64 r.2.2.fKeys)], .blk [.lit (.int .i64 r.2.2.fBuffer.fConfig.fMost), .lit (.int .i64 r.2.2.fBuffer.fConfig.fWait), .lit (.bool r.2.2.fBuffer.fBegun), .lit (.int .i64 r.2.2.fBuffer.fNext), .mp 2, .lit (.int .i64 r.2.2.fBuffer.fLost)], .mapo (encM (kI .i64) (vA Antiphonref09Thing.enc) r.2.2.fBuffer.fOf), .blk [.lit (.bool r.2.2.fMaker.fConfig.fVideo), .lit (.int .i64 r.2.2.fMaker.fConfig.fBytes), .lit (.int .i64 r.2.2.fMaker.fConfig.fUnits), .lit (.int .i64 r.2.2.fMaker.fConfig.fWait), .sl (r.2.2.fMaker.fOpen.fUnits.map Antiphonref10Unit.enc) .no, .lit (.int .i64 r.2.2.fMaker.fWhole), .lit (.int .i64 r.2.2.fMaker.fLost)], .mapo (encM (kI .i64) (vA Antiphonref03Packet.enc) r.2.2.fOf)] }
def gIngressSourcePut.fin (x0 : IngressSource) (x1 : Antiphonref03Packet) (x2 : Int) (r : List FrameFrame × Int × IngressSource) (σ : St) : Prop := finK (gIngressSourcePut.out x0 x1 x2 r) [.blk ([.ptr 1 0, .ptr 3 0] ++ x0.fSeq.enc ++ x0.fClock.enc ++ [.mp 4, .lit (.int .i64 x0.fBad), .lit (.int .i64 x0.fKeys)]), .blk (x0.fBuffer.fConfig.enc ++ [.lit (.bool x0.fBuffer.fBegun), .lit (.int .i64 x0.fBuffer.fNext), .mp 2, .lit (.int .i64 x0.fBuffer.fLost)]), .mapo (encM (kI .i64) (vA Antiphonref09Thing.enc) x0.fBuffer.fOf), .blk x0.fMaker.enc, .mapo (encM (kI .i64) (vA Antiphonref03Packet.enc) x0.fOf)] σ.M (resA Try.ty σ.A σ.M Try.f11.results.toList)
set_option maxHeartbeats 4000000 in
set_option maxRecDepth 100000 in
theorem gIngressSourcePut.can (x0 : IngressSource) (x1 : Antiphonref03Packet) (x2 : Int) (r : List FrameFrame × Int × IngressSource) (hr : gIngressSourcePut x0 x1 x2 = some r) : CallOk Try.prog 11 [.ptr 0 0, .agg [.lit (.bool x1.fMarker), .lit (.int .u8 x1.fType), .lit (.int .u16 x1.fSeq), .lit (.int .u32 x1.fTime), .lit (.int .u32 x1.fSsrc), .sl (x1.fCsrcs.map (eNum .u32)) .no, .lit (.bool x1.fExt), .lit (.int .u16 x1.fProfile), .lit (.string x1.fData), .lit (.string x1.fPayload), .lit (.int .i64 x1.fPadding)], .lit (.int .i64 x2)] [.blk ([.ptr 1 0, .ptr 3 0] ++ x0.fSeq.enc ++ x0.fClock.enc ++ [.mp 4, .lit (.int .i64 x0.fBad), .lit (.int .i64 x0.fKeys)]), .blk (x0.fBuffer.fConfig.enc ++ [.lit (.bool x0.fBuffer.fBegun), .lit (.int .i64 x0.fBuffer.fNext), .mp 2, .lit (.int .i64 x0.fBuffer.fLost)]), .mapo (encM (kI .i64) (vA Antiphonref09Thing.enc) x0.fBuffer.fOf), .blk x0.fMaker.enc, .mapo (encM (kI .i64) (vA Antiphonref03Packet.enc) x0.fOf)] (gIngressSourcePut.out x0 x1 x2 r) := by
  unfold gIngressSourcePut at hr
  have hΓ := (gamL_cons gExtendSeqPutInIngressSource2.ok (gamL_cons gIngressSourceFrames.ok (gamL_cons gReorderBufferPut.ok (gamL_nil))) : GamOk Try.prog _)
  refine call_of_awp Try.tyOk Try.func11 rfl (by kernel_rfl) rfl rfl (by simp) ?_
  intro _ _ _
  refine AWp.then ⟨[⟨4, none, .ptr 5 0⟩, ⟨0, none, .ptr 0 0⟩, ⟨2, none, .lit (.int .i64 x2)⟩], [.blk ([.ptr 1 0, .ptr 3 0] ++ x0.fSeq.enc ++ x0.fClock.enc ++ [.mp 4, .lit (.int .i64 x0.fBad), .lit (.int .i64 x0.fKeys)]), .blk (x0.fBuffer.fConfig.enc ++ [.lit (.bool x0.fBuffer.fBegun), .lit (.int .i64 x0.fBuffer.fNext), .mp 2, .lit (.int .i64 x0.fBuffer.fLost)]), .mapo (encM (kI .i64) (vA Antiphonref09Thing.enc) x0.fBuffer.fOf), .blk x0.fMaker.enc, .mapo (encM (kI .i64) (vA Antiphonref03Packet.enc) x0.fOf), .blk x1.enc]⟩ (AWp.reg Try.tyOk hΓ (keep := [4]) (dead := [1]) (by kernel_rfl) rfl (by simp)) ?_
  obtain ⟨r1, h9, hr⟩ := bind_some' hr
  refine AWp.then ⟨[⟨8, none, .lit (.int .i64 r1.1)⟩, ⟨9, none, .lit (.bool r1.2.1)⟩, ⟨4, none, .ptr 5 0⟩, ⟨0, none, .ptr 0 0⟩, ⟨2, none, .lit (.int .i64 x2)⟩], [.blk ([.ptr 1 0, .ptr 3 0] ++ r1.2.2.fSeq.enc ++ r1.2.2.fClock.enc ++ [.mp 4, .lit (.int .i64 r1.2.2.fBad), .lit (.int .i64 r1.2.2.fKeys)]), .blk (r1.2.2.fBuffer.fConfig.enc ++ [.lit (.bool r1.2.2.fBuffer.fBegun), .lit (.int .i64 r1.2.2.fBuffer.fNext), .mp 2, .lit (.int .i64 r1.2.2.fBuffer.fLost)]), .mapo (encM (kI .i64) (vA Antiphonref09Thing.enc) r1.2.2.fBuffer.fOf), .blk r1.2.2.fMaker.enc, .mapo (encM (kI .i64) (vA Antiphonref03Packet.enc) r1.2.2.fOf), .blk x1.enc]⟩ (AWp.regD Try.mixed Try.tyOk hΓ (keep := [8, 9]) (dead := []) [] [(false, []), (false, []), (false, []), (false, []), (false, []), (true, []), (false, []), (false, []), (false, []), (false, []), (false, [])] (by kernel_rfl) rfl (by simp [h9])) ?_
  refine AWp.seq ?_
  refine AWp.then ⟨[⟨24, none, .lit (.bool (notB r1.2.1))⟩, ⟨8, none, .lit (.int .i64 r1.1)⟩, ⟨4, none, .ptr 5 0⟩, ⟨0, none, .ptr 0 0⟩, ⟨2, none, .lit (.int .i64 x2)⟩], [.blk ([.ptr 1 0, .ptr 3 0] ++ r1.2.2.fSeq.enc ++ r1.2.2.fClock.enc ++ [.mp 4, .lit (.int .i64 r1.2.2.fBad), .lit (.int .i64 r1.2.2.fKeys)]), .blk (r1.2.2.fBuffer.fConfig.enc ++ [.lit (.bool r1.2.2.fBuffer.fBegun), .lit (.int .i64 r1.2.2.fBuffer.fNext), .mp 2, .lit (.int .i64 r1.2.2.fBuffer.fLost)]), .mapo (encM (kI .i64) (vA Antiphonref09Thing.enc) r1.2.2.fBuffer.fOf), .blk r1.2.2.fMaker.enc, .mapo (encM (kI .i64) (vA Antiphonref03Packet.enc) r1.2.2.fOf), .blk x1.enc]⟩ (AWp.reg Try.tyOk hΓ (keep := [24]) (dead := [9]) (by kernel_rfl) rfl (by simp)) ?_
  refine AWp.cond (b := (notB r1.2.1)) (by simp) (fun h10 => ?_) (fun h10 => ?_)
  · have hr := cond_t h10 hr
    refine AWp.then ⟨[], [.blk ([.ptr 1 0, .ptr 3 0] ++ r1.2.2.fSeq.enc ++ r1.2.2.fClock.enc ++ [.mp 4, .lit (.int .i64 (addI .i64 r1.2.2.fBad 1)), .lit (.int .i64 r1.2.2.fKeys)]), .blk (r1.2.2.fBuffer.fConfig.enc ++ [.lit (.bool r1.2.2.fBuffer.fBegun), .lit (.int .i64 r1.2.2.fBuffer.fNext), .mp 2, .lit (.int .i64 r1.2.2.fBuffer.fLost)]), .mapo (encM (kI .i64) (vA Antiphonref09Thing.enc) r1.2.2.fBuffer.fOf), .blk r1.2.2.fMaker.enc, .mapo (encM (kI .i64) (vA Antiphonref03Packet.enc) r1.2.2.fOf), .blk x1.enc]⟩ (AWp.reg Try.tyOk hΓ (keep := []) (dead := [24, 8, 4, 0, 2]) (by kernel_rfl) rfl (by simp [h10])) ?_
    refine AWp.then ⟨[⟨6, none, .sl [] .full⟩, ⟨7, none, .lit (.int .i64 13)⟩], [.blk ([.ptr 1 0, .ptr 3 0] ++ r1.2.2.fSeq.enc ++ r1.2.2.fClock.enc ++ [.mp 4, .lit (.int .i64 (addI .i64 r1.2.2.fBad 1)), .lit (.int .i64 r1.2.2.fKeys)]), .blk (r1.2.2.fBuffer.fConfig.enc ++ [.lit (.bool r1.2.2.fBuffer.fBegun), .lit (.int .i64 r1.2.2.fBuffer.fNext), .mp 2, .lit (.int .i64 r1.2.2.fBuffer.fLost)]), .mapo (encM (kI .i64) (vA Antiphonref09Thing.enc) r1.2.2.fBuffer.fOf), .blk r1.2.2.fMaker.enc, .mapo (encM (kI .i64) (vA Antiphonref03Packet.enc) r1.2.2.fOf), .blk x1.enc]⟩ (AWp.reg Try.tyOk hΓ (keep := [6, 7]) (dead := []) (by kernel_rfl) rfl (by simp)) ?_
    refine AWp.ret ?_
    obtain rfl := some_inj hr
    refine fin_ret ?_
    simp
  · have hr := cond_f h10 hr
    refine AWp.skip ?_
    refine AWp.meetF (fun (v1 : Antiphonref03Packet) (γ1 : Unit) => ⟨[⟨8, none, .lit (.int .i64 r1.1)⟩, ⟨4, none, .ptr 5 0⟩, ⟨0, none, .ptr 0 0⟩, ⟨2, none, .lit (.int .i64 x2)⟩], [.blk ([.ptr 1 0, .ptr 3 0] ++ r1.2.2.fSeq.enc ++ r1.2.2.fClock.enc ++ [.mp 4, .lit (.int .i64 r1.2.2.fBad), .lit (.int .i64 r1.2.2.fKeys)]), .blk (r1.2.2.fBuffer.fConfig.enc ++ [.lit (.bool r1.2.2.fBuffer.fBegun), .lit (.int .i64 r1.2.2.fBuffer.fNext), .mp 2, .lit (.int .i64 r1.2.2.fBuffer.fLost)]), .mapo (encM (kI .i64) (vA Antiphonref09Thing.enc) r1.2.2.fBuffer.fOf), .blk r1.2.2.fMaker.enc, .mapo (encM (kI .i64) (vA Antiphonref03Packet.enc) r1.2.2.fOf), .blk v1.enc]⟩) (gIngressSourcePut.fin x0 x1 x2) hr (fun f hr => ?_) (fun v1 γ1 hr => ?_) (fun _ h => h)
    · refine AWp.then ⟨[⟨34, none, .lit (.bool (eqS x1.fPayload ⟨#[]⟩))⟩, ⟨8, none, .lit (.int .i64 r1.1)⟩, ⟨4, none, .ptr 5 0⟩, ⟨0, none, .ptr 0 0⟩, ⟨2, none, .lit (.int .i64 x2)⟩], [.blk ([.ptr 1 0, .ptr 3 0] ++ r1.2.2.fSeq.enc ++ r1.2.2.fClock.enc ++ [.mp 4, .lit (.int .i64 r1.2.2.fBad), .lit (.int .i64 r1.2.2.fKeys)]), .blk (r1.2.2.fBuffer.fConfig.enc ++ [.lit (.bool r1.2.2.fBuffer.fBegun), .lit (.int .i64 r1.2.2.fBuffer.fNext), .mp 2, .lit (.int .i64 r1.2.2.fBuffer.fLost)]), .mapo (encM (kI .i64) (vA Antiphonref09Thing.enc) r1.2.2.fBuffer.fOf), .blk r1.2.2.fMaker.enc, .mapo (encM (kI .i64) (vA Antiphonref03Packet.enc) r1.2.2.fOf), .blk x1.enc]⟩ (AWp.reg Try.tyOk hΓ (keep := [34]) (dead := [24]) (by kernel_rfl) rfl (by simp [h10])) ?_
      refine AWp.cond (b := (eqS x1.fPayload ⟨#[]⟩)) (by simp) (fun h11 => ?_) (fun h11 => ?_)
      · have hr := cond_t h11 hr
        refine AWp.last ⟨[⟨8, none, .lit (.int .i64 r1.1)⟩, ⟨4, none, .ptr 5 0⟩, ⟨0, none, .ptr 0 0⟩, ⟨2, none, .lit (.int .i64 x2)⟩], [.blk ([.ptr 1 0, .ptr 3 0] ++ r1.2.2.fSeq.enc ++ r1.2.2.fClock.enc ++ [.mp 4, .lit (.int .i64 r1.2.2.fBad), .lit (.int .i64 r1.2.2.fKeys)]), .blk (r1.2.2.fBuffer.fConfig.enc ++ [.lit (.bool r1.2.2.fBuffer.fBegun), .lit (.int .i64 r1.2.2.fBuffer.fNext), .mp 2, .lit (.int .i64 r1.2.2.fBuffer.fLost)]), .mapo (encM (kI .i64) (vA Antiphonref09Thing.enc) r1.2.2.fBuffer.fOf), .blk r1.2.2.fMaker.enc, .mapo (encM (kI .i64) (vA Antiphonref03Packet.enc) r1.2.2.fOf), .blk [.lit (.bool false), .lit (.int .u8 x1.fType), .lit (.int .u16 x1.fSeq), .lit (.int .u32 x1.fTime), .lit (.int .u32 x1.fSsrc), .sl (x1.fCsrcs.map (eNum .u32)) .no, .lit (.bool x1.fExt), .lit (.int .u16 x1.fProfile), .lit (.string x1.fData), .lit (.string x1.fPayload), .lit (.int .i64 x1.fPadding)]]⟩ (AWp.reg Try.tyOk hΓ (keep := []) (dead := [34]) (by kernel_rfl) rfl (by simp [h11])) ?_
        obtain rfl := some_inj hr
        exact meet_go () 6 (by first | (simp; done) | simp [h9, h10, h11])
      · have hr := cond_f h11 hr
        refine AWp.skip ?_
        obtain rfl := some_inj hr
        exact meet_go () 6 (by first | (simp; done) | simp [h9, h10, h11])
    · refine AWp.meetF (fun (v2 : (List (Int × Antiphonref03Packet))) (γ2 : Unit) => ⟨[⟨8, none, .lit (.int .i64 r1.1)⟩, ⟨0, none, .ptr 0 0⟩, ⟨2, none, .lit (.int .i64 x2)⟩], [.blk ([.ptr 1 0, .ptr 3 0] ++ r1.2.2.fSeq.enc ++ r1.2.2.fClock.enc ++ [.mp 4, .lit (.int .i64 r1.2.2.fBad), .lit (.int .i64 r1.2.2.fKeys)]), .blk (r1.2.2.fBuffer.fConfig.enc ++ [.lit (.bool r1.2.2.fBuffer.fBegun), .lit (.int .i64 r1.2.2.fBuffer.fNext), .mp 2, .lit (.int .i64 r1.2.2.fBuffer.fLost)]), .mapo (encM (kI .i64) (vA Antiphonref09Thing.enc) r1.2.2.fBuffer.fOf), .blk r1.2.2.fMaker.enc, .mapo (encM (kI .i64) (vA Antiphonref03Packet.enc) v2), .blk v1.enc]⟩) (gIngressSourcePut.fin x0 x1 x2) hr (fun f hr => ?_) (fun v2 γ2 hr => ?_) (fun _ h => h)
      · refine AWp.then ⟨[⟨11, none, .lit (.bool (hasM eqI r1.1 r1.2.2.fOf))⟩, ⟨8, none, .lit (.int .i64 r1.1)⟩, ⟨4, none, .ptr 5 0⟩, ⟨0, none, .ptr 0 0⟩, ⟨2, none, .lit (.int .i64 x2)⟩], [.blk ([.ptr 1 0, .ptr 3 0] ++ r1.2.2.fSeq.enc ++ r1.2.2.fClock.enc ++ [.mp 4, .lit (.int .i64 r1.2.2.fBad), .lit (.int .i64 r1.2.2.fKeys)]), .blk (r1.2.2.fBuffer.fConfig.enc ++ [.lit (.bool r1.2.2.fBuffer.fBegun), .lit (.int .i64 r1.2.2.fBuffer.fNext), .mp 2, .lit (.int .i64 r1.2.2.fBuffer.fLost)]), .mapo (encM (kI .i64) (vA Antiphonref09Thing.enc) r1.2.2.fBuffer.fOf), .blk r1.2.2.fMaker.enc, .mapo (encM (kI .i64) (vA Antiphonref03Packet.enc) r1.2.2.fOf), .blk v1.enc, .blk (getM eqI r1.1 (Antiphonref03Packet.mk false 0 0 0 0 [] false 0 ⟨⟨[]⟩⟩ ⟨⟨[]⟩⟩ 0) r1.2.2.fOf).enc]⟩ (AWp.reg Try.tyOk hΓ (keep := [11]) (dead := []) (by kernel_rfl) rfl (by simp)) ?_
        refine AWp.then ⟨[⟨46, none, .lit (.bool (notB (hasM eqI r1.1 r1.2.2.fOf)))⟩, ⟨8, none, .lit (.int .i64 r1.1)⟩, ⟨4, none, .ptr 5 0⟩, ⟨0, none, .ptr 0 0⟩, ⟨2, none, .lit (.int .i64 x2)⟩], [.blk ([.ptr 1 0, .ptr 3 0] ++ r1.2.2.fSeq.enc ++ r1.2.2.fClock.enc ++ [.mp 4, .lit (.int .i64 r1.2.2.fBad), .lit (.int .i64 r1.2.2.fKeys)]), .blk (r1.2.2.fBuffer.fConfig.enc ++ [.lit (.bool r1.2.2.fBuffer.fBegun), .lit (.int .i64 r1.2.2.fBuffer.fNext), .mp 2, .lit (.int .i64 r1.2.2.fBuffer.fLost)]), .mapo (encM (kI .i64) (vA Antiphonref09Thing.enc) r1.2.2.fBuffer.fOf), .blk r1.2.2.fMaker.enc, .mapo (encM (kI .i64) (vA Antiphonref03Packet.enc) r1.2.2.fOf), .blk v1.enc, .blk (getM eqI r1.1 (Antiphonref03Packet.mk false 0 0 0 0 [] false 0 ⟨⟨[]⟩⟩ ⟨⟨[]⟩⟩ 0) r1.2.2.fOf).enc]⟩ (AWp.reg Try.tyOk hΓ (keep := [46]) (dead := [11]) (by kernel_rfl) rfl (by simp)) ?_
        refine AWp.cond (b := (notB (hasM eqI r1.1 r1.2.2.fOf))) (by simp) (fun h12 => ?_) (fun h12 => ?_)
        · have hr := cond_t h12 hr
          refine AWp.last ⟨[⟨8, none, .lit (.int .i64 r1.1)⟩, ⟨0, none, .ptr 0 0⟩, ⟨2, none, .lit (.int .i64 x2)⟩], [.blk ([.ptr 1 0, .ptr 3 0] ++ r1.2.2.fSeq.enc ++ r1.2.2.fClock.enc ++ [.mp 4, .lit (.int .i64 r1.2.2.fBad), .lit (.int .i64 r1.2.2.fKeys)]), .blk (r1.2.2.fBuffer.fConfig.enc ++ [.lit (.bool r1.2.2.fBuffer.fBegun), .lit (.int .i64 r1.2.2.fBuffer.fNext), .mp 2, .lit (.int .i64 r1.2.2.fBuffer.fLost)]), .mapo (encM (kI .i64) (vA Antiphonref09Thing.enc) r1.2.2.fBuffer.fOf), .blk r1.2.2.fMaker.enc, .mapo (encM (kI .i64) (vA Antiphonref03Packet.enc) (setM eqI r1.1 v1 r1.2.2.fOf)), .blk v1.enc, .blk (getM eqI r1.1 (Antiphonref03Packet.mk false 0 0 0 0 [] false 0 ⟨⟨[]⟩⟩ ⟨⟨[]⟩⟩ 0) r1.2.2.fOf).enc]⟩ (AWp.regD Try.mixed Try.tyOk hΓ (keep := []) (dead := [46, 4]) [] [(false, []), (false, []), (false, []), (false, []), (false, []), (false, []), (true, [])] (by kernel_rfl) rfl (by simp [h12])) ?_
          obtain rfl := some_inj hr
          exact meet_go () 6 (by first | (simp; done) | simp [h9, h10, h12])
        · have hr := cond_f h12 hr
          refine AWp.skip ?_
          obtain rfl := some_inj hr
          exact meet_go () 6 (by first | (simp; done) | simp [h9, h10, h12])
      · obtain ⟨r2, h13, hr⟩ := bind_some' hr
        refine AWp.then ⟨[⟨12, none, .sl (r2.1.map Antiphonref09Thing.enc) .no⟩, ⟨13, none, .lit (.int .i64 r2.2.1)⟩, ⟨8, none, .lit (.int .i64 r1.1)⟩, ⟨0, none, .ptr 0 0⟩], [.blk ([.ptr 1 0, .ptr 3 0] ++ r1.2.2.fSeq.enc ++ r1.2.2.fClock.enc ++ [.mp 4, .lit (.int .i64 r1.2.2.fBad), .lit (.int .i64 r1.2.2.fKeys)]), .blk (r2.2.2.fConfig.enc ++ [.lit (.bool r2.2.2.fBegun), .lit (.int .i64 r2.2.2.fNext), .mp 2, .lit (.int .i64 r2.2.2.fLost)]), .mapo (encM (kI .i64) (vA Antiphonref09Thing.enc) r2.2.2.fOf), .blk r1.2.2.fMaker.enc, .mapo (encM (kI .i64) (vA Antiphonref03Packet.enc) v2), .blk v1.enc]⟩ (AWp.reg Try.tyOk hΓ (keep := [12, 13]) (dead := [2]) (by kernel_rfl) rfl (by simp [h13])) ?_
        refine AWp.seq ?_
        refine AWp.then ⟨[⟨65, none, .lit (.bool (neI r2.2.1 0))⟩, ⟨12, none, .sl (r2.1.map Antiphonref09Thing.enc) .no⟩, ⟨13, none, .lit (.int .i64 r2.2.1)⟩, ⟨8, none, .lit (.int .i64 r1.1)⟩, ⟨0, none, .ptr 0 0⟩], [.blk ([.ptr 1 0, .ptr 3 0] ++ r1.2.2.fSeq.enc ++ r1.2.2.fClock.enc ++ [.mp 4, .lit (.int .i64 r1.2.2.fBad), .lit (.int .i64 r1.2.2.fKeys)]), .blk (r2.2.2.fConfig.enc ++ [.lit (.bool r2.2.2.fBegun), .lit (.int .i64 r2.2.2.fNext), .mp 2, .lit (.int .i64 r2.2.2.fLost)]), .mapo (encM (kI .i64) (vA Antiphonref09Thing.enc) r2.2.2.fOf), .blk r1.2.2.fMaker.enc, .mapo (encM (kI .i64) (vA Antiphonref03Packet.enc) v2), .blk v1.enc]⟩ (AWp.reg Try.tyOk hΓ (keep := [65]) (dead := []) (by kernel_rfl) rfl (by simp)) ?_
        refine AWp.cond (b := (neI r2.2.1 0)) (by simp) (fun h14 => ?_) (fun h14 => ?_)
        · have hr := cond_t h14 hr
          refine AWp.then ⟨[⟨13, none, .lit (.int .i64 r2.2.1)⟩, ⟨8, none, .lit (.int .i64 r1.1)⟩, ⟨0, none, .ptr 0 0⟩], [.blk ([.ptr 1 0, .ptr 3 0] ++ r1.2.2.fSeq.enc ++ r1.2.2.fClock.enc ++ [.mp 4, .lit (.int .i64 (addI .i64 r1.2.2.fBad 1)), .lit (.int .i64 r1.2.2.fKeys)]), .blk (r2.2.2.fConfig.enc ++ [.lit (.bool r2.2.2.fBegun), .lit (.int .i64 r2.2.2.fNext), .mp 2, .lit (.int .i64 r2.2.2.fLost)]), .mapo (encM (kI .i64) (vA Antiphonref09Thing.enc) r2.2.2.fOf), .blk r1.2.2.fMaker.enc, .mapo (encM (kI .i64) (vA Antiphonref03Packet.enc) v2), .blk v1.enc]⟩ (AWp.reg Try.tyOk hΓ (keep := []) (dead := [65, 12]) (by kernel_rfl) rfl (by simp [h14])) ?_
          refine AWp.meetF (fun (v3 : (List (Int × Antiphonref03Packet))) (γ3 : Unit) => ⟨[⟨13, none, .lit (.int .i64 r2.2.1)⟩], [.blk ([.ptr 1 0, .ptr 3 0] ++ r1.2.2.fSeq.enc ++ r1.2.2.fClock.enc ++ [.mp 4, .lit (.int .i64 (addI .i64 r1.2.2.fBad 1)), .lit (.int .i64 r1.2.2.fKeys)]), .blk (r2.2.2.fConfig.enc ++ [.lit (.bool r2.2.2.fBegun), .lit (.int .i64 r2.2.2.fNext), .mp 2, .lit (.int .i64 r2.2.2.fLost)]), .mapo (encM (kI .i64) (vA Antiphonref09Thing.enc) r2.2.2.fOf), .blk r1.2.2.fMaker.enc, .mapo (encM (kI .i64) (vA Antiphonref03Packet.enc) v3), .blk v1.enc]⟩) (gIngressSourcePut.fin x0 x1 x2) hr (fun f hr => ?_) (fun v3 γ3 hr => ?_) (fun _ h => h)
          · refine AWp.then ⟨[⟨74, none, .lit (.bool (eqI r2.2.1 13))⟩, ⟨13, none, .lit (.int .i64 r2.2.1)⟩, ⟨8, none, .lit (.int .i64 r1.1)⟩, ⟨0, none, .ptr 0 0⟩], [.blk ([.ptr 1 0, .ptr 3 0] ++ r1.2.2.fSeq.enc ++ r1.2.2.fClock.enc ++ [.mp 4, .lit (.int .i64 (addI .i64 r1.2.2.fBad 1)), .lit (.int .i64 r1.2.2.fKeys)]), .blk (r2.2.2.fConfig.enc ++ [.lit (.bool r2.2.2.fBegun), .lit (.int .i64 r2.2.2.fNext), .mp 2, .lit (.int .i64 r2.2.2.fLost)]), .mapo (encM (kI .i64) (vA Antiphonref09Thing.enc) r2.2.2.fOf), .blk r1.2.2.fMaker.enc, .mapo (encM (kI .i64) (vA Antiphonref03Packet.enc) v2), .blk v1.enc]⟩ (AWp.reg Try.tyOk hΓ (keep := [74]) (dead := []) (by kernel_rfl) rfl (by simp)) ?_
            refine AWp.cond (b := (eqI r2.2.1 13)) (by simp) (fun h15 => ?_) (fun h15 => ?_)
            · have hr := cond_t h15 hr
              refine AWp.last ⟨[⟨13, none, .lit (.int .i64 r2.2.1)⟩], [.blk ([.ptr 1 0, .ptr 3 0] ++ r1.2.2.fSeq.enc ++ r1.2.2.fClock.enc ++ [.mp 4, .lit (.int .i64 (addI .i64 r1.2.2.fBad 1)), .lit (.int .i64 r1.2.2.fKeys)]), .blk (r2.2.2.fConfig.enc ++ [.lit (.bool r2.2.2.fBegun), .lit (.int .i64 r2.2.2.fNext), .mp 2, .lit (.int .i64 r2.2.2.fLost)]), .mapo (encM (kI .i64) (vA Antiphonref09Thing.enc) r2.2.2.fOf), .blk r1.2.2.fMaker.enc, .mapo (encM (kI .i64) (vA Antiphonref03Packet.enc) (delM eqI r1.1 v2)), .blk v1.enc]⟩ (AWp.reg Try.tyOk hΓ (keep := []) (dead := [74, 8, 0]) (by kernel_rfl) rfl (by simp [h15])) ?_
              obtain rfl := some_inj hr
              exact meet_go () 6 (by first | (simp; done) | simp [h9, h10, h13, h14, h15])
            · have hr := cond_f h15 hr
              refine AWp.skip ?_
              obtain rfl := some_inj hr
              exact meet_go () 6 (by first | (simp; done) | simp [h9, h10, h13, h14, h15])
          · refine AWp.then ⟨[⟨6, none, .sl [] .full⟩, ⟨7, none, .lit (.int .i64 r2.2.1)⟩], [.blk ([.ptr 1 0, .ptr 3 0] ++ r1.2.2.fSeq.enc ++ r1.2.2.fClock.enc ++ [.mp 4, .lit (.int .i64 (addI .i64 r1.2.2.fBad 1)), .lit (.int .i64 r1.2.2.fKeys)]), .blk (r2.2.2.fConfig.enc ++ [.lit (.bool r2.2.2.fBegun), .lit (.int .i64 r2.2.2.fNext), .mp 2, .lit (.int .i64 r2.2.2.fLost)]), .mapo (encM (kI .i64) (vA Antiphonref09Thing.enc) r2.2.2.fOf), .blk r1.2.2.fMaker.enc, .mapo (encM (kI .i64) (vA Antiphonref03Packet.enc) v3), .blk v1.enc]⟩ (AWp.reg Try.tyOk hΓ (keep := [6, 7]) (dead := [13]) (by kernel_rfl) rfl (by simp)) ?_
            refine AWp.ret ?_
            obtain rfl := some_inj hr
            refine fin_ret ?_
            simp
        · have hr := cond_f h14 hr
          refine AWp.skip ?_
          obtain ⟨r3, h16, hr⟩ := bind_some' hr
          refine AWp.then ⟨[⟨6, none, .sl (r3.1.map FrameFrame.enc) .no⟩, ⟨7, none, .lit (.int .i64 0)⟩], [.blk ([.ptr 1 0, .ptr 3 0] ++ r3.2.fSeq.enc ++ r3.2.fClock.enc ++ [.mp 4, .lit (.int .i64 r3.2.fBad), .lit (.int .i64 r3.2.fKeys)]), .blk (r3.2.fBuffer.fConfig.enc ++ [.lit (.bool r3.2.fBuffer.fBegun), .lit (.int .i64 r3.2.fBuffer.fNext), .mp 2, .lit (.int .i64 r3.2.fBuffer.fLost)]), .mapo (encM (kI .i64) (vA Antiphonref09Thing.enc) r3.2.fBuffer.fOf), .blk r3.2.fMaker.enc, .mapo (encM (kI .i64) (vA Antiphonref03Packet.enc) r3.2.fOf), .blk v1.enc]⟩ (AWp.reg Try.tyOk hΓ (keep := [6, 7]) (dead := [65, 12, 13, 8, 0]) (by kernel_rfl) rfl (by simp [h14, h16])) ?_
          refine AWp.ret ?_
          obtain rfl := some_inj hr
          refine fin_ret ?_
          simp

@[simp] noncomputable def gIngressSourcePut.S : Sp
  | [.ptr i0 0, .agg e1, .lit (.int .i64 x2)], M => match M[i0]? with
    | some (.blk c0) => (match nthE c0 0 with
    | some (.ptr i1 0) => (match M[i1]? with
    | some (.blk c1) => (match nthE c1 4 with
    | some (.mp i2) => (match M[i2]? with
    | some (.mapo c2) => (match nthE c0 1 with
    | some (.ptr i3 0) => (match M[i3]? with
    | some (.blk c3) => (match nthE c0 9 with
    | some (.mp i4) => (match M[i4]? with
    | some (.mapo c4) => (fun (y0 : IngressSource) => (fun (y1 : Antiphonref03Packet) => (fun (r : List FrameFrame × Int × IngressSource) => some { av := .tup [.sl ((r.1).map FrameFrame.enc) .no, .lit (.int .i64 (r.2.1))], M := some (((((M.set i0 (.blk [.ptr i1 0, .ptr i3 0, .lit (.bool (r.2.2.fSeq.fBegun)), .lit (.int .i64 (r.2.2.fSeq.fMost)), .lit (.int .u16 (r.2.2.fSeq.fOdd)), .lit (.int .i64 (r.2.2.fSeq.fRun)), .lit (.int .i64 (r.2.2.fSeq.fJumps)), .lit (.bool (r.2.2.fClock.fBegun)), .lit (.int .i64 (r.2.2.fClock.fLast)), .mp i4, .lit (.int .i64 (r.2.2.fBad)), .lit (.int .i64 (r.2.2.fKeys))])).set i1 (.blk [.lit (.int .i64 (r.2.2.fBuffer.fConfig.fMost)), .lit (.int .i64 (r.2.2.fBuffer.fConfig.fWait)), .lit (.bool (r.2.2.fBuffer.fBegun)), .lit (.int .i64 (r.2.2.fBuffer.fNext)), .mp i2, .lit (.int .i64 (r.2.2.fBuffer.fLost))])).set i2 (.mapo (encM (kI .i64) (vA Antiphonref09Thing.enc) (r.2.2.fBuffer.fOf)))).set i3 (.blk [.lit (.bool (r.2.2.fMaker.fConfig.fVideo)), .lit (.int .i64 (r.2.2.fMaker.fConfig.fBytes)), .lit (.int .i64 (r.2.2.fMaker.fConfig.fUnits)), .lit (.int .i64 (r.2.2.fMaker.fConfig.fWait)), .sl ((r.2.2.fMaker.fOpen.fUnits).map Antiphonref10Unit.enc) .no, .lit (.int .i64 (r.2.2.fMaker.fWhole)), .lit (.int .i64 (r.2.2.fMaker.fLost))])).set i4 (.mapo (encM (kI .i64) (vA Antiphonref03Packet.enc) (r.2.2.fOf)))), obl := WeakL e1 (Antiphonref03Packet.enc y1) ∧ c0 = IngressSource.enc y0 i1 i3 i4 ∧ c1 = ReorderBuffer.enc (y0.fBuffer) i2 ∧ c2 = encM (kI .i64) (vA Antiphonref09Thing.enc) (y0.fBuffer.fOf) ∧ c3 = FrameMaker.enc (y0.fMaker) ∧ c4 = encM (kI .i64) (vA Antiphonref03Packet.enc) (y0.fOf) ∧ (gIngressSourcePut y0 y1 x2).isSome = true ∧ i0 ≠ i1 ∧ i0 ≠ i2 ∧ i0 ≠ i3 ∧ i0 ≠ i4 ∧ i1 ≠ i2 ∧ i1 ≠ i3 ∧ i1 ≠ i4 ∧ i2 ≠ i3 ∧ i2 ≠ i4 ∧ i3 ≠ i4 }) ((gIngressSourcePut y0 y1 x2).getD dflt)) (Antiphonref03Packet.dec e1)) (IngressSource.dec c0 (ReorderBuffer.dec c1 (decM dkI (dvA Antiphonref09Thing.dec) c2)) (FrameMaker.dec c3) (decM dkI (dvA Antiphonref03Packet.dec) c4))
    | _ => none)
    | _ => none)
    | _ => none)
    | _ => none)
    | _ => none)
    | _ => none)
    | _ => none)
    | _ => none)
    | _ => none
  | _, _ => none

set_option maxHeartbeats 1000000 in
theorem gIngressSourcePut.ok : SpecOk Try.prog 11 gIngressSourcePut.S := by
  intro l M out h
  unfold gIngressSourcePut.S at h
  split at h
  · rename_i i0 e1 x2
    split at h
    case h_2 => cases h
    rename_i c0 hM0
    split at h
    case h_2 => cases h
    rename_i i1 he1
    split at h
    case h_2 => cases h
    rename_i c1 hM1
    split at h
    case h_2 => cases h
    rename_i i2 he2
    split at h
    case h_2 => cases h
    rename_i c2 hM2
    split at h
    case h_2 => cases h
    rename_i i3 he3
    split at h
    case h_2 => cases h
    rename_i c3 hM3
    split at h
    case h_2 => cases h
    rename_i i4 he4
    split at h
    case h_2 => cases h
    rename_i c4 hM4
    try dsimp only at h
    cases h
    refine callOk_of fun ho => ?_
    obtain ⟨ox1, oc0, oc1, oc2, oc3, oc4, hs, hne0, hne1, hne2, hne3, hne4, hne5, hne6, hne7, hne8, hne9⟩ := ho
    generalize (IngressSource.dec c0 (ReorderBuffer.dec c1 (decM dkI (dvA Antiphonref09Thing.dec) c2)) (FrameMaker.dec c3) (decM dkI (dvA Antiphonref03Packet.dec) c4)) = y0 at *
    generalize (Antiphonref03Packet.dec e1) = x1 at *
    subst oc0
    subst oc1
    subst oc2
    subst oc3
    subst oc4
    obtain ⟨r, hr⟩ := Option.isSome_iff_exists.1 hs
    simp only [hr, Option.getD_some]
    have q := call_frame (M := M) [i0, i1, i2, i3, i4] (gIngressSourcePut.can y0 x1 x2 r hr) (by simp [hne0, hne1, hne2, hne3, hne4, hne5, hne6, hne7, hne8, hne9]) rfl (by intro k i hk; (cases k with | zero => (simp at hk; subst hk; simp [hM0, into]) | succ k => ((cases k with | zero => (simp at hk; subst hk; simp [hM1, into]) | succ k => ((cases k with | zero => (simp at hk; subst hk; simp [hM2]) | succ k => ((cases k with | zero => (simp at hk; subst hk; simp [hM3]) | succ k => ((cases k with | zero => (simp at hk; subst hk; simp [hM4]) | succ k => (simp at hk)))))))))))
    exact callOk_conv q trivial (by simp [into]; exact ox1) (by simp [frameOut, gIngressSourcePut.out, into]) (by simp [frameOut, gIngressSourcePut.out, into])
  · cases h

end Go.Proofs

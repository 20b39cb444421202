/- That these functions compute what their plain functions do. No condition. -/
import Derived.Test.YtbijdlgffebenaaM01
import Derived.Test.YtbijdlgffebenaaTy
import Derived.Test.YtbijdlgffebenaaIg
import Derived.Test.YtbijdlgffebenaaFr
import Derived.Test.YtbijdlgffebenaaM11
import Derived.Test.YtbijdlgffebenaaIa
namespace Go.Proofs
open Go.Ab
@[simp] def gLaw11IngressSounds.out (_x0 : List ByteArray) (_x1 : Int) (r : Bool) : Out := { av := .lit (.bool r), M := none }
def gLaw11IngressSounds.fin (x0 : List ByteArray) (x1 : Int) (r : Bool) (σ : St) : Prop := finK (gLaw11IngressSounds.out x0 x1 r) [] σ.M (resA Try.ty σ.A σ.M Try.f4.results.toList)
set_option maxHeartbeats 4000000 in
set_option maxRecDepth 100000 in
theorem gLaw11IngressSounds.can (x0 : List ByteArray) (x1 : Int) (r : Bool) (hr : gLaw11IngressSounds x0 x1 = some r) : CallOk Try.prog 4 [.sl (x0.map eTxt) .no, .lit (.int .u16 x1)] [] (gLaw11IngressSounds.out x0 x1 r) := by
  unfold gLaw11IngressSounds at hr
  have hΓ := (gamL_cons gIngressSourceBad.ok (gamL_cons gIngressSourceCounts.ok (gamL_cons gIngressSourcePut.ok (gamL_cons gFrameFrameKey.ok (gamL_cons gLaw01Cut.ok (gamL_cons gLaw11Begin.ok (gamL_cons gLaw11Config.ok (gamL_cons gLaw11Awake.ok (gamL_nil)))))))) : GamOk Try.prog _)
  refine call_of_awp Try.tyOk Try.func4 rfl (by kernel_rfl) rfl rfl (by simp) ?_
  intro _ _ _
  refine AWp.then ⟨[⟨0, none, .sl (x0.map eTxt) .no⟩, ⟨1, none, .lit (.int .u16 x1)⟩], []⟩ (AWp.reg Try.tyOk hΓ (keep := []) (dead := []) (by kernel_rfl) rfl (by simp)) ?_
  refine AWp.seq ?_
  obtain ⟨r1, h23, hr⟩ := bind_some' hr
  refine AWp.then ⟨[⟨15, none, .lit (.bool (notB r1))⟩, ⟨0, none, .sl (x0.map eTxt) .no⟩, ⟨1, none, .lit (.int .u16 x1)⟩], []⟩ (AWp.reg Try.tyOk hΓ (keep := [15]) (dead := []) (by kernel_rfl) rfl (by simp [h23])) ?_
  refine AWp.cond (b := (notB r1)) (by simp) (fun h24 => ?_) (fun h24 => ?_)
  · have hr := cond_t h24 hr
    refine AWp.then ⟨[⟨4, none, .lit (.bool false)⟩], []⟩ (AWp.reg Try.tyOk hΓ (keep := [4]) (dead := [15, 0, 1]) (by kernel_rfl) rfl (by simp [h24])) ?_
    refine AWp.ret ?_
    obtain rfl := some_inj hr
    refine fin_ret ?_
    simp
  · have hr := cond_f h24 hr
    refine AWp.skip ?_
    obtain ⟨r2, h25, hr⟩ := bind_some' hr
    obtain ⟨r3, h26, hr⟩ := bind_some' hr
    cases h27 : r3.1 with
    | none =>
      have hr := optC_n h27 hr
      refine AWp.then ⟨[⟨5, none, .lit (.pointer none)⟩, ⟨7, none, .lit (.bool r3.2.2)⟩, ⟨0, none, .sl (x0.map eTxt) .no⟩, ⟨1, none, .lit (.int .u16 x1)⟩], [.blk r3.2.1.enc]⟩ (AWp.reg Try.tyOk hΓ (keep := [5, 7]) (dead := [15]) (by kernel_rfl) rfl (by simp [h24, h25, h26, h27])) ?_
      refine AWp.seq ?_
      refine AWp.then ⟨[⟨23, none, .lit (.bool (notB r3.2.2))⟩, ⟨5, none, .lit (.pointer none)⟩, ⟨0, none, .sl (x0.map eTxt) .no⟩, ⟨1, none, .lit (.int .u16 x1)⟩], [.blk r3.2.1.enc]⟩ (AWp.reg Try.tyOk hΓ (keep := [23]) (dead := [7]) (by kernel_rfl) rfl (by simp)) ?_
      refine AWp.cond (b := (notB r3.2.2)) (by simp) (fun h28 => ?_) (fun h28 => ?_)
      · have hr := cond_t h28 hr
        refine AWp.then ⟨[⟨4, none, .lit (.bool false)⟩], [.blk r3.2.1.enc]⟩ (AWp.reg Try.tyOk hΓ (keep := [4]) (dead := [23, 5, 0, 1]) (by kernel_rfl) rfl (by simp [h28])) ?_
        refine AWp.ret ?_
        obtain rfl := some_inj hr
        refine fin_ret ?_
        simp
      · have hr := cond_f h28 hr
        refine AWp.skip ?_
        refine AWp.seq ?_
        refine AWp.then ⟨[⟨8, none, .lit (.int .i64 0)⟩, ⟨5, none, .lit (.pointer none)⟩, ⟨0, none, .sl (x0.map eTxt) .no⟩, ⟨1, none, .lit (.int .u16 x1)⟩], [.blk r3.2.1.enc]⟩ (AWp.reg Try.tyOk hΓ (keep := [8]) (dead := [23]) (by kernel_rfl) rfl (by simp [h28])) ?_
        refine AWp.loopE (fun (s1 : Unit) (γ1 : Unit) => ⟨[⟨8, none, .lit (.int .i64 0)⟩, ⟨5, none, .lit (.pointer none)⟩, ⟨0, none, .sl (x0.map eTxt) .no⟩, ⟨1, none, .lit (.int .u16 x1)⟩], [.blk r3.2.1.enc]⟩) (fun (v1 : Unit) (γ1a : Unit) => ⟨[⟨5, none, .lit (.pointer none)⟩, ⟨0, none, .sl (x0.map eTxt) .no⟩], [.blk r3.2.1.enc]⟩) (gLaw11IngressSounds.fin x0 x1) hr () 1 (by simp) (fun s1 f γ1 hr => ?_) (fun v1 γ1a σ1 m1 hr hc => ?_) (fun _ h => h)
        · unfold gLaw11IngressSounds.loop1 at hr
          refine AWp.seq ?_
          refine AWp.then ⟨[⟨31, none, .lit (.bool (pickB (ltI 0 (lenL x0)) (ltI 0 30) false))⟩, ⟨8, none, .lit (.int .i64 0)⟩, ⟨5, none, .lit (.pointer none)⟩, ⟨0, none, .sl (x0.map eTxt) .no⟩, ⟨1, none, .lit (.int .u16 x1)⟩], [.blk r3.2.1.enc]⟩ (AWp.reg Try.tyOk hΓ (keep := [31]) (dead := []) (by kernel_rfl) rfl (by simp)) ?_
          refine AWp.cond (b := (pickB (ltI 0 (lenL x0)) (ltI 0 30) false)) (by simp) (fun h29 => ?_) (fun h29 => ?_)
          · have hr := cond_t h29 hr
            refine AWp.skip ?_
            refine AWp.seq ?_
            refine AWp.block ?_
            obtain ⟨h30, hr⟩ := need_some hr
            obtain ⟨r4, h31, hr⟩ := bind_some' hr
            refine AWp.then ⟨[⟨9, none, .lit (.string r4)⟩, ⟨8, none, .lit (.int .i64 0)⟩, ⟨5, none, .lit (.pointer none)⟩, ⟨0, none, .sl (x0.map eTxt) .no⟩, ⟨1, none, .lit (.int .u16 x1)⟩], [.blk r3.2.1.enc]⟩ (AWp.reg Try.tyOk hΓ (keep := [9]) (dead := [31]) (by kernel_rfl) rfl (by simp [h29, h30, h31])) ?_
            refine AWp.seq ?_
            cases hr
          · have hr := cond_f h29 hr
            refine AWp.exit ?_
            obtain rfl := some_inj hr
            exact round_out () 1 (by first | (simp; done) | simp [h23, h24, h25, h26, h27, h28, h29])
        · refine AWp.conv hc ?_
          refine AWp.seq ?_
          cases hr
    | some o1 =>
      have hr := optC_s h27 hr
      refine AWp.then ⟨[⟨5, none, .ptr 9 0⟩, ⟨7, none, .lit (.bool r3.2.2)⟩, ⟨0, none, .sl (x0.map eTxt) .no⟩, ⟨1, none, .lit (.int .u16 x1)⟩], [.dead, .dead, .dead, .dead, .mapo (encM (kI .i64) (vA Antiphonref09Thing.enc) o1.fBuffer.fOf), .blk (o1.fBuffer.fConfig.enc ++ [.lit (.bool o1.fBuffer.fBegun), .lit (.int .i64 o1.fBuffer.fNext), .mp 4, .lit (.int .i64 o1.fBuffer.fLost)]), .dead, .blk o1.fMaker.enc, .mapo (encM (kI .i64) (vA Antiphonref03Packet.enc) o1.fOf), .blk ([.ptr 5 0, .ptr 7 0] ++ o1.fSeq.enc ++ o1.fClock.enc ++ [.mp 8, .lit (.int .i64 o1.fBad), .lit (.int .i64 o1.fKeys)]), .blk r3.2.1.enc]⟩ (AWp.reg Try.tyOk hΓ (keep := [5, 7]) (dead := [15]) (by kernel_rfl) rfl (by simp [h24, h25, h26, h27])) ?_
      refine AWp.seq ?_
      refine AWp.then ⟨[⟨23, none, .lit (.bool (notB r3.2.2))⟩, ⟨5, none, .ptr 9 0⟩, ⟨0, none, .sl (x0.map eTxt) .no⟩, ⟨1, none, .lit (.int .u16 x1)⟩], [.dead, .dead, .dead, .dead, .mapo (encM (kI .i64) (vA Antiphonref09Thing.enc) o1.fBuffer.fOf), .blk (o1.fBuffer.fConfig.enc ++ [.lit (.bool o1.fBuffer.fBegun), .lit (.int .i64 o1.fBuffer.fNext), .mp 4, .lit (.int .i64 o1.fBuffer.fLost)]), .dead, .blk o1.fMaker.enc, .mapo (encM (kI .i64) (vA Antiphonref03Packet.enc) o1.fOf), .blk ([.ptr 5 0, .ptr 7 0] ++ o1.fSeq.enc ++ o1.fClock.enc ++ [.mp 8, .lit (.int .i64 o1.fBad), .lit (.int .i64 o1.fKeys)]), .blk r3.2.1.enc]⟩ (AWp.reg Try.tyOk hΓ (keep := [23]) (dead := [7]) (by kernel_rfl) rfl (by simp)) ?_
      refine AWp.cond (b := (notB r3.2.2)) (by simp) (fun h32 => ?_) (fun h32 => ?_)
      · have hr := cond_t h32 hr
        refine AWp.then ⟨[⟨4, none, .lit (.bool false)⟩], [.dead, .dead, .dead, .dead, .mapo (encM (kI .i64) (vA Antiphonref09Thing.enc) o1.fBuffer.fOf), .blk (o1.fBuffer.fConfig.enc ++ [.lit (.bool o1.fBuffer.fBegun), .lit (.int .i64 o1.fBuffer.fNext), .mp 4, .lit (.int .i64 o1.fBuffer.fLost)]), .dead, .blk o1.fMaker.enc, .mapo (encM (kI .i64) (vA Antiphonref03Packet.enc) o1.fOf), .blk ([.ptr 5 0, .ptr 7 0] ++ o1.fSeq.enc ++ o1.fClock.enc ++ [.mp 8, .lit (.int .i64 o1.fBad), .lit (.int .i64 o1.fKeys)]), .blk r3.2.1.enc]⟩ (AWp.reg Try.tyOk hΓ (keep := [4]) (dead := [23, 5, 0, 1]) (by kernel_rfl) rfl (by simp [h32])) ?_
        refine AWp.ret ?_
        obtain rfl := some_inj hr
        refine fin_ret ?_
        simp
      · have hr := cond_f h32 hr
        refine AWp.skip ?_
        refine AWp.seq ?_
        refine AWp.then ⟨[⟨8, none, .lit (.int .i64 0)⟩, ⟨5, none, .ptr 9 0⟩, ⟨0, none, .sl (x0.map eTxt) .no⟩, ⟨1, none, .lit (.int .u16 x1)⟩], [.dead, .dead, .dead, .dead, .mapo (encM (kI .i64) (vA Antiphonref09Thing.enc) o1.fBuffer.fOf), .blk (o1.fBuffer.fConfig.enc ++ [.lit (.bool o1.fBuffer.fBegun), .lit (.int .i64 o1.fBuffer.fNext), .mp 4, .lit (.int .i64 o1.fBuffer.fLost)]), .dead, .blk o1.fMaker.enc, .mapo (encM (kI .i64) (vA Antiphonref03Packet.enc) o1.fOf), .blk ([.ptr 5 0, .ptr 7 0] ++ o1.fSeq.enc ++ o1.fClock.enc ++ [.mp 8, .lit (.int .i64 o1.fBad), .lit (.int .i64 o1.fKeys)]), .blk r3.2.1.enc]⟩ (AWp.reg Try.tyOk hΓ (keep := [8]) (dead := [23]) (by kernel_rfl) rfl (by simp [h32])) ?_
        refine AWp.loopE (fun (s2 : Int × (List (Int × Antiphonref09Thing)) × ReorderConfig × Bool × Int × Int × FrameMaker × (List (Int × Antiphonref03Packet)) × ExtendSeq × ExtendClock × Int × Int) (γ2 : Unit) => ⟨[⟨8, none, .lit (.int .i64 s2.1)⟩, ⟨5, none, .ptr 9 0⟩, ⟨0, none, .sl (x0.map eTxt) .no⟩, ⟨1, none, .lit (.int .u16 x1)⟩], [.dead, .dead, .dead, .dead, .mapo (encM (kI .i64) (vA Antiphonref09Thing.enc) s2.2.1), .blk (s2.2.2.1.enc ++ [.lit (.bool s2.2.2.2.1), .lit (.int .i64 s2.2.2.2.2.1), .mp 4, .lit (.int .i64 s2.2.2.2.2.2.1)]), .dead, .blk s2.2.2.2.2.2.2.1.enc, .mapo (encM (kI .i64) (vA Antiphonref03Packet.enc) s2.2.2.2.2.2.2.2.1), .blk ([.ptr 5 0, .ptr 7 0] ++ s2.2.2.2.2.2.2.2.2.1.enc ++ s2.2.2.2.2.2.2.2.2.2.1.enc ++ [.mp 8, .lit (.int .i64 s2.2.2.2.2.2.2.2.2.2.2.1), .lit (.int .i64 s2.2.2.2.2.2.2.2.2.2.2.2)]), .blk r3.2.1.enc]⟩) (fun (v2 : (List (Int × Antiphonref09Thing)) × ReorderConfig × Bool × Int × Int × FrameMaker × (List (Int × Antiphonref03Packet)) × ExtendSeq × ExtendClock × Int × Int) (γ2a : Unit) => ⟨[⟨5, none, .ptr 9 0⟩, ⟨0, none, .sl (x0.map eTxt) .no⟩], [.dead, .dead, .dead, .dead, .mapo (encM (kI .i64) (vA Antiphonref09Thing.enc) v2.1), .blk (v2.2.1.enc ++ [.lit (.bool v2.2.2.1), .lit (.int .i64 v2.2.2.2.1), .mp 4, .lit (.int .i64 v2.2.2.2.2.1)]), .dead, .blk v2.2.2.2.2.2.1.enc, .mapo (encM (kI .i64) (vA Antiphonref03Packet.enc) v2.2.2.2.2.2.2.1), .blk ([.ptr 5 0, .ptr 7 0] ++ v2.2.2.2.2.2.2.2.1.enc ++ v2.2.2.2.2.2.2.2.2.1.enc ++ [.mp 8, .lit (.int .i64 v2.2.2.2.2.2.2.2.2.2.1), .lit (.int .i64 v2.2.2.2.2.2.2.2.2.2.2)]), .blk r3.2.1.enc]⟩) (gLaw11IngressSounds.fin x0 x1) hr () 11 (by simp) (fun s2 f γ2 hr => ?_) (fun v2 γ2a σ1 m1 hr hc => ?_) (fun _ h => h)
        · unfold gLaw11IngressSounds.loop2 at hr
          refine AWp.seq ?_
          refine AWp.then ⟨[⟨31, none, .lit (.bool (pickB (ltI s2.1 (lenL x0)) (ltI s2.1 30) false))⟩, ⟨8, none, .lit (.int .i64 s2.1)⟩, ⟨5, none, .ptr 9 0⟩, ⟨0, none, .sl (x0.map eTxt) .no⟩, ⟨1, none, .lit (.int .u16 x1)⟩], [.dead, .dead, .dead, .dead, .mapo (encM (kI .i64) (vA Antiphonref09Thing.enc) s2.2.1), .blk (s2.2.2.1.enc ++ [.lit (.bool s2.2.2.2.1), .lit (.int .i64 s2.2.2.2.2.1), .mp 4, .lit (.int .i64 s2.2.2.2.2.2.1)]), .dead, .blk s2.2.2.2.2.2.2.1.enc, .mapo (encM (kI .i64) (vA Antiphonref03Packet.enc) s2.2.2.2.2.2.2.2.1), .blk ([.ptr 5 0, .ptr 7 0] ++ s2.2.2.2.2.2.2.2.2.1.enc ++ s2.2.2.2.2.2.2.2.2.2.1.enc ++ [.mp 8, .lit (.int .i64 s2.2.2.2.2.2.2.2.2.2.2.1), .lit (.int .i64 s2.2.2.2.2.2.2.2.2.2.2.2)]), .blk r3.2.1.enc]⟩ (AWp.reg Try.tyOk hΓ (keep := [31]) (dead := []) (by kernel_rfl) rfl (by simp)) ?_
          refine AWp.cond (b := (pickB (ltI s2.1 (lenL x0)) (ltI s2.1 30) false)) (by simp) (fun h33 => ?_) (fun h33 => ?_)
          · have hr := cond_t h33 hr
            refine AWp.skip ?_
            refine AWp.seq ?_
            refine AWp.block ?_
            obtain ⟨h34, hr⟩ := need_some hr
            obtain ⟨r4, h35, hr⟩ := bind_some' hr
            refine AWp.then ⟨[⟨9, none, .lit (.string r4)⟩, ⟨8, none, .lit (.int .i64 s2.1)⟩, ⟨5, none, .ptr 9 0⟩, ⟨0, none, .sl (x0.map eTxt) .no⟩, ⟨1, none, .lit (.int .u16 x1)⟩], [.dead, .dead, .dead, .dead, .mapo (encM (kI .i64) (vA Antiphonref09Thing.enc) s2.2.1), .blk (s2.2.2.1.enc ++ [.lit (.bool s2.2.2.2.1), .lit (.int .i64 s2.2.2.2.2.1), .mp 4, .lit (.int .i64 s2.2.2.2.2.2.1)]), .dead, .blk s2.2.2.2.2.2.2.1.enc, .mapo (encM (kI .i64) (vA Antiphonref03Packet.enc) s2.2.2.2.2.2.2.2.1), .blk ([.ptr 5 0, .ptr 7 0] ++ s2.2.2.2.2.2.2.2.2.1.enc ++ s2.2.2.2.2.2.2.2.2.2.1.enc ++ [.mp 8, .lit (.int .i64 s2.2.2.2.2.2.2.2.2.2.2.1), .lit (.int .i64 s2.2.2.2.2.2.2.2.2.2.2.2)]), .blk r3.2.1.enc]⟩ (AWp.reg Try.tyOk hΓ (keep := [9]) (dead := [31]) (by kernel_rfl) rfl (by simp [h33, h34, h35])) ?_
            obtain ⟨r5, h36, hr⟩ := bind_some' hr
            refine AWp.then ⟨[⟨10, none, .sl (r5.1.map FrameFrame.enc) .no⟩, ⟨11, none, .lit (.int .i64 r5.2.1)⟩, ⟨9, none, .lit (.string r4)⟩, ⟨8, none, .lit (.int .i64 s2.1)⟩, ⟨5, none, .ptr 9 0⟩, ⟨0, none, .sl (x0.map eTxt) .no⟩, ⟨1, none, .lit (.int .u16 x1)⟩], [.dead, .dead, .dead, .dead, .mapo (encM (kI .i64) (vA Antiphonref09Thing.enc) r5.2.2.fBuffer.fOf), .blk (r5.2.2.fBuffer.fConfig.enc ++ [.lit (.bool r5.2.2.fBuffer.fBegun), .lit (.int .i64 r5.2.2.fBuffer.fNext), .mp 4, .lit (.int .i64 r5.2.2.fBuffer.fLost)]), .dead, .blk r5.2.2.fMaker.enc, .mapo (encM (kI .i64) (vA Antiphonref03Packet.enc) r5.2.2.fOf), .blk ([.ptr 5 0, .ptr 7 0] ++ r5.2.2.fSeq.enc ++ r5.2.2.fClock.enc ++ [.mp 8, .lit (.int .i64 r5.2.2.fBad), .lit (.int .i64 r5.2.2.fKeys)]), .blk r3.2.1.enc]⟩ (AWp.reg Try.tyOk hΓ (keep := [10, 11]) (dead := []) (by kernel_rfl) rfl (by simp [h36])) ?_
            obtain ⟨h37, hr⟩ := need_some hr
            obtain ⟨h38, hr⟩ := need_some hr
            obtain ⟨h39, hr⟩ := need_some hr
            obtain ⟨h40, hr⟩ := need_some hr
            obtain ⟨h41, hr⟩ := need_some hr
            refine AWp.then ⟨[⟨85, none, .lit (.bool (pickB (pickB (pickB (pickB (neI r5.2.1 0) true (neI (lenL r5.1) 1)) true (neI (lenL ((nthI r5.1 0).fUnits)) 1)) true (neS ((nthI ((nthI r5.1 0).fUnits) 0).fText) r4)) true ((gFrameFrameKey (nthI r5.1 0)).getD dflt)))⟩, ⟨8, none, .lit (.int .i64 s2.1)⟩, ⟨5, none, .ptr 9 0⟩, ⟨0, none, .sl (x0.map eTxt) .no⟩, ⟨1, none, .lit (.int .u16 x1)⟩], [.dead, .dead, .dead, .dead, .mapo (encM (kI .i64) (vA Antiphonref09Thing.enc) r5.2.2.fBuffer.fOf), .blk (r5.2.2.fBuffer.fConfig.enc ++ [.lit (.bool r5.2.2.fBuffer.fBegun), .lit (.int .i64 r5.2.2.fBuffer.fNext), .mp 4, .lit (.int .i64 r5.2.2.fBuffer.fLost)]), .dead, .blk r5.2.2.fMaker.enc, .mapo (encM (kI .i64) (vA Antiphonref03Packet.enc) r5.2.2.fOf), .blk ([.ptr 5 0, .ptr 7 0] ++ r5.2.2.fSeq.enc ++ r5.2.2.fClock.enc ++ [.mp 8, .lit (.int .i64 r5.2.2.fBad), .lit (.int .i64 r5.2.2.fKeys)]), .blk r3.2.1.enc]⟩ (AWp.reg Try.tyOk hΓ (keep := [85]) (dead := [10, 11, 9]) (by kernel_rfl) rfl (by simp [h37, h38, h39, h40, h41])) ?_
            refine AWp.cond (b := (pickB (pickB (pickB (pickB (neI r5.2.1 0) true (neI (lenL r5.1) 1)) true (neI (lenL ((nthI r5.1 0).fUnits)) 1)) true (neS ((nthI ((nthI r5.1 0).fUnits) 0).fText) r4)) true ((gFrameFrameKey (nthI r5.1 0)).getD dflt))) (by simp) (fun h42 => ?_) (fun h42 => ?_)
            · have hr := cond_t h42 hr
              refine AWp.then ⟨[⟨4, none, .lit (.bool false)⟩], [.dead, .dead, .dead, .dead, .mapo (encM (kI .i64) (vA Antiphonref09Thing.enc) r5.2.2.fBuffer.fOf), .blk (r5.2.2.fBuffer.fConfig.enc ++ [.lit (.bool r5.2.2.fBuffer.fBegun), .lit (.int .i64 r5.2.2.fBuffer.fNext), .mp 4, .lit (.int .i64 r5.2.2.fBuffer.fLost)]), .dead, .blk r5.2.2.fMaker.enc, .mapo (encM (kI .i64) (vA Antiphonref03Packet.enc) r5.2.2.fOf), .blk ([.ptr 5 0, .ptr 7 0] ++ r5.2.2.fSeq.enc ++ r5.2.2.fClock.enc ++ [.mp 8, .lit (.int .i64 r5.2.2.fBad), .lit (.int .i64 r5.2.2.fKeys)]), .blk r3.2.1.enc]⟩ (AWp.reg Try.tyOk hΓ (keep := [4]) (dead := [85, 8, 5, 0, 1]) (by kernel_rfl) rfl (by simp [h42])) ?_
              refine AWp.ret ?_
              obtain rfl := some_inj hr
              refine round_ret ?_
              refine fin_ret ?_
              simp
            · have hr := cond_f h42 hr
              refine AWp.skip ?_
              refine AWp.last ⟨[⟨8, none, .lit (.int .i64 (addI .i64 s2.1 1))⟩, ⟨5, none, .ptr 9 0⟩, ⟨0, none, .sl (x0.map eTxt) .no⟩, ⟨1, none, .lit (.int .u16 x1)⟩], [.dead, .dead, .dead, .dead, .mapo (encM (kI .i64) (vA Antiphonref09Thing.enc) r5.2.2.fBuffer.fOf), .blk (r5.2.2.fBuffer.fConfig.enc ++ [.lit (.bool r5.2.2.fBuffer.fBegun), .lit (.int .i64 r5.2.2.fBuffer.fNext), .mp 4, .lit (.int .i64 r5.2.2.fBuffer.fLost)]), .dead, .blk r5.2.2.fMaker.enc, .mapo (encM (kI .i64) (vA Antiphonref03Packet.enc) r5.2.2.fOf), .blk ([.ptr 5 0, .ptr 7 0] ++ r5.2.2.fSeq.enc ++ r5.2.2.fClock.enc ++ [.mp 8, .lit (.int .i64 r5.2.2.fBad), .lit (.int .i64 r5.2.2.fKeys)]), .blk r3.2.1.enc]⟩ (AWp.reg Try.tyOk hΓ (keep := [8]) (dead := [85]) (by kernel_rfl) rfl (by simp [h42])) ?_
              obtain rfl := some_inj hr
              exact round_go () 11 (by first | (simp; done) | simp [h23, h24, h25, h26, h27, h32, h33, h34, h35, h36, h37, h38, h39, h40, h41, h42])
          · have hr := cond_f h33 hr
            refine AWp.exit ?_
            obtain rfl := some_inj hr
            exact round_out () 11 (by first | (simp; done) | simp [h23, h24, h25, h26, h27, h32, h33])
        · refine AWp.conv hc ?_
          obtain ⟨r6, h43, hr⟩ := bind_some' hr
          refine AWp.then ⟨[⟨12, none, .lit (.int .i64 r6.1)⟩, ⟨13, none, .lit (.int .i64 r6.2)⟩, ⟨5, none, .ptr 9 0⟩, ⟨0, none, .sl (x0.map eTxt) .no⟩], [.dead, .dead, .dead, .dead, .mapo (encM (kI .i64) (vA Antiphonref09Thing.enc) v2.1), .blk (v2.2.1.enc ++ [.lit (.bool v2.2.2.1), .lit (.int .i64 v2.2.2.2.1), .mp 4, .lit (.int .i64 v2.2.2.2.2.1)]), .dead, .blk v2.2.2.2.2.2.1.enc, .mapo (encM (kI .i64) (vA Antiphonref03Packet.enc) v2.2.2.2.2.2.2.1), .blk ([.ptr 5 0, .ptr 7 0] ++ v2.2.2.2.2.2.2.2.1.enc ++ v2.2.2.2.2.2.2.2.2.1.enc ++ [.mp 8, .lit (.int .i64 v2.2.2.2.2.2.2.2.2.2.1), .lit (.int .i64 v2.2.2.2.2.2.2.2.2.2.2)]), .blk r3.2.1.enc]⟩ (AWp.reg Try.tyOk hΓ (keep := [12, 13]) (dead := []) (by kernel_rfl) rfl (by simp [h43])) ?_
          obtain ⟨h44, hr⟩ := need_some hr
          refine AWp.then ⟨[⟨4, none, .lit (.bool (pickB (pickB (eqI r6.1 (minI (lenL x0) 30)) (eqI r6.2 0) false) (eqI ((gIngressSourceBad (IngressSource.mk (ReorderBuffer.mk v2.2.1 v2.2.2.1 v2.2.2.2.1 v2.1 v2.2.2.2.2.1) v2.2.2.2.2.2.1 v2.2.2.2.2.2.2.2.1 v2.2.2.2.2.2.2.2.2.1 v2.2.2.2.2.2.2.1 v2.2.2.2.2.2.2.2.2.2.1 v2.2.2.2.2.2.2.2.2.2.2)).getD dflt) 0) false))⟩], [.dead, .dead, .dead, .dead, .mapo (encM (kI .i64) (vA Antiphonref09Thing.enc) v2.1), .blk (v2.2.1.enc ++ [.lit (.bool v2.2.2.1), .lit (.int .i64 v2.2.2.2.1), .mp 4, .lit (.int .i64 v2.2.2.2.2.1)]), .dead, .blk v2.2.2.2.2.2.1.enc, .mapo (encM (kI .i64) (vA Antiphonref03Packet.enc) v2.2.2.2.2.2.2.1), .blk ([.ptr 5 0, .ptr 7 0] ++ v2.2.2.2.2.2.2.2.1.enc ++ v2.2.2.2.2.2.2.2.2.1.enc ++ [.mp 8, .lit (.int .i64 v2.2.2.2.2.2.2.2.2.2.1), .lit (.int .i64 v2.2.2.2.2.2.2.2.2.2.2)]), .blk r3.2.1.enc]⟩ (AWp.reg Try.tyOk hΓ (keep := [4]) (dead := [12, 13, 5, 0]) (by kernel_rfl) rfl (by simp [h44])) ?_
          refine AWp.ret ?_
          obtain rfl := some_inj hr
          refine fin_ret ?_
          simp

@[simp] noncomputable def gLaw11IngressSounds.S : Sp
  | [.sl e0 _, .lit (.int .u16 x1)], _ => some { av := .lit (.bool ((gLaw11IngressSounds (e0.map decS) x1).getD dflt)), M := none, obl := e0 = (e0.map decS).map eTxt ∧ (gLaw11IngressSounds (e0.map decS) x1).isSome = true }
  | _, _ => none

set_option maxHeartbeats 1000000 in
theorem gLaw11IngressSounds.ok : SpecOk Try.prog 4 gLaw11IngressSounds.S := by
  intro l M out h
  unfold gLaw11IngressSounds.S at h
  split at h
  · rename_i e0 k0 x1
    cases h
    refine callOk_of fun ho => ?_
    obtain ⟨ox0, hs⟩ := ho
    generalize (e0.map decS) = x0 at *
    subst ox0
    obtain ⟨r, hr⟩ := Option.isSome_iff_exists.1 hs
    simp only [hr, Option.getD_some]
    have q := call_frame (M := M) [] (gLaw11IngressSounds.can x0 x1 r hr) (by simp) rfl (by intro k i hk; simp at hk)
    exact callOk_conv q trivial (by simp) (by simp [frameOut, gLaw11IngressSounds.out]) (by simp [frameOut, gLaw11IngressSounds.out])
  · cases h
end Go.Proofs

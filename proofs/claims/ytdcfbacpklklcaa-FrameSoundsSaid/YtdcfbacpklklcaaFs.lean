/- That these functions compute what their plain functions do. No condition. -/
import Derived.Test.YtdcfbacpklklcaaFsD
import Derived.Test.YtdcfbacpklklcaaTy
import Derived.Test.YtdcfbacpklklcaaFr
import Derived.Test.YtdcfbacpklklcaaWf
namespace Go.Proofs
open Go.Ab
@[simp] def gLaw10FrameSounds.out (_x0 : List Int) (_x1 : Int) (r : Bool) : Out := { av := .lit (.bool r), M := none }
def gLaw10FrameSounds.fin (x0 : List Int) (x1 : Int) (r : Bool) (σ : St) : Prop := finK (gLaw10FrameSounds.out x0 x1 r) [] σ.M (resA Try.ty σ.A σ.M Try.f3.results.toList)
set_option maxHeartbeats 4000000 in
set_option maxRecDepth 100000 in
theorem gLaw10FrameSounds.can (x0 : List Int) (x1 : Int) (r : Bool) (hr : gLaw10FrameSounds x0 x1 = some r) : CallOk Try.prog 3 [.sl (x0.map (encI .i64)) .no, .lit (.int .i64 x1)] [] (gLaw10FrameSounds.out x0 x1 r) := by
  unfold gLaw10FrameSounds at hr
  have hΓ := (gamL_cons gFrameMakerCounts.ok (gamL_cons gFrameMakerOpen.ok (gamL_cons gFrameMakerPut.ok (gamL_cons gFrameFrameSize.ok (gamL_cons gLaw10Awake.ok (gamL_cons gFrameNew.ok (gamL_nil)))))) : GamOk Try.prog _)
  refine call_of_awp Try.tyOk Try.func3 rfl (by kernel_rfl) rfl rfl (by simp) ?_
  intro _ _ _
  refine AWp.then ⟨[⟨0, none, .sl (x0.map (encI .i64)) .no⟩, ⟨1, none, .lit (.int .i64 x1)⟩], []⟩ (AWp.reg Try.tyOk hΓ (keep := []) (dead := []) (by kernel_rfl) rfl (by simp)) ?_
  refine AWp.seq ?_
  obtain ⟨r1, h21, hr⟩ := bind_some' hr
  refine AWp.then ⟨[⟨16, none, .lit (.bool (notB r1))⟩, ⟨0, none, .sl (x0.map (encI .i64)) .no⟩, ⟨1, none, .lit (.int .i64 x1)⟩], []⟩ (AWp.reg Try.tyOk hΓ (keep := [16]) (dead := []) (by kernel_rfl) rfl (by simp [h21])) ?_
  refine AWp.cond (b := (notB r1)) (by simp) (fun h22 => ?_) (fun h22 => ?_)
  · have hr := cond_t h22 hr
    refine AWp.then ⟨[⟨4, none, .lit (.bool false)⟩], []⟩ (AWp.reg Try.tyOk hΓ (keep := [4]) (dead := [16, 0, 1]) (by kernel_rfl) rfl (by simp [h22])) ?_
    refine AWp.ret ?_
    obtain rfl := some_inj hr
    refine fin_ret ?_
    simp
  · have hr := cond_f h22 hr
    refine AWp.skip ?_
    refine AWp.then ⟨[⟨1, none, .lit (.int .i64 (addI .i64 1 (bitsOp .and .i64 x1 31)))⟩, ⟨0, none, .sl (x0.map (encI .i64)) .no⟩], []⟩ (AWp.reg Try.tyOk hΓ (keep := [1]) (dead := [16]) (by kernel_rfl) rfl (by simp [h22])) ?_
    obtain ⟨r2, h23, hr⟩ := bind_some' hr
    cases h24 : r2.1 with
    | none =>
      have hr := optC_n h24 hr
      refine AWp.then ⟨[⟨5, none, .lit (.pointer none)⟩, ⟨6, none, .lit (.int .i64 r2.2)⟩, ⟨1, none, .lit (.int .i64 (addI .i64 1 (bitsOp .and .i64 x1 31)))⟩, ⟨0, none, .sl (x0.map (encI .i64)) .no⟩], []⟩ (AWp.reg Try.tyOk hΓ (keep := [5, 6]) (dead := []) (by kernel_rfl) rfl (by simp [h23, h24])) ?_
      refine AWp.seq ?_
      refine AWp.then ⟨[⟨27, none, .lit (.bool (neI r2.2 0))⟩, ⟨5, none, .lit (.pointer none)⟩, ⟨1, none, .lit (.int .i64 (addI .i64 1 (bitsOp .and .i64 x1 31)))⟩, ⟨0, none, .sl (x0.map (encI .i64)) .no⟩], []⟩ (AWp.reg Try.tyOk hΓ (keep := [27]) (dead := [6]) (by kernel_rfl) rfl (by simp)) ?_
      refine AWp.cond (b := (neI r2.2 0)) (by simp) (fun h25 => ?_) (fun h25 => ?_)
      · have hr := cond_t h25 hr
        refine AWp.then ⟨[⟨4, none, .lit (.bool false)⟩], []⟩ (AWp.reg Try.tyOk hΓ (keep := [4]) (dead := [27, 5, 1, 0]) (by kernel_rfl) rfl (by simp [h25])) ?_
        refine AWp.ret ?_
        obtain rfl := some_inj hr
        refine fin_ret ?_
        simp
      · have hr := cond_f h25 hr
        refine AWp.skip ?_
        refine AWp.then ⟨[⟨7, none, .lit (.int .i64 0)⟩, ⟨8, none, .lit (.int .i64 0)⟩, ⟨5, none, .lit (.pointer none)⟩, ⟨1, none, .lit (.int .i64 (addI .i64 1 (bitsOp .and .i64 x1 31)))⟩, ⟨0, none, .sl (x0.map (encI .i64)) .no⟩], []⟩ (AWp.reg Try.tyOk hΓ (keep := [7, 8]) (dead := [27]) (by kernel_rfl) rfl (by simp [h25])) ?_
        refine AWp.seq ?_
        refine AWp.then ⟨[⟨9, none, .lit (.int .i64 0)⟩, ⟨7, none, .lit (.int .i64 0)⟩, ⟨8, none, .lit (.int .i64 0)⟩, ⟨5, none, .lit (.pointer none)⟩, ⟨1, none, .lit (.int .i64 (addI .i64 1 (bitsOp .and .i64 x1 31)))⟩, ⟨0, none, .sl (x0.map (encI .i64)) .no⟩], []⟩ (AWp.reg Try.tyOk hΓ (keep := [9]) (dead := []) (by kernel_rfl) rfl (by simp)) ?_
        refine AWp.loopE (fun (s1 : Unit) (γ1 : Unit) => ⟨[⟨9, none, .lit (.int .i64 0)⟩, ⟨7, none, .lit (.int .i64 0)⟩, ⟨8, none, .lit (.int .i64 0)⟩, ⟨5, none, .lit (.pointer none)⟩, ⟨1, none, .lit (.int .i64 (addI .i64 1 (bitsOp .and .i64 x1 31)))⟩, ⟨0, none, .sl (x0.map (encI .i64)) .no⟩], []⟩) (fun (v1 : Unit) (γ1a : Unit) => ⟨[⟨7, none, .lit (.int .i64 0)⟩, ⟨8, none, .lit (.int .i64 0)⟩, ⟨5, none, .lit (.pointer none)⟩], []⟩) (gLaw10FrameSounds.fin x0 x1) hr () 0 (by simp) (fun s1 f γ1 hr => ?_) (fun v1 γ1a σ1 m1 hr hc => ?_) (fun _ h => h)
        · unfold gLaw10FrameSounds.loop1 at hr
          refine AWp.seq ?_
          refine AWp.then ⟨[⟨35, none, .lit (.bool (pickB (ltI 0 (lenL x0)) (ltI 0 60) false))⟩, ⟨9, none, .lit (.int .i64 0)⟩, ⟨7, none, .lit (.int .i64 0)⟩, ⟨8, none, .lit (.int .i64 0)⟩, ⟨5, none, .lit (.pointer none)⟩, ⟨1, none, .lit (.int .i64 (addI .i64 1 (bitsOp .and .i64 x1 31)))⟩, ⟨0, none, .sl (x0.map (encI .i64)) .no⟩], []⟩ (AWp.reg Try.tyOk hΓ (keep := [35]) (dead := []) (by kernel_rfl) rfl (by simp)) ?_
          refine AWp.cond (b := (pickB (ltI 0 (lenL x0)) (ltI 0 60) false)) (by simp) (fun h26 => ?_) (fun h26 => ?_)
          · have hr := cond_t h26 hr
            refine AWp.skip ?_
            refine AWp.seq ?_
            refine AWp.block ?_
            obtain ⟨h27, hr⟩ := need_some hr
            refine AWp.then ⟨[⟨10, none, .lit (.int .i64 (bitsOp .and .i64 (nthI x0 0) 63))⟩, ⟨9, none, .lit (.int .i64 0)⟩, ⟨7, none, .lit (.int .i64 0)⟩, ⟨8, none, .lit (.int .i64 0)⟩, ⟨5, none, .lit (.pointer none)⟩, ⟨1, none, .lit (.int .i64 (addI .i64 1 (bitsOp .and .i64 x1 31)))⟩, ⟨0, none, .sl (x0.map (encI .i64)) .no⟩], []⟩ (AWp.reg Try.tyOk hΓ (keep := [10]) (dead := [35]) (by kernel_rfl) rfl (by simp [h26, h27])) ?_
            refine AWp.seq ?_
            cases hr
          · have hr := cond_f h26 hr
            refine AWp.exit ?_
            obtain rfl := some_inj hr
            exact round_out () 0 (by simp)
        · refine AWp.conv hc ?_
          refine AWp.seq ?_
          cases hr
    | some o1 =>
      have hr := optC_s h24 hr
      refine AWp.then ⟨[⟨5, none, .ptr 1 0⟩, ⟨6, none, .lit (.int .i64 r2.2)⟩, ⟨1, none, .lit (.int .i64 (addI .i64 1 (bitsOp .and .i64 x1 31)))⟩, ⟨0, none, .sl (x0.map (encI .i64)) .no⟩], [.dead, .blk [.lit (.bool o1.fConfig.fVideo), .lit (.int .i64 o1.fConfig.fBytes), .lit (.int .i64 o1.fConfig.fUnits), .lit (.int .i64 o1.fConfig.fWait), .sl (o1.fOpen.fUnits.map Antiphonref10Unit.enc) .no, .lit (.int .i64 o1.fWhole), .lit (.int .i64 o1.fLost)]]⟩ (AWp.reg Try.tyOk hΓ (keep := [5, 6]) (dead := []) (by kernel_rfl) rfl (by simp [h23, h24])) ?_
      refine AWp.seq ?_
      refine AWp.then ⟨[⟨27, none, .lit (.bool (neI r2.2 0))⟩, ⟨5, none, .ptr 1 0⟩, ⟨1, none, .lit (.int .i64 (addI .i64 1 (bitsOp .and .i64 x1 31)))⟩, ⟨0, none, .sl (x0.map (encI .i64)) .no⟩], [.dead, .blk [.lit (.bool o1.fConfig.fVideo), .lit (.int .i64 o1.fConfig.fBytes), .lit (.int .i64 o1.fConfig.fUnits), .lit (.int .i64 o1.fConfig.fWait), .sl (o1.fOpen.fUnits.map Antiphonref10Unit.enc) .no, .lit (.int .i64 o1.fWhole), .lit (.int .i64 o1.fLost)]]⟩ (AWp.reg Try.tyOk hΓ (keep := [27]) (dead := [6]) (by kernel_rfl) rfl (by simp)) ?_
      refine AWp.cond (b := (neI r2.2 0)) (by simp) (fun h28 => ?_) (fun h28 => ?_)
      · have hr := cond_t h28 hr
        refine AWp.then ⟨[⟨4, none, .lit (.bool false)⟩], [.dead, .blk [.lit (.bool o1.fConfig.fVideo), .lit (.int .i64 o1.fConfig.fBytes), .lit (.int .i64 o1.fConfig.fUnits), .lit (.int .i64 o1.fConfig.fWait), .sl (o1.fOpen.fUnits.map Antiphonref10Unit.enc) .no, .lit (.int .i64 o1.fWhole), .lit (.int .i64 o1.fLost)]]⟩ (AWp.reg Try.tyOk hΓ (keep := [4]) (dead := [27, 5, 1, 0]) (by kernel_rfl) rfl (by simp [h28])) ?_
        refine AWp.ret ?_
        obtain rfl := some_inj hr
        refine fin_ret ?_
        simp
      · have hr := cond_f h28 hr
        refine AWp.skip ?_
        refine AWp.then ⟨[⟨7, none, .lit (.int .i64 0)⟩, ⟨8, none, .lit (.int .i64 0)⟩, ⟨5, none, .ptr 1 0⟩, ⟨1, none, .lit (.int .i64 (addI .i64 1 (bitsOp .and .i64 x1 31)))⟩, ⟨0, none, .sl (x0.map (encI .i64)) .no⟩], [.dead, .blk [.lit (.bool o1.fConfig.fVideo), .lit (.int .i64 o1.fConfig.fBytes), .lit (.int .i64 o1.fConfig.fUnits), .lit (.int .i64 o1.fConfig.fWait), .sl (o1.fOpen.fUnits.map Antiphonref10Unit.enc) .no, .lit (.int .i64 o1.fWhole), .lit (.int .i64 o1.fLost)]]⟩ (AWp.reg Try.tyOk hΓ (keep := [7, 8]) (dead := [27]) (by kernel_rfl) rfl (by simp [h28])) ?_
        refine AWp.seq ?_
        refine AWp.then ⟨[⟨9, none, .lit (.int .i64 0)⟩, ⟨7, none, .lit (.int .i64 0)⟩, ⟨8, none, .lit (.int .i64 0)⟩, ⟨5, none, .ptr 1 0⟩, ⟨1, none, .lit (.int .i64 (addI .i64 1 (bitsOp .and .i64 x1 31)))⟩, ⟨0, none, .sl (x0.map (encI .i64)) .no⟩], [.dead, .blk [.lit (.bool o1.fConfig.fVideo), .lit (.int .i64 o1.fConfig.fBytes), .lit (.int .i64 o1.fConfig.fUnits), .lit (.int .i64 o1.fConfig.fWait), .sl (o1.fOpen.fUnits.map Antiphonref10Unit.enc) .no, .lit (.int .i64 o1.fWhole), .lit (.int .i64 o1.fLost)]]⟩ (AWp.reg Try.tyOk hΓ (keep := [9]) (dead := []) (by kernel_rfl) rfl (by simp)) ?_
        refine AWp.loopE (fun (s3 : Int × Int × Int × FrameMaker) (γ3 : Unit) => ⟨[⟨9, none, .lit (.int .i64 s3.1)⟩, ⟨7, none, .lit (.int .i64 s3.2.1)⟩, ⟨8, none, .lit (.int .i64 s3.2.2.1)⟩, ⟨5, none, .ptr 1 0⟩, ⟨1, none, .lit (.int .i64 (addI .i64 1 (bitsOp .and .i64 x1 31)))⟩, ⟨0, none, .sl (x0.map (encI .i64)) .no⟩], [.dead, .blk [.lit (.bool s3.2.2.2.fConfig.fVideo), .lit (.int .i64 s3.2.2.2.fConfig.fBytes), .lit (.int .i64 s3.2.2.2.fConfig.fUnits), .lit (.int .i64 s3.2.2.2.fConfig.fWait), .sl (s3.2.2.2.fOpen.fUnits.map Antiphonref10Unit.enc) .no, .lit (.int .i64 s3.2.2.2.fWhole), .lit (.int .i64 s3.2.2.2.fLost)]]⟩) (fun (v3 : Int × Int × FrameMaker) (γ3a : Unit) => ⟨[⟨7, none, .lit (.int .i64 v3.1)⟩, ⟨8, none, .lit (.int .i64 v3.2.1)⟩, ⟨5, none, .ptr 1 0⟩], [.dead, .blk [.lit (.bool v3.2.2.fConfig.fVideo), .lit (.int .i64 v3.2.2.fConfig.fBytes), .lit (.int .i64 v3.2.2.fConfig.fUnits), .lit (.int .i64 v3.2.2.fConfig.fWait), .sl (v3.2.2.fOpen.fUnits.map Antiphonref10Unit.enc) .no, .lit (.int .i64 v3.2.2.fWhole), .lit (.int .i64 v3.2.2.fLost)]]⟩) (gLaw10FrameSounds.fin x0 x1) hr () 2 (by simp) (fun s3 f γ3 hr => ?_) (fun v3 γ3a σ1 m1 hr hc => ?_) (fun _ h => h)
        · unfold gLaw10FrameSounds.loop3 at hr
          refine AWp.seq ?_
          refine AWp.then ⟨[⟨35, none, .lit (.bool (pickB (ltI s3.1 (lenL x0)) (ltI s3.1 60) false))⟩, ⟨9, none, .lit (.int .i64 s3.1)⟩, ⟨7, none, .lit (.int .i64 s3.2.1)⟩, ⟨8, none, .lit (.int .i64 s3.2.2.1)⟩, ⟨5, none, .ptr 1 0⟩, ⟨1, none, .lit (.int .i64 (addI .i64 1 (bitsOp .and .i64 x1 31)))⟩, ⟨0, none, .sl (x0.map (encI .i64)) .no⟩], [.dead, .blk [.lit (.bool s3.2.2.2.fConfig.fVideo), .lit (.int .i64 s3.2.2.2.fConfig.fBytes), .lit (.int .i64 s3.2.2.2.fConfig.fUnits), .lit (.int .i64 s3.2.2.2.fConfig.fWait), .sl (s3.2.2.2.fOpen.fUnits.map Antiphonref10Unit.enc) .no, .lit (.int .i64 s3.2.2.2.fWhole), .lit (.int .i64 s3.2.2.2.fLost)]]⟩ (AWp.reg Try.tyOk hΓ (keep := [35]) (dead := []) (by kernel_rfl) rfl (by simp)) ?_
          refine AWp.cond (b := (pickB (ltI s3.1 (lenL x0)) (ltI s3.1 60) false)) (by simp) (fun h29 => ?_) (fun h29 => ?_)
          · have hr := cond_t h29 hr
            refine AWp.skip ?_
            refine AWp.meetF (fun (v4 : FrameMaker × Int × Int) (γ4 : Unit) => ⟨[⟨9, none, .lit (.int .i64 s3.1)⟩, ⟨7, none, .lit (.int .i64 v4.2.1)⟩, ⟨8, none, .lit (.int .i64 v4.2.2)⟩, ⟨5, none, .ptr 1 0⟩, ⟨1, none, .lit (.int .i64 (addI .i64 1 (bitsOp .and .i64 x1 31)))⟩, ⟨0, none, .sl (x0.map (encI .i64)) .no⟩], [.dead, .blk [.lit (.bool v4.1.fConfig.fVideo), .lit (.int .i64 v4.1.fConfig.fBytes), .lit (.int .i64 v4.1.fConfig.fUnits), .lit (.int .i64 v4.1.fConfig.fWait), .sl (v4.1.fOpen.fUnits.map Antiphonref10Unit.enc) .no, .lit (.int .i64 v4.1.fWhole), .lit (.int .i64 v4.1.fLost)]]⟩) (QRr (gLaw10FrameSounds.fin x0 x1)) hr (fun f hr => ?_) (fun v4 γ4 hr => ?_) (fun _ h => QRr_ret h)
            · refine AWp.block ?_
              obtain ⟨h30, hr⟩ := need_some hr
              refine AWp.then ⟨[⟨10, none, .lit (.int .i64 (bitsOp .and .i64 (nthI x0 s3.1) 63))⟩, ⟨9, none, .lit (.int .i64 s3.1)⟩, ⟨7, none, .lit (.int .i64 s3.2.1)⟩, ⟨8, none, .lit (.int .i64 s3.2.2.1)⟩, ⟨5, none, .ptr 1 0⟩, ⟨1, none, .lit (.int .i64 (addI .i64 1 (bitsOp .and .i64 x1 31)))⟩, ⟨0, none, .sl (x0.map (encI .i64)) .no⟩], [.dead, .blk [.lit (.bool s3.2.2.2.fConfig.fVideo), .lit (.int .i64 s3.2.2.2.fConfig.fBytes), .lit (.int .i64 s3.2.2.2.fConfig.fUnits), .lit (.int .i64 s3.2.2.2.fConfig.fWait), .sl (s3.2.2.2.fOpen.fUnits.map Antiphonref10Unit.enc) .no, .lit (.int .i64 s3.2.2.2.fWhole), .lit (.int .i64 s3.2.2.2.fLost)]]⟩ (AWp.reg Try.tyOk hΓ (keep := [10]) (dead := [35]) (by kernel_rfl) rfl (by simp [h29, h30])) ?_
              obtain ⟨h31, hr⟩ := need_some hr
              obtain ⟨h32, hr⟩ := need_some hr
              obtain ⟨h33, hr⟩ := need_some hr
              obtain ⟨h34, hr⟩ := need_some hr
              obtain ⟨r3, h35, hr⟩ := bind_some' hr
              refine AWp.then ⟨[⟨11, none, .ptr 2 0⟩, ⟨12, none, .lit (.bool r3.2.1)⟩, ⟨10, none, .lit (.int .i64 (bitsOp .and .i64 (nthI x0 s3.1) 63))⟩, ⟨9, none, .lit (.int .i64 s3.1)⟩, ⟨7, none, .lit (.int .i64 s3.2.1)⟩, ⟨8, none, .lit (.int .i64 s3.2.2.1)⟩, ⟨5, none, .ptr 1 0⟩, ⟨1, none, .lit (.int .i64 (addI .i64 1 (bitsOp .and .i64 x1 31)))⟩, ⟨0, none, .sl (x0.map (encI .i64)) .no⟩], [.dead, .blk [.lit (.bool r3.2.2.fConfig.fVideo), .lit (.int .i64 r3.2.2.fConfig.fBytes), .lit (.int .i64 r3.2.2.fConfig.fUnits), .lit (.int .i64 r3.2.2.fConfig.fWait), .sl (r3.2.2.fOpen.fUnits.map Antiphonref10Unit.enc) .no, .lit (.int .i64 r3.2.2.fWhole), .lit (.int .i64 r3.2.2.fLost)], .blk [.sl (r3.1.fUnits.map Antiphonref10Unit.enc) .no]]⟩ (AWp.regD Try.mixed Try.tyOk hΓ (keep := [11, 12]) (dead := []) [(22, 26), (23, 26), (24, 26), (24, 27)] [(false, []), (false, []), (false, []), (false, []), (false, []), (false, []), (false, []), (false, []), (false, []), (false, []), (false, []), (false, []), (false, []), (false, []), (false, []), (false, []), (false, []), (false, []), (false, []), (false, []), (false, []), (true, []), (false, []), (false, []), (false, []), (true, []), (true, []), (false, [])] (by kernel_rfl) rfl (by simp [h30, h31, h34, h35])) ?_
              refine AWp.seq ?_
              obtain ⟨h36, hr⟩ := need_some hr
              obtain ⟨h37, hr⟩ := need_some hr
              refine AWp.then ⟨[⟨92, none, .lit (.bool (pickB (pickB (neB r3.2.1 (leI (bitsOp .and .i64 (nthI x0 s3.1) 63) (addI .i64 1 (bitsOp .and .i64 x1 31)))) true (pickB r3.2.1 (pickB (neI (lenL r3.1.fUnits) 1) true (neI ((gFrameFrameSize r3.1).getD dflt) (bitsOp .and .i64 (nthI x0 s3.1) 63))) false)) true (neI ((gFrameMakerOpen r3.2.2).getD dflt) 0)))⟩, ⟨12, none, .lit (.bool r3.2.1)⟩, ⟨9, none, .lit (.int .i64 s3.1)⟩, ⟨7, none, .lit (.int .i64 s3.2.1)⟩, ⟨8, none, .lit (.int .i64 s3.2.2.1)⟩, ⟨5, none, .ptr 1 0⟩, ⟨1, none, .lit (.int .i64 (addI .i64 1 (bitsOp .and .i64 x1 31)))⟩, ⟨0, none, .sl (x0.map (encI .i64)) .no⟩], [.dead, .blk [.lit (.bool r3.2.2.fConfig.fVideo), .lit (.int .i64 r3.2.2.fConfig.fBytes), .lit (.int .i64 r3.2.2.fConfig.fUnits), .lit (.int .i64 r3.2.2.fConfig.fWait), .sl (r3.2.2.fOpen.fUnits.map Antiphonref10Unit.enc) .no, .lit (.int .i64 r3.2.2.fWhole), .lit (.int .i64 r3.2.2.fLost)], .blk [.sl (r3.1.fUnits.map Antiphonref10Unit.enc) .no]]⟩ (AWp.reg Try.tyOk hΓ (keep := [92]) (dead := [11, 10]) (by kernel_rfl) rfl (by simp [h36, h37])) ?_
              refine AWp.cond (b := (pickB (pickB (neB r3.2.1 (leI (bitsOp .and .i64 (nthI x0 s3.1) 63) (addI .i64 1 (bitsOp .and .i64 x1 31)))) true (pickB r3.2.1 (pickB (neI (lenL r3.1.fUnits) 1) true (neI ((gFrameFrameSize r3.1).getD dflt) (bitsOp .and .i64 (nthI x0 s3.1) 63))) false)) true (neI ((gFrameMakerOpen r3.2.2).getD dflt) 0))) (by simp) (fun h38 => ?_) (fun h38 => ?_)
              · have hr := cond_t h38 hr
                refine AWp.then ⟨[⟨4, none, .lit (.bool false)⟩], [.dead, .blk [.lit (.bool r3.2.2.fConfig.fVideo), .lit (.int .i64 r3.2.2.fConfig.fBytes), .lit (.int .i64 r3.2.2.fConfig.fUnits), .lit (.int .i64 r3.2.2.fConfig.fWait), .sl (r3.2.2.fOpen.fUnits.map Antiphonref10Unit.enc) .no, .lit (.int .i64 r3.2.2.fWhole), .lit (.int .i64 r3.2.2.fLost)], .blk [.sl (r3.1.fUnits.map Antiphonref10Unit.enc) .no]]⟩ (AWp.reg Try.tyOk hΓ (keep := [4]) (dead := [92, 12, 9, 7, 8, 5, 1, 0]) (by kernel_rfl) rfl (by simp [h38])) ?_
                refine AWp.ret ?_
                obtain rfl := some_inj hr
                refine meet_ret ?_
                refine ⟨_, rfl, ?_⟩
                refine fin_ret ?_
                simp
              · have hr := cond_f h38 hr
                refine AWp.skip ?_
                refine AWp.then ⟨[⟨93, none, .lit (.bool r3.2.1)⟩, ⟨9, none, .lit (.int .i64 s3.1)⟩, ⟨7, none, .lit (.int .i64 s3.2.1)⟩, ⟨8, none, .lit (.int .i64 s3.2.2.1)⟩, ⟨5, none, .ptr 1 0⟩, ⟨1, none, .lit (.int .i64 (addI .i64 1 (bitsOp .and .i64 x1 31)))⟩, ⟨0, none, .sl (x0.map (encI .i64)) .no⟩], [.dead, .blk [.lit (.bool r3.2.2.fConfig.fVideo), .lit (.int .i64 r3.2.2.fConfig.fBytes), .lit (.int .i64 r3.2.2.fConfig.fUnits), .lit (.int .i64 r3.2.2.fConfig.fWait), .sl (r3.2.2.fOpen.fUnits.map Antiphonref10Unit.enc) .no, .lit (.int .i64 r3.2.2.fWhole), .lit (.int .i64 r3.2.2.fLost)], .blk [.sl (r3.1.fUnits.map Antiphonref10Unit.enc) .no]]⟩ (AWp.reg Try.tyOk hΓ (keep := [93]) (dead := [92, 12]) (by kernel_rfl) rfl (by simp [h38])) ?_
                refine AWp.cond (b := r3.2.1) (by simp) (fun h39 => ?_) (fun h39 => ?_)
                · have hr := cond_t h39 hr
                  refine AWp.last ⟨[⟨7, none, .lit (.int .i64 (addI .i64 s3.2.1 1))⟩, ⟨9, none, .lit (.int .i64 s3.1)⟩, ⟨8, none, .lit (.int .i64 s3.2.2.1)⟩, ⟨5, none, .ptr 1 0⟩, ⟨1, none, .lit (.int .i64 (addI .i64 1 (bitsOp .and .i64 x1 31)))⟩, ⟨0, none, .sl (x0.map (encI .i64)) .no⟩], [.dead, .blk [.lit (.bool r3.2.2.fConfig.fVideo), .lit (.int .i64 r3.2.2.fConfig.fBytes), .lit (.int .i64 r3.2.2.fConfig.fUnits), .lit (.int .i64 r3.2.2.fConfig.fWait), .sl (r3.2.2.fOpen.fUnits.map Antiphonref10Unit.enc) .no, .lit (.int .i64 r3.2.2.fWhole), .lit (.int .i64 r3.2.2.fLost)], .blk [.sl (r3.1.fUnits.map Antiphonref10Unit.enc) .no]]⟩ (AWp.reg Try.tyOk hΓ (keep := [7]) (dead := [93]) (by kernel_rfl) rfl (by simp [h39])) ?_
                  obtain rfl := some_inj hr
                  exact meet_go () 2 (by simp)
                · have hr := cond_f h39 hr
                  refine AWp.last ⟨[⟨8, none, .lit (.int .i64 (addI .i64 s3.2.2.1 1))⟩, ⟨9, none, .lit (.int .i64 s3.1)⟩, ⟨7, none, .lit (.int .i64 s3.2.1)⟩, ⟨5, none, .ptr 1 0⟩, ⟨1, none, .lit (.int .i64 (addI .i64 1 (bitsOp .and .i64 x1 31)))⟩, ⟨0, none, .sl (x0.map (encI .i64)) .no⟩], [.dead, .blk [.lit (.bool r3.2.2.fConfig.fVideo), .lit (.int .i64 r3.2.2.fConfig.fBytes), .lit (.int .i64 r3.2.2.fConfig.fUnits), .lit (.int .i64 r3.2.2.fConfig.fWait), .sl (r3.2.2.fOpen.fUnits.map Antiphonref10Unit.enc) .no, .lit (.int .i64 r3.2.2.fWhole), .lit (.int .i64 r3.2.2.fLost)], .blk [.sl (r3.1.fUnits.map Antiphonref10Unit.enc) .no]]⟩ (AWp.reg Try.tyOk hΓ (keep := [8]) (dead := [93]) (by kernel_rfl) rfl (by simp [h39])) ?_
                  obtain rfl := some_inj hr
                  exact meet_go () 2 (by simp)
            · refine AWp.last ⟨[⟨9, none, .lit (.int .i64 (addI .i64 s3.1 1))⟩, ⟨7, none, .lit (.int .i64 v4.2.1)⟩, ⟨8, none, .lit (.int .i64 v4.2.2)⟩, ⟨5, none, .ptr 1 0⟩, ⟨1, none, .lit (.int .i64 (addI .i64 1 (bitsOp .and .i64 x1 31)))⟩, ⟨0, none, .sl (x0.map (encI .i64)) .no⟩], [.dead, .blk [.lit (.bool v4.1.fConfig.fVideo), .lit (.int .i64 v4.1.fConfig.fBytes), .lit (.int .i64 v4.1.fConfig.fUnits), .lit (.int .i64 v4.1.fConfig.fWait), .sl (v4.1.fOpen.fUnits.map Antiphonref10Unit.enc) .no, .lit (.int .i64 v4.1.fWhole), .lit (.int .i64 v4.1.fLost)]]⟩ (AWp.reg Try.tyOk hΓ (keep := [9]) (dead := []) (by kernel_rfl) rfl (by simp)) ?_
              obtain rfl := some_inj hr
              exact round_go () 2 (by simp)
          · have hr := cond_f h29 hr
            refine AWp.exit ?_
            obtain rfl := some_inj hr
            exact round_out () 2 (by simp)
        · refine AWp.conv hc ?_
          obtain ⟨r4, h40, hr⟩ := bind_some' hr
          refine AWp.then ⟨[⟨13, none, .lit (.int .i64 r4.1)⟩, ⟨14, none, .lit (.int .i64 r4.2)⟩, ⟨7, none, .lit (.int .i64 v3.1)⟩, ⟨8, none, .lit (.int .i64 v3.2.1)⟩], [.dead, .blk [.lit (.bool v3.2.2.fConfig.fVideo), .lit (.int .i64 v3.2.2.fConfig.fBytes), .lit (.int .i64 v3.2.2.fConfig.fUnits), .lit (.int .i64 v3.2.2.fConfig.fWait), .sl (v3.2.2.fOpen.fUnits.map Antiphonref10Unit.enc) .no, .lit (.int .i64 v3.2.2.fWhole), .lit (.int .i64 v3.2.2.fLost)]]⟩ (AWp.reg Try.tyOk hΓ (keep := [13, 14]) (dead := [5]) (by kernel_rfl) rfl (by simp [h40])) ?_
          refine AWp.then ⟨[⟨4, none, .lit (.bool (pickB (eqI r4.1 v3.1) (eqI r4.2 v3.2.1) false))⟩], [.dead, .blk [.lit (.bool v3.2.2.fConfig.fVideo), .lit (.int .i64 v3.2.2.fConfig.fBytes), .lit (.int .i64 v3.2.2.fConfig.fUnits), .lit (.int .i64 v3.2.2.fConfig.fWait), .sl (v3.2.2.fOpen.fUnits.map Antiphonref10Unit.enc) .no, .lit (.int .i64 v3.2.2.fWhole), .lit (.int .i64 v3.2.2.fLost)]]⟩ (AWp.reg Try.tyOk hΓ (keep := [4]) (dead := [13, 14, 7, 8]) (by kernel_rfl) rfl (by simp)) ?_
          refine AWp.ret ?_
          obtain rfl := some_inj hr
          refine fin_ret ?_
          simp

@[simp] noncomputable def gLaw10FrameSounds.S : Sp
  | [.sl e0 _, .lit (.int .i64 x1)], _ => some { av := .lit (.bool ((gLaw10FrameSounds (e0.map decI) x1).getD dflt)), M := none, obl := e0 = (e0.map decI).map (encI .i64) ∧ (gLaw10FrameSounds (e0.map decI) x1).isSome = true }
  | _, _ => none

set_option maxHeartbeats 1000000 in
theorem gLaw10FrameSounds.ok : SpecOk Try.prog 3 gLaw10FrameSounds.S := by
  intro l M out h
  unfold gLaw10FrameSounds.S at h
  split at h
  · rename_i e0 k0 x1
    cases h
    refine callOk_of fun ho => ?_
    obtain ⟨ox0, hs⟩ := ho
    generalize (e0.map decI) = x0 at *
    subst ox0
    obtain ⟨r, hr⟩ := Option.isSome_iff_exists.1 hs
    simp only [hr, Option.getD_some]
    have q := call_frame (M := M) [] (gLaw10FrameSounds.can x0 x1 r hr) (by simp) rfl (by intro k i hk; simp at hk)
    exact callOk_conv q trivial (by simp) (by simp [frameOut, gLaw10FrameSounds.out]) (by simp [frameOut, gLaw10FrameSounds.out])
  · cases h
end Go.Proofs

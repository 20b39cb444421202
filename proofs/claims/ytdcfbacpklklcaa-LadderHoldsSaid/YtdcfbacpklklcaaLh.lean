/- That these functions compute what their plain functions do. No condition. -/
import Derived.Test.YtdcfbacpklklcaaLhD
import Derived.Test.YtdcfbacpklklcaaTy
import Derived.Test.YtdcfbacpklklcaaLd
import Derived.Test.YtdcfbacpklklcaaWl
namespace Go.Proofs
open Go.Ab
@[simp] def gLaw23LadderHolds.out (_x0 : Int) (_x1 : Int) (_x2 : List Int) (_x3 : List Int) (r : Bool) : Out := { av := .lit (.bool r), M := none }
def gLaw23LadderHolds.fin (x0 : Int) (x1 : Int) (x2 : List Int) (x3 : List Int) (r : Bool) (σ : St) : Prop := finK (gLaw23LadderHolds.out x0 x1 x2 x3 r) [] σ.M (resA Try.ty σ.A σ.M Try.f5.results.toList)
set_option maxHeartbeats 4000000 in
set_option maxRecDepth 100000 in
theorem gLaw23LadderHolds.can (x0 : Int) (x1 : Int) (x2 : List Int) (x3 : List Int) (r : Bool) (hr : gLaw23LadderHolds x0 x1 x2 x3 = some r) : CallOk Try.prog 5 [.lit (.int .i64 x0), .lit (.int .i64 x1), .sl (x2.map (encI .i64)) .no, .sl (x3.map (encI .i64)) .no] [] (gLaw23LadderHolds.out x0 x1 x2 x3 r) := by
  unfold gLaw23LadderHolds at hr
  have hΓ := (gamL_cons gLadderLadderAt.ok (gamL_cons gLadderLadderTick.ok (gamL_cons gLaw23Awake.ok (gamL_cons gLaw23Needs.ok (gamL_cons gLadderNew.ok (gamL_nil))))) : GamOk Try.prog _)
  refine call_of_awp Try.tyOk Try.func5 rfl (by kernel_rfl) rfl rfl (by simp) ?_
  intro _ _ _
  refine AWp.then ⟨[⟨0, none, .lit (.int .i64 x0)⟩, ⟨1, none, .lit (.int .i64 x1)⟩, ⟨2, none, .sl (x2.map (encI .i64)) .no⟩, ⟨3, none, .sl (x3.map (encI .i64)) .no⟩], []⟩ (AWp.reg Try.tyOk hΓ (keep := []) (dead := []) (by kernel_rfl) rfl (by simp)) ?_
  refine AWp.seq ?_
  obtain ⟨r1, h27, hr⟩ := bind_some' hr
  refine AWp.then ⟨[⟨18, none, .lit (.bool (notB r1))⟩, ⟨0, none, .lit (.int .i64 x0)⟩, ⟨1, none, .lit (.int .i64 x1)⟩, ⟨2, none, .sl (x2.map (encI .i64)) .no⟩, ⟨3, none, .sl (x3.map (encI .i64)) .no⟩], []⟩ (AWp.reg Try.tyOk hΓ (keep := [18]) (dead := []) (by kernel_rfl) rfl (by simp [h27])) ?_
  refine AWp.cond (b := (notB r1)) (by simp) (fun h28 => ?_) (fun h28 => ?_)
  · have hr := cond_t h28 hr
    refine AWp.then ⟨[⟨8, none, .lit (.bool false)⟩], []⟩ (AWp.reg Try.tyOk hΓ (keep := [8]) (dead := [18, 0, 1, 2, 3]) (by kernel_rfl) rfl (by simp [h28])) ?_
    refine AWp.ret ?_
    obtain rfl := some_inj hr
    refine fin_ret ?_
    simp
  · have hr := cond_f h28 hr
    refine AWp.skip ?_
    refine AWp.then ⟨[⟨9, none, .ptr 0 0⟩, ⟨2, none, .sl (x2.map (encI .i64)) .no⟩, ⟨3, none, .sl (x3.map (encI .i64)) .no⟩], [.blk [.lit (.int .i64 (addI .i64 1 (bitsOp .and .i64 x0 7))), .lit (.int .i64 (addI .i64 1 (bitsOp .and .i64 x1 7))), .lit (.int .i64 2)]]⟩ (AWp.reg Try.tyOk hΓ (keep := [9]) (dead := [18, 0, 1]) (by kernel_rfl) rfl (by simp [h28])) ?_
    obtain ⟨r2, h29, hr⟩ := bind_some' hr
    refine AWp.then ⟨[⟨10, none, .sl (r2.map (encI .i64)) .no⟩, ⟨9, none, .ptr 0 0⟩, ⟨3, none, .sl (x3.map (encI .i64)) .no⟩], [.blk [.lit (.int .i64 (addI .i64 1 (bitsOp .and .i64 x0 7))), .lit (.int .i64 (addI .i64 1 (bitsOp .and .i64 x1 7))), .lit (.int .i64 2)]]⟩ (AWp.reg Try.tyOk hΓ (keep := [10]) (dead := [2]) (by kernel_rfl) rfl (by simp [h29])) ?_
    obtain ⟨r3, h30, hr⟩ := bind_some' hr
    cases h31 : r3.1 with
    | none =>
      have hr := optC_n h31 hr
      refine AWp.then ⟨[⟨11, none, .lit (.pointer none)⟩, ⟨12, none, .lit (.int .i64 r3.2)⟩, ⟨10, none, .sl (r2.map (encI .i64)) .no⟩, ⟨9, none, .ptr 0 0⟩, ⟨3, none, .sl (x3.map (encI .i64)) .no⟩], [.blk [.lit (.int .i64 (addI .i64 1 (bitsOp .and .i64 x0 7))), .lit (.int .i64 (addI .i64 1 (bitsOp .and .i64 x1 7))), .lit (.int .i64 2)]]⟩ (AWp.reg Try.tyOk hΓ (keep := [11, 12]) (dead := []) (by kernel_rfl) rfl (by simp [h30, h31])) ?_
      refine AWp.seq ?_
      refine AWp.then ⟨[⟨35, none, .lit (.bool (neI r3.2 0))⟩, ⟨11, none, .lit (.pointer none)⟩, ⟨10, none, .sl (r2.map (encI .i64)) .no⟩, ⟨9, none, .ptr 0 0⟩, ⟨3, none, .sl (x3.map (encI .i64)) .no⟩], [.blk [.lit (.int .i64 (addI .i64 1 (bitsOp .and .i64 x0 7))), .lit (.int .i64 (addI .i64 1 (bitsOp .and .i64 x1 7))), .lit (.int .i64 2)]]⟩ (AWp.reg Try.tyOk hΓ (keep := [35]) (dead := [12]) (by kernel_rfl) rfl (by simp)) ?_
      refine AWp.cond (b := (neI r3.2 0)) (by simp) (fun h32 => ?_) (fun h32 => ?_)
      · have hr := cond_t h32 hr
        refine AWp.then ⟨[⟨8, none, .lit (.bool false)⟩], [.blk [.lit (.int .i64 (addI .i64 1 (bitsOp .and .i64 x0 7))), .lit (.int .i64 (addI .i64 1 (bitsOp .and .i64 x1 7))), .lit (.int .i64 2)]]⟩ (AWp.reg Try.tyOk hΓ (keep := [8]) (dead := [35, 11, 10, 9, 3]) (by kernel_rfl) rfl (by simp [h32])) ?_
        refine AWp.ret ?_
        obtain rfl := some_inj hr
        refine fin_ret ?_
        simp
      · have hr := cond_f h32 hr
        refine AWp.skip ?_
        refine AWp.then ⟨[⟨13, none, .lit (.int .i64 0)⟩, ⟨11, none, .lit (.pointer none)⟩, ⟨10, none, .sl (r2.map (encI .i64)) .no⟩, ⟨9, none, .ptr 0 0⟩, ⟨3, none, .sl (x3.map (encI .i64)) .no⟩], [.blk [.lit (.int .i64 (addI .i64 1 (bitsOp .and .i64 x0 7))), .lit (.int .i64 (addI .i64 1 (bitsOp .and .i64 x1 7))), .lit (.int .i64 2)]]⟩ (AWp.reg Try.tyOk hΓ (keep := [13]) (dead := [35]) (by kernel_rfl) rfl (by simp [h32])) ?_
        refine AWp.seq ?_
        refine AWp.then ⟨[⟨14, none, .lit (.int .i64 0)⟩, ⟨13, none, .lit (.int .i64 0)⟩, ⟨11, none, .lit (.pointer none)⟩, ⟨10, none, .sl (r2.map (encI .i64)) .no⟩, ⟨9, none, .ptr 0 0⟩, ⟨3, none, .sl (x3.map (encI .i64)) .no⟩], [.blk [.lit (.int .i64 (addI .i64 1 (bitsOp .and .i64 x0 7))), .lit (.int .i64 (addI .i64 1 (bitsOp .and .i64 x1 7))), .lit (.int .i64 2)]]⟩ (AWp.reg Try.tyOk hΓ (keep := [14]) (dead := []) (by kernel_rfl) rfl (by simp)) ?_
        refine AWp.loopE (fun (s1 : Unit) (γ1 : Unit) => ⟨[⟨14, none, .lit (.int .i64 0)⟩, ⟨13, none, .lit (.int .i64 0)⟩, ⟨11, none, .lit (.pointer none)⟩, ⟨10, none, .sl (r2.map (encI .i64)) .no⟩, ⟨9, none, .ptr 0 0⟩, ⟨3, none, .sl (x3.map (encI .i64)) .no⟩], [.blk [.lit (.int .i64 (addI .i64 1 (bitsOp .and .i64 x0 7))), .lit (.int .i64 (addI .i64 1 (bitsOp .and .i64 x1 7))), .lit (.int .i64 2)]]⟩) (fun (v1 : Unit) (γ1a : Unit) => ⟨[⟨11, none, .lit (.pointer none)⟩, ⟨10, none, .sl (r2.map (encI .i64)) .no⟩], [.blk [.lit (.int .i64 (addI .i64 1 (bitsOp .and .i64 x0 7))), .lit (.int .i64 (addI .i64 1 (bitsOp .and .i64 x1 7))), .lit (.int .i64 2)]]⟩) (gLaw23LadderHolds.fin x0 x1 x2 x3) hr () 1 (by simp) (fun s1 f γ1 hr => ?_) (fun v1 γ1a σ1 m1 hr hc => ?_) (fun _ h => h)
        · unfold gLaw23LadderHolds.loop1 at hr
          refine AWp.seq ?_
          refine AWp.then ⟨[⟨43, none, .lit (.bool (pickB (ltI 0 (lenL x3)) (ltI 0 200) false))⟩, ⟨14, none, .lit (.int .i64 0)⟩, ⟨13, none, .lit (.int .i64 0)⟩, ⟨11, none, .lit (.pointer none)⟩, ⟨10, none, .sl (r2.map (encI .i64)) .no⟩, ⟨9, none, .ptr 0 0⟩, ⟨3, none, .sl (x3.map (encI .i64)) .no⟩], [.blk [.lit (.int .i64 (addI .i64 1 (bitsOp .and .i64 x0 7))), .lit (.int .i64 (addI .i64 1 (bitsOp .and .i64 x1 7))), .lit (.int .i64 2)]]⟩ (AWp.reg Try.tyOk hΓ (keep := [43]) (dead := []) (by kernel_rfl) rfl (by simp)) ?_
          refine AWp.cond (b := (pickB (ltI 0 (lenL x3)) (ltI 0 200) false)) (by simp) (fun h33 => ?_) (fun h33 => ?_)
          · have hr := cond_t h33 hr
            refine AWp.skip ?_
            refine AWp.seq ?_
            refine AWp.block ?_
            refine AWp.seq ?_
            cases hr
          · have hr := cond_f h33 hr
            refine AWp.exit ?_
            obtain rfl := some_inj hr
            exact round_out () 1 (by simp)
        · refine AWp.conv hc ?_
          refine AWp.seq ?_
          refine AWp.then ⟨[⟨79, none, .lit (.int .i64 0)⟩, ⟨11, none, .lit (.pointer none)⟩, ⟨10, none, .sl (r2.map (encI .i64)) .no⟩], [.blk [.lit (.int .i64 (addI .i64 1 (bitsOp .and .i64 x0 7))), .lit (.int .i64 (addI .i64 1 (bitsOp .and .i64 x1 7))), .lit (.int .i64 2)]]⟩ (AWp.reg Try.tyOk hΓ (keep := [79]) (dead := []) (by kernel_rfl) rfl (by simp)) ?_
          refine AWp.loopE (fun (s3 : Unit) (γ3 : Unit) => ⟨[⟨79, none, .lit (.int .i64 0)⟩, ⟨11, none, .lit (.pointer none)⟩, ⟨10, none, .sl (r2.map (encI .i64)) .no⟩], [.blk [.lit (.int .i64 (addI .i64 1 (bitsOp .and .i64 x0 7))), .lit (.int .i64 (addI .i64 1 (bitsOp .and .i64 x1 7))), .lit (.int .i64 2)]]⟩) (fun (v3 : Unit) (γ3a : Unit) => ⟨[], [.blk [.lit (.int .i64 (addI .i64 1 (bitsOp .and .i64 x0 7))), .lit (.int .i64 (addI .i64 1 (bitsOp .and .i64 x1 7))), .lit (.int .i64 2)]]⟩) (gLaw23LadderHolds.fin x0 x1 x2 x3) hr () 1 (by simp) (fun s3 f γ3 hr => ?_) (fun v3 γ3a σ1 m1 hr hc => ?_) (fun _ h => h)
          · unfold gLaw23LadderHolds.loop3 at hr
            refine AWp.then ⟨[⟨80, none, .lit (.bool (ltI 0 50))⟩, ⟨79, none, .lit (.int .i64 0)⟩, ⟨11, none, .lit (.pointer none)⟩, ⟨10, none, .sl (r2.map (encI .i64)) .no⟩], [.blk [.lit (.int .i64 (addI .i64 1 (bitsOp .and .i64 x0 7))), .lit (.int .i64 (addI .i64 1 (bitsOp .and .i64 x1 7))), .lit (.int .i64 2)]]⟩ (AWp.reg Try.tyOk hΓ (keep := [80]) (dead := []) (by kernel_rfl) rfl (by simp)) ?_
            refine AWp.seq ?_
            refine AWp.cond (b := (ltI 0 50)) (by simp) (fun h34 => ?_) (fun h34 => ?_)
            · have hr := cond_t h34 hr
              refine AWp.skip ?_
              refine AWp.seq ?_
              refine AWp.block ?_
              refine AWp.seq ?_
              cases hr
            · have hr := cond_f h34 hr
              refine AWp.exit ?_
              obtain rfl := some_inj hr
              exact round_out () 1 (by simp)
          · refine AWp.conv hc ?_
            refine AWp.then ⟨[⟨8, none, .lit (.bool true)⟩], [.blk [.lit (.int .i64 (addI .i64 1 (bitsOp .and .i64 x0 7))), .lit (.int .i64 (addI .i64 1 (bitsOp .and .i64 x1 7))), .lit (.int .i64 2)]]⟩ (AWp.reg Try.tyOk hΓ (keep := [8]) (dead := []) (by kernel_rfl) rfl (by simp)) ?_
            refine AWp.ret ?_
            obtain rfl := some_inj hr
            refine fin_ret ?_
            simp
    | some o1 =>
      have hr := optC_s h31 hr
      refine AWp.then ⟨[⟨11, none, .ptr 3 0⟩, ⟨12, none, .lit (.int .i64 r3.2)⟩, ⟨10, none, .sl (r2.map (encI .i64)) .no⟩, ⟨9, none, .ptr 0 0⟩, ⟨3, none, .sl (x3.map (encI .i64)) .no⟩], [.blk [.lit (.int .i64 (addI .i64 1 (bitsOp .and .i64 x0 7))), .lit (.int .i64 (addI .i64 1 (bitsOp .and .i64 x1 7))), .lit (.int .i64 2)], .dead, .dead, .blk [.lit (.int .i64 o1.fConfig.fDown), .lit (.int .i64 o1.fConfig.fUp), .lit (.int .i64 o1.fConfig.fSpare), .sl (o1.fNeeds.map (encI .i64)) .no, .lit (.int .i64 o1.fAt), .lit (.int .i64 o1.fMost), .lit (.int .i64 o1.fBad), .lit (.int .i64 o1.fGood), .lit (.int .i64 o1.fMoves)]]⟩ (AWp.reg Try.tyOk hΓ (keep := [11, 12]) (dead := []) (by kernel_rfl) rfl (by simp [h30, h31])) ?_
      refine AWp.seq ?_
      refine AWp.then ⟨[⟨35, none, .lit (.bool (neI r3.2 0))⟩, ⟨11, none, .ptr 3 0⟩, ⟨10, none, .sl (r2.map (encI .i64)) .no⟩, ⟨9, none, .ptr 0 0⟩, ⟨3, none, .sl (x3.map (encI .i64)) .no⟩], [.blk [.lit (.int .i64 (addI .i64 1 (bitsOp .and .i64 x0 7))), .lit (.int .i64 (addI .i64 1 (bitsOp .and .i64 x1 7))), .lit (.int .i64 2)], .dead, .dead, .blk [.lit (.int .i64 o1.fConfig.fDown), .lit (.int .i64 o1.fConfig.fUp), .lit (.int .i64 o1.fConfig.fSpare), .sl (o1.fNeeds.map (encI .i64)) .no, .lit (.int .i64 o1.fAt), .lit (.int .i64 o1.fMost), .lit (.int .i64 o1.fBad), .lit (.int .i64 o1.fGood), .lit (.int .i64 o1.fMoves)]]⟩ (AWp.reg Try.tyOk hΓ (keep := [35]) (dead := [12]) (by kernel_rfl) rfl (by simp)) ?_
      refine AWp.cond (b := (neI r3.2 0)) (by simp) (fun h35 => ?_) (fun h35 => ?_)
      · have hr := cond_t h35 hr
        refine AWp.then ⟨[⟨8, none, .lit (.bool false)⟩], [.blk [.lit (.int .i64 (addI .i64 1 (bitsOp .and .i64 x0 7))), .lit (.int .i64 (addI .i64 1 (bitsOp .and .i64 x1 7))), .lit (.int .i64 2)], .dead, .dead, .blk [.lit (.int .i64 o1.fConfig.fDown), .lit (.int .i64 o1.fConfig.fUp), .lit (.int .i64 o1.fConfig.fSpare), .sl (o1.fNeeds.map (encI .i64)) .no, .lit (.int .i64 o1.fAt), .lit (.int .i64 o1.fMost), .lit (.int .i64 o1.fBad), .lit (.int .i64 o1.fGood), .lit (.int .i64 o1.fMoves)]]⟩ (AWp.reg Try.tyOk hΓ (keep := [8]) (dead := [35, 11, 10, 9, 3]) (by kernel_rfl) rfl (by simp [h35])) ?_
        refine AWp.ret ?_
        obtain rfl := some_inj hr
        refine fin_ret ?_
        simp
      · have hr := cond_f h35 hr
        refine AWp.skip ?_
        refine AWp.then ⟨[⟨13, none, .lit (.int .i64 0)⟩, ⟨11, none, .ptr 3 0⟩, ⟨10, none, .sl (r2.map (encI .i64)) .no⟩, ⟨9, none, .ptr 0 0⟩, ⟨3, none, .sl (x3.map (encI .i64)) .no⟩], [.blk [.lit (.int .i64 (addI .i64 1 (bitsOp .and .i64 x0 7))), .lit (.int .i64 (addI .i64 1 (bitsOp .and .i64 x1 7))), .lit (.int .i64 2)], .dead, .dead, .blk [.lit (.int .i64 o1.fConfig.fDown), .lit (.int .i64 o1.fConfig.fUp), .lit (.int .i64 o1.fConfig.fSpare), .sl (o1.fNeeds.map (encI .i64)) .no, .lit (.int .i64 o1.fAt), .lit (.int .i64 o1.fMost), .lit (.int .i64 o1.fBad), .lit (.int .i64 o1.fGood), .lit (.int .i64 o1.fMoves)]]⟩ (AWp.reg Try.tyOk hΓ (keep := [13]) (dead := [35]) (by kernel_rfl) rfl (by simp [h35])) ?_
        refine AWp.seq ?_
        refine AWp.then ⟨[⟨14, none, .lit (.int .i64 0)⟩, ⟨13, none, .lit (.int .i64 0)⟩, ⟨11, none, .ptr 3 0⟩, ⟨10, none, .sl (r2.map (encI .i64)) .no⟩, ⟨9, none, .ptr 0 0⟩, ⟨3, none, .sl (x3.map (encI .i64)) .no⟩], [.blk [.lit (.int .i64 (addI .i64 1 (bitsOp .and .i64 x0 7))), .lit (.int .i64 (addI .i64 1 (bitsOp .and .i64 x1 7))), .lit (.int .i64 2)], .dead, .dead, .blk [.lit (.int .i64 o1.fConfig.fDown), .lit (.int .i64 o1.fConfig.fUp), .lit (.int .i64 o1.fConfig.fSpare), .sl (o1.fNeeds.map (encI .i64)) .no, .lit (.int .i64 o1.fAt), .lit (.int .i64 o1.fMost), .lit (.int .i64 o1.fBad), .lit (.int .i64 o1.fGood), .lit (.int .i64 o1.fMoves)]]⟩ (AWp.reg Try.tyOk hΓ (keep := [14]) (dead := []) (by kernel_rfl) rfl (by simp)) ?_
        refine AWp.loopE (fun (s4 : Int × Int × LadderLadder) (γ4 : Unit) => ⟨[⟨14, none, .lit (.int .i64 s4.1)⟩, ⟨13, none, .lit (.int .i64 s4.2.1)⟩, ⟨11, none, .ptr 3 0⟩, ⟨10, none, .sl (r2.map (encI .i64)) .no⟩, ⟨9, none, .ptr 0 0⟩, ⟨3, none, .sl (x3.map (encI .i64)) .no⟩], [.blk [.lit (.int .i64 (addI .i64 1 (bitsOp .and .i64 x0 7))), .lit (.int .i64 (addI .i64 1 (bitsOp .and .i64 x1 7))), .lit (.int .i64 2)], .dead, .dead, .blk [.lit (.int .i64 s4.2.2.fConfig.fDown), .lit (.int .i64 s4.2.2.fConfig.fUp), .lit (.int .i64 s4.2.2.fConfig.fSpare), .sl (s4.2.2.fNeeds.map (encI .i64)) .no, .lit (.int .i64 s4.2.2.fAt), .lit (.int .i64 s4.2.2.fMost), .lit (.int .i64 s4.2.2.fBad), .lit (.int .i64 s4.2.2.fGood), .lit (.int .i64 s4.2.2.fMoves)]]⟩) (fun (v4 : LadderLadder) (γ4a : Unit) => ⟨[⟨11, none, .ptr 3 0⟩, ⟨10, none, .sl (r2.map (encI .i64)) .no⟩], [.blk [.lit (.int .i64 (addI .i64 1 (bitsOp .and .i64 x0 7))), .lit (.int .i64 (addI .i64 1 (bitsOp .and .i64 x1 7))), .lit (.int .i64 2)], .dead, .dead, .blk [.lit (.int .i64 v4.fConfig.fDown), .lit (.int .i64 v4.fConfig.fUp), .lit (.int .i64 v4.fConfig.fSpare), .sl (v4.fNeeds.map (encI .i64)) .no, .lit (.int .i64 v4.fAt), .lit (.int .i64 v4.fMost), .lit (.int .i64 v4.fBad), .lit (.int .i64 v4.fGood), .lit (.int .i64 v4.fMoves)]]⟩) (gLaw23LadderHolds.fin x0 x1 x2 x3) hr () 4 (by simp) (fun s4 f γ4 hr => ?_) (fun v4 γ4a σ1 m1 hr hc => ?_) (fun _ h => h)
        · unfold gLaw23LadderHolds.loop4 at hr
          refine AWp.seq ?_
          refine AWp.then ⟨[⟨43, none, .lit (.bool (pickB (ltI s4.1 (lenL x3)) (ltI s4.1 200) false))⟩, ⟨14, none, .lit (.int .i64 s4.1)⟩, ⟨13, none, .lit (.int .i64 s4.2.1)⟩, ⟨11, none, .ptr 3 0⟩, ⟨10, none, .sl (r2.map (encI .i64)) .no⟩, ⟨9, none, .ptr 0 0⟩, ⟨3, none, .sl (x3.map (encI .i64)) .no⟩], [.blk [.lit (.int .i64 (addI .i64 1 (bitsOp .and .i64 x0 7))), .lit (.int .i64 (addI .i64 1 (bitsOp .and .i64 x1 7))), .lit (.int .i64 2)], .dead, .dead, .blk [.lit (.int .i64 s4.2.2.fConfig.fDown), .lit (.int .i64 s4.2.2.fConfig.fUp), .lit (.int .i64 s4.2.2.fConfig.fSpare), .sl (s4.2.2.fNeeds.map (encI .i64)) .no, .lit (.int .i64 s4.2.2.fAt), .lit (.int .i64 s4.2.2.fMost), .lit (.int .i64 s4.2.2.fBad), .lit (.int .i64 s4.2.2.fGood), .lit (.int .i64 s4.2.2.fMoves)]]⟩ (AWp.reg Try.tyOk hΓ (keep := [43]) (dead := []) (by kernel_rfl) rfl (by simp)) ?_
          refine AWp.cond (b := (pickB (ltI s4.1 (lenL x3)) (ltI s4.1 200) false)) (by simp) (fun h36 => ?_) (fun h36 => ?_)
          · have hr := cond_t h36 hr
            refine AWp.skip ?_
            refine AWp.meetF (fun (v5 : LadderLadder × Int) (γ5 : Unit) => ⟨[⟨14, none, .lit (.int .i64 s4.1)⟩, ⟨13, none, .lit (.int .i64 v5.2)⟩, ⟨11, none, .ptr 3 0⟩, ⟨10, none, .sl (r2.map (encI .i64)) .no⟩, ⟨9, none, .ptr 0 0⟩, ⟨3, none, .sl (x3.map (encI .i64)) .no⟩], [.blk [.lit (.int .i64 (addI .i64 1 (bitsOp .and .i64 x0 7))), .lit (.int .i64 (addI .i64 1 (bitsOp .and .i64 x1 7))), .lit (.int .i64 2)], .dead, .dead, .blk [.lit (.int .i64 v5.1.fConfig.fDown), .lit (.int .i64 v5.1.fConfig.fUp), .lit (.int .i64 v5.1.fConfig.fSpare), .sl (v5.1.fNeeds.map (encI .i64)) .no, .lit (.int .i64 v5.1.fAt), .lit (.int .i64 v5.1.fMost), .lit (.int .i64 v5.1.fBad), .lit (.int .i64 v5.1.fGood), .lit (.int .i64 v5.1.fMoves)]]⟩) (QRr (gLaw23LadderHolds.fin x0 x1 x2 x3)) hr (fun f hr => ?_) (fun v5 γ5 hr => ?_) (fun _ h => QRr_ret h)
            · refine AWp.block ?_
              obtain ⟨r4, h37, hr⟩ := bind_some' hr
              refine AWp.then ⟨[⟨15, none, .lit (.int .i64 r4)⟩, ⟨14, none, .lit (.int .i64 s4.1)⟩, ⟨13, none, .lit (.int .i64 s4.2.1)⟩, ⟨11, none, .ptr 3 0⟩, ⟨10, none, .sl (r2.map (encI .i64)) .no⟩, ⟨9, none, .ptr 0 0⟩, ⟨3, none, .sl (x3.map (encI .i64)) .no⟩], [.blk [.lit (.int .i64 (addI .i64 1 (bitsOp .and .i64 x0 7))), .lit (.int .i64 (addI .i64 1 (bitsOp .and .i64 x1 7))), .lit (.int .i64 2)], .dead, .dead, .blk [.lit (.int .i64 s4.2.2.fConfig.fDown), .lit (.int .i64 s4.2.2.fConfig.fUp), .lit (.int .i64 s4.2.2.fConfig.fSpare), .sl (s4.2.2.fNeeds.map (encI .i64)) .no, .lit (.int .i64 s4.2.2.fAt), .lit (.int .i64 s4.2.2.fMost), .lit (.int .i64 s4.2.2.fBad), .lit (.int .i64 s4.2.2.fGood), .lit (.int .i64 s4.2.2.fMoves)]]⟩ (AWp.reg Try.tyOk hΓ (keep := [15]) (dead := [43]) (by kernel_rfl) rfl (by simp [h36, h37])) ?_
              refine AWp.then ⟨[⟨13, none, .lit (.int .i64 (addI .i64 s4.2.1 1))⟩, ⟨15, none, .lit (.int .i64 r4)⟩, ⟨14, none, .lit (.int .i64 s4.1)⟩, ⟨11, none, .ptr 3 0⟩, ⟨10, none, .sl (r2.map (encI .i64)) .no⟩, ⟨9, none, .ptr 0 0⟩, ⟨3, none, .sl (x3.map (encI .i64)) .no⟩], [.blk [.lit (.int .i64 (addI .i64 1 (bitsOp .and .i64 x0 7))), .lit (.int .i64 (addI .i64 1 (bitsOp .and .i64 x1 7))), .lit (.int .i64 2)], .dead, .dead, .blk [.lit (.int .i64 s4.2.2.fConfig.fDown), .lit (.int .i64 s4.2.2.fConfig.fUp), .lit (.int .i64 s4.2.2.fConfig.fSpare), .sl (s4.2.2.fNeeds.map (encI .i64)) .no, .lit (.int .i64 s4.2.2.fAt), .lit (.int .i64 s4.2.2.fMost), .lit (.int .i64 s4.2.2.fBad), .lit (.int .i64 s4.2.2.fGood), .lit (.int .i64 s4.2.2.fMoves)]]⟩ (AWp.reg Try.tyOk hΓ (keep := [13]) (dead := []) (by kernel_rfl) rfl (by simp)) ?_
              refine AWp.seq ?_
              obtain ⟨h38, hr⟩ := need_some hr
              obtain ⟨r5, h39, hr⟩ := bind_some' hr
              refine AWp.then ⟨[⟨56, none, .lit (.bool (notB r5.1))⟩, ⟨13, none, .lit (.int .i64 (addI .i64 s4.2.1 1))⟩, ⟨15, none, .lit (.int .i64 r4)⟩, ⟨14, none, .lit (.int .i64 s4.1)⟩, ⟨11, none, .ptr 3 0⟩, ⟨10, none, .sl (r2.map (encI .i64)) .no⟩, ⟨9, none, .ptr 0 0⟩, ⟨3, none, .sl (x3.map (encI .i64)) .no⟩], [.blk [.lit (.int .i64 (addI .i64 1 (bitsOp .and .i64 x0 7))), .lit (.int .i64 (addI .i64 1 (bitsOp .and .i64 x1 7))), .lit (.int .i64 2)], .dead, .dead, .blk [.lit (.int .i64 r5.2.fConfig.fDown), .lit (.int .i64 r5.2.fConfig.fUp), .lit (.int .i64 r5.2.fConfig.fSpare), .sl (r5.2.fNeeds.map (encI .i64)) .no, .lit (.int .i64 r5.2.fAt), .lit (.int .i64 r5.2.fMost), .lit (.int .i64 r5.2.fBad), .lit (.int .i64 r5.2.fGood), .lit (.int .i64 r5.2.fMoves)]]⟩ (AWp.reg Try.tyOk hΓ (keep := [56]) (dead := []) (by kernel_rfl) rfl (by simp [h38, h39])) ?_
              refine AWp.cond (b := (notB r5.1)) (by simp) (fun h40 => ?_) (fun h40 => ?_)
              · have hr := cond_t h40 hr
                refine AWp.exit ?_
                refine blockS_same ?_
                obtain rfl := some_inj hr
                exact meet_go () 4 (by simp)
              · have hr := cond_f h40 hr
                refine AWp.skip ?_
                refine AWp.seq ?_
                obtain ⟨r6, h41, hr⟩ := bind_some' hr
                obtain ⟨h42, hr⟩ := need_some hr
                refine AWp.then ⟨[⟨78, none, .lit (.bool (pickB (pickB (ltI r6 r4) (ltI (addI .i64 s4.2.1 1) (addI .i64 1 (bitsOp .and .i64 x0 7))) false) true (pickB (ltI r4 ((gLadderLadderAt r5.2).getD dflt)) (ltI (addI .i64 s4.2.1 1) (addI .i64 1 (bitsOp .and .i64 x1 7))) false)))⟩, ⟨14, none, .lit (.int .i64 s4.1)⟩, ⟨11, none, .ptr 3 0⟩, ⟨10, none, .sl (r2.map (encI .i64)) .no⟩, ⟨9, none, .ptr 0 0⟩, ⟨3, none, .sl (x3.map (encI .i64)) .no⟩], [.blk [.lit (.int .i64 (addI .i64 1 (bitsOp .and .i64 x0 7))), .lit (.int .i64 (addI .i64 1 (bitsOp .and .i64 x1 7))), .lit (.int .i64 2)], .dead, .dead, .blk [.lit (.int .i64 r5.2.fConfig.fDown), .lit (.int .i64 r5.2.fConfig.fUp), .lit (.int .i64 r5.2.fConfig.fSpare), .sl (r5.2.fNeeds.map (encI .i64)) .no, .lit (.int .i64 r5.2.fAt), .lit (.int .i64 r5.2.fMost), .lit (.int .i64 r5.2.fBad), .lit (.int .i64 r5.2.fGood), .lit (.int .i64 r5.2.fMoves)]]⟩ (AWp.reg Try.tyOk hΓ (keep := [78]) (dead := [56, 13, 15]) (by kernel_rfl) rfl (by simp [h40, h41])) ?_
                refine AWp.cond (b := (pickB (pickB (ltI r6 r4) (ltI (addI .i64 s4.2.1 1) (addI .i64 1 (bitsOp .and .i64 x0 7))) false) true (pickB (ltI r4 ((gLadderLadderAt r5.2).getD dflt)) (ltI (addI .i64 s4.2.1 1) (addI .i64 1 (bitsOp .and .i64 x1 7))) false))) (by simp) (fun h43 => ?_) (fun h43 => ?_)
                · have hr := cond_t h43 hr
                  refine AWp.then ⟨[⟨8, none, .lit (.bool false)⟩], [.blk [.lit (.int .i64 (addI .i64 1 (bitsOp .and .i64 x0 7))), .lit (.int .i64 (addI .i64 1 (bitsOp .and .i64 x1 7))), .lit (.int .i64 2)], .dead, .dead, .blk [.lit (.int .i64 r5.2.fConfig.fDown), .lit (.int .i64 r5.2.fConfig.fUp), .lit (.int .i64 r5.2.fConfig.fSpare), .sl (r5.2.fNeeds.map (encI .i64)) .no, .lit (.int .i64 r5.2.fAt), .lit (.int .i64 r5.2.fMost), .lit (.int .i64 r5.2.fBad), .lit (.int .i64 r5.2.fGood), .lit (.int .i64 r5.2.fMoves)]]⟩ (AWp.reg Try.tyOk hΓ (keep := [8]) (dead := [78, 14, 11, 10, 9, 3]) (by kernel_rfl) rfl (by simp [h41])) ?_
                  refine AWp.ret ?_
                  obtain rfl := some_inj hr
                  refine meet_ret ?_
                  refine ⟨_, rfl, ?_⟩
                  refine fin_ret ?_
                  simp
                · have hr := cond_f h43 hr
                  refine AWp.skip ?_
                  refine AWp.last ⟨[⟨13, none, .lit (.int .i64 0)⟩, ⟨14, none, .lit (.int .i64 s4.1)⟩, ⟨11, none, .ptr 3 0⟩, ⟨10, none, .sl (r2.map (encI .i64)) .no⟩, ⟨9, none, .ptr 0 0⟩, ⟨3, none, .sl (x3.map (encI .i64)) .no⟩], [.blk [.lit (.int .i64 (addI .i64 1 (bitsOp .and .i64 x0 7))), .lit (.int .i64 (addI .i64 1 (bitsOp .and .i64 x1 7))), .lit (.int .i64 2)], .dead, .dead, .blk [.lit (.int .i64 r5.2.fConfig.fDown), .lit (.int .i64 r5.2.fConfig.fUp), .lit (.int .i64 r5.2.fConfig.fSpare), .sl (r5.2.fNeeds.map (encI .i64)) .no, .lit (.int .i64 r5.2.fAt), .lit (.int .i64 r5.2.fMost), .lit (.int .i64 r5.2.fBad), .lit (.int .i64 r5.2.fGood), .lit (.int .i64 r5.2.fMoves)]]⟩ (AWp.reg Try.tyOk hΓ (keep := [13]) (dead := [78]) (by kernel_rfl) rfl (by simp [h41])) ?_
                  obtain rfl := some_inj hr
                  exact meet_go () 4 (by simp)
            · refine AWp.last ⟨[⟨14, none, .lit (.int .i64 (addI .i64 s4.1 1))⟩, ⟨13, none, .lit (.int .i64 v5.2)⟩, ⟨11, none, .ptr 3 0⟩, ⟨10, none, .sl (r2.map (encI .i64)) .no⟩, ⟨9, none, .ptr 0 0⟩, ⟨3, none, .sl (x3.map (encI .i64)) .no⟩], [.blk [.lit (.int .i64 (addI .i64 1 (bitsOp .and .i64 x0 7))), .lit (.int .i64 (addI .i64 1 (bitsOp .and .i64 x1 7))), .lit (.int .i64 2)], .dead, .dead, .blk [.lit (.int .i64 v5.1.fConfig.fDown), .lit (.int .i64 v5.1.fConfig.fUp), .lit (.int .i64 v5.1.fConfig.fSpare), .sl (v5.1.fNeeds.map (encI .i64)) .no, .lit (.int .i64 v5.1.fAt), .lit (.int .i64 v5.1.fMost), .lit (.int .i64 v5.1.fBad), .lit (.int .i64 v5.1.fGood), .lit (.int .i64 v5.1.fMoves)]]⟩ (AWp.reg Try.tyOk hΓ (keep := [14]) (dead := []) (by kernel_rfl) rfl (by simp)) ?_
              obtain rfl := some_inj hr
              exact round_go () 4 (by simp)
          · have hr := cond_f h36 hr
            refine AWp.exit ?_
            obtain rfl := some_inj hr
            exact round_out () 4 (by simp)
        · refine AWp.conv hc ?_
          refine AWp.seq ?_
          refine AWp.then ⟨[⟨79, none, .lit (.int .i64 0)⟩, ⟨11, none, .ptr 3 0⟩, ⟨10, none, .sl (r2.map (encI .i64)) .no⟩], [.blk [.lit (.int .i64 (addI .i64 1 (bitsOp .and .i64 x0 7))), .lit (.int .i64 (addI .i64 1 (bitsOp .and .i64 x1 7))), .lit (.int .i64 2)], .dead, .dead, .blk [.lit (.int .i64 v4.fConfig.fDown), .lit (.int .i64 v4.fConfig.fUp), .lit (.int .i64 v4.fConfig.fSpare), .sl (v4.fNeeds.map (encI .i64)) .no, .lit (.int .i64 v4.fAt), .lit (.int .i64 v4.fMost), .lit (.int .i64 v4.fBad), .lit (.int .i64 v4.fGood), .lit (.int .i64 v4.fMoves)]]⟩ (AWp.reg Try.tyOk hΓ (keep := [79]) (dead := []) (by kernel_rfl) rfl (by simp)) ?_
          refine AWp.loopE (fun (s6 : Int × LadderLadder) (γ6 : Unit) => ⟨[⟨79, none, .lit (.int .i64 s6.1)⟩, ⟨11, none, .ptr 3 0⟩, ⟨10, none, .sl (r2.map (encI .i64)) .no⟩], [.blk [.lit (.int .i64 (addI .i64 1 (bitsOp .and .i64 x0 7))), .lit (.int .i64 (addI .i64 1 (bitsOp .and .i64 x1 7))), .lit (.int .i64 2)], .dead, .dead, .blk [.lit (.int .i64 s6.2.fConfig.fDown), .lit (.int .i64 s6.2.fConfig.fUp), .lit (.int .i64 s6.2.fConfig.fSpare), .sl (s6.2.fNeeds.map (encI .i64)) .no, .lit (.int .i64 s6.2.fAt), .lit (.int .i64 s6.2.fMost), .lit (.int .i64 s6.2.fBad), .lit (.int .i64 s6.2.fGood), .lit (.int .i64 s6.2.fMoves)]]⟩) (fun (v6 : LadderLadder) (γ6a : Unit) => ⟨[], [.blk [.lit (.int .i64 (addI .i64 1 (bitsOp .and .i64 x0 7))), .lit (.int .i64 (addI .i64 1 (bitsOp .and .i64 x1 7))), .lit (.int .i64 2)], .dead, .dead, .blk [.lit (.int .i64 v6.fConfig.fDown), .lit (.int .i64 v6.fConfig.fUp), .lit (.int .i64 v6.fConfig.fSpare), .sl (v6.fNeeds.map (encI .i64)) .no, .lit (.int .i64 v6.fAt), .lit (.int .i64 v6.fMost), .lit (.int .i64 v6.fBad), .lit (.int .i64 v6.fGood), .lit (.int .i64 v6.fMoves)]]⟩) (gLaw23LadderHolds.fin x0 x1 x2 x3) hr () 4 (by simp) (fun s6 f γ6 hr => ?_) (fun v6 γ6a σ1 m1 hr hc => ?_) (fun _ h => h)
          · unfold gLaw23LadderHolds.loop6 at hr
            refine AWp.then ⟨[⟨80, none, .lit (.bool (ltI s6.1 50))⟩, ⟨79, none, .lit (.int .i64 s6.1)⟩, ⟨11, none, .ptr 3 0⟩, ⟨10, none, .sl (r2.map (encI .i64)) .no⟩], [.blk [.lit (.int .i64 (addI .i64 1 (bitsOp .and .i64 x0 7))), .lit (.int .i64 (addI .i64 1 (bitsOp .and .i64 x1 7))), .lit (.int .i64 2)], .dead, .dead, .blk [.lit (.int .i64 s6.2.fConfig.fDown), .lit (.int .i64 s6.2.fConfig.fUp), .lit (.int .i64 s6.2.fConfig.fSpare), .sl (s6.2.fNeeds.map (encI .i64)) .no, .lit (.int .i64 s6.2.fAt), .lit (.int .i64 s6.2.fMost), .lit (.int .i64 s6.2.fBad), .lit (.int .i64 s6.2.fGood), .lit (.int .i64 s6.2.fMoves)]]⟩ (AWp.reg Try.tyOk hΓ (keep := [80]) (dead := []) (by kernel_rfl) rfl (by simp)) ?_
            refine AWp.seq ?_
            refine AWp.cond (b := (ltI s6.1 50)) (by simp) (fun h44 => ?_) (fun h44 => ?_)
            · have hr := cond_t h44 hr
              refine AWp.skip ?_
              refine AWp.seq ?_
              refine AWp.block ?_
              obtain ⟨r7, h45, hr⟩ := bind_some' hr
              refine AWp.then ⟨[⟨16, none, .lit (.int .i64 r7)⟩, ⟨79, none, .lit (.int .i64 s6.1)⟩, ⟨11, none, .ptr 3 0⟩, ⟨10, none, .sl (r2.map (encI .i64)) .no⟩], [.blk [.lit (.int .i64 (addI .i64 1 (bitsOp .and .i64 x0 7))), .lit (.int .i64 (addI .i64 1 (bitsOp .and .i64 x1 7))), .lit (.int .i64 2)], .dead, .dead, .blk [.lit (.int .i64 s6.2.fConfig.fDown), .lit (.int .i64 s6.2.fConfig.fUp), .lit (.int .i64 s6.2.fConfig.fSpare), .sl (s6.2.fNeeds.map (encI .i64)) .no, .lit (.int .i64 s6.2.fAt), .lit (.int .i64 s6.2.fMost), .lit (.int .i64 s6.2.fBad), .lit (.int .i64 s6.2.fGood), .lit (.int .i64 s6.2.fMoves)]]⟩ (AWp.reg Try.tyOk hΓ (keep := [16]) (dead := [80]) (by kernel_rfl) rfl (by simp [h44, h45])) ?_
              obtain ⟨h46, hr⟩ := need_some hr
              obtain ⟨r8, h47, hr⟩ := bind_some' hr
              obtain ⟨h48, hr⟩ := need_some hr
              obtain ⟨h49, hr⟩ := need_some hr
              obtain ⟨h50, hr⟩ := need_some hr
              obtain ⟨h51, hr⟩ := need_some hr
              refine AWp.then ⟨[⟨115, none, .lit (.bool (pickB r8.1 (pickB (leI (lenL r2) (addI .i64 r7 1)) true (ltI (nthI r2 r7) (addI .i64 (nthI r2 (addI .i64 r7 1)) (mulI .i64 (quoI .i64 (nthI r2 (addI .i64 r7 1)) 10) 2)))) false))⟩, ⟨79, none, .lit (.int .i64 s6.1)⟩, ⟨11, none, .ptr 3 0⟩, ⟨10, none, .sl (r2.map (encI .i64)) .no⟩], [.blk [.lit (.int .i64 (addI .i64 1 (bitsOp .and .i64 x0 7))), .lit (.int .i64 (addI .i64 1 (bitsOp .and .i64 x1 7))), .lit (.int .i64 2)], .dead, .dead, .blk [.lit (.int .i64 r8.2.fConfig.fDown), .lit (.int .i64 r8.2.fConfig.fUp), .lit (.int .i64 r8.2.fConfig.fSpare), .sl (r8.2.fNeeds.map (encI .i64)) .no, .lit (.int .i64 r8.2.fAt), .lit (.int .i64 r8.2.fMost), .lit (.int .i64 r8.2.fBad), .lit (.int .i64 r8.2.fGood), .lit (.int .i64 r8.2.fMoves)]]⟩ (AWp.regD Try.mixed Try.tyOk hΓ (keep := [115]) (dead := [16]) [] [(false, []), (false, []), (false, []), (false, []), (false, []), (true, []), (false, []), (false, [89]), (false, [89]), (false, [89]), (false, [89]), (false, [89]), (false, [89]), (false, [95, 89]), (false, [95, 89]), (false, [95, 89]), (false, [95, 89]), (false, [95, 89]), (false, [95, 89]), (false, [95, 89]), (false, [95, 89]), (false, [95, 89]), (false, [95, 89]), (false, [95, 89]), (false, [95, 89]), (false, [95, 89]), (false, [95, 89]), (false, [95, 89]), (false, [95, 89]), (false, [95, 89]), (false, [95, 89]), (false, [89]), (false, [])] (by kernel_rfl) rfl (by simp [h46, h47, h48, h50])) ?_
              refine AWp.cond (b := (pickB r8.1 (pickB (leI (lenL r2) (addI .i64 r7 1)) true (ltI (nthI r2 r7) (addI .i64 (nthI r2 (addI .i64 r7 1)) (mulI .i64 (quoI .i64 (nthI r2 (addI .i64 r7 1)) 10) 2)))) false)) (by simp) (fun h52 => ?_) (fun h52 => ?_)
              · have hr := cond_t h52 hr
                refine AWp.then ⟨[⟨8, none, .lit (.bool false)⟩], [.blk [.lit (.int .i64 (addI .i64 1 (bitsOp .and .i64 x0 7))), .lit (.int .i64 (addI .i64 1 (bitsOp .and .i64 x1 7))), .lit (.int .i64 2)], .dead, .dead, .blk [.lit (.int .i64 r8.2.fConfig.fDown), .lit (.int .i64 r8.2.fConfig.fUp), .lit (.int .i64 r8.2.fConfig.fSpare), .sl (r8.2.fNeeds.map (encI .i64)) .no, .lit (.int .i64 r8.2.fAt), .lit (.int .i64 r8.2.fMost), .lit (.int .i64 r8.2.fBad), .lit (.int .i64 r8.2.fGood), .lit (.int .i64 r8.2.fMoves)]]⟩ (AWp.reg Try.tyOk hΓ (keep := [8]) (dead := [115, 79, 11, 10]) (by kernel_rfl) rfl (by simp [h52])) ?_
                refine AWp.ret ?_
                obtain rfl := some_inj hr
                refine round_ret ?_
                refine fin_ret ?_
                simp
              · have hr := cond_f h52 hr
                refine AWp.skip ?_
                refine AWp.last ⟨[⟨79, none, .lit (.int .i64 (addI .i64 s6.1 1))⟩, ⟨11, none, .ptr 3 0⟩, ⟨10, none, .sl (r2.map (encI .i64)) .no⟩], [.blk [.lit (.int .i64 (addI .i64 1 (bitsOp .and .i64 x0 7))), .lit (.int .i64 (addI .i64 1 (bitsOp .and .i64 x1 7))), .lit (.int .i64 2)], .dead, .dead, .blk [.lit (.int .i64 r8.2.fConfig.fDown), .lit (.int .i64 r8.2.fConfig.fUp), .lit (.int .i64 r8.2.fConfig.fSpare), .sl (r8.2.fNeeds.map (encI .i64)) .no, .lit (.int .i64 r8.2.fAt), .lit (.int .i64 r8.2.fMost), .lit (.int .i64 r8.2.fBad), .lit (.int .i64 r8.2.fGood), .lit (.int .i64 r8.2.fMoves)]]⟩ (AWp.reg Try.tyOk hΓ (keep := [79]) (dead := [115]) (by kernel_rfl) rfl (by simp [h52])) ?_
                obtain rfl := some_inj hr
                exact round_go () 4 (by simp)
            · have hr := cond_f h44 hr
              refine AWp.exit ?_
              obtain rfl := some_inj hr
              exact round_out () 4 (by simp)
          · refine AWp.conv hc ?_
            refine AWp.then ⟨[⟨8, none, .lit (.bool true)⟩], [.blk [.lit (.int .i64 (addI .i64 1 (bitsOp .and .i64 x0 7))), .lit (.int .i64 (addI .i64 1 (bitsOp .and .i64 x1 7))), .lit (.int .i64 2)], .dead, .dead, .blk [.lit (.int .i64 v6.fConfig.fDown), .lit (.int .i64 v6.fConfig.fUp), .lit (.int .i64 v6.fConfig.fSpare), .sl (v6.fNeeds.map (encI .i64)) .no, .lit (.int .i64 v6.fAt), .lit (.int .i64 v6.fMost), .lit (.int .i64 v6.fBad), .lit (.int .i64 v6.fGood), .lit (.int .i64 v6.fMoves)]]⟩ (AWp.reg Try.tyOk hΓ (keep := [8]) (dead := []) (by kernel_rfl) rfl (by simp)) ?_
            refine AWp.ret ?_
            obtain rfl := some_inj hr
            refine fin_ret ?_
            simp

@[simp] noncomputable def gLaw23LadderHolds.S : Sp
  | [.lit (.int .i64 x0), .lit (.int .i64 x1), .sl e2 _, .sl e3 _], _ => some { av := .lit (.bool ((gLaw23LadderHolds x0 x1 (e2.map decI) (e3.map decI)).getD dflt)), M := none, obl := e2 = (e2.map decI).map (encI .i64) ∧ e3 = (e3.map decI).map (encI .i64) ∧ (gLaw23LadderHolds x0 x1 (e2.map decI) (e3.map decI)).isSome = true }
  | _, _ => none

set_option maxHeartbeats 1000000 in
theorem gLaw23LadderHolds.ok : SpecOk Try.prog 5 gLaw23LadderHolds.S := by
  intro l M out h
  unfold gLaw23LadderHolds.S at h
  split at h
  · rename_i x0 x1 e2 k2 e3 k3
    cases h
    refine callOk_of fun ho => ?_
    obtain ⟨ox2, ox3, hs⟩ := ho
    generalize (e2.map decI) = x2 at *
    subst ox2
    generalize (e3.map decI) = x3 at *
    subst ox3
    obtain ⟨r, hr⟩ := Option.isSome_iff_exists.1 hs
    simp only [hr, Option.getD_some]
    have q := call_frame (M := M) [] (gLaw23LadderHolds.can x0 x1 x2 x3 r hr) (by simp) rfl (by intro k i hk; simp at hk)
    exact callOk_conv q trivial (by simp) (by simp [frameOut, gLaw23LadderHolds.out]) (by simp [frameOut, gLaw23LadderHolds.out])
  · cases h
end Go.Proofs

/- That these functions compute what their plain functions do. No condition. -/
import Derived.Test.YtdcfbacpklklcaaLpD
import Derived.Test.YtdcfbacpklklcaaTy
import Derived.Test.YtdcfbacpklklcaaLd
import Derived.Test.YtdcfbacpklklcaaWl
import Derived.Test.YtdcfbacpklklcaaRl
namespace Go.Proofs
open Go.Ab
@[simp] def gLaw23LadderPlays.out (_x0 : Int) (_x1 : Int) (_x2 : Int) (_x3 : Int) (_x4 : List Int) (_x5 : List Int) (r : Bool) : Out := { av := .lit (.bool r), M := none }
def gLaw23LadderPlays.fin (x0 : Int) (x1 : Int) (x2 : Int) (x3 : Int) (x4 : List Int) (x5 : List Int) (r : Bool) (σ : St) : Prop := finK (gLaw23LadderPlays.out x0 x1 x2 x3 x4 x5 r) [] σ.M (resA Try.ty σ.A σ.M Try.f6.results.toList)
set_option maxHeartbeats 4000000 in
set_option maxRecDepth 100000 in
theorem gLaw23LadderPlays.can (x0 : Int) (x1 : Int) (x2 : Int) (x3 : Int) (x4 : List Int) (x5 : List Int) (r : Bool) (hr : gLaw23LadderPlays x0 x1 x2 x3 x4 x5 = some r) : CallOk Try.prog 6 [.lit (.int .i64 x0), .lit (.int .i64 x1), .lit (.int .i64 x2), .lit (.int .i64 x3), .sl (x4.map (encI .i64)) .no, .sl (x5.map (encI .i64)) .no] [] (gLaw23LadderPlays.out x0 x1 x2 x3 x4 x5 r) := by
  unfold gLaw23LadderPlays at hr
  have hΓ := (gamL_cons gLadderLadderAt.ok (gamL_cons gLadderLadderMoves.ok (gamL_cons gLadderLadderTick.ok (gamL_cons gLaw23Awake.ok (gamL_cons gLaw23Needs.ok (gamL_cons gRef23Tick.ok (gamL_cons gLadderNew.ok (gamL_nil))))))) : GamOk Try.prog _)
  refine call_of_awp Try.tyOk Try.func6 rfl (by kernel_rfl) rfl rfl (by simp) ?_
  intro _ _ _
  refine AWp.then ⟨[⟨0, none, .lit (.int .i64 x0)⟩, ⟨1, none, .lit (.int .i64 x1)⟩, ⟨2, none, .lit (.int .i64 x2)⟩, ⟨3, none, .lit (.int .i64 x3)⟩, ⟨4, none, .sl (x4.map (encI .i64)) .no⟩, ⟨5, none, .sl (x5.map (encI .i64)) .no⟩], []⟩ (AWp.reg Try.tyOk hΓ (keep := []) (dead := []) (by kernel_rfl) rfl (by simp)) ?_
  refine AWp.seq ?_
  obtain ⟨r1, h17, hr⟩ := bind_some' hr
  refine AWp.then ⟨[⟨23, none, .lit (.bool (notB r1))⟩, ⟨0, none, .lit (.int .i64 x0)⟩, ⟨1, none, .lit (.int .i64 x1)⟩, ⟨2, none, .lit (.int .i64 x2)⟩, ⟨3, none, .lit (.int .i64 x3)⟩, ⟨4, none, .sl (x4.map (encI .i64)) .no⟩, ⟨5, none, .sl (x5.map (encI .i64)) .no⟩], []⟩ (AWp.reg Try.tyOk hΓ (keep := [23]) (dead := []) (by kernel_rfl) rfl (by simp [h17])) ?_
  refine AWp.cond (b := (notB r1)) (by simp) (fun h18 => ?_) (fun h18 => ?_)
  · have hr := cond_t h18 hr
    refine AWp.then ⟨[⟨12, none, .lit (.bool false)⟩], []⟩ (AWp.reg Try.tyOk hΓ (keep := [12]) (dead := [23, 0, 1, 2, 3, 4, 5]) (by kernel_rfl) rfl (by simp [h18])) ?_
    refine AWp.ret ?_
    obtain rfl := some_inj hr
    refine fin_ret ?_
    simp
  · have hr := cond_f h18 hr
    refine AWp.skip ?_
    refine AWp.then ⟨[⟨13, none, .ptr 0 0⟩, ⟨3, none, .lit (.int .i64 x3)⟩, ⟨4, none, .sl (x4.map (encI .i64)) .no⟩, ⟨5, none, .sl (x5.map (encI .i64)) .no⟩], [.blk [.lit (.int .i64 (addI .i64 1 (bitsOp .and .i64 x0 7))), .lit (.int .i64 (addI .i64 1 (bitsOp .and .i64 x1 7))), .lit (.int .i64 (bitsOp .and .i64 x2 15))]]⟩ (AWp.reg Try.tyOk hΓ (keep := [13]) (dead := [23, 0, 1, 2]) (by kernel_rfl) rfl (by simp [h18])) ?_
    obtain ⟨r2, h19, hr⟩ := bind_some' hr
    refine AWp.then ⟨[⟨14, none, .sl (r2.map (encI .i64)) .no⟩, ⟨13, none, .ptr 0 0⟩, ⟨3, none, .lit (.int .i64 x3)⟩, ⟨5, none, .sl (x5.map (encI .i64)) .no⟩], [.blk [.lit (.int .i64 (addI .i64 1 (bitsOp .and .i64 x0 7))), .lit (.int .i64 (addI .i64 1 (bitsOp .and .i64 x1 7))), .lit (.int .i64 (bitsOp .and .i64 x2 15))]]⟩ (AWp.reg Try.tyOk hΓ (keep := [14]) (dead := [4]) (by kernel_rfl) rfl (by simp [h19])) ?_
    obtain ⟨r3, h20, hr⟩ := bind_some' hr
    cases h21 : r3.1 with
    | none =>
      have hr := optC_n h21 hr
      refine AWp.then ⟨[⟨15, none, .lit (.pointer none)⟩, ⟨16, none, .lit (.int .i64 r3.2)⟩, ⟨14, none, .sl (r2.map (encI .i64)) .no⟩, ⟨13, none, .ptr 0 0⟩, ⟨3, none, .lit (.int .i64 x3)⟩, ⟨5, none, .sl (x5.map (encI .i64)) .no⟩], [.blk [.lit (.int .i64 (addI .i64 1 (bitsOp .and .i64 x0 7))), .lit (.int .i64 (addI .i64 1 (bitsOp .and .i64 x1 7))), .lit (.int .i64 (bitsOp .and .i64 x2 15))]]⟩ (AWp.reg Try.tyOk hΓ (keep := [15, 16]) (dead := []) (by kernel_rfl) rfl (by simp [h20, h21])) ?_
      refine AWp.seq ?_
      refine AWp.then ⟨[⟨43, none, .lit (.bool (neI r3.2 0))⟩, ⟨15, none, .lit (.pointer none)⟩, ⟨14, none, .sl (r2.map (encI .i64)) .no⟩, ⟨13, none, .ptr 0 0⟩, ⟨3, none, .lit (.int .i64 x3)⟩, ⟨5, none, .sl (x5.map (encI .i64)) .no⟩], [.blk [.lit (.int .i64 (addI .i64 1 (bitsOp .and .i64 x0 7))), .lit (.int .i64 (addI .i64 1 (bitsOp .and .i64 x1 7))), .lit (.int .i64 (bitsOp .and .i64 x2 15))]]⟩ (AWp.reg Try.tyOk hΓ (keep := [43]) (dead := [16]) (by kernel_rfl) rfl (by simp)) ?_
      refine AWp.cond (b := (neI r3.2 0)) (by simp) (fun h22 => ?_) (fun h22 => ?_)
      · have hr := cond_t h22 hr
        refine AWp.then ⟨[⟨12, none, .lit (.bool false)⟩], [.blk [.lit (.int .i64 (addI .i64 1 (bitsOp .and .i64 x0 7))), .lit (.int .i64 (addI .i64 1 (bitsOp .and .i64 x1 7))), .lit (.int .i64 (bitsOp .and .i64 x2 15))]]⟩ (AWp.reg Try.tyOk hΓ (keep := [12]) (dead := [43, 15, 14, 13, 3, 5]) (by kernel_rfl) rfl (by simp [h22])) ?_
        refine AWp.ret ?_
        obtain rfl := some_inj hr
        refine fin_ret ?_
        simp
      · have hr := cond_f h22 hr
        refine AWp.skip ?_
        refine AWp.then ⟨[⟨17, none, .ptr 1 0⟩, ⟨15, none, .lit (.pointer none)⟩, ⟨5, none, .sl (x5.map (encI .i64)) .no⟩], [.blk [.lit (.int .i64 (addI .i64 1 (bitsOp .and .i64 x0 7))), .lit (.int .i64 (addI .i64 1 (bitsOp .and .i64 x1 7))), .lit (.int .i64 (bitsOp .and .i64 x2 15))], .blk [.lit (.int .i64 (addI .i64 1 (bitsOp .and .i64 x0 7))), .lit (.int .i64 (addI .i64 1 (bitsOp .and .i64 x1 7))), .lit (.int .i64 (bitsOp .and .i64 x2 15)), .sl (r2.map (encI .i64)) .no, .lit (.int .i64 0), .lit (.int .i64 (minI (maxI x3 0) (subI .i64 (lenL r2) 1))), .lit (.int .i64 0), .sl [] .full]]⟩ (AWp.reg Try.tyOk hΓ (keep := [17]) (dead := [43, 14, 13, 3]) (by kernel_rfl) rfl (by simp [h22])) ?_
        refine AWp.then ⟨[⟨17, none, .ptr 1 0⟩, ⟨15, none, .lit (.pointer none)⟩, ⟨5, none, .sl (x5.map (encI .i64)) .no⟩], [.blk [.lit (.int .i64 (addI .i64 1 (bitsOp .and .i64 x0 7))), .lit (.int .i64 (addI .i64 1 (bitsOp .and .i64 x1 7))), .lit (.int .i64 (bitsOp .and .i64 x2 15))], .blk [.lit (.int .i64 (addI .i64 1 (bitsOp .and .i64 x0 7))), .lit (.int .i64 (addI .i64 1 (bitsOp .and .i64 x1 7))), .lit (.int .i64 (bitsOp .and .i64 x2 15)), .sl (r2.map (encI .i64)) .no, .lit (.int .i64 (minI (maxI x3 0) (subI .i64 (lenL r2) 1))), .lit (.int .i64 (minI (maxI x3 0) (subI .i64 (lenL r2) 1))), .lit (.int .i64 0), .sl [] .full]]⟩ (AWp.reg Try.tyOk hΓ (keep := []) (dead := []) (by kernel_rfl) rfl (by simp)) ?_
        refine AWp.seq ?_
        refine AWp.then ⟨[⟨18, none, .lit (.int .i64 0)⟩, ⟨17, none, .ptr 1 0⟩, ⟨15, none, .lit (.pointer none)⟩, ⟨5, none, .sl (x5.map (encI .i64)) .no⟩], [.blk [.lit (.int .i64 (addI .i64 1 (bitsOp .and .i64 x0 7))), .lit (.int .i64 (addI .i64 1 (bitsOp .and .i64 x1 7))), .lit (.int .i64 (bitsOp .and .i64 x2 15))], .blk [.lit (.int .i64 (addI .i64 1 (bitsOp .and .i64 x0 7))), .lit (.int .i64 (addI .i64 1 (bitsOp .and .i64 x1 7))), .lit (.int .i64 (bitsOp .and .i64 x2 15)), .sl (r2.map (encI .i64)) .no, .lit (.int .i64 (minI (maxI x3 0) (subI .i64 (lenL r2) 1))), .lit (.int .i64 (minI (maxI x3 0) (subI .i64 (lenL r2) 1))), .lit (.int .i64 0), .sl [] .full]]⟩ (AWp.reg Try.tyOk hΓ (keep := [18]) (dead := []) (by kernel_rfl) rfl (by simp)) ?_
        refine AWp.loopE (fun (s1 : Unit) (γ1 : Unit) => ⟨[⟨18, none, .lit (.int .i64 0)⟩, ⟨17, none, .ptr 1 0⟩, ⟨15, none, .lit (.pointer none)⟩, ⟨5, none, .sl (x5.map (encI .i64)) .no⟩], [.blk [.lit (.int .i64 (addI .i64 1 (bitsOp .and .i64 x0 7))), .lit (.int .i64 (addI .i64 1 (bitsOp .and .i64 x1 7))), .lit (.int .i64 (bitsOp .and .i64 x2 15))], .blk [.lit (.int .i64 (addI .i64 1 (bitsOp .and .i64 x0 7))), .lit (.int .i64 (addI .i64 1 (bitsOp .and .i64 x1 7))), .lit (.int .i64 (bitsOp .and .i64 x2 15)), .sl (r2.map (encI .i64)) .no, .lit (.int .i64 (minI (maxI x3 0) (subI .i64 (lenL r2) 1))), .lit (.int .i64 (minI (maxI x3 0) (subI .i64 (lenL r2) 1))), .lit (.int .i64 0), .sl [] .full]]⟩) (fun (v1 : Unit) (γ1a : Unit) => ⟨[], [.blk [.lit (.int .i64 (addI .i64 1 (bitsOp .and .i64 x0 7))), .lit (.int .i64 (addI .i64 1 (bitsOp .and .i64 x1 7))), .lit (.int .i64 (bitsOp .and .i64 x2 15))], .blk [.lit (.int .i64 (addI .i64 1 (bitsOp .and .i64 x0 7))), .lit (.int .i64 (addI .i64 1 (bitsOp .and .i64 x1 7))), .lit (.int .i64 (bitsOp .and .i64 x2 15)), .sl (r2.map (encI .i64)) .no, .lit (.int .i64 (minI (maxI x3 0) (subI .i64 (lenL r2) 1))), .lit (.int .i64 (minI (maxI x3 0) (subI .i64 (lenL r2) 1))), .lit (.int .i64 0), .sl [] .full]]⟩) (gLaw23LadderPlays.fin x0 x1 x2 x3 x4 x5) hr () 2 (by simp) (fun s1 f γ1 hr => ?_) (fun v1 γ1a σ1 m1 hr hc => ?_) (fun _ h => h)
        · unfold gLaw23LadderPlays.loop1 at hr
          refine AWp.seq ?_
          refine AWp.then ⟨[⟨68, none, .lit (.bool (pickB (ltI 0 (lenL x5)) (ltI 0 200) false))⟩, ⟨18, none, .lit (.int .i64 0)⟩, ⟨17, none, .ptr 1 0⟩, ⟨15, none, .lit (.pointer none)⟩, ⟨5, none, .sl (x5.map (encI .i64)) .no⟩], [.blk [.lit (.int .i64 (addI .i64 1 (bitsOp .and .i64 x0 7))), .lit (.int .i64 (addI .i64 1 (bitsOp .and .i64 x1 7))), .lit (.int .i64 (bitsOp .and .i64 x2 15))], .blk [.lit (.int .i64 (addI .i64 1 (bitsOp .and .i64 x0 7))), .lit (.int .i64 (addI .i64 1 (bitsOp .and .i64 x1 7))), .lit (.int .i64 (bitsOp .and .i64 x2 15)), .sl (r2.map (encI .i64)) .no, .lit (.int .i64 (minI (maxI x3 0) (subI .i64 (lenL r2) 1))), .lit (.int .i64 (minI (maxI x3 0) (subI .i64 (lenL r2) 1))), .lit (.int .i64 0), .sl [] .full]]⟩ (AWp.reg Try.tyOk hΓ (keep := [68]) (dead := []) (by kernel_rfl) rfl (by simp)) ?_
          refine AWp.cond (b := (pickB (ltI 0 (lenL x5)) (ltI 0 200) false)) (by simp) (fun h23 => ?_) (fun h23 => ?_)
          · have hr := cond_t h23 hr
            refine AWp.skip ?_
            refine AWp.seq ?_
            refine AWp.block ?_
            refine AWp.seq ?_
            cases hr
          · have hr := cond_f h23 hr
            refine AWp.exit ?_
            obtain rfl := some_inj hr
            exact round_out () 2 (by simp)
        · refine AWp.conv hc ?_
          refine AWp.then ⟨[⟨12, none, .lit (.bool true)⟩], [.blk [.lit (.int .i64 (addI .i64 1 (bitsOp .and .i64 x0 7))), .lit (.int .i64 (addI .i64 1 (bitsOp .and .i64 x1 7))), .lit (.int .i64 (bitsOp .and .i64 x2 15))], .blk [.lit (.int .i64 (addI .i64 1 (bitsOp .and .i64 x0 7))), .lit (.int .i64 (addI .i64 1 (bitsOp .and .i64 x1 7))), .lit (.int .i64 (bitsOp .and .i64 x2 15)), .sl (r2.map (encI .i64)) .no, .lit (.int .i64 (minI (maxI x3 0) (subI .i64 (lenL r2) 1))), .lit (.int .i64 (minI (maxI x3 0) (subI .i64 (lenL r2) 1))), .lit (.int .i64 0), .sl [] .full]]⟩ (AWp.reg Try.tyOk hΓ (keep := [12]) (dead := []) (by kernel_rfl) rfl (by simp)) ?_
          refine AWp.ret ?_
          obtain rfl := some_inj hr
          refine fin_ret ?_
          simp
    | some o1 =>
      have hr := optC_s h21 hr
      refine AWp.then ⟨[⟨15, none, .ptr 3 0⟩, ⟨16, none, .lit (.int .i64 r3.2)⟩, ⟨14, none, .sl (r2.map (encI .i64)) .no⟩, ⟨13, none, .ptr 0 0⟩, ⟨3, none, .lit (.int .i64 x3)⟩, ⟨5, none, .sl (x5.map (encI .i64)) .no⟩], [.blk [.lit (.int .i64 (addI .i64 1 (bitsOp .and .i64 x0 7))), .lit (.int .i64 (addI .i64 1 (bitsOp .and .i64 x1 7))), .lit (.int .i64 (bitsOp .and .i64 x2 15))], .dead, .dead, .blk [.lit (.int .i64 o1.fConfig.fDown), .lit (.int .i64 o1.fConfig.fUp), .lit (.int .i64 o1.fConfig.fSpare), .sl (o1.fNeeds.map (encI .i64)) .no, .lit (.int .i64 o1.fAt), .lit (.int .i64 o1.fMost), .lit (.int .i64 o1.fBad), .lit (.int .i64 o1.fGood), .lit (.int .i64 o1.fMoves)]]⟩ (AWp.reg Try.tyOk hΓ (keep := [15, 16]) (dead := []) (by kernel_rfl) rfl (by simp [h20, h21])) ?_
      refine AWp.seq ?_
      refine AWp.then ⟨[⟨43, none, .lit (.bool (neI r3.2 0))⟩, ⟨15, none, .ptr 3 0⟩, ⟨14, none, .sl (r2.map (encI .i64)) .no⟩, ⟨13, none, .ptr 0 0⟩, ⟨3, none, .lit (.int .i64 x3)⟩, ⟨5, none, .sl (x5.map (encI .i64)) .no⟩], [.blk [.lit (.int .i64 (addI .i64 1 (bitsOp .and .i64 x0 7))), .lit (.int .i64 (addI .i64 1 (bitsOp .and .i64 x1 7))), .lit (.int .i64 (bitsOp .and .i64 x2 15))], .dead, .dead, .blk [.lit (.int .i64 o1.fConfig.fDown), .lit (.int .i64 o1.fConfig.fUp), .lit (.int .i64 o1.fConfig.fSpare), .sl (o1.fNeeds.map (encI .i64)) .no, .lit (.int .i64 o1.fAt), .lit (.int .i64 o1.fMost), .lit (.int .i64 o1.fBad), .lit (.int .i64 o1.fGood), .lit (.int .i64 o1.fMoves)]]⟩ (AWp.reg Try.tyOk hΓ (keep := [43]) (dead := [16]) (by kernel_rfl) rfl (by simp)) ?_
      refine AWp.cond (b := (neI r3.2 0)) (by simp) (fun h24 => ?_) (fun h24 => ?_)
      · have hr := cond_t h24 hr
        refine AWp.then ⟨[⟨12, none, .lit (.bool false)⟩], [.blk [.lit (.int .i64 (addI .i64 1 (bitsOp .and .i64 x0 7))), .lit (.int .i64 (addI .i64 1 (bitsOp .and .i64 x1 7))), .lit (.int .i64 (bitsOp .and .i64 x2 15))], .dead, .dead, .blk [.lit (.int .i64 o1.fConfig.fDown), .lit (.int .i64 o1.fConfig.fUp), .lit (.int .i64 o1.fConfig.fSpare), .sl (o1.fNeeds.map (encI .i64)) .no, .lit (.int .i64 o1.fAt), .lit (.int .i64 o1.fMost), .lit (.int .i64 o1.fBad), .lit (.int .i64 o1.fGood), .lit (.int .i64 o1.fMoves)]]⟩ (AWp.reg Try.tyOk hΓ (keep := [12]) (dead := [43, 15, 14, 13, 3, 5]) (by kernel_rfl) rfl (by simp [h24])) ?_
        refine AWp.ret ?_
        obtain rfl := some_inj hr
        refine fin_ret ?_
        simp
      · have hr := cond_f h24 hr
        refine AWp.skip ?_
        refine AWp.then ⟨[⟨17, none, .ptr 4 0⟩, ⟨15, none, .ptr 3 0⟩, ⟨5, none, .sl (x5.map (encI .i64)) .no⟩], [.blk [.lit (.int .i64 (addI .i64 1 (bitsOp .and .i64 x0 7))), .lit (.int .i64 (addI .i64 1 (bitsOp .and .i64 x1 7))), .lit (.int .i64 (bitsOp .and .i64 x2 15))], .dead, .dead, .blk [.lit (.int .i64 o1.fConfig.fDown), .lit (.int .i64 o1.fConfig.fUp), .lit (.int .i64 o1.fConfig.fSpare), .sl (o1.fNeeds.map (encI .i64)) .no, .lit (.int .i64 o1.fAt), .lit (.int .i64 o1.fMost), .lit (.int .i64 o1.fBad), .lit (.int .i64 o1.fGood), .lit (.int .i64 o1.fMoves)], .blk [.lit (.int .i64 (addI .i64 1 (bitsOp .and .i64 x0 7))), .lit (.int .i64 (addI .i64 1 (bitsOp .and .i64 x1 7))), .lit (.int .i64 (bitsOp .and .i64 x2 15)), .sl (r2.map (encI .i64)) .no, .lit (.int .i64 0), .lit (.int .i64 (minI (maxI x3 0) (subI .i64 (lenL r2) 1))), .lit (.int .i64 0), .sl [] .full]]⟩ (AWp.reg Try.tyOk hΓ (keep := [17]) (dead := [43, 14, 13, 3]) (by kernel_rfl) rfl (by simp [h24])) ?_
        refine AWp.then ⟨[⟨17, none, .ptr 4 0⟩, ⟨15, none, .ptr 3 0⟩, ⟨5, none, .sl (x5.map (encI .i64)) .no⟩], [.blk [.lit (.int .i64 (addI .i64 1 (bitsOp .and .i64 x0 7))), .lit (.int .i64 (addI .i64 1 (bitsOp .and .i64 x1 7))), .lit (.int .i64 (bitsOp .and .i64 x2 15))], .dead, .dead, .blk [.lit (.int .i64 o1.fConfig.fDown), .lit (.int .i64 o1.fConfig.fUp), .lit (.int .i64 o1.fConfig.fSpare), .sl (o1.fNeeds.map (encI .i64)) .no, .lit (.int .i64 o1.fAt), .lit (.int .i64 o1.fMost), .lit (.int .i64 o1.fBad), .lit (.int .i64 o1.fGood), .lit (.int .i64 o1.fMoves)], .blk [.lit (.int .i64 (addI .i64 1 (bitsOp .and .i64 x0 7))), .lit (.int .i64 (addI .i64 1 (bitsOp .and .i64 x1 7))), .lit (.int .i64 (bitsOp .and .i64 x2 15)), .sl (r2.map (encI .i64)) .no, .lit (.int .i64 (minI (maxI x3 0) (subI .i64 (lenL r2) 1))), .lit (.int .i64 (minI (maxI x3 0) (subI .i64 (lenL r2) 1))), .lit (.int .i64 0), .sl [] .full]]⟩ (AWp.reg Try.tyOk hΓ (keep := []) (dead := []) (by kernel_rfl) rfl (by simp)) ?_
        refine AWp.seq ?_
        refine AWp.then ⟨[⟨18, none, .lit (.int .i64 0)⟩, ⟨17, none, .ptr 4 0⟩, ⟨15, none, .ptr 3 0⟩, ⟨5, none, .sl (x5.map (encI .i64)) .no⟩], [.blk [.lit (.int .i64 (addI .i64 1 (bitsOp .and .i64 x0 7))), .lit (.int .i64 (addI .i64 1 (bitsOp .and .i64 x1 7))), .lit (.int .i64 (bitsOp .and .i64 x2 15))], .dead, .dead, .blk [.lit (.int .i64 o1.fConfig.fDown), .lit (.int .i64 o1.fConfig.fUp), .lit (.int .i64 o1.fConfig.fSpare), .sl (o1.fNeeds.map (encI .i64)) .no, .lit (.int .i64 o1.fAt), .lit (.int .i64 o1.fMost), .lit (.int .i64 o1.fBad), .lit (.int .i64 o1.fGood), .lit (.int .i64 o1.fMoves)], .blk [.lit (.int .i64 (addI .i64 1 (bitsOp .and .i64 x0 7))), .lit (.int .i64 (addI .i64 1 (bitsOp .and .i64 x1 7))), .lit (.int .i64 (bitsOp .and .i64 x2 15)), .sl (r2.map (encI .i64)) .no, .lit (.int .i64 (minI (maxI x3 0) (subI .i64 (lenL r2) 1))), .lit (.int .i64 (minI (maxI x3 0) (subI .i64 (lenL r2) 1))), .lit (.int .i64 0), .sl [] .full]]⟩ (AWp.reg Try.tyOk hΓ (keep := [18]) (dead := []) (by kernel_rfl) rfl (by simp)) ?_
        refine AWp.loopE (fun (s2 : Int × LadderLadder × Antiphonref23Ladder) (γ2 : Unit) => ⟨[⟨18, none, .lit (.int .i64 s2.1)⟩, ⟨17, none, .ptr 4 0⟩, ⟨15, none, .ptr 3 0⟩, ⟨5, none, .sl (x5.map (encI .i64)) .no⟩], [.blk [.lit (.int .i64 (addI .i64 1 (bitsOp .and .i64 x0 7))), .lit (.int .i64 (addI .i64 1 (bitsOp .and .i64 x1 7))), .lit (.int .i64 (bitsOp .and .i64 x2 15))], .dead, .dead, .blk [.lit (.int .i64 s2.2.1.fConfig.fDown), .lit (.int .i64 s2.2.1.fConfig.fUp), .lit (.int .i64 s2.2.1.fConfig.fSpare), .sl (s2.2.1.fNeeds.map (encI .i64)) .no, .lit (.int .i64 s2.2.1.fAt), .lit (.int .i64 s2.2.1.fMost), .lit (.int .i64 s2.2.1.fBad), .lit (.int .i64 s2.2.1.fGood), .lit (.int .i64 s2.2.1.fMoves)], .blk [.lit (.int .i64 s2.2.2.fDown), .lit (.int .i64 s2.2.2.fUp), .lit (.int .i64 s2.2.2.fSpare), .sl (s2.2.2.fNeeds.map (encI .i64)) .no, .lit (.int .i64 s2.2.2.fAt), .lit (.int .i64 s2.2.2.fMost), .lit (.int .i64 s2.2.2.fMoves), .sl (s2.2.2.fRates.map (encI .i64)) .no]]⟩) (fun (v2 : LadderLadder × Antiphonref23Ladder) (γ2a : Unit) => ⟨[], [.blk [.lit (.int .i64 (addI .i64 1 (bitsOp .and .i64 x0 7))), .lit (.int .i64 (addI .i64 1 (bitsOp .and .i64 x1 7))), .lit (.int .i64 (bitsOp .and .i64 x2 15))], .dead, .dead, .blk [.lit (.int .i64 v2.1.fConfig.fDown), .lit (.int .i64 v2.1.fConfig.fUp), .lit (.int .i64 v2.1.fConfig.fSpare), .sl (v2.1.fNeeds.map (encI .i64)) .no, .lit (.int .i64 v2.1.fAt), .lit (.int .i64 v2.1.fMost), .lit (.int .i64 v2.1.fBad), .lit (.int .i64 v2.1.fGood), .lit (.int .i64 v2.1.fMoves)], .blk [.lit (.int .i64 v2.2.fDown), .lit (.int .i64 v2.2.fUp), .lit (.int .i64 v2.2.fSpare), .sl (v2.2.fNeeds.map (encI .i64)) .no, .lit (.int .i64 v2.2.fAt), .lit (.int .i64 v2.2.fMost), .lit (.int .i64 v2.2.fMoves), .sl (v2.2.fRates.map (encI .i64)) .no]]⟩) (gLaw23LadderPlays.fin x0 x1 x2 x3 x4 x5) hr () 5 (by simp) (fun s2 f γ2 hr => ?_) (fun v2 γ2a σ1 m1 hr hc => ?_) (fun _ h => h)
        · unfold gLaw23LadderPlays.loop2 at hr
          refine AWp.seq ?_
          refine AWp.then ⟨[⟨68, none, .lit (.bool (pickB (ltI s2.1 (lenL x5)) (ltI s2.1 200) false))⟩, ⟨18, none, .lit (.int .i64 s2.1)⟩, ⟨17, none, .ptr 4 0⟩, ⟨15, none, .ptr 3 0⟩, ⟨5, none, .sl (x5.map (encI .i64)) .no⟩], [.blk [.lit (.int .i64 (addI .i64 1 (bitsOp .and .i64 x0 7))), .lit (.int .i64 (addI .i64 1 (bitsOp .and .i64 x1 7))), .lit (.int .i64 (bitsOp .and .i64 x2 15))], .dead, .dead, .blk [.lit (.int .i64 s2.2.1.fConfig.fDown), .lit (.int .i64 s2.2.1.fConfig.fUp), .lit (.int .i64 s2.2.1.fConfig.fSpare), .sl (s2.2.1.fNeeds.map (encI .i64)) .no, .lit (.int .i64 s2.2.1.fAt), .lit (.int .i64 s2.2.1.fMost), .lit (.int .i64 s2.2.1.fBad), .lit (.int .i64 s2.2.1.fGood), .lit (.int .i64 s2.2.1.fMoves)], .blk [.lit (.int .i64 s2.2.2.fDown), .lit (.int .i64 s2.2.2.fUp), .lit (.int .i64 s2.2.2.fSpare), .sl (s2.2.2.fNeeds.map (encI .i64)) .no, .lit (.int .i64 s2.2.2.fAt), .lit (.int .i64 s2.2.2.fMost), .lit (.int .i64 s2.2.2.fMoves), .sl (s2.2.2.fRates.map (encI .i64)) .no]]⟩ (AWp.reg Try.tyOk hΓ (keep := [68]) (dead := []) (by kernel_rfl) rfl (by simp)) ?_
          refine AWp.cond (b := (pickB (ltI s2.1 (lenL x5)) (ltI s2.1 200) false)) (by simp) (fun h25 => ?_) (fun h25 => ?_)
          · have hr := cond_t h25 hr
            refine AWp.skip ?_
            refine AWp.seq ?_
            refine AWp.block ?_
            obtain ⟨h26, hr⟩ := need_some hr
            obtain ⟨r4, h27, hr⟩ := bind_some' hr
            refine AWp.then ⟨[⟨19, none, .lit (.bool r4.1)⟩, ⟨18, none, .lit (.int .i64 s2.1)⟩, ⟨17, none, .ptr 4 0⟩, ⟨15, none, .ptr 3 0⟩, ⟨5, none, .sl (x5.map (encI .i64)) .no⟩], [.blk [.lit (.int .i64 (addI .i64 1 (bitsOp .and .i64 x0 7))), .lit (.int .i64 (addI .i64 1 (bitsOp .and .i64 x1 7))), .lit (.int .i64 (bitsOp .and .i64 x2 15))], .dead, .dead, .blk [.lit (.int .i64 r4.2.fConfig.fDown), .lit (.int .i64 r4.2.fConfig.fUp), .lit (.int .i64 r4.2.fConfig.fSpare), .sl (r4.2.fNeeds.map (encI .i64)) .no, .lit (.int .i64 r4.2.fAt), .lit (.int .i64 r4.2.fMost), .lit (.int .i64 r4.2.fBad), .lit (.int .i64 r4.2.fGood), .lit (.int .i64 r4.2.fMoves)], .blk [.lit (.int .i64 s2.2.2.fDown), .lit (.int .i64 s2.2.2.fUp), .lit (.int .i64 s2.2.2.fSpare), .sl (s2.2.2.fNeeds.map (encI .i64)) .no, .lit (.int .i64 s2.2.2.fAt), .lit (.int .i64 s2.2.2.fMost), .lit (.int .i64 s2.2.2.fMoves), .sl (s2.2.2.fRates.map (encI .i64)) .no]]⟩ (AWp.reg Try.tyOk hΓ (keep := [19]) (dead := [68]) (by kernel_rfl) rfl (by simp [h25, h26, h27])) ?_
            obtain ⟨h28, hr⟩ := need_some hr
            obtain ⟨r5, h29, hr⟩ := bind_some' hr
            refine AWp.then ⟨[⟨20, none, .ptr 5 0⟩, ⟨21, none, .lit (.bool r5.2)⟩, ⟨19, none, .lit (.bool r4.1)⟩, ⟨18, none, .lit (.int .i64 s2.1)⟩, ⟨17, none, .ptr 4 0⟩, ⟨15, none, .ptr 3 0⟩, ⟨5, none, .sl (x5.map (encI .i64)) .no⟩], [.blk [.lit (.int .i64 (addI .i64 1 (bitsOp .and .i64 x0 7))), .lit (.int .i64 (addI .i64 1 (bitsOp .and .i64 x1 7))), .lit (.int .i64 (bitsOp .and .i64 x2 15))], .dead, .dead, .blk [.lit (.int .i64 r4.2.fConfig.fDown), .lit (.int .i64 r4.2.fConfig.fUp), .lit (.int .i64 r4.2.fConfig.fSpare), .sl (r4.2.fNeeds.map (encI .i64)) .no, .lit (.int .i64 r4.2.fAt), .lit (.int .i64 r4.2.fMost), .lit (.int .i64 r4.2.fBad), .lit (.int .i64 r4.2.fGood), .lit (.int .i64 r4.2.fMoves)], .blk [.lit (.int .i64 s2.2.2.fDown), .lit (.int .i64 s2.2.2.fUp), .lit (.int .i64 s2.2.2.fSpare), .sl (s2.2.2.fNeeds.map (encI .i64)) .no, .lit (.int .i64 s2.2.2.fAt), .lit (.int .i64 s2.2.2.fMost), .lit (.int .i64 s2.2.2.fMoves), .sl (s2.2.2.fRates.map (encI .i64)) .no], .blk [.lit (.int .i64 r5.1.fDown), .lit (.int .i64 r5.1.fUp), .lit (.int .i64 r5.1.fSpare), .sl (r5.1.fNeeds.map (encI .i64)) .no, .lit (.int .i64 r5.1.fAt), .lit (.int .i64 r5.1.fMost), .lit (.int .i64 r5.1.fMoves), .sl (r5.1.fRates.map (encI .i64)) .no]]⟩ (AWp.regD Try.mixed Try.tyOk hΓ (keep := [20, 21]) (dead := []) [(0, 10), (1, 10), (2, 10), (3, 10), (4, 10), (5, 10), (6, 10), (7, 10), (8, 10), (8, 11)] [(false, []), (false, []), (false, []), (false, []), (false, []), (false, []), (false, []), (false, []), (false, []), (true, []), (true, []), (false, [])] (by kernel_rfl) rfl (by simp [h26, h29])) ?_
            refine AWp.then ⟨[⟨21, none, .lit (.bool r5.2)⟩, ⟨19, none, .lit (.bool r4.1)⟩, ⟨18, none, .lit (.int .i64 s2.1)⟩, ⟨17, none, .ptr 4 0⟩, ⟨15, none, .ptr 3 0⟩, ⟨5, none, .sl (x5.map (encI .i64)) .no⟩], [.blk [.lit (.int .i64 (addI .i64 1 (bitsOp .and .i64 x0 7))), .lit (.int .i64 (addI .i64 1 (bitsOp .and .i64 x1 7))), .lit (.int .i64 (bitsOp .and .i64 x2 15))], .dead, .dead, .blk [.lit (.int .i64 r4.2.fConfig.fDown), .lit (.int .i64 r4.2.fConfig.fUp), .lit (.int .i64 r4.2.fConfig.fSpare), .sl (r4.2.fNeeds.map (encI .i64)) .no, .lit (.int .i64 r4.2.fAt), .lit (.int .i64 r4.2.fMost), .lit (.int .i64 r4.2.fBad), .lit (.int .i64 r4.2.fGood), .lit (.int .i64 r4.2.fMoves)], .blk [.lit (.int .i64 r5.1.fDown), .lit (.int .i64 r5.1.fUp), .lit (.int .i64 r5.1.fSpare), .sl (r5.1.fNeeds.map (encI .i64)) .no, .lit (.int .i64 r5.1.fAt), .lit (.int .i64 r5.1.fMost), .lit (.int .i64 r5.1.fMoves), .sl (r5.1.fRates.map (encI .i64)) .no], .blk [.lit (.int .i64 r5.1.fDown), .lit (.int .i64 r5.1.fUp), .lit (.int .i64 r5.1.fSpare), .sl (r5.1.fNeeds.map (encI .i64)) .no, .lit (.int .i64 r5.1.fAt), .lit (.int .i64 r5.1.fMost), .lit (.int .i64 r5.1.fMoves), .sl (r5.1.fRates.map (encI .i64)) .no]]⟩ (AWp.reg Try.tyOk hΓ (keep := []) (dead := [20]) (by kernel_rfl) rfl (by simp)) ?_
            obtain ⟨h30, hr⟩ := need_some hr
            obtain ⟨h31, hr⟩ := need_some hr
            refine AWp.then ⟨[⟨103, none, .lit (.bool (pickB (pickB (neB r4.1 r5.2) true (neI ((gLadderLadderAt r4.2).getD dflt) r5.1.fAt)) true (neI ((gLadderLadderMoves r4.2).getD dflt) r5.1.fMoves)))⟩, ⟨18, none, .lit (.int .i64 s2.1)⟩, ⟨17, none, .ptr 4 0⟩, ⟨15, none, .ptr 3 0⟩, ⟨5, none, .sl (x5.map (encI .i64)) .no⟩], [.blk [.lit (.int .i64 (addI .i64 1 (bitsOp .and .i64 x0 7))), .lit (.int .i64 (addI .i64 1 (bitsOp .and .i64 x1 7))), .lit (.int .i64 (bitsOp .and .i64 x2 15))], .dead, .dead, .blk [.lit (.int .i64 r4.2.fConfig.fDown), .lit (.int .i64 r4.2.fConfig.fUp), .lit (.int .i64 r4.2.fConfig.fSpare), .sl (r4.2.fNeeds.map (encI .i64)) .no, .lit (.int .i64 r4.2.fAt), .lit (.int .i64 r4.2.fMost), .lit (.int .i64 r4.2.fBad), .lit (.int .i64 r4.2.fGood), .lit (.int .i64 r4.2.fMoves)], .blk [.lit (.int .i64 r5.1.fDown), .lit (.int .i64 r5.1.fUp), .lit (.int .i64 r5.1.fSpare), .sl (r5.1.fNeeds.map (encI .i64)) .no, .lit (.int .i64 r5.1.fAt), .lit (.int .i64 r5.1.fMost), .lit (.int .i64 r5.1.fMoves), .sl (r5.1.fRates.map (encI .i64)) .no], .blk [.lit (.int .i64 r5.1.fDown), .lit (.int .i64 r5.1.fUp), .lit (.int .i64 r5.1.fSpare), .sl (r5.1.fNeeds.map (encI .i64)) .no, .lit (.int .i64 r5.1.fAt), .lit (.int .i64 r5.1.fMost), .lit (.int .i64 r5.1.fMoves), .sl (r5.1.fRates.map (encI .i64)) .no]]⟩ (AWp.regD Try.mixed Try.tyOk hΓ (keep := [103]) (dead := [21, 19]) [] [(false, []), (false, []), (false, []), (false, []), (false, [90]), (false, [90]), (false, [90]), (false, [90]), (false, [90]), (false, []), (false, []), (false, [97]), (false, [97]), (false, [97]), (false, [97]), (false, [97]), (false, [])] (by kernel_rfl) rfl (by simp [h30, h31])) ?_
            refine AWp.cond (b := (pickB (pickB (neB r4.1 r5.2) true (neI ((gLadderLadderAt r4.2).getD dflt) r5.1.fAt)) true (neI ((gLadderLadderMoves r4.2).getD dflt) r5.1.fMoves))) (by simp) (fun h32 => ?_) (fun h32 => ?_)
            · have hr := cond_t h32 hr
              refine AWp.then ⟨[⟨12, none, .lit (.bool false)⟩], [.blk [.lit (.int .i64 (addI .i64 1 (bitsOp .and .i64 x0 7))), .lit (.int .i64 (addI .i64 1 (bitsOp .and .i64 x1 7))), .lit (.int .i64 (bitsOp .and .i64 x2 15))], .dead, .dead, .blk [.lit (.int .i64 r4.2.fConfig.fDown), .lit (.int .i64 r4.2.fConfig.fUp), .lit (.int .i64 r4.2.fConfig.fSpare), .sl (r4.2.fNeeds.map (encI .i64)) .no, .lit (.int .i64 r4.2.fAt), .lit (.int .i64 r4.2.fMost), .lit (.int .i64 r4.2.fBad), .lit (.int .i64 r4.2.fGood), .lit (.int .i64 r4.2.fMoves)], .blk [.lit (.int .i64 r5.1.fDown), .lit (.int .i64 r5.1.fUp), .lit (.int .i64 r5.1.fSpare), .sl (r5.1.fNeeds.map (encI .i64)) .no, .lit (.int .i64 r5.1.fAt), .lit (.int .i64 r5.1.fMost), .lit (.int .i64 r5.1.fMoves), .sl (r5.1.fRates.map (encI .i64)) .no], .blk [.lit (.int .i64 r5.1.fDown), .lit (.int .i64 r5.1.fUp), .lit (.int .i64 r5.1.fSpare), .sl (r5.1.fNeeds.map (encI .i64)) .no, .lit (.int .i64 r5.1.fAt), .lit (.int .i64 r5.1.fMost), .lit (.int .i64 r5.1.fMoves), .sl (r5.1.fRates.map (encI .i64)) .no]]⟩ (AWp.reg Try.tyOk hΓ (keep := [12]) (dead := [103, 18, 17, 15, 5]) (by kernel_rfl) rfl (by simp [h32])) ?_
              refine AWp.ret ?_
              obtain rfl := some_inj hr
              refine round_ret ?_
              refine fin_ret ?_
              simp
            · have hr := cond_f h32 hr
              refine AWp.skip ?_
              refine AWp.last ⟨[⟨18, none, .lit (.int .i64 (addI .i64 s2.1 1))⟩, ⟨17, none, .ptr 4 0⟩, ⟨15, none, .ptr 3 0⟩, ⟨5, none, .sl (x5.map (encI .i64)) .no⟩], [.blk [.lit (.int .i64 (addI .i64 1 (bitsOp .and .i64 x0 7))), .lit (.int .i64 (addI .i64 1 (bitsOp .and .i64 x1 7))), .lit (.int .i64 (bitsOp .and .i64 x2 15))], .dead, .dead, .blk [.lit (.int .i64 r4.2.fConfig.fDown), .lit (.int .i64 r4.2.fConfig.fUp), .lit (.int .i64 r4.2.fConfig.fSpare), .sl (r4.2.fNeeds.map (encI .i64)) .no, .lit (.int .i64 r4.2.fAt), .lit (.int .i64 r4.2.fMost), .lit (.int .i64 r4.2.fBad), .lit (.int .i64 r4.2.fGood), .lit (.int .i64 r4.2.fMoves)], .blk [.lit (.int .i64 r5.1.fDown), .lit (.int .i64 r5.1.fUp), .lit (.int .i64 r5.1.fSpare), .sl (r5.1.fNeeds.map (encI .i64)) .no, .lit (.int .i64 r5.1.fAt), .lit (.int .i64 r5.1.fMost), .lit (.int .i64 r5.1.fMoves), .sl (r5.1.fRates.map (encI .i64)) .no], .blk [.lit (.int .i64 r5.1.fDown), .lit (.int .i64 r5.1.fUp), .lit (.int .i64 r5.1.fSpare), .sl (r5.1.fNeeds.map (encI .i64)) .no, .lit (.int .i64 r5.1.fAt), .lit (.int .i64 r5.1.fMost), .lit (.int .i64 r5.1.fMoves), .sl (r5.1.fRates.map (encI .i64)) .no]]⟩ (AWp.reg Try.tyOk hΓ (keep := [18]) (dead := [103]) (by kernel_rfl) rfl (by simp [h32])) ?_
              obtain rfl := some_inj hr
              exact round_go () 5 (by simp)
          · have hr := cond_f h25 hr
            refine AWp.exit ?_
            obtain rfl := some_inj hr
            exact round_out () 5 (by simp)
        · refine AWp.conv hc ?_
          refine AWp.then ⟨[⟨12, none, .lit (.bool true)⟩], [.blk [.lit (.int .i64 (addI .i64 1 (bitsOp .and .i64 x0 7))), .lit (.int .i64 (addI .i64 1 (bitsOp .and .i64 x1 7))), .lit (.int .i64 (bitsOp .and .i64 x2 15))], .dead, .dead, .blk [.lit (.int .i64 v2.1.fConfig.fDown), .lit (.int .i64 v2.1.fConfig.fUp), .lit (.int .i64 v2.1.fConfig.fSpare), .sl (v2.1.fNeeds.map (encI .i64)) .no, .lit (.int .i64 v2.1.fAt), .lit (.int .i64 v2.1.fMost), .lit (.int .i64 v2.1.fBad), .lit (.int .i64 v2.1.fGood), .lit (.int .i64 v2.1.fMoves)], .blk [.lit (.int .i64 v2.2.fDown), .lit (.int .i64 v2.2.fUp), .lit (.int .i64 v2.2.fSpare), .sl (v2.2.fNeeds.map (encI .i64)) .no, .lit (.int .i64 v2.2.fAt), .lit (.int .i64 v2.2.fMost), .lit (.int .i64 v2.2.fMoves), .sl (v2.2.fRates.map (encI .i64)) .no]]⟩ (AWp.reg Try.tyOk hΓ (keep := [12]) (dead := []) (by kernel_rfl) rfl (by simp)) ?_
          refine AWp.ret ?_
          obtain rfl := some_inj hr
          refine fin_ret ?_
          simp

@[simp] noncomputable def gLaw23LadderPlays.S : Sp
  | [.lit (.int .i64 x0), .lit (.int .i64 x1), .lit (.int .i64 x2), .lit (.int .i64 x3), .sl e4 _, .sl e5 _], _ => some { av := .lit (.bool ((gLaw23LadderPlays x0 x1 x2 x3 (e4.map decI) (e5.map decI)).getD dflt)), M := none, obl := e4 = (e4.map decI).map (encI .i64) ∧ e5 = (e5.map decI).map (encI .i64) ∧ (gLaw23LadderPlays x0 x1 x2 x3 (e4.map decI) (e5.map decI)).isSome = true }
  | _, _ => none

set_option maxHeartbeats 1000000 in
theorem gLaw23LadderPlays.ok : SpecOk Try.prog 6 gLaw23LadderPlays.S := by
  intro l M out h
  unfold gLaw23LadderPlays.S at h
  split at h
  · rename_i x0 x1 x2 x3 e4 k4 e5 k5
    cases h
    refine callOk_of fun ho => ?_
    obtain ⟨ox4, ox5, hs⟩ := ho
    generalize (e4.map decI) = x4 at *
    subst ox4
    generalize (e5.map decI) = x5 at *
    subst ox5
    obtain ⟨r, hr⟩ := Option.isSome_iff_exists.1 hs
    simp only [hr, Option.getD_some]
    have q := call_frame (M := M) [] (gLaw23LadderPlays.can x0 x1 x2 x3 x4 x5 r hr) (by simp) rfl (by intro k i hk; simp at hk)
    exact callOk_conv q trivial (by simp) (by simp [frameOut, gLaw23LadderPlays.out]) (by simp [frameOut, gLaw23LadderPlays.out])
  · cases h
end Go.Proofs

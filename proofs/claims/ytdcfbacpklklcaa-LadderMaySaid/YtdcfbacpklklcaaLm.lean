/- That these functions compute what their plain functions do. No condition. -/
import Derived.Test.YtdcfbacpklklcaaLmD
import Derived.Test.YtdcfbacpklklcaaTy
import Derived.Test.YtdcfbacpklklcaaLd
import Derived.Test.YtdcfbacpklklcaaWl
namespace Go.Proofs
open Go.Ab
@[simp] def gLaw23LadderMay.out (_x0 : LadderConfig) (_x1 : Int) (_x2 : List Int) (r : Bool) : Out := { av := .lit (.bool r), M := none }
def gLaw23LadderMay.fin (x0 : LadderConfig) (x1 : Int) (x2 : List Int) (r : Bool) (σ : St) : Prop := finK (gLaw23LadderMay.out x0 x1 x2 r) [] σ.M (resA Try.ty σ.A σ.M Try.f7.results.toList)
set_option maxHeartbeats 4000000 in
set_option maxRecDepth 100000 in
theorem gLaw23LadderMay.can (x0 : LadderConfig) (x1 : Int) (x2 : List Int) (r : Bool) (hr : gLaw23LadderMay x0 x1 x2 = some r) : CallOk Try.prog 7 [.agg [.lit (.int .i64 x0.fDown), .lit (.int .i64 x0.fUp), .lit (.int .i64 x0.fSpare)], .lit (.int .i64 x1), .sl (x2.map (encI .i64)) .no] [] (gLaw23LadderMay.out x0 x1 x2 r) := by
  unfold gLaw23LadderMay at hr
  have hΓ := (gamL_cons gLadderLadderAt.ok (gamL_cons gLadderLadderMoves.ok (gamL_cons gLaw23Awake.ok (gamL_cons gLadderNew.ok (gamL_nil)))) : GamOk Try.prog _)
  refine call_of_awp Try.tyOk Try.func7 rfl (by kernel_rfl) rfl rfl (by simp) ?_
  intro _ _ _
  refine AWp.then ⟨[⟨3, none, .ptr 0 0⟩, ⟨1, none, .lit (.int .i64 x1)⟩, ⟨2, none, .sl (x2.map (encI .i64)) .no⟩], [.blk [.lit (.int .i64 x0.fDown), .lit (.int .i64 x0.fUp), .lit (.int .i64 x0.fSpare)]]⟩ (AWp.reg Try.tyOk hΓ (keep := [3]) (dead := [0]) (by kernel_rfl) rfl (by simp)) ?_
  refine AWp.meetF (fun (v1 : List Int) (γ1 : Unit) => ⟨[⟨3, none, .ptr 0 0⟩, ⟨1, none, .lit (.int .i64 x1)⟩, ⟨2, none, .sl (v1.map (encI .i64)) .no⟩], [.blk [.lit (.int .i64 x0.fDown), .lit (.int .i64 x0.fUp), .lit (.int .i64 x0.fSpare)]]⟩) (gLaw23LadderMay.fin x0 x1 x2) hr (fun f hr => ?_) (fun v1 γ1 hr => ?_) (fun _ h => h)
  · refine AWp.then ⟨[⟨14, none, .lit (.bool (ltI 5 (lenL x2)))⟩, ⟨3, none, .ptr 0 0⟩, ⟨1, none, .lit (.int .i64 x1)⟩, ⟨2, none, .sl (x2.map (encI .i64)) .no⟩], [.blk [.lit (.int .i64 x0.fDown), .lit (.int .i64 x0.fUp), .lit (.int .i64 x0.fSpare)]]⟩ (AWp.reg Try.tyOk hΓ (keep := [14]) (dead := []) (by kernel_rfl) rfl (by simp)) ?_
    refine AWp.cond (b := (ltI 5 (lenL x2))) (by simp) (fun h19 => ?_) (fun h19 => ?_)
    · have hr := cond_t h19 hr
      obtain ⟨h20, hr⟩ := need_some hr
      refine AWp.last ⟨[⟨2, none, .sl ((cutL x2 0 5).map (encI .i64)) .no⟩, ⟨3, none, .ptr 0 0⟩, ⟨1, none, .lit (.int .i64 x1)⟩], [.blk [.lit (.int .i64 x0.fDown), .lit (.int .i64 x0.fUp), .lit (.int .i64 x0.fSpare)]]⟩ (AWp.reg Try.tyOk hΓ (keep := [2]) (dead := [14]) (by kernel_rfl) rfl (by simp [h19, h20])) ?_
      obtain rfl := some_inj hr
      exact meet_go () 1 (by simp)
    · have hr := cond_f h19 hr
      refine AWp.skip ?_
      obtain rfl := some_inj hr
      exact meet_go () 1 (by simp)
  · obtain ⟨r1, h21, hr⟩ := bind_some' hr
    cases h22 : r1.1 with
    | none =>
      have hr := optC_n h22 hr
      refine AWp.then ⟨[⟨7, none, .lit (.pointer none)⟩, ⟨8, none, .lit (.int .i64 r1.2)⟩, ⟨3, none, .ptr 0 0⟩, ⟨1, none, .lit (.int .i64 x1)⟩, ⟨2, none, .sl (v1.map (encI .i64)) .no⟩], [.blk [.lit (.int .i64 x0.fDown), .lit (.int .i64 x0.fUp), .lit (.int .i64 x0.fSpare)]]⟩ (AWp.reg Try.tyOk hΓ (keep := [7, 8]) (dead := []) (by kernel_rfl) rfl (by simp [h21, h22])) ?_
      refine AWp.then ⟨[⟨9, none, .lit (.bool (pickB (pickB (pickB (pickB (pickB (pickB (pickB (leI 1 x0.fDown) (leI x0.fDown 1048576) false) (leI 1 x0.fUp) false) (leI x0.fUp 1048576) false) (leI 0 x0.fSpare) false) (leI x0.fSpare 100) false) (leI 1 (lenL v1)) false) (leI (lenL v1) 3) false))⟩, ⟨7, none, .lit (.pointer none)⟩, ⟨8, none, .lit (.int .i64 r1.2)⟩, ⟨1, none, .lit (.int .i64 x1)⟩, ⟨2, none, .sl (v1.map (encI .i64)) .no⟩], [.blk [.lit (.int .i64 x0.fDown), .lit (.int .i64 x0.fUp), .lit (.int .i64 x0.fSpare)]]⟩ (AWp.reg Try.tyOk hΓ (keep := [9]) (dead := [3]) (by kernel_rfl) rfl (by simp)) ?_
      refine AWp.seq ?_
      refine AWp.then ⟨[⟨62, none, .sl (v1.map (encI .i64)) .no⟩, ⟨63, none, .lit (.int .i64 (lenL v1))⟩, ⟨64, none, .lit (.int .i64 0)⟩, ⟨9, none, .lit (.bool (pickB (pickB (pickB (pickB (pickB (pickB (pickB (leI 1 x0.fDown) (leI x0.fDown 1048576) false) (leI 1 x0.fUp) false) (leI x0.fUp 1048576) false) (leI 0 x0.fSpare) false) (leI x0.fSpare 100) false) (leI 1 (lenL v1)) false) (leI (lenL v1) 3) false))⟩, ⟨7, none, .lit (.pointer none)⟩, ⟨8, none, .lit (.int .i64 r1.2)⟩, ⟨1, none, .lit (.int .i64 x1)⟩, ⟨2, none, .sl (v1.map (encI .i64)) .no⟩], [.blk [.lit (.int .i64 x0.fDown), .lit (.int .i64 x0.fUp), .lit (.int .i64 x0.fSpare)]]⟩ (AWp.reg Try.tyOk hΓ (keep := [62, 63, 64]) (dead := []) (by kernel_rfl) rfl (by simp)) ?_
      refine AWp.loopE (fun (s2 : Int × Bool) (γ2 : Unit) => ⟨[⟨62, none, .sl (v1.map (encI .i64)) .no⟩, ⟨63, none, .lit (.int .i64 (lenL v1))⟩, ⟨64, none, .lit (.int .i64 s2.1)⟩, ⟨9, none, .lit (.bool s2.2)⟩, ⟨7, none, .lit (.pointer none)⟩, ⟨8, none, .lit (.int .i64 r1.2)⟩, ⟨1, none, .lit (.int .i64 x1)⟩, ⟨2, none, .sl (v1.map (encI .i64)) .no⟩], [.blk [.lit (.int .i64 x0.fDown), .lit (.int .i64 x0.fUp), .lit (.int .i64 x0.fSpare)]]⟩) (fun (v2 : Bool) (γ2a : Unit) => ⟨[⟨9, none, .lit (.bool v2)⟩, ⟨7, none, .lit (.pointer none)⟩, ⟨8, none, .lit (.int .i64 r1.2)⟩, ⟨1, none, .lit (.int .i64 x1)⟩, ⟨2, none, .sl (v1.map (encI .i64)) .no⟩], [.blk [.lit (.int .i64 x0.fDown), .lit (.int .i64 x0.fUp), .lit (.int .i64 x0.fSpare)]]⟩) (gLaw23LadderMay.fin x0 x1 x2) hr () 1 (by simp) (fun s2 f γ2 hr => ?_) (fun v2 γ2a σ1 m1 hr hc => ?_) (fun _ h => h)
      · unfold gLaw23LadderMay.loop2 at hr
        refine AWp.then ⟨[⟨65, none, .lit (.bool (ltI s2.1 (lenL v1)))⟩, ⟨62, none, .sl (v1.map (encI .i64)) .no⟩, ⟨63, none, .lit (.int .i64 (lenL v1))⟩, ⟨64, none, .lit (.int .i64 s2.1)⟩, ⟨9, none, .lit (.bool s2.2)⟩, ⟨7, none, .lit (.pointer none)⟩, ⟨8, none, .lit (.int .i64 r1.2)⟩, ⟨1, none, .lit (.int .i64 x1)⟩, ⟨2, none, .sl (v1.map (encI .i64)) .no⟩], [.blk [.lit (.int .i64 x0.fDown), .lit (.int .i64 x0.fUp), .lit (.int .i64 x0.fSpare)]]⟩ (AWp.reg Try.tyOk hΓ (keep := [65]) (dead := []) (by kernel_rfl) rfl (by simp)) ?_
        refine AWp.seq ?_
        refine AWp.cond (b := (ltI s2.1 (lenL v1))) (by simp) (fun h23 => ?_) (fun h23 => ?_)
        · have hr := cond_t h23 hr
          refine AWp.skip ?_
          refine AWp.seq ?_
          refine AWp.block ?_
          obtain ⟨h24, hr⟩ := need_some hr
          refine AWp.then ⟨[⟨10, none, .lit (.int .i64 s2.1)⟩, ⟨11, none, .lit (.int .i64 (nthI v1 s2.1))⟩, ⟨62, none, .sl (v1.map (encI .i64)) .no⟩, ⟨63, none, .lit (.int .i64 (lenL v1))⟩, ⟨64, none, .lit (.int .i64 s2.1)⟩, ⟨9, none, .lit (.bool s2.2)⟩, ⟨7, none, .lit (.pointer none)⟩, ⟨8, none, .lit (.int .i64 r1.2)⟩, ⟨1, none, .lit (.int .i64 x1)⟩, ⟨2, none, .sl (v1.map (encI .i64)) .no⟩], [.blk [.lit (.int .i64 x0.fDown), .lit (.int .i64 x0.fUp), .lit (.int .i64 x0.fSpare)]]⟩ (AWp.reg Try.tyOk hΓ (keep := [10, 11]) (dead := [65]) (by kernel_rfl) rfl (by simp [h23, h24])) ?_
          obtain ⟨h25, hr⟩ := need_some hr
          refine AWp.then ⟨[⟨87, none, .lit (.bool (pickB (pickB (ltI (nthI v1 s2.1) 0) true (ltI 1099511627776 (nthI v1 s2.1))) true (pickB (ltI 0 s2.1) (ltI (nthI v1 s2.1) (nthI v1 (subI .i64 s2.1 1))) false)))⟩, ⟨62, none, .sl (v1.map (encI .i64)) .no⟩, ⟨63, none, .lit (.int .i64 (lenL v1))⟩, ⟨64, none, .lit (.int .i64 s2.1)⟩, ⟨9, none, .lit (.bool s2.2)⟩, ⟨7, none, .lit (.pointer none)⟩, ⟨8, none, .lit (.int .i64 r1.2)⟩, ⟨1, none, .lit (.int .i64 x1)⟩, ⟨2, none, .sl (v1.map (encI .i64)) .no⟩], [.blk [.lit (.int .i64 x0.fDown), .lit (.int .i64 x0.fUp), .lit (.int .i64 x0.fSpare)]]⟩ (AWp.reg Try.tyOk hΓ (keep := [87]) (dead := [10, 11]) (by kernel_rfl) rfl (by simp [h25])) ?_
          refine AWp.cond (b := (pickB (pickB (ltI (nthI v1 s2.1) 0) true (ltI 1099511627776 (nthI v1 s2.1))) true (pickB (ltI 0 s2.1) (ltI (nthI v1 s2.1) (nthI v1 (subI .i64 s2.1 1))) false))) (by simp) (fun h26 => ?_) (fun h26 => ?_)
          · have hr := cond_t h26 hr
            refine AWp.last ⟨[⟨9, none, .lit (.bool false)⟩, ⟨62, none, .sl (v1.map (encI .i64)) .no⟩, ⟨63, none, .lit (.int .i64 (lenL v1))⟩, ⟨64, none, .lit (.int .i64 s2.1)⟩, ⟨7, none, .lit (.pointer none)⟩, ⟨8, none, .lit (.int .i64 r1.2)⟩, ⟨1, none, .lit (.int .i64 x1)⟩, ⟨2, none, .sl (v1.map (encI .i64)) .no⟩], [.blk [.lit (.int .i64 x0.fDown), .lit (.int .i64 x0.fUp), .lit (.int .i64 x0.fSpare)]]⟩ (AWp.reg Try.tyOk hΓ (keep := [9]) (dead := [87]) (by kernel_rfl) rfl (by simp [h26])) ?_
            refine AWp.last ⟨[⟨64, none, .lit (.int .i64 (addI .i64 s2.1 1))⟩, ⟨9, none, .lit (.bool false)⟩, ⟨62, none, .sl (v1.map (encI .i64)) .no⟩, ⟨63, none, .lit (.int .i64 (lenL v1))⟩, ⟨7, none, .lit (.pointer none)⟩, ⟨8, none, .lit (.int .i64 r1.2)⟩, ⟨1, none, .lit (.int .i64 x1)⟩, ⟨2, none, .sl (v1.map (encI .i64)) .no⟩], [.blk [.lit (.int .i64 x0.fDown), .lit (.int .i64 x0.fUp), .lit (.int .i64 x0.fSpare)]]⟩ (AWp.reg Try.tyOk hΓ (keep := [64]) (dead := []) (by kernel_rfl) rfl (by simp)) ?_
            obtain rfl := some_inj hr
            exact round_go () 1 (by simp)
          · have hr := cond_f h26 hr
            refine AWp.skip ?_
            refine AWp.last ⟨[⟨64, none, .lit (.int .i64 (addI .i64 s2.1 1))⟩, ⟨62, none, .sl (v1.map (encI .i64)) .no⟩, ⟨63, none, .lit (.int .i64 (lenL v1))⟩, ⟨9, none, .lit (.bool s2.2)⟩, ⟨7, none, .lit (.pointer none)⟩, ⟨8, none, .lit (.int .i64 r1.2)⟩, ⟨1, none, .lit (.int .i64 x1)⟩, ⟨2, none, .sl (v1.map (encI .i64)) .no⟩], [.blk [.lit (.int .i64 x0.fDown), .lit (.int .i64 x0.fUp), .lit (.int .i64 x0.fSpare)]]⟩ (AWp.reg Try.tyOk hΓ (keep := [64]) (dead := [87]) (by kernel_rfl) rfl (by simp [h26])) ?_
            obtain rfl := some_inj hr
            exact round_go () 1 (by simp)
        · have hr := cond_f h23 hr
          refine AWp.exit ?_
          obtain rfl := some_inj hr
          exact round_out () 1 (by simp)
      · refine AWp.conv hc ?_
        obtain ⟨r2, h27, hr⟩ := bind_some' hr
        cases h28 : (pickB (pickB (pickB r2 (eqB (eqI r1.2 0) v2) false) (eqB false v2) false) (pickB v2 true (eqI r1.2 5)) false) with
        | true =>
          have hr := cond_t h28 hr
          cases h29 : (notB v2) with
          | true =>
            have hr := cond_t h29 hr
            refine AWp.then ⟨[⟨6, none, .lit (.bool true)⟩], [.blk [.lit (.int .i64 x0.fDown), .lit (.int .i64 x0.fUp), .lit (.int .i64 x0.fSpare)]]⟩ (AWp.regG Try.tyOk hΓ [(109, true), (112, true)] (keep := [6]) (dead := [9, 7, 8, 1, 2]) (by kernel_rfl) rfl (by simp [h27, h28, h29])) ?_
            refine AWp.ret ?_
            obtain rfl := some_inj hr
            refine fin_ret ?_
            simp
          | false =>
            have hr := cond_f h29 hr
            cases hr
        | false =>
          have hr := cond_f h28 hr
          refine AWp.then ⟨[⟨6, none, .lit (.bool false)⟩], [.blk [.lit (.int .i64 x0.fDown), .lit (.int .i64 x0.fUp), .lit (.int .i64 x0.fSpare)]]⟩ (AWp.regG Try.tyOk hΓ [(109, false)] (keep := [6]) (dead := [9, 7, 8, 1, 2]) (by kernel_rfl) rfl (by simp [h27, h28])) ?_
          refine AWp.ret ?_
          obtain rfl := some_inj hr
          refine fin_ret ?_
          simp
    | some o1 =>
      have hr := optC_s h22 hr
      refine AWp.then ⟨[⟨7, none, .ptr 3 0⟩, ⟨8, none, .lit (.int .i64 r1.2)⟩, ⟨3, none, .ptr 0 0⟩, ⟨1, none, .lit (.int .i64 x1)⟩, ⟨2, none, .sl (v1.map (encI .i64)) .no⟩], [.blk [.lit (.int .i64 x0.fDown), .lit (.int .i64 x0.fUp), .lit (.int .i64 x0.fSpare)], .dead, .dead, .blk [.lit (.int .i64 o1.fConfig.fDown), .lit (.int .i64 o1.fConfig.fUp), .lit (.int .i64 o1.fConfig.fSpare), .sl (o1.fNeeds.map (encI .i64)) .no, .lit (.int .i64 o1.fAt), .lit (.int .i64 o1.fMost), .lit (.int .i64 o1.fBad), .lit (.int .i64 o1.fGood), .lit (.int .i64 o1.fMoves)]]⟩ (AWp.reg Try.tyOk hΓ (keep := [7, 8]) (dead := []) (by kernel_rfl) rfl (by simp [h21, h22])) ?_
      refine AWp.then ⟨[⟨9, none, .lit (.bool (pickB (pickB (pickB (pickB (pickB (pickB (pickB (leI 1 x0.fDown) (leI x0.fDown 1048576) false) (leI 1 x0.fUp) false) (leI x0.fUp 1048576) false) (leI 0 x0.fSpare) false) (leI x0.fSpare 100) false) (leI 1 (lenL v1)) false) (leI (lenL v1) 3) false))⟩, ⟨7, none, .ptr 3 0⟩, ⟨8, none, .lit (.int .i64 r1.2)⟩, ⟨1, none, .lit (.int .i64 x1)⟩, ⟨2, none, .sl (v1.map (encI .i64)) .no⟩], [.blk [.lit (.int .i64 x0.fDown), .lit (.int .i64 x0.fUp), .lit (.int .i64 x0.fSpare)], .dead, .dead, .blk [.lit (.int .i64 o1.fConfig.fDown), .lit (.int .i64 o1.fConfig.fUp), .lit (.int .i64 o1.fConfig.fSpare), .sl (o1.fNeeds.map (encI .i64)) .no, .lit (.int .i64 o1.fAt), .lit (.int .i64 o1.fMost), .lit (.int .i64 o1.fBad), .lit (.int .i64 o1.fGood), .lit (.int .i64 o1.fMoves)]]⟩ (AWp.reg Try.tyOk hΓ (keep := [9]) (dead := [3]) (by kernel_rfl) rfl (by simp)) ?_
      refine AWp.seq ?_
      refine AWp.then ⟨[⟨62, none, .sl (v1.map (encI .i64)) .no⟩, ⟨63, none, .lit (.int .i64 (lenL v1))⟩, ⟨64, none, .lit (.int .i64 0)⟩, ⟨9, none, .lit (.bool (pickB (pickB (pickB (pickB (pickB (pickB (pickB (leI 1 x0.fDown) (leI x0.fDown 1048576) false) (leI 1 x0.fUp) false) (leI x0.fUp 1048576) false) (leI 0 x0.fSpare) false) (leI x0.fSpare 100) false) (leI 1 (lenL v1)) false) (leI (lenL v1) 3) false))⟩, ⟨7, none, .ptr 3 0⟩, ⟨8, none, .lit (.int .i64 r1.2)⟩, ⟨1, none, .lit (.int .i64 x1)⟩, ⟨2, none, .sl (v1.map (encI .i64)) .no⟩], [.blk [.lit (.int .i64 x0.fDown), .lit (.int .i64 x0.fUp), .lit (.int .i64 x0.fSpare)], .dead, .dead, .blk [.lit (.int .i64 o1.fConfig.fDown), .lit (.int .i64 o1.fConfig.fUp), .lit (.int .i64 o1.fConfig.fSpare), .sl (o1.fNeeds.map (encI .i64)) .no, .lit (.int .i64 o1.fAt), .lit (.int .i64 o1.fMost), .lit (.int .i64 o1.fBad), .lit (.int .i64 o1.fGood), .lit (.int .i64 o1.fMoves)]]⟩ (AWp.reg Try.tyOk hΓ (keep := [62, 63, 64]) (dead := []) (by kernel_rfl) rfl (by simp)) ?_
      refine AWp.loopE (fun (s3 : Int × Bool) (γ3 : Unit) => ⟨[⟨62, none, .sl (v1.map (encI .i64)) .no⟩, ⟨63, none, .lit (.int .i64 (lenL v1))⟩, ⟨64, none, .lit (.int .i64 s3.1)⟩, ⟨9, none, .lit (.bool s3.2)⟩, ⟨7, none, .ptr 3 0⟩, ⟨8, none, .lit (.int .i64 r1.2)⟩, ⟨1, none, .lit (.int .i64 x1)⟩, ⟨2, none, .sl (v1.map (encI .i64)) .no⟩], [.blk [.lit (.int .i64 x0.fDown), .lit (.int .i64 x0.fUp), .lit (.int .i64 x0.fSpare)], .dead, .dead, .blk [.lit (.int .i64 o1.fConfig.fDown), .lit (.int .i64 o1.fConfig.fUp), .lit (.int .i64 o1.fConfig.fSpare), .sl (o1.fNeeds.map (encI .i64)) .no, .lit (.int .i64 o1.fAt), .lit (.int .i64 o1.fMost), .lit (.int .i64 o1.fBad), .lit (.int .i64 o1.fGood), .lit (.int .i64 o1.fMoves)]]⟩) (fun (v3 : Bool) (γ3a : Unit) => ⟨[⟨9, none, .lit (.bool v3)⟩, ⟨7, none, .ptr 3 0⟩, ⟨8, none, .lit (.int .i64 r1.2)⟩, ⟨1, none, .lit (.int .i64 x1)⟩, ⟨2, none, .sl (v1.map (encI .i64)) .no⟩], [.blk [.lit (.int .i64 x0.fDown), .lit (.int .i64 x0.fUp), .lit (.int .i64 x0.fSpare)], .dead, .dead, .blk [.lit (.int .i64 o1.fConfig.fDown), .lit (.int .i64 o1.fConfig.fUp), .lit (.int .i64 o1.fConfig.fSpare), .sl (o1.fNeeds.map (encI .i64)) .no, .lit (.int .i64 o1.fAt), .lit (.int .i64 o1.fMost), .lit (.int .i64 o1.fBad), .lit (.int .i64 o1.fGood), .lit (.int .i64 o1.fMoves)]]⟩) (gLaw23LadderMay.fin x0 x1 x2) hr () 4 (by simp) (fun s3 f γ3 hr => ?_) (fun v3 γ3a σ1 m1 hr hc => ?_) (fun _ h => h)
      · unfold gLaw23LadderMay.loop3 at hr
        refine AWp.then ⟨[⟨65, none, .lit (.bool (ltI s3.1 (lenL v1)))⟩, ⟨62, none, .sl (v1.map (encI .i64)) .no⟩, ⟨63, none, .lit (.int .i64 (lenL v1))⟩, ⟨64, none, .lit (.int .i64 s3.1)⟩, ⟨9, none, .lit (.bool s3.2)⟩, ⟨7, none, .ptr 3 0⟩, ⟨8, none, .lit (.int .i64 r1.2)⟩, ⟨1, none, .lit (.int .i64 x1)⟩, ⟨2, none, .sl (v1.map (encI .i64)) .no⟩], [.blk [.lit (.int .i64 x0.fDown), .lit (.int .i64 x0.fUp), .lit (.int .i64 x0.fSpare)], .dead, .dead, .blk [.lit (.int .i64 o1.fConfig.fDown), .lit (.int .i64 o1.fConfig.fUp), .lit (.int .i64 o1.fConfig.fSpare), .sl (o1.fNeeds.map (encI .i64)) .no, .lit (.int .i64 o1.fAt), .lit (.int .i64 o1.fMost), .lit (.int .i64 o1.fBad), .lit (.int .i64 o1.fGood), .lit (.int .i64 o1.fMoves)]]⟩ (AWp.reg Try.tyOk hΓ (keep := [65]) (dead := []) (by kernel_rfl) rfl (by simp)) ?_
        refine AWp.seq ?_
        refine AWp.cond (b := (ltI s3.1 (lenL v1))) (by simp) (fun h30 => ?_) (fun h30 => ?_)
        · have hr := cond_t h30 hr
          refine AWp.skip ?_
          refine AWp.seq ?_
          refine AWp.block ?_
          obtain ⟨h31, hr⟩ := need_some hr
          refine AWp.then ⟨[⟨10, none, .lit (.int .i64 s3.1)⟩, ⟨11, none, .lit (.int .i64 (nthI v1 s3.1))⟩, ⟨62, none, .sl (v1.map (encI .i64)) .no⟩, ⟨63, none, .lit (.int .i64 (lenL v1))⟩, ⟨64, none, .lit (.int .i64 s3.1)⟩, ⟨9, none, .lit (.bool s3.2)⟩, ⟨7, none, .ptr 3 0⟩, ⟨8, none, .lit (.int .i64 r1.2)⟩, ⟨1, none, .lit (.int .i64 x1)⟩, ⟨2, none, .sl (v1.map (encI .i64)) .no⟩], [.blk [.lit (.int .i64 x0.fDown), .lit (.int .i64 x0.fUp), .lit (.int .i64 x0.fSpare)], .dead, .dead, .blk [.lit (.int .i64 o1.fConfig.fDown), .lit (.int .i64 o1.fConfig.fUp), .lit (.int .i64 o1.fConfig.fSpare), .sl (o1.fNeeds.map (encI .i64)) .no, .lit (.int .i64 o1.fAt), .lit (.int .i64 o1.fMost), .lit (.int .i64 o1.fBad), .lit (.int .i64 o1.fGood), .lit (.int .i64 o1.fMoves)]]⟩ (AWp.reg Try.tyOk hΓ (keep := [10, 11]) (dead := [65]) (by kernel_rfl) rfl (by simp [h30, h31])) ?_
          obtain ⟨h32, hr⟩ := need_some hr
          refine AWp.then ⟨[⟨87, none, .lit (.bool (pickB (pickB (ltI (nthI v1 s3.1) 0) true (ltI 1099511627776 (nthI v1 s3.1))) true (pickB (ltI 0 s3.1) (ltI (nthI v1 s3.1) (nthI v1 (subI .i64 s3.1 1))) false)))⟩, ⟨62, none, .sl (v1.map (encI .i64)) .no⟩, ⟨63, none, .lit (.int .i64 (lenL v1))⟩, ⟨64, none, .lit (.int .i64 s3.1)⟩, ⟨9, none, .lit (.bool s3.2)⟩, ⟨7, none, .ptr 3 0⟩, ⟨8, none, .lit (.int .i64 r1.2)⟩, ⟨1, none, .lit (.int .i64 x1)⟩, ⟨2, none, .sl (v1.map (encI .i64)) .no⟩], [.blk [.lit (.int .i64 x0.fDown), .lit (.int .i64 x0.fUp), .lit (.int .i64 x0.fSpare)], .dead, .dead, .blk [.lit (.int .i64 o1.fConfig.fDown), .lit (.int .i64 o1.fConfig.fUp), .lit (.int .i64 o1.fConfig.fSpare), .sl (o1.fNeeds.map (encI .i64)) .no, .lit (.int .i64 o1.fAt), .lit (.int .i64 o1.fMost), .lit (.int .i64 o1.fBad), .lit (.int .i64 o1.fGood), .lit (.int .i64 o1.fMoves)]]⟩ (AWp.reg Try.tyOk hΓ (keep := [87]) (dead := [10, 11]) (by kernel_rfl) rfl (by simp [h32])) ?_
          refine AWp.cond (b := (pickB (pickB (ltI (nthI v1 s3.1) 0) true (ltI 1099511627776 (nthI v1 s3.1))) true (pickB (ltI 0 s3.1) (ltI (nthI v1 s3.1) (nthI v1 (subI .i64 s3.1 1))) false))) (by simp) (fun h33 => ?_) (fun h33 => ?_)
          · have hr := cond_t h33 hr
            refine AWp.last ⟨[⟨9, none, .lit (.bool false)⟩, ⟨62, none, .sl (v1.map (encI .i64)) .no⟩, ⟨63, none, .lit (.int .i64 (lenL v1))⟩, ⟨64, none, .lit (.int .i64 s3.1)⟩, ⟨7, none, .ptr 3 0⟩, ⟨8, none, .lit (.int .i64 r1.2)⟩, ⟨1, none, .lit (.int .i64 x1)⟩, ⟨2, none, .sl (v1.map (encI .i64)) .no⟩], [.blk [.lit (.int .i64 x0.fDown), .lit (.int .i64 x0.fUp), .lit (.int .i64 x0.fSpare)], .dead, .dead, .blk [.lit (.int .i64 o1.fConfig.fDown), .lit (.int .i64 o1.fConfig.fUp), .lit (.int .i64 o1.fConfig.fSpare), .sl (o1.fNeeds.map (encI .i64)) .no, .lit (.int .i64 o1.fAt), .lit (.int .i64 o1.fMost), .lit (.int .i64 o1.fBad), .lit (.int .i64 o1.fGood), .lit (.int .i64 o1.fMoves)]]⟩ (AWp.reg Try.tyOk hΓ (keep := [9]) (dead := [87]) (by kernel_rfl) rfl (by simp [h33])) ?_
            refine AWp.last ⟨[⟨64, none, .lit (.int .i64 (addI .i64 s3.1 1))⟩, ⟨9, none, .lit (.bool false)⟩, ⟨62, none, .sl (v1.map (encI .i64)) .no⟩, ⟨63, none, .lit (.int .i64 (lenL v1))⟩, ⟨7, none, .ptr 3 0⟩, ⟨8, none, .lit (.int .i64 r1.2)⟩, ⟨1, none, .lit (.int .i64 x1)⟩, ⟨2, none, .sl (v1.map (encI .i64)) .no⟩], [.blk [.lit (.int .i64 x0.fDown), .lit (.int .i64 x0.fUp), .lit (.int .i64 x0.fSpare)], .dead, .dead, .blk [.lit (.int .i64 o1.fConfig.fDown), .lit (.int .i64 o1.fConfig.fUp), .lit (.int .i64 o1.fConfig.fSpare), .sl (o1.fNeeds.map (encI .i64)) .no, .lit (.int .i64 o1.fAt), .lit (.int .i64 o1.fMost), .lit (.int .i64 o1.fBad), .lit (.int .i64 o1.fGood), .lit (.int .i64 o1.fMoves)]]⟩ (AWp.reg Try.tyOk hΓ (keep := [64]) (dead := []) (by kernel_rfl) rfl (by simp)) ?_
            obtain rfl := some_inj hr
            exact round_go () 4 (by simp)
          · have hr := cond_f h33 hr
            refine AWp.skip ?_
            refine AWp.last ⟨[⟨64, none, .lit (.int .i64 (addI .i64 s3.1 1))⟩, ⟨62, none, .sl (v1.map (encI .i64)) .no⟩, ⟨63, none, .lit (.int .i64 (lenL v1))⟩, ⟨9, none, .lit (.bool s3.2)⟩, ⟨7, none, .ptr 3 0⟩, ⟨8, none, .lit (.int .i64 r1.2)⟩, ⟨1, none, .lit (.int .i64 x1)⟩, ⟨2, none, .sl (v1.map (encI .i64)) .no⟩], [.blk [.lit (.int .i64 x0.fDown), .lit (.int .i64 x0.fUp), .lit (.int .i64 x0.fSpare)], .dead, .dead, .blk [.lit (.int .i64 o1.fConfig.fDown), .lit (.int .i64 o1.fConfig.fUp), .lit (.int .i64 o1.fConfig.fSpare), .sl (o1.fNeeds.map (encI .i64)) .no, .lit (.int .i64 o1.fAt), .lit (.int .i64 o1.fMost), .lit (.int .i64 o1.fBad), .lit (.int .i64 o1.fGood), .lit (.int .i64 o1.fMoves)]]⟩ (AWp.reg Try.tyOk hΓ (keep := [64]) (dead := [87]) (by kernel_rfl) rfl (by simp [h33])) ?_
            obtain rfl := some_inj hr
            exact round_go () 4 (by simp)
        · have hr := cond_f h30 hr
          refine AWp.exit ?_
          obtain rfl := some_inj hr
          exact round_out () 4 (by simp)
      · refine AWp.conv hc ?_
        obtain ⟨r2, h34, hr⟩ := bind_some' hr
        obtain ⟨h35, hr⟩ := need_some hr
        obtain ⟨h36, hr⟩ := need_some hr
        refine AWp.then ⟨[⟨6, none, .lit (.bool (pickB (pickB (pickB (pickB r2 (eqB (eqI r1.2 0) v3) false) (eqB true v3) false) (pickB v3 true (eqI r1.2 5)) false) (pickB (notB v3) true (pickB (eqI ((gLadderLadderAt o1).getD dflt) (minI (maxI x1 0) (subI .i64 (lenL v1) 1))) (eqI ((gLadderLadderMoves o1).getD dflt) 0) false)) false))⟩], [.blk [.lit (.int .i64 x0.fDown), .lit (.int .i64 x0.fUp), .lit (.int .i64 x0.fSpare)], .dead, .dead, .blk [.lit (.int .i64 o1.fConfig.fDown), .lit (.int .i64 o1.fConfig.fUp), .lit (.int .i64 o1.fConfig.fSpare), .sl (o1.fNeeds.map (encI .i64)) .no, .lit (.int .i64 o1.fAt), .lit (.int .i64 o1.fMost), .lit (.int .i64 o1.fBad), .lit (.int .i64 o1.fGood), .lit (.int .i64 o1.fMoves)]]⟩ (AWp.reg Try.tyOk hΓ (keep := [6]) (dead := [9, 7, 8, 1, 2]) (by kernel_rfl) rfl (by simp [h34, h35, h36])) ?_
        refine AWp.ret ?_
        obtain rfl := some_inj hr
        refine fin_ret ?_
        simp

@[simp] noncomputable def gLaw23LadderMay.S : Sp
  | [.agg e0, .lit (.int .i64 x1), .sl e2 _], _ => some { av := .lit (.bool ((gLaw23LadderMay (LadderConfig.dec e0) x1 (e2.map decI)).getD dflt)), M := none, obl := WeakL e0 (LadderConfig.enc (LadderConfig.dec e0)) ∧ e2 = (e2.map decI).map (encI .i64) ∧ (gLaw23LadderMay (LadderConfig.dec e0) x1 (e2.map decI)).isSome = true }
  | _, _ => none

set_option maxHeartbeats 1000000 in
theorem gLaw23LadderMay.ok : SpecOk Try.prog 7 gLaw23LadderMay.S := by
  intro l M out h
  unfold gLaw23LadderMay.S at h
  split at h
  · rename_i e0 x1 e2 k2
    cases h
    refine callOk_of fun ho => ?_
    obtain ⟨ox0, ox2, hs⟩ := ho
    generalize (LadderConfig.dec e0) = x0 at *
    generalize (e2.map decI) = x2 at *
    subst ox2
    obtain ⟨r, hr⟩ := Option.isSome_iff_exists.1 hs
    simp only [hr, Option.getD_some]
    have q := call_frame (M := M) [] (gLaw23LadderMay.can x0 x1 x2 r hr) (by simp) rfl (by intro k i hk; simp at hk)
    exact callOk_conv q trivial (by simp; exact ox0) (by simp [frameOut, gLaw23LadderMay.out]) (by simp [frameOut, gLaw23LadderMay.out])
  · cases h
end Go.Proofs

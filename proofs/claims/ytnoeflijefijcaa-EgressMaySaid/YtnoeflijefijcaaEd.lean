/- That these functions compute what their plain functions do. No condition. -/
import Derived.Test.YtnoeflijefijcaaEdD
import Derived.Test.YtnoeflijefijcaaTy
import Derived.Test.YtnoeflijefijcaaDc
import Derived.Test.YtnoeflijefijcaaEc
import Derived.Test.YtnoeflijefijcaaQu
import Derived.Test.YtnoeflijefijcaaEa
import Derived.Test.YtnoeflijefijcaaM04
namespace Go.Proofs
open Go.Ab
@[simp] def gEgressOutNext.out (_x0 : EgressOut) (r : Int × Bool × EgressOut) : Out := { av := .tup [.lit (.int .i64 r.1), .lit (.bool r.2.1)], M := some [.blk [.lit (.int .i64 r.2.2.fConfig.fFrames), .lit (.int .i64 r.2.2.fConfig.fBytes), .lit (.int .i64 r.2.2.fConfig.fAge), .lit (.int .i64 r.2.2.fConfig.fMost), .lit (.int .i64 r.2.2.fConfig.fGuard), .mp 1, .ptr 2 0, .lit (.int .i64 r.2.2.fCredit), .lit (.int .i64 r.2.2.fSounds)], .own (EgressFlow.own .i64 r.2.2.fFlows none) none, .blk [.lit (.int .i64 r.2.2.fSched.fMost), .mp 3, .mp 4, .lit (.int .i64 r.2.2.fSched.fAt), .lit (.bool r.2.2.fSched.fGranted)], .mapo (encM (kI .i64) (kI .i64) r.2.2.fSched.fShare), .mapo (encM (kI .i64) (kI .i64) r.2.2.fSched.fLeft)] }
def gEgressOutNext.fin (x0 : EgressOut) (r : Int × Bool × EgressOut) (σ : St) : Prop := finK (gEgressOutNext.out x0 r) [.blk (x0.fConfig.enc ++ [.mp 1, .ptr 2 0, .lit (.int .i64 x0.fCredit), .lit (.int .i64 x0.fSounds)]), .own (EgressFlow.own .i64 x0.fFlows none) none, .blk [.lit (.int .i64 x0.fSched.fMost), .mp 3, .mp 4, .lit (.int .i64 x0.fSched.fAt), .lit (.bool x0.fSched.fGranted)], .mapo (encM (kI .i64) (kI .i64) x0.fSched.fShare), .mapo (encM (kI .i64) (kI .i64) x0.fSched.fLeft)] σ.M (resA Try.ty σ.A σ.M Try.f41.results.toList)
set_option maxHeartbeats 4000000 in
set_option maxRecDepth 100000 in
theorem gEgressOutNext.can (x0 : EgressOut) (r : Int × Bool × EgressOut) (hr : gEgressOutNext x0 = some r) : CallOk Try.prog 41 [.ptr 0 0] [.blk (x0.fConfig.enc ++ [.mp 1, .ptr 2 0, .lit (.int .i64 x0.fCredit), .lit (.int .i64 x0.fSounds)]), .own (EgressFlow.own .i64 x0.fFlows none) none, .blk [.lit (.int .i64 x0.fSched.fMost), .mp 3, .mp 4, .lit (.int .i64 x0.fSched.fAt), .lit (.bool x0.fSched.fGranted)], .mapo (encM (kI .i64) (kI .i64) x0.fSched.fShare), .mapo (encM (kI .i64) (kI .i64) x0.fSched.fLeft)] (gEgressOutNext.out x0 r) := by
  unfold gEgressOutNext at hr
  have hΓ := (gamL_cons gDrrSchedChoose.ok (gamL_cons gEgressOutIds.ok (gamL_cons gEgressOutSound.ok (gamL_cons gQueueQueueFirst.ok (gamL_nil)))) : GamOk Try.prog _)
  refine call_of_awp Try.tyOk Try.func41 rfl (by kernel_rfl) rfl rfl (by simp) ?_
  intro _ _ _
  refine AWp.then ⟨[⟨0, none, .ptr 0 0⟩], [.blk (x0.fConfig.enc ++ [.mp 1, .ptr 2 0, .lit (.int .i64 x0.fCredit), .lit (.int .i64 x0.fSounds)]), .own (EgressFlow.own .i64 x0.fFlows none) none, .blk [.lit (.int .i64 x0.fSched.fMost), .mp 3, .mp 4, .lit (.int .i64 x0.fSched.fAt), .lit (.bool x0.fSched.fGranted)], .mapo (encM (kI .i64) (kI .i64) x0.fSched.fShare), .mapo (encM (kI .i64) (kI .i64) x0.fSched.fLeft)]⟩ (AWp.reg Try.tyOk hΓ (keep := []) (dead := []) (by kernel_rfl) rfl (by simp)) ?_
  obtain ⟨r1, h11, hr⟩ := bind_some' hr
  obtain ⟨r2, h12, hr⟩ := bind_some' hr
  refine AWp.then ⟨[⟨4, none, .sl (r1.map (eNum .i64)) .no⟩, ⟨5, none, .sl (r2.map (eNum .i64)) .no⟩, ⟨0, none, .ptr 0 0⟩], [.blk (x0.fConfig.enc ++ [.mp 1, .ptr 2 0, .lit (.int .i64 x0.fCredit), .lit (.int .i64 x0.fSounds)]), .own (EgressFlow.own .i64 x0.fFlows none) none, .blk [.lit (.int .i64 x0.fSched.fMost), .mp 3, .mp 4, .lit (.int .i64 x0.fSched.fAt), .lit (.bool x0.fSched.fGranted)], .mapo (encM (kI .i64) (kI .i64) x0.fSched.fShare), .mapo (encM (kI .i64) (kI .i64) x0.fSched.fLeft)]⟩ (AWp.reg Try.tyOk hΓ (keep := [4, 5]) (dead := []) (by kernel_rfl) rfl (by simp [h11, h12])) ?_
  refine AWp.seq ?_
  refine AWp.then ⟨[⟨34, none, .lit (.bool (pickB (ltI 0 (lenL r1)) (pickB (ltI x0.fSounds x0.fConfig.fGuard) true (eqI (lenL r2) 0)) false))⟩, ⟨4, none, .sl (r1.map (eNum .i64)) .no⟩, ⟨5, none, .sl (r2.map (eNum .i64)) .no⟩, ⟨0, none, .ptr 0 0⟩], [.blk (x0.fConfig.enc ++ [.mp 1, .ptr 2 0, .lit (.int .i64 x0.fCredit), .lit (.int .i64 x0.fSounds)]), .own (EgressFlow.own .i64 x0.fFlows none) none, .blk [.lit (.int .i64 x0.fSched.fMost), .mp 3, .mp 4, .lit (.int .i64 x0.fSched.fAt), .lit (.bool x0.fSched.fGranted)], .mapo (encM (kI .i64) (kI .i64) x0.fSched.fShare), .mapo (encM (kI .i64) (kI .i64) x0.fSched.fLeft)]⟩ (AWp.regD Try.mixed Try.tyOk hΓ (keep := [34]) (dead := []) [] [(false, []), (false, []), (false, []), (false, []), (false, [18]), (false, [18]), (false, [18]), (false, [18]), (false, [18]), (false, [18]), (false, [18]), (false, [18]), (false, [18]), (false, [18]), (false, [18]), (false, [29, 18]), (false, [29, 18]), (false, [29, 18]), (false, [18]), (false, [])] (by kernel_rfl) rfl (by simp)) ?_
  refine AWp.cond (b := (pickB (ltI 0 (lenL r1)) (pickB (ltI x0.fSounds x0.fConfig.fGuard) true (eqI (lenL r2) 0)) false)) (by simp) (fun h13 => ?_) (fun h13 => ?_)
  · have hr := cond_t h13 hr
    obtain ⟨r3, h14, hr⟩ := bind_some' hr
    refine AWp.then ⟨[⟨2, none, .lit (.int .i64 r3)⟩, ⟨3, none, .lit (.bool true)⟩], [.blk (x0.fConfig.enc ++ [.mp 1, .ptr 2 0, .lit (.int .i64 x0.fCredit), .lit (.int .i64 x0.fSounds)]), .own (EgressFlow.own .i64 x0.fFlows none) none, .blk [.lit (.int .i64 x0.fSched.fMost), .mp 3, .mp 4, .lit (.int .i64 x0.fSched.fAt), .lit (.bool x0.fSched.fGranted)], .mapo (encM (kI .i64) (kI .i64) x0.fSched.fShare), .mapo (encM (kI .i64) (kI .i64) x0.fSched.fLeft)]⟩ (AWp.reg Try.tyOk hΓ (keep := [2, 3]) (dead := [34, 4, 5, 0]) (by kernel_rfl) rfl (by simp [h13, h14])) ?_
    refine AWp.ret ?_
    obtain rfl := some_inj hr
    refine fin_ret ?_
    simp
  · have hr := cond_f h13 hr
    refine AWp.skip ?_
    refine AWp.then ⟨[⟨6, none, .sl [] .full⟩, ⟨5, none, .sl (r2.map (eNum .i64)) .no⟩, ⟨0, none, .ptr 0 0⟩], [.blk (x0.fConfig.enc ++ [.mp 1, .ptr 2 0, .lit (.int .i64 x0.fCredit), .lit (.int .i64 x0.fSounds)]), .own (EgressFlow.own .i64 x0.fFlows none) none, .blk [.lit (.int .i64 x0.fSched.fMost), .mp 3, .mp 4, .lit (.int .i64 x0.fSched.fAt), .lit (.bool x0.fSched.fGranted)], .mapo (encM (kI .i64) (kI .i64) x0.fSched.fShare), .mapo (encM (kI .i64) (kI .i64) x0.fSched.fLeft)]⟩ (AWp.reg Try.tyOk hΓ (keep := [6]) (dead := [34, 4]) (by kernel_rfl) rfl (by simp [h13])) ?_
    refine AWp.seq ?_
    refine AWp.then ⟨[⟨38, none, .sl (r2.map (eNum .i64)) .no⟩, ⟨39, none, .lit (.int .i64 (lenL r2))⟩, ⟨40, none, .lit (.int .i64 0)⟩, ⟨6, none, .sl [] .full⟩, ⟨0, none, .ptr 0 0⟩], [.blk (x0.fConfig.enc ++ [.mp 1, .ptr 2 0, .lit (.int .i64 x0.fCredit), .lit (.int .i64 x0.fSounds)]), .own (EgressFlow.own .i64 x0.fFlows none) none, .blk [.lit (.int .i64 x0.fSched.fMost), .mp 3, .mp 4, .lit (.int .i64 x0.fSched.fAt), .lit (.bool x0.fSched.fGranted)], .mapo (encM (kI .i64) (kI .i64) x0.fSched.fShare), .mapo (encM (kI .i64) (kI .i64) x0.fSched.fLeft)]⟩ (AWp.reg Try.tyOk hΓ (keep := [38, 39, 40]) (dead := [5]) (by kernel_rfl) rfl (by simp)) ?_
    refine AWp.equip 6 2 (els := []) (by simp) (by simp) ?_
    refine AWp.loopE (fun (s1 : Int × List Antiphonref19Head) (γ1 : Nat) => ⟨[⟨38, none, .sl (r2.map (eNum .i64)) .no⟩, ⟨39, none, .lit (.int .i64 (lenL r2))⟩, ⟨40, none, .lit (.int .i64 s1.1)⟩, ⟨6, none, .sl (s1.2.map Antiphonref19Head.enc) (.own 5 (γ1) 2)⟩, ⟨0, none, .ptr 0 0⟩], [.blk (x0.fConfig.enc ++ [.mp 1, .ptr 2 0, .lit (.int .i64 x0.fCredit), .lit (.int .i64 x0.fSounds)]), .own (EgressFlow.own .i64 x0.fFlows none) none, .blk [.lit (.int .i64 x0.fSched.fMost), .mp 3, .mp 4, .lit (.int .i64 x0.fSched.fAt), .lit (.bool x0.fSched.fGranted)], .mapo (encM (kI .i64) (kI .i64) x0.fSched.fShare), .mapo (encM (kI .i64) (kI .i64) x0.fSched.fLeft), .room (γ1)]⟩) (fun (v1 : List Antiphonref19Head) (γ1a : Nat) => ⟨[⟨6, none, .sl (v1.map Antiphonref19Head.enc) (.own 5 (γ1a) 2)⟩, ⟨0, none, .ptr 0 0⟩], [.blk (x0.fConfig.enc ++ [.mp 1, .ptr 2 0, .lit (.int .i64 x0.fCredit), .lit (.int .i64 x0.fSounds)]), .own (EgressFlow.own .i64 x0.fFlows none) none, .blk [.lit (.int .i64 x0.fSched.fMost), .mp 3, .mp 4, .lit (.int .i64 x0.fSched.fAt), .lit (.bool x0.fSched.fGranted)], .mapo (encM (kI .i64) (kI .i64) x0.fSched.fShare), .mapo (encM (kI .i64) (kI .i64) x0.fSched.fLeft), .room (γ1a)]⟩) (gEgressOutNext.fin x0) hr 0 6 (by simp) (fun s1 f γ1 hr => ?_) (fun v1 γ1a σ1 m1 hr hc => ?_) (fun _ h => h)
    · unfold gEgressOutNext.loop1 at hr
      refine AWp.then ⟨[⟨41, none, .lit (.bool (ltI s1.1 (lenL r2)))⟩, ⟨38, none, .sl (r2.map (eNum .i64)) .no⟩, ⟨39, none, .lit (.int .i64 (lenL r2))⟩, ⟨40, none, .lit (.int .i64 s1.1)⟩, ⟨6, none, .sl (s1.2.map Antiphonref19Head.enc) (.own 5 (γ1) 2)⟩, ⟨0, none, .ptr 0 0⟩], [.blk (x0.fConfig.enc ++ [.mp 1, .ptr 2 0, .lit (.int .i64 x0.fCredit), .lit (.int .i64 x0.fSounds)]), .own (EgressFlow.own .i64 x0.fFlows none) none, .blk [.lit (.int .i64 x0.fSched.fMost), .mp 3, .mp 4, .lit (.int .i64 x0.fSched.fAt), .lit (.bool x0.fSched.fGranted)], .mapo (encM (kI .i64) (kI .i64) x0.fSched.fShare), .mapo (encM (kI .i64) (kI .i64) x0.fSched.fLeft), .room (γ1)]⟩ (AWp.reg Try.tyOk hΓ (keep := [41]) (dead := []) (by kernel_rfl) rfl (by simp)) ?_
      refine AWp.seq ?_
      refine AWp.cond (b := (ltI s1.1 (lenL r2))) (by simp) (fun h15 => ?_) (fun h15 => ?_)
      · have hr := cond_t h15 hr
        refine AWp.skip ?_
        refine AWp.seq ?_
        refine AWp.block ?_
        obtain ⟨h16, hr⟩ := need_some hr
        refine AWp.then ⟨[⟨8, none, .lit (.int .i64 (nthI r2 s1.1))⟩, ⟨38, none, .sl (r2.map (eNum .i64)) .no⟩, ⟨39, none, .lit (.int .i64 (lenL r2))⟩, ⟨40, none, .lit (.int .i64 s1.1)⟩, ⟨6, none, .sl (s1.2.map Antiphonref19Head.enc) (.own 5 (γ1) 2)⟩, ⟨0, none, .ptr 0 0⟩], [.blk (x0.fConfig.enc ++ [.mp 1, .ptr 2 0, .lit (.int .i64 x0.fCredit), .lit (.int .i64 x0.fSounds)]), .own (EgressFlow.own .i64 x0.fFlows none) none, .blk [.lit (.int .i64 x0.fSched.fMost), .mp 3, .mp 4, .lit (.int .i64 x0.fSched.fAt), .lit (.bool x0.fSched.fGranted)], .mapo (encM (kI .i64) (kI .i64) x0.fSched.fShare), .mapo (encM (kI .i64) (kI .i64) x0.fSched.fLeft), .room (γ1)]⟩ (AWp.reg Try.tyOk hΓ (keep := [8]) (dead := [41]) (by kernel_rfl) rfl (by simp [h15, h16])) ?_
        cases h17 : findM eqI (nthI r2 s1.1) x0.fFlows with
        | none =>
          have hr := optC_n h17 hr
          refine AWp.see (See.missI (M' := [.blk (x0.fConfig.enc ++ [.mp 1, .ptr 2 0, .lit (.int .i64 x0.fCredit), .lit (.int .i64 x0.fSounds)]), .own (EgressFlow.own .i64 x0.fFlows none) (some (.int .i64 (nthI r2 s1.1), none)), .blk [.lit (.int .i64 x0.fSched.fMost), .mp 3, .mp 4, .lit (.int .i64 x0.fSched.fAt), .lit (.bool x0.fSched.fGranted)], .mapo (encM (kI .i64) (kI .i64) x0.fSched.fShare), .mapo (encM (kI .i64) (kI .i64) x0.fSched.fLeft), .room (γ1)]) 1 (nthI r2 s1.1) x0.fFlows h17 (by rfl) (by rfl)) ?_
          cases hr
        | some z3 =>
          have hr := optC_s h17 hr
          refine AWp.see (See.openI (M' := [.blk (x0.fConfig.enc ++ [.mp 1, .ptr 2 0, .lit (.int .i64 x0.fCredit), .lit (.int .i64 x0.fSounds)]), .own (EgressFlow.own .i64 x0.fFlows (some (.int .i64 (nthI r2 s1.1)))) (some (.int .i64 (nthI r2 s1.1), some (.agg [.ptr 6 0, .lit (.bool z3.fVideo)]))), .blk [.lit (.int .i64 x0.fSched.fMost), .mp 3, .mp 4, .lit (.int .i64 x0.fSched.fAt), .lit (.bool x0.fSched.fGranted)], .mapo (encM (kI .i64) (kI .i64) x0.fSched.fShare), .mapo (encM (kI .i64) (kI .i64) x0.fSched.fLeft), .room (γ1), .blk z3.fQueue.enc]) 1 (nthI r2 s1.1) z3 x0.fFlows h17 (by rfl) (by simp)) ?_
          obtain ⟨r4, h18, hr⟩ := bind_some' hr
          refine AWp.then ⟨[⟨9, none, .ptr 7 0⟩, ⟨8, none, .lit (.int .i64 (nthI r2 s1.1))⟩, ⟨38, none, .sl (r2.map (eNum .i64)) .no⟩, ⟨39, none, .lit (.int .i64 (lenL r2))⟩, ⟨40, none, .lit (.int .i64 s1.1)⟩, ⟨6, none, .sl (s1.2.map Antiphonref19Head.enc) (.own 5 (γ1) 2)⟩, ⟨0, none, .ptr 0 0⟩], [.blk (x0.fConfig.enc ++ [.mp 1, .ptr 2 0, .lit (.int .i64 x0.fCredit), .lit (.int .i64 x0.fSounds)]), .own (EgressFlow.own .i64 x0.fFlows (some (.int .i64 (nthI r2 s1.1)))) (some (.int .i64 (nthI r2 s1.1), some (.agg [.ptr 6 0, .lit (.bool z3.fVideo)]))), .blk [.lit (.int .i64 x0.fSched.fMost), .mp 3, .mp 4, .lit (.int .i64 x0.fSched.fAt), .lit (.bool x0.fSched.fGranted)], .mapo (encM (kI .i64) (kI .i64) x0.fSched.fShare), .mapo (encM (kI .i64) (kI .i64) x0.fSched.fLeft), .room (γ1), .blk z3.fQueue.enc, .blk r4.1.enc]⟩ (AWp.reg Try.tyOk hΓ (keep := [9]) (dead := []) (by kernel_rfl) rfl (by simp [h18])) ?_
          obtain ⟨h19, hr⟩ := need_some hr
          refine AWp.last ⟨[⟨6, none, .sl ((appL s1.2 [(Antiphonref19Head.mk (nthI r2 s1.1) r4.1.fSize)]).map Antiphonref19Head.enc) (.own 5 (γ1 + 1) 2)⟩, ⟨38, none, .sl (r2.map (eNum .i64)) .no⟩, ⟨39, none, .lit (.int .i64 (lenL r2))⟩, ⟨40, none, .lit (.int .i64 s1.1)⟩, ⟨0, none, .ptr 0 0⟩], [.blk (x0.fConfig.enc ++ [.mp 1, .ptr 2 0, .lit (.int .i64 x0.fCredit), .lit (.int .i64 x0.fSounds)]), .own (EgressFlow.own .i64 x0.fFlows (some (.int .i64 (nthI r2 s1.1)))) (some (.int .i64 (nthI r2 s1.1), some (.agg [.ptr 6 0, .lit (.bool z3.fVideo)]))), .blk [.lit (.int .i64 x0.fSched.fMost), .mp 3, .mp 4, .lit (.int .i64 x0.fSched.fAt), .lit (.bool x0.fSched.fGranted)], .mapo (encM (kI .i64) (kI .i64) x0.fSched.fShare), .mapo (encM (kI .i64) (kI .i64) x0.fSched.fLeft), .room (γ1 + 1), .blk z3.fQueue.enc, .blk r4.1.enc]⟩ (AWp.reg Try.tyOk hΓ (keep := [6]) (dead := [9, 8]) (by kernel_rfl) rfl (by simp [h19])) ?_
          refine AWp.lastE ⟨[⟨40, none, .lit (.int .i64 (addI .i64 s1.1 1))⟩, ⟨6, none, .sl ((appL s1.2 [(Antiphonref19Head.mk (nthI r2 s1.1) r4.1.fSize)]).map Antiphonref19Head.enc) (.own 5 (γ1 + 1) 2)⟩, ⟨38, none, .sl (r2.map (eNum .i64)) .no⟩, ⟨39, none, .lit (.int .i64 (lenL r2))⟩, ⟨0, none, .ptr 0 0⟩], [.blk (x0.fConfig.enc ++ [.mp 1, .ptr 2 0, .lit (.int .i64 x0.fCredit), .lit (.int .i64 x0.fSounds)]), .own (EgressFlow.own .i64 x0.fFlows (some (.int .i64 (nthI r2 s1.1)))) (some (.int .i64 (nthI r2 s1.1), some (.agg [.ptr 6 0, .lit (.bool z3.fVideo)]))), .blk [.lit (.int .i64 x0.fSched.fMost), .mp 3, .mp 4, .lit (.int .i64 x0.fSched.fAt), .lit (.bool x0.fSched.fGranted)], .mapo (encM (kI .i64) (kI .i64) x0.fSched.fShare), .mapo (encM (kI .i64) (kI .i64) x0.fSched.fLeft), .room (γ1 + 1), .blk z3.fQueue.enc, .blk r4.1.enc]⟩ (AWp.reg Try.tyOk hΓ (keep := [40]) (dead := []) (by kernel_rfl) rfl (by simp)) ?_
          refine Eps.see (See.closeS (M' := [.blk (x0.fConfig.enc ++ [.mp 1, .ptr 2 0, .lit (.int .i64 x0.fCredit), .lit (.int .i64 x0.fSounds)]), .own (EgressFlow.own .i64 x0.fFlows none) none, .blk [.lit (.int .i64 x0.fSched.fMost), .mp 3, .mp 4, .lit (.int .i64 x0.fSched.fAt), .lit (.bool x0.fSched.fGranted)], .mapo (encM (kI .i64) (kI .i64) x0.fSched.fShare), .mapo (encM (kI .i64) (kI .i64) x0.fSched.fLeft), .room (γ1 + 1), .dead, .blk r4.1.enc]) 1 (nthI r2 s1.1) z3 x0.fFlows [6] h17 (by rfl) (by decide) (by simp) (by simp [into]) (by simp) (by rfl)) ?_
          refine Eps.done ?_
          obtain rfl := some_inj hr
          exact round_go (γ1 + 1) 6 (by first | (simp; done) | simp [h11, h12, h13, h15, h16, h18, h19])
      · have hr := cond_f h15 hr
        refine AWp.exit ?_
        obtain rfl := some_inj hr
        exact round_out (γ1) 6 (by first | (simp; done) | simp [h11, h12, h13, h15])
    · refine AWp.conv hc ?_
      obtain ⟨r5, h20, hr⟩ := bind_some' hr
      refine AWp.then ⟨[⟨2, none, .lit (.int .i64 r5.1)⟩, ⟨3, none, .lit (.bool r5.2.1)⟩], [.blk (x0.fConfig.enc ++ [.mp 1, .ptr 2 0, .lit (.int .i64 x0.fCredit), .lit (.int .i64 x0.fSounds)]), .own (EgressFlow.own .i64 x0.fFlows none) none, .blk [.lit (.int .i64 r5.2.2.fMost), .mp 3, .mp 4, .lit (.int .i64 r5.2.2.fAt), .lit (.bool r5.2.2.fGranted)], .mapo (encM (kI .i64) (kI .i64) r5.2.2.fShare), .mapo (encM (kI .i64) (kI .i64) r5.2.2.fLeft), .room (γ1a)]⟩ (AWp.reg Try.tyOk hΓ (keep := [2, 3]) (dead := [6, 0]) (by kernel_rfl) rfl (by simp [h20])) ?_
      refine AWp.ret ?_
      obtain rfl := some_inj hr
      refine fin_ret ?_
      simp

@[simp] noncomputable def gEgressOutNext.S : Sp
  | [.ptr i0 0], M => match M[i0]? with
    | some (.blk c0) => (match nthE c0 5 with
    | some (.mp i1) => (match M[i1]? with
    | some (.own c1 none) => (match nthE c0 6 with
    | some (.ptr i2 0) => (match M[i2]? with
    | some (.blk c2) => (match nthE c2 1 with
    | some (.mp i3) => (match M[i3]? with
    | some (.mapo c3) => (match nthE c2 2 with
    | some (.mp i4) => (match M[i4]? with
    | some (.mapo c4) => (fun (y0 : EgressOut) => (fun (r : Int × Bool × EgressOut) => some { av := .tup [.lit (.int .i64 (r.1)), .lit (.bool (r.2.1))], M := some (((((M.set i0 (.blk [.lit (.int .i64 (r.2.2.fConfig.fFrames)), .lit (.int .i64 (r.2.2.fConfig.fBytes)), .lit (.int .i64 (r.2.2.fConfig.fAge)), .lit (.int .i64 (r.2.2.fConfig.fMost)), .lit (.int .i64 (r.2.2.fConfig.fGuard)), .mp i1, .ptr i2 0, .lit (.int .i64 (r.2.2.fCredit)), .lit (.int .i64 (r.2.2.fSounds))])).set i1 (.own (EgressFlow.own .i64 (r.2.2.fFlows) none) none)).set i2 (.blk [.lit (.int .i64 (r.2.2.fSched.fMost)), .mp i3, .mp i4, .lit (.int .i64 (r.2.2.fSched.fAt)), .lit (.bool (r.2.2.fSched.fGranted))])).set i3 (.mapo (encM (kI .i64) (kI .i64) (r.2.2.fSched.fShare)))).set i4 (.mapo (encM (kI .i64) (kI .i64) (r.2.2.fSched.fLeft)))), obl := c0 = EgressOut.enc y0 i1 i2 ∧ c1 = EgressFlow.own .i64 (y0.fFlows) none ∧ c2 = DrrSched.enc (y0.fSched) i3 i4 ∧ c3 = encM (kI .i64) (kI .i64) (y0.fSched.fShare) ∧ c4 = encM (kI .i64) (kI .i64) (y0.fSched.fLeft) ∧ (gEgressOutNext y0).isSome = true ∧ i0 ≠ i1 ∧ i0 ≠ i2 ∧ i0 ≠ i3 ∧ i0 ≠ i4 ∧ i1 ≠ i2 ∧ i1 ≠ i3 ∧ i1 ≠ i4 ∧ i2 ≠ i3 ∧ i2 ≠ i4 ∧ i3 ≠ i4 }) ((gEgressOutNext y0).getD dflt)) (EgressOut.dec c0 (decM dkI EgressFlow.dfl c1.data) (DrrSched.dec c2 (decM dkI dkI c3) (decM dkI dkI c4)))
    | _ => none)
    | _ => none)
    | _ => none)
    | _ => none)
    | _ => none)
    | _ => none)
    | _ => none)
    | _ => none)
    | _ => none
  | _, _ => none

set_option maxHeartbeats 1000000 in
theorem gEgressOutNext.ok : SpecOk Try.prog 41 gEgressOutNext.S := by
  intro l M out h
  unfold gEgressOutNext.S at h
  split at h
  · rename_i i0
    split at h
    case h_2 => cases h
    rename_i c0 hM0
    split at h
    case h_2 => cases h
    rename_i i1 he1
    split at h
    case h_2 => cases h
    rename_i c1 hM1
    split at h
    case h_2 => cases h
    rename_i i2 he2
    split at h
    case h_2 => cases h
    rename_i c2 hM2
    split at h
    case h_2 => cases h
    rename_i i3 he3
    split at h
    case h_2 => cases h
    rename_i c3 hM3
    split at h
    case h_2 => cases h
    rename_i i4 he4
    split at h
    case h_2 => cases h
    rename_i c4 hM4
    try dsimp only at h
    cases h
    refine callOk_of fun ho => ?_
    obtain ⟨oc0, oc1, oc2, oc3, oc4, hs, hne0, hne1, hne2, hne3, hne4, hne5, hne6, hne7, hne8, hne9⟩ := ho
    generalize (EgressOut.dec c0 (decM dkI EgressFlow.dfl c1.data) (DrrSched.dec c2 (decM dkI dkI c3) (decM dkI dkI c4))) = y0 at *
    subst oc0
    subst oc1
    subst oc2
    subst oc3
    subst oc4
    obtain ⟨r, hr⟩ := Option.isSome_iff_exists.1 hs
    simp only [hr, Option.getD_some]
    have q := call_frame (M := M) [i0, i1, i2, i3, i4] (gEgressOutNext.can y0 r hr) (by simp [hne0, hne1, hne2, hne3, hne4, hne5, hne6, hne7, hne8, hne9]) rfl (by intro k i hk; (cases k with | zero => (simp at hk; subst hk; simp [hM0, into]) | succ k => ((cases k with | zero => (simp at hk; subst hk; simp [hM1]) | succ k => ((cases k with | zero => (simp at hk; subst hk; simp [hM2, into]) | succ k => ((cases k with | zero => (simp at hk; subst hk; simp [hM3]) | succ k => ((cases k with | zero => (simp at hk; subst hk; simp [hM4]) | succ k => (simp at hk)))))))))))
    exact callOk_conv q trivial (by simp [into]) (by simp [frameOut, gEgressOutNext.out, into]) (by simp [frameOut, gEgressOutNext.out, into])
  · cases h

@[simp] def gEgressOutRun.out (_x0 : EgressOut) (r : List Antiphonref20Sent × EgressOut) : Out := { av := .sl (r.1.map Antiphonref20Sent.enc) .no, M := some [.blk [.lit (.int .i64 r.2.fConfig.fFrames), .lit (.int .i64 r.2.fConfig.fBytes), .lit (.int .i64 r.2.fConfig.fAge), .lit (.int .i64 r.2.fConfig.fMost), .lit (.int .i64 r.2.fConfig.fGuard), .mp 1, .ptr 2 0, .lit (.int .i64 r.2.fCredit), .lit (.int .i64 r.2.fSounds)], .own (EgressFlow.own .i64 r.2.fFlows none) none, .blk [.lit (.int .i64 r.2.fSched.fMost), .mp 3, .mp 4, .lit (.int .i64 r.2.fSched.fAt), .lit (.bool r.2.fSched.fGranted)], .mapo (encM (kI .i64) (kI .i64) r.2.fSched.fShare), .mapo (encM (kI .i64) (kI .i64) r.2.fSched.fLeft)] }
def gEgressOutRun.fin (x0 : EgressOut) (r : List Antiphonref20Sent × EgressOut) (σ : St) : Prop := finK (gEgressOutRun.out x0 r) [.blk (x0.fConfig.enc ++ [.mp 1, .ptr 2 0, .lit (.int .i64 x0.fCredit), .lit (.int .i64 x0.fSounds)]), .own (EgressFlow.own .i64 x0.fFlows none) none, .blk [.lit (.int .i64 x0.fSched.fMost), .mp 3, .mp 4, .lit (.int .i64 x0.fSched.fAt), .lit (.bool x0.fSched.fGranted)], .mapo (encM (kI .i64) (kI .i64) x0.fSched.fShare), .mapo (encM (kI .i64) (kI .i64) x0.fSched.fLeft)] σ.M (resA Try.ty σ.A σ.M Try.f24.results.toList)
set_option maxHeartbeats 4000000 in
set_option maxRecDepth 100000 in
theorem gEgressOutRun.can (x0 : EgressOut) (r : List Antiphonref20Sent × EgressOut) (hr : gEgressOutRun x0 = some r) : CallOk Try.prog 24 [.ptr 0 0] [.blk (x0.fConfig.enc ++ [.mp 1, .ptr 2 0, .lit (.int .i64 x0.fCredit), .lit (.int .i64 x0.fSounds)]), .own (EgressFlow.own .i64 x0.fFlows none) none, .blk [.lit (.int .i64 x0.fSched.fMost), .mp 3, .mp 4, .lit (.int .i64 x0.fSched.fAt), .lit (.bool x0.fSched.fGranted)], .mapo (encM (kI .i64) (kI .i64) x0.fSched.fShare), .mapo (encM (kI .i64) (kI .i64) x0.fSched.fLeft)] (gEgressOutRun.out x0 r) := by
  unfold gEgressOutRun at hr
  have hΓ := (gamL_cons gDrrSchedTake.ok (gamL_cons gEgressOutNext.ok (gamL_cons gQueueQueueFirst.ok (gamL_cons gQueueQueuePop.ok (gamL_nil)))) : GamOk Try.prog _)
  refine call_of_awp Try.tyOk Try.func24 rfl (by kernel_rfl) rfl rfl (by simp) ?_
  intro _ _ _
  refine AWp.then ⟨[⟨0, none, .ptr 0 0⟩], [.blk (x0.fConfig.enc ++ [.mp 1, .ptr 2 0, .lit (.int .i64 x0.fCredit), .lit (.int .i64 x0.fSounds)]), .own (EgressFlow.own .i64 x0.fFlows none) none, .blk [.lit (.int .i64 x0.fSched.fMost), .mp 3, .mp 4, .lit (.int .i64 x0.fSched.fAt), .lit (.bool x0.fSched.fGranted)], .mapo (encM (kI .i64) (kI .i64) x0.fSched.fShare), .mapo (encM (kI .i64) (kI .i64) x0.fSched.fLeft)]⟩ (AWp.reg Try.tyOk hΓ (keep := []) (dead := []) (by kernel_rfl) rfl (by simp)) ?_
  refine AWp.then ⟨[⟨3, none, .sl [] .full⟩, ⟨0, none, .ptr 0 0⟩], [.blk (x0.fConfig.enc ++ [.mp 1, .ptr 2 0, .lit (.int .i64 x0.fCredit), .lit (.int .i64 x0.fSounds)]), .own (EgressFlow.own .i64 x0.fFlows none) none, .blk [.lit (.int .i64 x0.fSched.fMost), .mp 3, .mp 4, .lit (.int .i64 x0.fSched.fAt), .lit (.bool x0.fSched.fGranted)], .mapo (encM (kI .i64) (kI .i64) x0.fSched.fShare), .mapo (encM (kI .i64) (kI .i64) x0.fSched.fLeft)]⟩ (AWp.reg Try.tyOk hΓ (keep := [3]) (dead := []) (by kernel_rfl) rfl (by simp)) ?_
  refine AWp.equip 3 5 (els := []) (by simp) (by simp) ?_
  refine AWp.loopE (fun (s1 : List Antiphonref20Sent × EgressConfig × Int × Int × (List (Int × EgressFlow)) × Int × Int × Bool × (List (Int × Int)) × (List (Int × Int))) (γ1 : Nat) => ⟨[⟨3, none, .sl (s1.1.map Antiphonref20Sent.enc) (.own 5 (γ1) 5)⟩, ⟨0, none, .ptr 0 0⟩], [.blk (s1.2.1.enc ++ [.mp 1, .ptr 2 0, .lit (.int .i64 s1.2.2.1), .lit (.int .i64 s1.2.2.2.1)]), .own (EgressFlow.own .i64 s1.2.2.2.2.1 none) none, .blk [.lit (.int .i64 s1.2.2.2.2.2.1), .mp 3, .mp 4, .lit (.int .i64 s1.2.2.2.2.2.2.1), .lit (.bool s1.2.2.2.2.2.2.2.1)], .mapo (encM (kI .i64) (kI .i64) s1.2.2.2.2.2.2.2.2.1), .mapo (encM (kI .i64) (kI .i64) s1.2.2.2.2.2.2.2.2.2), .room (γ1)]⟩) (fun (v1 : Unit) (γ1a : Unit) => ⟨[], []⟩) (gEgressOutRun.fin x0) hr 0 6 (by simp) (fun s1 f γ1 hr => ?_) (fun v1 γ1a σ1 m1 hr hc => ?_) (fun _ h => h)
  · unfold gEgressOutRun.loop1 at hr
    refine AWp.block ?_
    obtain ⟨r1, h10, hr⟩ := bind_some' hr
    refine AWp.then ⟨[⟨4, none, .lit (.int .i64 r1.1)⟩, ⟨5, none, .lit (.bool r1.2.1)⟩, ⟨3, none, .sl (s1.1.map Antiphonref20Sent.enc) (.own 5 (γ1) 5)⟩, ⟨0, none, .ptr 0 0⟩], [.blk (r1.2.2.fConfig.enc ++ [.mp 1, .ptr 2 0, .lit (.int .i64 r1.2.2.fCredit), .lit (.int .i64 r1.2.2.fSounds)]), .own (EgressFlow.own .i64 r1.2.2.fFlows none) none, .blk [.lit (.int .i64 r1.2.2.fSched.fMost), .mp 3, .mp 4, .lit (.int .i64 r1.2.2.fSched.fAt), .lit (.bool r1.2.2.fSched.fGranted)], .mapo (encM (kI .i64) (kI .i64) r1.2.2.fSched.fShare), .mapo (encM (kI .i64) (kI .i64) r1.2.2.fSched.fLeft), .room (γ1)]⟩ (AWp.reg Try.tyOk hΓ (keep := [4, 5]) (dead := []) (by kernel_rfl) rfl (by simp [h10])) ?_
    refine AWp.seq ?_
    refine AWp.then ⟨[⟨15, none, .lit (.bool (notB r1.2.1))⟩, ⟨4, none, .lit (.int .i64 r1.1)⟩, ⟨3, none, .sl (s1.1.map Antiphonref20Sent.enc) (.own 5 (γ1) 5)⟩, ⟨0, none, .ptr 0 0⟩], [.blk (r1.2.2.fConfig.enc ++ [.mp 1, .ptr 2 0, .lit (.int .i64 r1.2.2.fCredit), .lit (.int .i64 r1.2.2.fSounds)]), .own (EgressFlow.own .i64 r1.2.2.fFlows none) none, .blk [.lit (.int .i64 r1.2.2.fSched.fMost), .mp 3, .mp 4, .lit (.int .i64 r1.2.2.fSched.fAt), .lit (.bool r1.2.2.fSched.fGranted)], .mapo (encM (kI .i64) (kI .i64) r1.2.2.fSched.fShare), .mapo (encM (kI .i64) (kI .i64) r1.2.2.fSched.fLeft), .room (γ1)]⟩ (AWp.reg Try.tyOk hΓ (keep := [15]) (dead := [5]) (by kernel_rfl) rfl (by simp)) ?_
    refine AWp.cond (b := (notB r1.2.1)) (by simp) (fun h11 => ?_) (fun h11 => ?_)
    · have hr := cond_t h11 hr
      refine AWp.then ⟨[⟨2, none, .sl (s1.1.map Antiphonref20Sent.enc) (.own 5 (γ1) 5)⟩], [.blk (r1.2.2.fConfig.enc ++ [.mp 1, .ptr 2 0, .lit (.int .i64 r1.2.2.fCredit), .lit (.int .i64 r1.2.2.fSounds)]), .own (EgressFlow.own .i64 r1.2.2.fFlows none) none, .blk [.lit (.int .i64 r1.2.2.fSched.fMost), .mp 3, .mp 4, .lit (.int .i64 r1.2.2.fSched.fAt), .lit (.bool r1.2.2.fSched.fGranted)], .mapo (encM (kI .i64) (kI .i64) r1.2.2.fSched.fShare), .mapo (encM (kI .i64) (kI .i64) r1.2.2.fSched.fLeft), .room (γ1)]⟩ (AWp.reg Try.tyOk hΓ (keep := [2]) (dead := [15, 4, 3, 0]) (by kernel_rfl) rfl (by simp [h11])) ?_
      refine AWp.ret ?_
      obtain rfl := some_inj hr
      refine round_ret ?_
      refine fin_ret ?_
      simp
    · have hr := cond_f h11 hr
      refine AWp.skip ?_
      cases h12 : findM eqI r1.1 r1.2.2.fFlows with
      | none =>
        have hr := optC_n h12 hr
        refine AWp.see (See.missI (M' := [.blk (r1.2.2.fConfig.enc ++ [.mp 1, .ptr 2 0, .lit (.int .i64 r1.2.2.fCredit), .lit (.int .i64 r1.2.2.fSounds)]), .own (EgressFlow.own .i64 r1.2.2.fFlows none) (some (.int .i64 r1.1, none)), .blk [.lit (.int .i64 r1.2.2.fSched.fMost), .mp 3, .mp 4, .lit (.int .i64 r1.2.2.fSched.fAt), .lit (.bool r1.2.2.fSched.fGranted)], .mapo (encM (kI .i64) (kI .i64) r1.2.2.fSched.fShare), .mapo (encM (kI .i64) (kI .i64) r1.2.2.fSched.fLeft), .room (γ1)]) 1 r1.1 r1.2.2.fFlows h12 (by rfl) (by rfl)) ?_
        refine AWp.then ⟨[⟨6, none, .ptr 6 0⟩, ⟨4, none, .lit (.int .i64 r1.1)⟩, ⟨3, none, .sl (s1.1.map Antiphonref20Sent.enc) (.own 5 (γ1) 5)⟩, ⟨0, none, .ptr 0 0⟩], [.blk (r1.2.2.fConfig.enc ++ [.mp 1, .ptr 2 0, .lit (.int .i64 r1.2.2.fCredit), .lit (.int .i64 r1.2.2.fSounds)]), .own (EgressFlow.own .i64 r1.2.2.fFlows none) (some (.int .i64 r1.1, none)), .blk [.lit (.int .i64 r1.2.2.fSched.fMost), .mp 3, .mp 4, .lit (.int .i64 r1.2.2.fSched.fAt), .lit (.bool r1.2.2.fSched.fGranted)], .mapo (encM (kI .i64) (kI .i64) r1.2.2.fSched.fShare), .mapo (encM (kI .i64) (kI .i64) r1.2.2.fSched.fLeft), .room (γ1), .blk [.lit (.pointer none), .lit (.bool false)]]⟩ (AWp.reg Try.tyOk hΓ (keep := [6]) (dead := [15]) (by kernel_rfl) rfl (by simp [h11])) ?_
        refine AWp.seq ?_
        cases hr
      | some z3 =>
        have hr := optC_s h12 hr
        refine AWp.see (See.openI (M' := [.blk (r1.2.2.fConfig.enc ++ [.mp 1, .ptr 2 0, .lit (.int .i64 r1.2.2.fCredit), .lit (.int .i64 r1.2.2.fSounds)]), .own (EgressFlow.own .i64 r1.2.2.fFlows (some (.int .i64 r1.1))) (some (.int .i64 r1.1, some (.agg [.ptr 6 0, .lit (.bool z3.fVideo)]))), .blk [.lit (.int .i64 r1.2.2.fSched.fMost), .mp 3, .mp 4, .lit (.int .i64 r1.2.2.fSched.fAt), .lit (.bool r1.2.2.fSched.fGranted)], .mapo (encM (kI .i64) (kI .i64) r1.2.2.fSched.fShare), .mapo (encM (kI .i64) (kI .i64) r1.2.2.fSched.fLeft), .room (γ1), .blk z3.fQueue.enc]) 1 r1.1 z3 r1.2.2.fFlows h12 (by rfl) (by simp)) ?_
        refine AWp.then ⟨[⟨6, none, .ptr 7 0⟩, ⟨4, none, .lit (.int .i64 r1.1)⟩, ⟨3, none, .sl (s1.1.map Antiphonref20Sent.enc) (.own 5 (γ1) 5)⟩, ⟨0, none, .ptr 0 0⟩], [.blk (r1.2.2.fConfig.enc ++ [.mp 1, .ptr 2 0, .lit (.int .i64 r1.2.2.fCredit), .lit (.int .i64 r1.2.2.fSounds)]), .own (EgressFlow.own .i64 r1.2.2.fFlows (some (.int .i64 r1.1))) (some (.int .i64 r1.1, some (.agg [.ptr 6 0, .lit (.bool z3.fVideo)]))), .blk [.lit (.int .i64 r1.2.2.fSched.fMost), .mp 3, .mp 4, .lit (.int .i64 r1.2.2.fSched.fAt), .lit (.bool r1.2.2.fSched.fGranted)], .mapo (encM (kI .i64) (kI .i64) r1.2.2.fSched.fShare), .mapo (encM (kI .i64) (kI .i64) r1.2.2.fSched.fLeft), .room (γ1), .blk z3.fQueue.enc, .blk [.ptr 6 0, .lit (.bool z3.fVideo)]]⟩ (AWp.reg Try.tyOk hΓ (keep := [6]) (dead := [15]) (by kernel_rfl) rfl (by simp [h11])) ?_
        obtain ⟨r2, h13, hr⟩ := bind_some' hr
        refine AWp.then ⟨[⟨7, none, .ptr 8 0⟩, ⟨6, none, .ptr 7 0⟩, ⟨4, none, .lit (.int .i64 r1.1)⟩, ⟨3, none, .sl (s1.1.map Antiphonref20Sent.enc) (.own 5 (γ1) 5)⟩, ⟨0, none, .ptr 0 0⟩], [.blk (r1.2.2.fConfig.enc ++ [.mp 1, .ptr 2 0, .lit (.int .i64 r1.2.2.fCredit), .lit (.int .i64 r1.2.2.fSounds)]), .own (EgressFlow.own .i64 r1.2.2.fFlows (some (.int .i64 r1.1))) (some (.int .i64 r1.1, some (.agg [.ptr 6 0, .lit (.bool z3.fVideo)]))), .blk [.lit (.int .i64 r1.2.2.fSched.fMost), .mp 3, .mp 4, .lit (.int .i64 r1.2.2.fSched.fAt), .lit (.bool r1.2.2.fSched.fGranted)], .mapo (encM (kI .i64) (kI .i64) r1.2.2.fSched.fShare), .mapo (encM (kI .i64) (kI .i64) r1.2.2.fSched.fLeft), .room (γ1), .blk z3.fQueue.enc, .blk [.ptr 6 0, .lit (.bool z3.fVideo)], .blk r2.1.enc]⟩ (AWp.reg Try.tyOk hΓ (keep := [7]) (dead := []) (by kernel_rfl) rfl (by simp [h13])) ?_
        refine AWp.seq ?_
        refine AWp.then ⟨[⟨35, none, .lit (.bool (ltI r1.2.2.fCredit r2.1.fSize))⟩, ⟨7, none, .ptr 8 0⟩, ⟨6, none, .ptr 7 0⟩, ⟨4, none, .lit (.int .i64 r1.1)⟩, ⟨3, none, .sl (s1.1.map Antiphonref20Sent.enc) (.own 5 (γ1) 5)⟩, ⟨0, none, .ptr 0 0⟩], [.blk (r1.2.2.fConfig.enc ++ [.mp 1, .ptr 2 0, .lit (.int .i64 r1.2.2.fCredit), .lit (.int .i64 r1.2.2.fSounds)]), .own (EgressFlow.own .i64 r1.2.2.fFlows (some (.int .i64 r1.1))) (some (.int .i64 r1.1, some (.agg [.ptr 6 0, .lit (.bool z3.fVideo)]))), .blk [.lit (.int .i64 r1.2.2.fSched.fMost), .mp 3, .mp 4, .lit (.int .i64 r1.2.2.fSched.fAt), .lit (.bool r1.2.2.fSched.fGranted)], .mapo (encM (kI .i64) (kI .i64) r1.2.2.fSched.fShare), .mapo (encM (kI .i64) (kI .i64) r1.2.2.fSched.fLeft), .room (γ1), .blk z3.fQueue.enc, .blk [.ptr 6 0, .lit (.bool z3.fVideo)], .blk r2.1.enc]⟩ (AWp.regD Try.mixed Try.tyOk hΓ (keep := [35]) (dead := []) [] [(false, []), (false, []), (false, []), (false, []), (false, []), (false, []), (false, [])] (by kernel_rfl) rfl (by simp)) ?_
        refine AWp.cond (b := (ltI r1.2.2.fCredit r2.1.fSize)) (by simp) (fun h14 => ?_) (fun h14 => ?_)
        · have hr := cond_t h14 hr
          refine AWp.then ⟨[⟨2, none, .sl (s1.1.map Antiphonref20Sent.enc) (.own 5 (γ1) 5)⟩], [.blk (r1.2.2.fConfig.enc ++ [.mp 1, .ptr 2 0, .lit (.int .i64 r1.2.2.fCredit), .lit (.int .i64 r1.2.2.fSounds)]), .own (EgressFlow.own .i64 r1.2.2.fFlows (some (.int .i64 r1.1))) (some (.int .i64 r1.1, some (.agg [.ptr 6 0, .lit (.bool z3.fVideo)]))), .blk [.lit (.int .i64 r1.2.2.fSched.fMost), .mp 3, .mp 4, .lit (.int .i64 r1.2.2.fSched.fAt), .lit (.bool r1.2.2.fSched.fGranted)], .mapo (encM (kI .i64) (kI .i64) r1.2.2.fSched.fShare), .mapo (encM (kI .i64) (kI .i64) r1.2.2.fSched.fLeft), .room (γ1), .blk z3.fQueue.enc, .blk [.ptr 6 0, .lit (.bool z3.fVideo)], .blk r2.1.enc]⟩ (AWp.reg Try.tyOk hΓ (keep := [2]) (dead := [35, 7, 6, 4, 3, 0]) (by kernel_rfl) rfl (by simp [h14])) ?_
          refine AWp.see (See.closeS (M' := [.blk (r1.2.2.fConfig.enc ++ [.mp 1, .ptr 2 0, .lit (.int .i64 r1.2.2.fCredit), .lit (.int .i64 r1.2.2.fSounds)]), .own (EgressFlow.own .i64 r1.2.2.fFlows none) none, .blk [.lit (.int .i64 r1.2.2.fSched.fMost), .mp 3, .mp 4, .lit (.int .i64 r1.2.2.fSched.fAt), .lit (.bool r1.2.2.fSched.fGranted)], .mapo (encM (kI .i64) (kI .i64) r1.2.2.fSched.fShare), .mapo (encM (kI .i64) (kI .i64) r1.2.2.fSched.fLeft), .room (γ1), .dead, .blk [.ptr 6 0, .lit (.bool z3.fVideo)], .blk r2.1.enc]) 1 r1.1 z3 r1.2.2.fFlows [6] h12 (by rfl) (by decide) (by simp) (by simp [into]) (by simp) (by rfl)) ?_
          refine AWp.ret ?_
          obtain rfl := some_inj hr
          refine round_ret ?_
          refine fin_ret ?_
          simp
        · have hr := cond_f h14 hr
          refine AWp.skip ?_
          obtain ⟨r3, h15, hr⟩ := bind_some' hr
          refine AWp.then ⟨[⟨7, none, .ptr 8 0⟩, ⟨6, none, .ptr 7 0⟩, ⟨4, none, .lit (.int .i64 r1.1)⟩, ⟨3, none, .sl (s1.1.map Antiphonref20Sent.enc) (.own 5 (γ1) 5)⟩, ⟨0, none, .ptr 0 0⟩], [.blk (r1.2.2.fConfig.enc ++ [.mp 1, .ptr 2 0, .lit (.int .i64 r1.2.2.fCredit), .lit (.int .i64 r1.2.2.fSounds)]), .own (EgressFlow.own .i64 r1.2.2.fFlows (some (.int .i64 r1.1))) (some (.int .i64 r1.1, some (.agg [.ptr 6 0, .lit (.bool z3.fVideo)]))), .blk [.lit (.int .i64 r1.2.2.fSched.fMost), .mp 3, .mp 4, .lit (.int .i64 r1.2.2.fSched.fAt), .lit (.bool r1.2.2.fSched.fGranted)], .mapo (encM (kI .i64) (kI .i64) r1.2.2.fSched.fShare), .mapo (encM (kI .i64) (kI .i64) r1.2.2.fSched.fLeft), .room (γ1), .blk r3.2.2.enc, .blk [.ptr 6 0, .lit (.bool z3.fVideo)], .blk r2.1.enc]⟩ (AWp.reg Try.tyOk hΓ (keep := []) (dead := [35]) (by kernel_rfl) rfl (by simp [h14, h15])) ?_
          refine AWp.then ⟨[⟨7, none, .ptr 8 0⟩, ⟨6, none, .ptr 7 0⟩, ⟨4, none, .lit (.int .i64 r1.1)⟩, ⟨3, none, .sl (s1.1.map Antiphonref20Sent.enc) (.own 5 (γ1) 5)⟩, ⟨0, none, .ptr 0 0⟩], [.blk (r1.2.2.fConfig.enc ++ [.mp 1, .ptr 2 0, .lit (.int .i64 (subI .i64 r1.2.2.fCredit r2.1.fSize)), .lit (.int .i64 r1.2.2.fSounds)]), .own (EgressFlow.own .i64 r1.2.2.fFlows (some (.int .i64 r1.1))) (some (.int .i64 r1.1, some (.agg [.ptr 6 0, .lit (.bool z3.fVideo)]))), .blk [.lit (.int .i64 r1.2.2.fSched.fMost), .mp 3, .mp 4, .lit (.int .i64 r1.2.2.fSched.fAt), .lit (.bool r1.2.2.fSched.fGranted)], .mapo (encM (kI .i64) (kI .i64) r1.2.2.fSched.fShare), .mapo (encM (kI .i64) (kI .i64) r1.2.2.fSched.fLeft), .room (γ1), .blk r3.2.2.enc, .blk [.ptr 6 0, .lit (.bool z3.fVideo)], .blk r2.1.enc]⟩ (AWp.regD Try.mixed Try.tyOk hΓ (keep := []) (dead := []) [] [(false, []), (false, []), (false, []), (false, []), (false, []), (false, []), (false, []), (false, []), (false, []), (true, [])] (by kernel_rfl) rfl (by simp)) ?_
          refine AWp.meetF (fun (v2 : Int × Int × Bool × (List (Int × Int)) × (List (Int × Int)) × Int × Bool) (γ2 : Unit) => ⟨[⟨7, none, .ptr 8 0⟩, ⟨4, none, .lit (.int .i64 r1.1)⟩, ⟨3, none, .sl (s1.1.map Antiphonref20Sent.enc) (.own 5 (γ1) 5)⟩, ⟨0, none, .ptr 0 0⟩], [.blk (r1.2.2.fConfig.enc ++ [.mp 1, .ptr 2 0, .lit (.int .i64 (subI .i64 r1.2.2.fCredit r2.1.fSize)), .lit (.int .i64 v2.2.2.2.2.2.1)]), .own (EgressFlow.own .i64 r1.2.2.fFlows (some (.int .i64 r1.1))) (some (.int .i64 r1.1, some (.agg [.ptr 6 0, .lit (.bool z3.fVideo)]))), .blk [.lit (.int .i64 v2.1), .mp 3, .mp 4, .lit (.int .i64 v2.2.1), .lit (.bool v2.2.2.1)], .mapo (encM (kI .i64) (kI .i64) v2.2.2.2.1), .mapo (encM (kI .i64) (kI .i64) v2.2.2.2.2.1), .room (γ1), .blk r3.2.2.enc, .blk [.ptr 6 0, .lit (.bool v2.2.2.2.2.2.2)], .blk r2.1.enc]⟩) (QRr (gEgressOutRun.fin x0)) hr (fun f hr => ?_) (fun v2 γ2 hr => ?_) (fun _ h => QRr_ret h)
          · refine AWp.then ⟨[⟨50, none, .lit (.bool z3.fVideo)⟩, ⟨7, none, .ptr 8 0⟩, ⟨4, none, .lit (.int .i64 r1.1)⟩, ⟨3, none, .sl (s1.1.map Antiphonref20Sent.enc) (.own 5 (γ1) 5)⟩, ⟨0, none, .ptr 0 0⟩], [.blk (r1.2.2.fConfig.enc ++ [.mp 1, .ptr 2 0, .lit (.int .i64 (subI .i64 r1.2.2.fCredit r2.1.fSize)), .lit (.int .i64 r1.2.2.fSounds)]), .own (EgressFlow.own .i64 r1.2.2.fFlows (some (.int .i64 r1.1))) (some (.int .i64 r1.1, some (.agg [.ptr 6 0, .lit (.bool z3.fVideo)]))), .blk [.lit (.int .i64 r1.2.2.fSched.fMost), .mp 3, .mp 4, .lit (.int .i64 r1.2.2.fSched.fAt), .lit (.bool r1.2.2.fSched.fGranted)], .mapo (encM (kI .i64) (kI .i64) r1.2.2.fSched.fShare), .mapo (encM (kI .i64) (kI .i64) r1.2.2.fSched.fLeft), .room (γ1), .blk r3.2.2.enc, .blk [.ptr 6 0, .lit (.bool z3.fVideo)], .blk r2.1.enc]⟩ (AWp.reg Try.tyOk hΓ (keep := [50]) (dead := [6]) (by kernel_rfl) rfl (by simp)) ?_
            refine AWp.cond (b := z3.fVideo) (by simp) (fun h16 => ?_) (fun h16 => ?_)
            · have hr := cond_t h16 hr
              obtain ⟨r4, h17, hr⟩ := bind_some' hr
              refine AWp.then ⟨[⟨7, none, .ptr 8 0⟩, ⟨4, none, .lit (.int .i64 r1.1)⟩, ⟨3, none, .sl (s1.1.map Antiphonref20Sent.enc) (.own 5 (γ1) 5)⟩, ⟨0, none, .ptr 0 0⟩], [.blk (r1.2.2.fConfig.enc ++ [.mp 1, .ptr 2 0, .lit (.int .i64 (subI .i64 r1.2.2.fCredit r2.1.fSize)), .lit (.int .i64 r1.2.2.fSounds)]), .own (EgressFlow.own .i64 r1.2.2.fFlows (some (.int .i64 r1.1))) (some (.int .i64 r1.1, some (.agg [.ptr 6 0, .lit (.bool true)]))), .blk [.lit (.int .i64 r4.fMost), .mp 3, .mp 4, .lit (.int .i64 r4.fAt), .lit (.bool r4.fGranted)], .mapo (encM (kI .i64) (kI .i64) r4.fShare), .mapo (encM (kI .i64) (kI .i64) r4.fLeft), .room (γ1), .blk r3.2.2.enc, .blk [.ptr 6 0, .lit (.bool true)], .blk r2.1.enc]⟩ (AWp.regD Try.mixed Try.tyOk hΓ (keep := []) (dead := [50]) [] [(false, []), (false, []), (false, []), (false, []), (false, []), (false, []), (true, [])] (by kernel_rfl) rfl (by simp [h16, h17])) ?_
              refine AWp.last ⟨[⟨7, none, .ptr 8 0⟩, ⟨4, none, .lit (.int .i64 r1.1)⟩, ⟨3, none, .sl (s1.1.map Antiphonref20Sent.enc) (.own 5 (γ1) 5)⟩, ⟨0, none, .ptr 0 0⟩], [.blk (r1.2.2.fConfig.enc ++ [.mp 1, .ptr 2 0, .lit (.int .i64 (subI .i64 r1.2.2.fCredit r2.1.fSize)), .lit (.int .i64 0)]), .own (EgressFlow.own .i64 r1.2.2.fFlows (some (.int .i64 r1.1))) (some (.int .i64 r1.1, some (.agg [.ptr 6 0, .lit (.bool true)]))), .blk [.lit (.int .i64 r4.fMost), .mp 3, .mp 4, .lit (.int .i64 r4.fAt), .lit (.bool r4.fGranted)], .mapo (encM (kI .i64) (kI .i64) r4.fShare), .mapo (encM (kI .i64) (kI .i64) r4.fLeft), .room (γ1), .blk r3.2.2.enc, .blk [.ptr 6 0, .lit (.bool true)], .blk r2.1.enc]⟩ (AWp.reg Try.tyOk hΓ (keep := []) (dead := []) (by kernel_rfl) rfl (by simp)) ?_
              obtain rfl := some_inj hr
              exact meet_go () 9 (by first | (simp; done) | simp [h16])
            · have hr := cond_f h16 hr
              refine AWp.last ⟨[⟨7, none, .ptr 8 0⟩, ⟨4, none, .lit (.int .i64 r1.1)⟩, ⟨3, none, .sl (s1.1.map Antiphonref20Sent.enc) (.own 5 (γ1) 5)⟩, ⟨0, none, .ptr 0 0⟩], [.blk (r1.2.2.fConfig.enc ++ [.mp 1, .ptr 2 0, .lit (.int .i64 (subI .i64 r1.2.2.fCredit r2.1.fSize)), .lit (.int .i64 (addI .i64 r1.2.2.fSounds 1))]), .own (EgressFlow.own .i64 r1.2.2.fFlows (some (.int .i64 r1.1))) (some (.int .i64 r1.1, some (.agg [.ptr 6 0, .lit (.bool false)]))), .blk [.lit (.int .i64 r1.2.2.fSched.fMost), .mp 3, .mp 4, .lit (.int .i64 r1.2.2.fSched.fAt), .lit (.bool r1.2.2.fSched.fGranted)], .mapo (encM (kI .i64) (kI .i64) r1.2.2.fSched.fShare), .mapo (encM (kI .i64) (kI .i64) r1.2.2.fSched.fLeft), .room (γ1), .blk r3.2.2.enc, .blk [.ptr 6 0, .lit (.bool false)], .blk r2.1.enc]⟩ (AWp.reg Try.tyOk hΓ (keep := []) (dead := [50]) (by kernel_rfl) rfl (by simp [h16])) ?_
              obtain rfl := some_inj hr
              exact meet_go () 9 (by first | (simp; done) | simp [h16])
          · obtain ⟨h18, hr⟩ := need_some hr
            refine AWp.lastE ⟨[⟨3, none, .sl ((appL s1.1 [(Antiphonref20Sent.mk r1.1 r2.1)]).map Antiphonref20Sent.enc) (.own 5 (γ1 + 1) 5)⟩, ⟨0, none, .ptr 0 0⟩], [.blk (r1.2.2.fConfig.enc ++ [.mp 1, .ptr 2 0, .lit (.int .i64 (subI .i64 r1.2.2.fCredit r2.1.fSize)), .lit (.int .i64 v2.2.2.2.2.2.1)]), .own (EgressFlow.own .i64 r1.2.2.fFlows (some (.int .i64 r1.1))) (some (.int .i64 r1.1, some (.agg [.ptr 6 0, .lit (.bool z3.fVideo)]))), .blk [.lit (.int .i64 v2.1), .mp 3, .mp 4, .lit (.int .i64 v2.2.1), .lit (.bool v2.2.2.1)], .mapo (encM (kI .i64) (kI .i64) v2.2.2.2.1), .mapo (encM (kI .i64) (kI .i64) v2.2.2.2.2.1), .room (γ1 + 1), .blk r3.2.2.enc, .blk [.ptr 6 0, .lit (.bool v2.2.2.2.2.2.2)], .blk r2.1.enc]⟩ (AWp.reg Try.tyOk hΓ (keep := [3]) (dead := [7, 4]) (by kernel_rfl) rfl (by simp [h18])) ?_
            refine Eps.see (See.closeI (M' := [.blk (r1.2.2.fConfig.enc ++ [.mp 1, .ptr 2 0, .lit (.int .i64 (subI .i64 r1.2.2.fCredit r2.1.fSize)), .lit (.int .i64 v2.2.2.2.2.2.1)]), .own (EgressFlow.own .i64 (setM eqI r1.1 (EgressFlow.mk r3.2.2 z3.fVideo) r1.2.2.fFlows) none) none, .blk [.lit (.int .i64 v2.1), .mp 3, .mp 4, .lit (.int .i64 v2.2.1), .lit (.bool v2.2.2.1)], .mapo (encM (kI .i64) (kI .i64) v2.2.2.2.1), .mapo (encM (kI .i64) (kI .i64) v2.2.2.2.2.1), .room (γ1 + 1), .dead, .blk [.ptr 6 0, .lit (.bool v2.2.2.2.2.2.2)], .blk r2.1.enc]) 1 r1.1 (EgressFlow.mk r3.2.2 z3.fVideo) r1.2.2.fFlows [6] (by rfl) (by decide) (by simp) (by simp [into]) (by simp) (by rfl)) ?_
            refine Eps.done ?_
            obtain rfl := some_inj hr
            exact round_go (γ1 + 1) 6 (by first | (simp; done) | simp [h10, h11, h13, h14, h15, h18])
  · cases hr

@[simp] noncomputable def gEgressOutRun.S : Sp
  | [.ptr i0 0], M => match M[i0]? with
    | some (.blk c0) => (match nthE c0 5 with
    | some (.mp i1) => (match M[i1]? with
    | some (.own c1 none) => (match nthE c0 6 with
    | some (.ptr i2 0) => (match M[i2]? with
    | some (.blk c2) => (match nthE c2 1 with
    | some (.mp i3) => (match M[i3]? with
    | some (.mapo c3) => (match nthE c2 2 with
    | some (.mp i4) => (match M[i4]? with
    | some (.mapo c4) => (fun (y0 : EgressOut) => (fun (r : List Antiphonref20Sent × EgressOut) => some { av := .sl ((r.1).map Antiphonref20Sent.enc) .no, M := some (((((M.set i0 (.blk [.lit (.int .i64 (r.2.fConfig.fFrames)), .lit (.int .i64 (r.2.fConfig.fBytes)), .lit (.int .i64 (r.2.fConfig.fAge)), .lit (.int .i64 (r.2.fConfig.fMost)), .lit (.int .i64 (r.2.fConfig.fGuard)), .mp i1, .ptr i2 0, .lit (.int .i64 (r.2.fCredit)), .lit (.int .i64 (r.2.fSounds))])).set i1 (.own (EgressFlow.own .i64 (r.2.fFlows) none) none)).set i2 (.blk [.lit (.int .i64 (r.2.fSched.fMost)), .mp i3, .mp i4, .lit (.int .i64 (r.2.fSched.fAt)), .lit (.bool (r.2.fSched.fGranted))])).set i3 (.mapo (encM (kI .i64) (kI .i64) (r.2.fSched.fShare)))).set i4 (.mapo (encM (kI .i64) (kI .i64) (r.2.fSched.fLeft)))), obl := c0 = EgressOut.enc y0 i1 i2 ∧ c1 = EgressFlow.own .i64 (y0.fFlows) none ∧ c2 = DrrSched.enc (y0.fSched) i3 i4 ∧ c3 = encM (kI .i64) (kI .i64) (y0.fSched.fShare) ∧ c4 = encM (kI .i64) (kI .i64) (y0.fSched.fLeft) ∧ (gEgressOutRun y0).isSome = true ∧ i0 ≠ i1 ∧ i0 ≠ i2 ∧ i0 ≠ i3 ∧ i0 ≠ i4 ∧ i1 ≠ i2 ∧ i1 ≠ i3 ∧ i1 ≠ i4 ∧ i2 ≠ i3 ∧ i2 ≠ i4 ∧ i3 ≠ i4 }) ((gEgressOutRun y0).getD dflt)) (EgressOut.dec c0 (decM dkI EgressFlow.dfl c1.data) (DrrSched.dec c2 (decM dkI dkI c3) (decM dkI dkI c4)))
    | _ => none)
    | _ => none)
    | _ => none)
    | _ => none)
    | _ => none)
    | _ => none)
    | _ => none)
    | _ => none)
    | _ => none
  | _, _ => none

set_option maxHeartbeats 1000000 in
theorem gEgressOutRun.ok : SpecOk Try.prog 24 gEgressOutRun.S := by
  intro l M out h
  unfold gEgressOutRun.S at h
  split at h
  · rename_i i0
    split at h
    case h_2 => cases h
    rename_i c0 hM0
    split at h
    case h_2 => cases h
    rename_i i1 he1
    split at h
    case h_2 => cases h
    rename_i c1 hM1
    split at h
    case h_2 => cases h
    rename_i i2 he2
    split at h
    case h_2 => cases h
    rename_i c2 hM2
    split at h
    case h_2 => cases h
    rename_i i3 he3
    split at h
    case h_2 => cases h
    rename_i c3 hM3
    split at h
    case h_2 => cases h
    rename_i i4 he4
    split at h
    case h_2 => cases h
    rename_i c4 hM4
    try dsimp only at h
    cases h
    refine callOk_of fun ho => ?_
    obtain ⟨oc0, oc1, oc2, oc3, oc4, hs, hne0, hne1, hne2, hne3, hne4, hne5, hne6, hne7, hne8, hne9⟩ := ho
    generalize (EgressOut.dec c0 (decM dkI EgressFlow.dfl c1.data) (DrrSched.dec c2 (decM dkI dkI c3) (decM dkI dkI c4))) = y0 at *
    subst oc0
    subst oc1
    subst oc2
    subst oc3
    subst oc4
    obtain ⟨r, hr⟩ := Option.isSome_iff_exists.1 hs
    simp only [hr, Option.getD_some]
    have q := call_frame (M := M) [i0, i1, i2, i3, i4] (gEgressOutRun.can y0 r hr) (by simp [hne0, hne1, hne2, hne3, hne4, hne5, hne6, hne7, hne8, hne9]) rfl (by intro k i hk; (cases k with | zero => (simp at hk; subst hk; simp [hM0, into]) | succ k => ((cases k with | zero => (simp at hk; subst hk; simp [hM1]) | succ k => ((cases k with | zero => (simp at hk; subst hk; simp [hM2, into]) | succ k => ((cases k with | zero => (simp at hk; subst hk; simp [hM3]) | succ k => ((cases k with | zero => (simp at hk; subst hk; simp [hM4]) | succ k => (simp at hk)))))))))))
    exact callOk_conv q trivial (by simp [into]) (by simp [frameOut, gEgressOutRun.out, into]) (by simp [frameOut, gEgressOutRun.out, into])
  · cases h

end Go.Proofs

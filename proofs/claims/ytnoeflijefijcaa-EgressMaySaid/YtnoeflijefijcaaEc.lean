/- That these functions compute what their plain functions do. No condition. -/
import Derived.Test.YtnoeflijefijcaaM04
import Derived.Test.YtnoeflijefijcaaTy
import Derived.Test.YtnoeflijefijcaaQu
namespace Go.Proofs
open Go.Ab
@[simp] def gEgressOutIds.out (_x0 : EgressOut) (_x1 : Bool) (r : List Int) : Out := { av := .sl (r.map (eNum .i64)) .no, M := none }
def gEgressOutIds.fin (x0 : EgressOut) (x1 : Bool) (r : List Int) (σ : St) : Prop := finK (gEgressOutIds.out x0 x1 r) [.blk (x0.fConfig.enc ++ [.mp 1, .ptr 2 0, .lit (.int .i64 x0.fCredit), .lit (.int .i64 x0.fSounds)]), .own (EgressFlow.own .i64 x0.fFlows none) none, .blk [.lit (.int .i64 x0.fSched.fMost), .mp 3, .mp 4, .lit (.int .i64 x0.fSched.fAt), .lit (.bool x0.fSched.fGranted)], .mapo (encM (kI .i64) (kI .i64) x0.fSched.fShare), .mapo (encM (kI .i64) (kI .i64) x0.fSched.fLeft)] σ.M (resA Try.ty σ.A σ.M Try.f61.results.toList)
set_option maxHeartbeats 4000000 in
set_option maxRecDepth 100000 in
theorem gEgressOutIds.can (x0 : EgressOut) (x1 : Bool) (r : List Int) (hr : gEgressOutIds x0 x1 = some r) : CallOk Try.prog 61 [.ptr 0 0, .lit (.bool x1)] [.blk (x0.fConfig.enc ++ [.mp 1, .ptr 2 0, .lit (.int .i64 x0.fCredit), .lit (.int .i64 x0.fSounds)]), .own (EgressFlow.own .i64 x0.fFlows none) none, .blk [.lit (.int .i64 x0.fSched.fMost), .mp 3, .mp 4, .lit (.int .i64 x0.fSched.fAt), .lit (.bool x0.fSched.fGranted)], .mapo (encM (kI .i64) (kI .i64) x0.fSched.fShare), .mapo (encM (kI .i64) (kI .i64) x0.fSched.fLeft)] (gEgressOutIds.out x0 x1 r) := by
  unfold gEgressOutIds at hr
  have hΓ := (gamL_cons gQueueQueueLen.ok (gamL_cons libKeys.gMapsKeysMapIntEgressFlowIntEgressFlow.ok (gamL_cons libSorted.gSortedMapIntEgressFlowIntEgressFlow1.ok (gamL_nil))) : GamOk Try.prog _)
  refine call_of_awp Try.tyOk Try.func61 rfl (by kernel_rfl) rfl rfl (by simp) ?_
  intro _ _ _
  refine AWp.then ⟨[⟨0, none, .ptr 0 0⟩, ⟨1, none, .lit (.bool x1)⟩], [.blk (x0.fConfig.enc ++ [.mp 1, .ptr 2 0, .lit (.int .i64 x0.fCredit), .lit (.int .i64 x0.fSounds)]), .own (EgressFlow.own .i64 x0.fFlows none) none, .blk [.lit (.int .i64 x0.fSched.fMost), .mp 3, .mp 4, .lit (.int .i64 x0.fSched.fAt), .lit (.bool x0.fSched.fGranted)], .mapo (encM (kI .i64) (kI .i64) x0.fSched.fShare), .mapo (encM (kI .i64) (kI .i64) x0.fSched.fLeft)]⟩ (AWp.reg Try.tyOk hΓ (keep := []) (dead := []) (by kernel_rfl) rfl (by simp)) ?_
  refine AWp.then ⟨[⟨5, none, .sl [] .full⟩, ⟨0, none, .ptr 0 0⟩, ⟨1, none, .lit (.bool x1)⟩], [.blk (x0.fConfig.enc ++ [.mp 1, .ptr 2 0, .lit (.int .i64 x0.fCredit), .lit (.int .i64 x0.fSounds)]), .own (EgressFlow.own .i64 x0.fFlows none) none, .blk [.lit (.int .i64 x0.fSched.fMost), .mp 3, .mp 4, .lit (.int .i64 x0.fSched.fAt), .lit (.bool x0.fSched.fGranted)], .mapo (encM (kI .i64) (kI .i64) x0.fSched.fShare), .mapo (encM (kI .i64) (kI .i64) x0.fSched.fLeft)]⟩ (AWp.reg Try.tyOk hΓ (keep := [5]) (dead := []) (by kernel_rfl) rfl (by simp)) ?_
  refine AWp.seq ?_
  obtain ⟨h9, hr⟩ := need_some hr
  refine AWp.then ⟨[⟨14, none, .sl ((sortL (keysM x0.fFlows)).map (eNum .i64)) .no⟩, ⟨15, none, .lit (.int .i64 (lenL (sortL (keysM x0.fFlows))))⟩, ⟨16, none, .lit (.int .i64 0)⟩, ⟨5, none, .sl [] .full⟩, ⟨0, none, .ptr 0 0⟩, ⟨1, none, .lit (.bool x1)⟩], [.blk (x0.fConfig.enc ++ [.mp 1, .ptr 2 0, .lit (.int .i64 x0.fCredit), .lit (.int .i64 x0.fSounds)]), .own (EgressFlow.own .i64 x0.fFlows none) none, .blk [.lit (.int .i64 x0.fSched.fMost), .mp 3, .mp 4, .lit (.int .i64 x0.fSched.fAt), .lit (.bool x0.fSched.fGranted)], .mapo (encM (kI .i64) (kI .i64) x0.fSched.fShare), .mapo (encM (kI .i64) (kI .i64) x0.fSched.fLeft)]⟩ (AWp.reg Try.tyOk hΓ (keep := [14, 15, 16]) (dead := []) (by kernel_rfl) rfl (by simp [h9])) ?_
  refine AWp.equip 5 1 (els := []) (by simp) (by simp) ?_
  refine AWp.loopE (fun (s1 : Int × List Int) (γ1 : Nat) => ⟨[⟨14, none, .sl ((sortL (keysM x0.fFlows)).map (eNum .i64)) .no⟩, ⟨15, none, .lit (.int .i64 (lenL (sortL (keysM x0.fFlows))))⟩, ⟨16, none, .lit (.int .i64 s1.1)⟩, ⟨5, none, .sl (s1.2.map (eNum .i64)) (.own 5 (γ1) 1)⟩, ⟨0, none, .ptr 0 0⟩, ⟨1, none, .lit (.bool x1)⟩], [.blk (x0.fConfig.enc ++ [.mp 1, .ptr 2 0, .lit (.int .i64 x0.fCredit), .lit (.int .i64 x0.fSounds)]), .own (EgressFlow.own .i64 x0.fFlows none) none, .blk [.lit (.int .i64 x0.fSched.fMost), .mp 3, .mp 4, .lit (.int .i64 x0.fSched.fAt), .lit (.bool x0.fSched.fGranted)], .mapo (encM (kI .i64) (kI .i64) x0.fSched.fShare), .mapo (encM (kI .i64) (kI .i64) x0.fSched.fLeft), .room (γ1)]⟩) (fun (v1 : List Int) (γ1a : Nat) => ⟨[⟨5, none, .sl (v1.map (eNum .i64)) (.own 5 (γ1a) 1)⟩], [.blk (x0.fConfig.enc ++ [.mp 1, .ptr 2 0, .lit (.int .i64 x0.fCredit), .lit (.int .i64 x0.fSounds)]), .own (EgressFlow.own .i64 x0.fFlows none) none, .blk [.lit (.int .i64 x0.fSched.fMost), .mp 3, .mp 4, .lit (.int .i64 x0.fSched.fAt), .lit (.bool x0.fSched.fGranted)], .mapo (encM (kI .i64) (kI .i64) x0.fSched.fShare), .mapo (encM (kI .i64) (kI .i64) x0.fSched.fLeft), .room (γ1a)]⟩) (gEgressOutIds.fin x0 x1) hr 0 6 (by simp) (fun s1 f γ1 hr => ?_) (fun v1 γ1a σ1 m1 hr hc => ?_) (fun _ h => h)
  · unfold gEgressOutIds.loop1 at hr
    refine AWp.then ⟨[⟨17, none, .lit (.bool (ltI s1.1 (lenL (sortL (keysM x0.fFlows)))))⟩, ⟨14, none, .sl ((sortL (keysM x0.fFlows)).map (eNum .i64)) .no⟩, ⟨15, none, .lit (.int .i64 (lenL (sortL (keysM x0.fFlows))))⟩, ⟨16, none, .lit (.int .i64 s1.1)⟩, ⟨5, none, .sl (s1.2.map (eNum .i64)) (.own 5 (γ1) 1)⟩, ⟨0, none, .ptr 0 0⟩, ⟨1, none, .lit (.bool x1)⟩], [.blk (x0.fConfig.enc ++ [.mp 1, .ptr 2 0, .lit (.int .i64 x0.fCredit), .lit (.int .i64 x0.fSounds)]), .own (EgressFlow.own .i64 x0.fFlows none) none, .blk [.lit (.int .i64 x0.fSched.fMost), .mp 3, .mp 4, .lit (.int .i64 x0.fSched.fAt), .lit (.bool x0.fSched.fGranted)], .mapo (encM (kI .i64) (kI .i64) x0.fSched.fShare), .mapo (encM (kI .i64) (kI .i64) x0.fSched.fLeft), .room (γ1)]⟩ (AWp.reg Try.tyOk hΓ (keep := [17]) (dead := []) (by kernel_rfl) rfl (by simp)) ?_
    refine AWp.seq ?_
    refine AWp.cond (b := (ltI s1.1 (lenL (sortL (keysM x0.fFlows))))) (by simp) (fun h10 => ?_) (fun h10 => ?_)
    · have hr := cond_t h10 hr
      refine AWp.skip ?_
      refine AWp.seq ?_
      refine AWp.block ?_
      obtain ⟨h11, hr⟩ := need_some hr
      refine AWp.then ⟨[⟨7, none, .lit (.int .i64 (nthI (sortL (keysM x0.fFlows)) s1.1))⟩, ⟨14, none, .sl ((sortL (keysM x0.fFlows)).map (eNum .i64)) .no⟩, ⟨15, none, .lit (.int .i64 (lenL (sortL (keysM x0.fFlows))))⟩, ⟨16, none, .lit (.int .i64 s1.1)⟩, ⟨5, none, .sl (s1.2.map (eNum .i64)) (.own 5 (γ1) 1)⟩, ⟨0, none, .ptr 0 0⟩, ⟨1, none, .lit (.bool x1)⟩], [.blk (x0.fConfig.enc ++ [.mp 1, .ptr 2 0, .lit (.int .i64 x0.fCredit), .lit (.int .i64 x0.fSounds)]), .own (EgressFlow.own .i64 x0.fFlows none) none, .blk [.lit (.int .i64 x0.fSched.fMost), .mp 3, .mp 4, .lit (.int .i64 x0.fSched.fAt), .lit (.bool x0.fSched.fGranted)], .mapo (encM (kI .i64) (kI .i64) x0.fSched.fShare), .mapo (encM (kI .i64) (kI .i64) x0.fSched.fLeft), .room (γ1)]⟩ (AWp.reg Try.tyOk hΓ (keep := [7]) (dead := [17]) (by kernel_rfl) rfl (by simp [h10, h11])) ?_
      cases h12 : findM eqI (nthI (sortL (keysM x0.fFlows)) s1.1) x0.fFlows with
      | none =>
        have hr := optC_n h12 hr
        refine AWp.see (See.missI (M' := [.blk (x0.fConfig.enc ++ [.mp 1, .ptr 2 0, .lit (.int .i64 x0.fCredit), .lit (.int .i64 x0.fSounds)]), .own (EgressFlow.own .i64 x0.fFlows none) (some (.int .i64 (nthI (sortL (keysM x0.fFlows)) s1.1), none)), .blk [.lit (.int .i64 x0.fSched.fMost), .mp 3, .mp 4, .lit (.int .i64 x0.fSched.fAt), .lit (.bool x0.fSched.fGranted)], .mapo (encM (kI .i64) (kI .i64) x0.fSched.fShare), .mapo (encM (kI .i64) (kI .i64) x0.fSched.fLeft), .room (γ1)]) 1 (nthI (sortL (keysM x0.fFlows)) s1.1) x0.fFlows h12 (by rfl) (by rfl)) ?_
        refine AWp.then ⟨[⟨8, none, .ptr 6 0⟩, ⟨7, none, .lit (.int .i64 (nthI (sortL (keysM x0.fFlows)) s1.1))⟩, ⟨14, none, .sl ((sortL (keysM x0.fFlows)).map (eNum .i64)) .no⟩, ⟨15, none, .lit (.int .i64 (lenL (sortL (keysM x0.fFlows))))⟩, ⟨16, none, .lit (.int .i64 s1.1)⟩, ⟨5, none, .sl (s1.2.map (eNum .i64)) (.own 5 (γ1) 1)⟩, ⟨0, none, .ptr 0 0⟩, ⟨1, none, .lit (.bool x1)⟩], [.blk (x0.fConfig.enc ++ [.mp 1, .ptr 2 0, .lit (.int .i64 x0.fCredit), .lit (.int .i64 x0.fSounds)]), .own (EgressFlow.own .i64 x0.fFlows none) (some (.int .i64 (nthI (sortL (keysM x0.fFlows)) s1.1), none)), .blk [.lit (.int .i64 x0.fSched.fMost), .mp 3, .mp 4, .lit (.int .i64 x0.fSched.fAt), .lit (.bool x0.fSched.fGranted)], .mapo (encM (kI .i64) (kI .i64) x0.fSched.fShare), .mapo (encM (kI .i64) (kI .i64) x0.fSched.fLeft), .room (γ1), .blk [.lit (.pointer none), .lit (.bool false)]]⟩ (AWp.reg Try.tyOk hΓ (keep := [8]) (dead := []) (by kernel_rfl) rfl (by simp)) ?_
        cases h13 : (eqB false x1) with
        | true =>
          have hr := cond_t h13 hr
          cases hr
        | false =>
          have hr := cond_f h13 hr
          refine AWp.then ⟨[⟨35, none, .lit (.bool false)⟩, ⟨7, none, .lit (.int .i64 (nthI (sortL (keysM x0.fFlows)) s1.1))⟩, ⟨14, none, .sl ((sortL (keysM x0.fFlows)).map (eNum .i64)) .no⟩, ⟨15, none, .lit (.int .i64 (lenL (sortL (keysM x0.fFlows))))⟩, ⟨16, none, .lit (.int .i64 s1.1)⟩, ⟨5, none, .sl (s1.2.map (eNum .i64)) (.own 5 (γ1) 1)⟩, ⟨0, none, .ptr 0 0⟩, ⟨1, none, .lit (.bool x1)⟩], [.blk (x0.fConfig.enc ++ [.mp 1, .ptr 2 0, .lit (.int .i64 x0.fCredit), .lit (.int .i64 x0.fSounds)]), .own (EgressFlow.own .i64 x0.fFlows none) (some (.int .i64 (nthI (sortL (keysM x0.fFlows)) s1.1), none)), .blk [.lit (.int .i64 x0.fSched.fMost), .mp 3, .mp 4, .lit (.int .i64 x0.fSched.fAt), .lit (.bool x0.fSched.fGranted)], .mapo (encM (kI .i64) (kI .i64) x0.fSched.fShare), .mapo (encM (kI .i64) (kI .i64) x0.fSched.fLeft), .room (γ1), .blk [.lit (.pointer none), .lit (.bool false)]]⟩ (AWp.regG Try.tyOk hΓ [(30, false)] (keep := [35]) (dead := [8]) (by kernel_rfl) rfl (by simp [h13])) ?_
          refine AWp.cond (b := false) (by simp) (fun hb => ?_) (fun hb => ?_)
          · cases hb
          · refine AWp.skip ?_
            refine AWp.lastE ⟨[⟨16, none, .lit (.int .i64 (addI .i64 s1.1 1))⟩, ⟨14, none, .sl ((sortL (keysM x0.fFlows)).map (eNum .i64)) .no⟩, ⟨15, none, .lit (.int .i64 (lenL (sortL (keysM x0.fFlows))))⟩, ⟨5, none, .sl (s1.2.map (eNum .i64)) (.own 5 (γ1) 1)⟩, ⟨0, none, .ptr 0 0⟩, ⟨1, none, .lit (.bool x1)⟩], [.blk (x0.fConfig.enc ++ [.mp 1, .ptr 2 0, .lit (.int .i64 x0.fCredit), .lit (.int .i64 x0.fSounds)]), .own (EgressFlow.own .i64 x0.fFlows none) (some (.int .i64 (nthI (sortL (keysM x0.fFlows)) s1.1), none)), .blk [.lit (.int .i64 x0.fSched.fMost), .mp 3, .mp 4, .lit (.int .i64 x0.fSched.fAt), .lit (.bool x0.fSched.fGranted)], .mapo (encM (kI .i64) (kI .i64) x0.fSched.fShare), .mapo (encM (kI .i64) (kI .i64) x0.fSched.fLeft), .room (γ1), .blk [.lit (.pointer none), .lit (.bool false)]]⟩ (AWp.reg Try.tyOk hΓ (keep := [16]) (dead := [35, 7]) (by kernel_rfl) rfl (by simp)) ?_
            refine Eps.see (See.shutM (M' := [.blk (x0.fConfig.enc ++ [.mp 1, .ptr 2 0, .lit (.int .i64 x0.fCredit), .lit (.int .i64 x0.fSounds)]), .own (EgressFlow.own .i64 x0.fFlows none) none, .blk [.lit (.int .i64 x0.fSched.fMost), .mp 3, .mp 4, .lit (.int .i64 x0.fSched.fAt), .lit (.bool x0.fSched.fGranted)], .mapo (encM (kI .i64) (kI .i64) x0.fSched.fShare), .mapo (encM (kI .i64) (kI .i64) x0.fSched.fLeft), .room (γ1), .blk [.lit (.pointer none), .lit (.bool false)]]) 1 (by rfl) (by rfl)) ?_
            refine Eps.done ?_
            obtain rfl := some_inj hr
            exact round_go (γ1) 6 (by first | (simp; done) | simp [h9, h10, h11, h13])
      | some z3 =>
        have hr := optC_s h12 hr
        refine AWp.see (See.openI (M' := [.blk (x0.fConfig.enc ++ [.mp 1, .ptr 2 0, .lit (.int .i64 x0.fCredit), .lit (.int .i64 x0.fSounds)]), .own (EgressFlow.own .i64 x0.fFlows (some (.int .i64 (nthI (sortL (keysM x0.fFlows)) s1.1)))) (some (.int .i64 (nthI (sortL (keysM x0.fFlows)) s1.1), some (.agg [.ptr 6 0, .lit (.bool z3.fVideo)]))), .blk [.lit (.int .i64 x0.fSched.fMost), .mp 3, .mp 4, .lit (.int .i64 x0.fSched.fAt), .lit (.bool x0.fSched.fGranted)], .mapo (encM (kI .i64) (kI .i64) x0.fSched.fShare), .mapo (encM (kI .i64) (kI .i64) x0.fSched.fLeft), .room (γ1), .blk z3.fQueue.enc]) 1 (nthI (sortL (keysM x0.fFlows)) s1.1) z3 x0.fFlows h12 (by rfl) (by simp)) ?_
        refine AWp.then ⟨[⟨8, none, .ptr 7 0⟩, ⟨7, none, .lit (.int .i64 (nthI (sortL (keysM x0.fFlows)) s1.1))⟩, ⟨14, none, .sl ((sortL (keysM x0.fFlows)).map (eNum .i64)) .no⟩, ⟨15, none, .lit (.int .i64 (lenL (sortL (keysM x0.fFlows))))⟩, ⟨16, none, .lit (.int .i64 s1.1)⟩, ⟨5, none, .sl (s1.2.map (eNum .i64)) (.own 5 (γ1) 1)⟩, ⟨0, none, .ptr 0 0⟩, ⟨1, none, .lit (.bool x1)⟩], [.blk (x0.fConfig.enc ++ [.mp 1, .ptr 2 0, .lit (.int .i64 x0.fCredit), .lit (.int .i64 x0.fSounds)]), .own (EgressFlow.own .i64 x0.fFlows (some (.int .i64 (nthI (sortL (keysM x0.fFlows)) s1.1)))) (some (.int .i64 (nthI (sortL (keysM x0.fFlows)) s1.1), some (.agg [.ptr 6 0, .lit (.bool z3.fVideo)]))), .blk [.lit (.int .i64 x0.fSched.fMost), .mp 3, .mp 4, .lit (.int .i64 x0.fSched.fAt), .lit (.bool x0.fSched.fGranted)], .mapo (encM (kI .i64) (kI .i64) x0.fSched.fShare), .mapo (encM (kI .i64) (kI .i64) x0.fSched.fLeft), .room (γ1), .blk z3.fQueue.enc, .blk [.ptr 6 0, .lit (.bool z3.fVideo)]]⟩ (AWp.reg Try.tyOk hΓ (keep := [8]) (dead := []) (by kernel_rfl) rfl (by simp)) ?_
        obtain ⟨h14, hr⟩ := need_some hr
        refine AWp.then ⟨[⟨35, none, .lit (.bool (pickB (eqB z3.fVideo x1) (ltI 0 ((gQueueQueueLen z3.fQueue).getD dflt)) false))⟩, ⟨7, none, .lit (.int .i64 (nthI (sortL (keysM x0.fFlows)) s1.1))⟩, ⟨14, none, .sl ((sortL (keysM x0.fFlows)).map (eNum .i64)) .no⟩, ⟨15, none, .lit (.int .i64 (lenL (sortL (keysM x0.fFlows))))⟩, ⟨16, none, .lit (.int .i64 s1.1)⟩, ⟨5, none, .sl (s1.2.map (eNum .i64)) (.own 5 (γ1) 1)⟩, ⟨0, none, .ptr 0 0⟩, ⟨1, none, .lit (.bool x1)⟩], [.blk (x0.fConfig.enc ++ [.mp 1, .ptr 2 0, .lit (.int .i64 x0.fCredit), .lit (.int .i64 x0.fSounds)]), .own (EgressFlow.own .i64 x0.fFlows (some (.int .i64 (nthI (sortL (keysM x0.fFlows)) s1.1)))) (some (.int .i64 (nthI (sortL (keysM x0.fFlows)) s1.1), some (.agg [.ptr 6 0, .lit (.bool z3.fVideo)]))), .blk [.lit (.int .i64 x0.fSched.fMost), .mp 3, .mp 4, .lit (.int .i64 x0.fSched.fAt), .lit (.bool x0.fSched.fGranted)], .mapo (encM (kI .i64) (kI .i64) x0.fSched.fShare), .mapo (encM (kI .i64) (kI .i64) x0.fSched.fLeft), .room (γ1), .blk z3.fQueue.enc, .blk [.ptr 6 0, .lit (.bool z3.fVideo)]]⟩ (AWp.reg Try.tyOk hΓ (keep := [35]) (dead := [8]) (by kernel_rfl) rfl (by simp [h14])) ?_
        refine AWp.cond (b := (pickB (eqB z3.fVideo x1) (ltI 0 ((gQueueQueueLen z3.fQueue).getD dflt)) false)) (by simp) (fun h15 => ?_) (fun h15 => ?_)
        · have hr := cond_t h15 hr
          obtain ⟨h16, hr⟩ := need_some hr
          refine AWp.last ⟨[⟨5, none, .sl ((appL s1.2 [(nthI (sortL (keysM x0.fFlows)) s1.1)]).map (eNum .i64)) (.own 5 (γ1 + 1) 1)⟩, ⟨14, none, .sl ((sortL (keysM x0.fFlows)).map (eNum .i64)) .no⟩, ⟨15, none, .lit (.int .i64 (lenL (sortL (keysM x0.fFlows))))⟩, ⟨16, none, .lit (.int .i64 s1.1)⟩, ⟨0, none, .ptr 0 0⟩, ⟨1, none, .lit (.bool x1)⟩], [.blk (x0.fConfig.enc ++ [.mp 1, .ptr 2 0, .lit (.int .i64 x0.fCredit), .lit (.int .i64 x0.fSounds)]), .own (EgressFlow.own .i64 x0.fFlows (some (.int .i64 (nthI (sortL (keysM x0.fFlows)) s1.1)))) (some (.int .i64 (nthI (sortL (keysM x0.fFlows)) s1.1), some (.agg [.ptr 6 0, .lit (.bool z3.fVideo)]))), .blk [.lit (.int .i64 x0.fSched.fMost), .mp 3, .mp 4, .lit (.int .i64 x0.fSched.fAt), .lit (.bool x0.fSched.fGranted)], .mapo (encM (kI .i64) (kI .i64) x0.fSched.fShare), .mapo (encM (kI .i64) (kI .i64) x0.fSched.fLeft), .room (γ1 + 1), .blk z3.fQueue.enc, .blk [.ptr 6 0, .lit (.bool z3.fVideo)]]⟩ (AWp.reg Try.tyOk hΓ (keep := [5]) (dead := [35, 7]) (by kernel_rfl) rfl (by simp [h15, h16])) ?_
          refine AWp.lastE ⟨[⟨16, none, .lit (.int .i64 (addI .i64 s1.1 1))⟩, ⟨5, none, .sl ((appL s1.2 [(nthI (sortL (keysM x0.fFlows)) s1.1)]).map (eNum .i64)) (.own 5 (γ1 + 1) 1)⟩, ⟨14, none, .sl ((sortL (keysM x0.fFlows)).map (eNum .i64)) .no⟩, ⟨15, none, .lit (.int .i64 (lenL (sortL (keysM x0.fFlows))))⟩, ⟨0, none, .ptr 0 0⟩, ⟨1, none, .lit (.bool x1)⟩], [.blk (x0.fConfig.enc ++ [.mp 1, .ptr 2 0, .lit (.int .i64 x0.fCredit), .lit (.int .i64 x0.fSounds)]), .own (EgressFlow.own .i64 x0.fFlows (some (.int .i64 (nthI (sortL (keysM x0.fFlows)) s1.1)))) (some (.int .i64 (nthI (sortL (keysM x0.fFlows)) s1.1), some (.agg [.ptr 6 0, .lit (.bool z3.fVideo)]))), .blk [.lit (.int .i64 x0.fSched.fMost), .mp 3, .mp 4, .lit (.int .i64 x0.fSched.fAt), .lit (.bool x0.fSched.fGranted)], .mapo (encM (kI .i64) (kI .i64) x0.fSched.fShare), .mapo (encM (kI .i64) (kI .i64) x0.fSched.fLeft), .room (γ1 + 1), .blk z3.fQueue.enc, .blk [.ptr 6 0, .lit (.bool z3.fVideo)]]⟩ (AWp.reg Try.tyOk hΓ (keep := [16]) (dead := []) (by kernel_rfl) rfl (by simp)) ?_
          refine Eps.see (See.closeS (M' := [.blk (x0.fConfig.enc ++ [.mp 1, .ptr 2 0, .lit (.int .i64 x0.fCredit), .lit (.int .i64 x0.fSounds)]), .own (EgressFlow.own .i64 x0.fFlows none) none, .blk [.lit (.int .i64 x0.fSched.fMost), .mp 3, .mp 4, .lit (.int .i64 x0.fSched.fAt), .lit (.bool x0.fSched.fGranted)], .mapo (encM (kI .i64) (kI .i64) x0.fSched.fShare), .mapo (encM (kI .i64) (kI .i64) x0.fSched.fLeft), .room (γ1 + 1), .dead, .blk [.ptr 6 0, .lit (.bool z3.fVideo)]]) 1 (nthI (sortL (keysM x0.fFlows)) s1.1) z3 x0.fFlows [6] h12 (by rfl) (by decide) (by simp) (by simp [into]) (by simp) (by rfl)) ?_
          refine Eps.done ?_
          obtain rfl := some_inj hr
          exact round_go (γ1 + 1) 6 (by first | (simp; done) | simp [h9, h10, h11, h14, h15, h16])
        · have hr := cond_f h15 hr
          refine AWp.skip ?_
          refine AWp.lastE ⟨[⟨16, none, .lit (.int .i64 (addI .i64 s1.1 1))⟩, ⟨14, none, .sl ((sortL (keysM x0.fFlows)).map (eNum .i64)) .no⟩, ⟨15, none, .lit (.int .i64 (lenL (sortL (keysM x0.fFlows))))⟩, ⟨5, none, .sl (s1.2.map (eNum .i64)) (.own 5 (γ1) 1)⟩, ⟨0, none, .ptr 0 0⟩, ⟨1, none, .lit (.bool x1)⟩], [.blk (x0.fConfig.enc ++ [.mp 1, .ptr 2 0, .lit (.int .i64 x0.fCredit), .lit (.int .i64 x0.fSounds)]), .own (EgressFlow.own .i64 x0.fFlows (some (.int .i64 (nthI (sortL (keysM x0.fFlows)) s1.1)))) (some (.int .i64 (nthI (sortL (keysM x0.fFlows)) s1.1), some (.agg [.ptr 6 0, .lit (.bool z3.fVideo)]))), .blk [.lit (.int .i64 x0.fSched.fMost), .mp 3, .mp 4, .lit (.int .i64 x0.fSched.fAt), .lit (.bool x0.fSched.fGranted)], .mapo (encM (kI .i64) (kI .i64) x0.fSched.fShare), .mapo (encM (kI .i64) (kI .i64) x0.fSched.fLeft), .room (γ1), .blk z3.fQueue.enc, .blk [.ptr 6 0, .lit (.bool z3.fVideo)]]⟩ (AWp.reg Try.tyOk hΓ (keep := [16]) (dead := [35, 7]) (by kernel_rfl) rfl (by simp [h15])) ?_
          refine Eps.see (See.closeS (M' := [.blk (x0.fConfig.enc ++ [.mp 1, .ptr 2 0, .lit (.int .i64 x0.fCredit), .lit (.int .i64 x0.fSounds)]), .own (EgressFlow.own .i64 x0.fFlows none) none, .blk [.lit (.int .i64 x0.fSched.fMost), .mp 3, .mp 4, .lit (.int .i64 x0.fSched.fAt), .lit (.bool x0.fSched.fGranted)], .mapo (encM (kI .i64) (kI .i64) x0.fSched.fShare), .mapo (encM (kI .i64) (kI .i64) x0.fSched.fLeft), .room (γ1), .dead, .blk [.ptr 6 0, .lit (.bool z3.fVideo)]]) 1 (nthI (sortL (keysM x0.fFlows)) s1.1) z3 x0.fFlows [6] h12 (by rfl) (by decide) (by simp) (by simp [into]) (by simp) (by rfl)) ?_
          refine Eps.done ?_
          obtain rfl := some_inj hr
          exact round_go (γ1) 6 (by first | (simp; done) | simp [h9, h10, h11, h14, h15])
    · have hr := cond_f h10 hr
      refine AWp.exit ?_
      obtain rfl := some_inj hr
      exact round_out (γ1) 6 (by first | (simp; done) | simp [h9, h10])
  · refine AWp.conv hc ?_
    refine AWp.then ⟨[⟨4, none, .sl (v1.map (eNum .i64)) (.own 5 (γ1a) 1)⟩], [.blk (x0.fConfig.enc ++ [.mp 1, .ptr 2 0, .lit (.int .i64 x0.fCredit), .lit (.int .i64 x0.fSounds)]), .own (EgressFlow.own .i64 x0.fFlows none) none, .blk [.lit (.int .i64 x0.fSched.fMost), .mp 3, .mp 4, .lit (.int .i64 x0.fSched.fAt), .lit (.bool x0.fSched.fGranted)], .mapo (encM (kI .i64) (kI .i64) x0.fSched.fShare), .mapo (encM (kI .i64) (kI .i64) x0.fSched.fLeft), .room (γ1a)]⟩ (AWp.reg Try.tyOk hΓ (keep := [4]) (dead := [5]) (by kernel_rfl) rfl (by simp)) ?_
    refine AWp.ret ?_
    obtain rfl := some_inj hr
    refine fin_ret ?_
    simp

@[simp] noncomputable def gEgressOutIds.S : Sp
  | [.ptr i0 0, .lit (.bool x1)], M => match M[i0]? with
    | some (.blk c0) => (match nthE c0 5 with
    | some (.mp i1) => (match M[i1]? with
    | some (.own c1 none) => (match nthE c0 6 with
    | some (.ptr i2 0) => (match M[i2]? with
    | some (.blk c2) => (match nthE c2 1 with
    | some (.mp i3) => (match M[i3]? with
    | some (.mapo c3) => (match nthE c2 2 with
    | some (.mp i4) => (match M[i4]? with
    | some (.mapo c4) => (fun (y0 : EgressOut) => some { av := .sl (((gEgressOutIds y0 x1).getD dflt).map (eNum .i64)) .no, M := none, obl := c0 = EgressOut.enc y0 i1 i2 ∧ c1 = EgressFlow.own .i64 (y0.fFlows) none ∧ c2 = DrrSched.enc (y0.fSched) i3 i4 ∧ c3 = encM (kI .i64) (kI .i64) (y0.fSched.fShare) ∧ c4 = encM (kI .i64) (kI .i64) (y0.fSched.fLeft) ∧ (gEgressOutIds y0 x1).isSome = true ∧ i0 ≠ i1 ∧ i0 ≠ i2 ∧ i0 ≠ i3 ∧ i0 ≠ i4 ∧ i1 ≠ i2 ∧ i1 ≠ i3 ∧ i1 ≠ i4 ∧ i2 ≠ i3 ∧ i2 ≠ i4 ∧ i3 ≠ i4 }) (EgressOut.dec c0 (decM dkI EgressFlow.dfl c1.data) (DrrSched.dec c2 (decM dkI dkI c3) (decM dkI dkI c4)))
    | _ => none)
    | _ => none)
    | _ => none)
    | _ => none)
    | _ => none)
    | _ => none)
    | _ => none)
    | _ => none)
    | _ => none
  | _, _ => none

set_option maxHeartbeats 1000000 in
theorem gEgressOutIds.ok : SpecOk Try.prog 61 gEgressOutIds.S := by
  intro l M out h
  unfold gEgressOutIds.S at h
  split at h
  · rename_i i0 x1
    split at h
    case h_2 => cases h
    rename_i c0 hM0
    split at h
    case h_2 => cases h
    rename_i i1 he1
    split at h
    case h_2 => cases h
    rename_i c1 hM1
    split at h
    case h_2 => cases h
    rename_i i2 he2
    split at h
    case h_2 => cases h
    rename_i c2 hM2
    split at h
    case h_2 => cases h
    rename_i i3 he3
    split at h
    case h_2 => cases h
    rename_i c3 hM3
    split at h
    case h_2 => cases h
    rename_i i4 he4
    split at h
    case h_2 => cases h
    rename_i c4 hM4
    try dsimp only at h
    cases h
    refine callOk_of fun ho => ?_
    obtain ⟨oc0, oc1, oc2, oc3, oc4, hs, hne0, hne1, hne2, hne3, hne4, hne5, hne6, hne7, hne8, hne9⟩ := ho
    generalize (EgressOut.dec c0 (decM dkI EgressFlow.dfl c1.data) (DrrSched.dec c2 (decM dkI dkI c3) (decM dkI dkI c4))) = y0 at *
    subst oc0
    subst oc1
    subst oc2
    subst oc3
    subst oc4
    obtain ⟨r, hr⟩ := Option.isSome_iff_exists.1 hs
    simp only [hr, Option.getD_some]
    have q := call_frame (M := M) [i0, i1, i2, i3, i4] (gEgressOutIds.can y0 x1 r hr) (by simp [hne0, hne1, hne2, hne3, hne4, hne5, hne6, hne7, hne8, hne9]) rfl (by intro k i hk; (cases k with | zero => (simp at hk; subst hk; simp [hM0, into]) | succ k => ((cases k with | zero => (simp at hk; subst hk; simp [hM1]) | succ k => ((cases k with | zero => (simp at hk; subst hk; simp [hM2, into]) | succ k => ((cases k with | zero => (simp at hk; subst hk; simp [hM3]) | succ k => ((cases k with | zero => (simp at hk; subst hk; simp [hM4]) | succ k => (simp at hk)))))))))))
    exact callOk_conv q trivial (by simp [into]) (by simp [frameOut, gEgressOutIds.out, into]) (by simp only [frameOut, gEgressOutIds.out, Option.getD_some, Option.getD_none]; simp [into, hM0, hM1, hM2, hM3, hM4, set_same])
  · cases h

@[simp] def gEgressOutSound1.out (_x0 : Int) (_x1 : Int) (_x2 : EgressOut) (r : Int) : Out := { av := .lit (.int .i64 r), M := none }
set_option maxHeartbeats 4000000 in
set_option maxRecDepth 100000 in
theorem gEgressOutSound1.can (x0 : Int) (x1 : Int) (x2 : EgressOut) (r : Int) (hr : gEgressOutSound1 x0 x1 x2 = some r) : CallOk Try.prog 76 [.lit (.int .i64 x0), .lit (.int .i64 x1), .ptr 0 0] [.blk [.ptr 1 0], .blk (x2.fConfig.enc ++ [.mp 2, .ptr 3 0, .lit (.int .i64 x2.fCredit), .lit (.int .i64 x2.fSounds)]), .own (EgressFlow.own .i64 x2.fFlows none) none, .blk [.lit (.int .i64 x2.fSched.fMost), .mp 4, .mp 5, .lit (.int .i64 x2.fSched.fAt), .lit (.bool x2.fSched.fGranted)], .mapo (encM (kI .i64) (kI .i64) x2.fSched.fShare), .mapo (encM (kI .i64) (kI .i64) x2.fSched.fLeft)] (gEgressOutSound1.out x0 x1 x2 r) := by
  unfold gEgressOutSound1 at hr
  have hΓ := (gamL_cons gQueueQueueFirst.ok (gamL_nil) : GamOk Try.prog _)
  refine call_of_awp Try.tyOk Try.func76 rfl (by kernel_rfl) rfl rfl (by simp) ?_
  intro _ _ _
  refine AWp.then ⟨[⟨0, none, .lit (.int .i64 x0)⟩, ⟨1, none, .lit (.int .i64 x1)⟩, ⟨2, none, .ptr 0 0⟩], [.blk [.ptr 1 0], .blk (x2.fConfig.enc ++ [.mp 2, .ptr 3 0, .lit (.int .i64 x2.fCredit), .lit (.int .i64 x2.fSounds)]), .own (EgressFlow.own .i64 x2.fFlows none) none, .blk [.lit (.int .i64 x2.fSched.fMost), .mp 4, .mp 5, .lit (.int .i64 x2.fSched.fAt), .lit (.bool x2.fSched.fGranted)], .mapo (encM (kI .i64) (kI .i64) x2.fSched.fShare), .mapo (encM (kI .i64) (kI .i64) x2.fSched.fLeft)]⟩ (AWp.reg Try.tyOk hΓ (keep := []) (dead := []) (by kernel_rfl) rfl (by simp)) ?_
  cases h5 : findM eqI x0 x2.fFlows with
  | none =>
    have hr := optC_n h5 hr
    refine AWp.see (See.missI (M' := [.blk [.ptr 1 0], .blk (x2.fConfig.enc ++ [.mp 2, .ptr 3 0, .lit (.int .i64 x2.fCredit), .lit (.int .i64 x2.fSounds)]), .own (EgressFlow.own .i64 x2.fFlows none) (some (.int .i64 x0, none)), .blk [.lit (.int .i64 x2.fSched.fMost), .mp 4, .mp 5, .lit (.int .i64 x2.fSched.fAt), .lit (.bool x2.fSched.fGranted)], .mapo (encM (kI .i64) (kI .i64) x2.fSched.fShare), .mapo (encM (kI .i64) (kI .i64) x2.fSched.fLeft)]) 2 x0 x2.fFlows h5 (by rfl) (by rfl)) ?_
    cases hr
  | some z1 =>
    have hr := optC_s h5 hr
    refine AWp.see (See.openI (M' := [.blk [.ptr 1 0], .blk (x2.fConfig.enc ++ [.mp 2, .ptr 3 0, .lit (.int .i64 x2.fCredit), .lit (.int .i64 x2.fSounds)]), .own (EgressFlow.own .i64 x2.fFlows (some (.int .i64 x0))) (some (.int .i64 x0, some (.agg [.ptr 6 0, .lit (.bool z1.fVideo)]))), .blk [.lit (.int .i64 x2.fSched.fMost), .mp 4, .mp 5, .lit (.int .i64 x2.fSched.fAt), .lit (.bool x2.fSched.fGranted)], .mapo (encM (kI .i64) (kI .i64) x2.fSched.fShare), .mapo (encM (kI .i64) (kI .i64) x2.fSched.fLeft), .blk z1.fQueue.enc]) 2 x0 z1 x2.fFlows h5 (by rfl) (by simp)) ?_
    obtain ⟨r1, h6, hr⟩ := bind_some' hr
    refine AWp.then ⟨[⟨6, none, .ptr 7 0⟩, ⟨1, none, .lit (.int .i64 x1)⟩, ⟨2, none, .ptr 0 0⟩], [.blk [.ptr 1 0], .blk (x2.fConfig.enc ++ [.mp 2, .ptr 3 0, .lit (.int .i64 x2.fCredit), .lit (.int .i64 x2.fSounds)]), .own (EgressFlow.own .i64 x2.fFlows (some (.int .i64 x0))) (some (.int .i64 x0, some (.agg [.ptr 6 0, .lit (.bool z1.fVideo)]))), .blk [.lit (.int .i64 x2.fSched.fMost), .mp 4, .mp 5, .lit (.int .i64 x2.fSched.fAt), .lit (.bool x2.fSched.fGranted)], .mapo (encM (kI .i64) (kI .i64) x2.fSched.fShare), .mapo (encM (kI .i64) (kI .i64) x2.fSched.fLeft), .blk z1.fQueue.enc, .blk r1.1.enc]⟩ (AWp.reg Try.tyOk hΓ (keep := [6]) (dead := [0]) (by kernel_rfl) rfl (by simp [h6])) ?_
    refine AWp.see (See.closeS (M' := [.blk [.ptr 1 0], .blk (x2.fConfig.enc ++ [.mp 2, .ptr 3 0, .lit (.int .i64 x2.fCredit), .lit (.int .i64 x2.fSounds)]), .own (EgressFlow.own .i64 x2.fFlows none) none, .blk [.lit (.int .i64 x2.fSched.fMost), .mp 4, .mp 5, .lit (.int .i64 x2.fSched.fAt), .lit (.bool x2.fSched.fGranted)], .mapo (encM (kI .i64) (kI .i64) x2.fSched.fShare), .mapo (encM (kI .i64) (kI .i64) x2.fSched.fLeft), .dead, .blk r1.1.enc]) 2 x0 z1 x2.fFlows [6] h5 (by rfl) (by decide) (by simp) (by simp [into]) (by simp) (by rfl)) ?_
    cases h7 : findM eqI x1 x2.fFlows with
    | none =>
      have hr := optC_n h7 hr
      refine AWp.see (See.missI (M' := [.blk [.ptr 1 0], .blk (x2.fConfig.enc ++ [.mp 2, .ptr 3 0, .lit (.int .i64 x2.fCredit), .lit (.int .i64 x2.fSounds)]), .own (EgressFlow.own .i64 x2.fFlows none) (some (.int .i64 x1, none)), .blk [.lit (.int .i64 x2.fSched.fMost), .mp 4, .mp 5, .lit (.int .i64 x2.fSched.fAt), .lit (.bool x2.fSched.fGranted)], .mapo (encM (kI .i64) (kI .i64) x2.fSched.fShare), .mapo (encM (kI .i64) (kI .i64) x2.fSched.fLeft), .dead, .blk r1.1.enc]) 2 x1 x2.fFlows h7 (by rfl) (by rfl)) ?_
      cases hr
    | some z2 =>
      have hr := optC_s h7 hr
      refine AWp.see (See.openI (M' := [.blk [.ptr 1 0], .blk (x2.fConfig.enc ++ [.mp 2, .ptr 3 0, .lit (.int .i64 x2.fCredit), .lit (.int .i64 x2.fSounds)]), .own (EgressFlow.own .i64 x2.fFlows (some (.int .i64 x1))) (some (.int .i64 x1, some (.agg [.ptr 8 0, .lit (.bool z2.fVideo)]))), .blk [.lit (.int .i64 x2.fSched.fMost), .mp 4, .mp 5, .lit (.int .i64 x2.fSched.fAt), .lit (.bool x2.fSched.fGranted)], .mapo (encM (kI .i64) (kI .i64) x2.fSched.fShare), .mapo (encM (kI .i64) (kI .i64) x2.fSched.fLeft), .dead, .blk r1.1.enc, .blk z2.fQueue.enc]) 2 x1 z2 x2.fFlows h7 (by rfl) (by simp)) ?_
      obtain ⟨r2, h8, hr⟩ := bind_some' hr
      refine AWp.then ⟨[⟨8, none, .ptr 9 0⟩, ⟨6, none, .ptr 7 0⟩], [.blk [.ptr 1 0], .blk (x2.fConfig.enc ++ [.mp 2, .ptr 3 0, .lit (.int .i64 x2.fCredit), .lit (.int .i64 x2.fSounds)]), .own (EgressFlow.own .i64 x2.fFlows (some (.int .i64 x1))) (some (.int .i64 x1, some (.agg [.ptr 8 0, .lit (.bool z2.fVideo)]))), .blk [.lit (.int .i64 x2.fSched.fMost), .mp 4, .mp 5, .lit (.int .i64 x2.fSched.fAt), .lit (.bool x2.fSched.fGranted)], .mapo (encM (kI .i64) (kI .i64) x2.fSched.fShare), .mapo (encM (kI .i64) (kI .i64) x2.fSched.fLeft), .dead, .blk r1.1.enc, .blk z2.fQueue.enc, .blk r2.1.enc]⟩ (AWp.reg Try.tyOk hΓ (keep := [8]) (dead := [1, 2]) (by kernel_rfl) rfl (by simp [h8])) ?_
      refine AWp.then ⟨[⟨5, none, .lit (.int .i64 (subI .i64 r1.1.fTick r2.1.fTick))⟩], [.blk [.ptr 1 0], .blk (x2.fConfig.enc ++ [.mp 2, .ptr 3 0, .lit (.int .i64 x2.fCredit), .lit (.int .i64 x2.fSounds)]), .own (EgressFlow.own .i64 x2.fFlows (some (.int .i64 x1))) (some (.int .i64 x1, some (.agg [.ptr 8 0, .lit (.bool z2.fVideo)]))), .blk [.lit (.int .i64 x2.fSched.fMost), .mp 4, .mp 5, .lit (.int .i64 x2.fSched.fAt), .lit (.bool x2.fSched.fGranted)], .mapo (encM (kI .i64) (kI .i64) x2.fSched.fShare), .mapo (encM (kI .i64) (kI .i64) x2.fSched.fLeft), .dead, .blk r1.1.enc, .blk z2.fQueue.enc, .blk r2.1.enc]⟩ (AWp.reg Try.tyOk hΓ (keep := [5]) (dead := [8, 6]) (by kernel_rfl) rfl (by simp)) ?_
      refine AWp.see (See.closeS (M' := [.blk [.ptr 1 0], .blk (x2.fConfig.enc ++ [.mp 2, .ptr 3 0, .lit (.int .i64 x2.fCredit), .lit (.int .i64 x2.fSounds)]), .own (EgressFlow.own .i64 x2.fFlows none) none, .blk [.lit (.int .i64 x2.fSched.fMost), .mp 4, .mp 5, .lit (.int .i64 x2.fSched.fAt), .lit (.bool x2.fSched.fGranted)], .mapo (encM (kI .i64) (kI .i64) x2.fSched.fShare), .mapo (encM (kI .i64) (kI .i64) x2.fSched.fLeft), .dead, .blk r1.1.enc, .dead, .blk r2.1.enc]) 2 x1 z2 x2.fFlows [8] h7 (by rfl) (by decide) (by simp) (by simp [into]) (by simp) (by rfl)) ?_
      refine AWp.ret ?_
      obtain rfl := some_inj hr
      refine fin_ret ?_
      simp

@[simp] noncomputable def gEgressOutSound1.S : Sp
  | [.lit (.int .i64 x0), .lit (.int .i64 x1), .ptr i0 0], M => match M[i0]? with
    | some (.blk c0) => (match nthE c0 0 with
    | some (.ptr i1 0) => (match M[i1]? with
    | some (.blk c1) => (match nthE c1 5 with
    | some (.mp i2) => (match M[i2]? with
    | some (.own c2 none) => (match nthE c1 6 with
    | some (.ptr i3 0) => (match M[i3]? with
    | some (.blk c3) => (match nthE c3 1 with
    | some (.mp i4) => (match M[i4]? with
    | some (.mapo c4) => (match nthE c3 2 with
    | some (.mp i5) => (match M[i5]? with
    | some (.mapo c5) => (fun (y0 : EgressOut) => some { av := .lit (.int .i64 ((gEgressOutSound1 x0 x1 y0).getD dflt)), M := none, obl := c0 = [.ptr i1 0] ∧ c1 = EgressOut.enc y0 i2 i3 ∧ c2 = EgressFlow.own .i64 (y0.fFlows) none ∧ c3 = DrrSched.enc (y0.fSched) i4 i5 ∧ c4 = encM (kI .i64) (kI .i64) (y0.fSched.fShare) ∧ c5 = encM (kI .i64) (kI .i64) (y0.fSched.fLeft) ∧ (gEgressOutSound1 x0 x1 y0).isSome = true ∧ i0 ≠ i1 ∧ i0 ≠ i2 ∧ i0 ≠ i3 ∧ i0 ≠ i4 ∧ i0 ≠ i5 ∧ i1 ≠ i2 ∧ i1 ≠ i3 ∧ i1 ≠ i4 ∧ i1 ≠ i5 ∧ i2 ≠ i3 ∧ i2 ≠ i4 ∧ i2 ≠ i5 ∧ i3 ≠ i4 ∧ i3 ≠ i5 ∧ i4 ≠ i5 }) (EgressOut.dec c1 (decM dkI EgressFlow.dfl c2.data) (DrrSched.dec c3 (decM dkI dkI c4) (decM dkI dkI c5)))
    | _ => none)
    | _ => none)
    | _ => none)
    | _ => none)
    | _ => none)
    | _ => none)
    | _ => none)
    | _ => none)
    | _ => none)
    | _ => none)
    | _ => none
  | _, _ => none

set_option maxHeartbeats 1000000 in
theorem gEgressOutSound1.ok : SpecOk Try.prog 76 gEgressOutSound1.S := by
  intro l M out h
  unfold gEgressOutSound1.S at h
  split at h
  · rename_i x0 x1 i0
    split at h
    case h_2 => cases h
    rename_i c0 hM0
    split at h
    case h_2 => cases h
    rename_i i1 he1
    split at h
    case h_2 => cases h
    rename_i c1 hM1
    split at h
    case h_2 => cases h
    rename_i i2 he2
    split at h
    case h_2 => cases h
    rename_i c2 hM2
    split at h
    case h_2 => cases h
    rename_i i3 he3
    split at h
    case h_2 => cases h
    rename_i c3 hM3
    split at h
    case h_2 => cases h
    rename_i i4 he4
    split at h
    case h_2 => cases h
    rename_i c4 hM4
    split at h
    case h_2 => cases h
    rename_i i5 he5
    split at h
    case h_2 => cases h
    rename_i c5 hM5
    try dsimp only at h
    cases h
    refine callOk_of fun ho => ?_
    obtain ⟨oc0, oc1, oc2, oc3, oc4, oc5, hs, hne0, hne1, hne2, hne3, hne4, hne5, hne6, hne7, hne8, hne9, hne10, hne11, hne12, hne13, hne14⟩ := ho
    generalize (EgressOut.dec c1 (decM dkI EgressFlow.dfl c2.data) (DrrSched.dec c3 (decM dkI dkI c4) (decM dkI dkI c5))) = y0 at *
    subst oc0
    subst oc1
    subst oc2
    subst oc3
    subst oc4
    subst oc5
    obtain ⟨r, hr⟩ := Option.isSome_iff_exists.1 hs
    simp only [hr, Option.getD_some]
    have q := call_frame (M := M) [i0, i1, i2, i3, i4, i5] (gEgressOutSound1.can x0 x1 y0 r hr) (by simp [hne0, hne1, hne2, hne3, hne4, hne5, hne6, hne7, hne8, hne9, hne10, hne11, hne12, hne13, hne14]) rfl (by intro k i hk; (cases k with | zero => (simp at hk; subst hk; simp [hM0, into]) | succ k => ((cases k with | zero => (simp at hk; subst hk; simp [hM1, into]) | succ k => ((cases k with | zero => (simp at hk; subst hk; simp [hM2]) | succ k => ((cases k with | zero => (simp at hk; subst hk; simp [hM3, into]) | succ k => ((cases k with | zero => (simp at hk; subst hk; simp [hM4]) | succ k => ((cases k with | zero => (simp at hk; subst hk; simp [hM5]) | succ k => (simp at hk)))))))))))))
    exact callOk_conv q trivial (by simp [into]) (by simp [frameOut, gEgressOutSound1.out, into]) (by simp only [frameOut, gEgressOutSound1.out, Option.getD_some, Option.getD_none]; simp [into, hM0, hM1, hM2, hM3, hM4, hM5, set_same])
  · cases h

@[simp] def gSlicesMinFuncIntIntAtEgressOutSound1.out (_x0 : List Int) (_x1c0 : EgressOut) (r : Int) : Out := { av := .lit (.int .i64 r), M := none }
def gSlicesMinFuncIntIntAtEgressOutSound1.fin (x0 : List Int) (x1c0 : EgressOut) (r : Int) (σ : St) : Prop := finK (gSlicesMinFuncIntIntAtEgressOutSound1.out x0 x1c0 r) [.blk [.ptr 1 0], .blk (x1c0.fConfig.enc ++ [.mp 2, .ptr 3 0, .lit (.int .i64 x1c0.fCredit), .lit (.int .i64 x1c0.fSounds)]), .own (EgressFlow.own .i64 x1c0.fFlows none) none, .blk [.lit (.int .i64 x1c0.fSched.fMost), .mp 4, .mp 5, .lit (.int .i64 x1c0.fSched.fAt), .lit (.bool x1c0.fSched.fGranted)], .mapo (encM (kI .i64) (kI .i64) x1c0.fSched.fShare), .mapo (encM (kI .i64) (kI .i64) x1c0.fSched.fLeft)] σ.M (resA Try.ty σ.A σ.M Try.f75.results.toList)
set_option maxHeartbeats 4000000 in
set_option maxRecDepth 100000 in
theorem gSlicesMinFuncIntIntAtEgressOutSound1.can (x0 : List Int) (x1c0 : EgressOut) (r : Int) (hr : gSlicesMinFuncIntIntAtEgressOutSound1 x0 x1c0 = some r) : CallOk Try.prog 75 [.sl (x0.map (eNum .i64)) .no, .clo 76 [.ptr 0 0]] [.blk [.ptr 1 0], .blk (x1c0.fConfig.enc ++ [.mp 2, .ptr 3 0, .lit (.int .i64 x1c0.fCredit), .lit (.int .i64 x1c0.fSounds)]), .own (EgressFlow.own .i64 x1c0.fFlows none) none, .blk [.lit (.int .i64 x1c0.fSched.fMost), .mp 4, .mp 5, .lit (.int .i64 x1c0.fSched.fAt), .lit (.bool x1c0.fSched.fGranted)], .mapo (encM (kI .i64) (kI .i64) x1c0.fSched.fShare), .mapo (encM (kI .i64) (kI .i64) x1c0.fSched.fLeft)] (gSlicesMinFuncIntIntAtEgressOutSound1.out x0 x1c0 r) := by
  unfold gSlicesMinFuncIntIntAtEgressOutSound1 at hr
  have hΓ := (gamL_cons gEgressOutSound1.ok (gamL_nil) : GamOk Try.prog _)
  refine call_of_awp Try.tyOk Try.func75 rfl (by kernel_rfl) rfl rfl (by simp) ?_
  intro _ _ _
  refine AWp.then ⟨[⟨0, none, .sl (x0.map (eNum .i64)) .no⟩, ⟨1, none, .clo 76 [.ptr 0 0]⟩], [.blk [.ptr 1 0], .blk (x1c0.fConfig.enc ++ [.mp 2, .ptr 3 0, .lit (.int .i64 x1c0.fCredit), .lit (.int .i64 x1c0.fSounds)]), .own (EgressFlow.own .i64 x1c0.fFlows none) none, .blk [.lit (.int .i64 x1c0.fSched.fMost), .mp 4, .mp 5, .lit (.int .i64 x1c0.fSched.fAt), .lit (.bool x1c0.fSched.fGranted)], .mapo (encM (kI .i64) (kI .i64) x1c0.fSched.fShare), .mapo (encM (kI .i64) (kI .i64) x1c0.fSched.fLeft)]⟩ (AWp.reg Try.tyOk hΓ (keep := []) (dead := []) (by kernel_rfl) rfl (by simp)) ?_
  refine AWp.meetF (fun (v1 : Unit) (γ1 : Unit) => ⟨[⟨0, none, .sl (x0.map (eNum .i64)) .no⟩, ⟨1, none, .clo 76 [.ptr 0 0]⟩], [.blk [.ptr 1 0], .blk (x1c0.fConfig.enc ++ [.mp 2, .ptr 3 0, .lit (.int .i64 x1c0.fCredit), .lit (.int .i64 x1c0.fSounds)]), .own (EgressFlow.own .i64 x1c0.fFlows none) none, .blk [.lit (.int .i64 x1c0.fSched.fMost), .mp 4, .mp 5, .lit (.int .i64 x1c0.fSched.fAt), .lit (.bool x1c0.fSched.fGranted)], .mapo (encM (kI .i64) (kI .i64) x1c0.fSched.fShare), .mapo (encM (kI .i64) (kI .i64) x1c0.fSched.fLeft)]⟩) (gSlicesMinFuncIntIntAtEgressOutSound1.fin x0 x1c0) hr (fun f hr => ?_) (fun v1 γ1 hr => ?_) (fun _ h => h)
  · refine AWp.then ⟨[⟨9, none, .lit (.bool (ltI (lenL x0) 1))⟩, ⟨0, none, .sl (x0.map (eNum .i64)) .no⟩, ⟨1, none, .clo 76 [.ptr 0 0]⟩], [.blk [.ptr 1 0], .blk (x1c0.fConfig.enc ++ [.mp 2, .ptr 3 0, .lit (.int .i64 x1c0.fCredit), .lit (.int .i64 x1c0.fSounds)]), .own (EgressFlow.own .i64 x1c0.fFlows none) none, .blk [.lit (.int .i64 x1c0.fSched.fMost), .mp 4, .mp 5, .lit (.int .i64 x1c0.fSched.fAt), .lit (.bool x1c0.fSched.fGranted)], .mapo (encM (kI .i64) (kI .i64) x1c0.fSched.fShare), .mapo (encM (kI .i64) (kI .i64) x1c0.fSched.fLeft)]⟩ (AWp.reg Try.tyOk hΓ (keep := [9]) (dead := []) (by kernel_rfl) rfl (by simp)) ?_
    refine AWp.cond (b := (ltI (lenL x0) 1)) (by simp) (fun h8 => ?_) (fun h8 => ?_)
    · have hr := cond_t h8 hr
      cases hr
    · have hr := cond_f h8 hr
      refine AWp.skip ?_
      obtain rfl := some_inj hr
      exact meet_go () 6 (by first | (simp; done) | simp [h8])
  · obtain ⟨h9, hr⟩ := need_some hr
    refine AWp.then ⟨[⟨5, none, .lit (.int .i64 (nthI x0 0))⟩, ⟨0, none, .sl (x0.map (eNum .i64)) .no⟩, ⟨1, none, .clo 76 [.ptr 0 0]⟩], [.blk [.ptr 1 0], .blk (x1c0.fConfig.enc ++ [.mp 2, .ptr 3 0, .lit (.int .i64 x1c0.fCredit), .lit (.int .i64 x1c0.fSounds)]), .own (EgressFlow.own .i64 x1c0.fFlows none) none, .blk [.lit (.int .i64 x1c0.fSched.fMost), .mp 4, .mp 5, .lit (.int .i64 x1c0.fSched.fAt), .lit (.bool x1c0.fSched.fGranted)], .mapo (encM (kI .i64) (kI .i64) x1c0.fSched.fShare), .mapo (encM (kI .i64) (kI .i64) x1c0.fSched.fLeft)]⟩ (AWp.reg Try.tyOk hΓ (keep := [5]) (dead := []) (by kernel_rfl) rfl (by simp [h9])) ?_
    refine AWp.seq ?_
    refine AWp.then ⟨[⟨6, none, .lit (.int .i64 1)⟩, ⟨5, none, .lit (.int .i64 (nthI x0 0))⟩, ⟨0, none, .sl (x0.map (eNum .i64)) .no⟩, ⟨1, none, .clo 76 [.ptr 0 0]⟩], [.blk [.ptr 1 0], .blk (x1c0.fConfig.enc ++ [.mp 2, .ptr 3 0, .lit (.int .i64 x1c0.fCredit), .lit (.int .i64 x1c0.fSounds)]), .own (EgressFlow.own .i64 x1c0.fFlows none) none, .blk [.lit (.int .i64 x1c0.fSched.fMost), .mp 4, .mp 5, .lit (.int .i64 x1c0.fSched.fAt), .lit (.bool x1c0.fSched.fGranted)], .mapo (encM (kI .i64) (kI .i64) x1c0.fSched.fShare), .mapo (encM (kI .i64) (kI .i64) x1c0.fSched.fLeft)]⟩ (AWp.reg Try.tyOk hΓ (keep := [6]) (dead := []) (by kernel_rfl) rfl (by simp)) ?_
    refine AWp.loopE (fun (s2 : Int × Int) (γ2 : Unit) => ⟨[⟨6, none, .lit (.int .i64 s2.1)⟩, ⟨5, none, .lit (.int .i64 s2.2)⟩, ⟨0, none, .sl (x0.map (eNum .i64)) .no⟩, ⟨1, none, .clo 76 [.ptr 0 0]⟩], [.blk [.ptr 1 0], .blk (x1c0.fConfig.enc ++ [.mp 2, .ptr 3 0, .lit (.int .i64 x1c0.fCredit), .lit (.int .i64 x1c0.fSounds)]), .own (EgressFlow.own .i64 x1c0.fFlows none) none, .blk [.lit (.int .i64 x1c0.fSched.fMost), .mp 4, .mp 5, .lit (.int .i64 x1c0.fSched.fAt), .lit (.bool x1c0.fSched.fGranted)], .mapo (encM (kI .i64) (kI .i64) x1c0.fSched.fShare), .mapo (encM (kI .i64) (kI .i64) x1c0.fSched.fLeft)]⟩) (fun (v2 : Int) (γ2a : Unit) => ⟨[⟨5, none, .lit (.int .i64 v2)⟩], [.blk [.ptr 1 0], .blk (x1c0.fConfig.enc ++ [.mp 2, .ptr 3 0, .lit (.int .i64 x1c0.fCredit), .lit (.int .i64 x1c0.fSounds)]), .own (EgressFlow.own .i64 x1c0.fFlows none) none, .blk [.lit (.int .i64 x1c0.fSched.fMost), .mp 4, .mp 5, .lit (.int .i64 x1c0.fSched.fAt), .lit (.bool x1c0.fSched.fGranted)], .mapo (encM (kI .i64) (kI .i64) x1c0.fSched.fShare), .mapo (encM (kI .i64) (kI .i64) x1c0.fSched.fLeft)]⟩) (gSlicesMinFuncIntIntAtEgressOutSound1.fin x0 x1c0) hr () 6 (by simp) (fun s2 f γ2 hr => ?_) (fun v2 γ2a σ1 m1 hr hc => ?_) (fun _ h => h)
    · unfold gSlicesMinFuncIntIntAtEgressOutSound1.loop2 at hr
      refine AWp.seq ?_
      refine AWp.then ⟨[⟨17, none, .lit (.bool (ltI s2.1 (lenL x0)))⟩, ⟨6, none, .lit (.int .i64 s2.1)⟩, ⟨5, none, .lit (.int .i64 s2.2)⟩, ⟨0, none, .sl (x0.map (eNum .i64)) .no⟩, ⟨1, none, .clo 76 [.ptr 0 0]⟩], [.blk [.ptr 1 0], .blk (x1c0.fConfig.enc ++ [.mp 2, .ptr 3 0, .lit (.int .i64 x1c0.fCredit), .lit (.int .i64 x1c0.fSounds)]), .own (EgressFlow.own .i64 x1c0.fFlows none) none, .blk [.lit (.int .i64 x1c0.fSched.fMost), .mp 4, .mp 5, .lit (.int .i64 x1c0.fSched.fAt), .lit (.bool x1c0.fSched.fGranted)], .mapo (encM (kI .i64) (kI .i64) x1c0.fSched.fShare), .mapo (encM (kI .i64) (kI .i64) x1c0.fSched.fLeft)]⟩ (AWp.reg Try.tyOk hΓ (keep := [17]) (dead := []) (by kernel_rfl) rfl (by simp)) ?_
      refine AWp.cond (b := (ltI s2.1 (lenL x0))) (by simp) (fun h10 => ?_) (fun h10 => ?_)
      · have hr := cond_t h10 hr
        refine AWp.skip ?_
        refine AWp.meetF (fun (v3 : Int) (γ3 : Unit) => ⟨[⟨6, none, .lit (.int .i64 s2.1)⟩, ⟨5, none, .lit (.int .i64 v3)⟩, ⟨0, none, .sl (x0.map (eNum .i64)) .no⟩, ⟨1, none, .clo 76 [.ptr 0 0]⟩], [.blk [.ptr 1 0], .blk (x1c0.fConfig.enc ++ [.mp 2, .ptr 3 0, .lit (.int .i64 x1c0.fCredit), .lit (.int .i64 x1c0.fSounds)]), .own (EgressFlow.own .i64 x1c0.fFlows none) none, .blk [.lit (.int .i64 x1c0.fSched.fMost), .mp 4, .mp 5, .lit (.int .i64 x1c0.fSched.fAt), .lit (.bool x1c0.fSched.fGranted)], .mapo (encM (kI .i64) (kI .i64) x1c0.fSched.fShare), .mapo (encM (kI .i64) (kI .i64) x1c0.fSched.fLeft)]⟩) (QRr (gSlicesMinFuncIntIntAtEgressOutSound1.fin x0 x1c0)) hr (fun f hr => ?_) (fun v3 γ3 hr => ?_) (fun _ h => QRr_ret h)
        · refine AWp.block ?_
          obtain ⟨h11, hr⟩ := need_some hr
          obtain ⟨r1, h12, hr⟩ := bind_some' hr
          refine AWp.then ⟨[⟨27, none, .lit (.bool (ltI r1 0))⟩, ⟨6, none, .lit (.int .i64 s2.1)⟩, ⟨5, none, .lit (.int .i64 s2.2)⟩, ⟨0, none, .sl (x0.map (eNum .i64)) .no⟩, ⟨1, none, .clo 76 [.ptr 0 0]⟩], [.blk [.ptr 1 0], .blk (x1c0.fConfig.enc ++ [.mp 2, .ptr 3 0, .lit (.int .i64 x1c0.fCredit), .lit (.int .i64 x1c0.fSounds)]), .own (EgressFlow.own .i64 x1c0.fFlows none) none, .blk [.lit (.int .i64 x1c0.fSched.fMost), .mp 4, .mp 5, .lit (.int .i64 x1c0.fSched.fAt), .lit (.bool x1c0.fSched.fGranted)], .mapo (encM (kI .i64) (kI .i64) x1c0.fSched.fShare), .mapo (encM (kI .i64) (kI .i64) x1c0.fSched.fLeft)]⟩ (AWp.reg Try.tyOk hΓ (keep := [27]) (dead := [17]) (by kernel_rfl) rfl (by simp [h10, h11, h12])) ?_
          refine AWp.cond (b := (ltI r1 0)) (by simp) (fun h13 => ?_) (fun h13 => ?_)
          · have hr := cond_t h13 hr
            obtain ⟨h14, hr⟩ := need_some hr
            refine AWp.last ⟨[⟨5, none, .lit (.int .i64 (nthI x0 s2.1))⟩, ⟨6, none, .lit (.int .i64 s2.1)⟩, ⟨0, none, .sl (x0.map (eNum .i64)) .no⟩, ⟨1, none, .clo 76 [.ptr 0 0]⟩], [.blk [.ptr 1 0], .blk (x1c0.fConfig.enc ++ [.mp 2, .ptr 3 0, .lit (.int .i64 x1c0.fCredit), .lit (.int .i64 x1c0.fSounds)]), .own (EgressFlow.own .i64 x1c0.fFlows none) none, .blk [.lit (.int .i64 x1c0.fSched.fMost), .mp 4, .mp 5, .lit (.int .i64 x1c0.fSched.fAt), .lit (.bool x1c0.fSched.fGranted)], .mapo (encM (kI .i64) (kI .i64) x1c0.fSched.fShare), .mapo (encM (kI .i64) (kI .i64) x1c0.fSched.fLeft)]⟩ (AWp.reg Try.tyOk hΓ (keep := [5]) (dead := [27]) (by kernel_rfl) rfl (by simp [h11, h13])) ?_
            obtain rfl := some_inj hr
            exact meet_go () 6 (by first | (simp; done) | simp [h9, h10, h11, h12, h13, h14])
          · have hr := cond_f h13 hr
            refine AWp.skip ?_
            obtain rfl := some_inj hr
            exact meet_go () 6 (by first | (simp; done) | simp [h9, h10, h11, h12, h13])
        · refine AWp.last ⟨[⟨6, none, .lit (.int .i64 (addI .i64 s2.1 1))⟩, ⟨5, none, .lit (.int .i64 v3)⟩, ⟨0, none, .sl (x0.map (eNum .i64)) .no⟩, ⟨1, none, .clo 76 [.ptr 0 0]⟩], [.blk [.ptr 1 0], .blk (x1c0.fConfig.enc ++ [.mp 2, .ptr 3 0, .lit (.int .i64 x1c0.fCredit), .lit (.int .i64 x1c0.fSounds)]), .own (EgressFlow.own .i64 x1c0.fFlows none) none, .blk [.lit (.int .i64 x1c0.fSched.fMost), .mp 4, .mp 5, .lit (.int .i64 x1c0.fSched.fAt), .lit (.bool x1c0.fSched.fGranted)], .mapo (encM (kI .i64) (kI .i64) x1c0.fSched.fShare), .mapo (encM (kI .i64) (kI .i64) x1c0.fSched.fLeft)]⟩ (AWp.reg Try.tyOk hΓ (keep := [6]) (dead := []) (by kernel_rfl) rfl (by simp)) ?_
          obtain rfl := some_inj hr
          exact round_go () 6 (by first | (simp; done) | simp [h9, h10])
      · have hr := cond_f h10 hr
        refine AWp.exit ?_
        obtain rfl := some_inj hr
        exact round_out () 6 (by first | (simp; done) | simp [h9, h10])
    · refine AWp.conv hc ?_
      refine AWp.then ⟨[⟨4, none, .lit (.int .i64 v2)⟩], [.blk [.ptr 1 0], .blk (x1c0.fConfig.enc ++ [.mp 2, .ptr 3 0, .lit (.int .i64 x1c0.fCredit), .lit (.int .i64 x1c0.fSounds)]), .own (EgressFlow.own .i64 x1c0.fFlows none) none, .blk [.lit (.int .i64 x1c0.fSched.fMost), .mp 4, .mp 5, .lit (.int .i64 x1c0.fSched.fAt), .lit (.bool x1c0.fSched.fGranted)], .mapo (encM (kI .i64) (kI .i64) x1c0.fSched.fShare), .mapo (encM (kI .i64) (kI .i64) x1c0.fSched.fLeft)]⟩ (AWp.reg Try.tyOk hΓ (keep := [4]) (dead := [5]) (by kernel_rfl) rfl (by simp)) ?_
      refine AWp.ret ?_
      obtain rfl := some_inj hr
      refine fin_ret ?_
      simp

@[simp] noncomputable def gSlicesMinFuncIntIntAtEgressOutSound1.S : Sp
  | [.sl e0 _, .clo 76 [.ptr i0 0]], M => match M[i0]? with
    | some (.blk c0) => (match nthE c0 0 with
    | some (.ptr i1 0) => (match M[i1]? with
    | some (.blk c1) => (match nthE c1 5 with
    | some (.mp i2) => (match M[i2]? with
    | some (.own c2 none) => (match nthE c1 6 with
    | some (.ptr i3 0) => (match M[i3]? with
    | some (.blk c3) => (match nthE c3 1 with
    | some (.mp i4) => (match M[i4]? with
    | some (.mapo c4) => (match nthE c3 2 with
    | some (.mp i5) => (match M[i5]? with
    | some (.mapo c5) => (fun (y0 : EgressOut) => some { av := .lit (.int .i64 ((gSlicesMinFuncIntIntAtEgressOutSound1 (e0.map decI) y0).getD dflt)), M := none, obl := e0 = (e0.map decI).map (eNum .i64) ∧ c0 = [.ptr i1 0] ∧ c1 = EgressOut.enc y0 i2 i3 ∧ c2 = EgressFlow.own .i64 (y0.fFlows) none ∧ c3 = DrrSched.enc (y0.fSched) i4 i5 ∧ c4 = encM (kI .i64) (kI .i64) (y0.fSched.fShare) ∧ c5 = encM (kI .i64) (kI .i64) (y0.fSched.fLeft) ∧ (gSlicesMinFuncIntIntAtEgressOutSound1 (e0.map decI) y0).isSome = true ∧ i0 ≠ i1 ∧ i0 ≠ i2 ∧ i0 ≠ i3 ∧ i0 ≠ i4 ∧ i0 ≠ i5 ∧ i1 ≠ i2 ∧ i1 ≠ i3 ∧ i1 ≠ i4 ∧ i1 ≠ i5 ∧ i2 ≠ i3 ∧ i2 ≠ i4 ∧ i2 ≠ i5 ∧ i3 ≠ i4 ∧ i3 ≠ i5 ∧ i4 ≠ i5 }) (EgressOut.dec c1 (decM dkI EgressFlow.dfl c2.data) (DrrSched.dec c3 (decM dkI dkI c4) (decM dkI dkI c5)))
    | _ => none)
    | _ => none)
    | _ => none)
    | _ => none)
    | _ => none)
    | _ => none)
    | _ => none)
    | _ => none)
    | _ => none)
    | _ => none)
    | _ => none
  | _, _ => none

set_option maxHeartbeats 1000000 in
theorem gSlicesMinFuncIntIntAtEgressOutSound1.ok : SpecOk Try.prog 75 gSlicesMinFuncIntIntAtEgressOutSound1.S := by
  intro l M out h
  unfold gSlicesMinFuncIntIntAtEgressOutSound1.S at h
  split at h
  · rename_i e0 k0 i0
    split at h
    case h_2 => cases h
    rename_i c0 hM0
    split at h
    case h_2 => cases h
    rename_i i1 he1
    split at h
    case h_2 => cases h
    rename_i c1 hM1
    split at h
    case h_2 => cases h
    rename_i i2 he2
    split at h
    case h_2 => cases h
    rename_i c2 hM2
    split at h
    case h_2 => cases h
    rename_i i3 he3
    split at h
    case h_2 => cases h
    rename_i c3 hM3
    split at h
    case h_2 => cases h
    rename_i i4 he4
    split at h
    case h_2 => cases h
    rename_i c4 hM4
    split at h
    case h_2 => cases h
    rename_i i5 he5
    split at h
    case h_2 => cases h
    rename_i c5 hM5
    try dsimp only at h
    cases h
    refine callOk_of fun ho => ?_
    obtain ⟨ox0, oc0, oc1, oc2, oc3, oc4, oc5, hs, hne0, hne1, hne2, hne3, hne4, hne5, hne6, hne7, hne8, hne9, hne10, hne11, hne12, hne13, hne14⟩ := ho
    generalize (e0.map decI) = x0 at *
    generalize (EgressOut.dec c1 (decM dkI EgressFlow.dfl c2.data) (DrrSched.dec c3 (decM dkI dkI c4) (decM dkI dkI c5))) = y0 at *
    subst ox0
    subst oc0
    subst oc1
    subst oc2
    subst oc3
    subst oc4
    subst oc5
    obtain ⟨r, hr⟩ := Option.isSome_iff_exists.1 hs
    simp only [hr, Option.getD_some]
    have q := call_frame (M := M) [i0, i1, i2, i3, i4, i5] (gSlicesMinFuncIntIntAtEgressOutSound1.can x0 y0 r hr) (by simp [hne0, hne1, hne2, hne3, hne4, hne5, hne6, hne7, hne8, hne9, hne10, hne11, hne12, hne13, hne14]) rfl (by intro k i hk; (cases k with | zero => (simp at hk; subst hk; simp [hM0, into]) | succ k => ((cases k with | zero => (simp at hk; subst hk; simp [hM1, into]) | succ k => ((cases k with | zero => (simp at hk; subst hk; simp [hM2]) | succ k => ((cases k with | zero => (simp at hk; subst hk; simp [hM3, into]) | succ k => ((cases k with | zero => (simp at hk; subst hk; simp [hM4]) | succ k => ((cases k with | zero => (simp at hk; subst hk; simp [hM5]) | succ k => (simp at hk)))))))))))))
    exact callOk_conv q trivial (by simp [into]) (by simp [frameOut, gSlicesMinFuncIntIntAtEgressOutSound1.out, into]) (by simp only [frameOut, gSlicesMinFuncIntIntAtEgressOutSound1.out, Option.getD_some, Option.getD_none]; simp [into, hM0, hM1, hM2, hM3, hM4, hM5, set_same])
  · cases h

@[simp] def gEgressOutSound.out (_x0 : EgressOut) (_x1 : List Int) (r : Int) : Out := { av := .lit (.int .i64 r), M := none }
set_option maxHeartbeats 4000000 in
set_option maxRecDepth 100000 in
theorem gEgressOutSound.can (x0 : EgressOut) (x1 : List Int) (r : Int) (hr : gEgressOutSound x0 x1 = some r) : CallOk Try.prog 62 [.ptr 0 0, .sl (x1.map (eNum .i64)) .no] [.blk (x0.fConfig.enc ++ [.mp 1, .ptr 2 0, .lit (.int .i64 x0.fCredit), .lit (.int .i64 x0.fSounds)]), .own (EgressFlow.own .i64 x0.fFlows none) none, .blk [.lit (.int .i64 x0.fSched.fMost), .mp 3, .mp 4, .lit (.int .i64 x0.fSched.fAt), .lit (.bool x0.fSched.fGranted)], .mapo (encM (kI .i64) (kI .i64) x0.fSched.fShare), .mapo (encM (kI .i64) (kI .i64) x0.fSched.fLeft)] (gEgressOutSound.out x0 x1 r) := by
  unfold gEgressOutSound at hr
  have hΓ := (gamL_cons gSlicesMinFuncIntIntAtEgressOutSound1.ok (gamL_nil) : GamOk Try.prog _)
  refine call_of_awp Try.tyOk Try.func62 rfl (by kernel_rfl) rfl rfl (by simp) ?_
  intro _ _ _
  refine AWp.then ⟨[⟨2, none, .ptr 5 0⟩, ⟨1, none, .sl (x1.map (eNum .i64)) .no⟩], [.blk (x0.fConfig.enc ++ [.mp 1, .ptr 2 0, .lit (.int .i64 x0.fCredit), .lit (.int .i64 x0.fSounds)]), .own (EgressFlow.own .i64 x0.fFlows none) none, .blk [.lit (.int .i64 x0.fSched.fMost), .mp 3, .mp 4, .lit (.int .i64 x0.fSched.fAt), .lit (.bool x0.fSched.fGranted)], .mapo (encM (kI .i64) (kI .i64) x0.fSched.fShare), .mapo (encM (kI .i64) (kI .i64) x0.fSched.fLeft), .blk [.ptr 0 0]]⟩ (AWp.reg Try.tyOk hΓ (keep := [2]) (dead := [0]) (by kernel_rfl) rfl (by simp)) ?_
  obtain ⟨r1, h2, hr⟩ := bind_some' hr
  refine AWp.then ⟨[⟨4, none, .lit (.int .i64 r1)⟩], [.blk (x0.fConfig.enc ++ [.mp 1, .ptr 2 0, .lit (.int .i64 x0.fCredit), .lit (.int .i64 x0.fSounds)]), .own (EgressFlow.own .i64 x0.fFlows none) none, .blk [.lit (.int .i64 x0.fSched.fMost), .mp 3, .mp 4, .lit (.int .i64 x0.fSched.fAt), .lit (.bool x0.fSched.fGranted)], .mapo (encM (kI .i64) (kI .i64) x0.fSched.fShare), .mapo (encM (kI .i64) (kI .i64) x0.fSched.fLeft), .blk [.ptr 0 0]]⟩ (AWp.reg Try.tyOk hΓ (keep := [4]) (dead := [2, 1]) (by kernel_rfl) rfl (by simp [h2])) ?_
  refine AWp.ret ?_
  obtain rfl := some_inj hr
  refine fin_ret ?_
  simp

@[simp] noncomputable def gEgressOutSound.S : Sp
  | [.ptr i0 0, .sl e1 _], M => match M[i0]? with
    | some (.blk c0) => (match nthE c0 5 with
    | some (.mp i1) => (match M[i1]? with
    | some (.own c1 none) => (match nthE c0 6 with
    | some (.ptr i2 0) => (match M[i2]? with
    | some (.blk c2) => (match nthE c2 1 with
    | some (.mp i3) => (match M[i3]? with
    | some (.mapo c3) => (match nthE c2 2 with
    | some (.mp i4) => (match M[i4]? with
    | some (.mapo c4) => (fun (y0 : EgressOut) => some { av := .lit (.int .i64 ((gEgressOutSound y0 (e1.map decI)).getD dflt)), M := none, obl := e1 = (e1.map decI).map (eNum .i64) ∧ c0 = EgressOut.enc y0 i1 i2 ∧ c1 = EgressFlow.own .i64 (y0.fFlows) none ∧ c2 = DrrSched.enc (y0.fSched) i3 i4 ∧ c3 = encM (kI .i64) (kI .i64) (y0.fSched.fShare) ∧ c4 = encM (kI .i64) (kI .i64) (y0.fSched.fLeft) ∧ (gEgressOutSound y0 (e1.map decI)).isSome = true ∧ i0 ≠ i1 ∧ i0 ≠ i2 ∧ i0 ≠ i3 ∧ i0 ≠ i4 ∧ i1 ≠ i2 ∧ i1 ≠ i3 ∧ i1 ≠ i4 ∧ i2 ≠ i3 ∧ i2 ≠ i4 ∧ i3 ≠ i4 }) (EgressOut.dec c0 (decM dkI EgressFlow.dfl c1.data) (DrrSched.dec c2 (decM dkI dkI c3) (decM dkI dkI c4)))
    | _ => none)
    | _ => none)
    | _ => none)
    | _ => none)
    | _ => none)
    | _ => none)
    | _ => none)
    | _ => none)
    | _ => none
  | _, _ => none

set_option maxHeartbeats 1000000 in
theorem gEgressOutSound.ok : SpecOk Try.prog 62 gEgressOutSound.S := by
  intro l M out h
  unfold gEgressOutSound.S at h
  split at h
  · rename_i i0 e1 k1
    split at h
    case h_2 => cases h
    rename_i c0 hM0
    split at h
    case h_2 => cases h
    rename_i i1 he1
    split at h
    case h_2 => cases h
    rename_i c1 hM1
    split at h
    case h_2 => cases h
    rename_i i2 he2
    split at h
    case h_2 => cases h
    rename_i c2 hM2
    split at h
    case h_2 => cases h
    rename_i i3 he3
    split at h
    case h_2 => cases h
    rename_i c3 hM3
    split at h
    case h_2 => cases h
    rename_i i4 he4
    split at h
    case h_2 => cases h
    rename_i c4 hM4
    try dsimp only at h
    cases h
    refine callOk_of fun ho => ?_
    obtain ⟨ox1, oc0, oc1, oc2, oc3, oc4, hs, hne0, hne1, hne2, hne3, hne4, hne5, hne6, hne7, hne8, hne9⟩ := ho
    generalize (EgressOut.dec c0 (decM dkI EgressFlow.dfl c1.data) (DrrSched.dec c2 (decM dkI dkI c3) (decM dkI dkI c4))) = y0 at *
    generalize (e1.map decI) = x1 at *
    subst ox1
    subst oc0
    subst oc1
    subst oc2
    subst oc3
    subst oc4
    obtain ⟨r, hr⟩ := Option.isSome_iff_exists.1 hs
    simp only [hr, Option.getD_some]
    have q := call_frame (M := M) [i0, i1, i2, i3, i4] (gEgressOutSound.can y0 x1 r hr) (by simp [hne0, hne1, hne2, hne3, hne4, hne5, hne6, hne7, hne8, hne9]) rfl (by intro k i hk; (cases k with | zero => (simp at hk; subst hk; simp [hM0, into]) | succ k => ((cases k with | zero => (simp at hk; subst hk; simp [hM1]) | succ k => ((cases k with | zero => (simp at hk; subst hk; simp [hM2, into]) | succ k => ((cases k with | zero => (simp at hk; subst hk; simp [hM3]) | succ k => ((cases k with | zero => (simp at hk; subst hk; simp [hM4]) | succ k => (simp at hk)))))))))))
    exact callOk_conv q trivial (by simp [into]) (by simp [frameOut, gEgressOutSound.out, into]) (by simp only [frameOut, gEgressOutSound.out, Option.getD_some, Option.getD_none]; simp [into, hM0, hM1, hM2, hM3, hM4, set_same])
  · cases h
end Go.Proofs

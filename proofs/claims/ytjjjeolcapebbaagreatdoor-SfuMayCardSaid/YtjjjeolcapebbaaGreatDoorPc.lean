/- That these functions compute what their plain functions do. No condition. -/
import Derived.Test.YtjjjeolcapebbaaGreatDoorM02
import Derived.Test.YtjjjeolcapebbaaGreatDoorTy
import Derived.Test.YtjjjeolcapebbaaGreatDoorPb
namespace Go.Proofs
open Go.Ab
@[simp] def gLaw26Config.out  (r : SfuConfig) : Out := { av := .agg [.lit (.int .i64 r.fIngress.fOrder.fMost), .lit (.int .i64 r.fIngress.fOrder.fWait), .lit (.bool r.fIngress.fFrame.fVideo), .lit (.int .i64 r.fIngress.fFrame.fBytes), .lit (.int .i64 r.fIngress.fFrame.fUnits), .lit (.int .i64 r.fIngress.fFrame.fWait), .lit (.int .i64 r.fEgress.fFrames), .lit (.int .i64 r.fEgress.fBytes), .lit (.int .i64 r.fEgress.fAge), .lit (.int .i64 r.fEgress.fMost), .lit (.int .i64 r.fEgress.fGuard), .lit (.int .i64 r.fPli.fFirst), .lit (.int .i64 r.fPli.fMost), .lit (.int .i64 r.fStall.fAfter), .lit (.int .i64 r.fStall.fRest), .lit (.int .i64 r.fLadder.fDown), .lit (.int .i64 r.fLadder.fUp), .lit (.int .i64 r.fLadder.fSpare), .sl (r.fNeeds.map (eNum .i64)) .no, .lit (.int .i64 r.fWindow), .lit (.int .i64 r.fRing), .lit (.int .i64 r.fAgain), .lit (.int .i64 r.fGap), .lit (.int .i64 r.fShare), .lit (.int .i64 r.fReports)], M := none }
set_option maxHeartbeats 4000000 in
set_option maxRecDepth 100000 in
theorem gLaw26Config.can  (r : SfuConfig) (hr : gLaw26Config = some r) : CallOk Tryz.prog 4 [] [] (gLaw26Config.out  r) := by
  unfold gLaw26Config at hr
  have hΓ := gamL_nil (P := Tryz.prog)
  refine cw Tryz.func4 rfl (by kernel_rfl) rfl rfl (by simp) fun _ _ _ => ?_
  refine tq hΓ [0] [] ?_
  refine tq hΓ [] [] ?_ (by simp (config := { maxSteps := 10000000 }); exact rr)
  obtain rfl := some_inj hr
  exact AWp.ret (fin_ret (by simp))

@[simp] noncomputable def gLaw26Config.S : Sp
  | [], _ => (fun (r : SfuConfig) => some { av := .agg [.lit (.int .i64 (r.fIngress.fOrder.fMost)), .lit (.int .i64 (r.fIngress.fOrder.fWait)), .lit (.bool (r.fIngress.fFrame.fVideo)), .lit (.int .i64 (r.fIngress.fFrame.fBytes)), .lit (.int .i64 (r.fIngress.fFrame.fUnits)), .lit (.int .i64 (r.fIngress.fFrame.fWait)), .lit (.int .i64 (r.fEgress.fFrames)), .lit (.int .i64 (r.fEgress.fBytes)), .lit (.int .i64 (r.fEgress.fAge)), .lit (.int .i64 (r.fEgress.fMost)), .lit (.int .i64 (r.fEgress.fGuard)), .lit (.int .i64 (r.fPli.fFirst)), .lit (.int .i64 (r.fPli.fMost)), .lit (.int .i64 (r.fStall.fAfter)), .lit (.int .i64 (r.fStall.fRest)), .lit (.int .i64 (r.fLadder.fDown)), .lit (.int .i64 (r.fLadder.fUp)), .lit (.int .i64 (r.fLadder.fSpare)), .sl ((r.fNeeds).map (eNum .i64)) .no, .lit (.int .i64 (r.fWindow)), .lit (.int .i64 (r.fRing)), .lit (.int .i64 (r.fAgain)), .lit (.int .i64 (r.fGap)), .lit (.int .i64 (r.fShare)), .lit (.int .i64 (r.fReports))], M := none, obl := gLaw26Config.isSome = true }) (gLaw26Config.getD dflt)
  | _, _ => none

set_option maxHeartbeats 1000000 in
theorem gLaw26Config.ok : SpecOk Tryz.prog 4 gLaw26Config.S := by
  intro l M out h
  unfold gLaw26Config.S at h
  split at h
  · try dsimp only at h
    cases h
    refine callOk_of fun ho => ?_
    have hs := ho
    obtain ⟨r, hr⟩ := so1 hs
    simp only [hr, gd1]
    have q := call_frame (M := M) [] (gLaw26Config.can r hr) (by simp) rfl ixn
    exact callOk_conv q trivial (by simp) (by simp [frameOut]) (by simp [frameOut])
  · cases h

@[simp] def gLaw26SfuMay.out (_x0 : List Int) (_x1 : Int) (_x2 : Int) (_x3 : Int) (_x4 : Int) (r : Bool) : Out := { av := .lit (.bool r), M := none }
def gLaw26SfuMay.fin (x0 : List Int) (x1 : Int) (x2 : Int) (x3 : Int) (x4 : Int) (r : Bool) (σ : St) : Prop := finK (gLaw26SfuMay.out x0 x1 x2 x3 x4 r) [] σ.M (resA Tryz.ty σ.A σ.M Tryz.f3.results.toList)
set_option maxHeartbeats 4000000 in
set_option maxRecDepth 100000 in
theorem gLaw26SfuMay.can (x0 : List Int) (x1 : Int) (x2 : Int) (x3 : Int) (x4 : Int) (r : Bool) (hr : gLaw26SfuMay x0 x1 x2 x3 x4 = some r) : CallOk Tryz.prog 3 [.sl (x0.map (eNum .i64)) .no, .lit (.int .i64 x1), .lit (.int .i64 x2), .lit (.int .i64 x3), .lit (.int .i64 x4)] [] (gLaw26SfuMay.out x0 x1 x2 x3 x4 r) := by
  unfold gLaw26SfuMay at hr
  have hΓ := (gamL_cons gSfuConfigCheck.ok (gamL_cons gLaw26Config.ok (gamL_cons gLaw26Awake.ok (gamL_cons gSfuNew.ok (gamL_nil)))) : GamOk Tryz.prog _)
  refine cw Tryz.func3 rfl (by kernel_rfl) rfl rfl (by simp) fun _ _ _ => ?_
  refine tq hΓ [] [] ?_
  obtain ⟨r1, h14, hr⟩ := bind_some' hr
  refine tq hΓ [11] [] ?_ (by simp [h14]; exact rr)
  refine AWp.meetF (fun (v1 : List Int) (γ1 : Unit) => ⟨[⟨11, none, .ptr 0 0⟩, ⟨0, none, .sl (v1.map (eNum .i64)) .no⟩, ⟨1, none, .lit (.int .i64 x1)⟩, ⟨2, none, .lit (.int .i64 x2)⟩, ⟨3, none, .lit (.int .i64 x3)⟩, ⟨4, none, .lit (.int .i64 x4)⟩], [.blk ([.lit (.int .i64 r1.fIngress.fOrder.fMost), .lit (.int .i64 r1.fIngress.fOrder.fWait)] ++ r1.fIngress.fFrame.enc ++ r1.fEgress.enc ++ r1.fPli.enc ++ r1.fStall.enc ++ r1.fLadder.enc ++ [.sl (r1.fNeeds.map (eNum .i64)) .no, .lit (.int .i64 r1.fWindow), .lit (.int .i64 r1.fRing), .lit (.int .i64 r1.fAgain), .lit (.int .i64 r1.fGap), .lit (.int .i64 r1.fShare), .lit (.int .i64 r1.fReports)])]⟩) (gLaw26SfuMay.fin x0 x1 x2 x3 x4) hr (fun f hr => ?_) (fun v1 γ1 hr => ?_) (fun _ h => h)
  · refine tq hΓ [20] [] ?_ (by simp; exact rr)
    refine AWp.cnd hr (by simp) (fun h15 hr => ?_) (fun h15 hr => ?_)
    · obtain ⟨h16, hr⟩ := need_some hr
      refine tl hΓ [0] [20] ?_ (by simp [h15, h16]; exact rr)
      obtain rfl := some_inj hr
      exact meet_go () 1 (by first | (simp; done) | simp [h14, h15, h16])
    · refine AWp.skip ?_
      obtain rfl := some_inj hr
      exact meet_go () 1 (by first | (simp; done) | simp [h14, h15])
  · refine tq hΓ [] [] ?_ (by simp; exact rr)
    refine tq hΓ [12] [1, 2, 3, 4] ?_ (by simp; exact rr)
    refine AWp.seq ?_
    refine tq hΓ [71, 72, 73] [] ?_ (by simp; exact rr)
    refine AWp.loopE (fun (s2 : Int × Bool) (γ2 : Unit) => ⟨[⟨71, none, .sl (v1.map (eNum .i64)) .no⟩, ⟨72, none, .lit (.int .i64 (lenL v1))⟩, ⟨73, none, .lit (.int .i64 s2.1)⟩, ⟨12, none, .lit (.bool s2.2)⟩, ⟨11, none, .ptr 0 0⟩, ⟨0, none, .sl (v1.map (eNum .i64)) .no⟩], [.blk ([.lit (.int .i64 r1.fIngress.fOrder.fMost), .lit (.int .i64 r1.fIngress.fOrder.fWait)] ++ r1.fIngress.fFrame.enc ++ r1.fEgress.enc ++ r1.fPli.enc ++ r1.fStall.enc ++ r1.fLadder.enc ++ [.sl (v1.map (eNum .i64)) .no, .lit (.int .i64 x1), .lit (.int .i64 x2), .lit (.int .i64 r1.fAgain), .lit (.int .i64 r1.fGap), .lit (.int .i64 x3), .lit (.int .i64 x4)])]⟩) (fun (v2 : Bool) (γ2a : Unit) => ⟨[⟨12, none, .lit (.bool v2)⟩, ⟨11, none, .ptr 0 0⟩], [.blk ([.lit (.int .i64 r1.fIngress.fOrder.fMost), .lit (.int .i64 r1.fIngress.fOrder.fWait)] ++ r1.fIngress.fFrame.enc ++ r1.fEgress.enc ++ r1.fPli.enc ++ r1.fStall.enc ++ r1.fLadder.enc ++ [.sl (v1.map (eNum .i64)) .no, .lit (.int .i64 x1), .lit (.int .i64 x2), .lit (.int .i64 r1.fAgain), .lit (.int .i64 r1.fGap), .lit (.int .i64 x3), .lit (.int .i64 x4)])]⟩) (gLaw26SfuMay.fin x0 x1 x2 x3 x4) hr () 1 (by simp) (fun s2 f γ2 hr => ?_) (fun v2 γ2a σ1 m1 hr hc => ?_) (fun _ h => h)
    · unfold gLaw26SfuMay.loop2 at hr
      refine tq hΓ [74] [] ?_ (by simp; exact rr)
      refine AWp.seq ?_
      refine AWp.cnd hr (by simp) (fun h17 hr => ?_) (fun h17 hr => ?_)
      · refine AWp.skip ?_
        refine AWp.seq ?_
        refine AWp.block ?_
        obtain ⟨h18, hr⟩ := need_some hr
        refine tq hΓ [13, 14] [74] ?_ (by simp [h17, h18]; exact rr)
        obtain ⟨h19, hr⟩ := need_some hr
        refine tq hΓ [96] [13, 14] ?_ (by simp [h19]; exact rr)
        refine AWp.cnd hr (by simp) (fun h20 hr => ?_) (fun h20 hr => ?_)
        · refine tl hΓ [12] [96] ?_ (by simp [h20]; exact rr)
          refine tl hΓ [73] [] ?_ (by simp; exact rr)
          obtain rfl := some_inj hr
          exact round_go () 1 (by first | (simp; done) | simp [h14, h17, h18, h19, h20])
        · refine AWp.skip ?_
          refine tl hΓ [73] [96] ?_ (by simp [h20]; exact rr)
          obtain rfl := some_inj hr
          exact round_go () 1 (by first | (simp; done) | simp [h14, h17, h18, h19, h20])
      · refine AWp.exit ?_
        obtain rfl := some_inj hr
        exact round_out () 1 (by first | (simp; done) | simp [h14, h17])
    · refine AWp.conv hc ?_
      obtain ⟨r2, h21, hr⟩ := bind_some' hr
      cases h22 : r2.1 with
      | none =>
        have hr := optC_n h22 hr
        refine tq hΓ [15, 16] [] ?_ (by simp [h21, h22]; exact rr)
        obtain ⟨r3, h23, hr⟩ := bind_some' hr
        obtain ⟨h24, hr⟩ := need_some hr
        refine tq hΓ [10] [15, 16, 12, 11] ?_ (by simp [h23, h24]; exact rr)
        obtain rfl := some_inj hr
        exact AWp.ret (fin_ret (by simp))
      | some o1 =>
        have hr := optC_s h22 hr
        refine tq hΓ [15, 16] [] ?_ (by simp [h21, h22]; exact rr)
        obtain ⟨r3, h25, hr⟩ := bind_some' hr
        obtain ⟨h26, hr⟩ := need_some hr
        refine tq hΓ [10] [15, 16, 12, 11] ?_ (by simp [h25, h26]; exact rr)
        obtain rfl := some_inj hr
        exact AWp.ret (fin_ret (by simp))

end Go.Proofs

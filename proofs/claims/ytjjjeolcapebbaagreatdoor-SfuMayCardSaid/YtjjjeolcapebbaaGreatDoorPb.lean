/- That these functions compute what their plain functions do. No condition. -/
import Derived.Test.YtjjjeolcapebbaaGreatDoorM11
import Derived.Test.YtjjjeolcapebbaaGreatDoorTy
import Derived.Test.YtjjjeolcapebbaaGreatDoorPa
import Derived.Test.YtjjjeolcapebbaaGreatDoorM05
namespace Go.Proofs
open Go.Ab
@[simp] def gSfuConfigCheck.out (_x0 : SfuConfig) (r : Int) : Out := { av := .lit (.int .i64 r), M := none }
def gSfuConfigCheck.fin (x0 : SfuConfig) (r : Int) (σ : St) : Prop := finK (gSfuConfigCheck.out x0 r) [] σ.M (resA Tryz.ty σ.A σ.M Tryz.f7.results.toList)
set_option maxHeartbeats 4000000 in
set_option maxRecDepth 100000 in
theorem gSfuConfigCheck.can (x0 : SfuConfig) (r : Int) (hr : gSfuConfigCheck x0 = some r) : CallOk Tryz.prog 7 [.agg [.lit (.int .i64 x0.fIngress.fOrder.fMost), .lit (.int .i64 x0.fIngress.fOrder.fWait), .lit (.bool x0.fIngress.fFrame.fVideo), .lit (.int .i64 x0.fIngress.fFrame.fBytes), .lit (.int .i64 x0.fIngress.fFrame.fUnits), .lit (.int .i64 x0.fIngress.fFrame.fWait), .lit (.int .i64 x0.fEgress.fFrames), .lit (.int .i64 x0.fEgress.fBytes), .lit (.int .i64 x0.fEgress.fAge), .lit (.int .i64 x0.fEgress.fMost), .lit (.int .i64 x0.fEgress.fGuard), .lit (.int .i64 x0.fPli.fFirst), .lit (.int .i64 x0.fPli.fMost), .lit (.int .i64 x0.fStall.fAfter), .lit (.int .i64 x0.fStall.fRest), .lit (.int .i64 x0.fLadder.fDown), .lit (.int .i64 x0.fLadder.fUp), .lit (.int .i64 x0.fLadder.fSpare), .sl (x0.fNeeds.map (eNum .i64)) .no, .lit (.int .i64 x0.fWindow), .lit (.int .i64 x0.fRing), .lit (.int .i64 x0.fAgain), .lit (.int .i64 x0.fGap), .lit (.int .i64 x0.fShare), .lit (.int .i64 x0.fReports)]] [] (gSfuConfigCheck.out x0 r) := by
  unfold gSfuConfigCheck at hr
  have hΓ := (gamL_cons gEgressConfigCheck.ok (gamL_cons gIngressConfigCheck.ok (gamL_cons gLadderConfigCheck.ok (gamL_cons gPliConfigCheck.ok (gamL_cons gStallConfigCheck.ok (gamL_cons gLadderNew.ok (gamL_cons gRateNew.ok (gamL_cons gRingNew.ok (gamL_nil)))))))) : GamOk Tryz.prog _)
  refine cw Tryz.func7 rfl (by kernel_rfl) rfl rfl (by simp) fun _ _ _ => ?_
  refine tq hΓ [1] [0] ?_
  refine AWp.seq ?_
  obtain ⟨r1, h45, hr⟩ := bind_some' hr
  obtain ⟨r2, h46, hr⟩ := bind_some' hr
  obtain ⟨r3, h47, hr⟩ := bind_some' hr
  obtain ⟨r4, h48, hr⟩ := bind_some' hr
  obtain ⟨r5, h49, hr⟩ := bind_some' hr
  refine td hΓ [26, 27, 28] [] [] [(false, []), (false, []), (false, []), (false, []), (false, []), (false, []), (false, []), (false, []), (false, []), (false, []), (false, []), (false, []), (false, []), (false, []), (false, []), (false, []), (false, []), (false, [])] (by simp [h45, h46, h47, h48, h49]; exact rr) ?_
  refine AWp.loopE (fun (s1 : Int) (γ1 : Unit) => ⟨[⟨26, none, .sl ([r1, r2, r3, r4, r5].map (eNum .i64)) .full⟩, ⟨27, none, .lit (.int .i64 5)⟩, ⟨28, none, .lit (.int .i64 s1)⟩, ⟨1, none, .ptr 0 0⟩], [.blk ([.lit (.int .i64 x0.fIngress.fOrder.fMost), .lit (.int .i64 x0.fIngress.fOrder.fWait)] ++ x0.fIngress.fFrame.enc ++ x0.fEgress.enc ++ x0.fPli.enc ++ x0.fStall.enc ++ x0.fLadder.enc ++ [.sl (x0.fNeeds.map (eNum .i64)) .no, .lit (.int .i64 x0.fWindow), .lit (.int .i64 x0.fRing), .lit (.int .i64 x0.fAgain), .lit (.int .i64 x0.fGap), .lit (.int .i64 x0.fShare), .lit (.int .i64 x0.fReports)])]⟩) (fun (v1 : Unit) (γ1a : Unit) => ⟨[⟨1, none, .ptr 0 0⟩], [.blk ([.lit (.int .i64 x0.fIngress.fOrder.fMost), .lit (.int .i64 x0.fIngress.fOrder.fWait)] ++ x0.fIngress.fFrame.enc ++ x0.fEgress.enc ++ x0.fPli.enc ++ x0.fStall.enc ++ x0.fLadder.enc ++ [.sl (x0.fNeeds.map (eNum .i64)) .no, .lit (.int .i64 x0.fWindow), .lit (.int .i64 x0.fRing), .lit (.int .i64 x0.fAgain), .lit (.int .i64 x0.fGap), .lit (.int .i64 x0.fShare), .lit (.int .i64 x0.fReports)])]⟩) (gSfuConfigCheck.fin x0) hr () 1 (by simp) (fun s1 f γ1 hr => ?_) (fun v1 γ1a σ1 m1 hr hc => ?_) (fun _ h => h)
  · unfold gSfuConfigCheck.loop1 at hr
    refine tq hΓ [29] [] ?_ (by simp; exact rr)
    refine AWp.seq ?_
    refine AWp.cnd hr (by simp) (fun h50 hr => ?_) (fun h50 hr => ?_)
    · refine AWp.skip ?_
      refine AWp.seq ?_
      refine AWp.block ?_
      obtain ⟨h51, hr⟩ := need_some hr
      refine tq hΓ [4] [29] ?_ (by simp [h50, h51]; exact rr)
      refine tq hΓ [33] [] ?_ (by simp; exact rr)
      refine AWp.cnd hr (by simp) (fun h52 hr => ?_) (fun h52 hr => ?_)
      · refine tq hΓ [2] [33, 4, 26, 27, 28, 1] ?_ (by simp [h52]; exact rr)
        refine AWp.ret ?_
        obtain rfl := some_inj hr
        refine round_ret ?_
        refine fin_ret ?_
        simp
      · refine AWp.skip ?_
        refine tl hΓ [28] [33, 4] ?_ (by simp [h52]; exact rr)
        obtain rfl := some_inj hr
        exact round_go () 1 (by first | (simp; done) | simp [h45, h46, h47, h48, h49, h50, h51, h52])
    · refine AWp.exit ?_
      obtain rfl := some_inj hr
      exact round_out () 1 (by first | (simp; done) | simp [h45, h46, h47, h48, h49, h50])
  · refine AWp.conv hc ?_
    refine AWp.seq ?_
    obtain ⟨r6, h53, hr⟩ := bind_some' hr
    cases h54 : r6.1 with
    | none =>
      have hr := optC_n h54 hr
      refine tq hΓ [6] [] ?_ (by simp [h53, h54]; exact rr)
      refine tq hΓ [51] [6] ?_ (by simp; exact rr)
      refine AWp.cnd hr (by simp) (fun h55 hr => ?_) (fun h55 hr => ?_)
      · refine tq hΓ [2] [51, 1] ?_ (by simp [h55]; exact rr)
        obtain rfl := some_inj hr
        exact AWp.ret (fin_ret (by simp))
      · refine AWp.skip ?_
        refine AWp.seq ?_
        obtain ⟨r7, h56, hr⟩ := bind_some' hr
        cases h57 : r7.1 with
        | none =>
          have hr := optC_n h57 hr
          refine tq hΓ [8] [51] ?_ (by simp [h55, h56, h57]; exact rr)
          refine tq hΓ [59] [] ?_ (by simp; exact rr)
          refine AWp.cnd hr (by simp) (fun h58 hr => ?_) (fun h58 hr => ?_)
          · refine tq hΓ [2] [59, 8, 1] ?_ (by simp [h58]; exact rr)
            obtain rfl := some_inj hr
            exact AWp.ret (fin_ret (by simp))
          · refine AWp.skip ?_
            refine AWp.seq ?_
            obtain ⟨r8, h59, hr⟩ := bind_some' hr
            cases h60 : r8.1 with
            | none =>
              have hr := optC_n h60 hr
              refine tq hΓ [10] [59, 8] ?_ (by simp [h58, h59, h60]; exact rr)
              refine tq hΓ [72] [] ?_ (by simp; exact rr)
              refine AWp.cnd hr (by simp) (fun h61 hr => ?_) (fun h61 hr => ?_)
              · refine tq hΓ [2] [72, 10, 1] ?_ (by simp [h61]; exact rr)
                obtain rfl := some_inj hr
                exact AWp.ret (fin_ret (by simp))
              · refine AWp.skip ?_
                refine AWp.seq ?_
                refine tq hΓ [94] [72, 10, 1] ?_ (by simp [h61]; exact rr)
                refine AWp.cnd hr (by simp) (fun h62 hr => ?_) (fun h62 hr => ?_)
                · refine tq hΓ [2] [94] ?_ (by simp [h62]; exact rr)
                  obtain rfl := some_inj hr
                  exact AWp.ret (fin_ret (by simp))
                · refine AWp.skip ?_
                  refine tq hΓ [2] [94] ?_ (by simp [h62]; exact rr)
                  obtain rfl := some_inj hr
                  exact AWp.ret (fin_ret (by simp))
            | some o3 =>
              have hr := optC_s h60 hr
              refine tq hΓ [10] [59, 8] ?_ (by simp [h58, h59, h60]; exact rr)
              refine tq hΓ [72] [] ?_ (by simp; exact rr)
              refine AWp.cnd hr (by simp) (fun h63 hr => ?_) (fun h63 hr => ?_)
              · refine tq hΓ [2] [72, 10, 1] ?_ (by simp [h63]; exact rr)
                obtain rfl := some_inj hr
                exact AWp.ret (fin_ret (by simp))
              · refine AWp.skip ?_
                refine AWp.seq ?_
                refine tq hΓ [94] [72, 10, 1] ?_ (by simp [h63]; exact rr)
                refine AWp.cnd hr (by simp) (fun h64 hr => ?_) (fun h64 hr => ?_)
                · refine tq hΓ [2] [94] ?_ (by simp [h64]; exact rr)
                  obtain rfl := some_inj hr
                  exact AWp.ret (fin_ret (by simp))
                · refine AWp.skip ?_
                  refine tq hΓ [2] [94] ?_ (by simp [h64]; exact rr)
                  obtain rfl := some_inj hr
                  exact AWp.ret (fin_ret (by simp))
        | some o2 =>
          have hr := optC_s h57 hr
          refine tq hΓ [8] [51] ?_ (by simp [h55, h56, h57]; exact rr)
          refine tq hΓ [59] [] ?_ (by simp; exact rr)
          refine AWp.cnd hr (by simp) (fun h65 hr => ?_) (fun h65 hr => ?_)
          · refine tq hΓ [2] [59, 8, 1] ?_ (by simp [h65]; exact rr)
            obtain rfl := some_inj hr
            exact AWp.ret (fin_ret (by simp))
          · refine AWp.skip ?_
            refine AWp.seq ?_
            obtain ⟨r8, h66, hr⟩ := bind_some' hr
            cases h67 : r8.1 with
            | none =>
              have hr := optC_n h67 hr
              refine tq hΓ [10] [59, 8] ?_ (by simp [h65, h66, h67]; exact rr)
              refine tq hΓ [72] [] ?_ (by simp; exact rr)
              refine AWp.cnd hr (by simp) (fun h68 hr => ?_) (fun h68 hr => ?_)
              · refine tq hΓ [2] [72, 10, 1] ?_ (by simp [h68]; exact rr)
                obtain rfl := some_inj hr
                exact AWp.ret (fin_ret (by simp))
              · refine AWp.skip ?_
                refine AWp.seq ?_
                refine tq hΓ [94] [72, 10, 1] ?_ (by simp [h68]; exact rr)
                refine AWp.cnd hr (by simp) (fun h69 hr => ?_) (fun h69 hr => ?_)
                · refine tq hΓ [2] [94] ?_ (by simp [h69]; exact rr)
                  obtain rfl := some_inj hr
                  exact AWp.ret (fin_ret (by simp))
                · refine AWp.skip ?_
                  refine tq hΓ [2] [94] ?_ (by simp [h69]; exact rr)
                  obtain rfl := some_inj hr
                  exact AWp.ret (fin_ret (by simp))
            | some o3 =>
              have hr := optC_s h67 hr
              refine tq hΓ [10] [59, 8] ?_ (by simp [h65, h66, h67]; exact rr)
              refine tq hΓ [72] [] ?_ (by simp; exact rr)
              refine AWp.cnd hr (by simp) (fun h70 hr => ?_) (fun h70 hr => ?_)
              · refine tq hΓ [2] [72, 10, 1] ?_ (by simp [h70]; exact rr)
                obtain rfl := some_inj hr
                exact AWp.ret (fin_ret (by simp))
              · refine AWp.skip ?_
                refine AWp.seq ?_
                refine tq hΓ [94] [72, 10, 1] ?_ (by simp [h70]; exact rr)
                refine AWp.cnd hr (by simp) (fun h71 hr => ?_) (fun h71 hr => ?_)
                · refine tq hΓ [2] [94] ?_ (by simp [h71]; exact rr)
                  obtain rfl := some_inj hr
                  exact AWp.ret (fin_ret (by simp))
                · refine AWp.skip ?_
                  refine tq hΓ [2] [94] ?_ (by simp [h71]; exact rr)
                  obtain rfl := some_inj hr
                  exact AWp.ret (fin_ret (by simp))
    | some o1 =>
      have hr := optC_s h54 hr
      refine tq hΓ [6] [] ?_ (by simp [h53, h54]; exact rr)
      refine tq hΓ [51] [6] ?_ (by simp; exact rr)
      refine AWp.cnd hr (by simp) (fun h72 hr => ?_) (fun h72 hr => ?_)
      · refine tq hΓ [2] [51, 1] ?_ (by simp [h72]; exact rr)
        obtain rfl := some_inj hr
        exact AWp.ret (fin_ret (by simp))
      · refine AWp.skip ?_
        refine AWp.seq ?_
        obtain ⟨r7, h73, hr⟩ := bind_some' hr
        cases h74 : r7.1 with
        | none =>
          have hr := optC_n h74 hr
          refine tq hΓ [8] [51] ?_ (by simp [h72, h73, h74]; exact rr)
          refine tq hΓ [59] [] ?_ (by simp; exact rr)
          refine AWp.cnd hr (by simp) (fun h75 hr => ?_) (fun h75 hr => ?_)
          · refine tq hΓ [2] [59, 8, 1] ?_ (by simp [h75]; exact rr)
            obtain rfl := some_inj hr
            exact AWp.ret (fin_ret (by simp))
          · refine AWp.skip ?_
            refine AWp.seq ?_
            obtain ⟨r8, h76, hr⟩ := bind_some' hr
            cases h77 : r8.1 with
            | none =>
              have hr := optC_n h77 hr
              refine tq hΓ [10] [59, 8] ?_ (by simp [h75, h76, h77]; exact rr)
              refine tq hΓ [72] [] ?_ (by simp; exact rr)
              refine AWp.cnd hr (by simp) (fun h78 hr => ?_) (fun h78 hr => ?_)
              · refine tq hΓ [2] [72, 10, 1] ?_ (by simp [h78]; exact rr)
                obtain rfl := some_inj hr
                exact AWp.ret (fin_ret (by simp))
              · refine AWp.skip ?_
                refine AWp.seq ?_
                refine tq hΓ [94] [72, 10, 1] ?_ (by simp [h78]; exact rr)
                refine AWp.cnd hr (by simp) (fun h79 hr => ?_) (fun h79 hr => ?_)
                · refine tq hΓ [2] [94] ?_ (by simp [h79]; exact rr)
                  obtain rfl := some_inj hr
                  exact AWp.ret (fin_ret (by simp))
                · refine AWp.skip ?_
                  refine tq hΓ [2] [94] ?_ (by simp [h79]; exact rr)
                  obtain rfl := some_inj hr
                  exact AWp.ret (fin_ret (by simp))
            | some o3 =>
              have hr := optC_s h77 hr
              refine tq hΓ [10] [59, 8] ?_ (by simp [h75, h76, h77]; exact rr)
              refine tq hΓ [72] [] ?_ (by simp; exact rr)
              refine AWp.cnd hr (by simp) (fun h80 hr => ?_) (fun h80 hr => ?_)
              · refine tq hΓ [2] [72, 10, 1] ?_ (by simp [h80]; exact rr)
                obtain rfl := some_inj hr
                exact AWp.ret (fin_ret (by simp))
              · refine AWp.skip ?_
                refine AWp.seq ?_
                refine tq hΓ [94] [72, 10, 1] ?_ (by simp [h80]; exact rr)
                refine AWp.cnd hr (by simp) (fun h81 hr => ?_) (fun h81 hr => ?_)
                · refine tq hΓ [2] [94] ?_ (by simp [h81]; exact rr)
                  obtain rfl := some_inj hr
                  exact AWp.ret (fin_ret (by simp))
                · refine AWp.skip ?_
                  refine tq hΓ [2] [94] ?_ (by simp [h81]; exact rr)
                  obtain rfl := some_inj hr
                  exact AWp.ret (fin_ret (by simp))
        | some o2 =>
          have hr := optC_s h74 hr
          refine tq hΓ [8] [51] ?_ (by simp [h72, h73, h74]; exact rr)
          refine tq hΓ [59] [] ?_ (by simp; exact rr)
          refine AWp.cnd hr (by simp) (fun h82 hr => ?_) (fun h82 hr => ?_)
          · refine tq hΓ [2] [59, 8, 1] ?_ (by simp [h82]; exact rr)
            obtain rfl := some_inj hr
            exact AWp.ret (fin_ret (by simp))
          · refine AWp.skip ?_
            refine AWp.seq ?_
            obtain ⟨r8, h83, hr⟩ := bind_some' hr
            cases h84 : r8.1 with
            | none =>
              have hr := optC_n h84 hr
              refine tq hΓ [10] [59, 8] ?_ (by simp [h82, h83, h84]; exact rr)
              refine tq hΓ [72] [] ?_ (by simp; exact rr)
              refine AWp.cnd hr (by simp) (fun h85 hr => ?_) (fun h85 hr => ?_)
              · refine tq hΓ [2] [72, 10, 1] ?_ (by simp [h85]; exact rr)
                obtain rfl := some_inj hr
                exact AWp.ret (fin_ret (by simp))
              · refine AWp.skip ?_
                refine AWp.seq ?_
                refine tq hΓ [94] [72, 10, 1] ?_ (by simp [h85]; exact rr)
                refine AWp.cnd hr (by simp) (fun h86 hr => ?_) (fun h86 hr => ?_)
                · refine tq hΓ [2] [94] ?_ (by simp [h86]; exact rr)
                  obtain rfl := some_inj hr
                  exact AWp.ret (fin_ret (by simp))
                · refine AWp.skip ?_
                  refine tq hΓ [2] [94] ?_ (by simp [h86]; exact rr)
                  obtain rfl := some_inj hr
                  exact AWp.ret (fin_ret (by simp))
            | some o3 =>
              have hr := optC_s h84 hr
              refine tq hΓ [10] [59, 8] ?_ (by simp [h82, h83, h84]; exact rr)
              refine tq hΓ [72] [] ?_ (by simp; exact rr)
              refine AWp.cnd hr (by simp) (fun h87 hr => ?_) (fun h87 hr => ?_)
              · refine tq hΓ [2] [72, 10, 1] ?_ (by simp [h87]; exact rr)
                obtain rfl := some_inj hr
                exact AWp.ret (fin_ret (by simp))
              · refine AWp.skip ?_
                refine AWp.seq ?_
                refine tq hΓ [94] [72, 10, 1] ?_ (by simp [h87]; exact rr)
                refine AWp.cnd hr (by simp) (fun h88 hr => ?_) (fun h88 hr => ?_)
                · refine tq hΓ [2] [94] ?_ (by simp [h88]; exact rr)
                  obtain rfl := some_inj hr
                  exact AWp.ret (fin_ret (by simp))
                · refine AWp.skip ?_
                  refine tq hΓ [2] [94] ?_ (by simp [h88]; exact rr)
                  obtain rfl := some_inj hr
                  exact AWp.ret (fin_ret (by simp))

@[simp] noncomputable def gSfuConfigCheck.S : Sp
  | [.agg e0], _ => some { av := .lit (.int .i64 ((gSfuConfigCheck (SfuConfig.dec e0)).getD dflt)), M := none, obl := WeakL e0 (SfuConfig.enc (SfuConfig.dec e0)) ∧ (gSfuConfigCheck (SfuConfig.dec e0)).isSome = true }
  | _, _ => none

set_option maxHeartbeats 1000000 in
theorem gSfuConfigCheck.ok : SpecOk Tryz.prog 7 gSfuConfigCheck.S := by
  intro l M out h
  unfold gSfuConfigCheck.S at h
  split at h
  · rename_i e0
    cases h
    refine callOk_of fun ho => ?_
    obtain ⟨ox0, hs⟩ := ho
    generalize (SfuConfig.dec e0) = x0 at *
    obtain ⟨r, hr⟩ := so1 hs
    simp only [hr, gd1]
    have q := call_frame (M := M) [] (gSfuConfigCheck.can x0 r hr) (by simp) rfl ixn
    exact callOk_conv q trivial (by simp; exact ox0) (by simp [frameOut]) (by simp [frameOut])
  · cases h
end Go.Proofs

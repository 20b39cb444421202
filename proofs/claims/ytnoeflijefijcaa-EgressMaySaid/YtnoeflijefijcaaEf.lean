/- That these functions compute what their plain functions do. No condition. -/
import Derived.Test.YtnoeflijefijcaaEfD
import Derived.Test.YtnoeflijefijcaaTy
import Derived.Test.YtnoeflijefijcaaEa
import Derived.Test.YtnoeflijefijcaaEd
import Derived.Test.YtnoeflijefijcaaM04
namespace Go.Proofs
open Go.Ab
@[simp] noncomputable def gLaw20Config.S : Sp
  | [.lit (.int .i64 x0), .lit (.int .i64 x1)], _ => some { av := .agg [.lit (.int .i64 (((gLaw20Config x0 x1).getD dflt).fFrames)), .lit (.int .i64 (((gLaw20Config x0 x1).getD dflt).fBytes)), .lit (.int .i64 (((gLaw20Config x0 x1).getD dflt).fAge)), .lit (.int .i64 (((gLaw20Config x0 x1).getD dflt).fMost)), .lit (.int .i64 (((gLaw20Config x0 x1).getD dflt).fGuard))], M := none, obl := (gLaw20Config x0 x1).isSome = true }
  | _, _ => none

@[simp] def gLaw20Awake.out  (r : Bool) : Out := { av := .lit (.bool r), M := none }
def gLaw20Awake.fin  (r : Bool) (σ : St) : Prop := finK (gLaw20Awake.out  r) [] σ.M (resA Try.ty σ.A σ.M Try.f9.results.toList)
set_option maxHeartbeats 4000000 in
set_option maxRecDepth 100000 in
theorem gLaw20Awake.can  (r : Bool) (hr : gLaw20Awake = some r) : CallOk Try.prog 9 [] [] (gLaw20Awake.out  r) := by
  unfold gLaw20Awake at hr
  have hΓ := (gamL_cons gEgressOutAdd.ok (gamL_cons gEgressOutCredit.ok (gamL_cons gEgressOutGrant.ok (gamL_cons gEgressOutPut.ok (gamL_cons gEgressOutRun.ok (gamL_cons gEgressNew.ok (gamL_nil)))))) : GamOk Try.prog _)
  refine call_of_awp Try.tyOk Try.func9 rfl (by kernel_rfl) rfl rfl (by simp) ?_
  intro _ _ _
  refine AWp.then ⟨[], []⟩ (AWp.reg Try.tyOk hΓ (keep := []) (dead := []) (by kernel_rfl) rfl (by simp)) ?_
  obtain ⟨r1, h19, hr⟩ := bind_some' hr
  cases h20 : r1.1 with
  | none =>
    have hr := optC_n h20 hr
    refine AWp.then ⟨[⟨1, none, .lit (.pointer none)⟩, ⟨2, none, .lit (.int .i64 r1.2)⟩], []⟩ (AWp.reg Try.tyOk hΓ (keep := [1, 2]) (dead := []) (by kernel_rfl) rfl (by simp [h19, h20])) ?_
    refine AWp.seq ?_
    cases h21 : (pickB (neI r1.2 0) true true) with
    | true =>
      have hr := cond_t h21 hr
      refine AWp.then ⟨[⟨25, none, .lit (.bool true)⟩, ⟨1, none, .lit (.pointer none)⟩], []⟩ (AWp.regG Try.tyOk hΓ [(16, true), (21, true)] (keep := [25]) (dead := [2]) (by kernel_rfl) rfl (by simp [h21])) ?_
      refine AWp.cond (b := true) (by simp) (fun hb => ?_) (fun hb => ?_)
      · refine AWp.then ⟨[⟨0, none, .lit (.bool false)⟩], []⟩ (AWp.reg Try.tyOk hΓ (keep := [0]) (dead := [25, 1]) (by kernel_rfl) rfl (by simp)) ?_
        refine AWp.ret ?_
        obtain rfl := some_inj hr
        refine fin_ret ?_
        simp
      · cases hb
    | false =>
      have hr := cond_f h21 hr
      cases hr
  | some o1 =>
    have hr := optC_s h20 hr
    refine AWp.then ⟨[⟨1, none, .ptr 5 0⟩, ⟨2, none, .lit (.int .i64 r1.2)⟩], [.dead, .mapo (encM (kI .i64) (kI .i64) o1.fSched.fShare), .mapo (encM (kI .i64) (kI .i64) o1.fSched.fLeft), .blk [.lit (.int .i64 o1.fSched.fMost), .mp 1, .mp 2, .lit (.int .i64 o1.fSched.fAt), .lit (.bool o1.fSched.fGranted)], .own (EgressFlow.own .i64 o1.fFlows none) none, .blk (o1.fConfig.enc ++ [.mp 4, .ptr 3 0, .lit (.int .i64 o1.fCredit), .lit (.int .i64 o1.fSounds)])]⟩ (AWp.reg Try.tyOk hΓ (keep := [1, 2]) (dead := []) (by kernel_rfl) rfl (by simp [h19, h20])) ?_
    refine AWp.seq ?_
    cases h22 : (pickB (neI r1.2 0) true false) with
    | true =>
      have hr := cond_t h22 hr
      refine AWp.then ⟨[⟨25, none, .lit (.bool true)⟩, ⟨1, none, .ptr 5 0⟩], [.dead, .mapo (encM (kI .i64) (kI .i64) o1.fSched.fShare), .mapo (encM (kI .i64) (kI .i64) o1.fSched.fLeft), .blk [.lit (.int .i64 o1.fSched.fMost), .mp 1, .mp 2, .lit (.int .i64 o1.fSched.fAt), .lit (.bool o1.fSched.fGranted)], .own (EgressFlow.own .i64 o1.fFlows none) none, .blk (o1.fConfig.enc ++ [.mp 4, .ptr 3 0, .lit (.int .i64 o1.fCredit), .lit (.int .i64 o1.fSounds)])]⟩ (AWp.regG Try.tyOk hΓ [(16, true), (21, true)] (keep := [25]) (dead := [2]) (by kernel_rfl) rfl (by simp [h22])) ?_
      refine AWp.cond (b := true) (by simp) (fun hb => ?_) (fun hb => ?_)
      · refine AWp.then ⟨[⟨0, none, .lit (.bool false)⟩], [.dead, .mapo (encM (kI .i64) (kI .i64) o1.fSched.fShare), .mapo (encM (kI .i64) (kI .i64) o1.fSched.fLeft), .blk [.lit (.int .i64 o1.fSched.fMost), .mp 1, .mp 2, .lit (.int .i64 o1.fSched.fAt), .lit (.bool o1.fSched.fGranted)], .own (EgressFlow.own .i64 o1.fFlows none) none, .blk (o1.fConfig.enc ++ [.mp 4, .ptr 3 0, .lit (.int .i64 o1.fCredit), .lit (.int .i64 o1.fSounds)])]⟩ (AWp.reg Try.tyOk hΓ (keep := [0]) (dead := [25, 1]) (by kernel_rfl) rfl (by simp)) ?_
        refine AWp.ret ?_
        obtain rfl := some_inj hr
        refine fin_ret ?_
        simp
      · cases hb
    | false =>
      have hr := cond_f h22 hr
      obtain ⟨r2, h23, hr⟩ := bind_some' hr
      cases h24 : (neI r2.1 0) with
      | true =>
        have hr := cond_t h24 hr
        refine AWp.then ⟨[⟨25, none, .lit (.bool true)⟩, ⟨1, none, .ptr 5 0⟩], [.dead, .mapo (encM (kI .i64) (kI .i64) r2.2.fSched.fShare), .mapo (encM (kI .i64) (kI .i64) r2.2.fSched.fLeft), .blk [.lit (.int .i64 r2.2.fSched.fMost), .mp 1, .mp 2, .lit (.int .i64 r2.2.fSched.fAt), .lit (.bool r2.2.fSched.fGranted)], .own (EgressFlow.own .i64 r2.2.fFlows none) none, .blk (r2.2.fConfig.enc ++ [.mp 4, .ptr 3 0, .lit (.int .i64 r2.2.fCredit), .lit (.int .i64 r2.2.fSounds)])]⟩ (AWp.regG Try.tyOk hΓ [(16, false), (21, true)] (keep := [25]) (dead := [2]) (by kernel_rfl) rfl (by simp [h22, h23, h24])) ?_
        refine AWp.cond (b := true) (by simp) (fun hb => ?_) (fun hb => ?_)
        · refine AWp.then ⟨[⟨0, none, .lit (.bool false)⟩], [.dead, .mapo (encM (kI .i64) (kI .i64) r2.2.fSched.fShare), .mapo (encM (kI .i64) (kI .i64) r2.2.fSched.fLeft), .blk [.lit (.int .i64 r2.2.fSched.fMost), .mp 1, .mp 2, .lit (.int .i64 r2.2.fSched.fAt), .lit (.bool r2.2.fSched.fGranted)], .own (EgressFlow.own .i64 r2.2.fFlows none) none, .blk (r2.2.fConfig.enc ++ [.mp 4, .ptr 3 0, .lit (.int .i64 r2.2.fCredit), .lit (.int .i64 r2.2.fSounds)])]⟩ (AWp.reg Try.tyOk hΓ (keep := [0]) (dead := [25, 1]) (by kernel_rfl) rfl (by simp)) ?_
          refine AWp.ret ?_
          obtain rfl := some_inj hr
          refine fin_ret ?_
          simp
        · cases hb
      | false =>
        have hr := cond_f h24 hr
        obtain ⟨r3, h25, hr⟩ := bind_some' hr
        refine AWp.then ⟨[⟨25, none, .lit (.bool (neI r3.1 0))⟩, ⟨1, none, .ptr 5 0⟩], [.dead, .mapo (encM (kI .i64) (kI .i64) r3.2.fSched.fShare), .mapo (encM (kI .i64) (kI .i64) r3.2.fSched.fLeft), .blk [.lit (.int .i64 r3.2.fSched.fMost), .mp 1, .mp 2, .lit (.int .i64 r3.2.fSched.fAt), .lit (.bool r3.2.fSched.fGranted)], .own (EgressFlow.own .i64 r3.2.fFlows none) none, .blk (r3.2.fConfig.enc ++ [.mp 4, .ptr 3 0, .lit (.int .i64 r3.2.fCredit), .lit (.int .i64 r3.2.fSounds)])]⟩ (AWp.regG Try.tyOk hΓ [(16, false), (21, false)] (keep := [25]) (dead := [2]) (by kernel_rfl) rfl (by simp [h22, h23, h24, h25])) ?_
        refine AWp.cond (b := (neI r3.1 0)) (by simp) (fun h26 => ?_) (fun h26 => ?_)
        · have hr := cond_t h26 hr
          refine AWp.then ⟨[⟨0, none, .lit (.bool false)⟩], [.dead, .mapo (encM (kI .i64) (kI .i64) r3.2.fSched.fShare), .mapo (encM (kI .i64) (kI .i64) r3.2.fSched.fLeft), .blk [.lit (.int .i64 r3.2.fSched.fMost), .mp 1, .mp 2, .lit (.int .i64 r3.2.fSched.fAt), .lit (.bool r3.2.fSched.fGranted)], .own (EgressFlow.own .i64 r3.2.fFlows none) none, .blk (r3.2.fConfig.enc ++ [.mp 4, .ptr 3 0, .lit (.int .i64 r3.2.fCredit), .lit (.int .i64 r3.2.fSounds)])]⟩ (AWp.reg Try.tyOk hΓ (keep := [0]) (dead := [25, 1]) (by kernel_rfl) rfl (by simp [h26])) ?_
          refine AWp.ret ?_
          obtain rfl := some_inj hr
          refine fin_ret ?_
          simp
        · have hr := cond_f h26 hr
          refine AWp.skip ?_
          refine AWp.seq ?_
          refine AWp.then ⟨[⟨26, none, .lit (.int .i64 0)⟩, ⟨1, none, .ptr 5 0⟩], [.dead, .mapo (encM (kI .i64) (kI .i64) r3.2.fSched.fShare), .mapo (encM (kI .i64) (kI .i64) r3.2.fSched.fLeft), .blk [.lit (.int .i64 r3.2.fSched.fMost), .mp 1, .mp 2, .lit (.int .i64 r3.2.fSched.fAt), .lit (.bool r3.2.fSched.fGranted)], .own (EgressFlow.own .i64 r3.2.fFlows none) none, .blk (r3.2.fConfig.enc ++ [.mp 4, .ptr 3 0, .lit (.int .i64 r3.2.fCredit), .lit (.int .i64 r3.2.fSounds)])]⟩ (AWp.reg Try.tyOk hΓ (keep := [26]) (dead := [25]) (by kernel_rfl) rfl (by simp [h26])) ?_
          refine AWp.loopE (fun (s1 : Int × (List (Int × Int)) × (List (Int × Int)) × Int × Int × Bool × (List (Int × EgressFlow)) × EgressConfig × Int × Int) (γ1 : Unit) => ⟨[⟨26, none, .lit (.int .i64 s1.1)⟩, ⟨1, none, .ptr 5 0⟩], [.dead, .mapo (encM (kI .i64) (kI .i64) s1.2.1), .mapo (encM (kI .i64) (kI .i64) s1.2.2.1), .blk [.lit (.int .i64 s1.2.2.2.1), .mp 1, .mp 2, .lit (.int .i64 s1.2.2.2.2.1), .lit (.bool s1.2.2.2.2.2.1)], .own (EgressFlow.own .i64 s1.2.2.2.2.2.2.1 none) none, .blk (s1.2.2.2.2.2.2.2.1.enc ++ [.mp 4, .ptr 3 0, .lit (.int .i64 s1.2.2.2.2.2.2.2.2.1), .lit (.int .i64 s1.2.2.2.2.2.2.2.2.2)])]⟩) (fun (v1 : (List (Int × Int)) × (List (Int × Int)) × Int × Int × Bool × (List (Int × EgressFlow)) × EgressConfig × Int × Int) (γ1a : Unit) => ⟨[⟨1, none, .ptr 5 0⟩], [.dead, .mapo (encM (kI .i64) (kI .i64) v1.1), .mapo (encM (kI .i64) (kI .i64) v1.2.1), .blk [.lit (.int .i64 v1.2.2.1), .mp 1, .mp 2, .lit (.int .i64 v1.2.2.2.1), .lit (.bool v1.2.2.2.2.1)], .own (EgressFlow.own .i64 v1.2.2.2.2.2.1 none) none, .blk (v1.2.2.2.2.2.2.1.enc ++ [.mp 4, .ptr 3 0, .lit (.int .i64 v1.2.2.2.2.2.2.2.1), .lit (.int .i64 v1.2.2.2.2.2.2.2.2)])]⟩) gLaw20Awake.fin hr () 6 (by simp) (fun s1 f γ1 hr => ?_) (fun v1 γ1a σ1 m1 hr hc => ?_) (fun _ h => h)
          · unfold gLaw20Awake.loop1 at hr
            refine AWp.then ⟨[⟨27, none, .lit (.bool (ltI s1.1 3))⟩, ⟨26, none, .lit (.int .i64 s1.1)⟩, ⟨1, none, .ptr 5 0⟩], [.dead, .mapo (encM (kI .i64) (kI .i64) s1.2.1), .mapo (encM (kI .i64) (kI .i64) s1.2.2.1), .blk [.lit (.int .i64 s1.2.2.2.1), .mp 1, .mp 2, .lit (.int .i64 s1.2.2.2.2.1), .lit (.bool s1.2.2.2.2.2.1)], .own (EgressFlow.own .i64 s1.2.2.2.2.2.2.1 none) none, .blk (s1.2.2.2.2.2.2.2.1.enc ++ [.mp 4, .ptr 3 0, .lit (.int .i64 s1.2.2.2.2.2.2.2.2.1), .lit (.int .i64 s1.2.2.2.2.2.2.2.2.2)])]⟩ (AWp.reg Try.tyOk hΓ (keep := [27]) (dead := []) (by kernel_rfl) rfl (by simp)) ?_
            refine AWp.seq ?_
            refine AWp.cond (b := (ltI s1.1 3)) (by simp) (fun h27 => ?_) (fun h27 => ?_)
            · have hr := cond_t h27 hr
              refine AWp.skip ?_
              refine AWp.seq ?_
              refine AWp.block ?_
              refine AWp.then ⟨[⟨3, none, .lit (.int .i64 s1.1)⟩, ⟨26, none, .lit (.int .i64 s1.1)⟩, ⟨1, none, .ptr 5 0⟩], [.dead, .mapo (encM (kI .i64) (kI .i64) s1.2.1), .mapo (encM (kI .i64) (kI .i64) s1.2.2.1), .blk [.lit (.int .i64 s1.2.2.2.1), .mp 1, .mp 2, .lit (.int .i64 s1.2.2.2.2.1), .lit (.bool s1.2.2.2.2.2.1)], .own (EgressFlow.own .i64 s1.2.2.2.2.2.2.1 none) none, .blk (s1.2.2.2.2.2.2.2.1.enc ++ [.mp 4, .ptr 3 0, .lit (.int .i64 s1.2.2.2.2.2.2.2.2.1), .lit (.int .i64 s1.2.2.2.2.2.2.2.2.2)])]⟩ (AWp.reg Try.tyOk hΓ (keep := [3]) (dead := [27]) (by kernel_rfl) rfl (by simp [h27])) ?_
              obtain ⟨r4, h28, hr⟩ := bind_some' hr
              refine AWp.last ⟨[⟨26, none, .lit (.int .i64 s1.1)⟩, ⟨1, none, .ptr 5 0⟩], [.dead, .mapo (encM (kI .i64) (kI .i64) r4.2.2.fSched.fShare), .mapo (encM (kI .i64) (kI .i64) r4.2.2.fSched.fLeft), .blk [.lit (.int .i64 r4.2.2.fSched.fMost), .mp 1, .mp 2, .lit (.int .i64 r4.2.2.fSched.fAt), .lit (.bool r4.2.2.fSched.fGranted)], .own (EgressFlow.own .i64 r4.2.2.fFlows none) none, .blk (r4.2.2.fConfig.enc ++ [.mp 4, .ptr 3 0, .lit (.int .i64 r4.2.2.fCredit), .lit (.int .i64 r4.2.2.fSounds)])]⟩ (AWp.reg Try.tyOk hΓ (keep := []) (dead := [3]) (by kernel_rfl) rfl (by simp [h28])) ?_
              refine AWp.last ⟨[⟨26, none, .lit (.int .i64 (addI .i64 s1.1 1))⟩, ⟨1, none, .ptr 5 0⟩], [.dead, .mapo (encM (kI .i64) (kI .i64) r4.2.2.fSched.fShare), .mapo (encM (kI .i64) (kI .i64) r4.2.2.fSched.fLeft), .blk [.lit (.int .i64 r4.2.2.fSched.fMost), .mp 1, .mp 2, .lit (.int .i64 r4.2.2.fSched.fAt), .lit (.bool r4.2.2.fSched.fGranted)], .own (EgressFlow.own .i64 r4.2.2.fFlows none) none, .blk (r4.2.2.fConfig.enc ++ [.mp 4, .ptr 3 0, .lit (.int .i64 r4.2.2.fCredit), .lit (.int .i64 r4.2.2.fSounds)])]⟩ (AWp.reg Try.tyOk hΓ (keep := [26]) (dead := []) (by kernel_rfl) rfl (by simp)) ?_
              obtain rfl := some_inj hr
              exact round_go () 6 (by first | (simp; done) | simp [h19, h20, h22, h23, h24, h25, h26, h27, h28])
            · have hr := cond_f h27 hr
              refine AWp.exit ?_
              obtain rfl := some_inj hr
              exact round_out () 6 (by first | (simp; done) | simp [h19, h20, h22, h23, h24, h25, h26, h27])
          · refine AWp.conv hc ?_
            obtain ⟨r5, h29, hr⟩ := bind_some' hr
            refine AWp.then ⟨[⟨1, none, .ptr 5 0⟩], [.dead, .mapo (encM (kI .i64) (kI .i64) r5.2.2.fSched.fShare), .mapo (encM (kI .i64) (kI .i64) r5.2.2.fSched.fLeft), .blk [.lit (.int .i64 r5.2.2.fSched.fMost), .mp 1, .mp 2, .lit (.int .i64 r5.2.2.fSched.fAt), .lit (.bool r5.2.2.fSched.fGranted)], .own (EgressFlow.own .i64 r5.2.2.fFlows none) none, .blk (r5.2.2.fConfig.enc ++ [.mp 4, .ptr 3 0, .lit (.int .i64 r5.2.2.fCredit), .lit (.int .i64 r5.2.2.fSounds)])]⟩ (AWp.reg Try.tyOk hΓ (keep := []) (dead := []) (by kernel_rfl) rfl (by simp [h29])) ?_
            obtain ⟨r6, h30, hr⟩ := bind_some' hr
            refine AWp.then ⟨[⟨1, none, .ptr 5 0⟩], [.dead, .mapo (encM (kI .i64) (kI .i64) r6.fSched.fShare), .mapo (encM (kI .i64) (kI .i64) r6.fSched.fLeft), .blk [.lit (.int .i64 r6.fSched.fMost), .mp 1, .mp 2, .lit (.int .i64 r6.fSched.fAt), .lit (.bool r6.fSched.fGranted)], .own (EgressFlow.own .i64 r6.fFlows none) none, .blk (r6.fConfig.enc ++ [.mp 4, .ptr 3 0, .lit (.int .i64 r6.fCredit), .lit (.int .i64 r6.fSounds)])]⟩ (AWp.reg Try.tyOk hΓ (keep := []) (dead := []) (by kernel_rfl) rfl (by simp [h30])) ?_
            obtain ⟨r7, h31, hr⟩ := bind_some' hr
            refine AWp.then ⟨[⟨4, none, .sl (r7.1.map Antiphonref20Sent.enc) .no⟩, ⟨1, none, .ptr 5 0⟩], [.dead, .mapo (encM (kI .i64) (kI .i64) r7.2.fSched.fShare), .mapo (encM (kI .i64) (kI .i64) r7.2.fSched.fLeft), .blk [.lit (.int .i64 r7.2.fSched.fMost), .mp 1, .mp 2, .lit (.int .i64 r7.2.fSched.fAt), .lit (.bool r7.2.fSched.fGranted)], .own (EgressFlow.own .i64 r7.2.fFlows none) none, .blk (r7.2.fConfig.enc ++ [.mp 4, .ptr 3 0, .lit (.int .i64 r7.2.fCredit), .lit (.int .i64 r7.2.fSounds)])]⟩ (AWp.reg Try.tyOk hΓ (keep := [4]) (dead := []) (by kernel_rfl) rfl (by simp [h31])) ?_
            obtain ⟨h32, hr⟩ := need_some hr
            obtain ⟨h33, hr⟩ := need_some hr
            obtain ⟨h34, hr⟩ := need_some hr
            obtain ⟨h35, hr⟩ := need_some hr
            obtain ⟨h36, hr⟩ := need_some hr
            refine AWp.then ⟨[⟨0, none, .lit (.bool (pickB (pickB (pickB (pickB (pickB (eqI (lenL r7.1) 4) (eqI ((nthI r7.1 0).fId) 1) false) (eqI ((nthI r7.1 1).fId) 1) false) (eqI ((nthI r7.1 2).fId) 2) false) (eqI ((nthI r7.1 3).fId) 1) false) (eqI ((gEgressOutCredit r7.2).getD dflt) 92) false))⟩], [.dead, .mapo (encM (kI .i64) (kI .i64) r7.2.fSched.fShare), .mapo (encM (kI .i64) (kI .i64) r7.2.fSched.fLeft), .blk [.lit (.int .i64 r7.2.fSched.fMost), .mp 1, .mp 2, .lit (.int .i64 r7.2.fSched.fAt), .lit (.bool r7.2.fSched.fGranted)], .own (EgressFlow.own .i64 r7.2.fFlows none) none, .blk (r7.2.fConfig.enc ++ [.mp 4, .ptr 3 0, .lit (.int .i64 r7.2.fCredit), .lit (.int .i64 r7.2.fSounds)])]⟩ (AWp.reg Try.tyOk hΓ (keep := [0]) (dead := [4, 1]) (by kernel_rfl) rfl (by simp [h32, h33, h34, h35, h36])) ?_
            refine AWp.ret ?_
            obtain rfl := some_inj hr
            refine fin_ret ?_
            simp

@[simp] noncomputable def gLaw20Awake.S : Sp
  | [], _ => some { av := .lit (.bool (gLaw20Awake.getD dflt)), M := none, obl := gLaw20Awake.isSome = true }
  | _, _ => none

set_option maxHeartbeats 1000000 in
theorem gLaw20Awake.ok : SpecOk Try.prog 9 gLaw20Awake.S := by
  intro l M out h
  unfold gLaw20Awake.S at h
  split at h
  · cases h
    refine callOk_of fun ho => ?_
    have hs := ho
    obtain ⟨r, hr⟩ := Option.isSome_iff_exists.1 hs
    simp only [hr, Option.getD_some]
    have q := call_frame (M := M) [] (gLaw20Awake.can r hr) (by simp) rfl (by intro k i hk; simp at hk)
    exact callOk_conv q trivial (by simp) (by simp [frameOut, gLaw20Awake.out]) (by simp [frameOut, gLaw20Awake.out])
  · cases h

end Go.Proofs

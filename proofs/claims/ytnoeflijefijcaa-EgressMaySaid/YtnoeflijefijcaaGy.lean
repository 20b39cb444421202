/- That these functions compute what their plain functions do. No condition. -/
import Derived.Test.YtnoeflijefijcaaM02
import Derived.Test.YtnoeflijefijcaaTy
import Derived.Test.YtnoeflijefijcaaEa
import Derived.Test.YtnoeflijefijcaaEf
namespace Go.Proofs
open Go.Ab
@[simp] def gLaw20EgressMay.out (_x0 : EgressConfig) (_x1 : Int) (_x2 : Int) (r : Bool) : Out := { av := .lit (.bool r), M := none }
set_option maxHeartbeats 4000000 in
set_option maxRecDepth 100000 in
theorem gLaw20EgressMay.can (x0 : EgressConfig) (x1 : Int) (x2 : Int) (r : Bool) (hr : gLaw20EgressMay x0 x1 x2 = some r) : CallOk Try.prog 3 [.agg [.lit (.int .i64 x0.fFrames), .lit (.int .i64 x0.fBytes), .lit (.int .i64 x0.fAge), .lit (.int .i64 x0.fMost), .lit (.int .i64 x0.fGuard)], .lit (.int .i64 x1), .lit (.int .i64 x2)] [] (gLaw20EgressMay.out x0 x1 x2 r) := by
  unfold gLaw20EgressMay at hr
  have hΓ := (gamL_cons gEgressOutAdd.ok (gamL_cons gEgressOutBroken.ok (gamL_cons gEgressConfigCheck.ok (gamL_cons gLaw20Awake.ok (gamL_cons gEgressNew.ok (gamL_nil))))) : GamOk Try.prog _)
  refine call_of_awp Try.tyOk Try.func3 rfl (by kernel_rfl) rfl rfl (by simp) ?_
  intro _ _ _
  refine AWp.then ⟨[⟨3, none, .ptr 0 0⟩, ⟨1, none, .lit (.int .i64 x1)⟩, ⟨2, none, .lit (.int .i64 x2)⟩], [.blk x0.enc]⟩ (AWp.reg Try.tyOk hΓ (keep := [3]) (dead := [0]) (by kernel_rfl) rfl (by simp)) ?_
  obtain ⟨r1, h15, hr⟩ := bind_some' hr
  cases h16 : r1.1 with
  | none =>
    have hr := optC_n h16 hr
    refine AWp.then ⟨[⟨7, none, .lit (.pointer none)⟩, ⟨8, none, .lit (.int .i64 r1.2)⟩, ⟨3, none, .ptr 0 0⟩, ⟨1, none, .lit (.int .i64 x1)⟩, ⟨2, none, .lit (.int .i64 x2)⟩], [.blk x0.enc]⟩ (AWp.reg Try.tyOk hΓ (keep := [7, 8]) (dead := []) (by kernel_rfl) rfl (by simp [h15, h16])) ?_
    refine AWp.then ⟨[⟨9, none, .lit (.bool (pickB (pickB (pickB (pickB (pickB (pickB (pickB (pickB (pickB (leqI 1 x0.fFrames) (leqI x0.fFrames 1024) false) (leqI 1 x0.fBytes) false) (leqI x0.fBytes 16777216) false) (leqI 1 x0.fAge) false) (leqI x0.fAge 1099511627776) false) (leqI 1 x0.fMost) false) (leqI x0.fMost 16777216) false) (leqI 1 x0.fGuard) false) (leqI x0.fGuard 1024) false))⟩, ⟨7, none, .lit (.pointer none)⟩, ⟨8, none, .lit (.int .i64 r1.2)⟩, ⟨3, none, .ptr 0 0⟩, ⟨1, none, .lit (.int .i64 x1)⟩, ⟨2, none, .lit (.int .i64 x2)⟩], [.blk x0.enc]⟩ (AWp.reg Try.tyOk hΓ (keep := [9]) (dead := []) (by kernel_rfl) rfl (by simp)) ?_
    refine AWp.seq ?_
    obtain ⟨r2, h17, hr⟩ := bind_some' hr
    obtain ⟨h18, hr⟩ := need_some hr
    refine AWp.then ⟨[⟨84, none, .lit (.bool (pickB (pickB (pickB (notB r2) true (neB (eqI r1.2 0) (pickB (pickB (pickB (pickB (pickB (pickB (pickB (pickB (pickB (leqI 1 x0.fFrames) (leqI x0.fFrames 1024) false) (leqI 1 x0.fBytes) false) (leqI x0.fBytes 16777216) false) (leqI 1 x0.fAge) false) (leqI x0.fAge 1099511627776) false) (leqI 1 x0.fMost) false) (leqI x0.fMost 16777216) false) (leqI 1 x0.fGuard) false) (leqI x0.fGuard 1024) false))) true (neB false (pickB (pickB (pickB (pickB (pickB (pickB (pickB (pickB (pickB (leqI 1 x0.fFrames) (leqI x0.fFrames 1024) false) (leqI 1 x0.fBytes) false) (leqI x0.fBytes 16777216) false) (leqI 1 x0.fAge) false) (leqI x0.fAge 1099511627776) false) (leqI 1 x0.fMost) false) (leqI x0.fMost 16777216) false) (leqI 1 x0.fGuard) false) (leqI x0.fGuard 1024) false))) true (neI ((gEgressConfigCheck x0).getD dflt) r1.2)))⟩, ⟨9, none, .lit (.bool (pickB (pickB (pickB (pickB (pickB (pickB (pickB (pickB (pickB (leqI 1 x0.fFrames) (leqI x0.fFrames 1024) false) (leqI 1 x0.fBytes) false) (leqI x0.fBytes 16777216) false) (leqI 1 x0.fAge) false) (leqI x0.fAge 1099511627776) false) (leqI 1 x0.fMost) false) (leqI x0.fMost 16777216) false) (leqI 1 x0.fGuard) false) (leqI x0.fGuard 1024) false))⟩, ⟨7, none, .lit (.pointer none)⟩, ⟨8, none, .lit (.int .i64 r1.2)⟩, ⟨3, none, .ptr 0 0⟩, ⟨1, none, .lit (.int .i64 x1)⟩, ⟨2, none, .lit (.int .i64 x2)⟩], [.blk x0.enc]⟩ (AWp.reg Try.tyOk hΓ (keep := [84]) (dead := []) (by kernel_rfl) rfl (by simp [h17, h18])) ?_
    refine AWp.cond (b := (pickB (pickB (pickB (notB r2) true (neB (eqI r1.2 0) (pickB (pickB (pickB (pickB (pickB (pickB (pickB (pickB (pickB (leqI 1 x0.fFrames) (leqI x0.fFrames 1024) false) (leqI 1 x0.fBytes) false) (leqI x0.fBytes 16777216) false) (leqI 1 x0.fAge) false) (leqI x0.fAge 1099511627776) false) (leqI 1 x0.fMost) false) (leqI x0.fMost 16777216) false) (leqI 1 x0.fGuard) false) (leqI x0.fGuard 1024) false))) true (neB false (pickB (pickB (pickB (pickB (pickB (pickB (pickB (pickB (pickB (leqI 1 x0.fFrames) (leqI x0.fFrames 1024) false) (leqI 1 x0.fBytes) false) (leqI x0.fBytes 16777216) false) (leqI 1 x0.fAge) false) (leqI x0.fAge 1099511627776) false) (leqI 1 x0.fMost) false) (leqI x0.fMost 16777216) false) (leqI 1 x0.fGuard) false) (leqI x0.fGuard 1024) false))) true (neI ((gEgressConfigCheck x0).getD dflt) r1.2))) (by simp) (fun h19 => ?_) (fun h19 => ?_)
    · have hr := cond_t h19 hr
      refine AWp.then ⟨[⟨6, none, .lit (.bool false)⟩], [.blk x0.enc]⟩ (AWp.reg Try.tyOk hΓ (keep := [6]) (dead := [84, 9, 7, 8, 3, 1, 2]) (by kernel_rfl) rfl (by simp [h19])) ?_
      refine AWp.ret ?_
      obtain rfl := some_inj hr
      refine fin_ret ?_
      simp
    · have hr := cond_f h19 hr
      refine AWp.skip ?_
      refine AWp.seq ?_
      refine AWp.then ⟨[⟨86, none, .lit (.bool (notB (pickB (pickB (pickB (pickB (pickB (pickB (pickB (pickB (pickB (leqI 1 x0.fFrames) (leqI x0.fFrames 1024) false) (leqI 1 x0.fBytes) false) (leqI x0.fBytes 16777216) false) (leqI 1 x0.fAge) false) (leqI x0.fAge 1099511627776) false) (leqI 1 x0.fMost) false) (leqI x0.fMost 16777216) false) (leqI 1 x0.fGuard) false) (leqI x0.fGuard 1024) false)))⟩, ⟨7, none, .lit (.pointer none)⟩, ⟨8, none, .lit (.int .i64 r1.2)⟩, ⟨3, none, .ptr 0 0⟩, ⟨1, none, .lit (.int .i64 x1)⟩, ⟨2, none, .lit (.int .i64 x2)⟩], [.blk x0.enc]⟩ (AWp.reg Try.tyOk hΓ (keep := [86]) (dead := [84, 9]) (by kernel_rfl) rfl (by simp [h19])) ?_
      refine AWp.cond (b := (notB (pickB (pickB (pickB (pickB (pickB (pickB (pickB (pickB (pickB (leqI 1 x0.fFrames) (leqI x0.fFrames 1024) false) (leqI 1 x0.fBytes) false) (leqI x0.fBytes 16777216) false) (leqI 1 x0.fAge) false) (leqI x0.fAge 1099511627776) false) (leqI 1 x0.fMost) false) (leqI x0.fMost 16777216) false) (leqI 1 x0.fGuard) false) (leqI x0.fGuard 1024) false))) (by simp) (fun h20 => ?_) (fun h20 => ?_)
      · have hr := cond_t h20 hr
        refine AWp.then ⟨[⟨6, none, .lit (.bool (eqI r1.2 5))⟩], [.blk x0.enc]⟩ (AWp.reg Try.tyOk hΓ (keep := [6]) (dead := [86, 7, 8, 3, 1, 2]) (by kernel_rfl) rfl (by simp [h20])) ?_
        refine AWp.ret ?_
        obtain rfl := some_inj hr
        refine fin_ret ?_
        simp
      · have hr := cond_f h20 hr
        refine AWp.skip ?_
        refine AWp.seq ?_
        cases hr
  | some o1 =>
    have hr := optC_s h16 hr
    refine AWp.then ⟨[⟨7, none, .ptr 6 0⟩, ⟨8, none, .lit (.int .i64 r1.2)⟩, ⟨3, none, .ptr 0 0⟩, ⟨1, none, .lit (.int .i64 x1)⟩, ⟨2, none, .lit (.int .i64 x2)⟩], [.blk x0.enc, .dead, .mapo (encM (kI .i64) (kI .i64) o1.fSched.fShare), .mapo (encM (kI .i64) (kI .i64) o1.fSched.fLeft), .blk [.lit (.int .i64 o1.fSched.fMost), .mp 2, .mp 3, .lit (.int .i64 o1.fSched.fAt), .lit (.bool o1.fSched.fGranted)], .own (EgressFlow.own .i64 o1.fFlows none) none, .blk (o1.fConfig.enc ++ [.mp 5, .ptr 4 0, .lit (.int .i64 o1.fCredit), .lit (.int .i64 o1.fSounds)])]⟩ (AWp.reg Try.tyOk hΓ (keep := [7, 8]) (dead := []) (by kernel_rfl) rfl (by simp [h15, h16])) ?_
    refine AWp.then ⟨[⟨9, none, .lit (.bool (pickB (pickB (pickB (pickB (pickB (pickB (pickB (pickB (pickB (leqI 1 x0.fFrames) (leqI x0.fFrames 1024) false) (leqI 1 x0.fBytes) false) (leqI x0.fBytes 16777216) false) (leqI 1 x0.fAge) false) (leqI x0.fAge 1099511627776) false) (leqI 1 x0.fMost) false) (leqI x0.fMost 16777216) false) (leqI 1 x0.fGuard) false) (leqI x0.fGuard 1024) false))⟩, ⟨7, none, .ptr 6 0⟩, ⟨8, none, .lit (.int .i64 r1.2)⟩, ⟨3, none, .ptr 0 0⟩, ⟨1, none, .lit (.int .i64 x1)⟩, ⟨2, none, .lit (.int .i64 x2)⟩], [.blk x0.enc, .dead, .mapo (encM (kI .i64) (kI .i64) o1.fSched.fShare), .mapo (encM (kI .i64) (kI .i64) o1.fSched.fLeft), .blk [.lit (.int .i64 o1.fSched.fMost), .mp 2, .mp 3, .lit (.int .i64 o1.fSched.fAt), .lit (.bool o1.fSched.fGranted)], .own (EgressFlow.own .i64 o1.fFlows none) none, .blk (o1.fConfig.enc ++ [.mp 5, .ptr 4 0, .lit (.int .i64 o1.fCredit), .lit (.int .i64 o1.fSounds)])]⟩ (AWp.reg Try.tyOk hΓ (keep := [9]) (dead := []) (by kernel_rfl) rfl (by simp)) ?_
    refine AWp.seq ?_
    obtain ⟨r2, h21, hr⟩ := bind_some' hr
    obtain ⟨h22, hr⟩ := need_some hr
    refine AWp.then ⟨[⟨84, none, .lit (.bool (pickB (pickB (pickB (notB r2) true (neB (eqI r1.2 0) (pickB (pickB (pickB (pickB (pickB (pickB (pickB (pickB (pickB (leqI 1 x0.fFrames) (leqI x0.fFrames 1024) false) (leqI 1 x0.fBytes) false) (leqI x0.fBytes 16777216) false) (leqI 1 x0.fAge) false) (leqI x0.fAge 1099511627776) false) (leqI 1 x0.fMost) false) (leqI x0.fMost 16777216) false) (leqI 1 x0.fGuard) false) (leqI x0.fGuard 1024) false))) true (neB true (pickB (pickB (pickB (pickB (pickB (pickB (pickB (pickB (pickB (leqI 1 x0.fFrames) (leqI x0.fFrames 1024) false) (leqI 1 x0.fBytes) false) (leqI x0.fBytes 16777216) false) (leqI 1 x0.fAge) false) (leqI x0.fAge 1099511627776) false) (leqI 1 x0.fMost) false) (leqI x0.fMost 16777216) false) (leqI 1 x0.fGuard) false) (leqI x0.fGuard 1024) false))) true (neI ((gEgressConfigCheck x0).getD dflt) r1.2)))⟩, ⟨9, none, .lit (.bool (pickB (pickB (pickB (pickB (pickB (pickB (pickB (pickB (pickB (leqI 1 x0.fFrames) (leqI x0.fFrames 1024) false) (leqI 1 x0.fBytes) false) (leqI x0.fBytes 16777216) false) (leqI 1 x0.fAge) false) (leqI x0.fAge 1099511627776) false) (leqI 1 x0.fMost) false) (leqI x0.fMost 16777216) false) (leqI 1 x0.fGuard) false) (leqI x0.fGuard 1024) false))⟩, ⟨7, none, .ptr 6 0⟩, ⟨8, none, .lit (.int .i64 r1.2)⟩, ⟨3, none, .ptr 0 0⟩, ⟨1, none, .lit (.int .i64 x1)⟩, ⟨2, none, .lit (.int .i64 x2)⟩], [.blk x0.enc, .dead, .mapo (encM (kI .i64) (kI .i64) o1.fSched.fShare), .mapo (encM (kI .i64) (kI .i64) o1.fSched.fLeft), .blk [.lit (.int .i64 o1.fSched.fMost), .mp 2, .mp 3, .lit (.int .i64 o1.fSched.fAt), .lit (.bool o1.fSched.fGranted)], .own (EgressFlow.own .i64 o1.fFlows none) none, .blk (o1.fConfig.enc ++ [.mp 5, .ptr 4 0, .lit (.int .i64 o1.fCredit), .lit (.int .i64 o1.fSounds)])]⟩ (AWp.reg Try.tyOk hΓ (keep := [84]) (dead := []) (by kernel_rfl) rfl (by simp [h21, h22])) ?_
    refine AWp.cond (b := (pickB (pickB (pickB (notB r2) true (neB (eqI r1.2 0) (pickB (pickB (pickB (pickB (pickB (pickB (pickB (pickB (pickB (leqI 1 x0.fFrames) (leqI x0.fFrames 1024) false) (leqI 1 x0.fBytes) false) (leqI x0.fBytes 16777216) false) (leqI 1 x0.fAge) false) (leqI x0.fAge 1099511627776) false) (leqI 1 x0.fMost) false) (leqI x0.fMost 16777216) false) (leqI 1 x0.fGuard) false) (leqI x0.fGuard 1024) false))) true (neB true (pickB (pickB (pickB (pickB (pickB (pickB (pickB (pickB (pickB (leqI 1 x0.fFrames) (leqI x0.fFrames 1024) false) (leqI 1 x0.fBytes) false) (leqI x0.fBytes 16777216) false) (leqI 1 x0.fAge) false) (leqI x0.fAge 1099511627776) false) (leqI 1 x0.fMost) false) (leqI x0.fMost 16777216) false) (leqI 1 x0.fGuard) false) (leqI x0.fGuard 1024) false))) true (neI ((gEgressConfigCheck x0).getD dflt) r1.2))) (by simp) (fun h23 => ?_) (fun h23 => ?_)
    · have hr := cond_t h23 hr
      refine AWp.then ⟨[⟨6, none, .lit (.bool false)⟩], [.blk x0.enc, .dead, .mapo (encM (kI .i64) (kI .i64) o1.fSched.fShare), .mapo (encM (kI .i64) (kI .i64) o1.fSched.fLeft), .blk [.lit (.int .i64 o1.fSched.fMost), .mp 2, .mp 3, .lit (.int .i64 o1.fSched.fAt), .lit (.bool o1.fSched.fGranted)], .own (EgressFlow.own .i64 o1.fFlows none) none, .blk (o1.fConfig.enc ++ [.mp 5, .ptr 4 0, .lit (.int .i64 o1.fCredit), .lit (.int .i64 o1.fSounds)])]⟩ (AWp.reg Try.tyOk hΓ (keep := [6]) (dead := [84, 9, 7, 8, 3, 1, 2]) (by kernel_rfl) rfl (by simp [h23])) ?_
      refine AWp.ret ?_
      obtain rfl := some_inj hr
      refine fin_ret ?_
      simp
    · have hr := cond_f h23 hr
      refine AWp.skip ?_
      refine AWp.seq ?_
      refine AWp.then ⟨[⟨86, none, .lit (.bool (notB (pickB (pickB (pickB (pickB (pickB (pickB (pickB (pickB (pickB (leqI 1 x0.fFrames) (leqI x0.fFrames 1024) false) (leqI 1 x0.fBytes) false) (leqI x0.fBytes 16777216) false) (leqI 1 x0.fAge) false) (leqI x0.fAge 1099511627776) false) (leqI 1 x0.fMost) false) (leqI x0.fMost 16777216) false) (leqI 1 x0.fGuard) false) (leqI x0.fGuard 1024) false)))⟩, ⟨7, none, .ptr 6 0⟩, ⟨8, none, .lit (.int .i64 r1.2)⟩, ⟨3, none, .ptr 0 0⟩, ⟨1, none, .lit (.int .i64 x1)⟩, ⟨2, none, .lit (.int .i64 x2)⟩], [.blk x0.enc, .dead, .mapo (encM (kI .i64) (kI .i64) o1.fSched.fShare), .mapo (encM (kI .i64) (kI .i64) o1.fSched.fLeft), .blk [.lit (.int .i64 o1.fSched.fMost), .mp 2, .mp 3, .lit (.int .i64 o1.fSched.fAt), .lit (.bool o1.fSched.fGranted)], .own (EgressFlow.own .i64 o1.fFlows none) none, .blk (o1.fConfig.enc ++ [.mp 5, .ptr 4 0, .lit (.int .i64 o1.fCredit), .lit (.int .i64 o1.fSounds)])]⟩ (AWp.reg Try.tyOk hΓ (keep := [86]) (dead := [84, 9]) (by kernel_rfl) rfl (by simp [h23])) ?_
      refine AWp.cond (b := (notB (pickB (pickB (pickB (pickB (pickB (pickB (pickB (pickB (pickB (leqI 1 x0.fFrames) (leqI x0.fFrames 1024) false) (leqI 1 x0.fBytes) false) (leqI x0.fBytes 16777216) false) (leqI 1 x0.fAge) false) (leqI x0.fAge 1099511627776) false) (leqI 1 x0.fMost) false) (leqI x0.fMost 16777216) false) (leqI 1 x0.fGuard) false) (leqI x0.fGuard 1024) false))) (by simp) (fun h24 => ?_) (fun h24 => ?_)
      · have hr := cond_t h24 hr
        refine AWp.then ⟨[⟨6, none, .lit (.bool (eqI r1.2 5))⟩], [.blk x0.enc, .dead, .mapo (encM (kI .i64) (kI .i64) o1.fSched.fShare), .mapo (encM (kI .i64) (kI .i64) o1.fSched.fLeft), .blk [.lit (.int .i64 o1.fSched.fMost), .mp 2, .mp 3, .lit (.int .i64 o1.fSched.fAt), .lit (.bool o1.fSched.fGranted)], .own (EgressFlow.own .i64 o1.fFlows none) none, .blk (o1.fConfig.enc ++ [.mp 5, .ptr 4 0, .lit (.int .i64 o1.fCredit), .lit (.int .i64 o1.fSounds)])]⟩ (AWp.reg Try.tyOk hΓ (keep := [6]) (dead := [86, 7, 8, 3, 1, 2]) (by kernel_rfl) rfl (by simp [h24])) ?_
        refine AWp.ret ?_
        obtain rfl := some_inj hr
        refine fin_ret ?_
        simp
      · have hr := cond_f h24 hr
        refine AWp.skip ?_
        obtain ⟨r3, h25, hr⟩ := bind_some' hr
        refine AWp.then ⟨[⟨10, none, .lit (.int .i64 r3.1)⟩, ⟨7, none, .ptr 6 0⟩, ⟨3, none, .ptr 0 0⟩, ⟨1, none, .lit (.int .i64 x1)⟩, ⟨2, none, .lit (.int .i64 x2)⟩], [.blk x0.enc, .dead, .mapo (encM (kI .i64) (kI .i64) r3.2.fSched.fShare), .mapo (encM (kI .i64) (kI .i64) r3.2.fSched.fLeft), .blk [.lit (.int .i64 r3.2.fSched.fMost), .mp 2, .mp 3, .lit (.int .i64 r3.2.fSched.fAt), .lit (.bool r3.2.fSched.fGranted)], .own (EgressFlow.own .i64 r3.2.fFlows none) none, .blk (r3.2.fConfig.enc ++ [.mp 5, .ptr 4 0, .lit (.int .i64 r3.2.fCredit), .lit (.int .i64 r3.2.fSounds)])]⟩ (AWp.reg Try.tyOk hΓ (keep := [10]) (dead := [86, 8]) (by kernel_rfl) rfl (by simp [h24, h25])) ?_
        obtain ⟨r4, h26, hr⟩ := bind_some' hr
        refine AWp.then ⟨[⟨11, none, .lit (.int .i64 r4.1)⟩, ⟨10, none, .lit (.int .i64 r3.1)⟩, ⟨7, none, .ptr 6 0⟩, ⟨3, none, .ptr 0 0⟩, ⟨1, none, .lit (.int .i64 x1)⟩, ⟨2, none, .lit (.int .i64 x2)⟩], [.blk x0.enc, .dead, .mapo (encM (kI .i64) (kI .i64) r4.2.fSched.fShare), .mapo (encM (kI .i64) (kI .i64) r4.2.fSched.fLeft), .blk [.lit (.int .i64 r4.2.fSched.fMost), .mp 2, .mp 3, .lit (.int .i64 r4.2.fSched.fAt), .lit (.bool r4.2.fSched.fGranted)], .own (EgressFlow.own .i64 r4.2.fFlows none) none, .blk (r4.2.fConfig.enc ++ [.mp 5, .ptr 4 0, .lit (.int .i64 r4.2.fCredit), .lit (.int .i64 r4.2.fSounds)])]⟩ (AWp.reg Try.tyOk hΓ (keep := [11]) (dead := []) (by kernel_rfl) rfl (by simp [h26])) ?_
        refine AWp.seq ?_
        refine AWp.then ⟨[⟨104, none, .lit (.bool (pickB (ltI x2 x0.fMost) true (ltI 16777216 x2)))⟩, ⟨11, none, .lit (.int .i64 r4.1)⟩, ⟨10, none, .lit (.int .i64 r3.1)⟩, ⟨7, none, .ptr 6 0⟩, ⟨1, none, .lit (.int .i64 x1)⟩], [.blk x0.enc, .dead, .mapo (encM (kI .i64) (kI .i64) r4.2.fSched.fShare), .mapo (encM (kI .i64) (kI .i64) r4.2.fSched.fLeft), .blk [.lit (.int .i64 r4.2.fSched.fMost), .mp 2, .mp 3, .lit (.int .i64 r4.2.fSched.fAt), .lit (.bool r4.2.fSched.fGranted)], .own (EgressFlow.own .i64 r4.2.fFlows none) none, .blk (r4.2.fConfig.enc ++ [.mp 5, .ptr 4 0, .lit (.int .i64 r4.2.fCredit), .lit (.int .i64 r4.2.fSounds)])]⟩ (AWp.reg Try.tyOk hΓ (keep := [104]) (dead := [3, 2]) (by kernel_rfl) rfl (by simp)) ?_
        refine AWp.cond (b := (pickB (ltI x2 x0.fMost) true (ltI 16777216 x2))) (by simp) (fun h27 => ?_) (fun h27 => ?_)
        · have hr := cond_t h27 hr
          refine AWp.then ⟨[⟨6, none, .lit (.bool (pickB (eqI r3.1 5) (eqI r4.1 0) false))⟩], [.blk x0.enc, .dead, .mapo (encM (kI .i64) (kI .i64) r4.2.fSched.fShare), .mapo (encM (kI .i64) (kI .i64) r4.2.fSched.fLeft), .blk [.lit (.int .i64 r4.2.fSched.fMost), .mp 2, .mp 3, .lit (.int .i64 r4.2.fSched.fAt), .lit (.bool r4.2.fSched.fGranted)], .own (EgressFlow.own .i64 r4.2.fFlows none) none, .blk (r4.2.fConfig.enc ++ [.mp 5, .ptr 4 0, .lit (.int .i64 r4.2.fCredit), .lit (.int .i64 r4.2.fSounds)])]⟩ (AWp.reg Try.tyOk hΓ (keep := [6]) (dead := [104, 11, 10, 7, 1]) (by kernel_rfl) rfl (by simp [h27])) ?_
          refine AWp.ret ?_
          obtain rfl := some_inj hr
          refine fin_ret ?_
          simp
        · have hr := cond_f h27 hr
          refine AWp.skip ?_
          obtain ⟨h28, hr⟩ := need_some hr
          refine AWp.then ⟨[⟨6, none, .lit (.bool (pickB (pickB (eqI r3.1 0) (eqI r4.1 10) false) ((gEgressOutBroken r4.2 x1).getD dflt) false))⟩], [.blk x0.enc, .dead, .mapo (encM (kI .i64) (kI .i64) r4.2.fSched.fShare), .mapo (encM (kI .i64) (kI .i64) r4.2.fSched.fLeft), .blk [.lit (.int .i64 r4.2.fSched.fMost), .mp 2, .mp 3, .lit (.int .i64 r4.2.fSched.fAt), .lit (.bool r4.2.fSched.fGranted)], .own (EgressFlow.own .i64 r4.2.fFlows none) none, .blk (r4.2.fConfig.enc ++ [.mp 5, .ptr 4 0, .lit (.int .i64 r4.2.fCredit), .lit (.int .i64 r4.2.fSounds)])]⟩ (AWp.reg Try.tyOk hΓ (keep := [6]) (dead := [104, 11, 10, 7, 1]) (by kernel_rfl) rfl (by simp [h27, h28])) ?_
          refine AWp.ret ?_
          obtain rfl := some_inj hr
          refine fin_ret ?_
          simp

end Go.Proofs

/- That these functions compute what their plain functions do. No condition. -/
import Derived.Test.YtefhipepfihloaaDiD
import Derived.Test.YtefhipepfihloaaTy
import Derived.Test.YtefhipepfihloaaDc
import Derived.Test.YtefhipepfihloaaDa
namespace Go.Proofs
open Go.Ab
@[simp] def gLaw19DrrIdle.out (_x0 : Int) (_x1 : Int) (_x2 : Int) (r : Bool) : Out := { av := .lit (.bool r), M := none }
def gLaw19DrrIdle.fin (x0 : Int) (x1 : Int) (x2 : Int) (r : Bool) (σ : St) : Prop := finK (gLaw19DrrIdle.out x0 x1 x2 r) [] σ.M (resA Try.ty σ.A σ.M Try.f5.results.toList)
set_option maxHeartbeats 4000000 in
set_option maxRecDepth 100000 in
theorem gLaw19DrrIdle.can (x0 : Int) (x1 : Int) (x2 : Int) (r : Bool) (hr : gLaw19DrrIdle x0 x1 x2 = some r) : CallOk Try.prog 5 [.lit (.int .i64 x0), .lit (.int .i64 x1), .lit (.int .i64 x2)] [] (gLaw19DrrIdle.out x0 x1 x2 r) := by
  unfold gLaw19DrrIdle at hr
  have hΓ := (gamL_cons gDrrSchedAdd.ok (gamL_cons gDrrSchedChoose.ok (gamL_cons gDrrSchedLeft.ok (gamL_cons gDrrSchedTake.ok (gamL_cons gLaw19Awake.ok (gamL_cons gDrrNew.ok (gamL_nil)))))) : GamOk Try.prog _)
  refine call_of_awp Try.tyOk Try.func5 rfl (by kernel_rfl) rfl rfl (by simp) ?_
  intro _ _ _
  refine AWp.then ⟨[⟨0, none, .lit (.int .i64 x0)⟩, ⟨1, none, .lit (.int .i64 x1)⟩, ⟨2, none, .lit (.int .i64 x2)⟩], []⟩ (AWp.reg Try.tyOk hΓ (keep := []) (dead := []) (by kernel_rfl) rfl (by simp)) ?_
  refine AWp.then ⟨[⟨0, none, .lit (.int .i64 (addI .i64 1 (bitsOp .and .i64 x0 63)))⟩, ⟨1, none, .lit (.int .i64 x1)⟩, ⟨2, none, .lit (.int .i64 x2)⟩], []⟩ (AWp.reg Try.tyOk hΓ (keep := [0]) (dead := []) (by kernel_rfl) rfl (by simp)) ?_
  refine AWp.then ⟨[⟨1, none, .lit (.int .i64 (addI .i64 (addI .i64 1 (bitsOp .and .i64 x0 63)) (bitsOp .and .i64 x1 255)))⟩, ⟨0, none, .lit (.int .i64 (addI .i64 1 (bitsOp .and .i64 x0 63)))⟩, ⟨2, none, .lit (.int .i64 x2)⟩], []⟩ (AWp.reg Try.tyOk hΓ (keep := [1]) (dead := []) (by kernel_rfl) rfl (by simp)) ?_
  obtain ⟨r1, h22, hr⟩ := bind_some' hr
  cases h23 : r1.1 with
  | none =>
    have hr := optC_n h23 hr
    refine AWp.then ⟨[⟨7, none, .lit (.pointer none)⟩, ⟨8, none, .lit (.int .i64 r1.2)⟩, ⟨1, none, .lit (.int .i64 (addI .i64 (addI .i64 1 (bitsOp .and .i64 x0 63)) (bitsOp .and .i64 x1 255)))⟩, ⟨0, none, .lit (.int .i64 (addI .i64 1 (bitsOp .and .i64 x0 63)))⟩, ⟨2, none, .lit (.int .i64 x2)⟩], []⟩ (AWp.reg Try.tyOk hΓ (keep := [7, 8]) (dead := []) (by kernel_rfl) rfl (by simp [h22, h23])) ?_
    refine AWp.seq ?_
    obtain ⟨r2, h24, hr⟩ := bind_some' hr
    cases h25 : (pickB (notB r2) true (neI r1.2 0)) with
    | true =>
      have hr := cond_t h25 hr
      refine AWp.then ⟨[⟨43, none, .lit (.bool true)⟩, ⟨7, none, .lit (.pointer none)⟩, ⟨1, none, .lit (.int .i64 (addI .i64 (addI .i64 1 (bitsOp .and .i64 x0 63)) (bitsOp .and .i64 x1 255)))⟩, ⟨0, none, .lit (.int .i64 (addI .i64 1 (bitsOp .and .i64 x0 63)))⟩, ⟨2, none, .lit (.int .i64 x2)⟩], []⟩ (AWp.regG Try.tyOk hΓ [(32, true), (38, true)] (keep := [43]) (dead := [8]) (by kernel_rfl) rfl (by simp [h24, h25])) ?_
      refine AWp.cond (b := true) (by simp) (fun hb => ?_) (fun hb => ?_)
      · refine AWp.then ⟨[⟨6, none, .lit (.bool false)⟩], []⟩ (AWp.reg Try.tyOk hΓ (keep := [6]) (dead := [43, 7, 1, 0, 2]) (by kernel_rfl) rfl (by simp)) ?_
        refine AWp.ret ?_
        obtain rfl := some_inj hr
        refine fin_ret ?_
        simp
      · cases hb
    | false =>
      have hr := cond_f h25 hr
      cases hr
  | some o1 =>
    have hr := optC_s h23 hr
    refine AWp.then ⟨[⟨7, none, .ptr 2 0⟩, ⟨8, none, .lit (.int .i64 r1.2)⟩, ⟨1, none, .lit (.int .i64 (addI .i64 (addI .i64 1 (bitsOp .and .i64 x0 63)) (bitsOp .and .i64 x1 255)))⟩, ⟨0, none, .lit (.int .i64 (addI .i64 1 (bitsOp .and .i64 x0 63)))⟩, ⟨2, none, .lit (.int .i64 x2)⟩], [.mapo (encM (kI .i64) (kI .i64) o1.fShare), .mapo (encM (kI .i64) (kI .i64) o1.fLeft), .blk [.lit (.int .i64 o1.fMost), .mp 0, .mp 1, .lit (.int .i64 o1.fAt), .lit (.bool o1.fGranted)]]⟩ (AWp.reg Try.tyOk hΓ (keep := [7, 8]) (dead := []) (by kernel_rfl) rfl (by simp [h22, h23])) ?_
    refine AWp.seq ?_
    obtain ⟨r2, h26, hr⟩ := bind_some' hr
    cases h27 : (pickB (notB r2) true (neI r1.2 0)) with
    | true =>
      have hr := cond_t h27 hr
      refine AWp.then ⟨[⟨43, none, .lit (.bool true)⟩, ⟨7, none, .ptr 2 0⟩, ⟨1, none, .lit (.int .i64 (addI .i64 (addI .i64 1 (bitsOp .and .i64 x0 63)) (bitsOp .and .i64 x1 255)))⟩, ⟨0, none, .lit (.int .i64 (addI .i64 1 (bitsOp .and .i64 x0 63)))⟩, ⟨2, none, .lit (.int .i64 x2)⟩], [.mapo (encM (kI .i64) (kI .i64) o1.fShare), .mapo (encM (kI .i64) (kI .i64) o1.fLeft), .blk [.lit (.int .i64 o1.fMost), .mp 0, .mp 1, .lit (.int .i64 o1.fAt), .lit (.bool o1.fGranted)]]⟩ (AWp.regG Try.tyOk hΓ [(32, true), (38, true)] (keep := [43]) (dead := [8]) (by kernel_rfl) rfl (by simp [h26, h27])) ?_
      refine AWp.cond (b := true) (by simp) (fun hb => ?_) (fun hb => ?_)
      · refine AWp.then ⟨[⟨6, none, .lit (.bool false)⟩], [.mapo (encM (kI .i64) (kI .i64) o1.fShare), .mapo (encM (kI .i64) (kI .i64) o1.fLeft), .blk [.lit (.int .i64 o1.fMost), .mp 0, .mp 1, .lit (.int .i64 o1.fAt), .lit (.bool o1.fGranted)]]⟩ (AWp.reg Try.tyOk hΓ (keep := [6]) (dead := [43, 7, 1, 0, 2]) (by kernel_rfl) rfl (by simp)) ?_
        refine AWp.ret ?_
        obtain rfl := some_inj hr
        refine fin_ret ?_
        simp
      · cases hb
    | false =>
      have hr := cond_f h27 hr
      obtain ⟨r3, h28, hr⟩ := bind_some' hr
      cases h29 : (neI r3.1 0) with
      | true =>
        have hr := cond_t h29 hr
        refine AWp.then ⟨[⟨43, none, .lit (.bool true)⟩, ⟨7, none, .ptr 2 0⟩, ⟨1, none, .lit (.int .i64 (addI .i64 (addI .i64 1 (bitsOp .and .i64 x0 63)) (bitsOp .and .i64 x1 255)))⟩, ⟨0, none, .lit (.int .i64 (addI .i64 1 (bitsOp .and .i64 x0 63)))⟩, ⟨2, none, .lit (.int .i64 x2)⟩], [.mapo (encM (kI .i64) (kI .i64) r3.2.fShare), .mapo (encM (kI .i64) (kI .i64) r3.2.fLeft), .blk [.lit (.int .i64 r3.2.fMost), .mp 0, .mp 1, .lit (.int .i64 r3.2.fAt), .lit (.bool r3.2.fGranted)]]⟩ (AWp.regG Try.tyOk hΓ [(32, false), (38, true)] (keep := [43]) (dead := [8]) (by kernel_rfl) rfl (by simp [h26, h27, h28, h29])) ?_
        refine AWp.cond (b := true) (by simp) (fun hb => ?_) (fun hb => ?_)
        · refine AWp.then ⟨[⟨6, none, .lit (.bool false)⟩], [.mapo (encM (kI .i64) (kI .i64) r3.2.fShare), .mapo (encM (kI .i64) (kI .i64) r3.2.fLeft), .blk [.lit (.int .i64 r3.2.fMost), .mp 0, .mp 1, .lit (.int .i64 r3.2.fAt), .lit (.bool r3.2.fGranted)]]⟩ (AWp.reg Try.tyOk hΓ (keep := [6]) (dead := [43, 7, 1, 0, 2]) (by kernel_rfl) rfl (by simp)) ?_
          refine AWp.ret ?_
          obtain rfl := some_inj hr
          refine fin_ret ?_
          simp
        · cases hb
      | false =>
        have hr := cond_f h29 hr
        obtain ⟨r4, h30, hr⟩ := bind_some' hr
        refine AWp.then ⟨[⟨43, none, .lit (.bool (neI r4.1 0))⟩, ⟨7, none, .ptr 2 0⟩, ⟨1, none, .lit (.int .i64 (addI .i64 (addI .i64 1 (bitsOp .and .i64 x0 63)) (bitsOp .and .i64 x1 255)))⟩, ⟨0, none, .lit (.int .i64 (addI .i64 1 (bitsOp .and .i64 x0 63)))⟩, ⟨2, none, .lit (.int .i64 x2)⟩], [.mapo (encM (kI .i64) (kI .i64) r4.2.fShare), .mapo (encM (kI .i64) (kI .i64) r4.2.fLeft), .blk [.lit (.int .i64 r4.2.fMost), .mp 0, .mp 1, .lit (.int .i64 r4.2.fAt), .lit (.bool r4.2.fGranted)]]⟩ (AWp.regG Try.tyOk hΓ [(32, false), (38, false)] (keep := [43]) (dead := [8]) (by kernel_rfl) rfl (by simp [h26, h27, h28, h29, h30])) ?_
        refine AWp.cond (b := (neI r4.1 0)) (by simp) (fun h31 => ?_) (fun h31 => ?_)
        · have hr := cond_t h31 hr
          refine AWp.then ⟨[⟨6, none, .lit (.bool false)⟩], [.mapo (encM (kI .i64) (kI .i64) r4.2.fShare), .mapo (encM (kI .i64) (kI .i64) r4.2.fLeft), .blk [.lit (.int .i64 r4.2.fMost), .mp 0, .mp 1, .lit (.int .i64 r4.2.fAt), .lit (.bool r4.2.fGranted)]]⟩ (AWp.reg Try.tyOk hΓ (keep := [6]) (dead := [43, 7, 1, 0, 2]) (by kernel_rfl) rfl (by simp [h31])) ?_
          refine AWp.ret ?_
          obtain rfl := some_inj hr
          refine fin_ret ?_
          simp
        · have hr := cond_f h31 hr
          refine AWp.skip ?_
          refine AWp.seq ?_
          refine AWp.then ⟨[⟨46, none, .lit (.int .i64 (minI (maxI x2 0) 60))⟩, ⟨47, none, .lit (.int .i64 0)⟩, ⟨7, none, .ptr 2 0⟩, ⟨1, none, .lit (.int .i64 (addI .i64 (addI .i64 1 (bitsOp .and .i64 x0 63)) (bitsOp .and .i64 x1 255)))⟩, ⟨0, none, .lit (.int .i64 (addI .i64 1 (bitsOp .and .i64 x0 63)))⟩], [.mapo (encM (kI .i64) (kI .i64) r4.2.fShare), .mapo (encM (kI .i64) (kI .i64) r4.2.fLeft), .blk [.lit (.int .i64 r4.2.fMost), .mp 0, .mp 1, .lit (.int .i64 r4.2.fAt), .lit (.bool r4.2.fGranted)]]⟩ (AWp.reg Try.tyOk hΓ (keep := [46, 47]) (dead := [43, 2]) (by kernel_rfl) rfl (by simp [h31])) ?_
          refine AWp.loopE (fun (s1 : Int × (List (Int × Int)) × (List (Int × Int)) × Int × Int × Bool) (γ1 : Unit) => ⟨[⟨46, none, .lit (.int .i64 (minI (maxI x2 0) 60))⟩, ⟨47, none, .lit (.int .i64 s1.1)⟩, ⟨7, none, .ptr 2 0⟩, ⟨1, none, .lit (.int .i64 (addI .i64 (addI .i64 1 (bitsOp .and .i64 x0 63)) (bitsOp .and .i64 x1 255)))⟩, ⟨0, none, .lit (.int .i64 (addI .i64 1 (bitsOp .and .i64 x0 63)))⟩], [.mapo (encM (kI .i64) (kI .i64) s1.2.1), .mapo (encM (kI .i64) (kI .i64) s1.2.2.1), .blk [.lit (.int .i64 s1.2.2.2.1), .mp 0, .mp 1, .lit (.int .i64 s1.2.2.2.2.1), .lit (.bool s1.2.2.2.2.2)]]⟩) (fun (v1 : (List (Int × Int)) × (List (Int × Int)) × Int × Int × Bool) (γ1a : Unit) => ⟨[⟨7, none, .ptr 2 0⟩, ⟨1, none, .lit (.int .i64 (addI .i64 (addI .i64 1 (bitsOp .and .i64 x0 63)) (bitsOp .and .i64 x1 255)))⟩, ⟨0, none, .lit (.int .i64 (addI .i64 1 (bitsOp .and .i64 x0 63)))⟩], [.mapo (encM (kI .i64) (kI .i64) v1.1), .mapo (encM (kI .i64) (kI .i64) v1.2.1), .blk [.lit (.int .i64 v1.2.2.1), .mp 0, .mp 1, .lit (.int .i64 v1.2.2.2.1), .lit (.bool v1.2.2.2.2)]]⟩) (gLaw19DrrIdle.fin x0 x1 x2) hr () 3 (by simp) (fun s1 f γ1 hr => ?_) (fun v1 γ1a σ1 m1 hr hc => ?_) (fun _ h => h)
          · unfold gLaw19DrrIdle.loop1 at hr
            refine AWp.then ⟨[⟨48, none, .lit (.bool (ltI s1.1 (minI (maxI x2 0) 60)))⟩, ⟨46, none, .lit (.int .i64 (minI (maxI x2 0) 60))⟩, ⟨47, none, .lit (.int .i64 s1.1)⟩, ⟨7, none, .ptr 2 0⟩, ⟨1, none, .lit (.int .i64 (addI .i64 (addI .i64 1 (bitsOp .and .i64 x0 63)) (bitsOp .and .i64 x1 255)))⟩, ⟨0, none, .lit (.int .i64 (addI .i64 1 (bitsOp .and .i64 x0 63)))⟩], [.mapo (encM (kI .i64) (kI .i64) s1.2.1), .mapo (encM (kI .i64) (kI .i64) s1.2.2.1), .blk [.lit (.int .i64 s1.2.2.2.1), .mp 0, .mp 1, .lit (.int .i64 s1.2.2.2.2.1), .lit (.bool s1.2.2.2.2.2)]]⟩ (AWp.reg Try.tyOk hΓ (keep := [48]) (dead := []) (by kernel_rfl) rfl (by simp)) ?_
            refine AWp.seq ?_
            refine AWp.cond (b := (ltI s1.1 (minI (maxI x2 0) 60))) (by simp) (fun h32 => ?_) (fun h32 => ?_)
            · have hr := cond_t h32 hr
              refine AWp.skip ?_
              refine AWp.seq ?_
              refine AWp.block ?_
              obtain ⟨r5, h33, hr⟩ := bind_some' hr
              refine AWp.then ⟨[⟨9, none, .lit (.int .i64 r5.1)⟩, ⟨10, none, .lit (.bool r5.2.1)⟩, ⟨46, none, .lit (.int .i64 (minI (maxI x2 0) 60))⟩, ⟨47, none, .lit (.int .i64 s1.1)⟩, ⟨7, none, .ptr 2 0⟩, ⟨1, none, .lit (.int .i64 (addI .i64 (addI .i64 1 (bitsOp .and .i64 x0 63)) (bitsOp .and .i64 x1 255)))⟩, ⟨0, none, .lit (.int .i64 (addI .i64 1 (bitsOp .and .i64 x0 63)))⟩], [.mapo (encM (kI .i64) (kI .i64) r5.2.2.fShare), .mapo (encM (kI .i64) (kI .i64) r5.2.2.fLeft), .blk [.lit (.int .i64 r5.2.2.fMost), .mp 0, .mp 1, .lit (.int .i64 r5.2.2.fAt), .lit (.bool r5.2.2.fGranted)]]⟩ (AWp.reg Try.tyOk hΓ (keep := [9, 10]) (dead := [48]) (by kernel_rfl) rfl (by simp [h32, h33])) ?_
              refine AWp.seq ?_
              obtain ⟨h34, hr⟩ := need_some hr
              refine AWp.then ⟨[⟨67, none, .lit (.bool (pickB (pickB (notB r5.2.1) true (neI r5.1 1)) true (neI ((gDrrSchedLeft r5.2.2 2).getD dflt) 0)))⟩, ⟨46, none, .lit (.int .i64 (minI (maxI x2 0) 60))⟩, ⟨47, none, .lit (.int .i64 s1.1)⟩, ⟨7, none, .ptr 2 0⟩, ⟨1, none, .lit (.int .i64 (addI .i64 (addI .i64 1 (bitsOp .and .i64 x0 63)) (bitsOp .and .i64 x1 255)))⟩, ⟨0, none, .lit (.int .i64 (addI .i64 1 (bitsOp .and .i64 x0 63)))⟩], [.mapo (encM (kI .i64) (kI .i64) r5.2.2.fShare), .mapo (encM (kI .i64) (kI .i64) r5.2.2.fLeft), .blk [.lit (.int .i64 r5.2.2.fMost), .mp 0, .mp 1, .lit (.int .i64 r5.2.2.fAt), .lit (.bool r5.2.2.fGranted)]]⟩ (AWp.reg Try.tyOk hΓ (keep := [67]) (dead := [9, 10]) (by kernel_rfl) rfl (by simp [h34])) ?_
              refine AWp.cond (b := (pickB (pickB (notB r5.2.1) true (neI r5.1 1)) true (neI ((gDrrSchedLeft r5.2.2 2).getD dflt) 0))) (by simp) (fun h35 => ?_) (fun h35 => ?_)
              · have hr := cond_t h35 hr
                refine AWp.then ⟨[⟨6, none, .lit (.bool false)⟩], [.mapo (encM (kI .i64) (kI .i64) r5.2.2.fShare), .mapo (encM (kI .i64) (kI .i64) r5.2.2.fLeft), .blk [.lit (.int .i64 r5.2.2.fMost), .mp 0, .mp 1, .lit (.int .i64 r5.2.2.fAt), .lit (.bool r5.2.2.fGranted)]]⟩ (AWp.reg Try.tyOk hΓ (keep := [6]) (dead := [67, 46, 47, 7, 1, 0]) (by kernel_rfl) rfl (by simp [h35])) ?_
                refine AWp.ret ?_
                obtain rfl := some_inj hr
                refine round_ret ?_
                refine fin_ret ?_
                simp
              · have hr := cond_f h35 hr
                refine AWp.skip ?_
                obtain ⟨r6, h36, hr⟩ := bind_some' hr
                refine AWp.last ⟨[⟨46, none, .lit (.int .i64 (minI (maxI x2 0) 60))⟩, ⟨47, none, .lit (.int .i64 s1.1)⟩, ⟨7, none, .ptr 2 0⟩, ⟨1, none, .lit (.int .i64 (addI .i64 (addI .i64 1 (bitsOp .and .i64 x0 63)) (bitsOp .and .i64 x1 255)))⟩, ⟨0, none, .lit (.int .i64 (addI .i64 1 (bitsOp .and .i64 x0 63)))⟩], [.mapo (encM (kI .i64) (kI .i64) r6.fShare), .mapo (encM (kI .i64) (kI .i64) r6.fLeft), .blk [.lit (.int .i64 r6.fMost), .mp 0, .mp 1, .lit (.int .i64 r6.fAt), .lit (.bool r6.fGranted)]]⟩ (AWp.reg Try.tyOk hΓ (keep := []) (dead := [67]) (by kernel_rfl) rfl (by simp [h35, h36])) ?_
                refine AWp.last ⟨[⟨47, none, .lit (.int .i64 (addI .i64 s1.1 1))⟩, ⟨46, none, .lit (.int .i64 (minI (maxI x2 0) 60))⟩, ⟨7, none, .ptr 2 0⟩, ⟨1, none, .lit (.int .i64 (addI .i64 (addI .i64 1 (bitsOp .and .i64 x0 63)) (bitsOp .and .i64 x1 255)))⟩, ⟨0, none, .lit (.int .i64 (addI .i64 1 (bitsOp .and .i64 x0 63)))⟩], [.mapo (encM (kI .i64) (kI .i64) r6.fShare), .mapo (encM (kI .i64) (kI .i64) r6.fLeft), .blk [.lit (.int .i64 r6.fMost), .mp 0, .mp 1, .lit (.int .i64 r6.fAt), .lit (.bool r6.fGranted)]]⟩ (AWp.reg Try.tyOk hΓ (keep := [47]) (dead := []) (by kernel_rfl) rfl (by simp)) ?_
                obtain rfl := some_inj hr
                exact round_go () 3 (by simp)
            · have hr := cond_f h32 hr
              refine AWp.exit ?_
              obtain rfl := some_inj hr
              exact round_out () 3 (by simp)
          · refine AWp.conv hc ?_
            refine AWp.then ⟨[⟨11, none, .lit (.int .i64 0)⟩, ⟨7, none, .ptr 2 0⟩, ⟨1, none, .lit (.int .i64 (addI .i64 (addI .i64 1 (bitsOp .and .i64 x0 63)) (bitsOp .and .i64 x1 255)))⟩, ⟨0, none, .lit (.int .i64 (addI .i64 1 (bitsOp .and .i64 x0 63)))⟩], [.mapo (encM (kI .i64) (kI .i64) v1.1), .mapo (encM (kI .i64) (kI .i64) v1.2.1), .blk [.lit (.int .i64 v1.2.2.1), .mp 0, .mp 1, .lit (.int .i64 v1.2.2.2.1), .lit (.bool v1.2.2.2.2)]]⟩ (AWp.reg Try.tyOk hΓ (keep := [11]) (dead := []) (by kernel_rfl) rfl (by simp)) ?_
            refine AWp.seq ?_
            refine AWp.then ⟨[⟨72, none, .lit (.int .i64 0)⟩, ⟨11, none, .lit (.int .i64 0)⟩, ⟨7, none, .ptr 2 0⟩, ⟨1, none, .lit (.int .i64 (addI .i64 (addI .i64 1 (bitsOp .and .i64 x0 63)) (bitsOp .and .i64 x1 255)))⟩, ⟨0, none, .lit (.int .i64 (addI .i64 1 (bitsOp .and .i64 x0 63)))⟩], [.mapo (encM (kI .i64) (kI .i64) v1.1), .mapo (encM (kI .i64) (kI .i64) v1.2.1), .blk [.lit (.int .i64 v1.2.2.1), .mp 0, .mp 1, .lit (.int .i64 v1.2.2.2.1), .lit (.bool v1.2.2.2.2)]]⟩ (AWp.reg Try.tyOk hΓ (keep := [72]) (dead := []) (by kernel_rfl) rfl (by simp)) ?_
            refine AWp.loopE (fun (s2 : Int × Int × (List (Int × Int)) × (List (Int × Int)) × Int × Int × Bool) (γ2 : Unit) => ⟨[⟨72, none, .lit (.int .i64 s2.1)⟩, ⟨11, none, .lit (.int .i64 s2.2.1)⟩, ⟨7, none, .ptr 2 0⟩, ⟨1, none, .lit (.int .i64 (addI .i64 (addI .i64 1 (bitsOp .and .i64 x0 63)) (bitsOp .and .i64 x1 255)))⟩, ⟨0, none, .lit (.int .i64 (addI .i64 1 (bitsOp .and .i64 x0 63)))⟩], [.mapo (encM (kI .i64) (kI .i64) s2.2.2.1), .mapo (encM (kI .i64) (kI .i64) s2.2.2.2.1), .blk [.lit (.int .i64 s2.2.2.2.2.1), .mp 0, .mp 1, .lit (.int .i64 s2.2.2.2.2.2.1), .lit (.bool s2.2.2.2.2.2.2)]]⟩) (fun (v2 : Int × (List (Int × Int)) × (List (Int × Int)) × Int × Int × Bool) (γ2a : Unit) => ⟨[⟨11, none, .lit (.int .i64 v2.1)⟩, ⟨1, none, .lit (.int .i64 (addI .i64 (addI .i64 1 (bitsOp .and .i64 x0 63)) (bitsOp .and .i64 x1 255)))⟩, ⟨0, none, .lit (.int .i64 (addI .i64 1 (bitsOp .and .i64 x0 63)))⟩], [.mapo (encM (kI .i64) (kI .i64) v2.2.1), .mapo (encM (kI .i64) (kI .i64) v2.2.2.1), .blk [.lit (.int .i64 v2.2.2.2.1), .mp 0, .mp 1, .lit (.int .i64 v2.2.2.2.2.1), .lit (.bool v2.2.2.2.2.2)]]⟩) (gLaw19DrrIdle.fin x0 x1 x2) hr () 3 (by simp) (fun s2 f γ2 hr => ?_) (fun v2 γ2a σ1 m1 hr hc => ?_) (fun _ h => h)
            · unfold gLaw19DrrIdle.loop2 at hr
              refine AWp.then ⟨[⟨73, none, .lit (.bool (ltI s2.1 1200))⟩, ⟨72, none, .lit (.int .i64 s2.1)⟩, ⟨11, none, .lit (.int .i64 s2.2.1)⟩, ⟨7, none, .ptr 2 0⟩, ⟨1, none, .lit (.int .i64 (addI .i64 (addI .i64 1 (bitsOp .and .i64 x0 63)) (bitsOp .and .i64 x1 255)))⟩, ⟨0, none, .lit (.int .i64 (addI .i64 1 (bitsOp .and .i64 x0 63)))⟩], [.mapo (encM (kI .i64) (kI .i64) s2.2.2.1), .mapo (encM (kI .i64) (kI .i64) s2.2.2.2.1), .blk [.lit (.int .i64 s2.2.2.2.2.1), .mp 0, .mp 1, .lit (.int .i64 s2.2.2.2.2.2.1), .lit (.bool s2.2.2.2.2.2.2)]]⟩ (AWp.reg Try.tyOk hΓ (keep := [73]) (dead := []) (by kernel_rfl) rfl (by simp)) ?_
              refine AWp.seq ?_
              refine AWp.cond (b := (ltI s2.1 1200)) (by simp) (fun h37 => ?_) (fun h37 => ?_)
              · have hr := cond_t h37 hr
                refine AWp.skip ?_
                refine AWp.seq ?_
                refine AWp.block ?_
                obtain ⟨r7, h38, hr⟩ := bind_some' hr
                refine AWp.then ⟨[⟨12, none, .lit (.int .i64 r7.1)⟩, ⟨13, none, .lit (.bool r7.2.1)⟩, ⟨72, none, .lit (.int .i64 s2.1)⟩, ⟨11, none, .lit (.int .i64 s2.2.1)⟩, ⟨7, none, .ptr 2 0⟩, ⟨1, none, .lit (.int .i64 (addI .i64 (addI .i64 1 (bitsOp .and .i64 x0 63)) (bitsOp .and .i64 x1 255)))⟩, ⟨0, none, .lit (.int .i64 (addI .i64 1 (bitsOp .and .i64 x0 63)))⟩], [.mapo (encM (kI .i64) (kI .i64) r7.2.2.fShare), .mapo (encM (kI .i64) (kI .i64) r7.2.2.fLeft), .blk [.lit (.int .i64 r7.2.2.fMost), .mp 0, .mp 1, .lit (.int .i64 r7.2.2.fAt), .lit (.bool r7.2.2.fGranted)]]⟩ (AWp.reg Try.tyOk hΓ (keep := [12, 13]) (dead := [73]) (by kernel_rfl) rfl (by simp [h37, h38])) ?_
                refine AWp.seq ?_
                refine AWp.then ⟨[⟨85, none, .lit (.bool (notB r7.2.1))⟩, ⟨12, none, .lit (.int .i64 r7.1)⟩, ⟨72, none, .lit (.int .i64 s2.1)⟩, ⟨11, none, .lit (.int .i64 s2.2.1)⟩, ⟨7, none, .ptr 2 0⟩, ⟨1, none, .lit (.int .i64 (addI .i64 (addI .i64 1 (bitsOp .and .i64 x0 63)) (bitsOp .and .i64 x1 255)))⟩, ⟨0, none, .lit (.int .i64 (addI .i64 1 (bitsOp .and .i64 x0 63)))⟩], [.mapo (encM (kI .i64) (kI .i64) r7.2.2.fShare), .mapo (encM (kI .i64) (kI .i64) r7.2.2.fLeft), .blk [.lit (.int .i64 r7.2.2.fMost), .mp 0, .mp 1, .lit (.int .i64 r7.2.2.fAt), .lit (.bool r7.2.2.fGranted)]]⟩ (AWp.reg Try.tyOk hΓ (keep := [85]) (dead := [13]) (by kernel_rfl) rfl (by simp)) ?_
                refine AWp.cond (b := (notB r7.2.1)) (by simp) (fun h39 => ?_) (fun h39 => ?_)
                · have hr := cond_t h39 hr
                  refine AWp.then ⟨[⟨6, none, .lit (.bool false)⟩], [.mapo (encM (kI .i64) (kI .i64) r7.2.2.fShare), .mapo (encM (kI .i64) (kI .i64) r7.2.2.fLeft), .blk [.lit (.int .i64 r7.2.2.fMost), .mp 0, .mp 1, .lit (.int .i64 r7.2.2.fAt), .lit (.bool r7.2.2.fGranted)]]⟩ (AWp.reg Try.tyOk hΓ (keep := [6]) (dead := [85, 12, 72, 11, 7, 1, 0]) (by kernel_rfl) rfl (by simp [h39])) ?_
                  refine AWp.ret ?_
                  obtain rfl := some_inj hr
                  refine round_ret ?_
                  refine fin_ret ?_
                  simp
                · have hr := cond_f h39 hr
                  refine AWp.skip ?_
                  refine AWp.seq ?_
                  refine AWp.then ⟨[⟨91, none, .lit (.bool (pickB (eqI r7.1 1) (ltI 0 s2.2.1) false))⟩, ⟨12, none, .lit (.int .i64 r7.1)⟩, ⟨72, none, .lit (.int .i64 s2.1)⟩, ⟨11, none, .lit (.int .i64 s2.2.1)⟩, ⟨7, none, .ptr 2 0⟩, ⟨1, none, .lit (.int .i64 (addI .i64 (addI .i64 1 (bitsOp .and .i64 x0 63)) (bitsOp .and .i64 x1 255)))⟩, ⟨0, none, .lit (.int .i64 (addI .i64 1 (bitsOp .and .i64 x0 63)))⟩], [.mapo (encM (kI .i64) (kI .i64) r7.2.2.fShare), .mapo (encM (kI .i64) (kI .i64) r7.2.2.fLeft), .blk [.lit (.int .i64 r7.2.2.fMost), .mp 0, .mp 1, .lit (.int .i64 r7.2.2.fAt), .lit (.bool r7.2.2.fGranted)]]⟩ (AWp.reg Try.tyOk hΓ (keep := [91]) (dead := [85]) (by kernel_rfl) rfl (by simp [h39])) ?_
                  refine AWp.cond (b := (pickB (eqI r7.1 1) (ltI 0 s2.2.1) false)) (by simp) (fun h40 => ?_) (fun h40 => ?_)
                  · have hr := cond_t h40 hr
                    refine AWp.exit ?_
                    refine blockS_other (by decide) ?_
                    obtain rfl := some_inj hr
                    exact round_out () 3 (by simp)
                  · have hr := cond_f h40 hr
                    refine AWp.skip ?_
                    obtain ⟨r8, h41, hr⟩ := bind_some' hr
                    refine AWp.then ⟨[⟨12, none, .lit (.int .i64 r7.1)⟩, ⟨72, none, .lit (.int .i64 s2.1)⟩, ⟨11, none, .lit (.int .i64 s2.2.1)⟩, ⟨7, none, .ptr 2 0⟩, ⟨1, none, .lit (.int .i64 (addI .i64 (addI .i64 1 (bitsOp .and .i64 x0 63)) (bitsOp .and .i64 x1 255)))⟩, ⟨0, none, .lit (.int .i64 (addI .i64 1 (bitsOp .and .i64 x0 63)))⟩], [.mapo (encM (kI .i64) (kI .i64) r8.fShare), .mapo (encM (kI .i64) (kI .i64) r8.fLeft), .blk [.lit (.int .i64 r8.fMost), .mp 0, .mp 1, .lit (.int .i64 r8.fAt), .lit (.bool r8.fGranted)]]⟩ (AWp.reg Try.tyOk hΓ (keep := []) (dead := [91]) (by kernel_rfl) rfl (by simp [h40, h41])) ?_
                    refine AWp.then ⟨[⟨96, none, .lit (.bool (eqI r7.1 2))⟩, ⟨72, none, .lit (.int .i64 s2.1)⟩, ⟨11, none, .lit (.int .i64 s2.2.1)⟩, ⟨7, none, .ptr 2 0⟩, ⟨1, none, .lit (.int .i64 (addI .i64 (addI .i64 1 (bitsOp .and .i64 x0 63)) (bitsOp .and .i64 x1 255)))⟩, ⟨0, none, .lit (.int .i64 (addI .i64 1 (bitsOp .and .i64 x0 63)))⟩], [.mapo (encM (kI .i64) (kI .i64) r8.fShare), .mapo (encM (kI .i64) (kI .i64) r8.fLeft), .blk [.lit (.int .i64 r8.fMost), .mp 0, .mp 1, .lit (.int .i64 r8.fAt), .lit (.bool r8.fGranted)]]⟩ (AWp.reg Try.tyOk hΓ (keep := [96]) (dead := [12]) (by kernel_rfl) rfl (by simp)) ?_
                    refine AWp.cond (b := (eqI r7.1 2)) (by simp) (fun h42 => ?_) (fun h42 => ?_)
                    · have hr := cond_t h42 hr
                      refine AWp.last ⟨[⟨11, none, .lit (.int .i64 (addI .i64 s2.2.1 (addI .i64 1 (bitsOp .and .i64 x0 63))))⟩, ⟨72, none, .lit (.int .i64 s2.1)⟩, ⟨7, none, .ptr 2 0⟩, ⟨1, none, .lit (.int .i64 (addI .i64 (addI .i64 1 (bitsOp .and .i64 x0 63)) (bitsOp .and .i64 x1 255)))⟩, ⟨0, none, .lit (.int .i64 (addI .i64 1 (bitsOp .and .i64 x0 63)))⟩], [.mapo (encM (kI .i64) (kI .i64) r8.fShare), .mapo (encM (kI .i64) (kI .i64) r8.fLeft), .blk [.lit (.int .i64 r8.fMost), .mp 0, .mp 1, .lit (.int .i64 r8.fAt), .lit (.bool r8.fGranted)]]⟩ (AWp.reg Try.tyOk hΓ (keep := [11]) (dead := [96]) (by kernel_rfl) rfl (by simp [h42])) ?_
                      refine AWp.last ⟨[⟨72, none, .lit (.int .i64 (addI .i64 s2.1 1))⟩, ⟨11, none, .lit (.int .i64 (addI .i64 s2.2.1 (addI .i64 1 (bitsOp .and .i64 x0 63))))⟩, ⟨7, none, .ptr 2 0⟩, ⟨1, none, .lit (.int .i64 (addI .i64 (addI .i64 1 (bitsOp .and .i64 x0 63)) (bitsOp .and .i64 x1 255)))⟩, ⟨0, none, .lit (.int .i64 (addI .i64 1 (bitsOp .and .i64 x0 63)))⟩], [.mapo (encM (kI .i64) (kI .i64) r8.fShare), .mapo (encM (kI .i64) (kI .i64) r8.fLeft), .blk [.lit (.int .i64 r8.fMost), .mp 0, .mp 1, .lit (.int .i64 r8.fAt), .lit (.bool r8.fGranted)]]⟩ (AWp.reg Try.tyOk hΓ (keep := [72]) (dead := []) (by kernel_rfl) rfl (by simp)) ?_
                      obtain rfl := some_inj hr
                      exact round_go () 3 (by simp)
                    · have hr := cond_f h42 hr
                      refine AWp.skip ?_
                      refine AWp.last ⟨[⟨72, none, .lit (.int .i64 (addI .i64 s2.1 1))⟩, ⟨11, none, .lit (.int .i64 s2.2.1)⟩, ⟨7, none, .ptr 2 0⟩, ⟨1, none, .lit (.int .i64 (addI .i64 (addI .i64 1 (bitsOp .and .i64 x0 63)) (bitsOp .and .i64 x1 255)))⟩, ⟨0, none, .lit (.int .i64 (addI .i64 1 (bitsOp .and .i64 x0 63)))⟩], [.mapo (encM (kI .i64) (kI .i64) r8.fShare), .mapo (encM (kI .i64) (kI .i64) r8.fLeft), .blk [.lit (.int .i64 r8.fMost), .mp 0, .mp 1, .lit (.int .i64 r8.fAt), .lit (.bool r8.fGranted)]]⟩ (AWp.reg Try.tyOk hΓ (keep := [72]) (dead := [96]) (by kernel_rfl) rfl (by simp [h42])) ?_
                      obtain rfl := some_inj hr
                      exact round_go () 3 (by simp)
              · have hr := cond_f h37 hr
                refine AWp.exit ?_
                obtain rfl := some_inj hr
                exact round_out () 3 (by simp)
            · refine AWp.conv hc ?_
              refine AWp.then ⟨[⟨6, none, .lit (.bool (pickB (pickB (ltI 0 v2.1) (leqI v2.1 (addI .i64 (addI .i64 1 (bitsOp .and .i64 x0 63)) (bitsOp .and .i64 x1 255))) false) (ltI (subI .i64 (addI .i64 (addI .i64 1 (bitsOp .and .i64 x0 63)) (bitsOp .and .i64 x1 255)) v2.1) (addI .i64 1 (bitsOp .and .i64 x0 63))) false))⟩], [.mapo (encM (kI .i64) (kI .i64) v2.2.1), .mapo (encM (kI .i64) (kI .i64) v2.2.2.1), .blk [.lit (.int .i64 v2.2.2.2.1), .mp 0, .mp 1, .lit (.int .i64 v2.2.2.2.2.1), .lit (.bool v2.2.2.2.2.2)]]⟩ (AWp.reg Try.tyOk hΓ (keep := [6]) (dead := [11, 1, 0]) (by kernel_rfl) rfl (by simp)) ?_
              refine AWp.ret ?_
              obtain rfl := some_inj hr
              refine fin_ret ?_
              simp

@[simp] noncomputable def gLaw19DrrIdle.S : Sp
  | [.lit (.int .i64 x0), .lit (.int .i64 x1), .lit (.int .i64 x2)], _ => some { av := .lit (.bool ((gLaw19DrrIdle x0 x1 x2).getD dflt)), M := none, obl := (gLaw19DrrIdle x0 x1 x2).isSome = true }
  | _, _ => none

set_option maxHeartbeats 1000000 in
theorem gLaw19DrrIdle.ok : SpecOk Try.prog 5 gLaw19DrrIdle.S := by
  intro l M out h
  unfold gLaw19DrrIdle.S at h
  split at h
  · rename_i x0 x1 x2
    cases h
    refine callOk_of fun ho => ?_
    have hs := ho
    obtain ⟨r, hr⟩ := Option.isSome_iff_exists.1 hs
    simp only [hr, Option.getD_some]
    have q := call_frame (M := M) [] (gLaw19DrrIdle.can x0 x1 x2 r hr) (by simp) rfl (by intro k i hk; simp at hk)
    exact callOk_conv q trivial (by simp) (by simp [frameOut, gLaw19DrrIdle.out]) (by simp [frameOut, gLaw19DrrIdle.out])
  · cases h
end Go.Proofs

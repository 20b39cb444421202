/- That these functions compute what their plain functions do. No condition. -/
import Derived.Test.YtkbfbedphdlgiaaRnD
import Derived.Test.YtkbfbedphdlgiaaTy
import Derived.Test.YtkbfbedphdlgiaaRo
import Derived.Test.YtkbfbedphdlgiaaRr
import Derived.Test.YtkbfbedphdlgiaaWr
namespace Go.Proofs
open Go.Ab
@[simp] def gLaw09ReorderNone.out (_x0 : Int) (_x1 : Int) (r : Bool) : Out := { av := .lit (.bool r), M := none }
def gLaw09ReorderNone.fin (x0 : Int) (x1 : Int) (r : Bool) (σ : St) : Prop := finK (gLaw09ReorderNone.out x0 x1 r) [] σ.M (resA Try.ty σ.A σ.M Try.f5.results.toList)
set_option maxHeartbeats 4000000 in
set_option maxRecDepth 100000 in
theorem gLaw09ReorderNone.can (x0 : Int) (x1 : Int) (r : Bool) (hr : gLaw09ReorderNone x0 x1 = some r) : CallOk Try.prog 5 [.lit (.int .i64 x0), .lit (.int .i64 x1)] [] (gLaw09ReorderNone.out x0 x1 r) := by
  unfold gLaw09ReorderNone at hr
  have hΓ := (gamL_cons gReorderBufferLen.ok (gamL_cons gReorderBufferLost.ok (gamL_cons gReorderBufferMissing.ok (gamL_cons gReorderBufferPut.ok (gamL_cons gLaw09Awake.ok (gamL_cons gReorderNew.ok (gamL_nil)))))) : GamOk Try.prog _)
  refine call_of_awp Try.tyOk Try.func5 rfl (by kernel_rfl) rfl rfl (by simp) ?_
  intro _ _ _
  refine AWp.then ⟨[⟨0, none, .lit (.int .i64 x0)⟩, ⟨1, none, .lit (.int .i64 x1)⟩], []⟩ (AWp.reg Try.tyOk hΓ (keep := []) (dead := []) (by kernel_rfl) rfl (by simp)) ?_
  refine AWp.seq ?_
  obtain ⟨r1, h23, hr⟩ := bind_some' hr
  refine AWp.then ⟨[⟨20, none, .lit (.bool (notB r1))⟩, ⟨0, none, .lit (.int .i64 x0)⟩, ⟨1, none, .lit (.int .i64 x1)⟩], []⟩ (AWp.reg Try.tyOk hΓ (keep := [20]) (dead := []) (by kernel_rfl) rfl (by simp [h23])) ?_
  refine AWp.cond (b := (notB r1)) (by simp) (fun h24 => ?_) (fun h24 => ?_)
  · have hr := cond_t h24 hr
    refine AWp.then ⟨[⟨4, none, .lit (.bool false)⟩], []⟩ (AWp.reg Try.tyOk hΓ (keep := [4]) (dead := [20, 0, 1]) (by kernel_rfl) rfl (by simp [h24])) ?_
    refine AWp.ret ?_
    obtain rfl := some_inj hr
    refine fin_ret ?_
    simp
  · have hr := cond_f h24 hr
    refine AWp.skip ?_
    obtain ⟨r2, h25, hr⟩ := bind_some' hr
    cases h26 : r2.1 with
    | none =>
      have hr := optC_n h26 hr
      refine AWp.then ⟨[⟨5, none, .lit (.pointer none)⟩, ⟨6, none, .lit (.int .i64 r2.2)⟩, ⟨0, none, .lit (.int .i64 x0)⟩, ⟨1, none, .lit (.int .i64 x1)⟩], []⟩ (AWp.reg Try.tyOk hΓ (keep := [5, 6]) (dead := [20]) (by kernel_rfl) rfl (by simp [h24, h25, h26])) ?_
      refine AWp.seq ?_
      refine AWp.then ⟨[⟨27, none, .lit (.bool (neI r2.2 0))⟩, ⟨5, none, .lit (.pointer none)⟩, ⟨0, none, .lit (.int .i64 x0)⟩, ⟨1, none, .lit (.int .i64 x1)⟩], []⟩ (AWp.reg Try.tyOk hΓ (keep := [27]) (dead := [6]) (by kernel_rfl) rfl (by simp)) ?_
      refine AWp.cond (b := (neI r2.2 0)) (by simp) (fun h27 => ?_) (fun h27 => ?_)
      · have hr := cond_t h27 hr
        refine AWp.then ⟨[⟨4, none, .lit (.bool false)⟩], []⟩ (AWp.reg Try.tyOk hΓ (keep := [4]) (dead := [27, 5, 0, 1]) (by kernel_rfl) rfl (by simp [h27])) ?_
        refine AWp.ret ?_
        obtain rfl := some_inj hr
        refine fin_ret ?_
        simp
      · have hr := cond_f h27 hr
        refine AWp.skip ?_
        refine AWp.then ⟨[⟨0, none, .lit (.int .i64 (bitsOp .and .i64 x0 31))⟩, ⟨1, none, .lit (.int .i64 (addI .i64 1 (bitsOp .and .i64 x1 15)))⟩, ⟨5, none, .lit (.pointer none)⟩], []⟩ (AWp.reg Try.tyOk hΓ (keep := [0, 1]) (dead := [27]) (by kernel_rfl) rfl (by simp [h27])) ?_
        refine AWp.seq ?_
        refine AWp.then ⟨[⟨34, none, .lit (.int .i64 (addI .i64 (bitsOp .and .i64 x0 31) 1))⟩, ⟨35, none, .lit (.int .i64 0)⟩, ⟨0, none, .lit (.int .i64 (bitsOp .and .i64 x0 31))⟩, ⟨1, none, .lit (.int .i64 (addI .i64 1 (bitsOp .and .i64 x1 15)))⟩, ⟨5, none, .lit (.pointer none)⟩], []⟩ (AWp.reg Try.tyOk hΓ (keep := [34, 35]) (dead := []) (by kernel_rfl) rfl (by simp)) ?_
        refine AWp.loopE (fun (s1 : Unit) (γ1 : Unit) => ⟨[⟨34, none, .lit (.int .i64 (addI .i64 (bitsOp .and .i64 x0 31) 1))⟩, ⟨35, none, .lit (.int .i64 0)⟩, ⟨0, none, .lit (.int .i64 (bitsOp .and .i64 x0 31))⟩, ⟨1, none, .lit (.int .i64 (addI .i64 1 (bitsOp .and .i64 x1 15)))⟩, ⟨5, none, .lit (.pointer none)⟩], []⟩) (fun (v1 : Unit) (γ1a : Unit) => ⟨[⟨0, none, .lit (.int .i64 (bitsOp .and .i64 x0 31))⟩, ⟨1, none, .lit (.int .i64 (addI .i64 1 (bitsOp .and .i64 x1 15)))⟩, ⟨5, none, .lit (.pointer none)⟩], []⟩) (gLaw09ReorderNone.fin x0 x1) hr () 0 (by simp) (fun s1 f γ1 hr => ?_) (fun v1 γ1a σ1 m1 hr hc => ?_) (fun _ h => h)
        · unfold gLaw09ReorderNone.loop1 at hr
          refine AWp.then ⟨[⟨36, none, .lit (.bool (ltI 0 (addI .i64 (bitsOp .and .i64 x0 31) 1)))⟩, ⟨34, none, .lit (.int .i64 (addI .i64 (bitsOp .and .i64 x0 31) 1))⟩, ⟨35, none, .lit (.int .i64 0)⟩, ⟨0, none, .lit (.int .i64 (bitsOp .and .i64 x0 31))⟩, ⟨1, none, .lit (.int .i64 (addI .i64 1 (bitsOp .and .i64 x1 15)))⟩, ⟨5, none, .lit (.pointer none)⟩], []⟩ (AWp.reg Try.tyOk hΓ (keep := [36]) (dead := []) (by kernel_rfl) rfl (by simp)) ?_
          refine AWp.seq ?_
          refine AWp.cond (b := (ltI 0 (addI .i64 (bitsOp .and .i64 x0 31) 1))) (by simp) (fun h28 => ?_) (fun h28 => ?_)
          · have hr := cond_t h28 hr
            refine AWp.skip ?_
            refine AWp.seq ?_
            refine AWp.block ?_
            refine AWp.then ⟨[⟨7, none, .lit (.int .i64 0)⟩, ⟨34, none, .lit (.int .i64 (addI .i64 (bitsOp .and .i64 x0 31) 1))⟩, ⟨35, none, .lit (.int .i64 0)⟩, ⟨0, none, .lit (.int .i64 (bitsOp .and .i64 x0 31))⟩, ⟨1, none, .lit (.int .i64 (addI .i64 1 (bitsOp .and .i64 x1 15)))⟩, ⟨5, none, .lit (.pointer none)⟩], []⟩ (AWp.reg Try.tyOk hΓ (keep := [7]) (dead := [36]) (by kernel_rfl) rfl (by simp [h28])) ?_
            refine AWp.seq ?_
            cases hr
          · have hr := cond_f h28 hr
            refine AWp.exit ?_
            obtain rfl := some_inj hr
            exact round_out () 0 (by simp)
        · refine AWp.conv hc ?_
          refine AWp.then ⟨[⟨10, none, .lit (.int .i64 (addI .i64 (bitsOp .and .i64 x0 31) 1))⟩, ⟨1, none, .lit (.int .i64 (addI .i64 1 (bitsOp .and .i64 x1 15)))⟩, ⟨5, none, .lit (.pointer none)⟩], []⟩ (AWp.reg Try.tyOk hΓ (keep := [10]) (dead := [0]) (by kernel_rfl) rfl (by simp)) ?_
          refine AWp.seq ?_
          cases hr
    | some o1 =>
      have hr := optC_s h26 hr
      refine AWp.then ⟨[⟨5, none, .ptr 2 0⟩, ⟨6, none, .lit (.int .i64 r2.2)⟩, ⟨0, none, .lit (.int .i64 x0)⟩, ⟨1, none, .lit (.int .i64 x1)⟩], [.dead, .mapo (encM (kI .i64) (vA Antiphonref09Thing.enc) o1.fOf), .blk [.lit (.int .i64 o1.fConfig.fMost), .lit (.int .i64 o1.fConfig.fWait), .lit (.bool o1.fBegun), .lit (.int .i64 o1.fNext), .mp 1, .lit (.int .i64 o1.fLost)]]⟩ (AWp.reg Try.tyOk hΓ (keep := [5, 6]) (dead := [20]) (by kernel_rfl) rfl (by simp [h24, h25, h26])) ?_
      refine AWp.seq ?_
      refine AWp.then ⟨[⟨27, none, .lit (.bool (neI r2.2 0))⟩, ⟨5, none, .ptr 2 0⟩, ⟨0, none, .lit (.int .i64 x0)⟩, ⟨1, none, .lit (.int .i64 x1)⟩], [.dead, .mapo (encM (kI .i64) (vA Antiphonref09Thing.enc) o1.fOf), .blk [.lit (.int .i64 o1.fConfig.fMost), .lit (.int .i64 o1.fConfig.fWait), .lit (.bool o1.fBegun), .lit (.int .i64 o1.fNext), .mp 1, .lit (.int .i64 o1.fLost)]]⟩ (AWp.reg Try.tyOk hΓ (keep := [27]) (dead := [6]) (by kernel_rfl) rfl (by simp)) ?_
      refine AWp.cond (b := (neI r2.2 0)) (by simp) (fun h29 => ?_) (fun h29 => ?_)
      · have hr := cond_t h29 hr
        refine AWp.then ⟨[⟨4, none, .lit (.bool false)⟩], [.dead, .mapo (encM (kI .i64) (vA Antiphonref09Thing.enc) o1.fOf), .blk [.lit (.int .i64 o1.fConfig.fMost), .lit (.int .i64 o1.fConfig.fWait), .lit (.bool o1.fBegun), .lit (.int .i64 o1.fNext), .mp 1, .lit (.int .i64 o1.fLost)]]⟩ (AWp.reg Try.tyOk hΓ (keep := [4]) (dead := [27, 5, 0, 1]) (by kernel_rfl) rfl (by simp [h29])) ?_
        refine AWp.ret ?_
        obtain rfl := some_inj hr
        refine fin_ret ?_
        simp
      · have hr := cond_f h29 hr
        refine AWp.skip ?_
        refine AWp.then ⟨[⟨0, none, .lit (.int .i64 (bitsOp .and .i64 x0 31))⟩, ⟨1, none, .lit (.int .i64 (addI .i64 1 (bitsOp .and .i64 x1 15)))⟩, ⟨5, none, .ptr 2 0⟩], [.dead, .mapo (encM (kI .i64) (vA Antiphonref09Thing.enc) o1.fOf), .blk [.lit (.int .i64 o1.fConfig.fMost), .lit (.int .i64 o1.fConfig.fWait), .lit (.bool o1.fBegun), .lit (.int .i64 o1.fNext), .mp 1, .lit (.int .i64 o1.fLost)]]⟩ (AWp.reg Try.tyOk hΓ (keep := [0, 1]) (dead := [27]) (by kernel_rfl) rfl (by simp [h29])) ?_
        refine AWp.seq ?_
        refine AWp.then ⟨[⟨34, none, .lit (.int .i64 (addI .i64 (bitsOp .and .i64 x0 31) 1))⟩, ⟨35, none, .lit (.int .i64 0)⟩, ⟨0, none, .lit (.int .i64 (bitsOp .and .i64 x0 31))⟩, ⟨1, none, .lit (.int .i64 (addI .i64 1 (bitsOp .and .i64 x1 15)))⟩, ⟨5, none, .ptr 2 0⟩], [.dead, .mapo (encM (kI .i64) (vA Antiphonref09Thing.enc) o1.fOf), .blk [.lit (.int .i64 o1.fConfig.fMost), .lit (.int .i64 o1.fConfig.fWait), .lit (.bool o1.fBegun), .lit (.int .i64 o1.fNext), .mp 1, .lit (.int .i64 o1.fLost)]]⟩ (AWp.reg Try.tyOk hΓ (keep := [34, 35]) (dead := []) (by kernel_rfl) rfl (by simp)) ?_
        refine AWp.loopE (fun (s2 : Int × (List (Int × Antiphonref09Thing)) × ReorderConfig × Bool × Int × Int) (γ2 : Unit) => ⟨[⟨34, none, .lit (.int .i64 (addI .i64 (bitsOp .and .i64 x0 31) 1))⟩, ⟨35, none, .lit (.int .i64 s2.1)⟩, ⟨0, none, .lit (.int .i64 (bitsOp .and .i64 x0 31))⟩, ⟨1, none, .lit (.int .i64 (addI .i64 1 (bitsOp .and .i64 x1 15)))⟩, ⟨5, none, .ptr 2 0⟩], [.dead, .mapo (encM (kI .i64) (vA Antiphonref09Thing.enc) s2.2.1), .blk [.lit (.int .i64 s2.2.2.1.fMost), .lit (.int .i64 s2.2.2.1.fWait), .lit (.bool s2.2.2.2.1), .lit (.int .i64 s2.2.2.2.2.1), .mp 1, .lit (.int .i64 s2.2.2.2.2.2)]]⟩) (fun (v2 : (List (Int × Antiphonref09Thing)) × ReorderConfig × Bool × Int × Int) (γ2a : Unit) => ⟨[⟨0, none, .lit (.int .i64 (bitsOp .and .i64 x0 31))⟩, ⟨1, none, .lit (.int .i64 (addI .i64 1 (bitsOp .and .i64 x1 15)))⟩, ⟨5, none, .ptr 2 0⟩], [.dead, .mapo (encM (kI .i64) (vA Antiphonref09Thing.enc) v2.1), .blk [.lit (.int .i64 v2.2.1.fMost), .lit (.int .i64 v2.2.1.fWait), .lit (.bool v2.2.2.1), .lit (.int .i64 v2.2.2.2.1), .mp 1, .lit (.int .i64 v2.2.2.2.2)]]⟩) (gLaw09ReorderNone.fin x0 x1) hr () 3 (by simp) (fun s2 f γ2 hr => ?_) (fun v2 γ2a σ1 m1 hr hc => ?_) (fun _ h => h)
        · unfold gLaw09ReorderNone.loop2 at hr
          refine AWp.then ⟨[⟨36, none, .lit (.bool (ltI s2.1 (addI .i64 (bitsOp .and .i64 x0 31) 1)))⟩, ⟨34, none, .lit (.int .i64 (addI .i64 (bitsOp .and .i64 x0 31) 1))⟩, ⟨35, none, .lit (.int .i64 s2.1)⟩, ⟨0, none, .lit (.int .i64 (bitsOp .and .i64 x0 31))⟩, ⟨1, none, .lit (.int .i64 (addI .i64 1 (bitsOp .and .i64 x1 15)))⟩, ⟨5, none, .ptr 2 0⟩], [.dead, .mapo (encM (kI .i64) (vA Antiphonref09Thing.enc) s2.2.1), .blk [.lit (.int .i64 s2.2.2.1.fMost), .lit (.int .i64 s2.2.2.1.fWait), .lit (.bool s2.2.2.2.1), .lit (.int .i64 s2.2.2.2.2.1), .mp 1, .lit (.int .i64 s2.2.2.2.2.2)]]⟩ (AWp.reg Try.tyOk hΓ (keep := [36]) (dead := []) (by kernel_rfl) rfl (by simp)) ?_
          refine AWp.seq ?_
          refine AWp.cond (b := (ltI s2.1 (addI .i64 (bitsOp .and .i64 x0 31) 1))) (by simp) (fun h30 => ?_) (fun h30 => ?_)
          · have hr := cond_t h30 hr
            refine AWp.skip ?_
            refine AWp.seq ?_
            refine AWp.block ?_
            refine AWp.then ⟨[⟨7, none, .lit (.int .i64 s2.1)⟩, ⟨34, none, .lit (.int .i64 (addI .i64 (bitsOp .and .i64 x0 31) 1))⟩, ⟨35, none, .lit (.int .i64 s2.1)⟩, ⟨0, none, .lit (.int .i64 (bitsOp .and .i64 x0 31))⟩, ⟨1, none, .lit (.int .i64 (addI .i64 1 (bitsOp .and .i64 x1 15)))⟩, ⟨5, none, .ptr 2 0⟩], [.dead, .mapo (encM (kI .i64) (vA Antiphonref09Thing.enc) s2.2.1), .blk [.lit (.int .i64 s2.2.2.1.fMost), .lit (.int .i64 s2.2.2.1.fWait), .lit (.bool s2.2.2.2.1), .lit (.int .i64 s2.2.2.2.2.1), .mp 1, .lit (.int .i64 s2.2.2.2.2.2)]]⟩ (AWp.reg Try.tyOk hΓ (keep := [7]) (dead := [36]) (by kernel_rfl) rfl (by simp [h30])) ?_
            obtain ⟨r3, h31, hr⟩ := bind_some' hr
            refine AWp.then ⟨[⟨8, none, .sl (r3.1.map Antiphonref09Thing.enc) .no⟩, ⟨9, none, .lit (.int .i64 r3.2.1)⟩, ⟨34, none, .lit (.int .i64 (addI .i64 (bitsOp .and .i64 x0 31) 1))⟩, ⟨35, none, .lit (.int .i64 s2.1)⟩, ⟨0, none, .lit (.int .i64 (bitsOp .and .i64 x0 31))⟩, ⟨1, none, .lit (.int .i64 (addI .i64 1 (bitsOp .and .i64 x1 15)))⟩, ⟨5, none, .ptr 2 0⟩], [.dead, .mapo (encM (kI .i64) (vA Antiphonref09Thing.enc) r3.2.2.fOf), .blk [.lit (.int .i64 r3.2.2.fConfig.fMost), .lit (.int .i64 r3.2.2.fConfig.fWait), .lit (.bool r3.2.2.fBegun), .lit (.int .i64 r3.2.2.fNext), .mp 1, .lit (.int .i64 r3.2.2.fLost)]]⟩ (AWp.reg Try.tyOk hΓ (keep := [8, 9]) (dead := [7]) (by kernel_rfl) rfl (by simp [h31])) ?_
            obtain ⟨h32, hr⟩ := need_some hr
            refine AWp.then ⟨[⟨56, none, .lit (.bool (pickB (pickB (neI r3.2.1 0) true (neI (lenL r3.1) 1)) true (neI ((gReorderBufferLen r3.2.2).getD dflt) 0)))⟩, ⟨34, none, .lit (.int .i64 (addI .i64 (bitsOp .and .i64 x0 31) 1))⟩, ⟨35, none, .lit (.int .i64 s2.1)⟩, ⟨0, none, .lit (.int .i64 (bitsOp .and .i64 x0 31))⟩, ⟨1, none, .lit (.int .i64 (addI .i64 1 (bitsOp .and .i64 x1 15)))⟩, ⟨5, none, .ptr 2 0⟩], [.dead, .mapo (encM (kI .i64) (vA Antiphonref09Thing.enc) r3.2.2.fOf), .blk [.lit (.int .i64 r3.2.2.fConfig.fMost), .lit (.int .i64 r3.2.2.fConfig.fWait), .lit (.bool r3.2.2.fBegun), .lit (.int .i64 r3.2.2.fNext), .mp 1, .lit (.int .i64 r3.2.2.fLost)]]⟩ (AWp.reg Try.tyOk hΓ (keep := [56]) (dead := [8, 9]) (by kernel_rfl) rfl (by simp [h32])) ?_
            refine AWp.cond (b := (pickB (pickB (neI r3.2.1 0) true (neI (lenL r3.1) 1)) true (neI ((gReorderBufferLen r3.2.2).getD dflt) 0))) (by simp) (fun h33 => ?_) (fun h33 => ?_)
            · have hr := cond_t h33 hr
              refine AWp.then ⟨[⟨4, none, .lit (.bool false)⟩], [.dead, .mapo (encM (kI .i64) (vA Antiphonref09Thing.enc) r3.2.2.fOf), .blk [.lit (.int .i64 r3.2.2.fConfig.fMost), .lit (.int .i64 r3.2.2.fConfig.fWait), .lit (.bool r3.2.2.fBegun), .lit (.int .i64 r3.2.2.fNext), .mp 1, .lit (.int .i64 r3.2.2.fLost)]]⟩ (AWp.reg Try.tyOk hΓ (keep := [4]) (dead := [56, 34, 35, 0, 1, 5]) (by kernel_rfl) rfl (by simp [h33])) ?_
              refine AWp.ret ?_
              obtain rfl := some_inj hr
              refine round_ret ?_
              refine fin_ret ?_
              simp
            · have hr := cond_f h33 hr
              refine AWp.skip ?_
              refine AWp.last ⟨[⟨35, none, .lit (.int .i64 (addI .i64 s2.1 1))⟩, ⟨34, none, .lit (.int .i64 (addI .i64 (bitsOp .and .i64 x0 31) 1))⟩, ⟨0, none, .lit (.int .i64 (bitsOp .and .i64 x0 31))⟩, ⟨1, none, .lit (.int .i64 (addI .i64 1 (bitsOp .and .i64 x1 15)))⟩, ⟨5, none, .ptr 2 0⟩], [.dead, .mapo (encM (kI .i64) (vA Antiphonref09Thing.enc) r3.2.2.fOf), .blk [.lit (.int .i64 r3.2.2.fConfig.fMost), .lit (.int .i64 r3.2.2.fConfig.fWait), .lit (.bool r3.2.2.fBegun), .lit (.int .i64 r3.2.2.fNext), .mp 1, .lit (.int .i64 r3.2.2.fLost)]]⟩ (AWp.reg Try.tyOk hΓ (keep := [35]) (dead := [56]) (by kernel_rfl) rfl (by simp [h33])) ?_
              obtain rfl := some_inj hr
              exact round_go () 3 (by simp)
          · have hr := cond_f h30 hr
            refine AWp.exit ?_
            obtain rfl := some_inj hr
            exact round_out () 3 (by simp)
        · refine AWp.conv hc ?_
          refine AWp.then ⟨[⟨10, none, .lit (.int .i64 (addI .i64 (bitsOp .and .i64 x0 31) 1))⟩, ⟨1, none, .lit (.int .i64 (addI .i64 1 (bitsOp .and .i64 x1 15)))⟩, ⟨5, none, .ptr 2 0⟩], [.dead, .mapo (encM (kI .i64) (vA Antiphonref09Thing.enc) v2.1), .blk [.lit (.int .i64 v2.2.1.fMost), .lit (.int .i64 v2.2.1.fWait), .lit (.bool v2.2.2.1), .lit (.int .i64 v2.2.2.2.1), .mp 1, .lit (.int .i64 v2.2.2.2.2)]]⟩ (AWp.reg Try.tyOk hΓ (keep := [10]) (dead := [0]) (by kernel_rfl) rfl (by simp)) ?_
          obtain ⟨r4, h34, hr⟩ := bind_some' hr
          refine AWp.then ⟨[⟨11, none, .sl (r4.1.map Antiphonref09Thing.enc) .no⟩, ⟨10, none, .lit (.int .i64 (addI .i64 (bitsOp .and .i64 x0 31) 1))⟩, ⟨1, none, .lit (.int .i64 (addI .i64 1 (bitsOp .and .i64 x1 15)))⟩, ⟨5, none, .ptr 2 0⟩], [.dead, .mapo (encM (kI .i64) (vA Antiphonref09Thing.enc) r4.2.2.fOf), .blk [.lit (.int .i64 r4.2.2.fConfig.fMost), .lit (.int .i64 r4.2.2.fConfig.fWait), .lit (.bool r4.2.2.fBegun), .lit (.int .i64 r4.2.2.fNext), .mp 1, .lit (.int .i64 r4.2.2.fLost)]]⟩ (AWp.reg Try.tyOk hΓ (keep := [11]) (dead := []) (by kernel_rfl) rfl (by simp [h34])) ?_
          obtain ⟨r5, h35, hr⟩ := bind_some' hr
          refine AWp.then ⟨[⟨13, none, .sl (r5.map (eNum .i64)) .no⟩, ⟨11, none, .sl (r4.1.map Antiphonref09Thing.enc) .no⟩, ⟨10, none, .lit (.int .i64 (addI .i64 (bitsOp .and .i64 x0 31) 1))⟩, ⟨1, none, .lit (.int .i64 (addI .i64 1 (bitsOp .and .i64 x1 15)))⟩, ⟨5, none, .ptr 2 0⟩], [.dead, .mapo (encM (kI .i64) (vA Antiphonref09Thing.enc) r4.2.2.fOf), .blk [.lit (.int .i64 r4.2.2.fConfig.fMost), .lit (.int .i64 r4.2.2.fConfig.fWait), .lit (.bool r4.2.2.fBegun), .lit (.int .i64 r4.2.2.fNext), .mp 1, .lit (.int .i64 r4.2.2.fLost)]]⟩ (AWp.reg Try.tyOk hΓ (keep := [13]) (dead := []) (by kernel_rfl) rfl (by simp [h35])) ?_
          refine AWp.seq ?_
          obtain ⟨h36, hr⟩ := need_some hr
          obtain ⟨h37, hr⟩ := need_some hr
          refine AWp.then ⟨[⟨98, none, .lit (.bool (pickB (pickB (pickB (neI (lenL r4.1) 0) true (neI (lenL r5) (addI .i64 1 (bitsOp .and .i64 x1 15)))) true (neI (nthI r5 0) (addI .i64 (bitsOp .and .i64 x0 31) 1))) true (neI (nthI r5 (subI .i64 (addI .i64 1 (bitsOp .and .i64 x1 15)) 1)) (subI .i64 (addI .i64 (addI .i64 (bitsOp .and .i64 x0 31) 1) (addI .i64 1 (bitsOp .and .i64 x1 15))) 1))))⟩, ⟨10, none, .lit (.int .i64 (addI .i64 (bitsOp .and .i64 x0 31) 1))⟩, ⟨1, none, .lit (.int .i64 (addI .i64 1 (bitsOp .and .i64 x1 15)))⟩, ⟨5, none, .ptr 2 0⟩], [.dead, .mapo (encM (kI .i64) (vA Antiphonref09Thing.enc) r4.2.2.fOf), .blk [.lit (.int .i64 r4.2.2.fConfig.fMost), .lit (.int .i64 r4.2.2.fConfig.fWait), .lit (.bool r4.2.2.fBegun), .lit (.int .i64 r4.2.2.fNext), .mp 1, .lit (.int .i64 r4.2.2.fLost)]]⟩ (AWp.reg Try.tyOk hΓ (keep := [98]) (dead := [13, 11]) (by kernel_rfl) rfl (by simp [h36, h37])) ?_
          refine AWp.cond (b := (pickB (pickB (pickB (neI (lenL r4.1) 0) true (neI (lenL r5) (addI .i64 1 (bitsOp .and .i64 x1 15)))) true (neI (nthI r5 0) (addI .i64 (bitsOp .and .i64 x0 31) 1))) true (neI (nthI r5 (subI .i64 (addI .i64 1 (bitsOp .and .i64 x1 15)) 1)) (subI .i64 (addI .i64 (addI .i64 (bitsOp .and .i64 x0 31) 1) (addI .i64 1 (bitsOp .and .i64 x1 15))) 1)))) (by simp) (fun h38 => ?_) (fun h38 => ?_)
          · have hr := cond_t h38 hr
            refine AWp.then ⟨[⟨4, none, .lit (.bool false)⟩], [.dead, .mapo (encM (kI .i64) (vA Antiphonref09Thing.enc) r4.2.2.fOf), .blk [.lit (.int .i64 r4.2.2.fConfig.fMost), .lit (.int .i64 r4.2.2.fConfig.fWait), .lit (.bool r4.2.2.fBegun), .lit (.int .i64 r4.2.2.fNext), .mp 1, .lit (.int .i64 r4.2.2.fLost)]]⟩ (AWp.reg Try.tyOk hΓ (keep := [4]) (dead := [98, 10, 1, 5]) (by kernel_rfl) rfl (by simp [h38])) ?_
            refine AWp.ret ?_
            obtain rfl := some_inj hr
            refine fin_ret ?_
            simp
          · have hr := cond_f h38 hr
            refine AWp.skip ?_
            refine AWp.seq ?_
            refine AWp.then ⟨[⟨14, none, .lit (.int .i64 (subI .i64 (addI .i64 1 (bitsOp .and .i64 x1 15)) 1))⟩, ⟨10, none, .lit (.int .i64 (addI .i64 (bitsOp .and .i64 x0 31) 1))⟩, ⟨1, none, .lit (.int .i64 (addI .i64 1 (bitsOp .and .i64 x1 15)))⟩, ⟨5, none, .ptr 2 0⟩], [.dead, .mapo (encM (kI .i64) (vA Antiphonref09Thing.enc) r4.2.2.fOf), .blk [.lit (.int .i64 r4.2.2.fConfig.fMost), .lit (.int .i64 r4.2.2.fConfig.fWait), .lit (.bool r4.2.2.fBegun), .lit (.int .i64 r4.2.2.fNext), .mp 1, .lit (.int .i64 r4.2.2.fLost)]]⟩ (AWp.reg Try.tyOk hΓ (keep := [14]) (dead := [98]) (by kernel_rfl) rfl (by simp [h38])) ?_
            refine AWp.loopE (fun (s3 : Int × (List (Int × Antiphonref09Thing)) × ReorderConfig × Bool × Int × Int) (γ3 : Unit) => ⟨[⟨14, none, .lit (.int .i64 s3.1)⟩, ⟨10, none, .lit (.int .i64 (addI .i64 (bitsOp .and .i64 x0 31) 1))⟩, ⟨1, none, .lit (.int .i64 (addI .i64 1 (bitsOp .and .i64 x1 15)))⟩, ⟨5, none, .ptr 2 0⟩], [.dead, .mapo (encM (kI .i64) (vA Antiphonref09Thing.enc) s3.2.1), .blk [.lit (.int .i64 s3.2.2.1.fMost), .lit (.int .i64 s3.2.2.1.fWait), .lit (.bool s3.2.2.2.1), .lit (.int .i64 s3.2.2.2.2.1), .mp 1, .lit (.int .i64 s3.2.2.2.2.2)]]⟩) (fun (v3 : (List (Int × Antiphonref09Thing)) × ReorderConfig × Bool × Int × Int) (γ3a : Unit) => ⟨[⟨10, none, .lit (.int .i64 (addI .i64 (bitsOp .and .i64 x0 31) 1))⟩, ⟨1, none, .lit (.int .i64 (addI .i64 1 (bitsOp .and .i64 x1 15)))⟩, ⟨5, none, .ptr 2 0⟩], [.dead, .mapo (encM (kI .i64) (vA Antiphonref09Thing.enc) v3.1), .blk [.lit (.int .i64 v3.2.1.fMost), .lit (.int .i64 v3.2.1.fWait), .lit (.bool v3.2.2.1), .lit (.int .i64 v3.2.2.2.1), .mp 1, .lit (.int .i64 v3.2.2.2.2)]]⟩) (gLaw09ReorderNone.fin x0 x1) hr () 3 (by simp) (fun s3 f γ3 hr => ?_) (fun v3 γ3a σ1 m1 hr hc => ?_) (fun _ h => h)
            · unfold gLaw09ReorderNone.loop3 at hr
              refine AWp.seq ?_
              refine AWp.then ⟨[⟨102, none, .lit (.bool (ltI 0 s3.1))⟩, ⟨14, none, .lit (.int .i64 s3.1)⟩, ⟨10, none, .lit (.int .i64 (addI .i64 (bitsOp .and .i64 x0 31) 1))⟩, ⟨1, none, .lit (.int .i64 (addI .i64 1 (bitsOp .and .i64 x1 15)))⟩, ⟨5, none, .ptr 2 0⟩], [.dead, .mapo (encM (kI .i64) (vA Antiphonref09Thing.enc) s3.2.1), .blk [.lit (.int .i64 s3.2.2.1.fMost), .lit (.int .i64 s3.2.2.1.fWait), .lit (.bool s3.2.2.2.1), .lit (.int .i64 s3.2.2.2.2.1), .mp 1, .lit (.int .i64 s3.2.2.2.2.2)]]⟩ (AWp.reg Try.tyOk hΓ (keep := [102]) (dead := []) (by kernel_rfl) rfl (by simp)) ?_
              refine AWp.cond (b := (ltI 0 s3.1)) (by simp) (fun h39 => ?_) (fun h39 => ?_)
              · have hr := cond_t h39 hr
                refine AWp.skip ?_
                refine AWp.seq ?_
                refine AWp.block ?_
                obtain ⟨r6, h40, hr⟩ := bind_some' hr
                refine AWp.then ⟨[⟨15, none, .sl (r6.1.map Antiphonref09Thing.enc) .no⟩, ⟨14, none, .lit (.int .i64 s3.1)⟩, ⟨10, none, .lit (.int .i64 (addI .i64 (bitsOp .and .i64 x0 31) 1))⟩, ⟨1, none, .lit (.int .i64 (addI .i64 1 (bitsOp .and .i64 x1 15)))⟩, ⟨5, none, .ptr 2 0⟩], [.dead, .mapo (encM (kI .i64) (vA Antiphonref09Thing.enc) r6.2.2.fOf), .blk [.lit (.int .i64 r6.2.2.fConfig.fMost), .lit (.int .i64 r6.2.2.fConfig.fWait), .lit (.bool r6.2.2.fBegun), .lit (.int .i64 r6.2.2.fNext), .mp 1, .lit (.int .i64 r6.2.2.fLost)]]⟩ (AWp.reg Try.tyOk hΓ (keep := [15]) (dead := [102]) (by kernel_rfl) rfl (by simp [h39, h40])) ?_
                refine AWp.then ⟨[⟨116, none, .lit (.bool (neI (lenL r6.1) 0))⟩, ⟨14, none, .lit (.int .i64 s3.1)⟩, ⟨10, none, .lit (.int .i64 (addI .i64 (bitsOp .and .i64 x0 31) 1))⟩, ⟨1, none, .lit (.int .i64 (addI .i64 1 (bitsOp .and .i64 x1 15)))⟩, ⟨5, none, .ptr 2 0⟩], [.dead, .mapo (encM (kI .i64) (vA Antiphonref09Thing.enc) r6.2.2.fOf), .blk [.lit (.int .i64 r6.2.2.fConfig.fMost), .lit (.int .i64 r6.2.2.fConfig.fWait), .lit (.bool r6.2.2.fBegun), .lit (.int .i64 r6.2.2.fNext), .mp 1, .lit (.int .i64 r6.2.2.fLost)]]⟩ (AWp.reg Try.tyOk hΓ (keep := [116]) (dead := [15]) (by kernel_rfl) rfl (by simp)) ?_
                refine AWp.cond (b := (neI (lenL r6.1) 0)) (by simp) (fun h41 => ?_) (fun h41 => ?_)
                · have hr := cond_t h41 hr
                  refine AWp.then ⟨[⟨4, none, .lit (.bool false)⟩], [.dead, .mapo (encM (kI .i64) (vA Antiphonref09Thing.enc) r6.2.2.fOf), .blk [.lit (.int .i64 r6.2.2.fConfig.fMost), .lit (.int .i64 r6.2.2.fConfig.fWait), .lit (.bool r6.2.2.fBegun), .lit (.int .i64 r6.2.2.fNext), .mp 1, .lit (.int .i64 r6.2.2.fLost)]]⟩ (AWp.reg Try.tyOk hΓ (keep := [4]) (dead := [116, 14, 10, 1, 5]) (by kernel_rfl) rfl (by simp [h41])) ?_
                  refine AWp.ret ?_
                  obtain rfl := some_inj hr
                  refine round_ret ?_
                  refine fin_ret ?_
                  simp
                · have hr := cond_f h41 hr
                  refine AWp.skip ?_
                  refine AWp.last ⟨[⟨14, none, .lit (.int .i64 (subI .i64 s3.1 1))⟩, ⟨10, none, .lit (.int .i64 (addI .i64 (bitsOp .and .i64 x0 31) 1))⟩, ⟨1, none, .lit (.int .i64 (addI .i64 1 (bitsOp .and .i64 x1 15)))⟩, ⟨5, none, .ptr 2 0⟩], [.dead, .mapo (encM (kI .i64) (vA Antiphonref09Thing.enc) r6.2.2.fOf), .blk [.lit (.int .i64 r6.2.2.fConfig.fMost), .lit (.int .i64 r6.2.2.fConfig.fWait), .lit (.bool r6.2.2.fBegun), .lit (.int .i64 r6.2.2.fNext), .mp 1, .lit (.int .i64 r6.2.2.fLost)]]⟩ (AWp.reg Try.tyOk hΓ (keep := [14]) (dead := [116]) (by kernel_rfl) rfl (by simp [h41])) ?_
                  obtain rfl := some_inj hr
                  exact round_go () 3 (by simp)
              · have hr := cond_f h39 hr
                refine AWp.exit ?_
                obtain rfl := some_inj hr
                exact round_out () 3 (by simp)
            · refine AWp.conv hc ?_
              obtain ⟨r7, h42, hr⟩ := bind_some' hr
              refine AWp.then ⟨[⟨17, none, .sl (r7.1.map Antiphonref09Thing.enc) .no⟩, ⟨1, none, .lit (.int .i64 (addI .i64 1 (bitsOp .and .i64 x1 15)))⟩, ⟨5, none, .ptr 2 0⟩], [.dead, .mapo (encM (kI .i64) (vA Antiphonref09Thing.enc) r7.2.2.fOf), .blk [.lit (.int .i64 r7.2.2.fConfig.fMost), .lit (.int .i64 r7.2.2.fConfig.fWait), .lit (.bool r7.2.2.fBegun), .lit (.int .i64 r7.2.2.fNext), .mp 1, .lit (.int .i64 r7.2.2.fLost)]]⟩ (AWp.reg Try.tyOk hΓ (keep := [17]) (dead := [10]) (by kernel_rfl) rfl (by simp [h42])) ?_
              obtain ⟨h43, hr⟩ := need_some hr
              obtain ⟨h44, hr⟩ := need_some hr
              refine AWp.then ⟨[⟨4, none, .lit (.bool (pickB (pickB (eqI (lenL r7.1) (addI .i64 (addI .i64 1 (bitsOp .and .i64 x1 15)) 1)) (eqI ((gReorderBufferLen r7.2.2).getD dflt) 0) false) (eqI ((gReorderBufferLost r7.2.2).getD dflt) 0) false))⟩], [.dead, .mapo (encM (kI .i64) (vA Antiphonref09Thing.enc) r7.2.2.fOf), .blk [.lit (.int .i64 r7.2.2.fConfig.fMost), .lit (.int .i64 r7.2.2.fConfig.fWait), .lit (.bool r7.2.2.fBegun), .lit (.int .i64 r7.2.2.fNext), .mp 1, .lit (.int .i64 r7.2.2.fLost)]]⟩ (AWp.reg Try.tyOk hΓ (keep := [4]) (dead := [17, 1, 5]) (by kernel_rfl) rfl (by simp [h43, h44])) ?_
              refine AWp.ret ?_
              obtain rfl := some_inj hr
              refine fin_ret ?_
              simp

@[simp] noncomputable def gLaw09ReorderNone.S : Sp
  | [.lit (.int .i64 x0), .lit (.int .i64 x1)], _ => some { av := .lit (.bool ((gLaw09ReorderNone x0 x1).getD dflt)), M := none, obl := (gLaw09ReorderNone x0 x1).isSome = true }
  | _, _ => none

set_option maxHeartbeats 1000000 in
theorem gLaw09ReorderNone.ok : SpecOk Try.prog 5 gLaw09ReorderNone.S := by
  intro l M out h
  unfold gLaw09ReorderNone.S at h
  split at h
  · rename_i x0 x1
    cases h
    refine callOk_of fun ho => ?_
    have hs := ho
    obtain ⟨r, hr⟩ := Option.isSome_iff_exists.1 hs
    simp only [hr, Option.getD_some]
    have q := call_frame (M := M) [] (gLaw09ReorderNone.can x0 x1 r hr) (by simp) rfl (by intro k i hk; simp at hk)
    exact callOk_conv q trivial (by simp) (by simp [frameOut, gLaw09ReorderNone.out]) (by simp [frameOut, gLaw09ReorderNone.out])
  · cases h
end Go.Proofs

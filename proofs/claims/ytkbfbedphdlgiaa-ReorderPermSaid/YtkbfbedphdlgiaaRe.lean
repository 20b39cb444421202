/- That these functions compute what their plain functions do. No condition. -/
import Derived.Test.YtkbfbedphdlgiaaReD
import Derived.Test.YtkbfbedphdlgiaaTy
import Derived.Test.YtkbfbedphdlgiaaRo
import Derived.Test.YtkbfbedphdlgiaaRr
import Derived.Test.YtkbfbedphdlgiaaWr
namespace Go.Proofs
open Go.Ab
@[simp] def gLaw09ReorderPerm.out (_x0 : List Int) (r : Bool) : Out := { av := .lit (.bool r), M := none }
def gLaw09ReorderPerm.fin (x0 : List Int) (r : Bool) (σ : St) : Prop := finK (gLaw09ReorderPerm.out x0 r) [] σ.M (resA Try.ty σ.A σ.M Try.f4.results.toList)
set_option maxHeartbeats 4000000 in
set_option maxRecDepth 100000 in
theorem gLaw09ReorderPerm.can (x0 : List Int) (r : Bool) (hr : gLaw09ReorderPerm x0 = some r) : CallOk Try.prog 4 [.sl (x0.map (eNum .i64)) .no] [] (gLaw09ReorderPerm.out x0 r) := by
  unfold gLaw09ReorderPerm at hr
  have hΓ := (gamL_cons gReorderBufferLen.ok (gamL_cons gReorderBufferLost.ok (gamL_cons gReorderBufferPut.ok (gamL_cons gLaw09Awake.ok (gamL_cons gReorderNew.ok (gamL_nil))))) : GamOk Try.prog _)
  refine call_of_awp Try.tyOk Try.func4 rfl (by kernel_rfl) rfl rfl (by simp) ?_
  intro _ _ _
  refine AWp.then ⟨[⟨0, none, .sl (x0.map (eNum .i64)) .no⟩], []⟩ (AWp.reg Try.tyOk hΓ (keep := []) (dead := []) (by kernel_rfl) rfl (by simp)) ?_
  refine AWp.seq ?_
  obtain ⟨r1, h26, hr⟩ := bind_some' hr
  refine AWp.then ⟨[⟨20, none, .lit (.bool (notB r1))⟩, ⟨0, none, .sl (x0.map (eNum .i64)) .no⟩], []⟩ (AWp.reg Try.tyOk hΓ (keep := [20]) (dead := []) (by kernel_rfl) rfl (by simp [h26])) ?_
  refine AWp.cond (b := (notB r1)) (by simp) (fun h27 => ?_) (fun h27 => ?_)
  · have hr := cond_t h27 hr
    refine AWp.then ⟨[⟨2, none, .lit (.bool false)⟩], []⟩ (AWp.reg Try.tyOk hΓ (keep := [2]) (dead := [20, 0]) (by kernel_rfl) rfl (by simp [h27])) ?_
    refine AWp.ret ?_
    obtain rfl := some_inj hr
    refine fin_ret ?_
    simp
  · have hr := cond_f h27 hr
    refine AWp.skip ?_
    obtain ⟨r2, h28, hr⟩ := bind_some' hr
    cases h29 : r2.1 with
    | none =>
      have hr := optC_n h29 hr
      refine AWp.then ⟨[⟨3, none, .lit (.pointer none)⟩, ⟨4, none, .lit (.int .i64 r2.2)⟩, ⟨0, none, .sl (x0.map (eNum .i64)) .no⟩], []⟩ (AWp.reg Try.tyOk hΓ (keep := [3, 4]) (dead := [20]) (by kernel_rfl) rfl (by simp [h27, h28, h29])) ?_
      refine AWp.seq ?_
      refine AWp.then ⟨[⟨27, none, .lit (.bool (neI r2.2 0))⟩, ⟨3, none, .lit (.pointer none)⟩, ⟨0, none, .sl (x0.map (eNum .i64)) .no⟩], []⟩ (AWp.reg Try.tyOk hΓ (keep := [27]) (dead := [4]) (by kernel_rfl) rfl (by simp)) ?_
      refine AWp.cond (b := (neI r2.2 0)) (by simp) (fun h30 => ?_) (fun h30 => ?_)
      · have hr := cond_t h30 hr
        refine AWp.then ⟨[⟨2, none, .lit (.bool false)⟩], []⟩ (AWp.reg Try.tyOk hΓ (keep := [2]) (dead := [27, 3, 0]) (by kernel_rfl) rfl (by simp [h30])) ?_
        refine AWp.ret ?_
        obtain rfl := some_inj hr
        refine fin_ret ?_
        simp
      · have hr := cond_f h30 hr
        refine AWp.skip ?_
        refine AWp.seq ?_
        cases hr
    | some o1 =>
      have hr := optC_s h29 hr
      refine AWp.then ⟨[⟨3, none, .ptr 2 0⟩, ⟨4, none, .lit (.int .i64 r2.2)⟩, ⟨0, none, .sl (x0.map (eNum .i64)) .no⟩], [.dead, .mapo (encM (kI .i64) (vA Antiphonref09Thing.enc) o1.fOf), .blk [.lit (.int .i64 o1.fConfig.fMost), .lit (.int .i64 o1.fConfig.fWait), .lit (.bool o1.fBegun), .lit (.int .i64 o1.fNext), .mp 1, .lit (.int .i64 o1.fLost)]]⟩ (AWp.reg Try.tyOk hΓ (keep := [3, 4]) (dead := [20]) (by kernel_rfl) rfl (by simp [h27, h28, h29])) ?_
      refine AWp.seq ?_
      refine AWp.then ⟨[⟨27, none, .lit (.bool (neI r2.2 0))⟩, ⟨3, none, .ptr 2 0⟩, ⟨0, none, .sl (x0.map (eNum .i64)) .no⟩], [.dead, .mapo (encM (kI .i64) (vA Antiphonref09Thing.enc) o1.fOf), .blk [.lit (.int .i64 o1.fConfig.fMost), .lit (.int .i64 o1.fConfig.fWait), .lit (.bool o1.fBegun), .lit (.int .i64 o1.fNext), .mp 1, .lit (.int .i64 o1.fLost)]]⟩ (AWp.reg Try.tyOk hΓ (keep := [27]) (dead := [4]) (by kernel_rfl) rfl (by simp)) ?_
      refine AWp.cond (b := (neI r2.2 0)) (by simp) (fun h31 => ?_) (fun h31 => ?_)
      · have hr := cond_t h31 hr
        refine AWp.then ⟨[⟨2, none, .lit (.bool false)⟩], [.dead, .mapo (encM (kI .i64) (vA Antiphonref09Thing.enc) o1.fOf), .blk [.lit (.int .i64 o1.fConfig.fMost), .lit (.int .i64 o1.fConfig.fWait), .lit (.bool o1.fBegun), .lit (.int .i64 o1.fNext), .mp 1, .lit (.int .i64 o1.fLost)]]⟩ (AWp.reg Try.tyOk hΓ (keep := [2]) (dead := [27, 3, 0]) (by kernel_rfl) rfl (by simp [h31])) ?_
        refine AWp.ret ?_
        obtain rfl := some_inj hr
        refine fin_ret ?_
        simp
      · have hr := cond_f h31 hr
        refine AWp.skip ?_
        obtain ⟨r3, h32, hr⟩ := bind_some' hr
        refine AWp.then ⟨[⟨3, none, .ptr 2 0⟩, ⟨0, none, .sl (x0.map (eNum .i64)) .no⟩], [.dead, .mapo (encM (kI .i64) (vA Antiphonref09Thing.enc) r3.2.2.fOf), .blk [.lit (.int .i64 r3.2.2.fConfig.fMost), .lit (.int .i64 r3.2.2.fConfig.fWait), .lit (.bool r3.2.2.fBegun), .lit (.int .i64 r3.2.2.fNext), .mp 1, .lit (.int .i64 r3.2.2.fLost)]]⟩ (AWp.reg Try.tyOk hΓ (keep := []) (dead := [27]) (by kernel_rfl) rfl (by simp [h31, h32])) ?_
        refine AWp.then ⟨[⟨5, none, .sl [] .full⟩, ⟨3, none, .ptr 2 0⟩, ⟨0, none, .sl (x0.map (eNum .i64)) .no⟩], [.dead, .mapo (encM (kI .i64) (vA Antiphonref09Thing.enc) r3.2.2.fOf), .blk [.lit (.int .i64 r3.2.2.fConfig.fMost), .lit (.int .i64 r3.2.2.fConfig.fWait), .lit (.bool r3.2.2.fBegun), .lit (.int .i64 r3.2.2.fNext), .mp 1, .lit (.int .i64 r3.2.2.fLost)]]⟩ (AWp.reg Try.tyOk hΓ (keep := [5]) (dead := []) (by kernel_rfl) rfl (by simp)) ?_
        refine AWp.then ⟨[⟨6, none, .mp 3⟩, ⟨5, none, .sl [] .full⟩, ⟨3, none, .ptr 2 0⟩, ⟨0, none, .sl (x0.map (eNum .i64)) .no⟩], [.dead, .mapo (encM (kI .i64) (vA Antiphonref09Thing.enc) r3.2.2.fOf), .blk [.lit (.int .i64 r3.2.2.fConfig.fMost), .lit (.int .i64 r3.2.2.fConfig.fWait), .lit (.bool r3.2.2.fBegun), .lit (.int .i64 r3.2.2.fNext), .mp 1, .lit (.int .i64 r3.2.2.fLost)], .mapo ([])]⟩ (AWp.reg Try.tyOk hΓ (keep := [6]) (dead := []) (by kernel_rfl) rfl (by simp)) ?_
        refine AWp.seq ?_
        refine AWp.then ⟨[⟨7, none, .lit (.int .i64 0)⟩, ⟨6, none, .mp 3⟩, ⟨5, none, .sl [] .full⟩, ⟨3, none, .ptr 2 0⟩, ⟨0, none, .sl (x0.map (eNum .i64)) .no⟩], [.dead, .mapo (encM (kI .i64) (vA Antiphonref09Thing.enc) r3.2.2.fOf), .blk [.lit (.int .i64 r3.2.2.fConfig.fMost), .lit (.int .i64 r3.2.2.fConfig.fWait), .lit (.bool r3.2.2.fBegun), .lit (.int .i64 r3.2.2.fNext), .mp 1, .lit (.int .i64 r3.2.2.fLost)], .mapo ([])]⟩ (AWp.reg Try.tyOk hΓ (keep := [7]) (dead := []) (by kernel_rfl) rfl (by simp)) ?_
        refine AWp.equip 5 1 (els := []) (by simp) (by simp) ?_
        refine AWp.loopE (fun (s1 : Int × List Int × (List (Int × Int))) (γ1 : Nat) => ⟨[⟨7, none, .lit (.int .i64 s1.1)⟩, ⟨6, none, .mp 3⟩, ⟨5, none, .sl (s1.2.1.map (eNum .i64)) (.own 4 (γ1) 1)⟩, ⟨3, none, .ptr 2 0⟩, ⟨0, none, .sl (x0.map (eNum .i64)) .no⟩], [.dead, .mapo (encM (kI .i64) (vA Antiphonref09Thing.enc) r3.2.2.fOf), .blk [.lit (.int .i64 r3.2.2.fConfig.fMost), .lit (.int .i64 r3.2.2.fConfig.fWait), .lit (.bool r3.2.2.fBegun), .lit (.int .i64 r3.2.2.fNext), .mp 1, .lit (.int .i64 r3.2.2.fLost)], .mapo (encM (kI .i64) (kI .i64) s1.2.2), .room (γ1)]⟩) (fun (v1 : List Int × (List (Int × Int))) (γ1a : Nat) => ⟨[⟨6, none, .mp 3⟩, ⟨5, none, .sl (v1.1.map (eNum .i64)) (.own 4 (γ1a) 1)⟩, ⟨3, none, .ptr 2 0⟩], [.dead, .mapo (encM (kI .i64) (vA Antiphonref09Thing.enc) r3.2.2.fOf), .blk [.lit (.int .i64 r3.2.2.fConfig.fMost), .lit (.int .i64 r3.2.2.fConfig.fWait), .lit (.bool r3.2.2.fBegun), .lit (.int .i64 r3.2.2.fNext), .mp 1, .lit (.int .i64 r3.2.2.fLost)], .mapo (encM (kI .i64) (kI .i64) v1.2), .room (γ1a)]⟩) (gLaw09ReorderPerm.fin x0) hr 0 5 (by simp) (fun s1 f γ1 hr => ?_) (fun v1 γ1a σ1 m1 hr hc => ?_) (fun _ h => h)
        · unfold gLaw09ReorderPerm.loop1 at hr
          refine AWp.seq ?_
          refine AWp.then ⟨[⟨40, none, .lit (.bool (pickB (ltI s1.1 (lenL x0)) (ltI s1.1 60) false))⟩, ⟨7, none, .lit (.int .i64 s1.1)⟩, ⟨6, none, .mp 3⟩, ⟨5, none, .sl (s1.2.1.map (eNum .i64)) (.own 4 (γ1) 1)⟩, ⟨3, none, .ptr 2 0⟩, ⟨0, none, .sl (x0.map (eNum .i64)) .no⟩], [.dead, .mapo (encM (kI .i64) (vA Antiphonref09Thing.enc) r3.2.2.fOf), .blk [.lit (.int .i64 r3.2.2.fConfig.fMost), .lit (.int .i64 r3.2.2.fConfig.fWait), .lit (.bool r3.2.2.fBegun), .lit (.int .i64 r3.2.2.fNext), .mp 1, .lit (.int .i64 r3.2.2.fLost)], .mapo (encM (kI .i64) (kI .i64) s1.2.2), .room (γ1)]⟩ (AWp.reg Try.tyOk hΓ (keep := [40]) (dead := []) (by kernel_rfl) rfl (by simp)) ?_
          refine AWp.cond (b := (pickB (ltI s1.1 (lenL x0)) (ltI s1.1 60) false)) (by simp) (fun h33 => ?_) (fun h33 => ?_)
          · have hr := cond_t h33 hr
            refine AWp.skip ?_
            refine AWp.meetF (fun (v2 : List Int) (γ2 : Nat) => ⟨[⟨7, none, .lit (.int .i64 s1.1)⟩, ⟨6, none, .mp 3⟩, ⟨5, none, .sl (v2.map (eNum .i64)) (.own 4 (γ2) 1)⟩, ⟨3, none, .ptr 2 0⟩, ⟨0, none, .sl (x0.map (eNum .i64)) .no⟩], [.dead, .mapo (encM (kI .i64) (vA Antiphonref09Thing.enc) r3.2.2.fOf), .blk [.lit (.int .i64 r3.2.2.fConfig.fMost), .lit (.int .i64 r3.2.2.fConfig.fWait), .lit (.bool r3.2.2.fBegun), .lit (.int .i64 r3.2.2.fNext), .mp 1, .lit (.int .i64 r3.2.2.fLost)], .mapo (encM (kI .i64) (kI .i64) (setM eqI (addI .i64 1 (remI (bitsOp .and .i64 (nthI x0 s1.1) 255) 60)) (addI .i64 (getM eqI (addI .i64 1 (remI (bitsOp .and .i64 (nthI x0 s1.1) 255) 60)) 0 s1.2.2) 1) s1.2.2)), .room (γ2)]⟩) (QRr (gLaw09ReorderPerm.fin x0)) hr (fun f hr => ?_) (fun v2 γ2 hr => ?_) (fun _ h => QRr_ret h)
            · refine AWp.block ?_
              obtain ⟨h34, hr⟩ := need_some hr
              obtain ⟨h35, hr⟩ := need_some hr
              refine AWp.then ⟨[⟨8, none, .lit (.int .i64 (addI .i64 1 (remI (bitsOp .and .i64 (nthI x0 s1.1) 255) 60)))⟩, ⟨7, none, .lit (.int .i64 s1.1)⟩, ⟨6, none, .mp 3⟩, ⟨5, none, .sl (s1.2.1.map (eNum .i64)) (.own 4 (γ1) 1)⟩, ⟨3, none, .ptr 2 0⟩, ⟨0, none, .sl (x0.map (eNum .i64)) .no⟩], [.dead, .mapo (encM (kI .i64) (vA Antiphonref09Thing.enc) r3.2.2.fOf), .blk [.lit (.int .i64 r3.2.2.fConfig.fMost), .lit (.int .i64 r3.2.2.fConfig.fWait), .lit (.bool r3.2.2.fBegun), .lit (.int .i64 r3.2.2.fNext), .mp 1, .lit (.int .i64 r3.2.2.fLost)], .mapo (encM (kI .i64) (kI .i64) s1.2.2), .room (γ1)]⟩ (AWp.reg Try.tyOk hΓ (keep := [8]) (dead := [40]) (by kernel_rfl) rfl (by simp [h33, h34, h35])) ?_
              refine AWp.then ⟨[⟨8, none, .lit (.int .i64 (addI .i64 1 (remI (bitsOp .and .i64 (nthI x0 s1.1) 255) 60)))⟩, ⟨7, none, .lit (.int .i64 s1.1)⟩, ⟨6, none, .mp 3⟩, ⟨5, none, .sl (s1.2.1.map (eNum .i64)) (.own 4 (γ1) 1)⟩, ⟨3, none, .ptr 2 0⟩, ⟨0, none, .sl (x0.map (eNum .i64)) .no⟩], [.dead, .mapo (encM (kI .i64) (vA Antiphonref09Thing.enc) r3.2.2.fOf), .blk [.lit (.int .i64 r3.2.2.fConfig.fMost), .lit (.int .i64 r3.2.2.fConfig.fWait), .lit (.bool r3.2.2.fBegun), .lit (.int .i64 r3.2.2.fNext), .mp 1, .lit (.int .i64 r3.2.2.fLost)], .mapo (encM (kI .i64) (kI .i64) (setM eqI (addI .i64 1 (remI (bitsOp .and .i64 (nthI x0 s1.1) 255) 60)) (addI .i64 (getM eqI (addI .i64 1 (remI (bitsOp .and .i64 (nthI x0 s1.1) 255) 60)) 0 s1.2.2) 1) s1.2.2)), .room (γ1)]⟩ (AWp.reg Try.tyOk hΓ (keep := []) (dead := []) (by kernel_rfl) rfl (by simp)) ?_
              refine AWp.then ⟨[⟨57, none, .lit (.bool (eqI (getM eqI (addI .i64 1 (remI (bitsOp .and .i64 (nthI x0 s1.1) 255) 60)) 0 (setM eqI (addI .i64 1 (remI (bitsOp .and .i64 (nthI x0 s1.1) 255) 60)) (addI .i64 (getM eqI (addI .i64 1 (remI (bitsOp .and .i64 (nthI x0 s1.1) 255) 60)) 0 s1.2.2) 1) s1.2.2)) 1))⟩, ⟨8, none, .lit (.int .i64 (addI .i64 1 (remI (bitsOp .and .i64 (nthI x0 s1.1) 255) 60)))⟩, ⟨7, none, .lit (.int .i64 s1.1)⟩, ⟨6, none, .mp 3⟩, ⟨5, none, .sl (s1.2.1.map (eNum .i64)) (.own 4 (γ1) 1)⟩, ⟨3, none, .ptr 2 0⟩, ⟨0, none, .sl (x0.map (eNum .i64)) .no⟩], [.dead, .mapo (encM (kI .i64) (vA Antiphonref09Thing.enc) r3.2.2.fOf), .blk [.lit (.int .i64 r3.2.2.fConfig.fMost), .lit (.int .i64 r3.2.2.fConfig.fWait), .lit (.bool r3.2.2.fBegun), .lit (.int .i64 r3.2.2.fNext), .mp 1, .lit (.int .i64 r3.2.2.fLost)], .mapo (encM (kI .i64) (kI .i64) (setM eqI (addI .i64 1 (remI (bitsOp .and .i64 (nthI x0 s1.1) 255) 60)) (addI .i64 (getM eqI (addI .i64 1 (remI (bitsOp .and .i64 (nthI x0 s1.1) 255) 60)) 0 s1.2.2) 1) s1.2.2)), .room (γ1)]⟩ (AWp.reg Try.tyOk hΓ (keep := [57]) (dead := []) (by kernel_rfl) rfl (by simp)) ?_
              refine AWp.cond (b := (eqI (getM eqI (addI .i64 1 (remI (bitsOp .and .i64 (nthI x0 s1.1) 255) 60)) 0 (setM eqI (addI .i64 1 (remI (bitsOp .and .i64 (nthI x0 s1.1) 255) 60)) (addI .i64 (getM eqI (addI .i64 1 (remI (bitsOp .and .i64 (nthI x0 s1.1) 255) 60)) 0 s1.2.2) 1) s1.2.2)) 1)) (by simp) (fun h36 => ?_) (fun h36 => ?_)
              · have hr := cond_t h36 hr
                obtain ⟨h37, hr⟩ := need_some hr
                refine AWp.last ⟨[⟨5, none, .sl ((appL s1.2.1 [(addI .i64 1 (remI (bitsOp .and .i64 (nthI x0 s1.1) 255) 60))]).map (eNum .i64)) (.own 4 (γ1 + 1) 1)⟩, ⟨7, none, .lit (.int .i64 s1.1)⟩, ⟨6, none, .mp 3⟩, ⟨3, none, .ptr 2 0⟩, ⟨0, none, .sl (x0.map (eNum .i64)) .no⟩], [.dead, .mapo (encM (kI .i64) (vA Antiphonref09Thing.enc) r3.2.2.fOf), .blk [.lit (.int .i64 r3.2.2.fConfig.fMost), .lit (.int .i64 r3.2.2.fConfig.fWait), .lit (.bool r3.2.2.fBegun), .lit (.int .i64 r3.2.2.fNext), .mp 1, .lit (.int .i64 r3.2.2.fLost)], .mapo (encM (kI .i64) (kI .i64) (setM eqI (addI .i64 1 (remI (bitsOp .and .i64 (nthI x0 s1.1) 255) 60)) (addI .i64 (getM eqI (addI .i64 1 (remI (bitsOp .and .i64 (nthI x0 s1.1) 255) 60)) 0 s1.2.2) 1) s1.2.2)), .room (γ1 + 1)]⟩ (AWp.reg Try.tyOk hΓ (keep := [5]) (dead := [57, 8]) (by kernel_rfl) rfl (by simp [h36, h37])) ?_
                obtain rfl := some_inj hr
                exact meet_go (γ1 + 1) 5 (by simp)
              · have hr := cond_f h36 hr
                refine AWp.skip ?_
                obtain rfl := some_inj hr
                exact meet_go (γ1) 5 (by simp)
            · refine AWp.last ⟨[⟨7, none, .lit (.int .i64 (addI .i64 s1.1 1))⟩, ⟨6, none, .mp 3⟩, ⟨5, none, .sl (v2.map (eNum .i64)) (.own 4 (γ2) 1)⟩, ⟨3, none, .ptr 2 0⟩, ⟨0, none, .sl (x0.map (eNum .i64)) .no⟩], [.dead, .mapo (encM (kI .i64) (vA Antiphonref09Thing.enc) r3.2.2.fOf), .blk [.lit (.int .i64 r3.2.2.fConfig.fMost), .lit (.int .i64 r3.2.2.fConfig.fWait), .lit (.bool r3.2.2.fBegun), .lit (.int .i64 r3.2.2.fNext), .mp 1, .lit (.int .i64 r3.2.2.fLost)], .mapo (encM (kI .i64) (kI .i64) (setM eqI (addI .i64 1 (remI (bitsOp .and .i64 (nthI x0 s1.1) 255) 60)) (addI .i64 (getM eqI (addI .i64 1 (remI (bitsOp .and .i64 (nthI x0 s1.1) 255) 60)) 0 s1.2.2) 1) s1.2.2)), .room (γ2)]⟩ (AWp.reg Try.tyOk hΓ (keep := [7]) (dead := []) (by kernel_rfl) rfl (by simp)) ?_
              obtain rfl := some_inj hr
              exact round_go (γ2) 5 (by simp)
          · have hr := cond_f h33 hr
            refine AWp.exit ?_
            obtain rfl := some_inj hr
            exact round_out (γ1) 5 (by simp)
        · refine AWp.conv hc ?_
          refine AWp.seq ?_
          refine AWp.then ⟨[⟨9, none, .lit (.int .i64 1)⟩, ⟨6, none, .mp 3⟩, ⟨5, none, .sl (v1.1.map (eNum .i64)) (.own 4 (γ1a) 1)⟩, ⟨3, none, .ptr 2 0⟩], [.dead, .mapo (encM (kI .i64) (vA Antiphonref09Thing.enc) r3.2.2.fOf), .blk [.lit (.int .i64 r3.2.2.fConfig.fMost), .lit (.int .i64 r3.2.2.fConfig.fWait), .lit (.bool r3.2.2.fBegun), .lit (.int .i64 r3.2.2.fNext), .mp 1, .lit (.int .i64 r3.2.2.fLost)], .mapo (encM (kI .i64) (kI .i64) v1.2), .room (γ1a)]⟩ (AWp.reg Try.tyOk hΓ (keep := [9]) (dead := []) (by kernel_rfl) rfl (by simp)) ?_
          refine AWp.loopE (fun (s3 : Int × List Int) (γ3 : Nat) => ⟨[⟨9, none, .lit (.int .i64 s3.1)⟩, ⟨6, none, .mp 3⟩, ⟨5, none, .sl (s3.2.map (eNum .i64)) (.own 4 (γ3) 1)⟩, ⟨3, none, .ptr 2 0⟩], [.dead, .mapo (encM (kI .i64) (vA Antiphonref09Thing.enc) r3.2.2.fOf), .blk [.lit (.int .i64 r3.2.2.fConfig.fMost), .lit (.int .i64 r3.2.2.fConfig.fWait), .lit (.bool r3.2.2.fBegun), .lit (.int .i64 r3.2.2.fNext), .mp 1, .lit (.int .i64 r3.2.2.fLost)], .mapo (encM (kI .i64) (kI .i64) v1.2), .room (γ3)]⟩) (fun (v3 : List Int) (γ3a : Nat) => ⟨[⟨5, none, .sl (v3.map (eNum .i64)) (.own 4 (γ3a) 1)⟩, ⟨3, none, .ptr 2 0⟩], [.dead, .mapo (encM (kI .i64) (vA Antiphonref09Thing.enc) r3.2.2.fOf), .blk [.lit (.int .i64 r3.2.2.fConfig.fMost), .lit (.int .i64 r3.2.2.fConfig.fWait), .lit (.bool r3.2.2.fBegun), .lit (.int .i64 r3.2.2.fNext), .mp 1, .lit (.int .i64 r3.2.2.fLost)], .mapo (encM (kI .i64) (kI .i64) v1.2), .room (γ3a)]⟩) (gLaw09ReorderPerm.fin x0) hr (γ1a) 5 (by simp) (fun s3 f γ3 hr => ?_) (fun v3 γ3a σ1 m1 hr hc => ?_) (fun _ h => h)
          · unfold gLaw09ReorderPerm.loop3 at hr
            refine AWp.seq ?_
            refine AWp.then ⟨[⟨63, none, .lit (.bool (leqI s3.1 60))⟩, ⟨9, none, .lit (.int .i64 s3.1)⟩, ⟨6, none, .mp 3⟩, ⟨5, none, .sl (s3.2.map (eNum .i64)) (.own 4 (γ3) 1)⟩, ⟨3, none, .ptr 2 0⟩], [.dead, .mapo (encM (kI .i64) (vA Antiphonref09Thing.enc) r3.2.2.fOf), .blk [.lit (.int .i64 r3.2.2.fConfig.fMost), .lit (.int .i64 r3.2.2.fConfig.fWait), .lit (.bool r3.2.2.fBegun), .lit (.int .i64 r3.2.2.fNext), .mp 1, .lit (.int .i64 r3.2.2.fLost)], .mapo (encM (kI .i64) (kI .i64) v1.2), .room (γ3)]⟩ (AWp.reg Try.tyOk hΓ (keep := [63]) (dead := []) (by kernel_rfl) rfl (by simp)) ?_
            refine AWp.cond (b := (leqI s3.1 60)) (by simp) (fun h38 => ?_) (fun h38 => ?_)
            · have hr := cond_t h38 hr
              refine AWp.skip ?_
              refine AWp.meetF (fun (v4 : List Int) (γ4 : Nat) => ⟨[⟨9, none, .lit (.int .i64 s3.1)⟩, ⟨6, none, .mp 3⟩, ⟨5, none, .sl (v4.map (eNum .i64)) (.own 4 (γ4) 1)⟩, ⟨3, none, .ptr 2 0⟩], [.dead, .mapo (encM (kI .i64) (vA Antiphonref09Thing.enc) r3.2.2.fOf), .blk [.lit (.int .i64 r3.2.2.fConfig.fMost), .lit (.int .i64 r3.2.2.fConfig.fWait), .lit (.bool r3.2.2.fBegun), .lit (.int .i64 r3.2.2.fNext), .mp 1, .lit (.int .i64 r3.2.2.fLost)], .mapo (encM (kI .i64) (kI .i64) v1.2), .room (γ4)]⟩) (QRr (gLaw09ReorderPerm.fin x0)) hr (fun f hr => ?_) (fun v4 γ4 hr => ?_) (fun _ h => QRr_ret h)
              · refine AWp.block ?_
                refine AWp.then ⟨[⟨69, none, .lit (.bool (eqI (getM eqI s3.1 0 v1.2) 0))⟩, ⟨9, none, .lit (.int .i64 s3.1)⟩, ⟨6, none, .mp 3⟩, ⟨5, none, .sl (s3.2.map (eNum .i64)) (.own 4 (γ3) 1)⟩, ⟨3, none, .ptr 2 0⟩], [.dead, .mapo (encM (kI .i64) (vA Antiphonref09Thing.enc) r3.2.2.fOf), .blk [.lit (.int .i64 r3.2.2.fConfig.fMost), .lit (.int .i64 r3.2.2.fConfig.fWait), .lit (.bool r3.2.2.fBegun), .lit (.int .i64 r3.2.2.fNext), .mp 1, .lit (.int .i64 r3.2.2.fLost)], .mapo (encM (kI .i64) (kI .i64) v1.2), .room (γ3)]⟩ (AWp.reg Try.tyOk hΓ (keep := [69]) (dead := [63]) (by kernel_rfl) rfl (by simp [h38])) ?_
                refine AWp.cond (b := (eqI (getM eqI s3.1 0 v1.2) 0)) (by simp) (fun h39 => ?_) (fun h39 => ?_)
                · have hr := cond_t h39 hr
                  obtain ⟨h40, hr⟩ := need_some hr
                  refine AWp.last ⟨[⟨5, none, .sl ((appL s3.2 [s3.1]).map (eNum .i64)) (.own 4 (γ3 + 1) 1)⟩, ⟨9, none, .lit (.int .i64 s3.1)⟩, ⟨6, none, .mp 3⟩, ⟨3, none, .ptr 2 0⟩], [.dead, .mapo (encM (kI .i64) (vA Antiphonref09Thing.enc) r3.2.2.fOf), .blk [.lit (.int .i64 r3.2.2.fConfig.fMost), .lit (.int .i64 r3.2.2.fConfig.fWait), .lit (.bool r3.2.2.fBegun), .lit (.int .i64 r3.2.2.fNext), .mp 1, .lit (.int .i64 r3.2.2.fLost)], .mapo (encM (kI .i64) (kI .i64) v1.2), .room (γ3 + 1)]⟩ (AWp.reg Try.tyOk hΓ (keep := [5]) (dead := [69]) (by kernel_rfl) rfl (by simp [h39, h40])) ?_
                  obtain rfl := some_inj hr
                  exact meet_go (γ3 + 1) 5 (by simp)
                · have hr := cond_f h39 hr
                  refine AWp.skip ?_
                  obtain rfl := some_inj hr
                  exact meet_go (γ3) 5 (by simp)
              · refine AWp.last ⟨[⟨9, none, .lit (.int .i64 (addI .i64 s3.1 1))⟩, ⟨6, none, .mp 3⟩, ⟨5, none, .sl (v4.map (eNum .i64)) (.own 4 (γ4) 1)⟩, ⟨3, none, .ptr 2 0⟩], [.dead, .mapo (encM (kI .i64) (vA Antiphonref09Thing.enc) r3.2.2.fOf), .blk [.lit (.int .i64 r3.2.2.fConfig.fMost), .lit (.int .i64 r3.2.2.fConfig.fWait), .lit (.bool r3.2.2.fBegun), .lit (.int .i64 r3.2.2.fNext), .mp 1, .lit (.int .i64 r3.2.2.fLost)], .mapo (encM (kI .i64) (kI .i64) v1.2), .room (γ4)]⟩ (AWp.reg Try.tyOk hΓ (keep := [9]) (dead := []) (by kernel_rfl) rfl (by simp)) ?_
                obtain rfl := some_inj hr
                exact round_go (γ4) 5 (by simp)
            · have hr := cond_f h38 hr
              refine AWp.exit ?_
              obtain rfl := some_inj hr
              exact round_out (γ3) 5 (by simp)
          · refine AWp.conv hc ?_
            refine AWp.then ⟨[⟨10, none, .lit (.int .i64 101)⟩, ⟨5, none, .sl (v3.map (eNum .i64)) (.own 4 (γ3a) 1)⟩, ⟨3, none, .ptr 2 0⟩], [.dead, .mapo (encM (kI .i64) (vA Antiphonref09Thing.enc) r3.2.2.fOf), .blk [.lit (.int .i64 r3.2.2.fConfig.fMost), .lit (.int .i64 r3.2.2.fConfig.fWait), .lit (.bool r3.2.2.fBegun), .lit (.int .i64 r3.2.2.fNext), .mp 1, .lit (.int .i64 r3.2.2.fLost)], .mapo (encM (kI .i64) (kI .i64) v1.2), .room (γ3a)]⟩ (AWp.reg Try.tyOk hΓ (keep := [10]) (dead := []) (by kernel_rfl) rfl (by simp)) ?_
            refine AWp.seq ?_
            refine AWp.then ⟨[⟨74, none, .sl (v3.map (eNum .i64)) (.own 4 (γ3a) 1)⟩, ⟨75, none, .lit (.int .i64 (lenL v3))⟩, ⟨76, none, .lit (.int .i64 0)⟩, ⟨10, none, .lit (.int .i64 101)⟩, ⟨3, none, .ptr 2 0⟩], [.dead, .mapo (encM (kI .i64) (vA Antiphonref09Thing.enc) r3.2.2.fOf), .blk [.lit (.int .i64 r3.2.2.fConfig.fMost), .lit (.int .i64 r3.2.2.fConfig.fWait), .lit (.bool r3.2.2.fBegun), .lit (.int .i64 r3.2.2.fNext), .mp 1, .lit (.int .i64 r3.2.2.fLost)], .mapo (encM (kI .i64) (kI .i64) v1.2), .room (γ3a)]⟩ (AWp.reg Try.tyOk hΓ (keep := [74, 75, 76]) (dead := [5]) (by kernel_rfl) rfl (by simp)) ?_
            refine AWp.loopE (fun (s5 : Int × Int × (List (Int × Antiphonref09Thing)) × ReorderConfig × Bool × Int × Int) (γ5 : Unit) => ⟨[⟨74, none, .sl (v3.map (eNum .i64)) (.own 4 (γ3a) 1)⟩, ⟨75, none, .lit (.int .i64 (lenL v3))⟩, ⟨76, none, .lit (.int .i64 s5.1)⟩, ⟨10, none, .lit (.int .i64 s5.2.1)⟩, ⟨3, none, .ptr 2 0⟩], [.dead, .mapo (encM (kI .i64) (vA Antiphonref09Thing.enc) s5.2.2.1), .blk [.lit (.int .i64 s5.2.2.2.1.fMost), .lit (.int .i64 s5.2.2.2.1.fWait), .lit (.bool s5.2.2.2.2.1), .lit (.int .i64 s5.2.2.2.2.2.1), .mp 1, .lit (.int .i64 s5.2.2.2.2.2.2)], .mapo (encM (kI .i64) (kI .i64) v1.2), .room (γ3a)]⟩) (fun (v5 : Int × (List (Int × Antiphonref09Thing)) × ReorderConfig × Bool × Int × Int) (γ5a : Unit) => ⟨[⟨10, none, .lit (.int .i64 v5.1)⟩, ⟨3, none, .ptr 2 0⟩], [.dead, .mapo (encM (kI .i64) (vA Antiphonref09Thing.enc) v5.2.1), .blk [.lit (.int .i64 v5.2.2.1.fMost), .lit (.int .i64 v5.2.2.1.fWait), .lit (.bool v5.2.2.2.1), .lit (.int .i64 v5.2.2.2.2.1), .mp 1, .lit (.int .i64 v5.2.2.2.2.2)], .mapo (encM (kI .i64) (kI .i64) v1.2), .room (γ3a)]⟩) (gLaw09ReorderPerm.fin x0) hr () 5 (by simp) (fun s5 f γ5 hr => ?_) (fun v5 γ5a σ1 m1 hr hc => ?_) (fun _ h => h)
            · unfold gLaw09ReorderPerm.loop5 at hr
              refine AWp.then ⟨[⟨77, none, .lit (.bool (ltI s5.1 (lenL v3)))⟩, ⟨74, none, .sl (v3.map (eNum .i64)) (.own 4 (γ3a) 1)⟩, ⟨75, none, .lit (.int .i64 (lenL v3))⟩, ⟨76, none, .lit (.int .i64 s5.1)⟩, ⟨10, none, .lit (.int .i64 s5.2.1)⟩, ⟨3, none, .ptr 2 0⟩], [.dead, .mapo (encM (kI .i64) (vA Antiphonref09Thing.enc) s5.2.2.1), .blk [.lit (.int .i64 s5.2.2.2.1.fMost), .lit (.int .i64 s5.2.2.2.1.fWait), .lit (.bool s5.2.2.2.2.1), .lit (.int .i64 s5.2.2.2.2.2.1), .mp 1, .lit (.int .i64 s5.2.2.2.2.2.2)], .mapo (encM (kI .i64) (kI .i64) v1.2), .room (γ3a)]⟩ (AWp.reg Try.tyOk hΓ (keep := [77]) (dead := []) (by kernel_rfl) rfl (by simp)) ?_
              refine AWp.seq ?_
              refine AWp.cond (b := (ltI s5.1 (lenL v3))) (by simp) (fun h41 => ?_) (fun h41 => ?_)
              · have hr := cond_t h41 hr
                refine AWp.skip ?_
                refine AWp.seq ?_
                refine AWp.block ?_
                obtain ⟨h42, hr⟩ := need_some hr
                refine AWp.then ⟨[⟨12, none, .lit (.int .i64 (nthI v3 s5.1))⟩, ⟨74, none, .sl (v3.map (eNum .i64)) (.own 4 (γ3a) 1)⟩, ⟨75, none, .lit (.int .i64 (lenL v3))⟩, ⟨76, none, .lit (.int .i64 s5.1)⟩, ⟨10, none, .lit (.int .i64 s5.2.1)⟩, ⟨3, none, .ptr 2 0⟩], [.dead, .mapo (encM (kI .i64) (vA Antiphonref09Thing.enc) s5.2.2.1), .blk [.lit (.int .i64 s5.2.2.2.1.fMost), .lit (.int .i64 s5.2.2.2.1.fWait), .lit (.bool s5.2.2.2.2.1), .lit (.int .i64 s5.2.2.2.2.2.1), .mp 1, .lit (.int .i64 s5.2.2.2.2.2.2)], .mapo (encM (kI .i64) (kI .i64) v1.2), .room (γ3a)]⟩ (AWp.reg Try.tyOk hΓ (keep := [12]) (dead := [77]) (by kernel_rfl) rfl (by simp [h41, h42])) ?_
                obtain ⟨r4, h43, hr⟩ := bind_some' hr
                refine AWp.then ⟨[⟨13, none, .sl (r4.1.map Antiphonref09Thing.enc) .no⟩, ⟨14, none, .lit (.int .i64 r4.2.1)⟩, ⟨74, none, .sl (v3.map (eNum .i64)) (.own 4 (γ3a) 1)⟩, ⟨75, none, .lit (.int .i64 (lenL v3))⟩, ⟨76, none, .lit (.int .i64 s5.1)⟩, ⟨10, none, .lit (.int .i64 s5.2.1)⟩, ⟨3, none, .ptr 2 0⟩], [.dead, .mapo (encM (kI .i64) (vA Antiphonref09Thing.enc) r4.2.2.fOf), .blk [.lit (.int .i64 r4.2.2.fConfig.fMost), .lit (.int .i64 r4.2.2.fConfig.fWait), .lit (.bool r4.2.2.fBegun), .lit (.int .i64 r4.2.2.fNext), .mp 1, .lit (.int .i64 r4.2.2.fLost)], .mapo (encM (kI .i64) (kI .i64) v1.2), .room (γ3a)]⟩ (AWp.reg Try.tyOk hΓ (keep := [13, 14]) (dead := [12]) (by kernel_rfl) rfl (by simp [h43])) ?_
                refine AWp.seq ?_
                refine AWp.then ⟨[⟨89, none, .lit (.bool (neI r4.2.1 0))⟩, ⟨13, none, .sl (r4.1.map Antiphonref09Thing.enc) .no⟩, ⟨74, none, .sl (v3.map (eNum .i64)) (.own 4 (γ3a) 1)⟩, ⟨75, none, .lit (.int .i64 (lenL v3))⟩, ⟨76, none, .lit (.int .i64 s5.1)⟩, ⟨10, none, .lit (.int .i64 s5.2.1)⟩, ⟨3, none, .ptr 2 0⟩], [.dead, .mapo (encM (kI .i64) (vA Antiphonref09Thing.enc) r4.2.2.fOf), .blk [.lit (.int .i64 r4.2.2.fConfig.fMost), .lit (.int .i64 r4.2.2.fConfig.fWait), .lit (.bool r4.2.2.fBegun), .lit (.int .i64 r4.2.2.fNext), .mp 1, .lit (.int .i64 r4.2.2.fLost)], .mapo (encM (kI .i64) (kI .i64) v1.2), .room (γ3a)]⟩ (AWp.reg Try.tyOk hΓ (keep := [89]) (dead := [14]) (by kernel_rfl) rfl (by simp)) ?_
                refine AWp.cond (b := (neI r4.2.1 0)) (by simp) (fun h44 => ?_) (fun h44 => ?_)
                · have hr := cond_t h44 hr
                  refine AWp.then ⟨[⟨2, none, .lit (.bool false)⟩], [.dead, .mapo (encM (kI .i64) (vA Antiphonref09Thing.enc) r4.2.2.fOf), .blk [.lit (.int .i64 r4.2.2.fConfig.fMost), .lit (.int .i64 r4.2.2.fConfig.fWait), .lit (.bool r4.2.2.fBegun), .lit (.int .i64 r4.2.2.fNext), .mp 1, .lit (.int .i64 r4.2.2.fLost)], .mapo (encM (kI .i64) (kI .i64) v1.2), .room (γ3a)]⟩ (AWp.reg Try.tyOk hΓ (keep := [2]) (dead := [89, 13, 74, 75, 76, 10, 3]) (by kernel_rfl) rfl (by simp [h44])) ?_
                  refine AWp.ret ?_
                  obtain rfl := some_inj hr
                  refine round_ret ?_
                  refine fin_ret ?_
                  simp
                · have hr := cond_f h44 hr
                  refine AWp.skip ?_
                  refine AWp.then ⟨[⟨90, none, .sl (r4.1.map Antiphonref09Thing.enc) .no⟩, ⟨91, none, .lit (.int .i64 (lenL r4.1))⟩, ⟨92, none, .lit (.int .i64 0)⟩, ⟨74, none, .sl (v3.map (eNum .i64)) (.own 4 (γ3a) 1)⟩, ⟨75, none, .lit (.int .i64 (lenL v3))⟩, ⟨76, none, .lit (.int .i64 s5.1)⟩, ⟨10, none, .lit (.int .i64 s5.2.1)⟩, ⟨3, none, .ptr 2 0⟩], [.dead, .mapo (encM (kI .i64) (vA Antiphonref09Thing.enc) r4.2.2.fOf), .blk [.lit (.int .i64 r4.2.2.fConfig.fMost), .lit (.int .i64 r4.2.2.fConfig.fWait), .lit (.bool r4.2.2.fBegun), .lit (.int .i64 r4.2.2.fNext), .mp 1, .lit (.int .i64 r4.2.2.fLost)], .mapo (encM (kI .i64) (kI .i64) v1.2), .room (γ3a)]⟩ (AWp.reg Try.tyOk hΓ (keep := [90, 91, 92]) (dead := [89, 13]) (by kernel_rfl) rfl (by simp [h44])) ?_
                  refine AWp.loopE (fun (s6 : Int × Int) (γ6 : Unit) => ⟨[⟨90, none, .sl (r4.1.map Antiphonref09Thing.enc) .no⟩, ⟨91, none, .lit (.int .i64 (lenL r4.1))⟩, ⟨92, none, .lit (.int .i64 s6.1)⟩, ⟨74, none, .sl (v3.map (eNum .i64)) (.own 4 (γ3a) 1)⟩, ⟨75, none, .lit (.int .i64 (lenL v3))⟩, ⟨76, none, .lit (.int .i64 s5.1)⟩, ⟨10, none, .lit (.int .i64 s6.2)⟩, ⟨3, none, .ptr 2 0⟩], [.dead, .mapo (encM (kI .i64) (vA Antiphonref09Thing.enc) r4.2.2.fOf), .blk [.lit (.int .i64 r4.2.2.fConfig.fMost), .lit (.int .i64 r4.2.2.fConfig.fWait), .lit (.bool r4.2.2.fBegun), .lit (.int .i64 r4.2.2.fNext), .mp 1, .lit (.int .i64 r4.2.2.fLost)], .mapo (encM (kI .i64) (kI .i64) v1.2), .room (γ3a)]⟩) (fun (v6 : Int) (γ6a : Unit) => ⟨[⟨74, none, .sl (v3.map (eNum .i64)) (.own 4 (γ3a) 1)⟩, ⟨75, none, .lit (.int .i64 (lenL v3))⟩, ⟨76, none, .lit (.int .i64 s5.1)⟩, ⟨10, none, .lit (.int .i64 v6)⟩, ⟨3, none, .ptr 2 0⟩], [.dead, .mapo (encM (kI .i64) (vA Antiphonref09Thing.enc) r4.2.2.fOf), .blk [.lit (.int .i64 r4.2.2.fConfig.fMost), .lit (.int .i64 r4.2.2.fConfig.fWait), .lit (.bool r4.2.2.fBegun), .lit (.int .i64 r4.2.2.fNext), .mp 1, .lit (.int .i64 r4.2.2.fLost)], .mapo (encM (kI .i64) (kI .i64) v1.2), .room (γ3a)]⟩) (QRr (gLaw09ReorderPerm.fin x0)) hr () 5 (by simp) (fun s6 f γ6 hr => ?_) (fun v6 γ6a σ1 m1 hr hc => ?_) (fun _ h => QRr_ret h)
                  · unfold gLaw09ReorderPerm.loop6 at hr
                    refine AWp.then ⟨[⟨93, none, .lit (.bool (ltI s6.1 (lenL r4.1)))⟩, ⟨90, none, .sl (r4.1.map Antiphonref09Thing.enc) .no⟩, ⟨91, none, .lit (.int .i64 (lenL r4.1))⟩, ⟨92, none, .lit (.int .i64 s6.1)⟩, ⟨74, none, .sl (v3.map (eNum .i64)) (.own 4 (γ3a) 1)⟩, ⟨75, none, .lit (.int .i64 (lenL v3))⟩, ⟨76, none, .lit (.int .i64 s5.1)⟩, ⟨10, none, .lit (.int .i64 s6.2)⟩, ⟨3, none, .ptr 2 0⟩], [.dead, .mapo (encM (kI .i64) (vA Antiphonref09Thing.enc) r4.2.2.fOf), .blk [.lit (.int .i64 r4.2.2.fConfig.fMost), .lit (.int .i64 r4.2.2.fConfig.fWait), .lit (.bool r4.2.2.fBegun), .lit (.int .i64 r4.2.2.fNext), .mp 1, .lit (.int .i64 r4.2.2.fLost)], .mapo (encM (kI .i64) (kI .i64) v1.2), .room (γ3a)]⟩ (AWp.reg Try.tyOk hΓ (keep := [93]) (dead := []) (by kernel_rfl) rfl (by simp)) ?_
                    refine AWp.seq ?_
                    refine AWp.cond (b := (ltI s6.1 (lenL r4.1))) (by simp) (fun h45 => ?_) (fun h45 => ?_)
                    · have hr := cond_t h45 hr
                      refine AWp.skip ?_
                      refine AWp.seq ?_
                      refine AWp.block ?_
                      obtain ⟨h46, hr⟩ := need_some hr
                      refine AWp.then ⟨[⟨16, none, .ptr 5 0⟩, ⟨90, none, .sl (r4.1.map Antiphonref09Thing.enc) .no⟩, ⟨91, none, .lit (.int .i64 (lenL r4.1))⟩, ⟨92, none, .lit (.int .i64 s6.1)⟩, ⟨74, none, .sl (v3.map (eNum .i64)) (.own 4 (γ3a) 1)⟩, ⟨75, none, .lit (.int .i64 (lenL v3))⟩, ⟨76, none, .lit (.int .i64 s5.1)⟩, ⟨10, none, .lit (.int .i64 s6.2)⟩, ⟨3, none, .ptr 2 0⟩], [.dead, .mapo (encM (kI .i64) (vA Antiphonref09Thing.enc) r4.2.2.fOf), .blk [.lit (.int .i64 r4.2.2.fConfig.fMost), .lit (.int .i64 r4.2.2.fConfig.fWait), .lit (.bool r4.2.2.fBegun), .lit (.int .i64 r4.2.2.fNext), .mp 1, .lit (.int .i64 r4.2.2.fLost)], .mapo (encM (kI .i64) (kI .i64) v1.2), .room (γ3a), .blk [.lit (.int .i64 ((nthI r4.1 s6.1).fAt)), .lit (.string ((nthI r4.1 s6.1).fText)), .lit (.int .i64 ((nthI r4.1 s6.1).fTick))]]⟩ (AWp.reg Try.tyOk hΓ (keep := [16]) (dead := [93]) (by kernel_rfl) rfl (by simp [h45, h46])) ?_
                      refine AWp.seq ?_
                      refine AWp.then ⟨[⟨99, none, .lit (.bool (neI ((nthI r4.1 s6.1).fAt) s6.2))⟩, ⟨90, none, .sl (r4.1.map Antiphonref09Thing.enc) .no⟩, ⟨91, none, .lit (.int .i64 (lenL r4.1))⟩, ⟨92, none, .lit (.int .i64 s6.1)⟩, ⟨74, none, .sl (v3.map (eNum .i64)) (.own 4 (γ3a) 1)⟩, ⟨75, none, .lit (.int .i64 (lenL v3))⟩, ⟨76, none, .lit (.int .i64 s5.1)⟩, ⟨10, none, .lit (.int .i64 s6.2)⟩, ⟨3, none, .ptr 2 0⟩], [.dead, .mapo (encM (kI .i64) (vA Antiphonref09Thing.enc) r4.2.2.fOf), .blk [.lit (.int .i64 r4.2.2.fConfig.fMost), .lit (.int .i64 r4.2.2.fConfig.fWait), .lit (.bool r4.2.2.fBegun), .lit (.int .i64 r4.2.2.fNext), .mp 1, .lit (.int .i64 r4.2.2.fLost)], .mapo (encM (kI .i64) (kI .i64) v1.2), .room (γ3a), .blk [.lit (.int .i64 ((nthI r4.1 s6.1).fAt)), .lit (.string ((nthI r4.1 s6.1).fText)), .lit (.int .i64 ((nthI r4.1 s6.1).fTick))]]⟩ (AWp.reg Try.tyOk hΓ (keep := [99]) (dead := [16]) (by kernel_rfl) rfl (by simp)) ?_
                      refine AWp.cond (b := (neI ((nthI r4.1 s6.1).fAt) s6.2)) (by simp) (fun h47 => ?_) (fun h47 => ?_)
                      · have hr := cond_t h47 hr
                        refine AWp.then ⟨[⟨2, none, .lit (.bool false)⟩], [.dead, .mapo (encM (kI .i64) (vA Antiphonref09Thing.enc) r4.2.2.fOf), .blk [.lit (.int .i64 r4.2.2.fConfig.fMost), .lit (.int .i64 r4.2.2.fConfig.fWait), .lit (.bool r4.2.2.fBegun), .lit (.int .i64 r4.2.2.fNext), .mp 1, .lit (.int .i64 r4.2.2.fLost)], .mapo (encM (kI .i64) (kI .i64) v1.2), .room (γ3a), .blk [.lit (.int .i64 ((nthI r4.1 s6.1).fAt)), .lit (.string ((nthI r4.1 s6.1).fText)), .lit (.int .i64 ((nthI r4.1 s6.1).fTick))]]⟩ (AWp.reg Try.tyOk hΓ (keep := [2]) (dead := [99, 90, 91, 92, 74, 75, 76, 10, 3]) (by kernel_rfl) rfl (by simp [h47])) ?_
                        refine AWp.ret ?_
                        obtain rfl := some_inj hr
                        refine round_ret ?_
                        refine ⟨_, rfl, ?_⟩
                        refine fin_ret ?_
                        simp
                      · have hr := cond_f h47 hr
                        refine AWp.skip ?_
                        refine AWp.last ⟨[⟨10, none, .lit (.int .i64 (addI .i64 s6.2 1))⟩, ⟨90, none, .sl (r4.1.map Antiphonref09Thing.enc) .no⟩, ⟨91, none, .lit (.int .i64 (lenL r4.1))⟩, ⟨92, none, .lit (.int .i64 s6.1)⟩, ⟨74, none, .sl (v3.map (eNum .i64)) (.own 4 (γ3a) 1)⟩, ⟨75, none, .lit (.int .i64 (lenL v3))⟩, ⟨76, none, .lit (.int .i64 s5.1)⟩, ⟨3, none, .ptr 2 0⟩], [.dead, .mapo (encM (kI .i64) (vA Antiphonref09Thing.enc) r4.2.2.fOf), .blk [.lit (.int .i64 r4.2.2.fConfig.fMost), .lit (.int .i64 r4.2.2.fConfig.fWait), .lit (.bool r4.2.2.fBegun), .lit (.int .i64 r4.2.2.fNext), .mp 1, .lit (.int .i64 r4.2.2.fLost)], .mapo (encM (kI .i64) (kI .i64) v1.2), .room (γ3a), .blk [.lit (.int .i64 ((nthI r4.1 s6.1).fAt)), .lit (.string ((nthI r4.1 s6.1).fText)), .lit (.int .i64 ((nthI r4.1 s6.1).fTick))]]⟩ (AWp.reg Try.tyOk hΓ (keep := [10]) (dead := [99]) (by kernel_rfl) rfl (by simp [h47])) ?_
                        refine AWp.last ⟨[⟨92, none, .lit (.int .i64 (addI .i64 s6.1 1))⟩, ⟨10, none, .lit (.int .i64 (addI .i64 s6.2 1))⟩, ⟨90, none, .sl (r4.1.map Antiphonref09Thing.enc) .no⟩, ⟨91, none, .lit (.int .i64 (lenL r4.1))⟩, ⟨74, none, .sl (v3.map (eNum .i64)) (.own 4 (γ3a) 1)⟩, ⟨75, none, .lit (.int .i64 (lenL v3))⟩, ⟨76, none, .lit (.int .i64 s5.1)⟩, ⟨3, none, .ptr 2 0⟩], [.dead, .mapo (encM (kI .i64) (vA Antiphonref09Thing.enc) r4.2.2.fOf), .blk [.lit (.int .i64 r4.2.2.fConfig.fMost), .lit (.int .i64 r4.2.2.fConfig.fWait), .lit (.bool r4.2.2.fBegun), .lit (.int .i64 r4.2.2.fNext), .mp 1, .lit (.int .i64 r4.2.2.fLost)], .mapo (encM (kI .i64) (kI .i64) v1.2), .room (γ3a), .blk [.lit (.int .i64 ((nthI r4.1 s6.1).fAt)), .lit (.string ((nthI r4.1 s6.1).fText)), .lit (.int .i64 ((nthI r4.1 s6.1).fTick))]]⟩ (AWp.reg Try.tyOk hΓ (keep := [92]) (dead := []) (by kernel_rfl) rfl (by simp)) ?_
                        obtain rfl := some_inj hr
                        exact round_go () 5 (by simp)
                    · have hr := cond_f h45 hr
                      refine AWp.exit ?_
                      obtain rfl := some_inj hr
                      exact round_out () 5 (by simp)
                  · refine AWp.conv hc ?_
                    refine AWp.last ⟨[⟨76, none, .lit (.int .i64 (addI .i64 s5.1 1))⟩, ⟨74, none, .sl (v3.map (eNum .i64)) (.own 4 (γ3a) 1)⟩, ⟨75, none, .lit (.int .i64 (lenL v3))⟩, ⟨10, none, .lit (.int .i64 v6)⟩, ⟨3, none, .ptr 2 0⟩], [.dead, .mapo (encM (kI .i64) (vA Antiphonref09Thing.enc) r4.2.2.fOf), .blk [.lit (.int .i64 r4.2.2.fConfig.fMost), .lit (.int .i64 r4.2.2.fConfig.fWait), .lit (.bool r4.2.2.fBegun), .lit (.int .i64 r4.2.2.fNext), .mp 1, .lit (.int .i64 r4.2.2.fLost)], .mapo (encM (kI .i64) (kI .i64) v1.2), .room (γ3a)]⟩ (AWp.reg Try.tyOk hΓ (keep := [76]) (dead := []) (by kernel_rfl) rfl (by simp)) ?_
                    obtain rfl := some_inj hr
                    exact round_go () 5 (by simp)
              · have hr := cond_f h41 hr
                refine AWp.exit ?_
                obtain rfl := some_inj hr
                exact round_out () 5 (by simp)
            · refine AWp.conv hc ?_
              obtain ⟨r5, h48, hr⟩ := bind_some' hr
              refine AWp.then ⟨[⟨18, none, .lit (.int .i64 r5.2.1)⟩, ⟨10, none, .lit (.int .i64 v5.1)⟩, ⟨3, none, .ptr 2 0⟩], [.dead, .mapo (encM (kI .i64) (vA Antiphonref09Thing.enc) r5.2.2.fOf), .blk [.lit (.int .i64 r5.2.2.fConfig.fMost), .lit (.int .i64 r5.2.2.fConfig.fWait), .lit (.bool r5.2.2.fBegun), .lit (.int .i64 r5.2.2.fNext), .mp 1, .lit (.int .i64 r5.2.2.fLost)], .mapo (encM (kI .i64) (kI .i64) v1.2), .room (γ3a)]⟩ (AWp.reg Try.tyOk hΓ (keep := [18]) (dead := []) (by kernel_rfl) rfl (by simp [h48])) ?_
              obtain ⟨h49, hr⟩ := need_some hr
              obtain ⟨h50, hr⟩ := need_some hr
              refine AWp.then ⟨[⟨2, none, .lit (.bool (pickB (pickB (pickB (eqI v5.1 161) (eqI ((gReorderBufferLost r5.2.2).getD dflt) 0) false) (eqI ((gReorderBufferLen r5.2.2).getD dflt) 0) false) (eqI r5.2.1 13) false))⟩], [.dead, .mapo (encM (kI .i64) (vA Antiphonref09Thing.enc) r5.2.2.fOf), .blk [.lit (.int .i64 r5.2.2.fConfig.fMost), .lit (.int .i64 r5.2.2.fConfig.fWait), .lit (.bool r5.2.2.fBegun), .lit (.int .i64 r5.2.2.fNext), .mp 1, .lit (.int .i64 r5.2.2.fLost)], .mapo (encM (kI .i64) (kI .i64) v1.2), .room (γ3a)]⟩ (AWp.reg Try.tyOk hΓ (keep := [2]) (dead := [18, 10, 3]) (by kernel_rfl) rfl (by simp [h49, h50])) ?_
              refine AWp.ret ?_
              obtain rfl := some_inj hr
              refine fin_ret ?_
              simp

@[simp] noncomputable def gLaw09ReorderPerm.S : Sp
  | [.sl e0 _], _ => some { av := .lit (.bool ((gLaw09ReorderPerm (e0.map decI)).getD dflt)), M := none, obl := e0 = (e0.map decI).map (eNum .i64) ∧ (gLaw09ReorderPerm (e0.map decI)).isSome = true }
  | _, _ => none

set_option maxHeartbeats 1000000 in
theorem gLaw09ReorderPerm.ok : SpecOk Try.prog 4 gLaw09ReorderPerm.S := by
  intro l M out h
  unfold gLaw09ReorderPerm.S at h
  split at h
  · rename_i e0 k0
    cases h
    refine callOk_of fun ho => ?_
    obtain ⟨ox0, hs⟩ := ho
    generalize (e0.map decI) = x0 at *
    subst ox0
    obtain ⟨r, hr⟩ := Option.isSome_iff_exists.1 hs
    simp only [hr, Option.getD_some]
    have q := call_frame (M := M) [] (gLaw09ReorderPerm.can x0 r hr) (by simp) rfl (by intro k i hk; simp at hk)
    exact callOk_conv q trivial (by simp) (by simp [frameOut, gLaw09ReorderPerm.out]) (by simp [frameOut, gLaw09ReorderPerm.out])
  · cases h
end Go.Proofs

/- That these functions compute what their plain functions do. No condition. -/
import Derived.Test.YtkbfbedphdlgiaaRwD
import Derived.Test.YtkbfbedphdlgiaaTy
import Derived.Test.YtkbfbedphdlgiaaRr
import Derived.Test.YtkbfbedphdlgiaaRo
import Derived.Test.YtkbfbedphdlgiaaDr
import Derived.Test.YtkbfbedphdlgiaaWr
namespace Go.Proofs
open Go.Ab
@[simp] def gLaw09ReorderWaits.out (_x0 : Int) (_x1 : Int) (_x2 : List Antiphonlaw09Act) (r : Bool) : Out := { av := .lit (.bool r), M := none }
def gLaw09ReorderWaits.fin (x0 : Int) (x1 : Int) (x2 : List Antiphonlaw09Act) (r : Bool) (σ : St) : Prop := finK (gLaw09ReorderWaits.out x0 x1 x2 r) [] σ.M (resA Try.ty σ.A σ.M Try.f6.results.toList)
set_option maxHeartbeats 4000000 in
set_option maxRecDepth 100000 in
theorem gLaw09ReorderWaits.can (x0 : Int) (x1 : Int) (x2 : List Antiphonlaw09Act) (r : Bool) (hr : gLaw09ReorderWaits x0 x1 x2 = some r) : CallOk Try.prog 6 [.lit (.int .i64 x0), .lit (.int .i64 x1), .sl (x2.map Antiphonlaw09Act.enc) .no] [] (gLaw09ReorderWaits.out x0 x1 x2 r) := by
  unfold gLaw09ReorderWaits at hr
  have hΓ := (gamL_cons gReorderBufferFlush.ok (gamL_cons gReorderBufferLen.ok (gamL_cons gReorderBufferMissing.ok (gamL_cons gLaw09Begin.ok (gamL_cons gLaw09Does.ok (gamL_cons gLaw09Awake.ok (gamL_nil)))))) : GamOk Try.prog _)
  refine call_of_awp Try.tyOk Try.func6 rfl (by kernel_rfl) rfl rfl (by simp) ?_
  intro _ _ _
  refine AWp.then ⟨[⟨0, none, .lit (.int .i64 x0)⟩, ⟨1, none, .lit (.int .i64 x1)⟩, ⟨2, none, .sl (x2.map Antiphonlaw09Act.enc) .no⟩], []⟩ (AWp.reg Try.tyOk hΓ (keep := []) (dead := []) (by kernel_rfl) rfl (by simp)) ?_
  obtain ⟨r1, h16, hr⟩ := bind_some' hr
  refine AWp.then ⟨[⟨7, none, .ptr 5 0⟩, ⟨8, none, .lit (.bool r1.2)⟩, ⟨2, none, .sl (x2.map Antiphonlaw09Act.enc) .no⟩], [.dead, .dead, .dead, .mapo (encM (kI .i64) (vA Antiphonref09Thing.enc) r1.1.fB.fOf), .blk [.lit (.int .i64 r1.1.fB.fConfig.fMost), .lit (.int .i64 r1.1.fB.fConfig.fWait), .lit (.bool r1.1.fB.fBegun), .lit (.int .i64 r1.1.fB.fNext), .mp 3, .lit (.int .i64 r1.1.fB.fLost)], .blk [.ptr 4 0, .lit (.int .i64 r1.1.fX.fMost), .lit (.int .i64 r1.1.fX.fWait), .lit (.bool r1.1.fX.fBegun), .lit (.int .i64 r1.1.fX.fNext), .sl (r1.1.fX.fL.map Antiphonref09Thing.enc) .no, .lit (.int .i64 r1.1.fX.fLost), .lit (.int .i64 r1.1.fNow)]]⟩ (AWp.reg Try.tyOk hΓ (keep := [7, 8]) (dead := [0, 1]) (by kernel_rfl) rfl (by simp [h16])) ?_
  refine AWp.seq ?_
  obtain ⟨r2, h17, hr⟩ := bind_some' hr
  refine AWp.then ⟨[⟨21, none, .lit (.bool (pickB (notB r2) true (notB r1.2)))⟩, ⟨7, none, .ptr 5 0⟩, ⟨2, none, .sl (x2.map Antiphonlaw09Act.enc) .no⟩], [.dead, .dead, .dead, .mapo (encM (kI .i64) (vA Antiphonref09Thing.enc) r1.1.fB.fOf), .blk [.lit (.int .i64 r1.1.fB.fConfig.fMost), .lit (.int .i64 r1.1.fB.fConfig.fWait), .lit (.bool r1.1.fB.fBegun), .lit (.int .i64 r1.1.fB.fNext), .mp 3, .lit (.int .i64 r1.1.fB.fLost)], .blk [.ptr 4 0, .lit (.int .i64 r1.1.fX.fMost), .lit (.int .i64 r1.1.fX.fWait), .lit (.bool r1.1.fX.fBegun), .lit (.int .i64 r1.1.fX.fNext), .sl (r1.1.fX.fL.map Antiphonref09Thing.enc) .no, .lit (.int .i64 r1.1.fX.fLost), .lit (.int .i64 r1.1.fNow)]]⟩ (AWp.reg Try.tyOk hΓ (keep := [21]) (dead := [8]) (by kernel_rfl) rfl (by simp [h17])) ?_
  refine AWp.cond (b := (pickB (notB r2) true (notB r1.2))) (by simp) (fun h18 => ?_) (fun h18 => ?_)
  · have hr := cond_t h18 hr
    refine AWp.then ⟨[⟨6, none, .lit (.bool false)⟩], [.dead, .dead, .dead, .mapo (encM (kI .i64) (vA Antiphonref09Thing.enc) r1.1.fB.fOf), .blk [.lit (.int .i64 r1.1.fB.fConfig.fMost), .lit (.int .i64 r1.1.fB.fConfig.fWait), .lit (.bool r1.1.fB.fBegun), .lit (.int .i64 r1.1.fB.fNext), .mp 3, .lit (.int .i64 r1.1.fB.fLost)], .blk [.ptr 4 0, .lit (.int .i64 r1.1.fX.fMost), .lit (.int .i64 r1.1.fX.fWait), .lit (.bool r1.1.fX.fBegun), .lit (.int .i64 r1.1.fX.fNext), .sl (r1.1.fX.fL.map Antiphonref09Thing.enc) .no, .lit (.int .i64 r1.1.fX.fLost), .lit (.int .i64 r1.1.fNow)]]⟩ (AWp.reg Try.tyOk hΓ (keep := [6]) (dead := [21, 7, 2]) (by kernel_rfl) rfl (by simp [h18])) ?_
    refine AWp.ret ?_
    obtain rfl := some_inj hr
    refine fin_ret ?_
    simp
  · have hr := cond_f h18 hr
    refine AWp.skip ?_
    refine AWp.seq ?_
    refine AWp.then ⟨[⟨9, none, .lit (.int .i64 0)⟩, ⟨7, none, .ptr 5 0⟩, ⟨2, none, .sl (x2.map Antiphonlaw09Act.enc) .no⟩], [.dead, .dead, .dead, .mapo (encM (kI .i64) (vA Antiphonref09Thing.enc) r1.1.fB.fOf), .blk [.lit (.int .i64 r1.1.fB.fConfig.fMost), .lit (.int .i64 r1.1.fB.fConfig.fWait), .lit (.bool r1.1.fB.fBegun), .lit (.int .i64 r1.1.fB.fNext), .mp 3, .lit (.int .i64 r1.1.fB.fLost)], .blk [.ptr 4 0, .lit (.int .i64 r1.1.fX.fMost), .lit (.int .i64 r1.1.fX.fWait), .lit (.bool r1.1.fX.fBegun), .lit (.int .i64 r1.1.fX.fNext), .sl (r1.1.fX.fL.map Antiphonref09Thing.enc) .no, .lit (.int .i64 r1.1.fX.fLost), .lit (.int .i64 r1.1.fNow)]]⟩ (AWp.reg Try.tyOk hΓ (keep := [9]) (dead := [21]) (by kernel_rfl) rfl (by simp [h18])) ?_
    refine AWp.loopE (fun (s1 : Int × (List (Int × Antiphonref09Thing)) × ReorderConfig × Bool × Int × Int × Antiphonref09Buffer × Int) (γ1 : Unit) => ⟨[⟨9, none, .lit (.int .i64 s1.1)⟩, ⟨7, none, .ptr 5 0⟩, ⟨2, none, .sl (x2.map Antiphonlaw09Act.enc) .no⟩], [.dead, .dead, .dead, .mapo (encM (kI .i64) (vA Antiphonref09Thing.enc) s1.2.1), .blk [.lit (.int .i64 s1.2.2.1.fMost), .lit (.int .i64 s1.2.2.1.fWait), .lit (.bool s1.2.2.2.1), .lit (.int .i64 s1.2.2.2.2.1), .mp 3, .lit (.int .i64 s1.2.2.2.2.2.1)], .blk [.ptr 4 0, .lit (.int .i64 s1.2.2.2.2.2.2.1.fMost), .lit (.int .i64 s1.2.2.2.2.2.2.1.fWait), .lit (.bool s1.2.2.2.2.2.2.1.fBegun), .lit (.int .i64 s1.2.2.2.2.2.2.1.fNext), .sl (s1.2.2.2.2.2.2.1.fL.map Antiphonref09Thing.enc) .no, .lit (.int .i64 s1.2.2.2.2.2.2.1.fLost), .lit (.int .i64 s1.2.2.2.2.2.2.2)]]⟩) (fun (v1 : (List (Int × Antiphonref09Thing)) × ReorderConfig × Bool × Int × Int × Antiphonref09Buffer × Int) (γ1a : Unit) => ⟨[⟨7, none, .ptr 5 0⟩], [.dead, .dead, .dead, .mapo (encM (kI .i64) (vA Antiphonref09Thing.enc) v1.1), .blk [.lit (.int .i64 v1.2.1.fMost), .lit (.int .i64 v1.2.1.fWait), .lit (.bool v1.2.2.1), .lit (.int .i64 v1.2.2.2.1), .mp 3, .lit (.int .i64 v1.2.2.2.2.1)], .blk [.ptr 4 0, .lit (.int .i64 v1.2.2.2.2.2.1.fMost), .lit (.int .i64 v1.2.2.2.2.2.1.fWait), .lit (.bool v1.2.2.2.2.2.1.fBegun), .lit (.int .i64 v1.2.2.2.2.2.1.fNext), .sl (v1.2.2.2.2.2.1.fL.map Antiphonref09Thing.enc) .no, .lit (.int .i64 v1.2.2.2.2.2.1.fLost), .lit (.int .i64 v1.2.2.2.2.2.2)]]⟩) (gLaw09ReorderWaits.fin x0 x1 x2) hr () 6 (by simp) (fun s1 f γ1 hr => ?_) (fun v1 γ1a σ1 m1 hr hc => ?_) (fun _ h => h)
    · unfold gLaw09ReorderWaits.loop1 at hr
      refine AWp.seq ?_
      refine AWp.then ⟨[⟨29, none, .lit (.bool (pickB (ltI s1.1 (lenL x2)) (ltI s1.1 100) false))⟩, ⟨9, none, .lit (.int .i64 s1.1)⟩, ⟨7, none, .ptr 5 0⟩, ⟨2, none, .sl (x2.map Antiphonlaw09Act.enc) .no⟩], [.dead, .dead, .dead, .mapo (encM (kI .i64) (vA Antiphonref09Thing.enc) s1.2.1), .blk [.lit (.int .i64 s1.2.2.1.fMost), .lit (.int .i64 s1.2.2.1.fWait), .lit (.bool s1.2.2.2.1), .lit (.int .i64 s1.2.2.2.2.1), .mp 3, .lit (.int .i64 s1.2.2.2.2.2.1)], .blk [.ptr 4 0, .lit (.int .i64 s1.2.2.2.2.2.2.1.fMost), .lit (.int .i64 s1.2.2.2.2.2.2.1.fWait), .lit (.bool s1.2.2.2.2.2.2.1.fBegun), .lit (.int .i64 s1.2.2.2.2.2.2.1.fNext), .sl (s1.2.2.2.2.2.2.1.fL.map Antiphonref09Thing.enc) .no, .lit (.int .i64 s1.2.2.2.2.2.2.1.fLost), .lit (.int .i64 s1.2.2.2.2.2.2.2)]]⟩ (AWp.reg Try.tyOk hΓ (keep := [29]) (dead := []) (by kernel_rfl) rfl (by simp)) ?_
      refine AWp.cond (b := (pickB (ltI s1.1 (lenL x2)) (ltI s1.1 100) false)) (by simp) (fun h19 => ?_) (fun h19 => ?_)
      · have hr := cond_t h19 hr
        refine AWp.skip ?_
        refine AWp.seq ?_
        refine AWp.block ?_
        refine AWp.seq ?_
        obtain ⟨h20, hr⟩ := need_some hr
        obtain ⟨r3, h21, hr⟩ := bind_some' hr
        refine AWp.then ⟨[⟨8, none, .lit (.bool r3.2.2)⟩, ⟨9, none, .lit (.int .i64 s1.1)⟩, ⟨7, none, .ptr 5 0⟩, ⟨2, none, .sl (x2.map Antiphonlaw09Act.enc) .no⟩], [.dead, .dead, .dead, .mapo (encM (kI .i64) (vA Antiphonref09Thing.enc) r3.1.fB.fOf), .blk [.lit (.int .i64 r3.1.fB.fConfig.fMost), .lit (.int .i64 r3.1.fB.fConfig.fWait), .lit (.bool r3.1.fB.fBegun), .lit (.int .i64 r3.1.fB.fNext), .mp 3, .lit (.int .i64 r3.1.fB.fLost)], .blk [.ptr 4 0, .lit (.int .i64 r3.1.fX.fMost), .lit (.int .i64 r3.1.fX.fWait), .lit (.bool r3.1.fX.fBegun), .lit (.int .i64 r3.1.fX.fNext), .sl (r3.1.fX.fL.map Antiphonref09Thing.enc) .no, .lit (.int .i64 r3.1.fX.fLost), .lit (.int .i64 r3.1.fNow)]]⟩ (AWp.regD Try.mixed Try.tyOk hΓ (keep := [8]) (dead := [29]) [(8, 11), (9, 11)] [(false, []), (false, []), (false, []), (false, []), (false, []), (true, []), (false, []), (false, []), (false, []), (false, []), (true, []), (false, [])] (by kernel_rfl) rfl (by simp [h19, h20, h21])) ?_
        refine AWp.then ⟨[⟨43, none, .lit (.bool (notB r3.2.2))⟩, ⟨9, none, .lit (.int .i64 s1.1)⟩, ⟨7, none, .ptr 5 0⟩, ⟨2, none, .sl (x2.map Antiphonlaw09Act.enc) .no⟩], [.dead, .dead, .dead, .mapo (encM (kI .i64) (vA Antiphonref09Thing.enc) r3.1.fB.fOf), .blk [.lit (.int .i64 r3.1.fB.fConfig.fMost), .lit (.int .i64 r3.1.fB.fConfig.fWait), .lit (.bool r3.1.fB.fBegun), .lit (.int .i64 r3.1.fB.fNext), .mp 3, .lit (.int .i64 r3.1.fB.fLost)], .blk [.ptr 4 0, .lit (.int .i64 r3.1.fX.fMost), .lit (.int .i64 r3.1.fX.fWait), .lit (.bool r3.1.fX.fBegun), .lit (.int .i64 r3.1.fX.fNext), .sl (r3.1.fX.fL.map Antiphonref09Thing.enc) .no, .lit (.int .i64 r3.1.fX.fLost), .lit (.int .i64 r3.1.fNow)]]⟩ (AWp.reg Try.tyOk hΓ (keep := [43]) (dead := [8]) (by kernel_rfl) rfl (by simp)) ?_
        refine AWp.cond (b := (notB r3.2.2)) (by simp) (fun h22 => ?_) (fun h22 => ?_)
        · have hr := cond_t h22 hr
          refine AWp.then ⟨[⟨6, none, .lit (.bool false)⟩], [.dead, .dead, .dead, .mapo (encM (kI .i64) (vA Antiphonref09Thing.enc) r3.1.fB.fOf), .blk [.lit (.int .i64 r3.1.fB.fConfig.fMost), .lit (.int .i64 r3.1.fB.fConfig.fWait), .lit (.bool r3.1.fB.fBegun), .lit (.int .i64 r3.1.fB.fNext), .mp 3, .lit (.int .i64 r3.1.fB.fLost)], .blk [.ptr 4 0, .lit (.int .i64 r3.1.fX.fMost), .lit (.int .i64 r3.1.fX.fWait), .lit (.bool r3.1.fX.fBegun), .lit (.int .i64 r3.1.fX.fNext), .sl (r3.1.fX.fL.map Antiphonref09Thing.enc) .no, .lit (.int .i64 r3.1.fX.fLost), .lit (.int .i64 r3.1.fNow)]]⟩ (AWp.reg Try.tyOk hΓ (keep := [6]) (dead := [43, 9, 7, 2]) (by kernel_rfl) rfl (by simp [h22])) ?_
          refine AWp.ret ?_
          obtain rfl := some_inj hr
          refine round_ret ?_
          refine fin_ret ?_
          simp
        · have hr := cond_f h22 hr
          refine AWp.skip ?_
          obtain ⟨h23, hr⟩ := need_some hr
          obtain ⟨h24, hr⟩ := need_some hr
          refine AWp.then ⟨[⟨71, none, .lit (.bool (pickB (pickB (eqI ((nthI x2 s1.1).fKind) 2) (ltI 0 (lenL r3.1.fX.fL)) false) (leqI r3.1.fX.fWait (subI .i64 r3.1.fNow ((nthI r3.1.fX.fL 0).fTick))) false))⟩, ⟨9, none, .lit (.int .i64 s1.1)⟩, ⟨7, none, .ptr 5 0⟩, ⟨2, none, .sl (x2.map Antiphonlaw09Act.enc) .no⟩], [.dead, .dead, .dead, .mapo (encM (kI .i64) (vA Antiphonref09Thing.enc) r3.1.fB.fOf), .blk [.lit (.int .i64 r3.1.fB.fConfig.fMost), .lit (.int .i64 r3.1.fB.fConfig.fWait), .lit (.bool r3.1.fB.fBegun), .lit (.int .i64 r3.1.fB.fNext), .mp 3, .lit (.int .i64 r3.1.fB.fLost)], .blk [.ptr 4 0, .lit (.int .i64 r3.1.fX.fMost), .lit (.int .i64 r3.1.fX.fWait), .lit (.bool r3.1.fX.fBegun), .lit (.int .i64 r3.1.fX.fNext), .sl (r3.1.fX.fL.map Antiphonref09Thing.enc) .no, .lit (.int .i64 r3.1.fX.fLost), .lit (.int .i64 r3.1.fNow)]]⟩ (AWp.regD Try.mixed Try.tyOk hΓ (keep := [71]) (dead := [43]) [] [(false, []), (false, []), (false, []), (false, []), (false, []), (false, []), (false, []), (false, [50]), (false, [50]), (false, [50]), (false, [50]), (false, [50]), (false, []), (false, []), (false, [57]), (false, [57]), (false, [57]), (false, [57]), (false, [57]), (false, [57]), (false, [57]), (false, [57]), (false, [57]), (false, [57]), (false, [57]), (false, [57]), (false, [57]), (false, [])] (by kernel_rfl) rfl (by simp [h20, h22, h24])) ?_
          refine AWp.cond (b := (pickB (pickB (eqI ((nthI x2 s1.1).fKind) 2) (ltI 0 (lenL r3.1.fX.fL)) false) (leqI r3.1.fX.fWait (subI .i64 r3.1.fNow ((nthI r3.1.fX.fL 0).fTick))) false)) (by simp) (fun h25 => ?_) (fun h25 => ?_)
          · have hr := cond_t h25 hr
            refine AWp.then ⟨[⟨6, none, .lit (.bool false)⟩], [.dead, .dead, .dead, .mapo (encM (kI .i64) (vA Antiphonref09Thing.enc) r3.1.fB.fOf), .blk [.lit (.int .i64 r3.1.fB.fConfig.fMost), .lit (.int .i64 r3.1.fB.fConfig.fWait), .lit (.bool r3.1.fB.fBegun), .lit (.int .i64 r3.1.fB.fNext), .mp 3, .lit (.int .i64 r3.1.fB.fLost)], .blk [.ptr 4 0, .lit (.int .i64 r3.1.fX.fMost), .lit (.int .i64 r3.1.fX.fWait), .lit (.bool r3.1.fX.fBegun), .lit (.int .i64 r3.1.fX.fNext), .sl (r3.1.fX.fL.map Antiphonref09Thing.enc) .no, .lit (.int .i64 r3.1.fX.fLost), .lit (.int .i64 r3.1.fNow)]]⟩ (AWp.reg Try.tyOk hΓ (keep := [6]) (dead := [71, 9, 7, 2]) (by kernel_rfl) rfl (by simp [h25])) ?_
            refine AWp.ret ?_
            obtain rfl := some_inj hr
            refine round_ret ?_
            refine fin_ret ?_
            simp
          · have hr := cond_f h25 hr
            refine AWp.skip ?_
            refine AWp.last ⟨[⟨9, none, .lit (.int .i64 (addI .i64 s1.1 1))⟩, ⟨7, none, .ptr 5 0⟩, ⟨2, none, .sl (x2.map Antiphonlaw09Act.enc) .no⟩], [.dead, .dead, .dead, .mapo (encM (kI .i64) (vA Antiphonref09Thing.enc) r3.1.fB.fOf), .blk [.lit (.int .i64 r3.1.fB.fConfig.fMost), .lit (.int .i64 r3.1.fB.fConfig.fWait), .lit (.bool r3.1.fB.fBegun), .lit (.int .i64 r3.1.fB.fNext), .mp 3, .lit (.int .i64 r3.1.fB.fLost)], .blk [.ptr 4 0, .lit (.int .i64 r3.1.fX.fMost), .lit (.int .i64 r3.1.fX.fWait), .lit (.bool r3.1.fX.fBegun), .lit (.int .i64 r3.1.fX.fNext), .sl (r3.1.fX.fL.map Antiphonref09Thing.enc) .no, .lit (.int .i64 r3.1.fX.fLost), .lit (.int .i64 r3.1.fNow)]]⟩ (AWp.reg Try.tyOk hΓ (keep := [9]) (dead := [71]) (by kernel_rfl) rfl (by simp [h25])) ?_
            obtain rfl := some_inj hr
            exact round_go () 6 (by simp)
      · have hr := cond_f h19 hr
        refine AWp.exit ?_
        obtain rfl := some_inj hr
        exact round_out () 6 (by simp)
    · refine AWp.conv hc ?_
      obtain ⟨r4, h26, hr⟩ := bind_some' hr
      refine AWp.then ⟨[⟨7, none, .ptr 5 0⟩], [.dead, .dead, .dead, .mapo (encM (kI .i64) (vA Antiphonref09Thing.enc) r4.2.fOf), .blk [.lit (.int .i64 r4.2.fConfig.fMost), .lit (.int .i64 r4.2.fConfig.fWait), .lit (.bool r4.2.fBegun), .lit (.int .i64 r4.2.fNext), .mp 3, .lit (.int .i64 r4.2.fLost)], .blk [.ptr 4 0, .lit (.int .i64 v1.2.2.2.2.2.1.fMost), .lit (.int .i64 v1.2.2.2.2.2.1.fWait), .lit (.bool v1.2.2.2.2.2.1.fBegun), .lit (.int .i64 v1.2.2.2.2.2.1.fNext), .sl (v1.2.2.2.2.2.1.fL.map Antiphonref09Thing.enc) .no, .lit (.int .i64 v1.2.2.2.2.2.1.fLost), .lit (.int .i64 v1.2.2.2.2.2.2)]]⟩ (AWp.reg Try.tyOk hΓ (keep := []) (dead := []) (by kernel_rfl) rfl (by simp [h26])) ?_
      obtain ⟨r5, h27, hr⟩ := bind_some' hr
      obtain ⟨h28, hr⟩ := need_some hr
      cases h29 : (pickB (eqI r5 0) (eqI (lenL ((gReorderBufferMissing r4.2 9).getD dflt)) 0) false) with
      | true =>
        have hr := cond_t h29 hr
        obtain ⟨r6, h30, hr⟩ := bind_some' hr
        refine AWp.then ⟨[⟨6, none, .lit (.bool (eqI (lenL r6.1) 0))⟩], [.dead, .dead, .dead, .mapo (encM (kI .i64) (vA Antiphonref09Thing.enc) r6.2.fOf), .blk [.lit (.int .i64 r6.2.fConfig.fMost), .lit (.int .i64 r6.2.fConfig.fWait), .lit (.bool r6.2.fBegun), .lit (.int .i64 r6.2.fNext), .mp 3, .lit (.int .i64 r6.2.fLost)], .blk [.ptr 4 0, .lit (.int .i64 v1.2.2.2.2.2.1.fMost), .lit (.int .i64 v1.2.2.2.2.2.1.fWait), .lit (.bool v1.2.2.2.2.2.1.fBegun), .lit (.int .i64 v1.2.2.2.2.2.1.fNext), .sl (v1.2.2.2.2.2.1.fL.map Antiphonref09Thing.enc) .no, .lit (.int .i64 v1.2.2.2.2.2.1.fLost), .lit (.int .i64 v1.2.2.2.2.2.2)]]⟩ (AWp.regG Try.tyOk hΓ [(86, true)] (keep := [6]) (dead := [7]) (by kernel_rfl) rfl (by simp [h27, h28, h29, h30])) ?_
        refine AWp.ret ?_
        obtain rfl := some_inj hr
        refine fin_ret ?_
        simp
      | false =>
        have hr := cond_f h29 hr
        refine AWp.then ⟨[⟨6, none, .lit (.bool false)⟩], [.dead, .dead, .dead, .mapo (encM (kI .i64) (vA Antiphonref09Thing.enc) r4.2.fOf), .blk [.lit (.int .i64 r4.2.fConfig.fMost), .lit (.int .i64 r4.2.fConfig.fWait), .lit (.bool r4.2.fBegun), .lit (.int .i64 r4.2.fNext), .mp 3, .lit (.int .i64 r4.2.fLost)], .blk [.ptr 4 0, .lit (.int .i64 v1.2.2.2.2.2.1.fMost), .lit (.int .i64 v1.2.2.2.2.2.1.fWait), .lit (.bool v1.2.2.2.2.2.1.fBegun), .lit (.int .i64 v1.2.2.2.2.2.1.fNext), .sl (v1.2.2.2.2.2.1.fL.map Antiphonref09Thing.enc) .no, .lit (.int .i64 v1.2.2.2.2.2.1.fLost), .lit (.int .i64 v1.2.2.2.2.2.2)]]⟩ (AWp.regG Try.tyOk hΓ [(86, false)] (keep := [6]) (dead := [7]) (by kernel_rfl) rfl (by simp [h27, h28, h29])) ?_
        refine AWp.ret ?_
        obtain rfl := some_inj hr
        refine fin_ret ?_
        simp

@[simp] noncomputable def gLaw09ReorderWaits.S : Sp
  | [.lit (.int .i64 x0), .lit (.int .i64 x1), .sl e2 _], _ => some { av := .lit (.bool ((gLaw09ReorderWaits x0 x1 (e2.map Antiphonlaw09Act.dec)).getD dflt)), M := none, obl := e2 = (e2.map Antiphonlaw09Act.dec).map Antiphonlaw09Act.enc ∧ (gLaw09ReorderWaits x0 x1 (e2.map Antiphonlaw09Act.dec)).isSome = true }
  | _, _ => none

set_option maxHeartbeats 1000000 in
theorem gLaw09ReorderWaits.ok : SpecOk Try.prog 6 gLaw09ReorderWaits.S := by
  intro l M out h
  unfold gLaw09ReorderWaits.S at h
  split at h
  · rename_i x0 x1 e2 k2
    cases h
    refine callOk_of fun ho => ?_
    obtain ⟨ox2, hs⟩ := ho
    generalize (e2.map Antiphonlaw09Act.dec) = x2 at *
    subst ox2
    obtain ⟨r, hr⟩ := Option.isSome_iff_exists.1 hs
    simp only [hr, Option.getD_some]
    have q := call_frame (M := M) [] (gLaw09ReorderWaits.can x0 x1 x2 r hr) (by simp) rfl (by intro k i hk; simp at hk)
    exact callOk_conv q trivial (by simp) (by simp [frameOut, gLaw09ReorderWaits.out]) (by simp [frameOut, gLaw09ReorderWaits.out])
  · cases h
end Go.Proofs

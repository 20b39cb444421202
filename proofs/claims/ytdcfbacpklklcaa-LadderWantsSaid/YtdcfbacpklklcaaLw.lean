/- That these functions compute what their plain functions do. No condition. -/
import Derived.Test.YtdcfbacpklklcaaLwD
import Derived.Test.YtdcfbacpklklcaaTy
import Derived.Test.YtdcfbacpklklcaaLd
import Derived.Test.YtdcfbacpklklcaaWl
namespace Go.Proofs
open Go.Ab
@[simp] def gLaw23LadderWants.out (_x0 : Int) (_x1 : Int) (_x2 : Int) (_x3 : List Int) (_x4 : List Int) (_x5 : List Int) (r : Bool) : Out := { av := .lit (.bool r), M := none }
def gLaw23LadderWants.fin (x0 : Int) (x1 : Int) (x2 : Int) (x3 : List Int) (x4 : List Int) (x5 : List Int) (r : Bool) (σ : St) : Prop := finK (gLaw23LadderWants.out x0 x1 x2 x3 x4 x5 r) [] σ.M (resA Try.ty σ.A σ.M Try.f4.results.toList)
set_option maxHeartbeats 4000000 in
set_option maxRecDepth 100000 in
theorem gLaw23LadderWants.can (x0 : Int) (x1 : Int) (x2 : Int) (x3 : List Int) (x4 : List Int) (x5 : List Int) (r : Bool) (hr : gLaw23LadderWants x0 x1 x2 x3 x4 x5 = some r) : CallOk Try.prog 4 [.lit (.int .i64 x0), .lit (.int .i64 x1), .lit (.int .i64 x2), .sl (x3.map (encI .i64)) .no, .sl (x4.map (encI .i64)) .no, .sl (x5.map (encI .i64)) .no] [] (gLaw23LadderWants.out x0 x1 x2 x3 x4 x5 r) := by
  unfold gLaw23LadderWants at hr
  have hΓ := (gamL_cons gLadderLadderAt.ok (gamL_cons gLadderLadderTick.ok (gamL_cons gLadderLadderWant.ok (gamL_cons gLaw23Awake.ok (gamL_cons gLaw23Needs.ok (gamL_cons gLadderNew.ok (gamL_nil)))))) : GamOk Try.prog _)
  refine call_of_awp Try.tyOk Try.func4 rfl (by kernel_rfl) rfl rfl (by simp) ?_
  intro _ _ _
  refine AWp.then ⟨[⟨0, none, .lit (.int .i64 x0)⟩, ⟨1, none, .lit (.int .i64 x1)⟩, ⟨2, none, .lit (.int .i64 x2)⟩, ⟨3, none, .sl (x3.map (encI .i64)) .no⟩, ⟨4, none, .sl (x4.map (encI .i64)) .no⟩, ⟨5, none, .sl (x5.map (encI .i64)) .no⟩], []⟩ (AWp.reg Try.tyOk hΓ (keep := []) (dead := []) (by kernel_rfl) rfl (by simp)) ?_
  refine AWp.seq ?_
  obtain ⟨r1, h31, hr⟩ := bind_some' hr
  refine AWp.then ⟨[⟨21, none, .lit (.bool (notB r1))⟩, ⟨0, none, .lit (.int .i64 x0)⟩, ⟨1, none, .lit (.int .i64 x1)⟩, ⟨2, none, .lit (.int .i64 x2)⟩, ⟨3, none, .sl (x3.map (encI .i64)) .no⟩, ⟨4, none, .sl (x4.map (encI .i64)) .no⟩, ⟨5, none, .sl (x5.map (encI .i64)) .no⟩], []⟩ (AWp.reg Try.tyOk hΓ (keep := [21]) (dead := []) (by kernel_rfl) rfl (by simp [h31])) ?_
  refine AWp.cond (b := (notB r1)) (by simp) (fun h32 => ?_) (fun h32 => ?_)
  · have hr := cond_t h32 hr
    refine AWp.then ⟨[⟨12, none, .lit (.bool false)⟩], []⟩ (AWp.reg Try.tyOk hΓ (keep := [12]) (dead := [21, 0, 1, 2, 3, 4, 5]) (by kernel_rfl) rfl (by simp [h32])) ?_
    refine AWp.ret ?_
    obtain rfl := some_inj hr
    refine fin_ret ?_
    simp
  · have hr := cond_f h32 hr
    refine AWp.skip ?_
    obtain ⟨r2, h33, hr⟩ := bind_some' hr
    refine AWp.then ⟨[⟨13, none, .sl (r2.map (encI .i64)) .no⟩, ⟨0, none, .lit (.int .i64 x0)⟩, ⟨1, none, .lit (.int .i64 x1)⟩, ⟨2, none, .lit (.int .i64 x2)⟩, ⟨4, none, .sl (x4.map (encI .i64)) .no⟩, ⟨5, none, .sl (x5.map (encI .i64)) .no⟩], []⟩ (AWp.reg Try.tyOk hΓ (keep := [13]) (dead := [21, 3]) (by kernel_rfl) rfl (by simp [h32, h33])) ?_
    obtain ⟨r3, h34, hr⟩ := bind_some' hr
    cases h35 : r3.1 with
    | none =>
      have hr := optC_n h35 hr
      refine AWp.then ⟨[⟨14, none, .lit (.pointer none)⟩, ⟨15, none, .lit (.int .i64 r3.2)⟩, ⟨13, none, .sl (r2.map (encI .i64)) .no⟩, ⟨2, none, .lit (.int .i64 x2)⟩, ⟨4, none, .sl (x4.map (encI .i64)) .no⟩, ⟨5, none, .sl (x5.map (encI .i64)) .no⟩], []⟩ (AWp.reg Try.tyOk hΓ (keep := [14, 15]) (dead := [0, 1]) (by kernel_rfl) rfl (by simp [h34, h35])) ?_
      refine AWp.seq ?_
      refine AWp.then ⟨[⟨38, none, .lit (.bool (neI r3.2 0))⟩, ⟨14, none, .lit (.pointer none)⟩, ⟨13, none, .sl (r2.map (encI .i64)) .no⟩, ⟨2, none, .lit (.int .i64 x2)⟩, ⟨4, none, .sl (x4.map (encI .i64)) .no⟩, ⟨5, none, .sl (x5.map (encI .i64)) .no⟩], []⟩ (AWp.reg Try.tyOk hΓ (keep := [38]) (dead := [15]) (by kernel_rfl) rfl (by simp)) ?_
      refine AWp.cond (b := (neI r3.2 0)) (by simp) (fun h36 => ?_) (fun h36 => ?_)
      · have hr := cond_t h36 hr
        refine AWp.then ⟨[⟨12, none, .lit (.bool false)⟩], []⟩ (AWp.reg Try.tyOk hΓ (keep := [12]) (dead := [38, 14, 13, 2, 4, 5]) (by kernel_rfl) rfl (by simp [h36])) ?_
        refine AWp.ret ?_
        obtain rfl := some_inj hr
        refine fin_ret ?_
        simp
      · have hr := cond_f h36 hr
        refine AWp.skip ?_
        refine AWp.then ⟨[⟨2, none, .lit (.int .i64 (minI (maxI x2 0) (subI .i64 (lenL r2) 1)))⟩, ⟨14, none, .lit (.pointer none)⟩, ⟨13, none, .sl (r2.map (encI .i64)) .no⟩, ⟨4, none, .sl (x4.map (encI .i64)) .no⟩, ⟨5, none, .sl (x5.map (encI .i64)) .no⟩], []⟩ (AWp.reg Try.tyOk hΓ (keep := [2]) (dead := [38]) (by kernel_rfl) rfl (by simp [h36])) ?_
        refine AWp.seq ?_
        refine AWp.then ⟨[⟨16, none, .lit (.int .i64 0)⟩, ⟨2, none, .lit (.int .i64 (minI (maxI x2 0) (subI .i64 (lenL r2) 1)))⟩, ⟨14, none, .lit (.pointer none)⟩, ⟨13, none, .sl (r2.map (encI .i64)) .no⟩, ⟨4, none, .sl (x4.map (encI .i64)) .no⟩, ⟨5, none, .sl (x5.map (encI .i64)) .no⟩], []⟩ (AWp.reg Try.tyOk hΓ (keep := [16]) (dead := []) (by kernel_rfl) rfl (by simp)) ?_
        refine AWp.loopE (fun (s1 : Unit) (γ1 : Unit) => ⟨[⟨16, none, .lit (.int .i64 0)⟩, ⟨2, none, .lit (.int .i64 (minI (maxI x2 0) (subI .i64 (lenL r2) 1)))⟩, ⟨14, none, .lit (.pointer none)⟩, ⟨13, none, .sl (r2.map (encI .i64)) .no⟩, ⟨4, none, .sl (x4.map (encI .i64)) .no⟩, ⟨5, none, .sl (x5.map (encI .i64)) .no⟩], []⟩) (fun (v1 : Unit) (γ1a : Unit) => ⟨[], []⟩) (gLaw23LadderWants.fin x0 x1 x2 x3 x4 x5) hr () 0 (by simp) (fun s1 f γ1 hr => ?_) (fun v1 γ1a σ1 m1 hr hc => ?_) (fun _ h => h)
        · unfold gLaw23LadderWants.loop1 at hr
          refine AWp.seq ?_
          refine AWp.then ⟨[⟨52, none, .lit (.bool (pickB (ltI 0 (lenL x4)) (ltI 0 100) false))⟩, ⟨16, none, .lit (.int .i64 0)⟩, ⟨2, none, .lit (.int .i64 (minI (maxI x2 0) (subI .i64 (lenL r2) 1)))⟩, ⟨14, none, .lit (.pointer none)⟩, ⟨13, none, .sl (r2.map (encI .i64)) .no⟩, ⟨4, none, .sl (x4.map (encI .i64)) .no⟩, ⟨5, none, .sl (x5.map (encI .i64)) .no⟩], []⟩ (AWp.reg Try.tyOk hΓ (keep := [52]) (dead := []) (by kernel_rfl) rfl (by simp)) ?_
          refine AWp.cond (b := (pickB (ltI 0 (lenL x4)) (ltI 0 100) false)) (by simp) (fun h37 => ?_) (fun h37 => ?_)
          · have hr := cond_t h37 hr
            refine AWp.skip ?_
            refine AWp.seq ?_
            refine AWp.block ?_
            refine AWp.meetF (fun (v3 : Unit) (γ3 : Unit) => ⟨[⟨16, none, .lit (.int .i64 0)⟩, ⟨2, none, .lit (.int .i64 (minI (maxI x2 0) (subI .i64 (lenL r2) 1)))⟩, ⟨14, none, .lit (.pointer none)⟩, ⟨13, none, .sl (r2.map (encI .i64)) .no⟩, ⟨4, none, .sl (x4.map (encI .i64)) .no⟩, ⟨5, none, .sl (x5.map (encI .i64)) .no⟩], []⟩) (QRr (gLaw23LadderWants.fin x0 x1 x2 x3 x4 x5)) hr (fun f hr => ?_) (fun v3 γ3 hr => ?_) (fun _ h => QRr_ret h)
            · obtain ⟨h38, hr⟩ := need_some hr
              refine AWp.then ⟨[⟨66, none, .lit (.bool (pickB (ltI 0 (lenL x5)) (eqI (bitsOp .and .i64 (nthI x5 0) 1) 1) false))⟩, ⟨16, none, .lit (.int .i64 0)⟩, ⟨2, none, .lit (.int .i64 (minI (maxI x2 0) (subI .i64 (lenL r2) 1)))⟩, ⟨14, none, .lit (.pointer none)⟩, ⟨13, none, .sl (r2.map (encI .i64)) .no⟩, ⟨4, none, .sl (x4.map (encI .i64)) .no⟩, ⟨5, none, .sl (x5.map (encI .i64)) .no⟩], []⟩ (AWp.reg Try.tyOk hΓ (keep := [66]) (dead := [52]) (by kernel_rfl) rfl (by simp [h37, h38])) ?_
              refine AWp.cond (b := (pickB (ltI 0 (lenL x5)) (eqI (bitsOp .and .i64 (nthI x5 0) 1) 1) false)) (by simp) (fun h39 => ?_) (fun h39 => ?_)
              · have hr := cond_t h39 hr
                refine AWp.seq ?_
                cases hr
              · have hr := cond_f h39 hr
                refine AWp.skip ?_
                obtain rfl := some_inj hr
                exact meet_go () 0 (by simp)
            · refine AWp.seq ?_
              cases hr
          · have hr := cond_f h37 hr
            refine AWp.exit ?_
            obtain rfl := some_inj hr
            exact round_out () 0 (by simp)
        · refine AWp.conv hc ?_
          refine AWp.then ⟨[⟨12, none, .lit (.bool true)⟩], []⟩ (AWp.reg Try.tyOk hΓ (keep := [12]) (dead := []) (by kernel_rfl) rfl (by simp)) ?_
          refine AWp.ret ?_
          obtain rfl := some_inj hr
          refine fin_ret ?_
          simp
    | some o1 =>
      have hr := optC_s h35 hr
      refine AWp.then ⟨[⟨14, none, .ptr 2 0⟩, ⟨15, none, .lit (.int .i64 r3.2)⟩, ⟨13, none, .sl (r2.map (encI .i64)) .no⟩, ⟨2, none, .lit (.int .i64 x2)⟩, ⟨4, none, .sl (x4.map (encI .i64)) .no⟩, ⟨5, none, .sl (x5.map (encI .i64)) .no⟩], [.dead, .dead, .blk [.lit (.int .i64 o1.fConfig.fDown), .lit (.int .i64 o1.fConfig.fUp), .lit (.int .i64 o1.fConfig.fSpare), .sl (o1.fNeeds.map (encI .i64)) .no, .lit (.int .i64 o1.fAt), .lit (.int .i64 o1.fMost), .lit (.int .i64 o1.fBad), .lit (.int .i64 o1.fGood), .lit (.int .i64 o1.fMoves)]]⟩ (AWp.reg Try.tyOk hΓ (keep := [14, 15]) (dead := [0, 1]) (by kernel_rfl) rfl (by simp [h34, h35])) ?_
      refine AWp.seq ?_
      refine AWp.then ⟨[⟨38, none, .lit (.bool (neI r3.2 0))⟩, ⟨14, none, .ptr 2 0⟩, ⟨13, none, .sl (r2.map (encI .i64)) .no⟩, ⟨2, none, .lit (.int .i64 x2)⟩, ⟨4, none, .sl (x4.map (encI .i64)) .no⟩, ⟨5, none, .sl (x5.map (encI .i64)) .no⟩], [.dead, .dead, .blk [.lit (.int .i64 o1.fConfig.fDown), .lit (.int .i64 o1.fConfig.fUp), .lit (.int .i64 o1.fConfig.fSpare), .sl (o1.fNeeds.map (encI .i64)) .no, .lit (.int .i64 o1.fAt), .lit (.int .i64 o1.fMost), .lit (.int .i64 o1.fBad), .lit (.int .i64 o1.fGood), .lit (.int .i64 o1.fMoves)]]⟩ (AWp.reg Try.tyOk hΓ (keep := [38]) (dead := [15]) (by kernel_rfl) rfl (by simp)) ?_
      refine AWp.cond (b := (neI r3.2 0)) (by simp) (fun h40 => ?_) (fun h40 => ?_)
      · have hr := cond_t h40 hr
        refine AWp.then ⟨[⟨12, none, .lit (.bool false)⟩], [.dead, .dead, .blk [.lit (.int .i64 o1.fConfig.fDown), .lit (.int .i64 o1.fConfig.fUp), .lit (.int .i64 o1.fConfig.fSpare), .sl (o1.fNeeds.map (encI .i64)) .no, .lit (.int .i64 o1.fAt), .lit (.int .i64 o1.fMost), .lit (.int .i64 o1.fBad), .lit (.int .i64 o1.fGood), .lit (.int .i64 o1.fMoves)]]⟩ (AWp.reg Try.tyOk hΓ (keep := [12]) (dead := [38, 14, 13, 2, 4, 5]) (by kernel_rfl) rfl (by simp [h40])) ?_
        refine AWp.ret ?_
        obtain rfl := some_inj hr
        refine fin_ret ?_
        simp
      · have hr := cond_f h40 hr
        refine AWp.skip ?_
        refine AWp.then ⟨[⟨2, none, .lit (.int .i64 (minI (maxI x2 0) (subI .i64 (lenL r2) 1)))⟩, ⟨14, none, .ptr 2 0⟩, ⟨13, none, .sl (r2.map (encI .i64)) .no⟩, ⟨4, none, .sl (x4.map (encI .i64)) .no⟩, ⟨5, none, .sl (x5.map (encI .i64)) .no⟩], [.dead, .dead, .blk [.lit (.int .i64 o1.fConfig.fDown), .lit (.int .i64 o1.fConfig.fUp), .lit (.int .i64 o1.fConfig.fSpare), .sl (o1.fNeeds.map (encI .i64)) .no, .lit (.int .i64 o1.fAt), .lit (.int .i64 o1.fMost), .lit (.int .i64 o1.fBad), .lit (.int .i64 o1.fGood), .lit (.int .i64 o1.fMoves)]]⟩ (AWp.reg Try.tyOk hΓ (keep := [2]) (dead := [38]) (by kernel_rfl) rfl (by simp [h40])) ?_
        refine AWp.seq ?_
        refine AWp.then ⟨[⟨16, none, .lit (.int .i64 0)⟩, ⟨2, none, .lit (.int .i64 (minI (maxI x2 0) (subI .i64 (lenL r2) 1)))⟩, ⟨14, none, .ptr 2 0⟩, ⟨13, none, .sl (r2.map (encI .i64)) .no⟩, ⟨4, none, .sl (x4.map (encI .i64)) .no⟩, ⟨5, none, .sl (x5.map (encI .i64)) .no⟩], [.dead, .dead, .blk [.lit (.int .i64 o1.fConfig.fDown), .lit (.int .i64 o1.fConfig.fUp), .lit (.int .i64 o1.fConfig.fSpare), .sl (o1.fNeeds.map (encI .i64)) .no, .lit (.int .i64 o1.fAt), .lit (.int .i64 o1.fMost), .lit (.int .i64 o1.fBad), .lit (.int .i64 o1.fGood), .lit (.int .i64 o1.fMoves)]]⟩ (AWp.reg Try.tyOk hΓ (keep := [16]) (dead := []) (by kernel_rfl) rfl (by simp)) ?_
        refine AWp.loopE (fun (s4 : Int × Int × LadderLadder) (γ4 : Unit) => ⟨[⟨16, none, .lit (.int .i64 s4.1)⟩, ⟨2, none, .lit (.int .i64 s4.2.1)⟩, ⟨14, none, .ptr 2 0⟩, ⟨13, none, .sl (r2.map (encI .i64)) .no⟩, ⟨4, none, .sl (x4.map (encI .i64)) .no⟩, ⟨5, none, .sl (x5.map (encI .i64)) .no⟩], [.dead, .dead, .blk [.lit (.int .i64 s4.2.2.fConfig.fDown), .lit (.int .i64 s4.2.2.fConfig.fUp), .lit (.int .i64 s4.2.2.fConfig.fSpare), .sl (s4.2.2.fNeeds.map (encI .i64)) .no, .lit (.int .i64 s4.2.2.fAt), .lit (.int .i64 s4.2.2.fMost), .lit (.int .i64 s4.2.2.fBad), .lit (.int .i64 s4.2.2.fGood), .lit (.int .i64 s4.2.2.fMoves)]]⟩) (fun (v4 : LadderLadder) (γ4a : Unit) => ⟨[], [.dead, .dead, .blk [.lit (.int .i64 v4.fConfig.fDown), .lit (.int .i64 v4.fConfig.fUp), .lit (.int .i64 v4.fConfig.fSpare), .sl (v4.fNeeds.map (encI .i64)) .no, .lit (.int .i64 v4.fAt), .lit (.int .i64 v4.fMost), .lit (.int .i64 v4.fBad), .lit (.int .i64 v4.fGood), .lit (.int .i64 v4.fMoves)]]⟩) (gLaw23LadderWants.fin x0 x1 x2 x3 x4 x5) hr () 3 (by simp) (fun s4 f γ4 hr => ?_) (fun v4 γ4a σ1 m1 hr hc => ?_) (fun _ h => h)
        · unfold gLaw23LadderWants.loop4 at hr
          refine AWp.seq ?_
          refine AWp.then ⟨[⟨52, none, .lit (.bool (pickB (ltI s4.1 (lenL x4)) (ltI s4.1 100) false))⟩, ⟨16, none, .lit (.int .i64 s4.1)⟩, ⟨2, none, .lit (.int .i64 s4.2.1)⟩, ⟨14, none, .ptr 2 0⟩, ⟨13, none, .sl (r2.map (encI .i64)) .no⟩, ⟨4, none, .sl (x4.map (encI .i64)) .no⟩, ⟨5, none, .sl (x5.map (encI .i64)) .no⟩], [.dead, .dead, .blk [.lit (.int .i64 s4.2.2.fConfig.fDown), .lit (.int .i64 s4.2.2.fConfig.fUp), .lit (.int .i64 s4.2.2.fConfig.fSpare), .sl (s4.2.2.fNeeds.map (encI .i64)) .no, .lit (.int .i64 s4.2.2.fAt), .lit (.int .i64 s4.2.2.fMost), .lit (.int .i64 s4.2.2.fBad), .lit (.int .i64 s4.2.2.fGood), .lit (.int .i64 s4.2.2.fMoves)]]⟩ (AWp.reg Try.tyOk hΓ (keep := [52]) (dead := []) (by kernel_rfl) rfl (by simp)) ?_
          refine AWp.cond (b := (pickB (ltI s4.1 (lenL x4)) (ltI s4.1 100) false)) (by simp) (fun h41 => ?_) (fun h41 => ?_)
          · have hr := cond_t h41 hr
            refine AWp.skip ?_
            refine AWp.meetF (fun (v5 : Int × LadderLadder) (γ5 : Unit) => ⟨[⟨16, none, .lit (.int .i64 s4.1)⟩, ⟨2, none, .lit (.int .i64 v5.1)⟩, ⟨14, none, .ptr 2 0⟩, ⟨13, none, .sl (r2.map (encI .i64)) .no⟩, ⟨4, none, .sl (x4.map (encI .i64)) .no⟩, ⟨5, none, .sl (x5.map (encI .i64)) .no⟩], [.dead, .dead, .blk [.lit (.int .i64 v5.2.fConfig.fDown), .lit (.int .i64 v5.2.fConfig.fUp), .lit (.int .i64 v5.2.fConfig.fSpare), .sl (v5.2.fNeeds.map (encI .i64)) .no, .lit (.int .i64 v5.2.fAt), .lit (.int .i64 v5.2.fMost), .lit (.int .i64 v5.2.fBad), .lit (.int .i64 v5.2.fGood), .lit (.int .i64 v5.2.fMoves)]]⟩) (QRr (gLaw23LadderWants.fin x0 x1 x2 x3 x4 x5)) hr (fun f hr => ?_) (fun v5 γ5 hr => ?_) (fun _ h => QRr_ret h)
            · refine AWp.block ?_
              refine AWp.meetF (fun (v6 : LadderLadder × Int) (γ6 : Unit) => ⟨[⟨16, none, .lit (.int .i64 s4.1)⟩, ⟨2, none, .lit (.int .i64 v6.2)⟩, ⟨14, none, .ptr 2 0⟩, ⟨13, none, .sl (r2.map (encI .i64)) .no⟩, ⟨4, none, .sl (x4.map (encI .i64)) .no⟩, ⟨5, none, .sl (x5.map (encI .i64)) .no⟩], [.dead, .dead, .blk [.lit (.int .i64 v6.1.fConfig.fDown), .lit (.int .i64 v6.1.fConfig.fUp), .lit (.int .i64 v6.1.fConfig.fSpare), .sl (v6.1.fNeeds.map (encI .i64)) .no, .lit (.int .i64 v6.1.fAt), .lit (.int .i64 v6.1.fMost), .lit (.int .i64 v6.1.fBad), .lit (.int .i64 v6.1.fGood), .lit (.int .i64 v6.1.fMoves)]]⟩) (QRm (QRr (gLaw23LadderWants.fin x0 x1 x2 x3 x4 x5))) hr (fun f hr => ?_) (fun v6 γ6 hr => ?_) (fun _ h => QRm_ret h)
              · obtain ⟨h42, hr⟩ := need_some hr
                refine AWp.then ⟨[⟨66, none, .lit (.bool (pickB (ltI s4.1 (lenL x5)) (eqI (bitsOp .and .i64 (nthI x5 s4.1) 1) 1) false))⟩, ⟨16, none, .lit (.int .i64 s4.1)⟩, ⟨2, none, .lit (.int .i64 s4.2.1)⟩, ⟨14, none, .ptr 2 0⟩, ⟨13, none, .sl (r2.map (encI .i64)) .no⟩, ⟨4, none, .sl (x4.map (encI .i64)) .no⟩, ⟨5, none, .sl (x5.map (encI .i64)) .no⟩], [.dead, .dead, .blk [.lit (.int .i64 s4.2.2.fConfig.fDown), .lit (.int .i64 s4.2.2.fConfig.fUp), .lit (.int .i64 s4.2.2.fConfig.fSpare), .sl (s4.2.2.fNeeds.map (encI .i64)) .no, .lit (.int .i64 s4.2.2.fAt), .lit (.int .i64 s4.2.2.fMost), .lit (.int .i64 s4.2.2.fBad), .lit (.int .i64 s4.2.2.fGood), .lit (.int .i64 s4.2.2.fMoves)]]⟩ (AWp.reg Try.tyOk hΓ (keep := [66]) (dead := [52]) (by kernel_rfl) rfl (by simp [h41, h42])) ?_
                refine AWp.cond (b := (pickB (ltI s4.1 (lenL x5)) (eqI (bitsOp .and .i64 (nthI x5 s4.1) 1) 1) false)) (by simp) (fun h43 => ?_) (fun h43 => ?_)
                · have hr := cond_t h43 hr
                  obtain ⟨r4, h44, hr⟩ := bind_some' hr
                  refine AWp.then ⟨[⟨17, none, .lit (.int .i64 r4)⟩, ⟨16, none, .lit (.int .i64 s4.1)⟩, ⟨14, none, .ptr 2 0⟩, ⟨13, none, .sl (r2.map (encI .i64)) .no⟩, ⟨4, none, .sl (x4.map (encI .i64)) .no⟩, ⟨5, none, .sl (x5.map (encI .i64)) .no⟩], [.dead, .dead, .blk [.lit (.int .i64 s4.2.2.fConfig.fDown), .lit (.int .i64 s4.2.2.fConfig.fUp), .lit (.int .i64 s4.2.2.fConfig.fSpare), .sl (s4.2.2.fNeeds.map (encI .i64)) .no, .lit (.int .i64 s4.2.2.fAt), .lit (.int .i64 s4.2.2.fMost), .lit (.int .i64 s4.2.2.fBad), .lit (.int .i64 s4.2.2.fGood), .lit (.int .i64 s4.2.2.fMoves)]]⟩ (AWp.reg Try.tyOk hΓ (keep := [17]) (dead := [66, 2]) (by kernel_rfl) rfl (by simp [h43, h44])) ?_
                  obtain ⟨h45, hr⟩ := need_some hr
                  obtain ⟨h46, hr⟩ := need_some hr
                  refine AWp.then ⟨[⟨2, none, .lit (.int .i64 (minI (maxI (shrI .i64 (nthI x5 s4.1) 1) 0) (subI .i64 (lenL r2) 1)))⟩, ⟨17, none, .lit (.int .i64 r4)⟩, ⟨16, none, .lit (.int .i64 s4.1)⟩, ⟨14, none, .ptr 2 0⟩, ⟨13, none, .sl (r2.map (encI .i64)) .no⟩, ⟨4, none, .sl (x4.map (encI .i64)) .no⟩, ⟨5, none, .sl (x5.map (encI .i64)) .no⟩], [.dead, .dead, .blk [.lit (.int .i64 s4.2.2.fConfig.fDown), .lit (.int .i64 s4.2.2.fConfig.fUp), .lit (.int .i64 s4.2.2.fConfig.fSpare), .sl (s4.2.2.fNeeds.map (encI .i64)) .no, .lit (.int .i64 s4.2.2.fAt), .lit (.int .i64 s4.2.2.fMost), .lit (.int .i64 s4.2.2.fBad), .lit (.int .i64 s4.2.2.fGood), .lit (.int .i64 s4.2.2.fMoves)]]⟩ (AWp.reg Try.tyOk hΓ (keep := [2]) (dead := []) (by kernel_rfl) rfl (by simp [h45, h46])) ?_
                  obtain ⟨h47, hr⟩ := need_some hr
                  obtain ⟨h48, hr⟩ := need_some hr
                  obtain ⟨r5, h49, hr⟩ := bind_some' hr
                  obtain ⟨h50, hr⟩ := need_some hr
                  refine AWp.then ⟨[⟨97, none, .lit (.bool (pickB (neB r5.1 (ltI (minI (maxI (shrI .i64 (nthI x5 s4.1) 1) 0) (subI .i64 (lenL r2) 1)) r4)) true (neI ((gLadderLadderAt r5.2).getD dflt) (minI r4 (minI (maxI (shrI .i64 (nthI x5 s4.1) 1) 0) (subI .i64 (lenL r2) 1))))))⟩, ⟨2, none, .lit (.int .i64 (minI (maxI (shrI .i64 (nthI x5 s4.1) 1) 0) (subI .i64 (lenL r2) 1)))⟩, ⟨16, none, .lit (.int .i64 s4.1)⟩, ⟨14, none, .ptr 2 0⟩, ⟨13, none, .sl (r2.map (encI .i64)) .no⟩, ⟨4, none, .sl (x4.map (encI .i64)) .no⟩, ⟨5, none, .sl (x5.map (encI .i64)) .no⟩], [.dead, .dead, .blk [.lit (.int .i64 r5.2.fConfig.fDown), .lit (.int .i64 r5.2.fConfig.fUp), .lit (.int .i64 r5.2.fConfig.fSpare), .sl (r5.2.fNeeds.map (encI .i64)) .no, .lit (.int .i64 r5.2.fAt), .lit (.int .i64 r5.2.fMost), .lit (.int .i64 r5.2.fBad), .lit (.int .i64 r5.2.fGood), .lit (.int .i64 r5.2.fMoves)]]⟩ (AWp.reg Try.tyOk hΓ (keep := [97]) (dead := [17]) (by kernel_rfl) rfl (by simp [h45, h46, h49, h50])) ?_
                  refine AWp.cond (b := (pickB (neB r5.1 (ltI (minI (maxI (shrI .i64 (nthI x5 s4.1) 1) 0) (subI .i64 (lenL r2) 1)) r4)) true (neI ((gLadderLadderAt r5.2).getD dflt) (minI r4 (minI (maxI (shrI .i64 (nthI x5 s4.1) 1) 0) (subI .i64 (lenL r2) 1)))))) (by simp) (fun h51 => ?_) (fun h51 => ?_)
                  · have hr := cond_t h51 hr
                    refine AWp.then ⟨[⟨12, none, .lit (.bool false)⟩], [.dead, .dead, .blk [.lit (.int .i64 r5.2.fConfig.fDown), .lit (.int .i64 r5.2.fConfig.fUp), .lit (.int .i64 r5.2.fConfig.fSpare), .sl (r5.2.fNeeds.map (encI .i64)) .no, .lit (.int .i64 r5.2.fAt), .lit (.int .i64 r5.2.fMost), .lit (.int .i64 r5.2.fBad), .lit (.int .i64 r5.2.fGood), .lit (.int .i64 r5.2.fMoves)]]⟩ (AWp.reg Try.tyOk hΓ (keep := [12]) (dead := [97, 2, 16, 14, 13, 4, 5]) (by kernel_rfl) rfl (by simp [h51])) ?_
                    refine AWp.ret ?_
                    obtain rfl := some_inj hr
                    refine meet_ret ?_
                    refine ⟨_, rfl, ?_⟩
                    refine ⟨_, rfl, ?_⟩
                    refine fin_ret ?_
                    simp
                  · have hr := cond_f h51 hr
                    refine AWp.skip ?_
                    obtain rfl := some_inj hr
                    exact meet_go () 3 (by simp)
                · have hr := cond_f h43 hr
                  refine AWp.skip ?_
                  obtain rfl := some_inj hr
                  exact meet_go () 3 (by simp)
              · obtain ⟨r6, h52, hr⟩ := bind_some' hr
                refine AWp.then ⟨[⟨18, none, .lit (.int .i64 r6)⟩, ⟨16, none, .lit (.int .i64 s4.1)⟩, ⟨2, none, .lit (.int .i64 v6.2)⟩, ⟨14, none, .ptr 2 0⟩, ⟨13, none, .sl (r2.map (encI .i64)) .no⟩, ⟨4, none, .sl (x4.map (encI .i64)) .no⟩, ⟨5, none, .sl (x5.map (encI .i64)) .no⟩], [.dead, .dead, .blk [.lit (.int .i64 v6.1.fConfig.fDown), .lit (.int .i64 v6.1.fConfig.fUp), .lit (.int .i64 v6.1.fConfig.fSpare), .sl (v6.1.fNeeds.map (encI .i64)) .no, .lit (.int .i64 v6.1.fAt), .lit (.int .i64 v6.1.fMost), .lit (.int .i64 v6.1.fBad), .lit (.int .i64 v6.1.fGood), .lit (.int .i64 v6.1.fMoves)]]⟩ (AWp.reg Try.tyOk hΓ (keep := [18]) (dead := []) (by kernel_rfl) rfl (by simp [h52])) ?_
                obtain ⟨h53, hr⟩ := need_some hr
                obtain ⟨r7, h54, hr⟩ := bind_some' hr
                refine AWp.then ⟨[⟨19, none, .lit (.bool r7.1)⟩, ⟨18, none, .lit (.int .i64 r6)⟩, ⟨16, none, .lit (.int .i64 s4.1)⟩, ⟨2, none, .lit (.int .i64 v6.2)⟩, ⟨14, none, .ptr 2 0⟩, ⟨13, none, .sl (r2.map (encI .i64)) .no⟩, ⟨4, none, .sl (x4.map (encI .i64)) .no⟩, ⟨5, none, .sl (x5.map (encI .i64)) .no⟩], [.dead, .dead, .blk [.lit (.int .i64 r7.2.fConfig.fDown), .lit (.int .i64 r7.2.fConfig.fUp), .lit (.int .i64 r7.2.fConfig.fSpare), .sl (r7.2.fNeeds.map (encI .i64)) .no, .lit (.int .i64 r7.2.fAt), .lit (.int .i64 r7.2.fMost), .lit (.int .i64 r7.2.fBad), .lit (.int .i64 r7.2.fGood), .lit (.int .i64 r7.2.fMoves)]]⟩ (AWp.reg Try.tyOk hΓ (keep := [19]) (dead := []) (by kernel_rfl) rfl (by simp [h53, h54])) ?_
                obtain ⟨r8, h55, hr⟩ := bind_some' hr
                obtain ⟨h56, hr⟩ := need_some hr
                obtain ⟨h57, hr⟩ := need_some hr
                obtain ⟨h58, hr⟩ := need_some hr
                obtain ⟨h59, hr⟩ := need_some hr
                refine AWp.then ⟨[⟨136, none, .lit (.bool (pickB (pickB (pickB (pickB (ltI r8 0) true (ltI v6.2 ((gLadderLadderAt r7.2).getD dflt))) true (neB r7.1 (neI ((gLadderLadderAt r7.2).getD dflt) r6))) true (ltI 1 (subI .i64 ((gLadderLadderAt r7.2).getD dflt) r6))) true (ltI 1 (subI .i64 r6 ((gLadderLadderAt r7.2).getD dflt)))))⟩, ⟨16, none, .lit (.int .i64 s4.1)⟩, ⟨2, none, .lit (.int .i64 v6.2)⟩, ⟨14, none, .ptr 2 0⟩, ⟨13, none, .sl (r2.map (encI .i64)) .no⟩, ⟨4, none, .sl (x4.map (encI .i64)) .no⟩, ⟨5, none, .sl (x5.map (encI .i64)) .no⟩], [.dead, .dead, .blk [.lit (.int .i64 r7.2.fConfig.fDown), .lit (.int .i64 r7.2.fConfig.fUp), .lit (.int .i64 r7.2.fConfig.fSpare), .sl (r7.2.fNeeds.map (encI .i64)) .no, .lit (.int .i64 r7.2.fAt), .lit (.int .i64 r7.2.fMost), .lit (.int .i64 r7.2.fBad), .lit (.int .i64 r7.2.fGood), .lit (.int .i64 r7.2.fMoves)]]⟩ (AWp.reg Try.tyOk hΓ (keep := [136]) (dead := [19, 18]) (by kernel_rfl) rfl (by simp [h55])) ?_
                refine AWp.cond (b := (pickB (pickB (pickB (pickB (ltI r8 0) true (ltI v6.2 ((gLadderLadderAt r7.2).getD dflt))) true (neB r7.1 (neI ((gLadderLadderAt r7.2).getD dflt) r6))) true (ltI 1 (subI .i64 ((gLadderLadderAt r7.2).getD dflt) r6))) true (ltI 1 (subI .i64 r6 ((gLadderLadderAt r7.2).getD dflt))))) (by simp) (fun h60 => ?_) (fun h60 => ?_)
                · have hr := cond_t h60 hr
                  refine AWp.then ⟨[⟨12, none, .lit (.bool false)⟩], [.dead, .dead, .blk [.lit (.int .i64 r7.2.fConfig.fDown), .lit (.int .i64 r7.2.fConfig.fUp), .lit (.int .i64 r7.2.fConfig.fSpare), .sl (r7.2.fNeeds.map (encI .i64)) .no, .lit (.int .i64 r7.2.fAt), .lit (.int .i64 r7.2.fMost), .lit (.int .i64 r7.2.fBad), .lit (.int .i64 r7.2.fGood), .lit (.int .i64 r7.2.fMoves)]]⟩ (AWp.reg Try.tyOk hΓ (keep := [12]) (dead := [136, 16, 2, 14, 13, 4, 5]) (by kernel_rfl) rfl (by simp [h55])) ?_
                  refine AWp.ret ?_
                  obtain rfl := some_inj hr
                  refine meet_ret ?_
                  refine ⟨_, rfl, ?_⟩
                  refine fin_ret ?_
                  simp
                · have hr := cond_f h60 hr
                  refine AWp.skip ?_
                  obtain rfl := some_inj hr
                  exact meet_go () 3 (by simp)
            · refine AWp.last ⟨[⟨16, none, .lit (.int .i64 (addI .i64 s4.1 1))⟩, ⟨2, none, .lit (.int .i64 v5.1)⟩, ⟨14, none, .ptr 2 0⟩, ⟨13, none, .sl (r2.map (encI .i64)) .no⟩, ⟨4, none, .sl (x4.map (encI .i64)) .no⟩, ⟨5, none, .sl (x5.map (encI .i64)) .no⟩], [.dead, .dead, .blk [.lit (.int .i64 v5.2.fConfig.fDown), .lit (.int .i64 v5.2.fConfig.fUp), .lit (.int .i64 v5.2.fConfig.fSpare), .sl (v5.2.fNeeds.map (encI .i64)) .no, .lit (.int .i64 v5.2.fAt), .lit (.int .i64 v5.2.fMost), .lit (.int .i64 v5.2.fBad), .lit (.int .i64 v5.2.fGood), .lit (.int .i64 v5.2.fMoves)]]⟩ (AWp.reg Try.tyOk hΓ (keep := [16]) (dead := []) (by kernel_rfl) rfl (by simp)) ?_
              obtain rfl := some_inj hr
              exact round_go () 3 (by simp)
          · have hr := cond_f h41 hr
            refine AWp.exit ?_
            obtain rfl := some_inj hr
            exact round_out () 3 (by simp)
        · refine AWp.conv hc ?_
          refine AWp.then ⟨[⟨12, none, .lit (.bool true)⟩], [.dead, .dead, .blk [.lit (.int .i64 v4.fConfig.fDown), .lit (.int .i64 v4.fConfig.fUp), .lit (.int .i64 v4.fConfig.fSpare), .sl (v4.fNeeds.map (encI .i64)) .no, .lit (.int .i64 v4.fAt), .lit (.int .i64 v4.fMost), .lit (.int .i64 v4.fBad), .lit (.int .i64 v4.fGood), .lit (.int .i64 v4.fMoves)]]⟩ (AWp.reg Try.tyOk hΓ (keep := [12]) (dead := []) (by kernel_rfl) rfl (by simp)) ?_
          refine AWp.ret ?_
          obtain rfl := some_inj hr
          refine fin_ret ?_
          simp

@[simp] noncomputable def gLaw23LadderWants.S : Sp
  | [.lit (.int .i64 x0), .lit (.int .i64 x1), .lit (.int .i64 x2), .sl e3 _, .sl e4 _, .sl e5 _], _ => some { av := .lit (.bool ((gLaw23LadderWants x0 x1 x2 (e3.map decI) (e4.map decI) (e5.map decI)).getD dflt)), M := none, obl := e3 = (e3.map decI).map (encI .i64) ∧ e4 = (e4.map decI).map (encI .i64) ∧ e5 = (e5.map decI).map (encI .i64) ∧ (gLaw23LadderWants x0 x1 x2 (e3.map decI) (e4.map decI) (e5.map decI)).isSome = true }
  | _, _ => none

set_option maxHeartbeats 1000000 in
theorem gLaw23LadderWants.ok : SpecOk Try.prog 4 gLaw23LadderWants.S := by
  intro l M out h
  unfold gLaw23LadderWants.S at h
  split at h
  · rename_i x0 x1 x2 e3 k3 e4 k4 e5 k5
    cases h
    refine callOk_of fun ho => ?_
    obtain ⟨ox3, ox4, ox5, hs⟩ := ho
    generalize (e3.map decI) = x3 at *
    subst ox3
    generalize (e4.map decI) = x4 at *
    subst ox4
    generalize (e5.map decI) = x5 at *
    subst ox5
    obtain ⟨r, hr⟩ := Option.isSome_iff_exists.1 hs
    simp only [hr, Option.getD_some]
    have q := call_frame (M := M) [] (gLaw23LadderWants.can x0 x1 x2 x3 x4 x5 r hr) (by simp) rfl (by intro k i hk; simp at hk)
    exact callOk_conv q trivial (by simp) (by simp [frameOut, gLaw23LadderWants.out]) (by simp [frameOut, gLaw23LadderWants.out])
  · cases h
end Go.Proofs

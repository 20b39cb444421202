/- That these functions compute what their plain functions do. No condition. -/
import Derived.Test.YtijaigjfacfhnaaDoorM03
import Derived.Test.YtijaigjfacfhnaaDoorTy
import Derived.Test.YtijaigjfacfhnaaDoorM02
import Derived.Test.YtijaigjfacfhnaaDoorCa
import Derived.Test.YtijaigjfacfhnaaDoorCe
import Derived.Test.YtijaigjfacfhnaaDoorCb
namespace Go.Proofs
open Go.Ab
@[simp] def gLaw07ControlKinds.out (_x0 : Int) (_x1 : Int) (r : Bool) : Out := { av := .lit (.bool r), M := none }
def gLaw07ControlKinds.fin (x0 : Int) (x1 : Int) (r : Bool) (σ : St) : Prop := finK (gLaw07ControlKinds.out x0 x1 r) [] σ.M (resA Tryd.ty σ.A σ.M Tryd.f7.results.toList)
set_option maxHeartbeats 4000000 in
set_option maxRecDepth 100000 in
theorem gLaw07ControlKinds.can (x0 : Int) (x1 : Int) (r : Bool) (hr : gLaw07ControlKinds x0 x1 = some r) : CallOk Tryd.prog 7 [.lit (.int .i64 x0), .lit (.int .i64 x1)] [] (gLaw07ControlKinds.out x0 x1 r) := by
  unfold gLaw07ControlKinds at hr
  have hΓ := (gamL_cons gControlCommandCheck.ok (gamL_cons gControlCommandText.ok (gamL_cons gLaw07Same.ok (gamL_cons gLaw07Told.ok (gamL_cons gLaw07Awake.ok (gamL_cons gControlParse.ok (gamL_nil)))))) : GamOk Tryd.prog _)
  refine call_of_awp Tryd.tyOk Tryd.func7 rfl (by kernel_rfl) rfl rfl (by simp) ?_
  intro _ _ _
  refine AWp.then ⟨[⟨0, none, .lit (.int .i64 x0)⟩, ⟨1, none, .lit (.int .i64 x1)⟩], []⟩ (AWp.reg Tryd.tyOk hΓ (keep := []) (dead := []) (by kernel_rfl) rfl (by simp)) ?_
  obtain ⟨h21, hr⟩ := need_some hr
  refine AWp.then ⟨[⟨0, none, .lit (.int .i64 (addI .i64 1 (remI (bitsOp .and .i64 x0 255) 8)))⟩, ⟨1, none, .lit (.int .i64 x1)⟩], []⟩ (AWp.reg Tryd.tyOk hΓ (keep := [0]) (dead := []) (by kernel_rfl) rfl (by simp [h21])) ?_
  refine AWp.then ⟨[⟨5, none, .ptr 0 0⟩, ⟨0, none, .lit (.int .i64 (addI .i64 1 (remI (bitsOp .and .i64 x0 255) 8)))⟩, ⟨1, none, .lit (.int .i64 x1)⟩], [.blk [.lit (.int .i64 (addI .i64 1 (remI (bitsOp .and .i64 x0 255) 8))), .lit (.string ⟨#[]⟩), .lit (.string ⟨#[]⟩), .lit (.int .i64 0), .lit (.int .i64 0), .lit (.int .i64 0), .lit (.int .i64 0), .lit (.bool false), .lit (.bool false), .sl [] .full]]⟩ (AWp.reg Tryd.tyOk hΓ (keep := [5]) (dead := []) (by kernel_rfl) rfl (by simp)) ?_
  refine AWp.meetF (fun (v1 : ByteArray × ByteArray) (γ1 : Unit) => ⟨[⟨5, none, .ptr 0 0⟩, ⟨0, none, .lit (.int .i64 (addI .i64 1 (remI (bitsOp .and .i64 x0 255) 8)))⟩, ⟨1, none, .lit (.int .i64 x1)⟩], [.blk [.lit (.int .i64 (addI .i64 1 (remI (bitsOp .and .i64 x0 255) 8))), .lit (.string v1.1), .lit (.string v1.2), .lit (.int .i64 0), .lit (.int .i64 0), .lit (.int .i64 0), .lit (.int .i64 0), .lit (.bool false), .lit (.bool false), .sl [] .full]]⟩) (gLaw07ControlKinds.fin x0 x1) hr (fun f hr => ?_) (fun v1 γ1 hr => ?_) (fun _ h => h)
  · refine AWp.then ⟨[⟨16, none, .lit (.bool (eqI (addI .i64 1 (remI (bitsOp .and .i64 x0 255) 8)) 1))⟩, ⟨5, none, .ptr 0 0⟩, ⟨0, none, .lit (.int .i64 (addI .i64 1 (remI (bitsOp .and .i64 x0 255) 8)))⟩, ⟨1, none, .lit (.int .i64 x1)⟩], [.blk [.lit (.int .i64 (addI .i64 1 (remI (bitsOp .and .i64 x0 255) 8))), .lit (.string ⟨#[]⟩), .lit (.string ⟨#[]⟩), .lit (.int .i64 0), .lit (.int .i64 0), .lit (.int .i64 0), .lit (.int .i64 0), .lit (.bool false), .lit (.bool false), .sl [] .full]]⟩ (AWp.reg Tryd.tyOk hΓ (keep := [16]) (dead := []) (by kernel_rfl) rfl (by simp)) ?_
    refine AWp.cond (b := (eqI (addI .i64 1 (remI (bitsOp .and .i64 x0 255) 8)) 1)) (by simp) (fun h22 => ?_) (fun h22 => ?_)
    · have hr := cond_t h22 hr
      refine AWp.last ⟨[⟨5, none, .ptr 0 0⟩, ⟨0, none, .lit (.int .i64 (addI .i64 1 (remI (bitsOp .and .i64 x0 255) 8)))⟩, ⟨1, none, .lit (.int .i64 x1)⟩], [.blk [.lit (.int .i64 (addI .i64 1 (remI (bitsOp .and .i64 x0 255) 8))), .lit (.string ⟨#[97]⟩), .lit (.string ⟨#[98]⟩), .lit (.int .i64 0), .lit (.int .i64 0), .lit (.int .i64 0), .lit (.int .i64 0), .lit (.bool false), .lit (.bool false), .sl [] .full]]⟩ (AWp.reg Tryd.tyOk hΓ (keep := []) (dead := [16]) (by kernel_rfl) rfl (by simp [h22])) ?_
      obtain rfl := some_inj hr
      exact meet_go () 1 (by first | (simp; done) | simp [h21, h22])
    · have hr := cond_f h22 hr
      refine AWp.skip ?_
      obtain rfl := some_inj hr
      exact meet_go () 1 (by first | (simp; done) | simp [h21, h22])
  · refine AWp.meetF (fun (v2 : List Int) (γ2 : Unit) => ⟨[⟨5, none, .ptr 0 0⟩, ⟨0, none, .lit (.int .i64 (addI .i64 1 (remI (bitsOp .and .i64 x0 255) 8)))⟩, ⟨1, none, .lit (.int .i64 x1)⟩], [.blk [.lit (.int .i64 (addI .i64 1 (remI (bitsOp .and .i64 x0 255) 8))), .lit (.string v1.1), .lit (.string v1.2), .lit (.int .i64 0), .lit (.int .i64 0), .lit (.int .i64 0), .lit (.int .i64 0), .lit (.bool false), .lit (.bool false), .sl (v2.map (eNum .u32)) .full]]⟩) (gLaw07ControlKinds.fin x0 x1) hr (fun f hr => ?_) (fun v2 γ2 hr => ?_) (fun _ h => h)
    · refine AWp.then ⟨[⟨20, none, .lit (.bool (eqI (addI .i64 1 (remI (bitsOp .and .i64 x0 255) 8)) 3))⟩, ⟨5, none, .ptr 0 0⟩, ⟨0, none, .lit (.int .i64 (addI .i64 1 (remI (bitsOp .and .i64 x0 255) 8)))⟩, ⟨1, none, .lit (.int .i64 x1)⟩], [.blk [.lit (.int .i64 (addI .i64 1 (remI (bitsOp .and .i64 x0 255) 8))), .lit (.string v1.1), .lit (.string v1.2), .lit (.int .i64 0), .lit (.int .i64 0), .lit (.int .i64 0), .lit (.int .i64 0), .lit (.bool false), .lit (.bool false), .sl [] .full]]⟩ (AWp.reg Tryd.tyOk hΓ (keep := [20]) (dead := []) (by kernel_rfl) rfl (by simp)) ?_
      refine AWp.cond (b := (eqI (addI .i64 1 (remI (bitsOp .and .i64 x0 255) 8)) 3)) (by simp) (fun h23 => ?_) (fun h23 => ?_)
      · have hr := cond_t h23 hr
        refine AWp.last ⟨[⟨5, none, .ptr 0 0⟩, ⟨0, none, .lit (.int .i64 (addI .i64 1 (remI (bitsOp .and .i64 x0 255) 8)))⟩, ⟨1, none, .lit (.int .i64 x1)⟩], [.blk [.lit (.int .i64 (addI .i64 1 (remI (bitsOp .and .i64 x0 255) 8))), .lit (.string v1.1), .lit (.string v1.2), .lit (.int .i64 0), .lit (.int .i64 0), .lit (.int .i64 0), .lit (.int .i64 0), .lit (.bool false), .lit (.bool false), .sl ([1].map (eNum .u32)) .full]]⟩ (AWp.reg Tryd.tyOk hΓ (keep := []) (dead := [20]) (by kernel_rfl) rfl (by simp [h23])) ?_
        obtain rfl := some_inj hr
        exact meet_go () 1 (by first | (simp; done) | simp [h21, h23])
      · have hr := cond_f h23 hr
        refine AWp.skip ?_
        obtain rfl := some_inj hr
        exact meet_go () 1 (by first | (simp; done) | simp [h21, h23])
    · refine AWp.seq ?_
      obtain ⟨r1, h24, hr⟩ := bind_some' hr
      obtain ⟨h25, hr⟩ := need_some hr
      refine AWp.then ⟨[⟨29, none, .lit (.bool (pickB (notB r1) true (neI ((gControlCommandCheck (Antiphonref07Command.mk (addI .i64 1 (remI (bitsOp .and .i64 x0 255) 8)) v1.1 v1.2 0 0 0 0 false false v2)).getD dflt) 0)))⟩, ⟨5, none, .ptr 0 0⟩, ⟨0, none, .lit (.int .i64 (addI .i64 1 (remI (bitsOp .and .i64 x0 255) 8)))⟩, ⟨1, none, .lit (.int .i64 x1)⟩], [.blk [.lit (.int .i64 (addI .i64 1 (remI (bitsOp .and .i64 x0 255) 8))), .lit (.string v1.1), .lit (.string v1.2), .lit (.int .i64 0), .lit (.int .i64 0), .lit (.int .i64 0), .lit (.int .i64 0), .lit (.bool false), .lit (.bool false), .sl (v2.map (eNum .u32)) .full]]⟩ (AWp.reg Tryd.tyOk hΓ (keep := [29]) (dead := []) (by kernel_rfl) rfl (by simp [h24, h25])) ?_
      refine AWp.cond (b := (pickB (notB r1) true (neI ((gControlCommandCheck (Antiphonref07Command.mk (addI .i64 1 (remI (bitsOp .and .i64 x0 255) 8)) v1.1 v1.2 0 0 0 0 false false v2)).getD dflt) 0))) (by simp) (fun h26 => ?_) (fun h26 => ?_)
      · have hr := cond_t h26 hr
        refine AWp.then ⟨[⟨4, none, .lit (.bool false)⟩], [.blk [.lit (.int .i64 (addI .i64 1 (remI (bitsOp .and .i64 x0 255) 8))), .lit (.string v1.1), .lit (.string v1.2), .lit (.int .i64 0), .lit (.int .i64 0), .lit (.int .i64 0), .lit (.int .i64 0), .lit (.bool false), .lit (.bool false), .sl (v2.map (eNum .u32)) .full]]⟩ (AWp.reg Tryd.tyOk hΓ (keep := [4]) (dead := [29, 5, 0, 1]) (by kernel_rfl) rfl (by simp [h26])) ?_
        refine AWp.ret ?_
        obtain rfl := some_inj hr
        refine fin_ret ?_
        simp
      · have hr := cond_f h26 hr
        refine AWp.skip ?_
        refine AWp.then ⟨[⟨6, none, .lit (.bool true)⟩, ⟨5, none, .ptr 0 0⟩, ⟨0, none, .lit (.int .i64 (addI .i64 1 (remI (bitsOp .and .i64 x0 255) 8)))⟩, ⟨1, none, .lit (.int .i64 x1)⟩], [.blk [.lit (.int .i64 (addI .i64 1 (remI (bitsOp .and .i64 x0 255) 8))), .lit (.string v1.1), .lit (.string v1.2), .lit (.int .i64 0), .lit (.int .i64 0), .lit (.int .i64 0), .lit (.int .i64 0), .lit (.bool false), .lit (.bool false), .sl (v2.map (eNum .u32)) .full]]⟩ (AWp.reg Tryd.tyOk hΓ (keep := [6]) (dead := [29]) (by kernel_rfl) rfl (by simp [h26])) ?_
        refine AWp.meetF (fun (v3 : Bool × Int × Int × Int × Int × Bool × Bool) (γ3 : Unit) => ⟨[⟨6, none, .lit (.bool v3.1)⟩, ⟨5, none, .ptr 0 0⟩], [.blk [.lit (.int .i64 (addI .i64 1 (remI (bitsOp .and .i64 x0 255) 8))), .lit (.string v1.1), .lit (.string v1.2), .lit (.int .i64 v3.2.1), .lit (.int .i64 v3.2.2.1), .lit (.int .i64 v3.2.2.2.1), .lit (.int .i64 v3.2.2.2.2.1), .lit (.bool v3.2.2.2.2.2.1), .lit (.bool v3.2.2.2.2.2.2), .sl (v2.map (eNum .u32)) .full]]⟩) (gLaw07ControlKinds.fin x0 x1) hr (fun f hr => ?_) (fun v3 γ3 hr => ?_) (fun _ h => h)
        · obtain ⟨h27, hr⟩ := need_some hr
          refine AWp.then ⟨[⟨32, none, .lit (.int .i64 (remI (bitsOp .and .i64 x1 255) 6))⟩, ⟨6, none, .lit (.bool true)⟩, ⟨5, none, .ptr 0 0⟩, ⟨0, none, .lit (.int .i64 (addI .i64 1 (remI (bitsOp .and .i64 x0 255) 8)))⟩], [.blk [.lit (.int .i64 (addI .i64 1 (remI (bitsOp .and .i64 x0 255) 8))), .lit (.string v1.1), .lit (.string v1.2), .lit (.int .i64 0), .lit (.int .i64 0), .lit (.int .i64 0), .lit (.int .i64 0), .lit (.bool false), .lit (.bool false), .sl (v2.map (eNum .u32)) .full]]⟩ (AWp.reg Tryd.tyOk hΓ (keep := [32]) (dead := [1]) (by kernel_rfl) rfl (by simp [h27])) ?_
          refine AWp.block ?_
          refine AWp.then ⟨[⟨33, none, .lit (.bool (eqI (remI (bitsOp .and .i64 x1 255) 6) 0))⟩, ⟨32, none, .lit (.int .i64 (remI (bitsOp .and .i64 x1 255) 6))⟩, ⟨6, none, .lit (.bool true)⟩, ⟨5, none, .ptr 0 0⟩, ⟨0, none, .lit (.int .i64 (addI .i64 1 (remI (bitsOp .and .i64 x0 255) 8)))⟩], [.blk [.lit (.int .i64 (addI .i64 1 (remI (bitsOp .and .i64 x0 255) 8))), .lit (.string v1.1), .lit (.string v1.2), .lit (.int .i64 0), .lit (.int .i64 0), .lit (.int .i64 0), .lit (.int .i64 0), .lit (.bool false), .lit (.bool false), .sl (v2.map (eNum .u32)) .full]]⟩ (AWp.reg Tryd.tyOk hΓ (keep := [33]) (dead := []) (by kernel_rfl) rfl (by simp)) ?_
          refine AWp.cond (b := (eqI (remI (bitsOp .and .i64 x1 255) 6) 0)) (by simp) (fun h28 => ?_) (fun h28 => ?_)
          · have hr := cond_t h28 hr
            refine AWp.last ⟨[⟨6, none, .lit (.bool (neI (addI .i64 1 (remI (bitsOp .and .i64 x0 255) 8)) 1))⟩, ⟨5, none, .ptr 0 0⟩], [.blk [.lit (.int .i64 (addI .i64 1 (remI (bitsOp .and .i64 x0 255) 8))), .lit (.string v1.1), .lit (.string v1.2), .lit (.int .i64 1), .lit (.int .i64 0), .lit (.int .i64 0), .lit (.int .i64 0), .lit (.bool false), .lit (.bool false), .sl (v2.map (eNum .u32)) .full]]⟩ (AWp.reg Tryd.tyOk hΓ (keep := [6]) (dead := [33, 32, 0]) (by kernel_rfl) rfl (by simp [h28])) ?_
            obtain rfl := some_inj hr
            exact meet_go () 1 (by first | (simp; done) | simp [h21, h24, h25, h26, h27, h28])
          · have hr := cond_f h28 hr
            refine AWp.then ⟨[⟨38, none, .lit (.bool (eqI (remI (bitsOp .and .i64 x1 255) 6) 1))⟩, ⟨32, none, .lit (.int .i64 (remI (bitsOp .and .i64 x1 255) 6))⟩, ⟨6, none, .lit (.bool true)⟩, ⟨5, none, .ptr 0 0⟩, ⟨0, none, .lit (.int .i64 (addI .i64 1 (remI (bitsOp .and .i64 x0 255) 8)))⟩], [.blk [.lit (.int .i64 (addI .i64 1 (remI (bitsOp .and .i64 x0 255) 8))), .lit (.string v1.1), .lit (.string v1.2), .lit (.int .i64 0), .lit (.int .i64 0), .lit (.int .i64 0), .lit (.int .i64 0), .lit (.bool false), .lit (.bool false), .sl (v2.map (eNum .u32)) .full]]⟩ (AWp.reg Tryd.tyOk hΓ (keep := [38]) (dead := [33]) (by kernel_rfl) rfl (by simp [h28])) ?_
            refine AWp.cond (b := (eqI (remI (bitsOp .and .i64 x1 255) 6) 1)) (by simp) (fun h29 => ?_) (fun h29 => ?_)
            · have hr := cond_t h29 hr
              refine AWp.last ⟨[⟨6, none, .lit (.bool (pickB (pickB (eqI (addI .i64 1 (remI (bitsOp .and .i64 x0 255) 8)) 5) true (eqI (addI .i64 1 (remI (bitsOp .and .i64 x0 255) 8)) 6)) true (eqI (addI .i64 1 (remI (bitsOp .and .i64 x0 255) 8)) 8)))⟩, ⟨5, none, .ptr 0 0⟩], [.blk [.lit (.int .i64 (addI .i64 1 (remI (bitsOp .and .i64 x0 255) 8))), .lit (.string v1.1), .lit (.string v1.2), .lit (.int .i64 0), .lit (.int .i64 1), .lit (.int .i64 0), .lit (.int .i64 0), .lit (.bool false), .lit (.bool false), .sl (v2.map (eNum .u32)) .full]]⟩ (AWp.reg Tryd.tyOk hΓ (keep := [6]) (dead := [38, 32, 0]) (by kernel_rfl) rfl (by simp [h29])) ?_
              obtain rfl := some_inj hr
              exact meet_go () 1 (by first | (simp; done) | simp [h21, h24, h25, h26, h27, h28, h29])
            · have hr := cond_f h29 hr
              refine AWp.then ⟨[⟨51, none, .lit (.bool (eqI (remI (bitsOp .and .i64 x1 255) 6) 2))⟩, ⟨32, none, .lit (.int .i64 (remI (bitsOp .and .i64 x1 255) 6))⟩, ⟨6, none, .lit (.bool true)⟩, ⟨5, none, .ptr 0 0⟩, ⟨0, none, .lit (.int .i64 (addI .i64 1 (remI (bitsOp .and .i64 x0 255) 8)))⟩], [.blk [.lit (.int .i64 (addI .i64 1 (remI (bitsOp .and .i64 x0 255) 8))), .lit (.string v1.1), .lit (.string v1.2), .lit (.int .i64 0), .lit (.int .i64 0), .lit (.int .i64 0), .lit (.int .i64 0), .lit (.bool false), .lit (.bool false), .sl (v2.map (eNum .u32)) .full]]⟩ (AWp.reg Tryd.tyOk hΓ (keep := [51]) (dead := [38]) (by kernel_rfl) rfl (by simp [h29])) ?_
              refine AWp.cond (b := (eqI (remI (bitsOp .and .i64 x1 255) 6) 2)) (by simp) (fun h30 => ?_) (fun h30 => ?_)
              · have hr := cond_t h30 hr
                refine AWp.last ⟨[⟨6, none, .lit (.bool (pickB (neI (addI .i64 1 (remI (bitsOp .and .i64 x0 255) 8)) 1) (neI (addI .i64 1 (remI (bitsOp .and .i64 x0 255) 8)) 2) false))⟩, ⟨5, none, .ptr 0 0⟩], [.blk [.lit (.int .i64 (addI .i64 1 (remI (bitsOp .and .i64 x0 255) 8))), .lit (.string v1.1), .lit (.string v1.2), .lit (.int .i64 0), .lit (.int .i64 0), .lit (.int .i64 1), .lit (.int .i64 0), .lit (.bool false), .lit (.bool false), .sl (v2.map (eNum .u32)) .full]]⟩ (AWp.reg Tryd.tyOk hΓ (keep := [6]) (dead := [51, 32, 0]) (by kernel_rfl) rfl (by simp [h30])) ?_
                obtain rfl := some_inj hr
                exact meet_go () 1 (by first | (simp; done) | simp [h21, h24, h25, h26, h27, h28, h29, h30])
              · have hr := cond_f h30 hr
                refine AWp.then ⟨[⟨60, none, .lit (.bool (eqI (remI (bitsOp .and .i64 x1 255) 6) 3))⟩, ⟨32, none, .lit (.int .i64 (remI (bitsOp .and .i64 x1 255) 6))⟩, ⟨6, none, .lit (.bool true)⟩, ⟨5, none, .ptr 0 0⟩, ⟨0, none, .lit (.int .i64 (addI .i64 1 (remI (bitsOp .and .i64 x0 255) 8)))⟩], [.blk [.lit (.int .i64 (addI .i64 1 (remI (bitsOp .and .i64 x0 255) 8))), .lit (.string v1.1), .lit (.string v1.2), .lit (.int .i64 0), .lit (.int .i64 0), .lit (.int .i64 0), .lit (.int .i64 0), .lit (.bool false), .lit (.bool false), .sl (v2.map (eNum .u32)) .full]]⟩ (AWp.reg Tryd.tyOk hΓ (keep := [60]) (dead := [51]) (by kernel_rfl) rfl (by simp [h30])) ?_
                refine AWp.cond (b := (eqI (remI (bitsOp .and .i64 x1 255) 6) 3)) (by simp) (fun h31 => ?_) (fun h31 => ?_)
                · have hr := cond_t h31 hr
                  refine AWp.last ⟨[⟨6, none, .lit (.bool (eqI (addI .i64 1 (remI (bitsOp .and .i64 x0 255) 8)) 5))⟩, ⟨5, none, .ptr 0 0⟩], [.blk [.lit (.int .i64 (addI .i64 1 (remI (bitsOp .and .i64 x0 255) 8))), .lit (.string v1.1), .lit (.string v1.2), .lit (.int .i64 0), .lit (.int .i64 0), .lit (.int .i64 0), .lit (.int .i64 1), .lit (.bool false), .lit (.bool false), .sl (v2.map (eNum .u32)) .full]]⟩ (AWp.reg Tryd.tyOk hΓ (keep := [6]) (dead := [60, 32, 0]) (by kernel_rfl) rfl (by simp [h31])) ?_
                  obtain rfl := some_inj hr
                  exact meet_go () 1 (by first | (simp; done) | simp [h21, h24, h25, h26, h27, h28, h29, h30, h31])
                · have hr := cond_f h31 hr
                  refine AWp.then ⟨[⟨65, none, .lit (.bool (eqI (remI (bitsOp .and .i64 x1 255) 6) 4))⟩, ⟨32, none, .lit (.int .i64 (remI (bitsOp .and .i64 x1 255) 6))⟩, ⟨6, none, .lit (.bool true)⟩, ⟨5, none, .ptr 0 0⟩, ⟨0, none, .lit (.int .i64 (addI .i64 1 (remI (bitsOp .and .i64 x0 255) 8)))⟩], [.blk [.lit (.int .i64 (addI .i64 1 (remI (bitsOp .and .i64 x0 255) 8))), .lit (.string v1.1), .lit (.string v1.2), .lit (.int .i64 0), .lit (.int .i64 0), .lit (.int .i64 0), .lit (.int .i64 0), .lit (.bool false), .lit (.bool false), .sl (v2.map (eNum .u32)) .full]]⟩ (AWp.reg Tryd.tyOk hΓ (keep := [65]) (dead := [60]) (by kernel_rfl) rfl (by simp [h31])) ?_
                  refine AWp.cond (b := (eqI (remI (bitsOp .and .i64 x1 255) 6) 4)) (by simp) (fun h32 => ?_) (fun h32 => ?_)
                  · have hr := cond_t h32 hr
                    refine AWp.last ⟨[⟨6, none, .lit (.bool (pickB (eqI (addI .i64 1 (remI (bitsOp .and .i64 x0 255) 8)) 7) true (eqI (addI .i64 1 (remI (bitsOp .and .i64 x0 255) 8)) 8)))⟩, ⟨5, none, .ptr 0 0⟩], [.blk [.lit (.int .i64 (addI .i64 1 (remI (bitsOp .and .i64 x0 255) 8))), .lit (.string v1.1), .lit (.string v1.2), .lit (.int .i64 0), .lit (.int .i64 0), .lit (.int .i64 0), .lit (.int .i64 0), .lit (.bool true), .lit (.bool false), .sl (v2.map (eNum .u32)) .full]]⟩ (AWp.reg Tryd.tyOk hΓ (keep := [6]) (dead := [65, 32, 0]) (by kernel_rfl) rfl (by simp [h32])) ?_
                    obtain rfl := some_inj hr
                    exact meet_go () 1 (by first | (simp; done) | simp [h21, h24, h25, h26, h27, h28, h29, h30, h31, h32])
                  · have hr := cond_f h32 hr
                    refine AWp.then ⟨[⟨74, none, .lit (.bool (eqI (remI (bitsOp .and .i64 x1 255) 6) 5))⟩, ⟨6, none, .lit (.bool true)⟩, ⟨5, none, .ptr 0 0⟩, ⟨0, none, .lit (.int .i64 (addI .i64 1 (remI (bitsOp .and .i64 x0 255) 8)))⟩], [.blk [.lit (.int .i64 (addI .i64 1 (remI (bitsOp .and .i64 x0 255) 8))), .lit (.string v1.1), .lit (.string v1.2), .lit (.int .i64 0), .lit (.int .i64 0), .lit (.int .i64 0), .lit (.int .i64 0), .lit (.bool false), .lit (.bool false), .sl (v2.map (eNum .u32)) .full]]⟩ (AWp.reg Tryd.tyOk hΓ (keep := [74]) (dead := [65, 32]) (by kernel_rfl) rfl (by simp [h32])) ?_
                    refine AWp.cond (b := (eqI (remI (bitsOp .and .i64 x1 255) 6) 5)) (by simp) (fun h33 => ?_) (fun h33 => ?_)
                    · have hr := cond_t h33 hr
                      refine AWp.last ⟨[⟨6, none, .lit (.bool (eqI (addI .i64 1 (remI (bitsOp .and .i64 x0 255) 8)) 3))⟩, ⟨5, none, .ptr 0 0⟩], [.blk [.lit (.int .i64 (addI .i64 1 (remI (bitsOp .and .i64 x0 255) 8))), .lit (.string v1.1), .lit (.string v1.2), .lit (.int .i64 0), .lit (.int .i64 0), .lit (.int .i64 0), .lit (.int .i64 0), .lit (.bool false), .lit (.bool true), .sl (v2.map (eNum .u32)) .full]]⟩ (AWp.reg Tryd.tyOk hΓ (keep := [6]) (dead := [74, 0]) (by kernel_rfl) rfl (by simp [h33])) ?_
                      obtain rfl := some_inj hr
                      exact meet_go () 1 (by first | (simp; done) | simp [h21, h24, h25, h26, h27, h28, h29, h30, h31, h32, h33])
                    · have hr := cond_f h33 hr
                      refine AWp.skip ?_
                      obtain rfl := some_inj hr
                      exact meet_go () 1 (by first | (simp; done) | simp [h21, h24, h25, h26, h27, h28, h29, h30, h31, h32, h33])
        · refine AWp.seq ?_
          refine AWp.then ⟨[⟨80, none, .lit (.bool (notB v3.1))⟩, ⟨5, none, .ptr 0 0⟩], [.blk [.lit (.int .i64 (addI .i64 1 (remI (bitsOp .and .i64 x0 255) 8))), .lit (.string v1.1), .lit (.string v1.2), .lit (.int .i64 v3.2.1), .lit (.int .i64 v3.2.2.1), .lit (.int .i64 v3.2.2.2.1), .lit (.int .i64 v3.2.2.2.2.1), .lit (.bool v3.2.2.2.2.2.1), .lit (.bool v3.2.2.2.2.2.2), .sl (v2.map (eNum .u32)) .full]]⟩ (AWp.reg Tryd.tyOk hΓ (keep := [80]) (dead := [6]) (by kernel_rfl) rfl (by simp)) ?_
          refine AWp.cond (b := (notB v3.1)) (by simp) (fun h34 => ?_) (fun h34 => ?_)
          · have hr := cond_t h34 hr
            obtain ⟨r2, h35, hr⟩ := bind_some' hr
            refine AWp.then ⟨[⟨4, none, .lit (.bool (eqI r2 2))⟩], [.blk [.lit (.int .i64 (addI .i64 1 (remI (bitsOp .and .i64 x0 255) 8))), .lit (.string v1.1), .lit (.string v1.2), .lit (.int .i64 v3.2.1), .lit (.int .i64 v3.2.2.1), .lit (.int .i64 v3.2.2.2.1), .lit (.int .i64 v3.2.2.2.2.1), .lit (.bool v3.2.2.2.2.2.1), .lit (.bool v3.2.2.2.2.2.2), .sl (v2.map (eNum .u32)) .full]]⟩ (AWp.reg Tryd.tyOk hΓ (keep := [4]) (dead := [80, 5]) (by kernel_rfl) rfl (by simp [h34, h35])) ?_
            refine AWp.ret ?_
            obtain rfl := some_inj hr
            refine fin_ret ?_
            simp
          · have hr := cond_f h34 hr
            refine AWp.skip ?_
            obtain ⟨r3, h36, hr⟩ := bind_some' hr
            obtain ⟨r4, h37, hr⟩ := bind_some' hr
            refine AWp.then ⟨[⟨7, none, .ptr 1 0⟩, ⟨8, none, .lit (.int .i64 r4.2)⟩, ⟨5, none, .ptr 0 0⟩], [.blk [.lit (.int .i64 (addI .i64 1 (remI (bitsOp .and .i64 x0 255) 8))), .lit (.string v1.1), .lit (.string v1.2), .lit (.int .i64 v3.2.1), .lit (.int .i64 v3.2.2.1), .lit (.int .i64 v3.2.2.2.1), .lit (.int .i64 v3.2.2.2.2.1), .lit (.bool v3.2.2.2.2.2.1), .lit (.bool v3.2.2.2.2.2.2), .sl (v2.map (eNum .u32)) .full], .blk r4.1.enc]⟩ (AWp.reg Tryd.tyOk hΓ (keep := [7, 8]) (dead := [80]) (by kernel_rfl) rfl (by simp [h34, h36, h37])) ?_
            obtain ⟨r5, h38, hr⟩ := bind_some' hr
            obtain ⟨h39, hr⟩ := need_some hr
            obtain ⟨h40, hr⟩ := need_some hr
            refine AWp.then ⟨[⟨4, none, .lit (.bool (pickB (pickB (eqI r5 0) (eqI r4.2 0) false) (eqI ((gLaw07Same r4.1 ((gLaw07Told (Antiphonref07Command.mk (addI .i64 1 (remI (bitsOp .and .i64 x0 255) 8)) v1.1 v1.2 v3.2.1 v3.2.2.1 v3.2.2.2.1 v3.2.2.2.2.1 v3.2.2.2.2.2.1 v3.2.2.2.2.2.2 v2)).getD dflt)).getD dflt) 0) false))⟩], [.blk [.lit (.int .i64 (addI .i64 1 (remI (bitsOp .and .i64 x0 255) 8))), .lit (.string v1.1), .lit (.string v1.2), .lit (.int .i64 v3.2.1), .lit (.int .i64 v3.2.2.1), .lit (.int .i64 v3.2.2.2.1), .lit (.int .i64 v3.2.2.2.2.1), .lit (.bool v3.2.2.2.2.2.1), .lit (.bool v3.2.2.2.2.2.2), .sl (v2.map (eNum .u32)) .full], .blk r4.1.enc]⟩ (AWp.regD Tryd.mixed Tryd.tyOk hΓ (keep := [4]) (dead := [7, 8, 5]) [] [(false, []), (false, []), (false, []), (false, []), (false, [93]), (false, [93]), (false, []), (false, []), (false, [97]), (false, [97]), (false, [97]), (false, [97]), (false, [97]), (false, []), (false, [])] (by kernel_rfl) rfl (by simp [h38, h39, h40])) ?_
            refine AWp.ret ?_
            obtain rfl := some_inj hr
            refine fin_ret ?_
            simp

@[simp] noncomputable def gLaw07ControlKinds.S : Sp
  | [.lit (.int .i64 x0), .lit (.int .i64 x1)], _ => some { av := .lit (.bool ((gLaw07ControlKinds x0 x1).getD dflt)), M := none, obl := (gLaw07ControlKinds x0 x1).isSome = true }
  | _, _ => none

set_option maxHeartbeats 1000000 in
theorem gLaw07ControlKinds.ok : SpecOk Tryd.prog 7 gLaw07ControlKinds.S := by
  intro l M out h
  unfold gLaw07ControlKinds.S at h
  split at h
  · rename_i x0 x1
    cases h
    refine callOk_of fun ho => ?_
    have hs := ho
    obtain ⟨r, hr⟩ := Option.isSome_iff_exists.1 hs
    simp only [hr, Option.getD_some]
    have q := call_frame (M := M) [] (gLaw07ControlKinds.can x0 x1 r hr) (by simp) rfl (by intro k i hk; simp at hk)
    exact callOk_conv q trivial (by simp) (by simp [frameOut, gLaw07ControlKinds.out]) (by simp [frameOut, gLaw07ControlKinds.out])
  · cases h
end Go.Proofs

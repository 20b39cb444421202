/- That these functions compute what their plain functions do. No condition. -/
import Derived.Test.YtijaigjfacfhnaaDoorM11
import Derived.Test.YtijaigjfacfhnaaDoorTy
import Derived.Test.YtijaigjfacfhnaaDoorM02
import Derived.Test.YtijaigjfacfhnaaDoorCa
import Derived.Test.YtijaigjfacfhnaaDoorCe
import Derived.Test.YtijaigjfacfhnaaDoorCb
section
namespace Go.Proofs
open Go.Ab
@[simp] def gLaw07ControlCut.out (_x0 : Antiphonref07Command) (_x1 : Int) (r : Bool) : Out := { av := .lit (.bool r), M := none }
def gLaw07ControlCut.fin (x0 : Antiphonref07Command) (x1 : Int) (r : Bool) (σ : St) : Prop := finK (gLaw07ControlCut.out x0 x1 r) [] σ.M (resA Tryd.ty σ.A σ.M Tryd.f5.results.toList)
set_option maxHeartbeats 4000000 in
set_option maxRecDepth 100000 in
theorem gLaw07ControlCut.can (x0 : Antiphonref07Command) (x1 : Int) (r : Bool) (hr : gLaw07ControlCut x0 x1 = some r) : CallOk Tryd.prog 5 [.agg [.lit (.int .i64 x0.fKind), .lit (.string x0.fRoom), .lit (.string x0.fName), .lit (.int .i64 x0.fPeer), .lit (.int .i64 x0.fOf), .lit (.int .i64 x0.fTrack), .lit (.int .i64 x0.fLayer), .lit (.bool x0.fOn), .lit (.bool x0.fVideo), .sl (x0.fSsrcs.map (eNum .u32)) .no], .lit (.int .i64 x1)] [] (gLaw07ControlCut.out x0 x1 r) := by
  unfold gLaw07ControlCut at hr
  have hΓ := (gamL_cons gControlCommandCheck.ok (gamL_cons gControlCommandText.ok (gamL_cons gLaw07Few.ok (gamL_cons gLaw07Awake.ok (gamL_cons gControlParse.ok (gamL_nil))))) : GamOk Tryd.prog _)
  refine call_of_awp Tryd.tyOk Tryd.func5 rfl (by kernel_rfl) rfl rfl (by simp) ?_
  intro _ _ _
  refine AWp.then ⟨[⟨2, none, .ptr 0 0⟩, ⟨1, none, .lit (.int .i64 x1)⟩], [.blk x0.enc]⟩ (AWp.reg Tryd.tyOk hΓ (keep := [2]) (dead := [0]) (by kernel_rfl) rfl (by simp)) ?_
  obtain ⟨r1, h12, hr⟩ := bind_some' hr
  refine AWp.then ⟨[⟨2, none, .ptr 0 0⟩, ⟨1, none, .lit (.int .i64 x1)⟩], [.blk r1.enc]⟩ (AWp.reg Tryd.tyOk hΓ (keep := []) (dead := []) (by kernel_rfl) rfl (by simp [h12])) ?_
  refine AWp.seq ?_
  obtain ⟨r2, h13, hr⟩ := bind_some' hr
  obtain ⟨h14, hr⟩ := need_some hr
  refine AWp.then ⟨[⟨18, none, .lit (.bool (pickB (notB r2) true (neI ((gControlCommandCheck r1).getD dflt) 0)))⟩, ⟨2, none, .ptr 0 0⟩, ⟨1, none, .lit (.int .i64 x1)⟩], [.blk r1.enc]⟩ (AWp.reg Tryd.tyOk hΓ (keep := [18]) (dead := []) (by kernel_rfl) rfl (by simp [h13, h14])) ?_
  refine AWp.cond (b := (pickB (notB r2) true (neI ((gControlCommandCheck r1).getD dflt) 0))) (by simp) (fun h15 => ?_) (fun h15 => ?_)
  · have hr := cond_t h15 hr
    refine AWp.then ⟨[⟨4, none, .lit (.bool r2)⟩], [.blk r1.enc]⟩ (AWp.reg Tryd.tyOk hΓ (keep := [4]) (dead := [18, 2, 1]) (by kernel_rfl) rfl (by simp [h13, h15])) ?_
    refine AWp.ret ?_
    obtain rfl := some_inj hr
    refine fin_ret ?_
    simp
  · have hr := cond_f h15 hr
    refine AWp.skip ?_
    obtain ⟨r3, h16, hr⟩ := bind_some' hr
    refine AWp.then ⟨[⟨5, none, .lit (.string r3)⟩, ⟨1, none, .lit (.int .i64 x1)⟩], [.blk r1.enc]⟩ (AWp.reg Tryd.tyOk hΓ (keep := [5]) (dead := [18, 2]) (by kernel_rfl) rfl (by simp [h15, h16])) ?_
    obtain ⟨h17, hr⟩ := need_some hr
    obtain ⟨h18, hr⟩ := need_some hr
    refine AWp.then ⟨[⟨1, none, .lit (.int .i64 (remI (addI .i64 (remI x1 (lenS r3)) (lenS r3)) (lenS r3)))⟩, ⟨5, none, .lit (.string r3)⟩], [.blk r1.enc]⟩ (AWp.reg Tryd.tyOk hΓ (keep := [1]) (dead := []) (by kernel_rfl) rfl (by simp [h17])) ?_
    obtain ⟨h19, hr⟩ := need_some hr
    obtain ⟨r4, h20, hr⟩ := bind_some' hr
    refine AWp.then ⟨[⟨7, none, .lit (.int .i64 r4.2)⟩, ⟨5, none, .lit (.string r3)⟩], [.blk r1.enc, .blk r4.1.enc]⟩ (AWp.reg Tryd.tyOk hΓ (keep := [7]) (dead := [1]) (by kernel_rfl) rfl (by simp [h19, h20])) ?_
    obtain ⟨h21, hr⟩ := need_some hr
    obtain ⟨r5, h22, hr⟩ := bind_some' hr
    refine AWp.then ⟨[⟨9, none, .lit (.int .i64 r5.2)⟩, ⟨7, none, .lit (.int .i64 r4.2)⟩], [.blk r1.enc, .blk r4.1.enc, .blk r5.1.enc]⟩ (AWp.reg Tryd.tyOk hΓ (keep := [9]) (dead := [5]) (by kernel_rfl) rfl (by simp [h21, h22])) ?_
    refine AWp.then ⟨[⟨4, none, .lit (.bool (pickB (eqI r4.2 1) (eqI r5.2 2) false))⟩], [.blk r1.enc, .blk r4.1.enc, .blk r5.1.enc]⟩ (AWp.reg Tryd.tyOk hΓ (keep := [4]) (dead := [9, 7]) (by kernel_rfl) rfl (by simp)) ?_
    refine AWp.ret ?_
    obtain rfl := some_inj hr
    refine fin_ret ?_
    simp

@[simp] noncomputable def gLaw07ControlCut.S : Sp
  | [.agg e0, .lit (.int .i64 x1)], _ => some { av := .lit (.bool ((gLaw07ControlCut (Antiphonref07Command.dec e0) x1).getD dflt)), M := none, obl := WeakL e0 (Antiphonref07Command.enc (Antiphonref07Command.dec e0)) ∧ (gLaw07ControlCut (Antiphonref07Command.dec e0) x1).isSome = true }
  | _, _ => none

set_option maxHeartbeats 1000000 in
theorem gLaw07ControlCut.ok : SpecOk Tryd.prog 5 gLaw07ControlCut.S := by
  intro l M out h
  unfold gLaw07ControlCut.S at h
  split at h
  · rename_i e0 x1
    cases h
    refine callOk_of fun ho => ?_
    obtain ⟨ox0, hs⟩ := ho
    generalize (Antiphonref07Command.dec e0) = x0 at *
    obtain ⟨r, hr⟩ := Option.isSome_iff_exists.1 hs
    simp only [hr, Option.getD_some]
    have q := call_frame (M := M) [] (gLaw07ControlCut.can x0 x1 r hr) (by simp) rfl (by intro k i hk; simp at hk)
    exact callOk_conv q trivial (by simp; exact ox0) (by simp [frameOut, gLaw07ControlCut.out]) (by simp [frameOut, gLaw07ControlCut.out])
  · cases h
end Go.Proofs
end
section
namespace Go.Proofs
open Go.Ab
@[simp] def gLaw07ControlApart.out (_x0 : Antiphonref07Command) (_x1 : Antiphonref07Command) (r : Bool) : Out := { av := .lit (.bool r), M := none }
def gLaw07ControlApart.fin (x0 : Antiphonref07Command) (x1 : Antiphonref07Command) (r : Bool) (σ : St) : Prop := finK (gLaw07ControlApart.out x0 x1 r) [] σ.M (resA Tryd.ty σ.A σ.M Tryd.f6.results.toList)
set_option maxHeartbeats 4000000 in
set_option maxRecDepth 100000 in
theorem gLaw07ControlApart.can (x0 : Antiphonref07Command) (x1 : Antiphonref07Command) (r : Bool) (hr : gLaw07ControlApart x0 x1 = some r) : CallOk Tryd.prog 6 [.agg [.lit (.int .i64 x0.fKind), .lit (.string x0.fRoom), .lit (.string x0.fName), .lit (.int .i64 x0.fPeer), .lit (.int .i64 x0.fOf), .lit (.int .i64 x0.fTrack), .lit (.int .i64 x0.fLayer), .lit (.bool x0.fOn), .lit (.bool x0.fVideo), .sl (x0.fSsrcs.map (eNum .u32)) .no], .agg [.lit (.int .i64 x1.fKind), .lit (.string x1.fRoom), .lit (.string x1.fName), .lit (.int .i64 x1.fPeer), .lit (.int .i64 x1.fOf), .lit (.int .i64 x1.fTrack), .lit (.int .i64 x1.fLayer), .lit (.bool x1.fOn), .lit (.bool x1.fVideo), .sl (x1.fSsrcs.map (eNum .u32)) .no]] [] (gLaw07ControlApart.out x0 x1 r) := by
  unfold gLaw07ControlApart at hr
  have hΓ := (gamL_cons gControlCommandCheck.ok (gamL_cons gControlCommandText.ok (gamL_cons gLaw07Few.ok (gamL_cons gLaw07Same.ok (gamL_cons gLaw07Told.ok (gamL_cons gLaw07Awake.ok (gamL_nil)))))) : GamOk Tryd.prog _)
  refine call_of_awp Tryd.tyOk Tryd.func6 rfl (by kernel_rfl) rfl rfl (by simp) ?_
  intro _ _ _
  refine AWp.then ⟨[⟨2, none, .ptr 0 0⟩, ⟨3, none, .ptr 1 0⟩], [.blk x0.enc, .blk x1.enc]⟩ (AWp.reg Tryd.tyOk hΓ (keep := [2, 3]) (dead := [0, 1]) (by kernel_rfl) rfl (by simp)) ?_
  obtain ⟨r1, h11, hr⟩ := bind_some' hr
  obtain ⟨r2, h12, hr⟩ := bind_some' hr
  refine AWp.then ⟨[⟨2, none, .ptr 0 0⟩, ⟨3, none, .ptr 1 0⟩], [.blk r1.enc, .blk r2.enc]⟩ (AWp.regD Tryd.mixed Tryd.tyOk hΓ (keep := []) (dead := []) [] [(false, []), (false, []), (false, []), (false, []), (true, []), (true, [])] (by kernel_rfl) rfl (by simp [h11, h12])) ?_
  refine AWp.seq ?_
  obtain ⟨r3, h13, hr⟩ := bind_some' hr
  obtain ⟨h14, hr⟩ := need_some hr
  obtain ⟨h15, hr⟩ := need_some hr
  refine AWp.then ⟨[⟨20, none, .lit (.bool (pickB (pickB (notB r3) true (neI ((gControlCommandCheck r1).getD dflt) 0)) true (neI ((gControlCommandCheck r2).getD dflt) 0)))⟩, ⟨2, none, .ptr 0 0⟩, ⟨3, none, .ptr 1 0⟩], [.blk r1.enc, .blk r2.enc]⟩ (AWp.reg Tryd.tyOk hΓ (keep := [20]) (dead := []) (by kernel_rfl) rfl (by simp [h13, h14, h15])) ?_
  refine AWp.cond (b := (pickB (pickB (notB r3) true (neI ((gControlCommandCheck r1).getD dflt) 0)) true (neI ((gControlCommandCheck r2).getD dflt) 0))) (by simp) (fun h16 => ?_) (fun h16 => ?_)
  · have hr := cond_t h16 hr
    refine AWp.then ⟨[⟨4, none, .lit (.bool r3)⟩], [.blk r1.enc, .blk r2.enc]⟩ (AWp.reg Tryd.tyOk hΓ (keep := [4]) (dead := [20, 2, 3]) (by kernel_rfl) rfl (by simp [h13, h16])) ?_
    refine AWp.ret ?_
    obtain rfl := some_inj hr
    refine fin_ret ?_
    simp
  · have hr := cond_f h16 hr
    refine AWp.skip ?_
    obtain ⟨r4, h17, hr⟩ := bind_some' hr
    obtain ⟨r5, h18, hr⟩ := bind_some' hr
    obtain ⟨r6, h19, hr⟩ := bind_some' hr
    obtain ⟨r7, h20, hr⟩ := bind_some' hr
    refine AWp.then ⟨[⟨4, none, .lit (.bool (eqB (eqS r4 r5) (eqI r7 0)))⟩], [.blk r1.enc, .blk r2.enc]⟩ (AWp.regD Tryd.mixed Tryd.tyOk hΓ (keep := [4]) (dead := [20, 2, 3]) [] [(false, []), (false, []), (false, []), (false, []), (false, []), (false, []), (false, []), (false, []), (false, []), (false, []), (false, []), (false, [])] (by kernel_rfl) rfl (by simp [h16, h17, h18, h19, h20])) ?_
    refine AWp.ret ?_
    obtain rfl := some_inj hr
    refine fin_ret ?_
    simp

@[simp] noncomputable def gLaw07ControlApart.S : Sp
  | [.agg e0, .agg e1], _ => some { av := .lit (.bool ((gLaw07ControlApart (Antiphonref07Command.dec e0) (Antiphonref07Command.dec e1)).getD dflt)), M := none, obl := WeakL e0 (Antiphonref07Command.enc (Antiphonref07Command.dec e0)) ∧ WeakL e1 (Antiphonref07Command.enc (Antiphonref07Command.dec e1)) ∧ (gLaw07ControlApart (Antiphonref07Command.dec e0) (Antiphonref07Command.dec e1)).isSome = true }
  | _, _ => none

set_option maxHeartbeats 1000000 in
theorem gLaw07ControlApart.ok : SpecOk Tryd.prog 6 gLaw07ControlApart.S := by
  intro l M out h
  unfold gLaw07ControlApart.S at h
  split at h
  · rename_i e0 e1
    cases h
    refine callOk_of fun ho => ?_
    obtain ⟨ox0, ox1, hs⟩ := ho
    generalize (Antiphonref07Command.dec e0) = x0 at *
    generalize (Antiphonref07Command.dec e1) = x1 at *
    obtain ⟨r, hr⟩ := Option.isSome_iff_exists.1 hs
    simp only [hr, Option.getD_some]
    have q := call_frame (M := M) [] (gLaw07ControlApart.can x0 x1 r hr) (by simp) rfl (by intro k i hk; simp at hk)
    exact callOk_conv q trivial (by simp; exact ⟨ox0, ox1⟩) (by simp [frameOut, gLaw07ControlApart.out]) (by simp [frameOut, gLaw07ControlApart.out])
  · cases h
end Go.Proofs
end

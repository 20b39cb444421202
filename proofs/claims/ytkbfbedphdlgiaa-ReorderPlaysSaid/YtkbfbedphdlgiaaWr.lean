/- That these functions compute what their plain functions do. No condition. -/
import Derived.Test.YtkbfbedphdlgiaaWrD
import Derived.Test.YtkbfbedphdlgiaaTy
import Derived.Test.YtkbfbedphdlgiaaRr
import Derived.Test.YtkbfbedphdlgiaaRo
namespace Go.Proofs
open Go.Ab
@[simp] def gLaw09Awake.out  (r : Bool) : Out := { av := .lit (.bool r), M := none }
def gLaw09Awake.fin  (r : Bool) (σ : St) : Prop := finK (gLaw09Awake.out  r) [] σ.M (resA Try.ty σ.A σ.M Try.f9.results.toList)
set_option maxHeartbeats 4000000 in
set_option maxRecDepth 100000 in
theorem gLaw09Awake.can  (r : Bool) (hr : gLaw09Awake = some r) : CallOk Try.prog 9 [] [] (gLaw09Awake.out  r) := by
  unfold gLaw09Awake at hr
  have hΓ := (gamL_cons gReorderBufferMissing.ok (gamL_cons gReorderBufferPut.ok (gamL_cons gReorderNew.ok (gamL_nil))) : GamOk Try.prog _)
  refine call_of_awp Try.tyOk Try.func9 rfl (by kernel_rfl) rfl rfl (by simp) ?_
  intro _ _ _
  refine AWp.then ⟨[], []⟩ (AWp.reg Try.tyOk hΓ (keep := []) (dead := []) (by kernel_rfl) rfl (by simp)) ?_
  obtain ⟨r1, h11, hr⟩ := bind_some' hr
  cases h12 : r1.1 with
  | none =>
    have hr := optC_n h12 hr
    refine AWp.then ⟨[⟨1, none, .lit (.pointer none)⟩, ⟨2, none, .lit (.int .i64 r1.2)⟩], []⟩ (AWp.reg Try.tyOk hΓ (keep := [1, 2]) (dead := []) (by kernel_rfl) rfl (by simp [h11, h12])) ?_
    refine AWp.seq ?_
    refine AWp.then ⟨[⟨20, none, .lit (.bool (pickB (neI r1.2 0) true true))⟩, ⟨1, none, .lit (.pointer none)⟩], []⟩ (AWp.reg Try.tyOk hΓ (keep := [20]) (dead := [2]) (by kernel_rfl) rfl (by simp)) ?_
    refine AWp.cond (b := (pickB (neI r1.2 0) true true)) (by simp) (fun h13 => ?_) (fun h13 => ?_)
    · have hr := cond_t h13 hr
      refine AWp.then ⟨[⟨0, none, .lit (.bool false)⟩], []⟩ (AWp.reg Try.tyOk hΓ (keep := [0]) (dead := [20, 1]) (by kernel_rfl) rfl (by simp [h13])) ?_
      refine AWp.ret ?_
      obtain rfl := some_inj hr
      refine fin_ret ?_
      simp
    · have hr := cond_f h13 hr
      refine AWp.skip ?_
      refine AWp.seq ?_
      cases hr
  | some o1 =>
    have hr := optC_s h12 hr
    refine AWp.then ⟨[⟨1, none, .ptr 2 0⟩, ⟨2, none, .lit (.int .i64 r1.2)⟩], [.dead, .mapo (encM (kI .i64) (vA Antiphonref09Thing.enc) o1.fOf), .blk [.lit (.int .i64 o1.fConfig.fMost), .lit (.int .i64 o1.fConfig.fWait), .lit (.bool o1.fBegun), .lit (.int .i64 o1.fNext), .mp 1, .lit (.int .i64 o1.fLost)]]⟩ (AWp.reg Try.tyOk hΓ (keep := [1, 2]) (dead := []) (by kernel_rfl) rfl (by simp [h11, h12])) ?_
    refine AWp.seq ?_
    refine AWp.then ⟨[⟨20, none, .lit (.bool (pickB (neI r1.2 0) true false))⟩, ⟨1, none, .ptr 2 0⟩], [.dead, .mapo (encM (kI .i64) (vA Antiphonref09Thing.enc) o1.fOf), .blk [.lit (.int .i64 o1.fConfig.fMost), .lit (.int .i64 o1.fConfig.fWait), .lit (.bool o1.fBegun), .lit (.int .i64 o1.fNext), .mp 1, .lit (.int .i64 o1.fLost)]]⟩ (AWp.reg Try.tyOk hΓ (keep := [20]) (dead := [2]) (by kernel_rfl) rfl (by simp)) ?_
    refine AWp.cond (b := (pickB (neI r1.2 0) true false)) (by simp) (fun h14 => ?_) (fun h14 => ?_)
    · have hr := cond_t h14 hr
      refine AWp.then ⟨[⟨0, none, .lit (.bool false)⟩], [.dead, .mapo (encM (kI .i64) (vA Antiphonref09Thing.enc) o1.fOf), .blk [.lit (.int .i64 o1.fConfig.fMost), .lit (.int .i64 o1.fConfig.fWait), .lit (.bool o1.fBegun), .lit (.int .i64 o1.fNext), .mp 1, .lit (.int .i64 o1.fLost)]]⟩ (AWp.reg Try.tyOk hΓ (keep := [0]) (dead := [20, 1]) (by kernel_rfl) rfl (by simp [h14])) ?_
      refine AWp.ret ?_
      obtain rfl := some_inj hr
      refine fin_ret ?_
      simp
    · have hr := cond_f h14 hr
      refine AWp.skip ?_
      obtain ⟨r2, h15, hr⟩ := bind_some' hr
      refine AWp.then ⟨[⟨3, none, .sl (r2.1.map Antiphonref09Thing.enc) .no⟩, ⟨1, none, .ptr 2 0⟩], [.dead, .mapo (encM (kI .i64) (vA Antiphonref09Thing.enc) r2.2.2.fOf), .blk [.lit (.int .i64 r2.2.2.fConfig.fMost), .lit (.int .i64 r2.2.2.fConfig.fWait), .lit (.bool r2.2.2.fBegun), .lit (.int .i64 r2.2.2.fNext), .mp 1, .lit (.int .i64 r2.2.2.fLost)]]⟩ (AWp.reg Try.tyOk hΓ (keep := [3]) (dead := [20]) (by kernel_rfl) rfl (by simp [h14, h15])) ?_
      obtain ⟨r3, h16, hr⟩ := bind_some' hr
      refine AWp.then ⟨[⟨5, none, .sl (r3.1.map Antiphonref09Thing.enc) .no⟩, ⟨3, none, .sl (r2.1.map Antiphonref09Thing.enc) .no⟩, ⟨1, none, .ptr 2 0⟩], [.dead, .mapo (encM (kI .i64) (vA Antiphonref09Thing.enc) r3.2.2.fOf), .blk [.lit (.int .i64 r3.2.2.fConfig.fMost), .lit (.int .i64 r3.2.2.fConfig.fWait), .lit (.bool r3.2.2.fBegun), .lit (.int .i64 r3.2.2.fNext), .mp 1, .lit (.int .i64 r3.2.2.fLost)]]⟩ (AWp.reg Try.tyOk hΓ (keep := [5]) (dead := []) (by kernel_rfl) rfl (by simp [h16])) ?_
      obtain ⟨r4, h17, hr⟩ := bind_some' hr
      refine AWp.then ⟨[⟨7, none, .sl (r4.map (eNum .i64)) .no⟩, ⟨5, none, .sl (r3.1.map Antiphonref09Thing.enc) .no⟩, ⟨3, none, .sl (r2.1.map Antiphonref09Thing.enc) .no⟩, ⟨1, none, .ptr 2 0⟩], [.dead, .mapo (encM (kI .i64) (vA Antiphonref09Thing.enc) r3.2.2.fOf), .blk [.lit (.int .i64 r3.2.2.fConfig.fMost), .lit (.int .i64 r3.2.2.fConfig.fWait), .lit (.bool r3.2.2.fBegun), .lit (.int .i64 r3.2.2.fNext), .mp 1, .lit (.int .i64 r3.2.2.fLost)]]⟩ (AWp.reg Try.tyOk hΓ (keep := [7]) (dead := []) (by kernel_rfl) rfl (by simp [h17])) ?_
      obtain ⟨r5, h18, hr⟩ := bind_some' hr
      refine AWp.then ⟨[⟨8, none, .sl (r5.1.map Antiphonref09Thing.enc) .no⟩, ⟨7, none, .sl (r4.map (eNum .i64)) .no⟩, ⟨5, none, .sl (r3.1.map Antiphonref09Thing.enc) .no⟩, ⟨3, none, .sl (r2.1.map Antiphonref09Thing.enc) .no⟩], [.dead, .mapo (encM (kI .i64) (vA Antiphonref09Thing.enc) r5.2.2.fOf), .blk [.lit (.int .i64 r5.2.2.fConfig.fMost), .lit (.int .i64 r5.2.2.fConfig.fWait), .lit (.bool r5.2.2.fBegun), .lit (.int .i64 r5.2.2.fNext), .mp 1, .lit (.int .i64 r5.2.2.fLost)]]⟩ (AWp.reg Try.tyOk hΓ (keep := [8]) (dead := [1]) (by kernel_rfl) rfl (by simp [h18])) ?_
      obtain ⟨h19, hr⟩ := need_some hr
      obtain ⟨h20, hr⟩ := need_some hr
      refine AWp.then ⟨[⟨0, none, .lit (.bool (pickB (pickB (pickB (pickB (pickB (eqI (lenL r2.1) 1) (eqI (lenL r3.1) 0) false) (eqI (lenL r5.1) 2) false) (eqI ((nthI r5.1 1).fAt) 7) false) (eqI (lenL r4) 1) false) (eqI (nthI r4 0) 6) false))⟩], [.dead, .mapo (encM (kI .i64) (vA Antiphonref09Thing.enc) r5.2.2.fOf), .blk [.lit (.int .i64 r5.2.2.fConfig.fMost), .lit (.int .i64 r5.2.2.fConfig.fWait), .lit (.bool r5.2.2.fBegun), .lit (.int .i64 r5.2.2.fNext), .mp 1, .lit (.int .i64 r5.2.2.fLost)]]⟩ (AWp.reg Try.tyOk hΓ (keep := [0]) (dead := [8, 7, 5, 3]) (by kernel_rfl) rfl (by simp [h19, h20])) ?_
      refine AWp.ret ?_
      obtain rfl := some_inj hr
      refine fin_ret ?_
      simp

@[simp] noncomputable def gLaw09Awake.S : Sp
  | [], _ => some { av := .lit (.bool (gLaw09Awake.getD dflt)), M := none, obl := gLaw09Awake.isSome = true }
  | _, _ => none

set_option maxHeartbeats 1000000 in
theorem gLaw09Awake.ok : SpecOk Try.prog 9 gLaw09Awake.S := by
  intro l M out h
  unfold gLaw09Awake.S at h
  split at h
  · cases h
    refine callOk_of fun ho => ?_
    have hs := ho
    obtain ⟨r, hr⟩ := Option.isSome_iff_exists.1 hs
    simp only [hr, Option.getD_some]
    have q := call_frame (M := M) [] (gLaw09Awake.can r hr) (by simp) rfl (by intro k i hk; simp at hk)
    exact callOk_conv q trivial (by simp) (by simp [frameOut, gLaw09Awake.out]) (by simp [frameOut, gLaw09Awake.out])
  · cases h
end Go.Proofs

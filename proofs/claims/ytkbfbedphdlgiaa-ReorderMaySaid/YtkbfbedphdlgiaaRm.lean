/- That these functions compute what their plain functions do. No condition. -/
import Derived.Test.YtkbfbedphdlgiaaRmD
import Derived.Test.YtkbfbedphdlgiaaTy
import Derived.Test.YtkbfbedphdlgiaaWr
import Derived.Test.YtkbfbedphdlgiaaRo
namespace Go.Proofs
open Go.Ab
@[simp] def gLaw09ReorderMay.out (_x0 : Int) (_x1 : Int) (r : Bool) : Out := { av := .lit (.bool r), M := none }
def gLaw09ReorderMay.fin (x0 : Int) (x1 : Int) (r : Bool) (σ : St) : Prop := finK (gLaw09ReorderMay.out x0 x1 r) [] σ.M (resA Try.ty σ.A σ.M Try.f3.results.toList)
set_option maxHeartbeats 4000000 in
set_option maxRecDepth 100000 in
theorem gLaw09ReorderMay.can (x0 : Int) (x1 : Int) (r : Bool) (hr : gLaw09ReorderMay x0 x1 = some r) : CallOk Try.prog 3 [.lit (.int .i64 x0), .lit (.int .i64 x1)] [] (gLaw09ReorderMay.out x0 x1 r) := by
  unfold gLaw09ReorderMay at hr
  have hΓ := (gamL_cons gLaw09Awake.ok (gamL_cons gReorderNew.ok (gamL_nil)) : GamOk Try.prog _)
  refine call_of_awp Try.tyOk Try.func3 rfl (by kernel_rfl) rfl rfl (by simp) ?_
  intro _ _ _
  refine AWp.then ⟨[⟨0, none, .lit (.int .i64 x0)⟩, ⟨1, none, .lit (.int .i64 x1)⟩], []⟩ (AWp.reg Try.tyOk hΓ (keep := []) (dead := []) (by kernel_rfl) rfl (by simp)) ?_
  obtain ⟨r1, h5, hr⟩ := bind_some' hr
  cases h6 : r1.1 with
  | none =>
    have hr := optC_n h6 hr
    refine AWp.then ⟨[⟨5, none, .lit (.pointer none)⟩, ⟨6, none, .lit (.int .i64 r1.2)⟩, ⟨0, none, .lit (.int .i64 x0)⟩, ⟨1, none, .lit (.int .i64 x1)⟩], []⟩ (AWp.reg Try.tyOk hΓ (keep := [5, 6]) (dead := []) (by kernel_rfl) rfl (by simp [h5, h6])) ?_
    refine AWp.then ⟨[⟨7, none, .lit (.bool (pickB (pickB (pickB (leqI 1 x0) (leqI x0 1024) false) (leqI 0 x1) false) (leqI x1 1099511627776) false))⟩, ⟨5, none, .lit (.pointer none)⟩, ⟨6, none, .lit (.int .i64 r1.2)⟩], []⟩ (AWp.reg Try.tyOk hΓ (keep := [7]) (dead := [0, 1]) (by kernel_rfl) rfl (by simp)) ?_
    obtain ⟨r2, h7, hr⟩ := bind_some' hr
    refine AWp.then ⟨[⟨4, none, .lit (.bool (pickB (pickB (pickB r2 (eqB (eqI r1.2 0) (pickB (pickB (pickB (leqI 1 x0) (leqI x0 1024) false) (leqI 0 x1) false) (leqI x1 1099511627776) false)) false) (eqB false (pickB (pickB (pickB (leqI 1 x0) (leqI x0 1024) false) (leqI 0 x1) false) (leqI x1 1099511627776) false)) false) (pickB (pickB (pickB (pickB (leqI 1 x0) (leqI x0 1024) false) (leqI 0 x1) false) (leqI x1 1099511627776) false) true (eqI r1.2 5)) false))⟩], []⟩ (AWp.reg Try.tyOk hΓ (keep := [4]) (dead := [7, 5, 6]) (by kernel_rfl) rfl (by simp [h7])) ?_
    refine AWp.ret ?_
    obtain rfl := some_inj hr
    refine fin_ret ?_
    simp
  | some o1 =>
    have hr := optC_s h6 hr
    refine AWp.then ⟨[⟨5, none, .ptr 2 0⟩, ⟨6, none, .lit (.int .i64 r1.2)⟩, ⟨0, none, .lit (.int .i64 x0)⟩, ⟨1, none, .lit (.int .i64 x1)⟩], [.dead, .mapo (encM (kI .i64) (vA Antiphonref09Thing.enc) o1.fOf), .blk [.lit (.int .i64 o1.fConfig.fMost), .lit (.int .i64 o1.fConfig.fWait), .lit (.bool o1.fBegun), .lit (.int .i64 o1.fNext), .mp 1, .lit (.int .i64 o1.fLost)]]⟩ (AWp.reg Try.tyOk hΓ (keep := [5, 6]) (dead := []) (by kernel_rfl) rfl (by simp [h5, h6])) ?_
    refine AWp.then ⟨[⟨7, none, .lit (.bool (pickB (pickB (pickB (leqI 1 x0) (leqI x0 1024) false) (leqI 0 x1) false) (leqI x1 1099511627776) false))⟩, ⟨5, none, .ptr 2 0⟩, ⟨6, none, .lit (.int .i64 r1.2)⟩], [.dead, .mapo (encM (kI .i64) (vA Antiphonref09Thing.enc) o1.fOf), .blk [.lit (.int .i64 o1.fConfig.fMost), .lit (.int .i64 o1.fConfig.fWait), .lit (.bool o1.fBegun), .lit (.int .i64 o1.fNext), .mp 1, .lit (.int .i64 o1.fLost)]]⟩ (AWp.reg Try.tyOk hΓ (keep := [7]) (dead := [0, 1]) (by kernel_rfl) rfl (by simp)) ?_
    obtain ⟨r2, h8, hr⟩ := bind_some' hr
    refine AWp.then ⟨[⟨4, none, .lit (.bool (pickB (pickB (pickB r2 (eqB (eqI r1.2 0) (pickB (pickB (pickB (leqI 1 x0) (leqI x0 1024) false) (leqI 0 x1) false) (leqI x1 1099511627776) false)) false) (eqB true (pickB (pickB (pickB (leqI 1 x0) (leqI x0 1024) false) (leqI 0 x1) false) (leqI x1 1099511627776) false)) false) (pickB (pickB (pickB (pickB (leqI 1 x0) (leqI x0 1024) false) (leqI 0 x1) false) (leqI x1 1099511627776) false) true (eqI r1.2 5)) false))⟩], [.dead, .mapo (encM (kI .i64) (vA Antiphonref09Thing.enc) o1.fOf), .blk [.lit (.int .i64 o1.fConfig.fMost), .lit (.int .i64 o1.fConfig.fWait), .lit (.bool o1.fBegun), .lit (.int .i64 o1.fNext), .mp 1, .lit (.int .i64 o1.fLost)]]⟩ (AWp.reg Try.tyOk hΓ (keep := [4]) (dead := [7, 5, 6]) (by kernel_rfl) rfl (by simp [h8])) ?_
    refine AWp.ret ?_
    obtain rfl := some_inj hr
    refine fin_ret ?_
    simp

@[simp] noncomputable def gLaw09ReorderMay.S : Sp
  | [.lit (.int .i64 x0), .lit (.int .i64 x1)], _ => some { av := .lit (.bool ((gLaw09ReorderMay x0 x1).getD dflt)), M := none, obl := (gLaw09ReorderMay x0 x1).isSome = true }
  | _, _ => none

set_option maxHeartbeats 1000000 in
theorem gLaw09ReorderMay.ok : SpecOk Try.prog 3 gLaw09ReorderMay.S := by
  intro l M out h
  unfold gLaw09ReorderMay.S at h
  split at h
  · rename_i x0 x1
    cases h
    refine callOk_of fun ho => ?_
    have hs := ho
    obtain ⟨r, hr⟩ := Option.isSome_iff_exists.1 hs
    simp only [hr, Option.getD_some]
    have q := call_frame (M := M) [] (gLaw09ReorderMay.can x0 x1 r hr) (by simp) rfl (by intro k i hk; simp at hk)
    exact callOk_conv q trivial (by simp) (by simp [frameOut, gLaw09ReorderMay.out]) (by simp [frameOut, gLaw09ReorderMay.out])
  · cases h
end Go.Proofs

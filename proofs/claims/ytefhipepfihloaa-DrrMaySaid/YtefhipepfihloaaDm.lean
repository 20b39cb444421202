/- That these functions compute what their plain functions do. No condition. -/
import Derived.Test.YtefhipepfihloaaDmD
import Derived.Test.YtefhipepfihloaaTy
import Derived.Test.YtefhipepfihloaaDc
import Derived.Test.YtefhipepfihloaaDa
namespace Go.Proofs
open Go.Ab
@[simp] def gLaw19DrrMay.out (_x0 : Int) (_x1 : Int) (r : Bool) : Out := { av := .lit (.bool r), M := none }
def gLaw19DrrMay.fin (x0 : Int) (x1 : Int) (r : Bool) (σ : St) : Prop := finK (gLaw19DrrMay.out x0 x1 r) [] σ.M (resA Try.ty σ.A σ.M Try.f6.results.toList)
set_option maxHeartbeats 4000000 in
set_option maxRecDepth 100000 in
theorem gLaw19DrrMay.can (x0 : Int) (x1 : Int) (r : Bool) (hr : gLaw19DrrMay x0 x1 = some r) : CallOk Try.prog 6 [.lit (.int .i64 x0), .lit (.int .i64 x1)] [] (gLaw19DrrMay.out x0 x1 r) := by
  unfold gLaw19DrrMay at hr
  have hΓ := (gamL_cons gDrrSchedAdd.ok (gamL_cons gDrrSchedLeft.ok (gamL_cons gDrrSchedRemove.ok (gamL_cons gLaw19Awake.ok (gamL_cons gDrrNew.ok (gamL_nil))))) : GamOk Try.prog _)
  refine call_of_awp Try.tyOk Try.func6 rfl (by kernel_rfl) rfl rfl (by simp) ?_
  intro _ _ _
  refine AWp.then ⟨[⟨0, none, .lit (.int .i64 x0)⟩, ⟨1, none, .lit (.int .i64 x1)⟩], []⟩ (AWp.reg Try.tyOk hΓ (keep := []) (dead := []) (by kernel_rfl) rfl (by simp)) ?_
  obtain ⟨r1, h18, hr⟩ := bind_some' hr
  cases h19 : r1.1 with
  | none =>
    have hr := optC_n h19 hr
    refine AWp.then ⟨[⟨5, none, .lit (.pointer none)⟩, ⟨6, none, .lit (.int .i64 r1.2)⟩, ⟨0, none, .lit (.int .i64 x0)⟩, ⟨1, none, .lit (.int .i64 x1)⟩], []⟩ (AWp.reg Try.tyOk hΓ (keep := [5, 6]) (dead := []) (by kernel_rfl) rfl (by simp [h18, h19])) ?_
    refine AWp.then ⟨[⟨7, none, .lit (.bool (pickB (leqI 1 x0) (leqI x0 16777216) false))⟩, ⟨5, none, .lit (.pointer none)⟩, ⟨6, none, .lit (.int .i64 r1.2)⟩, ⟨0, none, .lit (.int .i64 x0)⟩, ⟨1, none, .lit (.int .i64 x1)⟩], []⟩ (AWp.reg Try.tyOk hΓ (keep := [7]) (dead := []) (by kernel_rfl) rfl (by simp)) ?_
    refine AWp.seq ?_
    obtain ⟨r2, h20, hr⟩ := bind_some' hr
    refine AWp.then ⟨[⟨33, none, .lit (.bool (pickB (pickB (notB r2) true (neB (eqI r1.2 0) (pickB (leqI 1 x0) (leqI x0 16777216) false))) true (neB false (pickB (leqI 1 x0) (leqI x0 16777216) false))))⟩, ⟨7, none, .lit (.bool (pickB (leqI 1 x0) (leqI x0 16777216) false))⟩, ⟨5, none, .lit (.pointer none)⟩, ⟨6, none, .lit (.int .i64 r1.2)⟩, ⟨0, none, .lit (.int .i64 x0)⟩, ⟨1, none, .lit (.int .i64 x1)⟩], []⟩ (AWp.reg Try.tyOk hΓ (keep := [33]) (dead := []) (by kernel_rfl) rfl (by simp [h20])) ?_
    refine AWp.cond (b := (pickB (pickB (notB r2) true (neB (eqI r1.2 0) (pickB (leqI 1 x0) (leqI x0 16777216) false))) true (neB false (pickB (leqI 1 x0) (leqI x0 16777216) false)))) (by simp) (fun h21 => ?_) (fun h21 => ?_)
    · have hr := cond_t h21 hr
      refine AWp.then ⟨[⟨4, none, .lit (.bool false)⟩], []⟩ (AWp.reg Try.tyOk hΓ (keep := [4]) (dead := [33, 7, 5, 6, 0, 1]) (by kernel_rfl) rfl (by simp [h21])) ?_
      refine AWp.ret ?_
      obtain rfl := some_inj hr
      refine fin_ret ?_
      simp
    · have hr := cond_f h21 hr
      refine AWp.skip ?_
      refine AWp.seq ?_
      refine AWp.then ⟨[⟨35, none, .lit (.bool (notB (pickB (leqI 1 x0) (leqI x0 16777216) false)))⟩, ⟨5, none, .lit (.pointer none)⟩, ⟨6, none, .lit (.int .i64 r1.2)⟩, ⟨0, none, .lit (.int .i64 x0)⟩, ⟨1, none, .lit (.int .i64 x1)⟩], []⟩ (AWp.reg Try.tyOk hΓ (keep := [35]) (dead := [33, 7]) (by kernel_rfl) rfl (by simp [h21])) ?_
      refine AWp.cond (b := (notB (pickB (leqI 1 x0) (leqI x0 16777216) false))) (by simp) (fun h22 => ?_) (fun h22 => ?_)
      · have hr := cond_t h22 hr
        refine AWp.then ⟨[⟨4, none, .lit (.bool (eqI r1.2 5))⟩], []⟩ (AWp.reg Try.tyOk hΓ (keep := [4]) (dead := [35, 5, 6, 0, 1]) (by kernel_rfl) rfl (by simp [h22])) ?_
        refine AWp.ret ?_
        obtain rfl := some_inj hr
        refine fin_ret ?_
        simp
      · have hr := cond_f h22 hr
        refine AWp.skip ?_
        refine AWp.seq ?_
        cases hr
  | some o1 =>
    have hr := optC_s h19 hr
    refine AWp.then ⟨[⟨5, none, .ptr 2 0⟩, ⟨6, none, .lit (.int .i64 r1.2)⟩, ⟨0, none, .lit (.int .i64 x0)⟩, ⟨1, none, .lit (.int .i64 x1)⟩], [.mapo (encM (kI .i64) (kI .i64) o1.fShare), .mapo (encM (kI .i64) (kI .i64) o1.fLeft), .blk [.lit (.int .i64 o1.fMost), .mp 0, .mp 1, .lit (.int .i64 o1.fAt), .lit (.bool o1.fGranted)]]⟩ (AWp.reg Try.tyOk hΓ (keep := [5, 6]) (dead := []) (by kernel_rfl) rfl (by simp [h18, h19])) ?_
    refine AWp.then ⟨[⟨7, none, .lit (.bool (pickB (leqI 1 x0) (leqI x0 16777216) false))⟩, ⟨5, none, .ptr 2 0⟩, ⟨6, none, .lit (.int .i64 r1.2)⟩, ⟨0, none, .lit (.int .i64 x0)⟩, ⟨1, none, .lit (.int .i64 x1)⟩], [.mapo (encM (kI .i64) (kI .i64) o1.fShare), .mapo (encM (kI .i64) (kI .i64) o1.fLeft), .blk [.lit (.int .i64 o1.fMost), .mp 0, .mp 1, .lit (.int .i64 o1.fAt), .lit (.bool o1.fGranted)]]⟩ (AWp.reg Try.tyOk hΓ (keep := [7]) (dead := []) (by kernel_rfl) rfl (by simp)) ?_
    refine AWp.seq ?_
    obtain ⟨r2, h23, hr⟩ := bind_some' hr
    refine AWp.then ⟨[⟨33, none, .lit (.bool (pickB (pickB (notB r2) true (neB (eqI r1.2 0) (pickB (leqI 1 x0) (leqI x0 16777216) false))) true (neB true (pickB (leqI 1 x0) (leqI x0 16777216) false))))⟩, ⟨7, none, .lit (.bool (pickB (leqI 1 x0) (leqI x0 16777216) false))⟩, ⟨5, none, .ptr 2 0⟩, ⟨6, none, .lit (.int .i64 r1.2)⟩, ⟨0, none, .lit (.int .i64 x0)⟩, ⟨1, none, .lit (.int .i64 x1)⟩], [.mapo (encM (kI .i64) (kI .i64) o1.fShare), .mapo (encM (kI .i64) (kI .i64) o1.fLeft), .blk [.lit (.int .i64 o1.fMost), .mp 0, .mp 1, .lit (.int .i64 o1.fAt), .lit (.bool o1.fGranted)]]⟩ (AWp.reg Try.tyOk hΓ (keep := [33]) (dead := []) (by kernel_rfl) rfl (by simp [h23])) ?_
    refine AWp.cond (b := (pickB (pickB (notB r2) true (neB (eqI r1.2 0) (pickB (leqI 1 x0) (leqI x0 16777216) false))) true (neB true (pickB (leqI 1 x0) (leqI x0 16777216) false)))) (by simp) (fun h24 => ?_) (fun h24 => ?_)
    · have hr := cond_t h24 hr
      refine AWp.then ⟨[⟨4, none, .lit (.bool false)⟩], [.mapo (encM (kI .i64) (kI .i64) o1.fShare), .mapo (encM (kI .i64) (kI .i64) o1.fLeft), .blk [.lit (.int .i64 o1.fMost), .mp 0, .mp 1, .lit (.int .i64 o1.fAt), .lit (.bool o1.fGranted)]]⟩ (AWp.reg Try.tyOk hΓ (keep := [4]) (dead := [33, 7, 5, 6, 0, 1]) (by kernel_rfl) rfl (by simp [h24])) ?_
      refine AWp.ret ?_
      obtain rfl := some_inj hr
      refine fin_ret ?_
      simp
    · have hr := cond_f h24 hr
      refine AWp.skip ?_
      refine AWp.seq ?_
      refine AWp.then ⟨[⟨35, none, .lit (.bool (notB (pickB (leqI 1 x0) (leqI x0 16777216) false)))⟩, ⟨5, none, .ptr 2 0⟩, ⟨6, none, .lit (.int .i64 r1.2)⟩, ⟨0, none, .lit (.int .i64 x0)⟩, ⟨1, none, .lit (.int .i64 x1)⟩], [.mapo (encM (kI .i64) (kI .i64) o1.fShare), .mapo (encM (kI .i64) (kI .i64) o1.fLeft), .blk [.lit (.int .i64 o1.fMost), .mp 0, .mp 1, .lit (.int .i64 o1.fAt), .lit (.bool o1.fGranted)]]⟩ (AWp.reg Try.tyOk hΓ (keep := [35]) (dead := [33, 7]) (by kernel_rfl) rfl (by simp [h24])) ?_
      refine AWp.cond (b := (notB (pickB (leqI 1 x0) (leqI x0 16777216) false))) (by simp) (fun h25 => ?_) (fun h25 => ?_)
      · have hr := cond_t h25 hr
        refine AWp.then ⟨[⟨4, none, .lit (.bool (eqI r1.2 5))⟩], [.mapo (encM (kI .i64) (kI .i64) o1.fShare), .mapo (encM (kI .i64) (kI .i64) o1.fLeft), .blk [.lit (.int .i64 o1.fMost), .mp 0, .mp 1, .lit (.int .i64 o1.fAt), .lit (.bool o1.fGranted)]]⟩ (AWp.reg Try.tyOk hΓ (keep := [4]) (dead := [35, 5, 6, 0, 1]) (by kernel_rfl) rfl (by simp [h25])) ?_
        refine AWp.ret ?_
        obtain rfl := some_inj hr
        refine fin_ret ?_
        simp
      · have hr := cond_f h25 hr
        refine AWp.skip ?_
        obtain ⟨r3, h26, hr⟩ := bind_some' hr
        refine AWp.then ⟨[⟨8, none, .lit (.int .i64 r3.1)⟩, ⟨5, none, .ptr 2 0⟩, ⟨0, none, .lit (.int .i64 x0)⟩, ⟨1, none, .lit (.int .i64 x1)⟩], [.mapo (encM (kI .i64) (kI .i64) r3.2.fShare), .mapo (encM (kI .i64) (kI .i64) r3.2.fLeft), .blk [.lit (.int .i64 r3.2.fMost), .mp 0, .mp 1, .lit (.int .i64 r3.2.fAt), .lit (.bool r3.2.fGranted)]]⟩ (AWp.reg Try.tyOk hΓ (keep := [8]) (dead := [35, 6]) (by kernel_rfl) rfl (by simp [h25, h26])) ?_
        refine AWp.seq ?_
        refine AWp.then ⟨[⟨47, none, .lit (.bool (pickB (ltI x1 x0) true (ltI 16777216 x1)))⟩, ⟨8, none, .lit (.int .i64 r3.1)⟩, ⟨5, none, .ptr 2 0⟩, ⟨1, none, .lit (.int .i64 x1)⟩], [.mapo (encM (kI .i64) (kI .i64) r3.2.fShare), .mapo (encM (kI .i64) (kI .i64) r3.2.fLeft), .blk [.lit (.int .i64 r3.2.fMost), .mp 0, .mp 1, .lit (.int .i64 r3.2.fAt), .lit (.bool r3.2.fGranted)]]⟩ (AWp.reg Try.tyOk hΓ (keep := [47]) (dead := [0]) (by kernel_rfl) rfl (by simp)) ?_
        refine AWp.cond (b := (pickB (ltI x1 x0) true (ltI 16777216 x1))) (by simp) (fun h27 => ?_) (fun h27 => ?_)
        · have hr := cond_t h27 hr
          cases h28 : (eqI r3.1 5) with
          | true =>
            have hr := cond_t h28 hr
            obtain ⟨r4, h29, hr⟩ := bind_some' hr
            refine AWp.then ⟨[⟨4, none, .lit (.bool (eqI r4.1 12))⟩], [.mapo (encM (kI .i64) (kI .i64) r4.2.fShare), .mapo (encM (kI .i64) (kI .i64) r4.2.fLeft), .blk [.lit (.int .i64 r4.2.fMost), .mp 0, .mp 1, .lit (.int .i64 r4.2.fAt), .lit (.bool r4.2.fGranted)]]⟩ (AWp.regG Try.tyOk hΓ [(50, true)] (keep := [4]) (dead := [47, 8, 5, 1]) (by kernel_rfl) rfl (by simp [h27, h28, h29])) ?_
            refine AWp.ret ?_
            obtain rfl := some_inj hr
            refine fin_ret ?_
            simp
          | false =>
            have hr := cond_f h28 hr
            refine AWp.then ⟨[⟨4, none, .lit (.bool false)⟩], [.mapo (encM (kI .i64) (kI .i64) r3.2.fShare), .mapo (encM (kI .i64) (kI .i64) r3.2.fLeft), .blk [.lit (.int .i64 r3.2.fMost), .mp 0, .mp 1, .lit (.int .i64 r3.2.fAt), .lit (.bool r3.2.fGranted)]]⟩ (AWp.regG Try.tyOk hΓ [(50, false)] (keep := [4]) (dead := [47, 8, 5, 1]) (by kernel_rfl) rfl (by simp [h27, h28])) ?_
            refine AWp.ret ?_
            obtain rfl := some_inj hr
            refine fin_ret ?_
            simp
        · have hr := cond_f h27 hr
          refine AWp.skip ?_
          cases h30 : (eqI r3.1 0) with
          | true =>
            have hr := cond_t h30 hr
            obtain ⟨r4, h31, hr⟩ := bind_some' hr
            cases h32 : (eqI r4.1 10) with
            | true =>
              have hr := cond_t h32 hr
              obtain ⟨r5, h33, hr⟩ := bind_some' hr
              obtain ⟨h34, hr⟩ := need_some hr
              refine AWp.then ⟨[⟨4, none, .lit (.bool (pickB (eqI r5.1 0) (eqI ((gDrrSchedLeft r5.2 5).getD dflt) 0) false))⟩], [.mapo (encM (kI .i64) (kI .i64) r5.2.fShare), .mapo (encM (kI .i64) (kI .i64) r5.2.fLeft), .blk [.lit (.int .i64 r5.2.fMost), .mp 0, .mp 1, .lit (.int .i64 r5.2.fAt), .lit (.bool r5.2.fGranted)]]⟩ (AWp.regG Try.tyOk hΓ [(57, true), (63, true)] (keep := [4]) (dead := [47, 8, 5, 1]) (by kernel_rfl) rfl (by simp [h27, h30, h31, h32, h33, h34])) ?_
              refine AWp.ret ?_
              obtain rfl := some_inj hr
              refine fin_ret ?_
              simp
            | false =>
              have hr := cond_f h32 hr
              refine AWp.then ⟨[⟨4, none, .lit (.bool false)⟩], [.mapo (encM (kI .i64) (kI .i64) r4.2.fShare), .mapo (encM (kI .i64) (kI .i64) r4.2.fLeft), .blk [.lit (.int .i64 r4.2.fMost), .mp 0, .mp 1, .lit (.int .i64 r4.2.fAt), .lit (.bool r4.2.fGranted)]]⟩ (AWp.regG Try.tyOk hΓ [(57, true), (63, false)] (keep := [4]) (dead := [47, 8, 5, 1]) (by kernel_rfl) rfl (by simp [h27, h30, h31, h32])) ?_
              refine AWp.ret ?_
              obtain rfl := some_inj hr
              refine fin_ret ?_
              simp
          | false =>
            have hr := cond_f h30 hr
            refine AWp.then ⟨[⟨4, none, .lit (.bool false)⟩], [.mapo (encM (kI .i64) (kI .i64) r3.2.fShare), .mapo (encM (kI .i64) (kI .i64) r3.2.fLeft), .blk [.lit (.int .i64 r3.2.fMost), .mp 0, .mp 1, .lit (.int .i64 r3.2.fAt), .lit (.bool r3.2.fGranted)]]⟩ (AWp.regG Try.tyOk hΓ [(57, false), (63, false)] (keep := [4]) (dead := [47, 8, 5, 1]) (by kernel_rfl) rfl (by simp [h27, h30])) ?_
            refine AWp.ret ?_
            obtain rfl := some_inj hr
            refine fin_ret ?_
            simp

@[simp] noncomputable def gLaw19DrrMay.S : Sp
  | [.lit (.int .i64 x0), .lit (.int .i64 x1)], _ => some { av := .lit (.bool ((gLaw19DrrMay x0 x1).getD dflt)), M := none, obl := (gLaw19DrrMay x0 x1).isSome = true }
  | _, _ => none

set_option maxHeartbeats 1000000 in
theorem gLaw19DrrMay.ok : SpecOk Try.prog 6 gLaw19DrrMay.S := by
  intro l M out h
  unfold gLaw19DrrMay.S at h
  split at h
  · rename_i x0 x1
    cases h
    refine callOk_of fun ho => ?_
    have hs := ho
    obtain ⟨r, hr⟩ := Option.isSome_iff_exists.1 hs
    simp only [hr, Option.getD_some]
    have q := call_frame (M := M) [] (gLaw19DrrMay.can x0 x1 r hr) (by simp) rfl (by intro k i hk; simp at hk)
    exact callOk_conv q trivial (by simp) (by simp [frameOut, gLaw19DrrMay.out]) (by simp [frameOut, gLaw19DrrMay.out])
  · cases h
end Go.Proofs

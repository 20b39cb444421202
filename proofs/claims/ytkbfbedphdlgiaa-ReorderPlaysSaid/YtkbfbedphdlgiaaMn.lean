/- That these functions compute what their plain functions do. No condition. -/
import Derived.Test.YtkbfbedphdlgiaaMnD
import Derived.Test.YtkbfbedphdlgiaaTy
namespace Go.Proofs
open Go.Ab
@[simp] def gSlicesMinInt64Int64.out (_x0 : List Int) (r : Int) : Out := { av := .lit (.int .i64 r), M := none }
def gSlicesMinInt64Int64.fin (x0 : List Int) (r : Int) (σ : St) : Prop := finK (gSlicesMinInt64Int64.out x0 r) [] σ.M (resA Try.ty σ.A σ.M Try.f36.results.toList)
set_option maxHeartbeats 4000000 in
set_option maxRecDepth 100000 in
theorem gSlicesMinInt64Int64.can (x0 : List Int) (r : Int) (hr : gSlicesMinInt64Int64 x0 = some r) : CallOk Try.prog 36 [.sl (x0.map (eNum .i64)) .no] [] (gSlicesMinInt64Int64.out x0 r) := by
  unfold gSlicesMinInt64Int64 at hr
  have hΓ := gamL_nil (P := Try.prog)
  refine call_of_awp Try.tyOk Try.func36 rfl (by kernel_rfl) rfl rfl (by simp) ?_
  intro _ _ _
  refine AWp.then ⟨[⟨0, none, .sl (x0.map (eNum .i64)) .no⟩], []⟩ (AWp.reg Try.tyOk hΓ (keep := []) (dead := []) (by kernel_rfl) rfl (by simp)) ?_
  refine AWp.meetF (fun (v1 : Unit) (γ1 : Unit) => ⟨[⟨0, none, .sl (x0.map (eNum .i64)) .no⟩], []⟩) (gSlicesMinInt64Int64.fin x0) hr (fun f hr => ?_) (fun v1 γ1 hr => ?_) (fun _ h => h)
  · refine AWp.then ⟨[⟨7, none, .lit (.bool (ltI (lenL x0) 1))⟩, ⟨0, none, .sl (x0.map (eNum .i64)) .no⟩], []⟩ (AWp.reg Try.tyOk hΓ (keep := [7]) (dead := []) (by kernel_rfl) rfl (by simp)) ?_
    refine AWp.cond (b := (ltI (lenL x0) 1)) (by simp) (fun h5 => ?_) (fun h5 => ?_)
    · have hr := cond_t h5 hr
      cases hr
    · have hr := cond_f h5 hr
      refine AWp.skip ?_
      obtain rfl := some_inj hr
      exact meet_go () 0 (by simp)
  · obtain ⟨h6, hr⟩ := need_some hr
    refine AWp.then ⟨[⟨3, none, .lit (.int .i64 (nthI x0 0))⟩, ⟨0, none, .sl (x0.map (eNum .i64)) .no⟩], []⟩ (AWp.reg Try.tyOk hΓ (keep := [3]) (dead := []) (by kernel_rfl) rfl (by simp [h6])) ?_
    refine AWp.seq ?_
    refine AWp.then ⟨[⟨4, none, .lit (.int .i64 1)⟩, ⟨3, none, .lit (.int .i64 (nthI x0 0))⟩, ⟨0, none, .sl (x0.map (eNum .i64)) .no⟩], []⟩ (AWp.reg Try.tyOk hΓ (keep := [4]) (dead := []) (by kernel_rfl) rfl (by simp)) ?_
    refine AWp.loopE (fun (s2 : Int × Int) (γ2 : Unit) => ⟨[⟨4, none, .lit (.int .i64 s2.1)⟩, ⟨3, none, .lit (.int .i64 s2.2)⟩, ⟨0, none, .sl (x0.map (eNum .i64)) .no⟩], []⟩) (fun (v2 : Int) (γ2a : Unit) => ⟨[⟨3, none, .lit (.int .i64 v2)⟩], []⟩) (gSlicesMinInt64Int64.fin x0) hr () 0 (by simp) (fun s2 f γ2 hr => ?_) (fun v2 γ2a σ1 m1 hr hc => ?_) (fun _ h => h)
    · unfold gSlicesMinInt64Int64.loop2 at hr
      refine AWp.seq ?_
      refine AWp.then ⟨[⟨15, none, .lit (.bool (ltI s2.1 (lenL x0)))⟩, ⟨4, none, .lit (.int .i64 s2.1)⟩, ⟨3, none, .lit (.int .i64 s2.2)⟩, ⟨0, none, .sl (x0.map (eNum .i64)) .no⟩], []⟩ (AWp.reg Try.tyOk hΓ (keep := [15]) (dead := []) (by kernel_rfl) rfl (by simp)) ?_
      refine AWp.cond (b := (ltI s2.1 (lenL x0))) (by simp) (fun h7 => ?_) (fun h7 => ?_)
      · have hr := cond_t h7 hr
        refine AWp.skip ?_
        refine AWp.seq ?_
        refine AWp.block ?_
        obtain ⟨h8, hr⟩ := need_some hr
        refine AWp.last ⟨[⟨3, none, .lit (.int .i64 (minI s2.2 (nthI x0 s2.1)))⟩, ⟨4, none, .lit (.int .i64 s2.1)⟩, ⟨0, none, .sl (x0.map (eNum .i64)) .no⟩], []⟩ (AWp.reg Try.tyOk hΓ (keep := [3]) (dead := [15]) (by kernel_rfl) rfl (by simp [h7, h8])) ?_
        refine AWp.last ⟨[⟨4, none, .lit (.int .i64 (addI .i64 s2.1 1))⟩, ⟨3, none, .lit (.int .i64 (minI s2.2 (nthI x0 s2.1)))⟩, ⟨0, none, .sl (x0.map (eNum .i64)) .no⟩], []⟩ (AWp.reg Try.tyOk hΓ (keep := [4]) (dead := []) (by kernel_rfl) rfl (by simp)) ?_
        obtain rfl := some_inj hr
        exact round_go () 0 (by simp)
      · have hr := cond_f h7 hr
        refine AWp.exit ?_
        obtain rfl := some_inj hr
        exact round_out () 0 (by simp)
    · refine AWp.conv hc ?_
      refine AWp.then ⟨[⟨2, none, .lit (.int .i64 v2)⟩], []⟩ (AWp.reg Try.tyOk hΓ (keep := [2]) (dead := [3]) (by kernel_rfl) rfl (by simp)) ?_
      refine AWp.ret ?_
      obtain rfl := some_inj hr
      refine fin_ret ?_
      simp

@[simp] noncomputable def gSlicesMinInt64Int64.S : Sp
  | [.sl e0 _], _ => some { av := .lit (.int .i64 ((gSlicesMinInt64Int64 (e0.map decI)).getD dflt)), M := none, obl := e0 = (e0.map decI).map (eNum .i64) ∧ (gSlicesMinInt64Int64 (e0.map decI)).isSome = true }
  | _, _ => none

set_option maxHeartbeats 1000000 in
theorem gSlicesMinInt64Int64.ok : SpecOk Try.prog 36 gSlicesMinInt64Int64.S := by
  intro l M out h
  unfold gSlicesMinInt64Int64.S at h
  split at h
  · rename_i e0 k0
    cases h
    refine callOk_of fun ho => ?_
    obtain ⟨ox0, hs⟩ := ho
    generalize (e0.map decI) = x0 at *
    subst ox0
    obtain ⟨r, hr⟩ := Option.isSome_iff_exists.1 hs
    simp only [hr, Option.getD_some]
    have q := call_frame (M := M) [] (gSlicesMinInt64Int64.can x0 r hr) (by simp) rfl (by intro k i hk; simp at hk)
    exact callOk_conv q trivial (by simp) (by simp [frameOut, gSlicesMinInt64Int64.out]) (by simp [frameOut, gSlicesMinInt64Int64.out])
  · cases h
end Go.Proofs

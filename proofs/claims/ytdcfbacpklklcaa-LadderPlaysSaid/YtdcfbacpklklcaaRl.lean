/- That these functions compute what their plain functions do. No condition. -/
import Derived.Test.YtdcfbacpklklcaaRlD
import Derived.Test.YtdcfbacpklklcaaTy
namespace Go.Proofs
open Go.Ab
@[simp] def gRef23Bad.out (_x0 : Antiphonref23Ladder) (_x1 : Int) (r : Bool) : Out := { av := .lit (.bool r), M := none }
def gRef23Bad.fin (x0 : Antiphonref23Ladder) (x1 : Int) (r : Bool) (σ : St) : Prop := finK (gRef23Bad.out x0 x1 r) [] σ.M (resA Try.ty σ.A σ.M Try.f36.results.toList)
set_option maxHeartbeats 4000000 in
set_option maxRecDepth 100000 in
theorem gRef23Bad.can (x0 : Antiphonref23Ladder) (x1 : Int) (r : Bool) (hr : gRef23Bad x0 x1 = some r) : CallOk Try.prog 36 [.agg [.lit (.int .i64 x0.fDown), .lit (.int .i64 x0.fUp), .lit (.int .i64 x0.fSpare), .sl (x0.fNeeds.map (encI .i64)) .no, .lit (.int .i64 x0.fAt), .lit (.int .i64 x0.fMost), .lit (.int .i64 x0.fMoves), .sl (x0.fRates.map (encI .i64)) .no], .lit (.int .i64 x1)] [] (gRef23Bad.out x0 x1 r) := by
  unfold gRef23Bad at hr
  have hΓ := gamL_nil (P := Try.prog)
  refine call_of_awp Try.tyOk Try.func36 rfl (by kernel_rfl) rfl rfl (by simp) ?_
  intro _ _ _
  refine AWp.then ⟨[⟨2, none, .ptr 0 0⟩, ⟨1, none, .lit (.int .i64 x1)⟩], [.blk [.lit (.int .i64 x0.fDown), .lit (.int .i64 x0.fUp), .lit (.int .i64 x0.fSpare), .sl (x0.fNeeds.map (encI .i64)) .no, .lit (.int .i64 x0.fAt), .lit (.int .i64 x0.fMost), .lit (.int .i64 x0.fMoves), .sl (x0.fRates.map (encI .i64)) .no]]⟩ (AWp.reg Try.tyOk hΓ (keep := [2]) (dead := [0]) (by kernel_rfl) rfl (by simp)) ?_
  obtain ⟨h2, hr⟩ := need_some hr
  refine AWp.then ⟨[⟨4, none, .lit (.bool (pickB (ltI 0 x0.fAt) (ltI x1 (nthI x0.fNeeds x0.fAt)) false))⟩], [.blk [.lit (.int .i64 x0.fDown), .lit (.int .i64 x0.fUp), .lit (.int .i64 x0.fSpare), .sl (x0.fNeeds.map (encI .i64)) .no, .lit (.int .i64 x0.fAt), .lit (.int .i64 x0.fMost), .lit (.int .i64 x0.fMoves), .sl (x0.fRates.map (encI .i64)) .no]]⟩ (AWp.reg Try.tyOk hΓ (keep := [4]) (dead := [2, 1]) (by kernel_rfl) rfl (by simp [h2])) ?_
  refine AWp.ret ?_
  obtain rfl := some_inj hr
  refine fin_ret ?_
  simp

@[simp] noncomputable def gRef23Bad.S : Sp
  | [.agg e0, .lit (.int .i64 x1)], _ => some { av := .lit (.bool ((gRef23Bad (Antiphonref23Ladder.dec e0) x1).getD dflt)), M := none, obl := WeakL e0 (Antiphonref23Ladder.enc (Antiphonref23Ladder.dec e0)) ∧ (gRef23Bad (Antiphonref23Ladder.dec e0) x1).isSome = true }
  | _, _ => none

set_option maxHeartbeats 1000000 in
theorem gRef23Bad.ok : SpecOk Try.prog 36 gRef23Bad.S := by
  intro l M out h
  unfold gRef23Bad.S at h
  split at h
  · rename_i e0 x1
    cases h
    refine callOk_of fun ho => ?_
    obtain ⟨ox0, hs⟩ := ho
    generalize (Antiphonref23Ladder.dec e0) = x0 at *
    obtain ⟨r, hr⟩ := Option.isSome_iff_exists.1 hs
    simp only [hr, Option.getD_some]
    have q := call_frame (M := M) [] (gRef23Bad.can x0 x1 r hr) (by simp) rfl (by intro k i hk; simp at hk)
    exact callOk_conv q trivial (by simp; exact ox0) (by simp [frameOut, gRef23Bad.out]) (by simp [frameOut, gRef23Bad.out])
  · cases h

@[simp] def gRef23Good.out (_x0 : Antiphonref23Ladder) (_x1 : Int) (r : Bool) : Out := { av := .lit (.bool r), M := none }
def gRef23Good.fin (x0 : Antiphonref23Ladder) (x1 : Int) (r : Bool) (σ : St) : Prop := finK (gRef23Good.out x0 x1 r) [] σ.M (resA Try.ty σ.A σ.M Try.f35.results.toList)
set_option maxHeartbeats 4000000 in
set_option maxRecDepth 100000 in
theorem gRef23Good.can (x0 : Antiphonref23Ladder) (x1 : Int) (r : Bool) (hr : gRef23Good x0 x1 = some r) : CallOk Try.prog 35 [.agg [.lit (.int .i64 x0.fDown), .lit (.int .i64 x0.fUp), .lit (.int .i64 x0.fSpare), .sl (x0.fNeeds.map (encI .i64)) .no, .lit (.int .i64 x0.fAt), .lit (.int .i64 x0.fMost), .lit (.int .i64 x0.fMoves), .sl (x0.fRates.map (encI .i64)) .no], .lit (.int .i64 x1)] [] (gRef23Good.out x0 x1 r) := by
  unfold gRef23Good at hr
  have hΓ := (gamL_cons gRef23Bad.ok (gamL_nil) : GamOk Try.prog _)
  refine call_of_awp Try.tyOk Try.func35 rfl (by kernel_rfl) rfl rfl (by simp) ?_
  intro _ _ _
  refine AWp.then ⟨[⟨2, none, .ptr 0 0⟩, ⟨1, none, .lit (.int .i64 x1)⟩], [.blk [.lit (.int .i64 x0.fDown), .lit (.int .i64 x0.fUp), .lit (.int .i64 x0.fSpare), .sl (x0.fNeeds.map (encI .i64)) .no, .lit (.int .i64 x0.fAt), .lit (.int .i64 x0.fMost), .lit (.int .i64 x0.fMoves), .sl (x0.fRates.map (encI .i64)) .no]]⟩ (AWp.reg Try.tyOk hΓ (keep := [2]) (dead := [0]) (by kernel_rfl) rfl (by simp)) ?_
  refine AWp.seq ?_
  obtain ⟨r1, h5, hr⟩ := bind_some' hr
  refine AWp.then ⟨[⟨15, none, .lit (.bool (pickB r1 true (leI x0.fMost x0.fAt)))⟩, ⟨2, none, .ptr 0 0⟩, ⟨1, none, .lit (.int .i64 x1)⟩], [.blk [.lit (.int .i64 x0.fDown), .lit (.int .i64 x0.fUp), .lit (.int .i64 x0.fSpare), .sl (x0.fNeeds.map (encI .i64)) .no, .lit (.int .i64 x0.fAt), .lit (.int .i64 x0.fMost), .lit (.int .i64 x0.fMoves), .sl (x0.fRates.map (encI .i64)) .no]]⟩ (AWp.reg Try.tyOk hΓ (keep := [15]) (dead := []) (by kernel_rfl) rfl (by simp [h5])) ?_
  refine AWp.cond (b := (pickB r1 true (leI x0.fMost x0.fAt))) (by simp) (fun h6 => ?_) (fun h6 => ?_)
  · have hr := cond_t h6 hr
    refine AWp.then ⟨[⟨4, none, .lit (.bool false)⟩], [.blk [.lit (.int .i64 x0.fDown), .lit (.int .i64 x0.fUp), .lit (.int .i64 x0.fSpare), .sl (x0.fNeeds.map (encI .i64)) .no, .lit (.int .i64 x0.fAt), .lit (.int .i64 x0.fMost), .lit (.int .i64 x0.fMoves), .sl (x0.fRates.map (encI .i64)) .no]]⟩ (AWp.reg Try.tyOk hΓ (keep := [4]) (dead := [15, 2, 1]) (by kernel_rfl) rfl (by simp [h6])) ?_
    refine AWp.ret ?_
    obtain rfl := some_inj hr
    refine fin_ret ?_
    simp
  · have hr := cond_f h6 hr
    refine AWp.skip ?_
    obtain ⟨h7, hr⟩ := need_some hr
    refine AWp.then ⟨[⟨5, none, .lit (.int .i64 (nthI x0.fNeeds (addI .i64 x0.fAt 1)))⟩, ⟨2, none, .ptr 0 0⟩, ⟨1, none, .lit (.int .i64 x1)⟩], [.blk [.lit (.int .i64 x0.fDown), .lit (.int .i64 x0.fUp), .lit (.int .i64 x0.fSpare), .sl (x0.fNeeds.map (encI .i64)) .no, .lit (.int .i64 x0.fAt), .lit (.int .i64 x0.fMost), .lit (.int .i64 x0.fMoves), .sl (x0.fRates.map (encI .i64)) .no]]⟩ (AWp.reg Try.tyOk hΓ (keep := [5]) (dead := [15]) (by kernel_rfl) rfl (by simp [h6, h7])) ?_
    obtain ⟨h8, hr⟩ := need_some hr
    refine AWp.then ⟨[⟨4, none, .lit (.bool (leI (addI .i64 (nthI x0.fNeeds (addI .i64 x0.fAt 1)) (mulI .i64 (quoI .i64 (nthI x0.fNeeds (addI .i64 x0.fAt 1)) 10) x0.fSpare)) x1))⟩], [.blk [.lit (.int .i64 x0.fDown), .lit (.int .i64 x0.fUp), .lit (.int .i64 x0.fSpare), .sl (x0.fNeeds.map (encI .i64)) .no, .lit (.int .i64 x0.fAt), .lit (.int .i64 x0.fMost), .lit (.int .i64 x0.fMoves), .sl (x0.fRates.map (encI .i64)) .no]]⟩ (AWp.reg Try.tyOk hΓ (keep := [4]) (dead := [5, 2, 1]) (by kernel_rfl) rfl (by simp [h8])) ?_
    refine AWp.ret ?_
    obtain rfl := some_inj hr
    refine fin_ret ?_
    simp

@[simp] noncomputable def gRef23Good.S : Sp
  | [.agg e0, .lit (.int .i64 x1)], _ => some { av := .lit (.bool ((gRef23Good (Antiphonref23Ladder.dec e0) x1).getD dflt)), M := none, obl := WeakL e0 (Antiphonref23Ladder.enc (Antiphonref23Ladder.dec e0)) ∧ (gRef23Good (Antiphonref23Ladder.dec e0) x1).isSome = true }
  | _, _ => none

set_option maxHeartbeats 1000000 in
theorem gRef23Good.ok : SpecOk Try.prog 35 gRef23Good.S := by
  intro l M out h
  unfold gRef23Good.S at h
  split at h
  · rename_i e0 x1
    cases h
    refine callOk_of fun ho => ?_
    obtain ⟨ox0, hs⟩ := ho
    generalize (Antiphonref23Ladder.dec e0) = x0 at *
    obtain ⟨r, hr⟩ := Option.isSome_iff_exists.1 hs
    simp only [hr, Option.getD_some]
    have q := call_frame (M := M) [] (gRef23Good.can x0 x1 r hr) (by simp) rfl (by intro k i hk; simp at hk)
    exact callOk_conv q trivial (by simp; exact ox0) (by simp [frameOut, gRef23Good.out]) (by simp [frameOut, gRef23Good.out])
  · cases h

@[simp] def gRef23Tail.out (_x0 : Antiphonref23Ladder) (_x1 : Bool) (r : Int) : Out := { av := .lit (.int .i64 r), M := none }
def gRef23Tail.fin (x0 : Antiphonref23Ladder) (x1 : Bool) (r : Int) (σ : St) : Prop := finK (gRef23Tail.out x0 x1 r) [] σ.M (resA Try.ty σ.A σ.M Try.f32.results.toList)
set_option maxHeartbeats 4000000 in
set_option maxRecDepth 100000 in
theorem gRef23Tail.can (x0 : Antiphonref23Ladder) (x1 : Bool) (r : Int) (hr : gRef23Tail x0 x1 = some r) : CallOk Try.prog 32 [.agg [.lit (.int .i64 x0.fDown), .lit (.int .i64 x0.fUp), .lit (.int .i64 x0.fSpare), .sl (x0.fNeeds.map (encI .i64)) .no, .lit (.int .i64 x0.fAt), .lit (.int .i64 x0.fMost), .lit (.int .i64 x0.fMoves), .sl (x0.fRates.map (encI .i64)) .no], .lit (.bool x1)] [] (gRef23Tail.out x0 x1 r) := by
  unfold gRef23Tail at hr
  have hΓ := (gamL_cons gRef23Bad.ok (gamL_cons gRef23Good.ok (gamL_nil)) : GamOk Try.prog _)
  refine call_of_awp Try.tyOk Try.func32 rfl (by kernel_rfl) rfl rfl (by simp) ?_
  intro _ _ _
  refine AWp.then ⟨[⟨2, none, .ptr 0 0⟩, ⟨1, none, .lit (.bool x1)⟩], [.blk [.lit (.int .i64 x0.fDown), .lit (.int .i64 x0.fUp), .lit (.int .i64 x0.fSpare), .sl (x0.fNeeds.map (encI .i64)) .no, .lit (.int .i64 x0.fAt), .lit (.int .i64 x0.fMost), .lit (.int .i64 x0.fMoves), .sl (x0.fRates.map (encI .i64)) .no]]⟩ (AWp.reg Try.tyOk hΓ (keep := [2]) (dead := [0]) (by kernel_rfl) rfl (by simp)) ?_
  refine AWp.then ⟨[⟨5, none, .lit (.int .i64 0)⟩, ⟨2, none, .ptr 0 0⟩, ⟨1, none, .lit (.bool x1)⟩], [.blk [.lit (.int .i64 x0.fDown), .lit (.int .i64 x0.fUp), .lit (.int .i64 x0.fSpare), .sl (x0.fNeeds.map (encI .i64)) .no, .lit (.int .i64 x0.fAt), .lit (.int .i64 x0.fMost), .lit (.int .i64 x0.fMoves), .sl (x0.fRates.map (encI .i64)) .no]]⟩ (AWp.reg Try.tyOk hΓ (keep := [5]) (dead := []) (by kernel_rfl) rfl (by simp)) ?_
  refine AWp.seq ?_
  refine AWp.then ⟨[⟨6, none, .lit (.int .i64 (subI .i64 (lenL x0.fRates) 1))⟩, ⟨5, none, .lit (.int .i64 0)⟩, ⟨2, none, .ptr 0 0⟩, ⟨1, none, .lit (.bool x1)⟩], [.blk [.lit (.int .i64 x0.fDown), .lit (.int .i64 x0.fUp), .lit (.int .i64 x0.fSpare), .sl (x0.fNeeds.map (encI .i64)) .no, .lit (.int .i64 x0.fAt), .lit (.int .i64 x0.fMost), .lit (.int .i64 x0.fMoves), .sl (x0.fRates.map (encI .i64)) .no]]⟩ (AWp.reg Try.tyOk hΓ (keep := [6]) (dead := []) (by kernel_rfl) rfl (by simp)) ?_
  refine AWp.loopE (fun (s1 : Int × Int) (γ1 : Unit) => ⟨[⟨6, none, .lit (.int .i64 s1.1)⟩, ⟨5, none, .lit (.int .i64 s1.2)⟩, ⟨2, none, .ptr 0 0⟩, ⟨1, none, .lit (.bool x1)⟩], [.blk [.lit (.int .i64 x0.fDown), .lit (.int .i64 x0.fUp), .lit (.int .i64 x0.fSpare), .sl (x0.fNeeds.map (encI .i64)) .no, .lit (.int .i64 x0.fAt), .lit (.int .i64 x0.fMost), .lit (.int .i64 x0.fMoves), .sl (x0.fRates.map (encI .i64)) .no]]⟩) (fun (v1 : Int) (γ1a : Unit) => ⟨[⟨5, none, .lit (.int .i64 v1)⟩], [.blk [.lit (.int .i64 x0.fDown), .lit (.int .i64 x0.fUp), .lit (.int .i64 x0.fSpare), .sl (x0.fNeeds.map (encI .i64)) .no, .lit (.int .i64 x0.fAt), .lit (.int .i64 x0.fMost), .lit (.int .i64 x0.fMoves), .sl (x0.fRates.map (encI .i64)) .no]]⟩) (gRef23Tail.fin x0 x1) hr () 1 (by simp) (fun s1 f γ1 hr => ?_) (fun v1 γ1a σ1 m1 hr hc => ?_) (fun _ h => h)
  · unfold gRef23Tail.loop1 at hr
    refine AWp.seq ?_
    refine AWp.then ⟨[⟨12, none, .lit (.bool (leI 0 s1.1))⟩, ⟨6, none, .lit (.int .i64 s1.1)⟩, ⟨5, none, .lit (.int .i64 s1.2)⟩, ⟨2, none, .ptr 0 0⟩, ⟨1, none, .lit (.bool x1)⟩], [.blk [.lit (.int .i64 x0.fDown), .lit (.int .i64 x0.fUp), .lit (.int .i64 x0.fSpare), .sl (x0.fNeeds.map (encI .i64)) .no, .lit (.int .i64 x0.fAt), .lit (.int .i64 x0.fMost), .lit (.int .i64 x0.fMoves), .sl (x0.fRates.map (encI .i64)) .no]]⟩ (AWp.reg Try.tyOk hΓ (keep := [12]) (dead := []) (by kernel_rfl) rfl (by simp)) ?_
    refine AWp.cond (b := (leI 0 s1.1)) (by simp) (fun h7 => ?_) (fun h7 => ?_)
    · have hr := cond_t h7 hr
      refine AWp.skip ?_
      refine AWp.seq ?_
      refine AWp.block ?_
      refine AWp.seq ?_
      obtain ⟨h8, hr⟩ := need_some hr
      obtain ⟨h9, hr⟩ := need_some hr
      obtain ⟨h10, hr⟩ := need_some hr
      obtain ⟨h11, hr⟩ := need_some hr
      refine AWp.then ⟨[⟨39, none, .lit (.bool (pickB (pickB x1 (notB ((gRef23Good x0 (nthI x0.fRates s1.1)).getD dflt)) false) true (pickB (notB x1) (notB ((gRef23Bad x0 (nthI x0.fRates s1.1)).getD dflt)) false)))⟩, ⟨6, none, .lit (.int .i64 s1.1)⟩, ⟨5, none, .lit (.int .i64 s1.2)⟩, ⟨2, none, .ptr 0 0⟩, ⟨1, none, .lit (.bool x1)⟩], [.blk [.lit (.int .i64 x0.fDown), .lit (.int .i64 x0.fUp), .lit (.int .i64 x0.fSpare), .sl (x0.fNeeds.map (encI .i64)) .no, .lit (.int .i64 x0.fAt), .lit (.int .i64 x0.fMost), .lit (.int .i64 x0.fMoves), .sl (x0.fRates.map (encI .i64)) .no]]⟩ (AWp.regD Try.mixed Try.tyOk hΓ (keep := [39]) (dead := [12]) [] [(false, []), (false, []), (false, [16]), (false, [16]), (false, [16]), (false, [16]), (false, [16]), (false, [16]), (false, [16]), (false, [16]), (false, []), (false, []), (false, [26]), (false, [26]), (false, [26]), (false, [29, 26]), (false, [29, 26]), (false, [29, 26]), (false, [29, 26]), (false, [29, 26]), (false, [29, 26]), (false, [29, 26]), (false, [29, 26]), (false, [26]), (false, [])] (by kernel_rfl) rfl (by simp [h7, h8, h9, h10, h11])) ?_
      refine AWp.cond (b := (pickB (pickB x1 (notB ((gRef23Good x0 (nthI x0.fRates s1.1)).getD dflt)) false) true (pickB (notB x1) (notB ((gRef23Bad x0 (nthI x0.fRates s1.1)).getD dflt)) false))) (by simp) (fun h12 => ?_) (fun h12 => ?_)
      · have hr := cond_t h12 hr
        refine AWp.then ⟨[⟨4, none, .lit (.int .i64 s1.2)⟩], [.blk [.lit (.int .i64 x0.fDown), .lit (.int .i64 x0.fUp), .lit (.int .i64 x0.fSpare), .sl (x0.fNeeds.map (encI .i64)) .no, .lit (.int .i64 x0.fAt), .lit (.int .i64 x0.fMost), .lit (.int .i64 x0.fMoves), .sl (x0.fRates.map (encI .i64)) .no]]⟩ (AWp.reg Try.tyOk hΓ (keep := [4]) (dead := [39, 6, 5, 2, 1]) (by kernel_rfl) rfl (by simp [h12])) ?_
        refine AWp.ret ?_
        obtain rfl := some_inj hr
        refine round_ret ?_
        refine fin_ret ?_
        simp
      · have hr := cond_f h12 hr
        refine AWp.skip ?_
        refine AWp.last ⟨[⟨5, none, .lit (.int .i64 (addI .i64 s1.2 1))⟩, ⟨6, none, .lit (.int .i64 s1.1)⟩, ⟨2, none, .ptr 0 0⟩, ⟨1, none, .lit (.bool x1)⟩], [.blk [.lit (.int .i64 x0.fDown), .lit (.int .i64 x0.fUp), .lit (.int .i64 x0.fSpare), .sl (x0.fNeeds.map (encI .i64)) .no, .lit (.int .i64 x0.fAt), .lit (.int .i64 x0.fMost), .lit (.int .i64 x0.fMoves), .sl (x0.fRates.map (encI .i64)) .no]]⟩ (AWp.reg Try.tyOk hΓ (keep := [5]) (dead := [39]) (by kernel_rfl) rfl (by simp [h12])) ?_
        refine AWp.last ⟨[⟨6, none, .lit (.int .i64 (subI .i64 s1.1 1))⟩, ⟨5, none, .lit (.int .i64 (addI .i64 s1.2 1))⟩, ⟨2, none, .ptr 0 0⟩, ⟨1, none, .lit (.bool x1)⟩], [.blk [.lit (.int .i64 x0.fDown), .lit (.int .i64 x0.fUp), .lit (.int .i64 x0.fSpare), .sl (x0.fNeeds.map (encI .i64)) .no, .lit (.int .i64 x0.fAt), .lit (.int .i64 x0.fMost), .lit (.int .i64 x0.fMoves), .sl (x0.fRates.map (encI .i64)) .no]]⟩ (AWp.reg Try.tyOk hΓ (keep := [6]) (dead := []) (by kernel_rfl) rfl (by simp)) ?_
        obtain rfl := some_inj hr
        exact round_go () 1 (by simp)
    · have hr := cond_f h7 hr
      refine AWp.exit ?_
      obtain rfl := some_inj hr
      exact round_out () 1 (by simp)
  · refine AWp.conv hc ?_
    refine AWp.then ⟨[⟨4, none, .lit (.int .i64 v1)⟩], [.blk [.lit (.int .i64 x0.fDown), .lit (.int .i64 x0.fUp), .lit (.int .i64 x0.fSpare), .sl (x0.fNeeds.map (encI .i64)) .no, .lit (.int .i64 x0.fAt), .lit (.int .i64 x0.fMost), .lit (.int .i64 x0.fMoves), .sl (x0.fRates.map (encI .i64)) .no]]⟩ (AWp.reg Try.tyOk hΓ (keep := [4]) (dead := [5]) (by kernel_rfl) rfl (by simp)) ?_
    refine AWp.ret ?_
    obtain rfl := some_inj hr
    refine fin_ret ?_
    simp

@[simp] noncomputable def gRef23Tail.S : Sp
  | [.agg e0, .lit (.bool x1)], _ => some { av := .lit (.int .i64 ((gRef23Tail (Antiphonref23Ladder.dec e0) x1).getD dflt)), M := none, obl := WeakL e0 (Antiphonref23Ladder.enc (Antiphonref23Ladder.dec e0)) ∧ (gRef23Tail (Antiphonref23Ladder.dec e0) x1).isSome = true }
  | _, _ => none

set_option maxHeartbeats 1000000 in
theorem gRef23Tail.ok : SpecOk Try.prog 32 gRef23Tail.S := by
  intro l M out h
  unfold gRef23Tail.S at h
  split at h
  · rename_i e0 x1
    cases h
    refine callOk_of fun ho => ?_
    obtain ⟨ox0, hs⟩ := ho
    generalize (Antiphonref23Ladder.dec e0) = x0 at *
    obtain ⟨r, hr⟩ := Option.isSome_iff_exists.1 hs
    simp only [hr, Option.getD_some]
    have q := call_frame (M := M) [] (gRef23Tail.can x0 x1 r hr) (by simp) rfl (by intro k i hk; simp at hk)
    exact callOk_conv q trivial (by simp; exact ox0) (by simp [frameOut, gRef23Tail.out]) (by simp [frameOut, gRef23Tail.out])
  · cases h

@[simp] def gRef23Step.out (_x0 : Antiphonref23Ladder) (_x1 : Int) (r : Antiphonref23Ladder) : Out := { av := .agg [.lit (.int .i64 r.fDown), .lit (.int .i64 r.fUp), .lit (.int .i64 r.fSpare), .sl (r.fNeeds.map (encI .i64)) .no, .lit (.int .i64 r.fAt), .lit (.int .i64 r.fMost), .lit (.int .i64 r.fMoves), .sl (r.fRates.map (encI .i64)) .no], M := none }
def gRef23Step.fin (x0 : Antiphonref23Ladder) (x1 : Int) (r : Antiphonref23Ladder) (σ : St) : Prop := finK (gRef23Step.out x0 x1 r) [] σ.M (resA Try.ty σ.A σ.M Try.f33.results.toList)
set_option maxHeartbeats 4000000 in
set_option maxRecDepth 100000 in
theorem gRef23Step.can (x0 : Antiphonref23Ladder) (x1 : Int) (r : Antiphonref23Ladder) (hr : gRef23Step x0 x1 = some r) : CallOk Try.prog 33 [.agg [.lit (.int .i64 x0.fDown), .lit (.int .i64 x0.fUp), .lit (.int .i64 x0.fSpare), .sl (x0.fNeeds.map (encI .i64)) .no, .lit (.int .i64 x0.fAt), .lit (.int .i64 x0.fMost), .lit (.int .i64 x0.fMoves), .sl (x0.fRates.map (encI .i64)) .no], .lit (.int .i64 x1)] [] (gRef23Step.out x0 x1 r) := by
  unfold gRef23Step at hr
  have hΓ := gamL_nil (P := Try.prog)
  refine call_of_awp Try.tyOk Try.func33 rfl (by kernel_rfl) rfl rfl (by simp) ?_
  intro _ _ _
  refine AWp.then ⟨[⟨2, none, .ptr 0 0⟩, ⟨4, none, .ptr 1 0⟩, ⟨1, none, .lit (.int .i64 x1)⟩], [.blk [.lit (.int .i64 x0.fDown), .lit (.int .i64 x0.fUp), .lit (.int .i64 x0.fSpare), .sl (x0.fNeeds.map (encI .i64)) .no, .lit (.int .i64 x0.fAt), .lit (.int .i64 x0.fMost), .lit (.int .i64 x0.fMoves), .sl (x0.fRates.map (encI .i64)) .no], .blk [.lit (.int .i64 0), .lit (.int .i64 0), .lit (.int .i64 0), .sl [] .full, .lit (.int .i64 0), .lit (.int .i64 0), .lit (.int .i64 0), .sl [] .full]]⟩ (AWp.reg Try.tyOk hΓ (keep := [2, 4]) (dead := [0]) (by kernel_rfl) rfl (by simp)) ?_
  refine AWp.then ⟨[⟨2, none, .ptr 0 0⟩, ⟨4, none, .ptr 1 0⟩], [.blk [.lit (.int .i64 x0.fDown), .lit (.int .i64 x0.fUp), .lit (.int .i64 x0.fSpare), .sl (x0.fNeeds.map (encI .i64)) .no, .lit (.int .i64 x1), .lit (.int .i64 x0.fMost), .lit (.int .i64 x0.fMoves), .sl (x0.fRates.map (encI .i64)) .no], .blk [.lit (.int .i64 0), .lit (.int .i64 0), .lit (.int .i64 0), .sl [] .full, .lit (.int .i64 0), .lit (.int .i64 0), .lit (.int .i64 0), .sl [] .full]]⟩ (AWp.reg Try.tyOk hΓ (keep := []) (dead := [1]) (by kernel_rfl) rfl (by simp)) ?_
  refine AWp.then ⟨[⟨2, none, .ptr 0 0⟩, ⟨4, none, .ptr 1 0⟩], [.blk [.lit (.int .i64 x0.fDown), .lit (.int .i64 x0.fUp), .lit (.int .i64 x0.fSpare), .sl (x0.fNeeds.map (encI .i64)) .no, .lit (.int .i64 x1), .lit (.int .i64 x0.fMost), .lit (.int .i64 x0.fMoves), .sl [] .full], .blk [.lit (.int .i64 0), .lit (.int .i64 0), .lit (.int .i64 0), .sl [] .full, .lit (.int .i64 0), .lit (.int .i64 0), .lit (.int .i64 0), .sl [] .full]]⟩ (AWp.reg Try.tyOk hΓ (keep := []) (dead := []) (by kernel_rfl) rfl (by simp)) ?_
  refine AWp.then ⟨[⟨2, none, .ptr 0 0⟩, ⟨4, none, .ptr 1 0⟩], [.blk [.lit (.int .i64 x0.fDown), .lit (.int .i64 x0.fUp), .lit (.int .i64 x0.fSpare), .sl (x0.fNeeds.map (encI .i64)) .no, .lit (.int .i64 x1), .lit (.int .i64 x0.fMost), .lit (.int .i64 (addI .i64 x0.fMoves 1)), .sl [] .full], .blk [.lit (.int .i64 0), .lit (.int .i64 0), .lit (.int .i64 0), .sl [] .full, .lit (.int .i64 0), .lit (.int .i64 0), .lit (.int .i64 0), .sl [] .full]]⟩ (AWp.reg Try.tyOk hΓ (keep := []) (dead := []) (by kernel_rfl) rfl (by simp)) ?_
  refine AWp.then ⟨[⟨4, none, .ptr 1 0⟩], [.blk [.lit (.int .i64 x0.fDown), .lit (.int .i64 x0.fUp), .lit (.int .i64 x0.fSpare), .sl (x0.fNeeds.map (encI .i64)) .no, .lit (.int .i64 x1), .lit (.int .i64 x0.fMost), .lit (.int .i64 (addI .i64 x0.fMoves 1)), .sl [] .full], .blk [.lit (.int .i64 x0.fDown), .lit (.int .i64 x0.fUp), .lit (.int .i64 x0.fSpare), .sl (x0.fNeeds.map (encI .i64)) .no, .lit (.int .i64 x1), .lit (.int .i64 x0.fMost), .lit (.int .i64 (addI .i64 x0.fMoves 1)), .sl [] .full]]⟩ (AWp.reg Try.tyOk hΓ (keep := []) (dead := [2]) (by kernel_rfl) rfl (by simp)) ?_
  refine AWp.ret ?_
  obtain rfl := some_inj hr
  refine fin_ret ?_
  simp

@[simp] noncomputable def gRef23Step.S : Sp
  | [.agg e0, .lit (.int .i64 x1)], _ => some { av := .agg [.lit (.int .i64 (((gRef23Step (Antiphonref23Ladder.dec e0) x1).getD dflt).fDown)), .lit (.int .i64 (((gRef23Step (Antiphonref23Ladder.dec e0) x1).getD dflt).fUp)), .lit (.int .i64 (((gRef23Step (Antiphonref23Ladder.dec e0) x1).getD dflt).fSpare)), .sl ((((gRef23Step (Antiphonref23Ladder.dec e0) x1).getD dflt).fNeeds).map (encI .i64)) .no, .lit (.int .i64 (((gRef23Step (Antiphonref23Ladder.dec e0) x1).getD dflt).fAt)), .lit (.int .i64 (((gRef23Step (Antiphonref23Ladder.dec e0) x1).getD dflt).fMost)), .lit (.int .i64 (((gRef23Step (Antiphonref23Ladder.dec e0) x1).getD dflt).fMoves)), .sl ((((gRef23Step (Antiphonref23Ladder.dec e0) x1).getD dflt).fRates).map (encI .i64)) .no], M := none, obl := WeakL e0 (Antiphonref23Ladder.enc (Antiphonref23Ladder.dec e0)) ∧ (gRef23Step (Antiphonref23Ladder.dec e0) x1).isSome = true }
  | _, _ => none

set_option maxHeartbeats 1000000 in
theorem gRef23Step.ok : SpecOk Try.prog 33 gRef23Step.S := by
  intro l M out h
  unfold gRef23Step.S at h
  split at h
  · rename_i e0 x1
    cases h
    refine callOk_of fun ho => ?_
    obtain ⟨ox0, hs⟩ := ho
    generalize (Antiphonref23Ladder.dec e0) = x0 at *
    obtain ⟨r, hr⟩ := Option.isSome_iff_exists.1 hs
    simp only [hr, Option.getD_some]
    have q := call_frame (M := M) [] (gRef23Step.can x0 x1 r hr) (by simp) rfl (by intro k i hk; simp at hk)
    exact callOk_conv q trivial (by simp; exact ox0) (by simp [frameOut, gRef23Step.out]) (by simp [frameOut, gRef23Step.out])
  · cases h

@[simp] def gRef23Tick.out (_x0 : Antiphonref23Ladder) (_x1 : Int) (r : Antiphonref23Ladder × Bool) : Out := { av := .tup [.agg [.lit (.int .i64 r.1.fDown), .lit (.int .i64 r.1.fUp), .lit (.int .i64 r.1.fSpare), .sl (r.1.fNeeds.map (encI .i64)) .no, .lit (.int .i64 r.1.fAt), .lit (.int .i64 r.1.fMost), .lit (.int .i64 r.1.fMoves), .sl (r.1.fRates.map (encI .i64)) .no], .lit (.bool r.2)], M := none }
def gRef23Tick.fin (x0 : Antiphonref23Ladder) (x1 : Int) (r : Antiphonref23Ladder × Bool) (σ : St) : Prop := finK (gRef23Tick.out x0 x1 r) [] σ.M (resA Try.ty σ.A σ.M Try.f20.results.toList)
set_option maxHeartbeats 4000000 in
set_option maxRecDepth 100000 in
theorem gRef23Tick.can (x0 : Antiphonref23Ladder) (x1 : Int) (r : Antiphonref23Ladder × Bool) (hr : gRef23Tick x0 x1 = some r) : CallOk Try.prog 20 [.agg [.lit (.int .i64 x0.fDown), .lit (.int .i64 x0.fUp), .lit (.int .i64 x0.fSpare), .sl (x0.fNeeds.map (encI .i64)) .no, .lit (.int .i64 x0.fAt), .lit (.int .i64 x0.fMost), .lit (.int .i64 x0.fMoves), .sl (x0.fRates.map (encI .i64)) .no], .lit (.int .i64 x1)] [] (gRef23Tick.out x0 x1 r) := by
  unfold gRef23Tick at hr
  have hΓ := (gamL_cons gRef23Step.ok (gamL_cons gRef23Tail.ok (gamL_nil)) : GamOk Try.prog _)
  refine call_of_awp Try.tyOk Try.func20 rfl (by kernel_rfl) rfl rfl (by simp) ?_
  intro _ _ _
  refine AWp.then ⟨[⟨2, none, .ptr 0 0⟩, ⟨4, none, .ptr 1 0⟩, ⟨1, none, .lit (.int .i64 x1)⟩], [.blk [.lit (.int .i64 x0.fDown), .lit (.int .i64 x0.fUp), .lit (.int .i64 x0.fSpare), .sl (x0.fNeeds.map (encI .i64)) .no, .lit (.int .i64 x0.fAt), .lit (.int .i64 x0.fMost), .lit (.int .i64 x0.fMoves), .sl (x0.fRates.map (encI .i64)) .no], .blk [.lit (.int .i64 0), .lit (.int .i64 0), .lit (.int .i64 0), .sl [] .full, .lit (.int .i64 0), .lit (.int .i64 0), .lit (.int .i64 0), .sl [] .full]]⟩ (AWp.reg Try.tyOk hΓ (keep := [2, 4]) (dead := [0]) (by kernel_rfl) rfl (by simp)) ?_
  obtain ⟨h9, hr⟩ := need_some hr
  obtain ⟨h10, hr⟩ := need_some hr
  refine AWp.then ⟨[⟨2, none, .ptr 0 0⟩, ⟨4, none, .ptr 1 0⟩], [.blk [.lit (.int .i64 x0.fDown), .lit (.int .i64 x0.fUp), .lit (.int .i64 x0.fSpare), .sl (x0.fNeeds.map (encI .i64)) .no, .lit (.int .i64 x0.fAt), .lit (.int .i64 x0.fMost), .lit (.int .i64 x0.fMoves), .sl ((appL (appL [] x0.fRates) [x1]).map (encI .i64)) (.own 2 2 1)], .blk [.lit (.int .i64 0), .lit (.int .i64 0), .lit (.int .i64 0), .sl [] .full, .lit (.int .i64 0), .lit (.int .i64 0), .lit (.int .i64 0), .sl [] .full], .room 2]⟩ (AWp.reg Try.tyOk hΓ (keep := []) (dead := [1]) (by kernel_rfl) rfl (by simp [h9, h10])) ?_
  refine AWp.seq ?_
  obtain ⟨r1, h11, hr⟩ := bind_some' hr
  refine AWp.then ⟨[⟨18, none, .lit (.bool (leI x0.fDown r1))⟩, ⟨2, none, .ptr 0 0⟩, ⟨4, none, .ptr 1 0⟩], [.blk [.lit (.int .i64 x0.fDown), .lit (.int .i64 x0.fUp), .lit (.int .i64 x0.fSpare), .sl (x0.fNeeds.map (encI .i64)) .no, .lit (.int .i64 x0.fAt), .lit (.int .i64 x0.fMost), .lit (.int .i64 x0.fMoves), .sl ((appL (appL [] x0.fRates) [x1]).map (encI .i64)) (.own 2 2 1)], .blk [.lit (.int .i64 0), .lit (.int .i64 0), .lit (.int .i64 0), .sl [] .full, .lit (.int .i64 0), .lit (.int .i64 0), .lit (.int .i64 0), .sl [] .full], .room 2]⟩ (AWp.regD Try.mixed Try.tyOk hΓ (keep := [18]) (dead := []) [] [(false, []), (false, []), (false, []), (false, []), (false, [])] (by kernel_rfl) rfl (by simp [h11])) ?_
  refine AWp.cond (b := (leI x0.fDown r1)) (by simp) (fun h12 => ?_) (fun h12 => ?_)
  · have hr := cond_t h12 hr
    obtain ⟨r2, h13, hr⟩ := bind_some' hr
    refine AWp.then ⟨[⟨5, none, .lit (.bool true)⟩, ⟨4, none, .ptr 1 0⟩], [.blk [.lit (.int .i64 x0.fDown), .lit (.int .i64 x0.fUp), .lit (.int .i64 x0.fSpare), .sl (x0.fNeeds.map (encI .i64)) .no, .lit (.int .i64 x0.fAt), .lit (.int .i64 x0.fMost), .lit (.int .i64 x0.fMoves), .sl ((appL (appL [] x0.fRates) [x1]).map (encI .i64)) (.own 2 2 1)], .blk [.lit (.int .i64 r2.fDown), .lit (.int .i64 r2.fUp), .lit (.int .i64 r2.fSpare), .sl (r2.fNeeds.map (encI .i64)) .no, .lit (.int .i64 r2.fAt), .lit (.int .i64 r2.fMost), .lit (.int .i64 r2.fMoves), .sl (r2.fRates.map (encI .i64)) .no], .room 2]⟩ (AWp.reg Try.tyOk hΓ (keep := [5]) (dead := [18, 2]) (by kernel_rfl) rfl (by simp [h12, h13])) ?_
    refine AWp.ret ?_
    obtain rfl := some_inj hr
    refine fin_ret ?_
    simp
  · have hr := cond_f h12 hr
    refine AWp.skip ?_
    refine AWp.seq ?_
    obtain ⟨r3, h14, hr⟩ := bind_some' hr
    refine AWp.then ⟨[⟨28, none, .lit (.bool (leI x0.fUp r3))⟩, ⟨2, none, .ptr 0 0⟩, ⟨4, none, .ptr 1 0⟩], [.blk [.lit (.int .i64 x0.fDown), .lit (.int .i64 x0.fUp), .lit (.int .i64 x0.fSpare), .sl (x0.fNeeds.map (encI .i64)) .no, .lit (.int .i64 x0.fAt), .lit (.int .i64 x0.fMost), .lit (.int .i64 x0.fMoves), .sl ((appL (appL [] x0.fRates) [x1]).map (encI .i64)) (.own 2 2 1)], .blk [.lit (.int .i64 0), .lit (.int .i64 0), .lit (.int .i64 0), .sl [] .full, .lit (.int .i64 0), .lit (.int .i64 0), .lit (.int .i64 0), .sl [] .full], .room 2]⟩ (AWp.regD Try.mixed Try.tyOk hΓ (keep := [28]) (dead := [18]) [] [(false, []), (false, []), (false, []), (false, []), (false, [])] (by kernel_rfl) rfl (by simp [h12, h14])) ?_
    refine AWp.cond (b := (leI x0.fUp r3)) (by simp) (fun h15 => ?_) (fun h15 => ?_)
    · have hr := cond_t h15 hr
      obtain ⟨r4, h16, hr⟩ := bind_some' hr
      refine AWp.then ⟨[⟨5, none, .lit (.bool true)⟩, ⟨4, none, .ptr 1 0⟩], [.blk [.lit (.int .i64 x0.fDown), .lit (.int .i64 x0.fUp), .lit (.int .i64 x0.fSpare), .sl (x0.fNeeds.map (encI .i64)) .no, .lit (.int .i64 x0.fAt), .lit (.int .i64 x0.fMost), .lit (.int .i64 x0.fMoves), .sl ((appL (appL [] x0.fRates) [x1]).map (encI .i64)) (.own 2 2 1)], .blk [.lit (.int .i64 r4.fDown), .lit (.int .i64 r4.fUp), .lit (.int .i64 r4.fSpare), .sl (r4.fNeeds.map (encI .i64)) .no, .lit (.int .i64 r4.fAt), .lit (.int .i64 r4.fMost), .lit (.int .i64 r4.fMoves), .sl (r4.fRates.map (encI .i64)) .no], .room 2]⟩ (AWp.reg Try.tyOk hΓ (keep := [5]) (dead := [28, 2]) (by kernel_rfl) rfl (by simp [h15, h16])) ?_
      refine AWp.ret ?_
      obtain rfl := some_inj hr
      refine fin_ret ?_
      simp
    · have hr := cond_f h15 hr
      refine AWp.skip ?_
      refine AWp.then ⟨[⟨5, none, .lit (.bool false)⟩, ⟨4, none, .ptr 1 0⟩], [.blk [.lit (.int .i64 x0.fDown), .lit (.int .i64 x0.fUp), .lit (.int .i64 x0.fSpare), .sl (x0.fNeeds.map (encI .i64)) .no, .lit (.int .i64 x0.fAt), .lit (.int .i64 x0.fMost), .lit (.int .i64 x0.fMoves), .sl ((appL (appL [] x0.fRates) [x1]).map (encI .i64)) (.own 2 2 1)], .blk [.lit (.int .i64 x0.fDown), .lit (.int .i64 x0.fUp), .lit (.int .i64 x0.fSpare), .sl (x0.fNeeds.map (encI .i64)) .no, .lit (.int .i64 x0.fAt), .lit (.int .i64 x0.fMost), .lit (.int .i64 x0.fMoves), .sl ((appL (appL [] x0.fRates) [x1]).map (encI .i64)) (.own 2 2 1)], .room 2]⟩ (AWp.reg Try.tyOk hΓ (keep := [5]) (dead := [28, 2]) (by kernel_rfl) rfl (by simp [h15])) ?_
      refine AWp.ret ?_
      obtain rfl := some_inj hr
      refine fin_ret ?_
      simp

@[simp] noncomputable def gRef23Tick.S : Sp
  | [.agg e0, .lit (.int .i64 x1)], _ => some { av := .tup [.agg [.lit (.int .i64 (((gRef23Tick (Antiphonref23Ladder.dec e0) x1).getD dflt).1.fDown)), .lit (.int .i64 (((gRef23Tick (Antiphonref23Ladder.dec e0) x1).getD dflt).1.fUp)), .lit (.int .i64 (((gRef23Tick (Antiphonref23Ladder.dec e0) x1).getD dflt).1.fSpare)), .sl ((((gRef23Tick (Antiphonref23Ladder.dec e0) x1).getD dflt).1.fNeeds).map (encI .i64)) .no, .lit (.int .i64 (((gRef23Tick (Antiphonref23Ladder.dec e0) x1).getD dflt).1.fAt)), .lit (.int .i64 (((gRef23Tick (Antiphonref23Ladder.dec e0) x1).getD dflt).1.fMost)), .lit (.int .i64 (((gRef23Tick (Antiphonref23Ladder.dec e0) x1).getD dflt).1.fMoves)), .sl ((((gRef23Tick (Antiphonref23Ladder.dec e0) x1).getD dflt).1.fRates).map (encI .i64)) .no], .lit (.bool (((gRef23Tick (Antiphonref23Ladder.dec e0) x1).getD dflt).2))], M := none, obl := WeakL e0 (Antiphonref23Ladder.enc (Antiphonref23Ladder.dec e0)) ∧ (gRef23Tick (Antiphonref23Ladder.dec e0) x1).isSome = true }
  | _, _ => none

set_option maxHeartbeats 1000000 in
theorem gRef23Tick.ok : SpecOk Try.prog 20 gRef23Tick.S := by
  intro l M out h
  unfold gRef23Tick.S at h
  split at h
  · rename_i e0 x1
    cases h
    refine callOk_of fun ho => ?_
    obtain ⟨ox0, hs⟩ := ho
    generalize (Antiphonref23Ladder.dec e0) = x0 at *
    obtain ⟨r, hr⟩ := Option.isSome_iff_exists.1 hs
    simp only [hr, Option.getD_some]
    have q := call_frame (M := M) [] (gRef23Tick.can x0 x1 r hr) (by simp) rfl (by intro k i hk; simp at hk)
    exact callOk_conv q trivial (by simp; exact ox0) (by simp [frameOut, gRef23Tick.out]) (by simp [frameOut, gRef23Tick.out])
  · cases h
end Go.Proofs

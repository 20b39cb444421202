/- That these functions compute what their plain functions do. No condition. -/
import Derived.Test.YtdcfbacpklklcaaLdD
import Derived.Test.YtdcfbacpklklcaaTy
namespace Go.Proofs
open Go.Ab
theorem libClone1.ok : SpecOk Try.prog 29 (cloneS 1 8) := by
  intro l M out h
  unfold cloneS at h
  split at h
  · rename_i els tok
    cases h
    refine callOk_nil ?_ ?_
    · refine call_of_vc Try.mixed Try.tyOk gamL_nil (fun | 0 => [2] | 1 => [4] | 2 => [2] | 3 => [2] | _ => []) (fun _ => []) Try.func29 rfl (by kernel_rfl) rfl rfl (by simp) ?_
      intro _ hbM hbA
      simp [hbM]
    · refine call_of_vc Try.mixed Try.tyOk gamL_nil (fun | 0 => [2] | 1 => [4] | 2 => [2] | 3 => [2] | _ => []) (fun _ => []) Try.func29 rfl (by kernel_rfl) rfl rfl (by simp) ?_
      intro ho hbM hbA
      simp at hbA ho
      simp [hbA, hbM, ho, appL]
      try exact ho.1
  · cases h

@[simp] def gLadderConfigCheck.out (_x0 : LadderConfig) (r : Int) : Out := { av := .lit (.int .i64 r), M := none }
def gLadderConfigCheck.fin (x0 : LadderConfig) (r : Int) (σ : St) : Prop := finK (gLadderConfigCheck.out x0 r) [] σ.M (resA Try.ty σ.A σ.M Try.f27.results.toList)
set_option maxHeartbeats 4000000 in
set_option maxRecDepth 100000 in
theorem gLadderConfigCheck.can (x0 : LadderConfig) (r : Int) (hr : gLadderConfigCheck x0 = some r) : CallOk Try.prog 27 [.agg [.lit (.int .i64 x0.fDown), .lit (.int .i64 x0.fUp), .lit (.int .i64 x0.fSpare)]] [] (gLadderConfigCheck.out x0 r) := by
  unfold gLadderConfigCheck at hr
  have hΓ := gamL_nil (P := Try.prog)
  refine call_of_awp Try.tyOk Try.func27 rfl (by kernel_rfl) rfl rfl (by simp) ?_
  intro _ _ _
  refine AWp.then ⟨[⟨1, none, .ptr 0 0⟩], [.blk [.lit (.int .i64 x0.fDown), .lit (.int .i64 x0.fUp), .lit (.int .i64 x0.fSpare)]]⟩ (AWp.reg Try.tyOk hΓ (keep := [1]) (dead := [0]) (by kernel_rfl) rfl (by simp)) ?_
  refine AWp.seq ?_
  refine AWp.then ⟨[⟨30, none, .lit (.bool (pickB (pickB (pickB (pickB (pickB (ltI x0.fDown 1) true (ltI 1048576 x0.fDown)) true (ltI x0.fUp 1)) true (ltI 1048576 x0.fUp)) true (ltI x0.fSpare 0)) true (ltI 100 x0.fSpare)))⟩], [.blk [.lit (.int .i64 x0.fDown), .lit (.int .i64 x0.fUp), .lit (.int .i64 x0.fSpare)]]⟩ (AWp.reg Try.tyOk hΓ (keep := [30]) (dead := [1]) (by kernel_rfl) rfl (by simp)) ?_
  refine AWp.cond (b := (pickB (pickB (pickB (pickB (pickB (ltI x0.fDown 1) true (ltI 1048576 x0.fDown)) true (ltI x0.fUp 1)) true (ltI 1048576 x0.fUp)) true (ltI x0.fSpare 0)) true (ltI 100 x0.fSpare))) (by simp) (fun h2 => ?_) (fun h2 => ?_)
  · have hr := cond_t h2 hr
    refine AWp.then ⟨[⟨2, none, .lit (.int .i64 5)⟩], [.blk [.lit (.int .i64 x0.fDown), .lit (.int .i64 x0.fUp), .lit (.int .i64 x0.fSpare)]]⟩ (AWp.reg Try.tyOk hΓ (keep := [2]) (dead := [30]) (by kernel_rfl) rfl (by simp [h2])) ?_
    refine AWp.ret ?_
    obtain rfl := some_inj hr
    refine fin_ret ?_
    simp
  · have hr := cond_f h2 hr
    refine AWp.skip ?_
    refine AWp.then ⟨[⟨2, none, .lit (.int .i64 0)⟩], [.blk [.lit (.int .i64 x0.fDown), .lit (.int .i64 x0.fUp), .lit (.int .i64 x0.fSpare)]]⟩ (AWp.reg Try.tyOk hΓ (keep := [2]) (dead := [30]) (by kernel_rfl) rfl (by simp [h2])) ?_
    refine AWp.ret ?_
    obtain rfl := some_inj hr
    refine fin_ret ?_
    simp

@[simp] noncomputable def gLadderConfigCheck.S : Sp
  | [.agg e0], _ => some { av := .lit (.int .i64 ((gLadderConfigCheck (LadderConfig.dec e0)).getD dflt)), M := none, obl := WeakL e0 (LadderConfig.enc (LadderConfig.dec e0)) ∧ (gLadderConfigCheck (LadderConfig.dec e0)).isSome = true }
  | _, _ => none

set_option maxHeartbeats 1000000 in
theorem gLadderConfigCheck.ok : SpecOk Try.prog 27 gLadderConfigCheck.S := by
  intro l M out h
  unfold gLadderConfigCheck.S at h
  split at h
  · rename_i e0
    cases h
    refine callOk_of fun ho => ?_
    obtain ⟨ox0, hs⟩ := ho
    generalize (LadderConfig.dec e0) = x0 at *
    obtain ⟨r, hr⟩ := Option.isSome_iff_exists.1 hs
    simp only [hr, Option.getD_some]
    have q := call_frame (M := M) [] (gLadderConfigCheck.can x0 r hr) (by simp) rfl (by intro k i hk; simp at hk)
    exact callOk_conv q trivial (by simp; exact ox0) (by simp [frameOut, gLadderConfigCheck.out]) (by simp [frameOut, gLadderConfigCheck.out])
  · cases h

@[simp] def gCmpIsNaNInt.out (_x0 : Int) (r : Bool) : Out := { av := .lit (.bool r), M := none }
def gCmpIsNaNInt.fin (x0 : Int) (r : Bool) (σ : St) : Prop := finK (gCmpIsNaNInt.out x0 r) [] σ.M (resA Try.ty σ.A σ.M Try.f37.results.toList)
set_option maxHeartbeats 4000000 in
set_option maxRecDepth 100000 in
theorem gCmpIsNaNInt.can (x0 : Int) (r : Bool) (hr : gCmpIsNaNInt x0 = some r) : CallOk Try.prog 37 [.lit (.int .i64 x0)] [] (gCmpIsNaNInt.out x0 r) := by
  unfold gCmpIsNaNInt at hr
  have hΓ := gamL_nil (P := Try.prog)
  refine call_of_awp Try.tyOk Try.func37 rfl (by kernel_rfl) rfl rfl (by simp) ?_
  intro _ _ _
  refine AWp.then ⟨[⟨0, none, .lit (.int .i64 x0)⟩], []⟩ (AWp.reg Try.tyOk hΓ (keep := []) (dead := []) (by kernel_rfl) rfl (by simp)) ?_
  refine AWp.then ⟨[⟨2, none, .lit (.bool (neI x0 x0))⟩], []⟩ (AWp.reg Try.tyOk hΓ (keep := [2]) (dead := [0]) (by kernel_rfl) rfl (by simp)) ?_
  refine AWp.ret ?_
  obtain rfl := some_inj hr
  refine fin_ret ?_
  simp

@[simp] noncomputable def gCmpIsNaNInt.S : Sp
  | [.lit (.int .i64 x0)], _ => some { av := .lit (.bool ((gCmpIsNaNInt x0).getD dflt)), M := none, obl := (gCmpIsNaNInt x0).isSome = true }
  | _, _ => none

set_option maxHeartbeats 1000000 in
theorem gCmpIsNaNInt.ok : SpecOk Try.prog 37 gCmpIsNaNInt.S := by
  intro l M out h
  unfold gCmpIsNaNInt.S at h
  split at h
  · rename_i x0
    cases h
    refine callOk_of fun ho => ?_
    have hs := ho
    obtain ⟨r, hr⟩ := Option.isSome_iff_exists.1 hs
    simp only [hr, Option.getD_some]
    have q := call_frame (M := M) [] (gCmpIsNaNInt.can x0 r hr) (by simp) rfl (by intro k i hk; simp at hk)
    exact callOk_conv q trivial (by simp) (by simp [frameOut, gCmpIsNaNInt.out]) (by simp [frameOut, gCmpIsNaNInt.out])
  · cases h

@[simp] def gCmpLessInt.out (_x0 : Int) (_x1 : Int) (r : Bool) : Out := { av := .lit (.bool r), M := none }
def gCmpLessInt.fin (x0 : Int) (x1 : Int) (r : Bool) (σ : St) : Prop := finK (gCmpLessInt.out x0 x1 r) [] σ.M (resA Try.ty σ.A σ.M Try.f34.results.toList)
set_option maxHeartbeats 4000000 in
set_option maxRecDepth 100000 in
theorem gCmpLessInt.can (x0 : Int) (x1 : Int) (r : Bool) (hr : gCmpLessInt x0 x1 = some r) : CallOk Try.prog 34 [.lit (.int .i64 x0), .lit (.int .i64 x1)] [] (gCmpLessInt.out x0 x1 r) := by
  unfold gCmpLessInt at hr
  have hΓ := (gamL_cons gCmpIsNaNInt.ok (gamL_nil) : GamOk Try.prog _)
  refine call_of_awp Try.tyOk Try.func34 rfl (by kernel_rfl) rfl rfl (by simp) ?_
  intro _ _ _
  refine AWp.then ⟨[⟨0, none, .lit (.int .i64 x0)⟩, ⟨1, none, .lit (.int .i64 x1)⟩], []⟩ (AWp.reg Try.tyOk hΓ (keep := []) (dead := []) (by kernel_rfl) rfl (by simp)) ?_
  obtain ⟨r1, h3, hr⟩ := bind_some' hr
  obtain ⟨h4, hr⟩ := need_some hr
  refine AWp.then ⟨[⟨4, none, .lit (.bool (pickB (pickB r1 (notB ((gCmpIsNaNInt x1).getD dflt)) false) true (ltI x0 x1)))⟩], []⟩ (AWp.reg Try.tyOk hΓ (keep := [4]) (dead := [0, 1]) (by kernel_rfl) rfl (by simp [h3, h4])) ?_
  refine AWp.ret ?_
  obtain rfl := some_inj hr
  refine fin_ret ?_
  simp

@[simp] noncomputable def gCmpLessInt.S : Sp
  | [.lit (.int .i64 x0), .lit (.int .i64 x1)], _ => some { av := .lit (.bool ((gCmpLessInt x0 x1).getD dflt)), M := none, obl := (gCmpLessInt x0 x1).isSome = true }
  | _, _ => none

set_option maxHeartbeats 1000000 in
theorem gCmpLessInt.ok : SpecOk Try.prog 34 gCmpLessInt.S := by
  intro l M out h
  unfold gCmpLessInt.S at h
  split at h
  · rename_i x0 x1
    cases h
    refine callOk_of fun ho => ?_
    have hs := ho
    obtain ⟨r, hr⟩ := Option.isSome_iff_exists.1 hs
    simp only [hr, Option.getD_some]
    have q := call_frame (M := M) [] (gCmpLessInt.can x0 x1 r hr) (by simp) rfl (by intro k i hk; simp at hk)
    exact callOk_conv q trivial (by simp) (by simp [frameOut, gCmpLessInt.out]) (by simp [frameOut, gCmpLessInt.out])
  · cases h

@[simp] def gSlicesIsSortedIntInt.out (_x0 : List Int) (r : Bool) : Out := { av := .lit (.bool r), M := none }
def gSlicesIsSortedIntInt.fin (x0 : List Int) (r : Bool) (σ : St) : Prop := finK (gSlicesIsSortedIntInt.out x0 r) [] σ.M (resA Try.ty σ.A σ.M Try.f28.results.toList)
set_option maxHeartbeats 4000000 in
set_option maxRecDepth 100000 in
theorem gSlicesIsSortedIntInt.can (x0 : List Int) (r : Bool) (hr : gSlicesIsSortedIntInt x0 = some r) : CallOk Try.prog 28 [.sl (x0.map (encI .i64)) .no] [] (gSlicesIsSortedIntInt.out x0 r) := by
  unfold gSlicesIsSortedIntInt at hr
  have hΓ := (gamL_cons gCmpLessInt.ok (gamL_nil) : GamOk Try.prog _)
  refine call_of_awp Try.tyOk Try.func28 rfl (by kernel_rfl) rfl rfl (by simp) ?_
  intro _ _ _
  refine AWp.then ⟨[⟨0, none, .sl (x0.map (encI .i64)) .no⟩], []⟩ (AWp.reg Try.tyOk hΓ (keep := []) (dead := []) (by kernel_rfl) rfl (by simp)) ?_
  refine AWp.seq ?_
  refine AWp.then ⟨[⟨3, none, .lit (.int .i64 (subI .i64 (lenL x0) 1))⟩, ⟨0, none, .sl (x0.map (encI .i64)) .no⟩], []⟩ (AWp.reg Try.tyOk hΓ (keep := [3]) (dead := []) (by kernel_rfl) rfl (by simp)) ?_
  refine AWp.loopE (fun (s1 : Int) (γ1 : Unit) => ⟨[⟨3, none, .lit (.int .i64 s1)⟩, ⟨0, none, .sl (x0.map (encI .i64)) .no⟩], []⟩) (fun (v1 : Unit) (γ1a : Unit) => ⟨[], []⟩) (gSlicesIsSortedIntInt.fin x0) hr () 0 (by simp) (fun s1 f γ1 hr => ?_) (fun v1 γ1a σ1 m1 hr hc => ?_) (fun _ h => h)
  · unfold gSlicesIsSortedIntInt.loop1 at hr
    refine AWp.seq ?_
    refine AWp.then ⟨[⟨8, none, .lit (.bool (ltI 0 s1))⟩, ⟨3, none, .lit (.int .i64 s1)⟩, ⟨0, none, .sl (x0.map (encI .i64)) .no⟩], []⟩ (AWp.reg Try.tyOk hΓ (keep := [8]) (dead := []) (by kernel_rfl) rfl (by simp)) ?_
    refine AWp.cond (b := (ltI 0 s1)) (by simp) (fun h6 => ?_) (fun h6 => ?_)
    · have hr := cond_t h6 hr
      refine AWp.skip ?_
      refine AWp.seq ?_
      refine AWp.block ?_
      obtain ⟨h7, hr⟩ := need_some hr
      obtain ⟨h8, hr⟩ := need_some hr
      obtain ⟨r1, h9, hr⟩ := bind_some' hr
      refine AWp.then ⟨[⟨20, none, .lit (.bool r1)⟩, ⟨3, none, .lit (.int .i64 s1)⟩, ⟨0, none, .sl (x0.map (encI .i64)) .no⟩], []⟩ (AWp.regD Try.mixed Try.tyOk hΓ (keep := [20]) (dead := [8]) [] [(false, []), (false, []), (false, []), (false, []), (false, []), (false, []), (false, []), (false, []), (false, []), (false, [])] (by kernel_rfl) rfl (by simp [h6, h7, h8, h9])) ?_
      refine AWp.cond (b := r1) (by simp) (fun h10 => ?_) (fun h10 => ?_)
      · have hr := cond_t h10 hr
        refine AWp.then ⟨[⟨2, none, .lit (.bool false)⟩], []⟩ (AWp.reg Try.tyOk hΓ (keep := [2]) (dead := [20, 3, 0]) (by kernel_rfl) rfl (by simp [h10])) ?_
        refine AWp.ret ?_
        obtain rfl := some_inj hr
        refine round_ret ?_
        refine fin_ret ?_
        simp
      · have hr := cond_f h10 hr
        refine AWp.skip ?_
        refine AWp.last ⟨[⟨3, none, .lit (.int .i64 (subI .i64 s1 1))⟩, ⟨0, none, .sl (x0.map (encI .i64)) .no⟩], []⟩ (AWp.reg Try.tyOk hΓ (keep := [3]) (dead := [20]) (by kernel_rfl) rfl (by simp [h10])) ?_
        obtain rfl := some_inj hr
        exact round_go () 0 (by simp)
    · have hr := cond_f h6 hr
      refine AWp.exit ?_
      obtain rfl := some_inj hr
      exact round_out () 0 (by simp)
  · refine AWp.conv hc ?_
    refine AWp.then ⟨[⟨2, none, .lit (.bool true)⟩], []⟩ (AWp.reg Try.tyOk hΓ (keep := [2]) (dead := []) (by kernel_rfl) rfl (by simp)) ?_
    refine AWp.ret ?_
    obtain rfl := some_inj hr
    refine fin_ret ?_
    simp

@[simp] noncomputable def gSlicesIsSortedIntInt.S : Sp
  | [.sl e0 _], _ => some { av := .lit (.bool ((gSlicesIsSortedIntInt (e0.map decI)).getD dflt)), M := none, obl := e0 = (e0.map decI).map (encI .i64) ∧ (gSlicesIsSortedIntInt (e0.map decI)).isSome = true }
  | _, _ => none

set_option maxHeartbeats 1000000 in
theorem gSlicesIsSortedIntInt.ok : SpecOk Try.prog 28 gSlicesIsSortedIntInt.S := by
  intro l M out h
  unfold gSlicesIsSortedIntInt.S at h
  split at h
  · rename_i e0 k0
    cases h
    refine callOk_of fun ho => ?_
    obtain ⟨ox0, hs⟩ := ho
    generalize (e0.map decI) = x0 at *
    subst ox0
    obtain ⟨r, hr⟩ := Option.isSome_iff_exists.1 hs
    simp only [hr, Option.getD_some]
    have q := call_frame (M := M) [] (gSlicesIsSortedIntInt.can x0 r hr) (by simp) rfl (by intro k i hk; simp at hk)
    exact callOk_conv q trivial (by simp) (by simp [frameOut, gSlicesIsSortedIntInt.out]) (by simp [frameOut, gSlicesIsSortedIntInt.out])
  · cases h

@[simp] def gLadderLadderStep.out (_x0 : LadderLadder) (_x1 : Int) (r : LadderLadder) : Out := { av := .tup [], M := some [.blk [.lit (.int .i64 r.fConfig.fDown), .lit (.int .i64 r.fConfig.fUp), .lit (.int .i64 r.fConfig.fSpare), .sl (r.fNeeds.map (encI .i64)) .no, .lit (.int .i64 r.fAt), .lit (.int .i64 r.fMost), .lit (.int .i64 r.fBad), .lit (.int .i64 r.fGood), .lit (.int .i64 r.fMoves)]] }
def gLadderLadderStep.fin (x0 : LadderLadder) (x1 : Int) (r : LadderLadder) (σ : St) : Prop := finK (gLadderLadderStep.out x0 x1 r) [.blk [.lit (.int .i64 x0.fConfig.fDown), .lit (.int .i64 x0.fConfig.fUp), .lit (.int .i64 x0.fConfig.fSpare), .sl (x0.fNeeds.map (encI .i64)) .no, .lit (.int .i64 x0.fAt), .lit (.int .i64 x0.fMost), .lit (.int .i64 x0.fBad), .lit (.int .i64 x0.fGood), .lit (.int .i64 x0.fMoves)]] σ.M (resA Try.ty σ.A σ.M Try.f30.results.toList)
set_option maxHeartbeats 4000000 in
set_option maxRecDepth 100000 in
theorem gLadderLadderStep.can (x0 : LadderLadder) (x1 : Int) (r : LadderLadder) (hr : gLadderLadderStep x0 x1 = some r) : CallOk Try.prog 30 [.ptr 0 0, .lit (.int .i64 x1)] [.blk [.lit (.int .i64 x0.fConfig.fDown), .lit (.int .i64 x0.fConfig.fUp), .lit (.int .i64 x0.fConfig.fSpare), .sl (x0.fNeeds.map (encI .i64)) .no, .lit (.int .i64 x0.fAt), .lit (.int .i64 x0.fMost), .lit (.int .i64 x0.fBad), .lit (.int .i64 x0.fGood), .lit (.int .i64 x0.fMoves)]] (gLadderLadderStep.out x0 x1 r) := by
  unfold gLadderLadderStep at hr
  have hΓ := gamL_nil (P := Try.prog)
  refine call_of_awp Try.tyOk Try.func30 rfl (by kernel_rfl) rfl rfl (by simp) ?_
  intro _ _ _
  refine AWp.then ⟨[⟨0, none, .ptr 0 0⟩], [.blk [.lit (.int .i64 x0.fConfig.fDown), .lit (.int .i64 x0.fConfig.fUp), .lit (.int .i64 x0.fConfig.fSpare), .sl (x0.fNeeds.map (encI .i64)) .no, .lit (.int .i64 x1), .lit (.int .i64 x0.fMost), .lit (.int .i64 0), .lit (.int .i64 0), .lit (.int .i64 x0.fMoves)]]⟩ (AWp.reg Try.tyOk hΓ (keep := []) (dead := [1]) (by kernel_rfl) rfl (by simp)) ?_
  refine AWp.last ⟨[], [.blk [.lit (.int .i64 x0.fConfig.fDown), .lit (.int .i64 x0.fConfig.fUp), .lit (.int .i64 x0.fConfig.fSpare), .sl (x0.fNeeds.map (encI .i64)) .no, .lit (.int .i64 x1), .lit (.int .i64 x0.fMost), .lit (.int .i64 0), .lit (.int .i64 0), .lit (.int .i64 (addI .i64 x0.fMoves 1))]]⟩ (AWp.reg Try.tyOk hΓ (keep := []) (dead := [0]) (by kernel_rfl) rfl (by simp)) ?_
  obtain rfl := some_inj hr
  refine fin_norm ?_
  simp

@[simp] noncomputable def gLadderLadderStep.S : Sp
  | [.ptr i0 0, .lit (.int .i64 x1)], M => match M[i0]? with
    | some (.blk c0) => some { av := .tup [], M := some (M.set i0 (.blk [.lit (.int .i64 (((gLadderLadderStep (LadderLadder.dec c0) x1).getD dflt).fConfig.fDown)), .lit (.int .i64 (((gLadderLadderStep (LadderLadder.dec c0) x1).getD dflt).fConfig.fUp)), .lit (.int .i64 (((gLadderLadderStep (LadderLadder.dec c0) x1).getD dflt).fConfig.fSpare)), .sl ((((gLadderLadderStep (LadderLadder.dec c0) x1).getD dflt).fNeeds).map (encI .i64)) .no, .lit (.int .i64 (((gLadderLadderStep (LadderLadder.dec c0) x1).getD dflt).fAt)), .lit (.int .i64 (((gLadderLadderStep (LadderLadder.dec c0) x1).getD dflt).fMost)), .lit (.int .i64 (((gLadderLadderStep (LadderLadder.dec c0) x1).getD dflt).fBad)), .lit (.int .i64 (((gLadderLadderStep (LadderLadder.dec c0) x1).getD dflt).fGood)), .lit (.int .i64 (((gLadderLadderStep (LadderLadder.dec c0) x1).getD dflt).fMoves))])), obl := c0 = LadderLadder.enc (LadderLadder.dec c0) ∧ (gLadderLadderStep (LadderLadder.dec c0) x1).isSome = true }
    | _ => none
  | _, _ => none

set_option maxHeartbeats 1000000 in
theorem gLadderLadderStep.ok : SpecOk Try.prog 30 gLadderLadderStep.S := by
  intro l M out h
  unfold gLadderLadderStep.S at h
  split at h
  · rename_i i0 x1
    split at h
    case h_2 => cases h
    rename_i c0 hM0
    cases h
    refine callOk_of fun ho => ?_
    obtain ⟨oy0, hs⟩ := ho
    generalize (LadderLadder.dec c0) = y0 at *
    subst oy0
    obtain ⟨r, hr⟩ := Option.isSome_iff_exists.1 hs
    simp only [hr, Option.getD_some]
    have q := call_frame (M := M) [i0] (gLadderLadderStep.can y0 x1 r hr) (by simp) rfl (by intro k i hk; (cases k with | zero => (simp at hk; subst hk; simp [hM0]) | succ k => (simp at hk)))
    exact callOk_conv q trivial (by simp [into]) (by simp [frameOut, gLadderLadderStep.out]) (by simp [frameOut, gLadderLadderStep.out])
  · cases h

@[simp] def gLadderLadderWant.out (_x0 : LadderLadder) (_x1 : Int) (r : Bool × LadderLadder) : Out := { av := .lit (.bool r.1), M := some [.blk [.lit (.int .i64 r.2.fConfig.fDown), .lit (.int .i64 r.2.fConfig.fUp), .lit (.int .i64 r.2.fConfig.fSpare), .sl (r.2.fNeeds.map (encI .i64)) .no, .lit (.int .i64 r.2.fAt), .lit (.int .i64 r.2.fMost), .lit (.int .i64 r.2.fBad), .lit (.int .i64 r.2.fGood), .lit (.int .i64 r.2.fMoves)]] }
def gLadderLadderWant.fin (x0 : LadderLadder) (x1 : Int) (r : Bool × LadderLadder) (σ : St) : Prop := finK (gLadderLadderWant.out x0 x1 r) [.blk [.lit (.int .i64 x0.fConfig.fDown), .lit (.int .i64 x0.fConfig.fUp), .lit (.int .i64 x0.fConfig.fSpare), .sl (x0.fNeeds.map (encI .i64)) .no, .lit (.int .i64 x0.fAt), .lit (.int .i64 x0.fMost), .lit (.int .i64 x0.fBad), .lit (.int .i64 x0.fGood), .lit (.int .i64 x0.fMoves)]] σ.M (resA Try.ty σ.A σ.M Try.f18.results.toList)
set_option maxHeartbeats 4000000 in
set_option maxRecDepth 100000 in
theorem gLadderLadderWant.can (x0 : LadderLadder) (x1 : Int) (r : Bool × LadderLadder) (hr : gLadderLadderWant x0 x1 = some r) : CallOk Try.prog 18 [.ptr 0 0, .lit (.int .i64 x1)] [.blk [.lit (.int .i64 x0.fConfig.fDown), .lit (.int .i64 x0.fConfig.fUp), .lit (.int .i64 x0.fConfig.fSpare), .sl (x0.fNeeds.map (encI .i64)) .no, .lit (.int .i64 x0.fAt), .lit (.int .i64 x0.fMost), .lit (.int .i64 x0.fBad), .lit (.int .i64 x0.fGood), .lit (.int .i64 x0.fMoves)]] (gLadderLadderWant.out x0 x1 r) := by
  unfold gLadderLadderWant at hr
  have hΓ := (gamL_cons gLadderLadderStep.ok (gamL_nil) : GamOk Try.prog _)
  refine call_of_awp Try.tyOk Try.func18 rfl (by kernel_rfl) rfl rfl (by simp) ?_
  intro _ _ _
  refine AWp.then ⟨[⟨0, none, .ptr 0 0⟩, ⟨1, none, .lit (.int .i64 x1)⟩], [.blk [.lit (.int .i64 x0.fConfig.fDown), .lit (.int .i64 x0.fConfig.fUp), .lit (.int .i64 x0.fConfig.fSpare), .sl (x0.fNeeds.map (encI .i64)) .no, .lit (.int .i64 x0.fAt), .lit (.int .i64 x0.fMost), .lit (.int .i64 x0.fBad), .lit (.int .i64 x0.fGood), .lit (.int .i64 x0.fMoves)]]⟩ (AWp.reg Try.tyOk hΓ (keep := []) (dead := []) (by kernel_rfl) rfl (by simp)) ?_
  refine AWp.then ⟨[⟨0, none, .ptr 0 0⟩], [.blk [.lit (.int .i64 x0.fConfig.fDown), .lit (.int .i64 x0.fConfig.fUp), .lit (.int .i64 x0.fConfig.fSpare), .sl (x0.fNeeds.map (encI .i64)) .no, .lit (.int .i64 x0.fAt), .lit (.int .i64 (minI (maxI x1 0) (subI .i64 (lenL x0.fNeeds) 1))), .lit (.int .i64 x0.fBad), .lit (.int .i64 x0.fGood), .lit (.int .i64 x0.fMoves)]]⟩ (AWp.reg Try.tyOk hΓ (keep := []) (dead := [1]) (by kernel_rfl) rfl (by simp)) ?_
  refine AWp.seq ?_
  refine AWp.then ⟨[⟨25, none, .lit (.bool (leI x0.fAt (minI (maxI x1 0) (subI .i64 (lenL x0.fNeeds) 1))))⟩, ⟨0, none, .ptr 0 0⟩], [.blk [.lit (.int .i64 x0.fConfig.fDown), .lit (.int .i64 x0.fConfig.fUp), .lit (.int .i64 x0.fConfig.fSpare), .sl (x0.fNeeds.map (encI .i64)) .no, .lit (.int .i64 x0.fAt), .lit (.int .i64 (minI (maxI x1 0) (subI .i64 (lenL x0.fNeeds) 1))), .lit (.int .i64 x0.fBad), .lit (.int .i64 x0.fGood), .lit (.int .i64 x0.fMoves)]]⟩ (AWp.regD Try.mixed Try.tyOk hΓ (keep := [25]) (dead := []) [] [(false, []), (false, []), (false, []), (false, []), (false, []), (false, []), (false, []), (false, []), (false, [])] (by kernel_rfl) rfl (by simp)) ?_
  refine AWp.cond (b := (leI x0.fAt (minI (maxI x1 0) (subI .i64 (lenL x0.fNeeds) 1)))) (by simp) (fun h3 => ?_) (fun h3 => ?_)
  · have hr := cond_t h3 hr
    refine AWp.then ⟨[⟨4, none, .lit (.bool false)⟩], [.blk [.lit (.int .i64 x0.fConfig.fDown), .lit (.int .i64 x0.fConfig.fUp), .lit (.int .i64 x0.fConfig.fSpare), .sl (x0.fNeeds.map (encI .i64)) .no, .lit (.int .i64 x0.fAt), .lit (.int .i64 (minI (maxI x1 0) (subI .i64 (lenL x0.fNeeds) 1))), .lit (.int .i64 x0.fBad), .lit (.int .i64 x0.fGood), .lit (.int .i64 x0.fMoves)]]⟩ (AWp.reg Try.tyOk hΓ (keep := [4]) (dead := [25, 0]) (by kernel_rfl) rfl (by simp [h3])) ?_
    refine AWp.ret ?_
    obtain rfl := some_inj hr
    refine fin_ret ?_
    simp
  · have hr := cond_f h3 hr
    refine AWp.skip ?_
    obtain ⟨r1, h4, hr⟩ := bind_some' hr
    refine AWp.then ⟨[], [.blk [.lit (.int .i64 r1.fConfig.fDown), .lit (.int .i64 r1.fConfig.fUp), .lit (.int .i64 r1.fConfig.fSpare), .sl (r1.fNeeds.map (encI .i64)) .no, .lit (.int .i64 r1.fAt), .lit (.int .i64 r1.fMost), .lit (.int .i64 r1.fBad), .lit (.int .i64 r1.fGood), .lit (.int .i64 r1.fMoves)]]⟩ (AWp.reg Try.tyOk hΓ (keep := []) (dead := [25, 0]) (by kernel_rfl) rfl (by simp [h3, h4])) ?_
    refine AWp.then ⟨[⟨4, none, .lit (.bool true)⟩], [.blk [.lit (.int .i64 r1.fConfig.fDown), .lit (.int .i64 r1.fConfig.fUp), .lit (.int .i64 r1.fConfig.fSpare), .sl (r1.fNeeds.map (encI .i64)) .no, .lit (.int .i64 r1.fAt), .lit (.int .i64 r1.fMost), .lit (.int .i64 r1.fBad), .lit (.int .i64 r1.fGood), .lit (.int .i64 r1.fMoves)]]⟩ (AWp.reg Try.tyOk hΓ (keep := [4]) (dead := []) (by kernel_rfl) rfl (by simp)) ?_
    refine AWp.ret ?_
    obtain rfl := some_inj hr
    refine fin_ret ?_
    simp

@[simp] noncomputable def gLadderLadderWant.S : Sp
  | [.ptr i0 0, .lit (.int .i64 x1)], M => match M[i0]? with
    | some (.blk c0) => some { av := .lit (.bool (((gLadderLadderWant (LadderLadder.dec c0) x1).getD dflt).1)), M := some (M.set i0 (.blk [.lit (.int .i64 (((gLadderLadderWant (LadderLadder.dec c0) x1).getD dflt).2.fConfig.fDown)), .lit (.int .i64 (((gLadderLadderWant (LadderLadder.dec c0) x1).getD dflt).2.fConfig.fUp)), .lit (.int .i64 (((gLadderLadderWant (LadderLadder.dec c0) x1).getD dflt).2.fConfig.fSpare)), .sl ((((gLadderLadderWant (LadderLadder.dec c0) x1).getD dflt).2.fNeeds).map (encI .i64)) .no, .lit (.int .i64 (((gLadderLadderWant (LadderLadder.dec c0) x1).getD dflt).2.fAt)), .lit (.int .i64 (((gLadderLadderWant (LadderLadder.dec c0) x1).getD dflt).2.fMost)), .lit (.int .i64 (((gLadderLadderWant (LadderLadder.dec c0) x1).getD dflt).2.fBad)), .lit (.int .i64 (((gLadderLadderWant (LadderLadder.dec c0) x1).getD dflt).2.fGood)), .lit (.int .i64 (((gLadderLadderWant (LadderLadder.dec c0) x1).getD dflt).2.fMoves))])), obl := c0 = LadderLadder.enc (LadderLadder.dec c0) ∧ (gLadderLadderWant (LadderLadder.dec c0) x1).isSome = true }
    | _ => none
  | _, _ => none

set_option maxHeartbeats 1000000 in
theorem gLadderLadderWant.ok : SpecOk Try.prog 18 gLadderLadderWant.S := by
  intro l M out h
  unfold gLadderLadderWant.S at h
  split at h
  · rename_i i0 x1
    split at h
    case h_2 => cases h
    rename_i c0 hM0
    cases h
    refine callOk_of fun ho => ?_
    obtain ⟨oy0, hs⟩ := ho
    generalize (LadderLadder.dec c0) = y0 at *
    subst oy0
    obtain ⟨r, hr⟩ := Option.isSome_iff_exists.1 hs
    simp only [hr, Option.getD_some]
    have q := call_frame (M := M) [i0] (gLadderLadderWant.can y0 x1 r hr) (by simp) rfl (by intro k i hk; (cases k with | zero => (simp at hk; subst hk; simp [hM0]) | succ k => (simp at hk)))
    exact callOk_conv q trivial (by simp [into]) (by simp [frameOut, gLadderLadderWant.out]) (by simp [frameOut, gLadderLadderWant.out])
  · cases h

@[simp] def gLadderLadderAt.out (_x0 : LadderLadder) (r : Int) : Out := { av := .lit (.int .i64 r), M := none }
def gLadderLadderAt.fin (x0 : LadderLadder) (r : Int) (σ : St) : Prop := finK (gLadderLadderAt.out x0 r) [.blk [.lit (.int .i64 x0.fConfig.fDown), .lit (.int .i64 x0.fConfig.fUp), .lit (.int .i64 x0.fConfig.fSpare), .sl (x0.fNeeds.map (encI .i64)) .no, .lit (.int .i64 x0.fAt), .lit (.int .i64 x0.fMost), .lit (.int .i64 x0.fBad), .lit (.int .i64 x0.fGood), .lit (.int .i64 x0.fMoves)]] σ.M (resA Try.ty σ.A σ.M Try.f17.results.toList)
set_option maxHeartbeats 4000000 in
set_option maxRecDepth 100000 in
theorem gLadderLadderAt.can (x0 : LadderLadder) (r : Int) (hr : gLadderLadderAt x0 = some r) : CallOk Try.prog 17 [.ptr 0 0] [.blk [.lit (.int .i64 x0.fConfig.fDown), .lit (.int .i64 x0.fConfig.fUp), .lit (.int .i64 x0.fConfig.fSpare), .sl (x0.fNeeds.map (encI .i64)) .no, .lit (.int .i64 x0.fAt), .lit (.int .i64 x0.fMost), .lit (.int .i64 x0.fBad), .lit (.int .i64 x0.fGood), .lit (.int .i64 x0.fMoves)]] (gLadderLadderAt.out x0 r) := by
  unfold gLadderLadderAt at hr
  have hΓ := gamL_nil (P := Try.prog)
  refine call_of_awp Try.tyOk Try.func17 rfl (by kernel_rfl) rfl rfl (by simp) ?_
  intro _ _ _
  refine AWp.then ⟨[⟨0, none, .ptr 0 0⟩], [.blk [.lit (.int .i64 x0.fConfig.fDown), .lit (.int .i64 x0.fConfig.fUp), .lit (.int .i64 x0.fConfig.fSpare), .sl (x0.fNeeds.map (encI .i64)) .no, .lit (.int .i64 x0.fAt), .lit (.int .i64 x0.fMost), .lit (.int .i64 x0.fBad), .lit (.int .i64 x0.fGood), .lit (.int .i64 x0.fMoves)]]⟩ (AWp.reg Try.tyOk hΓ (keep := []) (dead := []) (by kernel_rfl) rfl (by simp)) ?_
  refine AWp.then ⟨[⟨2, none, .lit (.int .i64 x0.fAt)⟩], [.blk [.lit (.int .i64 x0.fConfig.fDown), .lit (.int .i64 x0.fConfig.fUp), .lit (.int .i64 x0.fConfig.fSpare), .sl (x0.fNeeds.map (encI .i64)) .no, .lit (.int .i64 x0.fAt), .lit (.int .i64 x0.fMost), .lit (.int .i64 x0.fBad), .lit (.int .i64 x0.fGood), .lit (.int .i64 x0.fMoves)]]⟩ (AWp.reg Try.tyOk hΓ (keep := [2]) (dead := [0]) (by kernel_rfl) rfl (by simp)) ?_
  refine AWp.ret ?_
  obtain rfl := some_inj hr
  refine fin_ret ?_
  simp

@[simp] noncomputable def gLadderLadderAt.S : Sp
  | [.ptr i0 0], M => match M[i0]? with
    | some (.blk c0) => some { av := .lit (.int .i64 ((gLadderLadderAt (LadderLadder.dec c0)).getD dflt)), M := none, obl := c0 = LadderLadder.enc (LadderLadder.dec c0) ∧ (gLadderLadderAt (LadderLadder.dec c0)).isSome = true }
    | _ => none
  | _, _ => none

set_option maxHeartbeats 1000000 in
theorem gLadderLadderAt.ok : SpecOk Try.prog 17 gLadderLadderAt.S := by
  intro l M out h
  unfold gLadderLadderAt.S at h
  split at h
  · rename_i i0
    split at h
    case h_2 => cases h
    rename_i c0 hM0
    cases h
    refine callOk_of fun ho => ?_
    obtain ⟨oy0, hs⟩ := ho
    generalize (LadderLadder.dec c0) = y0 at *
    subst oy0
    obtain ⟨r, hr⟩ := Option.isSome_iff_exists.1 hs
    simp only [hr, Option.getD_some]
    have q := call_frame (M := M) [i0] (gLadderLadderAt.can y0 r hr) (by simp) rfl (by intro k i hk; (cases k with | zero => (simp at hk; subst hk; simp [hM0]) | succ k => (simp at hk)))
    exact callOk_conv q trivial (by simp [into]) (by simp [frameOut, gLadderLadderAt.out]) (by simp only [frameOut, gLadderLadderAt.out, Option.getD_some, Option.getD_none]; simp [hM0, set_same])
  · cases h

@[simp] def gLadderLadderEnough.out (_x0 : LadderLadder) (_x1 : Int) (_x2 : Int) (r : Bool) : Out := { av := .lit (.bool r), M := none }
def gLadderLadderEnough.fin (x0 : LadderLadder) (x1 : Int) (x2 : Int) (r : Bool) (σ : St) : Prop := finK (gLadderLadderEnough.out x0 x1 x2 r) [.blk [.lit (.int .i64 x0.fConfig.fDown), .lit (.int .i64 x0.fConfig.fUp), .lit (.int .i64 x0.fConfig.fSpare), .sl (x0.fNeeds.map (encI .i64)) .no, .lit (.int .i64 x0.fAt), .lit (.int .i64 x0.fMost), .lit (.int .i64 x0.fBad), .lit (.int .i64 x0.fGood), .lit (.int .i64 x0.fMoves)]] σ.M (resA Try.ty σ.A σ.M Try.f31.results.toList)
set_option maxHeartbeats 4000000 in
set_option maxRecDepth 100000 in
theorem gLadderLadderEnough.can (x0 : LadderLadder) (x1 : Int) (x2 : Int) (r : Bool) (hr : gLadderLadderEnough x0 x1 x2 = some r) : CallOk Try.prog 31 [.ptr 0 0, .lit (.int .i64 x1), .lit (.int .i64 x2)] [.blk [.lit (.int .i64 x0.fConfig.fDown), .lit (.int .i64 x0.fConfig.fUp), .lit (.int .i64 x0.fConfig.fSpare), .sl (x0.fNeeds.map (encI .i64)) .no, .lit (.int .i64 x0.fAt), .lit (.int .i64 x0.fMost), .lit (.int .i64 x0.fBad), .lit (.int .i64 x0.fGood), .lit (.int .i64 x0.fMoves)]] (gLadderLadderEnough.out x0 x1 x2 r) := by
  unfold gLadderLadderEnough at hr
  have hΓ := gamL_nil (P := Try.prog)
  refine call_of_awp Try.tyOk Try.func31 rfl (by kernel_rfl) rfl rfl (by simp) ?_
  intro _ _ _
  refine AWp.then ⟨[⟨0, none, .ptr 0 0⟩, ⟨1, none, .lit (.int .i64 x1)⟩, ⟨2, none, .lit (.int .i64 x2)⟩], [.blk [.lit (.int .i64 x0.fConfig.fDown), .lit (.int .i64 x0.fConfig.fUp), .lit (.int .i64 x0.fConfig.fSpare), .sl (x0.fNeeds.map (encI .i64)) .no, .lit (.int .i64 x0.fAt), .lit (.int .i64 x0.fMost), .lit (.int .i64 x0.fBad), .lit (.int .i64 x0.fGood), .lit (.int .i64 x0.fMoves)]]⟩ (AWp.reg Try.tyOk hΓ (keep := []) (dead := []) (by kernel_rfl) rfl (by simp)) ?_
  obtain ⟨h4, hr⟩ := need_some hr
  obtain ⟨h5, hr⟩ := need_some hr
  obtain ⟨h6, hr⟩ := need_some hr
  refine AWp.then ⟨[⟨6, none, .lit (.bool (leI (addI .i64 (nthI x0.fNeeds x2) (mulI .i64 (quoI .i64 (nthI x0.fNeeds x2) 10) x0.fConfig.fSpare)) x1))⟩], [.blk [.lit (.int .i64 x0.fConfig.fDown), .lit (.int .i64 x0.fConfig.fUp), .lit (.int .i64 x0.fConfig.fSpare), .sl (x0.fNeeds.map (encI .i64)) .no, .lit (.int .i64 x0.fAt), .lit (.int .i64 x0.fMost), .lit (.int .i64 x0.fBad), .lit (.int .i64 x0.fGood), .lit (.int .i64 x0.fMoves)]]⟩ (AWp.regD Try.mixed Try.tyOk hΓ (keep := [6]) (dead := [0, 1, 2]) [] [(false, []), (false, []), (false, []), (false, []), (false, []), (false, []), (false, []), (false, []), (false, []), (false, []), (false, []), (false, []), (false, []), (false, []), (false, []), (false, []), (false, []), (false, []), (false, []), (false, []), (false, []), (false, []), (false, []), (false, []), (false, [])] (by kernel_rfl) rfl (by simp [h4, h6])) ?_
  refine AWp.ret ?_
  obtain rfl := some_inj hr
  refine fin_ret ?_
  simp

@[simp] noncomputable def gLadderLadderEnough.S : Sp
  | [.ptr i0 0, .lit (.int .i64 x1), .lit (.int .i64 x2)], M => match M[i0]? with
    | some (.blk c0) => some { av := .lit (.bool ((gLadderLadderEnough (LadderLadder.dec c0) x1 x2).getD dflt)), M := none, obl := c0 = LadderLadder.enc (LadderLadder.dec c0) ∧ (gLadderLadderEnough (LadderLadder.dec c0) x1 x2).isSome = true }
    | _ => none
  | _, _ => none

set_option maxHeartbeats 1000000 in
theorem gLadderLadderEnough.ok : SpecOk Try.prog 31 gLadderLadderEnough.S := by
  intro l M out h
  unfold gLadderLadderEnough.S at h
  split at h
  · rename_i i0 x1 x2
    split at h
    case h_2 => cases h
    rename_i c0 hM0
    cases h
    refine callOk_of fun ho => ?_
    obtain ⟨oy0, hs⟩ := ho
    generalize (LadderLadder.dec c0) = y0 at *
    subst oy0
    obtain ⟨r, hr⟩ := Option.isSome_iff_exists.1 hs
    simp only [hr, Option.getD_some]
    have q := call_frame (M := M) [i0] (gLadderLadderEnough.can y0 x1 x2 r hr) (by simp) rfl (by intro k i hk; (cases k with | zero => (simp at hk; subst hk; simp [hM0]) | succ k => (simp at hk)))
    exact callOk_conv q trivial (by simp [into]) (by simp [frameOut, gLadderLadderEnough.out]) (by simp only [frameOut, gLadderLadderEnough.out, Option.getD_some, Option.getD_none]; simp [hM0, set_same])
  · cases h

@[simp] def gLadderLadderTick.out (_x0 : LadderLadder) (_x1 : Int) (r : Bool × LadderLadder) : Out := { av := .lit (.bool r.1), M := some [.blk [.lit (.int .i64 r.2.fConfig.fDown), .lit (.int .i64 r.2.fConfig.fUp), .lit (.int .i64 r.2.fConfig.fSpare), .sl (r.2.fNeeds.map (encI .i64)) .no, .lit (.int .i64 r.2.fAt), .lit (.int .i64 r.2.fMost), .lit (.int .i64 r.2.fBad), .lit (.int .i64 r.2.fGood), .lit (.int .i64 r.2.fMoves)]] }
def gLadderLadderTick.fin (x0 : LadderLadder) (x1 : Int) (r : Bool × LadderLadder) (σ : St) : Prop := finK (gLadderLadderTick.out x0 x1 r) [.blk [.lit (.int .i64 x0.fConfig.fDown), .lit (.int .i64 x0.fConfig.fUp), .lit (.int .i64 x0.fConfig.fSpare), .sl (x0.fNeeds.map (encI .i64)) .no, .lit (.int .i64 x0.fAt), .lit (.int .i64 x0.fMost), .lit (.int .i64 x0.fBad), .lit (.int .i64 x0.fGood), .lit (.int .i64 x0.fMoves)]] σ.M (resA Try.ty σ.A σ.M Try.f19.results.toList)
set_option maxHeartbeats 4000000 in
set_option maxRecDepth 100000 in
theorem gLadderLadderTick.can (x0 : LadderLadder) (x1 : Int) (r : Bool × LadderLadder) (hr : gLadderLadderTick x0 x1 = some r) : CallOk Try.prog 19 [.ptr 0 0, .lit (.int .i64 x1)] [.blk [.lit (.int .i64 x0.fConfig.fDown), .lit (.int .i64 x0.fConfig.fUp), .lit (.int .i64 x0.fConfig.fSpare), .sl (x0.fNeeds.map (encI .i64)) .no, .lit (.int .i64 x0.fAt), .lit (.int .i64 x0.fMost), .lit (.int .i64 x0.fBad), .lit (.int .i64 x0.fGood), .lit (.int .i64 x0.fMoves)]] (gLadderLadderTick.out x0 x1 r) := by
  unfold gLadderLadderTick at hr
  have hΓ := (gamL_cons gLadderLadderEnough.ok (gamL_cons gLadderLadderStep.ok (gamL_nil)) : GamOk Try.prog _)
  refine call_of_awp Try.tyOk Try.func19 rfl (by kernel_rfl) rfl rfl (by simp) ?_
  intro _ _ _
  refine AWp.then ⟨[⟨0, none, .ptr 0 0⟩, ⟨1, none, .lit (.int .i64 x1)⟩], [.blk [.lit (.int .i64 x0.fConfig.fDown), .lit (.int .i64 x0.fConfig.fUp), .lit (.int .i64 x0.fConfig.fSpare), .sl (x0.fNeeds.map (encI .i64)) .no, .lit (.int .i64 x0.fAt), .lit (.int .i64 x0.fMost), .lit (.int .i64 x0.fBad), .lit (.int .i64 x0.fGood), .lit (.int .i64 x0.fMoves)]]⟩ (AWp.reg Try.tyOk hΓ (keep := []) (dead := []) (by kernel_rfl) rfl (by simp)) ?_
  refine AWp.meetF (fun (v1 : LadderLadder) (γ1 : Unit) => ⟨[], [.blk [.lit (.int .i64 v1.fConfig.fDown), .lit (.int .i64 v1.fConfig.fUp), .lit (.int .i64 v1.fConfig.fSpare), .sl (v1.fNeeds.map (encI .i64)) .no, .lit (.int .i64 v1.fAt), .lit (.int .i64 v1.fMost), .lit (.int .i64 v1.fBad), .lit (.int .i64 v1.fGood), .lit (.int .i64 v1.fMoves)]]⟩) (gLadderLadderTick.fin x0 x1) hr (fun f hr => ?_) (fun v1 γ1 hr => ?_) (fun _ h => h)
  · refine AWp.block ?_
    obtain ⟨h9, hr⟩ := need_some hr
    refine AWp.then ⟨[⟨11, none, .lit (.bool (pickB (ltI x1 (nthI x0.fNeeds x0.fAt)) (ltI 0 x0.fAt) false))⟩, ⟨0, none, .ptr 0 0⟩, ⟨1, none, .lit (.int .i64 x1)⟩], [.blk [.lit (.int .i64 x0.fConfig.fDown), .lit (.int .i64 x0.fConfig.fUp), .lit (.int .i64 x0.fConfig.fSpare), .sl (x0.fNeeds.map (encI .i64)) .no, .lit (.int .i64 x0.fAt), .lit (.int .i64 x0.fMost), .lit (.int .i64 x0.fBad), .lit (.int .i64 x0.fGood), .lit (.int .i64 x0.fMoves)]]⟩ (AWp.regD Try.mixed Try.tyOk hΓ (keep := [11]) (dead := []) [] [(false, []), (false, []), (false, []), (false, []), (false, []), (false, []), (false, []), (false, []), (false, []), (false, []), (false, []), (false, []), (false, []), (false, [24]), (false, [24]), (false, [24]), (false, [24]), (false, [24]), (false, []), (false, [])] (by kernel_rfl) rfl (by simp [h9])) ?_
    refine AWp.cond (b := (pickB (ltI x1 (nthI x0.fNeeds x0.fAt)) (ltI 0 x0.fAt) false)) (by simp) (fun h10 => ?_) (fun h10 => ?_)
    · have hr := cond_t h10 hr
      refine AWp.then ⟨[⟨0, none, .ptr 0 0⟩], [.blk [.lit (.int .i64 x0.fConfig.fDown), .lit (.int .i64 x0.fConfig.fUp), .lit (.int .i64 x0.fConfig.fSpare), .sl (x0.fNeeds.map (encI .i64)) .no, .lit (.int .i64 x0.fAt), .lit (.int .i64 x0.fMost), .lit (.int .i64 x0.fBad), .lit (.int .i64 0), .lit (.int .i64 x0.fMoves)]]⟩ (AWp.reg Try.tyOk hΓ (keep := []) (dead := [11, 1]) (by kernel_rfl) rfl (by simp [h10])) ?_
      refine AWp.then ⟨[⟨0, none, .ptr 0 0⟩], [.blk [.lit (.int .i64 x0.fConfig.fDown), .lit (.int .i64 x0.fConfig.fUp), .lit (.int .i64 x0.fConfig.fSpare), .sl (x0.fNeeds.map (encI .i64)) .no, .lit (.int .i64 x0.fAt), .lit (.int .i64 x0.fMost), .lit (.int .i64 (addI .i64 x0.fBad 1)), .lit (.int .i64 0), .lit (.int .i64 x0.fMoves)]]⟩ (AWp.reg Try.tyOk hΓ (keep := []) (dead := []) (by kernel_rfl) rfl (by simp)) ?_
      refine AWp.then ⟨[⟨50, none, .lit (.bool (leI x0.fConfig.fDown (addI .i64 x0.fBad 1)))⟩, ⟨0, none, .ptr 0 0⟩], [.blk [.lit (.int .i64 x0.fConfig.fDown), .lit (.int .i64 x0.fConfig.fUp), .lit (.int .i64 x0.fConfig.fSpare), .sl (x0.fNeeds.map (encI .i64)) .no, .lit (.int .i64 x0.fAt), .lit (.int .i64 x0.fMost), .lit (.int .i64 (addI .i64 x0.fBad 1)), .lit (.int .i64 0), .lit (.int .i64 x0.fMoves)]]⟩ (AWp.regD Try.mixed Try.tyOk hΓ (keep := [50]) (dead := []) [] [(false, []), (false, []), (false, []), (false, []), (false, []), (false, []), (false, []), (false, []), (false, []), (false, [])] (by kernel_rfl) rfl (by simp)) ?_
      refine AWp.cond (b := (leI x0.fConfig.fDown (addI .i64 x0.fBad 1))) (by simp) (fun h11 => ?_) (fun h11 => ?_)
      · have hr := cond_t h11 hr
        obtain ⟨r1, h12, hr⟩ := bind_some' hr
        refine AWp.then ⟨[], [.blk [.lit (.int .i64 r1.fConfig.fDown), .lit (.int .i64 r1.fConfig.fUp), .lit (.int .i64 r1.fConfig.fSpare), .sl (r1.fNeeds.map (encI .i64)) .no, .lit (.int .i64 r1.fAt), .lit (.int .i64 r1.fMost), .lit (.int .i64 r1.fBad), .lit (.int .i64 r1.fGood), .lit (.int .i64 r1.fMoves)]]⟩ (AWp.reg Try.tyOk hΓ (keep := []) (dead := [50, 0]) (by kernel_rfl) rfl (by simp [h11, h12])) ?_
        refine AWp.then ⟨[⟨4, none, .lit (.bool true)⟩], [.blk [.lit (.int .i64 r1.fConfig.fDown), .lit (.int .i64 r1.fConfig.fUp), .lit (.int .i64 r1.fConfig.fSpare), .sl (r1.fNeeds.map (encI .i64)) .no, .lit (.int .i64 r1.fAt), .lit (.int .i64 r1.fMost), .lit (.int .i64 r1.fBad), .lit (.int .i64 r1.fGood), .lit (.int .i64 r1.fMoves)]]⟩ (AWp.reg Try.tyOk hΓ (keep := [4]) (dead := []) (by kernel_rfl) rfl (by simp)) ?_
        refine AWp.ret ?_
        obtain rfl := some_inj hr
        refine meet_ret ?_
        refine fin_ret ?_
        simp
      · have hr := cond_f h11 hr
        refine AWp.skip ?_
        obtain rfl := some_inj hr
        exact meet_go () 1 (by simp)
    · have hr := cond_f h10 hr
      obtain ⟨h13, hr⟩ := need_some hr
      refine AWp.then ⟨[⟨58, none, .lit (.bool (pickB (ltI x0.fAt x0.fMost) ((gLadderLadderEnough x0 x1 (addI .i64 x0.fAt 1)).getD dflt) false))⟩, ⟨0, none, .ptr 0 0⟩], [.blk [.lit (.int .i64 x0.fConfig.fDown), .lit (.int .i64 x0.fConfig.fUp), .lit (.int .i64 x0.fConfig.fSpare), .sl (x0.fNeeds.map (encI .i64)) .no, .lit (.int .i64 x0.fAt), .lit (.int .i64 x0.fMost), .lit (.int .i64 x0.fBad), .lit (.int .i64 x0.fGood), .lit (.int .i64 x0.fMoves)]]⟩ (AWp.regD Try.mixed Try.tyOk hΓ (keep := [58]) (dead := [11, 1]) [] [(false, []), (false, []), (false, []), (false, []), (false, []), (false, []), (false, []), (false, []), (false, []), (false, []), (false, [68]), (false, [68]), (false, [68]), (false, [68]), (false, [68]), (false, [68]), (false, [68]), (false, [68]), (false, []), (false, [])] (by kernel_rfl) rfl (by simp [h10, h13])) ?_
      refine AWp.cond (b := (pickB (ltI x0.fAt x0.fMost) ((gLadderLadderEnough x0 x1 (addI .i64 x0.fAt 1)).getD dflt) false)) (by simp) (fun h14 => ?_) (fun h14 => ?_)
      · have hr := cond_t h14 hr
        refine AWp.then ⟨[⟨0, none, .ptr 0 0⟩], [.blk [.lit (.int .i64 x0.fConfig.fDown), .lit (.int .i64 x0.fConfig.fUp), .lit (.int .i64 x0.fConfig.fSpare), .sl (x0.fNeeds.map (encI .i64)) .no, .lit (.int .i64 x0.fAt), .lit (.int .i64 x0.fMost), .lit (.int .i64 0), .lit (.int .i64 x0.fGood), .lit (.int .i64 x0.fMoves)]]⟩ (AWp.reg Try.tyOk hΓ (keep := []) (dead := [58]) (by kernel_rfl) rfl (by simp [h14])) ?_
        refine AWp.then ⟨[⟨0, none, .ptr 0 0⟩], [.blk [.lit (.int .i64 x0.fConfig.fDown), .lit (.int .i64 x0.fConfig.fUp), .lit (.int .i64 x0.fConfig.fSpare), .sl (x0.fNeeds.map (encI .i64)) .no, .lit (.int .i64 x0.fAt), .lit (.int .i64 x0.fMost), .lit (.int .i64 0), .lit (.int .i64 (addI .i64 x0.fGood 1)), .lit (.int .i64 x0.fMoves)]]⟩ (AWp.reg Try.tyOk hΓ (keep := []) (dead := []) (by kernel_rfl) rfl (by simp)) ?_
        refine AWp.then ⟨[⟨97, none, .lit (.bool (leI x0.fConfig.fUp (addI .i64 x0.fGood 1)))⟩, ⟨0, none, .ptr 0 0⟩], [.blk [.lit (.int .i64 x0.fConfig.fDown), .lit (.int .i64 x0.fConfig.fUp), .lit (.int .i64 x0.fConfig.fSpare), .sl (x0.fNeeds.map (encI .i64)) .no, .lit (.int .i64 x0.fAt), .lit (.int .i64 x0.fMost), .lit (.int .i64 0), .lit (.int .i64 (addI .i64 x0.fGood 1)), .lit (.int .i64 x0.fMoves)]]⟩ (AWp.regD Try.mixed Try.tyOk hΓ (keep := [97]) (dead := []) [] [(false, []), (false, []), (false, []), (false, []), (false, []), (false, []), (false, []), (false, []), (false, []), (false, [])] (by kernel_rfl) rfl (by simp)) ?_
        refine AWp.cond (b := (leI x0.fConfig.fUp (addI .i64 x0.fGood 1))) (by simp) (fun h15 => ?_) (fun h15 => ?_)
        · have hr := cond_t h15 hr
          obtain ⟨r2, h16, hr⟩ := bind_some' hr
          refine AWp.then ⟨[], [.blk [.lit (.int .i64 r2.fConfig.fDown), .lit (.int .i64 r2.fConfig.fUp), .lit (.int .i64 r2.fConfig.fSpare), .sl (r2.fNeeds.map (encI .i64)) .no, .lit (.int .i64 r2.fAt), .lit (.int .i64 r2.fMost), .lit (.int .i64 r2.fBad), .lit (.int .i64 r2.fGood), .lit (.int .i64 r2.fMoves)]]⟩ (AWp.reg Try.tyOk hΓ (keep := []) (dead := [97, 0]) (by kernel_rfl) rfl (by simp [h15, h16])) ?_
          refine AWp.then ⟨[⟨4, none, .lit (.bool true)⟩], [.blk [.lit (.int .i64 r2.fConfig.fDown), .lit (.int .i64 r2.fConfig.fUp), .lit (.int .i64 r2.fConfig.fSpare), .sl (r2.fNeeds.map (encI .i64)) .no, .lit (.int .i64 r2.fAt), .lit (.int .i64 r2.fMost), .lit (.int .i64 r2.fBad), .lit (.int .i64 r2.fGood), .lit (.int .i64 r2.fMoves)]]⟩ (AWp.reg Try.tyOk hΓ (keep := [4]) (dead := []) (by kernel_rfl) rfl (by simp)) ?_
          refine AWp.ret ?_
          obtain rfl := some_inj hr
          refine meet_ret ?_
          refine fin_ret ?_
          simp
        · have hr := cond_f h15 hr
          refine AWp.skip ?_
          obtain rfl := some_inj hr
          exact meet_go () 1 (by simp)
      · have hr := cond_f h14 hr
        refine AWp.last ⟨[], [.blk [.lit (.int .i64 x0.fConfig.fDown), .lit (.int .i64 x0.fConfig.fUp), .lit (.int .i64 x0.fConfig.fSpare), .sl (x0.fNeeds.map (encI .i64)) .no, .lit (.int .i64 x0.fAt), .lit (.int .i64 x0.fMost), .lit (.int .i64 0), .lit (.int .i64 0), .lit (.int .i64 x0.fMoves)]]⟩ (AWp.reg Try.tyOk hΓ (keep := []) (dead := [58, 0]) (by kernel_rfl) rfl (by simp [h14])) ?_
        obtain rfl := some_inj hr
        exact meet_go () 1 (by simp)
  · refine AWp.then ⟨[⟨4, none, .lit (.bool false)⟩], [.blk [.lit (.int .i64 v1.fConfig.fDown), .lit (.int .i64 v1.fConfig.fUp), .lit (.int .i64 v1.fConfig.fSpare), .sl (v1.fNeeds.map (encI .i64)) .no, .lit (.int .i64 v1.fAt), .lit (.int .i64 v1.fMost), .lit (.int .i64 v1.fBad), .lit (.int .i64 v1.fGood), .lit (.int .i64 v1.fMoves)]]⟩ (AWp.reg Try.tyOk hΓ (keep := [4]) (dead := []) (by kernel_rfl) rfl (by simp)) ?_
    refine AWp.ret ?_
    obtain rfl := some_inj hr
    refine fin_ret ?_
    simp

@[simp] noncomputable def gLadderLadderTick.S : Sp
  | [.ptr i0 0, .lit (.int .i64 x1)], M => match M[i0]? with
    | some (.blk c0) => some { av := .lit (.bool (((gLadderLadderTick (LadderLadder.dec c0) x1).getD dflt).1)), M := some (M.set i0 (.blk [.lit (.int .i64 (((gLadderLadderTick (LadderLadder.dec c0) x1).getD dflt).2.fConfig.fDown)), .lit (.int .i64 (((gLadderLadderTick (LadderLadder.dec c0) x1).getD dflt).2.fConfig.fUp)), .lit (.int .i64 (((gLadderLadderTick (LadderLadder.dec c0) x1).getD dflt).2.fConfig.fSpare)), .sl ((((gLadderLadderTick (LadderLadder.dec c0) x1).getD dflt).2.fNeeds).map (encI .i64)) .no, .lit (.int .i64 (((gLadderLadderTick (LadderLadder.dec c0) x1).getD dflt).2.fAt)), .lit (.int .i64 (((gLadderLadderTick (LadderLadder.dec c0) x1).getD dflt).2.fMost)), .lit (.int .i64 (((gLadderLadderTick (LadderLadder.dec c0) x1).getD dflt).2.fBad)), .lit (.int .i64 (((gLadderLadderTick (LadderLadder.dec c0) x1).getD dflt).2.fGood)), .lit (.int .i64 (((gLadderLadderTick (LadderLadder.dec c0) x1).getD dflt).2.fMoves))])), obl := c0 = LadderLadder.enc (LadderLadder.dec c0) ∧ (gLadderLadderTick (LadderLadder.dec c0) x1).isSome = true }
    | _ => none
  | _, _ => none

set_option maxHeartbeats 1000000 in
theorem gLadderLadderTick.ok : SpecOk Try.prog 19 gLadderLadderTick.S := by
  intro l M out h
  unfold gLadderLadderTick.S at h
  split at h
  · rename_i i0 x1
    split at h
    case h_2 => cases h
    rename_i c0 hM0
    cases h
    refine callOk_of fun ho => ?_
    obtain ⟨oy0, hs⟩ := ho
    generalize (LadderLadder.dec c0) = y0 at *
    subst oy0
    obtain ⟨r, hr⟩ := Option.isSome_iff_exists.1 hs
    simp only [hr, Option.getD_some]
    have q := call_frame (M := M) [i0] (gLadderLadderTick.can y0 x1 r hr) (by simp) rfl (by intro k i hk; (cases k with | zero => (simp at hk; subst hk; simp [hM0]) | succ k => (simp at hk)))
    exact callOk_conv q trivial (by simp [into]) (by simp [frameOut, gLadderLadderTick.out]) (by simp [frameOut, gLadderLadderTick.out])
  · cases h

@[simp] def gLadderLadderMoves.out (_x0 : LadderLadder) (r : Int) : Out := { av := .lit (.int .i64 r), M := none }
def gLadderLadderMoves.fin (x0 : LadderLadder) (r : Int) (σ : St) : Prop := finK (gLadderLadderMoves.out x0 r) [.blk [.lit (.int .i64 x0.fConfig.fDown), .lit (.int .i64 x0.fConfig.fUp), .lit (.int .i64 x0.fConfig.fSpare), .sl (x0.fNeeds.map (encI .i64)) .no, .lit (.int .i64 x0.fAt), .lit (.int .i64 x0.fMost), .lit (.int .i64 x0.fBad), .lit (.int .i64 x0.fGood), .lit (.int .i64 x0.fMoves)]] σ.M (resA Try.ty σ.A σ.M Try.f21.results.toList)
set_option maxHeartbeats 4000000 in
set_option maxRecDepth 100000 in
theorem gLadderLadderMoves.can (x0 : LadderLadder) (r : Int) (hr : gLadderLadderMoves x0 = some r) : CallOk Try.prog 21 [.ptr 0 0] [.blk [.lit (.int .i64 x0.fConfig.fDown), .lit (.int .i64 x0.fConfig.fUp), .lit (.int .i64 x0.fConfig.fSpare), .sl (x0.fNeeds.map (encI .i64)) .no, .lit (.int .i64 x0.fAt), .lit (.int .i64 x0.fMost), .lit (.int .i64 x0.fBad), .lit (.int .i64 x0.fGood), .lit (.int .i64 x0.fMoves)]] (gLadderLadderMoves.out x0 r) := by
  unfold gLadderLadderMoves at hr
  have hΓ := gamL_nil (P := Try.prog)
  refine call_of_awp Try.tyOk Try.func21 rfl (by kernel_rfl) rfl rfl (by simp) ?_
  intro _ _ _
  refine AWp.then ⟨[⟨0, none, .ptr 0 0⟩], [.blk [.lit (.int .i64 x0.fConfig.fDown), .lit (.int .i64 x0.fConfig.fUp), .lit (.int .i64 x0.fConfig.fSpare), .sl (x0.fNeeds.map (encI .i64)) .no, .lit (.int .i64 x0.fAt), .lit (.int .i64 x0.fMost), .lit (.int .i64 x0.fBad), .lit (.int .i64 x0.fGood), .lit (.int .i64 x0.fMoves)]]⟩ (AWp.reg Try.tyOk hΓ (keep := []) (dead := []) (by kernel_rfl) rfl (by simp)) ?_
  refine AWp.then ⟨[⟨2, none, .lit (.int .i64 x0.fMoves)⟩], [.blk [.lit (.int .i64 x0.fConfig.fDown), .lit (.int .i64 x0.fConfig.fUp), .lit (.int .i64 x0.fConfig.fSpare), .sl (x0.fNeeds.map (encI .i64)) .no, .lit (.int .i64 x0.fAt), .lit (.int .i64 x0.fMost), .lit (.int .i64 x0.fBad), .lit (.int .i64 x0.fGood), .lit (.int .i64 x0.fMoves)]]⟩ (AWp.reg Try.tyOk hΓ (keep := [2]) (dead := [0]) (by kernel_rfl) rfl (by simp)) ?_
  refine AWp.ret ?_
  obtain rfl := some_inj hr
  refine fin_ret ?_
  simp

@[simp] noncomputable def gLadderLadderMoves.S : Sp
  | [.ptr i0 0], M => match M[i0]? with
    | some (.blk c0) => some { av := .lit (.int .i64 ((gLadderLadderMoves (LadderLadder.dec c0)).getD dflt)), M := none, obl := c0 = LadderLadder.enc (LadderLadder.dec c0) ∧ (gLadderLadderMoves (LadderLadder.dec c0)).isSome = true }
    | _ => none
  | _, _ => none

set_option maxHeartbeats 1000000 in
theorem gLadderLadderMoves.ok : SpecOk Try.prog 21 gLadderLadderMoves.S := by
  intro l M out h
  unfold gLadderLadderMoves.S at h
  split at h
  · rename_i i0
    split at h
    case h_2 => cases h
    rename_i c0 hM0
    cases h
    refine callOk_of fun ho => ?_
    obtain ⟨oy0, hs⟩ := ho
    generalize (LadderLadder.dec c0) = y0 at *
    subst oy0
    obtain ⟨r, hr⟩ := Option.isSome_iff_exists.1 hs
    simp only [hr, Option.getD_some]
    have q := call_frame (M := M) [i0] (gLadderLadderMoves.can y0 r hr) (by simp) rfl (by intro k i hk; (cases k with | zero => (simp at hk; subst hk; simp [hM0]) | succ k => (simp at hk)))
    exact callOk_conv q trivial (by simp [into]) (by simp [frameOut, gLadderLadderMoves.out]) (by simp only [frameOut, gLadderLadderMoves.out, Option.getD_some, Option.getD_none]; simp [hM0, set_same])
  · cases h

@[simp] def gLadderNew.out (_x0 : LadderConfig) (_x1 : Int) (_x2 : List Int) (r : Option LadderLadder × Int) : Out := { av := .tup [(optC r.1 (.lit (.pointer none)) fun _ => .ptr 2 0), .lit (.int .i64 r.2)], M := some (optC r.1 [] fun m0 => [.dead, .dead, .blk [.lit (.int .i64 m0.fConfig.fDown), .lit (.int .i64 m0.fConfig.fUp), .lit (.int .i64 m0.fConfig.fSpare), .sl (m0.fNeeds.map (encI .i64)) .no, .lit (.int .i64 m0.fAt), .lit (.int .i64 m0.fMost), .lit (.int .i64 m0.fBad), .lit (.int .i64 m0.fGood), .lit (.int .i64 m0.fMoves)]]) }
def gLadderNew.fin (x0 : LadderConfig) (x1 : Int) (x2 : List Int) (r : Option LadderLadder × Int) (σ : St) : Prop := finK (gLadderNew.out x0 x1 x2 r) [] σ.M (resA Try.ty σ.A σ.M Try.f16.results.toList)
set_option maxHeartbeats 4000000 in
set_option maxRecDepth 100000 in
theorem gLadderNew.can (x0 : LadderConfig) (x1 : Int) (x2 : List Int) (r : Option LadderLadder × Int) (hr : gLadderNew x0 x1 x2 = some r) : CallOk Try.prog 16 [.agg [.lit (.int .i64 x0.fDown), .lit (.int .i64 x0.fUp), .lit (.int .i64 x0.fSpare)], .lit (.int .i64 x1), .sl (x2.map (encI .i64)) .no] [] (gLadderNew.out x0 x1 x2 r) := by
  unfold gLadderNew at hr
  have hΓ := (gamL_cons gLadderLadderWant.ok (gamL_cons gLadderConfigCheck.ok (gamL_cons libClone1.ok (gamL_cons gSlicesIsSortedIntInt.ok (gamL_nil)))) : GamOk Try.prog _)
  refine call_of_awp Try.tyOk Try.func16 rfl (by kernel_rfl) rfl rfl (by simp) ?_
  intro _ _ _
  refine AWp.then ⟨[⟨3, none, .ptr 0 0⟩, ⟨1, none, .lit (.int .i64 x1)⟩, ⟨2, none, .sl (x2.map (encI .i64)) .no⟩], [.blk [.lit (.int .i64 x0.fDown), .lit (.int .i64 x0.fUp), .lit (.int .i64 x0.fSpare)]]⟩ (AWp.reg Try.tyOk hΓ (keep := [3]) (dead := [0]) (by kernel_rfl) rfl (by simp)) ?_
  refine AWp.seq ?_
  obtain ⟨r1, h9, hr⟩ := bind_some' hr
  refine AWp.then ⟨[⟨8, none, .lit (.int .i64 r1)⟩, ⟨3, none, .ptr 0 0⟩, ⟨1, none, .lit (.int .i64 x1)⟩, ⟨2, none, .sl (x2.map (encI .i64)) .no⟩], [.blk [.lit (.int .i64 x0.fDown), .lit (.int .i64 x0.fUp), .lit (.int .i64 x0.fSpare)]]⟩ (AWp.reg Try.tyOk hΓ (keep := [8]) (dead := []) (by kernel_rfl) rfl (by simp [h9])) ?_
  refine AWp.then ⟨[⟨13, none, .lit (.bool (neI r1 0))⟩, ⟨8, none, .lit (.int .i64 r1)⟩, ⟨3, none, .ptr 0 0⟩, ⟨1, none, .lit (.int .i64 x1)⟩, ⟨2, none, .sl (x2.map (encI .i64)) .no⟩], [.blk [.lit (.int .i64 x0.fDown), .lit (.int .i64 x0.fUp), .lit (.int .i64 x0.fSpare)]]⟩ (AWp.reg Try.tyOk hΓ (keep := [13]) (dead := []) (by kernel_rfl) rfl (by simp)) ?_
  refine AWp.cond (b := (neI r1 0)) (by simp) (fun h10 => ?_) (fun h10 => ?_)
  · have hr := cond_t h10 hr
    refine AWp.then ⟨[⟨6, none, .lit (.pointer none)⟩, ⟨7, none, .lit (.int .i64 r1)⟩], [.blk [.lit (.int .i64 x0.fDown), .lit (.int .i64 x0.fUp), .lit (.int .i64 x0.fSpare)]]⟩ (AWp.reg Try.tyOk hΓ (keep := [6, 7]) (dead := [13, 8, 3, 1, 2]) (by kernel_rfl) rfl (by simp [h10])) ?_
    refine AWp.ret ?_
    obtain rfl := some_inj hr
    refine fin_ret ?_
    simp
  · have hr := cond_f h10 hr
    refine AWp.skip ?_
    refine AWp.seq ?_
    obtain ⟨h11, hr⟩ := need_some hr
    obtain ⟨h12, hr⟩ := need_some hr
    obtain ⟨h13, hr⟩ := need_some hr
    refine AWp.then ⟨[⟨42, none, .lit (.bool (pickB (pickB (pickB (pickB (ltI (lenL x2) 1) true (ltI 3 (lenL x2))) true (notB ((gSlicesIsSortedIntInt x2).getD dflt))) true (ltI (nthI x2 0) 0)) true (ltI 1099511627776 (nthI x2 (subI .i64 (lenL x2) 1)))))⟩, ⟨3, none, .ptr 0 0⟩, ⟨1, none, .lit (.int .i64 x1)⟩, ⟨2, none, .sl (x2.map (encI .i64)) .no⟩], [.blk [.lit (.int .i64 x0.fDown), .lit (.int .i64 x0.fUp), .lit (.int .i64 x0.fSpare)]]⟩ (AWp.reg Try.tyOk hΓ (keep := [42]) (dead := [13, 8]) (by kernel_rfl) rfl (by simp [h10, h11, h12, h13])) ?_
    refine AWp.cond (b := (pickB (pickB (pickB (pickB (ltI (lenL x2) 1) true (ltI 3 (lenL x2))) true (notB ((gSlicesIsSortedIntInt x2).getD dflt))) true (ltI (nthI x2 0) 0)) true (ltI 1099511627776 (nthI x2 (subI .i64 (lenL x2) 1))))) (by simp) (fun h14 => ?_) (fun h14 => ?_)
    · have hr := cond_t h14 hr
      refine AWp.then ⟨[⟨6, none, .lit (.pointer none)⟩, ⟨7, none, .lit (.int .i64 5)⟩], [.blk [.lit (.int .i64 x0.fDown), .lit (.int .i64 x0.fUp), .lit (.int .i64 x0.fSpare)]]⟩ (AWp.reg Try.tyOk hΓ (keep := [6, 7]) (dead := [42, 3, 1, 2]) (by kernel_rfl) rfl (by simp [h14])) ?_
      refine AWp.ret ?_
      obtain rfl := some_inj hr
      refine fin_ret ?_
      simp
    · have hr := cond_f h14 hr
      refine AWp.skip ?_
      obtain ⟨h15, hr⟩ := need_some hr
      refine AWp.then ⟨[⟨9, none, .ptr 2 0⟩, ⟨1, none, .lit (.int .i64 x1)⟩], [.blk [.lit (.int .i64 x0.fDown), .lit (.int .i64 x0.fUp), .lit (.int .i64 x0.fSpare)], .room 1, .blk [.lit (.int .i64 x0.fDown), .lit (.int .i64 x0.fUp), .lit (.int .i64 x0.fSpare), .sl (x2.map (encI .i64)) (.own 1 1 1), .lit (.int .i64 0), .lit (.int .i64 0), .lit (.int .i64 0), .lit (.int .i64 0), .lit (.int .i64 0)]]⟩ (AWp.regD Try.mixed Try.tyOk hΓ (keep := [9]) (dead := [42, 3, 2]) [(0, 3)] [(false, []), (false, []), (true, []), (false, []), (true, []), (false, [])] (by kernel_rfl) rfl (by simp [h14, h15])) ?_
      refine AWp.conv (m := 3) (σ' := ⟨[⟨9, none, .ptr 2 0⟩, ⟨1, none, .lit (.int .i64 x1)⟩], [.blk [.lit (.int .i64 x0.fDown), .lit (.int .i64 x0.fUp), .lit (.int .i64 x0.fSpare)], .room 1, .blk [.lit (.int .i64 x0.fDown), .lit (.int .i64 x0.fUp), .lit (.int .i64 x0.fSpare), .sl (x2.map (encI .i64)) .no, .lit (.int .i64 0), .lit (.int .i64 0), .lit (.int .i64 0), .lit (.int .i64 0), .lit (.int .i64 0)]]⟩) (by simp) ?_
      obtain ⟨r2, h16, hr⟩ := bind_some' hr
      refine AWp.then ⟨[⟨9, none, .ptr 2 0⟩], [.blk [.lit (.int .i64 x0.fDown), .lit (.int .i64 x0.fUp), .lit (.int .i64 x0.fSpare)], .room 1, .blk [.lit (.int .i64 r2.2.fConfig.fDown), .lit (.int .i64 r2.2.fConfig.fUp), .lit (.int .i64 r2.2.fConfig.fSpare), .sl (r2.2.fNeeds.map (encI .i64)) .no, .lit (.int .i64 r2.2.fAt), .lit (.int .i64 r2.2.fMost), .lit (.int .i64 r2.2.fBad), .lit (.int .i64 r2.2.fGood), .lit (.int .i64 r2.2.fMoves)]]⟩ (AWp.reg Try.tyOk hΓ (keep := []) (dead := [1]) (by kernel_rfl) rfl (by simp [h16])) ?_
      refine AWp.then ⟨[⟨9, none, .ptr 2 0⟩], [.blk [.lit (.int .i64 x0.fDown), .lit (.int .i64 x0.fUp), .lit (.int .i64 x0.fSpare)], .room 1, .blk [.lit (.int .i64 r2.2.fConfig.fDown), .lit (.int .i64 r2.2.fConfig.fUp), .lit (.int .i64 r2.2.fConfig.fSpare), .sl (r2.2.fNeeds.map (encI .i64)) .no, .lit (.int .i64 r2.2.fMost), .lit (.int .i64 r2.2.fMost), .lit (.int .i64 r2.2.fBad), .lit (.int .i64 r2.2.fGood), .lit (.int .i64 r2.2.fMoves)]]⟩ (AWp.reg Try.tyOk hΓ (keep := []) (dead := []) (by kernel_rfl) rfl (by simp)) ?_
      refine AWp.then ⟨[⟨6, none, .ptr 2 0⟩, ⟨7, none, .lit (.int .i64 0)⟩], [.blk [.lit (.int .i64 x0.fDown), .lit (.int .i64 x0.fUp), .lit (.int .i64 x0.fSpare)], .room 1, .blk [.lit (.int .i64 r2.2.fConfig.fDown), .lit (.int .i64 r2.2.fConfig.fUp), .lit (.int .i64 r2.2.fConfig.fSpare), .sl (r2.2.fNeeds.map (encI .i64)) .no, .lit (.int .i64 r2.2.fMost), .lit (.int .i64 r2.2.fMost), .lit (.int .i64 r2.2.fBad), .lit (.int .i64 r2.2.fGood), .lit (.int .i64 r2.2.fMoves)]]⟩ (AWp.reg Try.tyOk hΓ (keep := [6, 7]) (dead := [9]) (by kernel_rfl) rfl (by simp)) ?_
      refine AWp.ret ?_
      obtain rfl := some_inj hr
      refine fin_ret ?_
      simp

@[simp] noncomputable def gLadderNew.S : Sp
  | [.agg e0, .lit (.int .i64 x1), .sl e2 _], M => some { av := .tup [(optC (((gLadderNew (LadderConfig.dec e0) x1 (e2.map decI)).getD dflt).1) (.lit (.pointer none)) fun _ => .ptr (M.length + 2) 0), .lit (.int .i64 (((gLadderNew (LadderConfig.dec e0) x1 (e2.map decI)).getD dflt).2))], M := some (optC (((gLadderNew (LadderConfig.dec e0) x1 (e2.map decI)).getD dflt).1) M fun m0 => M ++ [.dead, .dead, .blk [.lit (.int .i64 m0.fConfig.fDown), .lit (.int .i64 m0.fConfig.fUp), .lit (.int .i64 m0.fConfig.fSpare), .sl (m0.fNeeds.map (encI .i64)) .no, .lit (.int .i64 m0.fAt), .lit (.int .i64 m0.fMost), .lit (.int .i64 m0.fBad), .lit (.int .i64 m0.fGood), .lit (.int .i64 m0.fMoves)]]), obl := WeakL e0 (LadderConfig.enc (LadderConfig.dec e0)) ∧ e2 = (e2.map decI).map (encI .i64) ∧ (gLadderNew (LadderConfig.dec e0) x1 (e2.map decI)).isSome = true }
  | _, _ => none

set_option maxHeartbeats 1000000 in
theorem gLadderNew.ok : SpecOk Try.prog 16 gLadderNew.S := by
  intro l M out h
  unfold gLadderNew.S at h
  split at h
  · rename_i e0 x1 e2 k2
    cases h
    refine callOk_of fun ho => ?_
    obtain ⟨ox0, ox2, hs⟩ := ho
    generalize (LadderConfig.dec e0) = x0 at *
    generalize (e2.map decI) = x2 at *
    subst ox2
    obtain ⟨r, hr⟩ := Option.isSome_iff_exists.1 hs
    simp only [hr, Option.getD_some]
    have q := call_frame (M := M) [] (gLadderNew.can x0 x1 x2 r hr) (by simp) rfl (by intro k i hk; simp at hk)
    cases hc : r.1 with
    | none => exact callOk_conv q trivial (by simp; exact ox0) (by simp [hc, frameOut, gLadderNew.out]) (by simp [hc, frameOut, gLadderNew.out])
    | some m0 => exact callOk_conv q trivial (by simp; exact ox0) (by simp [hc, frameOut, gLadderNew.out, into]) (by simp [hc, frameOut, gLadderNew.out, into])
  · cases h
end Go.Proofs

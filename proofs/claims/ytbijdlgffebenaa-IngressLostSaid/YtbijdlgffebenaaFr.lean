/- That these functions compute what their plain functions do. No condition. -/
import Derived.Test.YtbijdlgffebenaaQ05
import Derived.Test.YtbijdlgffebenaaTy
set_option maxRecDepth 100000
set_option maxHeartbeats 4000000
namespace Go.Proofs
open Go.Ab
theorem libClone7.ok : SpecOk Try.prog 53 (cloneS 7 48) := by
 intro l M out h
 unfold cloneS at h
 split at h
 ·rename_i els tok
  cases h
  refine callOk_nil ?_ ?_
  ·refine call_of_vc Try.mixed Try.tyOk gamL_nil (fun | 0 => [2] | 1 => [4] | 2 => [2] | 3 => [2] | _ => []) (fun _ => []) Try.func53 rfl (by kernel_rfl) rfl rfl (by simp) ?_
   intro _ hbM hbA
   simp [hbM]
  ·refine call_of_vc Try.mixed Try.tyOk gamL_nil (fun | 0 => [2] | 1 => [4] | 2 => [2] | 3 => [2] | _ => []) (fun _ => []) Try.func53 rfl (by kernel_rfl) rfl rfl (by simp) ?_
   intro ho hbM hbA
   simp at hbA ho
   simp [hbA, hbM, ho, appL]
   try exact ho.1
 ·cases h

@[simp] def gC.out (_x0 : Th) (r : Int) : Out := { av := .lit (.int .i64 r), M := none }
def gC.fin (x0 : Th) (r : Int) (σ : St) : Prop := finK (gC.out x0 r) [.blk x0.enc] σ.M (resA Try.ty σ.A σ.M Try.f46.results.toList)
theorem gC.can (x0 : Th) (r : Int) (hr : gC x0 = some r) : CallOk Try.prog 46 [.ptr 0 0] [.blk x0.enc] (gC.out x0 r) := by
 unfold gC at hr
 have hΓ := gamL_nil (P := Try.prog)
 refine Lf Try.tyOk Try.func46 rfl (by kernel_rfl) rfl rfl (by simp) ?_
 intro _ _ _
 refine AWp.then ⟨[⟨0, none, .ptr 0 0⟩], [.blk x0.enc]⟩ (AWp.reg Try.tyOk hΓ [] [] (by kernel_rfl) rfl (by simp)) ?_
 refine AWp.thenA [⟨2, none, .n (lenL x0.fw.fj)⟩] (AWp.reg Try.tyOk hΓ [2] [0] (by kernel_rfl) rfl (by simp)) ?_
 refine AWp.ret ?_
 obtain rfl := La hr
 refine Lg ?_
 simp

@[simp] noncomputable def gC.S : Sp
 | [.ptr i0 0], M => match M[i0]? with
  | some (.blk c0) => some { av := .lit (.int .i64 ((gC (Th.dec c0)).getD dflt)), M := none, obl := c0 = Th.enc (Th.dec c0) ∧ (gC (Th.dec c0)).isSome = true }
  | _ => none
 | _, _ => none

theorem gC.ok : SpecOk Try.prog 46 gC.S := by
 intro l M out h
 unfold gC.S at h
 split at h
 ·rename_i i0
  split at h
  case h_2 => cases h
  rename_i c0 hM0
  cases h
  refine callOk_of fun ho => ?_
  obtain ⟨oc0, hs⟩ := ho
  generalize (Th.dec c0) = y0 at *
  subst oc0
  obtain ⟨r, hr⟩ := Option.isSome_iff_exists.1 hs
  simp only [hr, Option.getD_some]
  have q := Lh (M := M) [i0] (gC.can y0 r hr) (by simp) rfl (by intro k i hk; (cases k with | zero => (simp at hk; subst hk; simp [hM0]) | succ k => (simp at hk)))
  exact callOk_conv q trivial (by simp [into]) (by simp [frameOut, gC.out]) (by simp only [frameOut, gC.out, Option.getD_some, Option.getD_none]; simp [hM0, set_same])
 ·cases h

@[simp] def gJ.out (_x0 : Th) (r : Int × Int) : Out := { av := .tup [.lit (.int .i64 r.1), .lit (.int .i64 r.2)], M := none }
def gJ.fin (x0 : Th) (r : Int × Int) (σ : St) : Prop := finK (gJ.out x0 r) [.blk x0.enc] σ.M (resA Try.ty σ.A σ.M Try.f29.results.toList)
theorem gJ.can (x0 : Th) (r : Int × Int) (hr : gJ x0 = some r) : CallOk Try.prog 29 [.ptr 0 0] [.blk x0.enc] (gJ.out x0 r) := by
 unfold gJ at hr
 have hΓ := gamL_nil (P := Try.prog)
 refine Lf Try.tyOk Try.func29 rfl (by kernel_rfl) rfl rfl (by simp) ?_
 intro _ _ _
 refine AWp.then ⟨[⟨0, none, .ptr 0 0⟩], [.blk x0.enc]⟩ (AWp.reg Try.tyOk hΓ [] [] (by kernel_rfl) rfl (by simp)) ?_
 refine AWp.thenA [⟨2, none, .n x0.fz⟩, ⟨3, none, .n x0.fe⟩] (AWp.regD Try.mixed Try.tyOk hΓ [2, 3] [0] [] [(false, []), (false, []), (false, []), (false, []), (false, []), (false, []), (false, []), (false, []), (false, []), (false, [])] (by kernel_rfl) rfl (by simp)) ?_
 refine AWp.ret ?_
 obtain rfl := La hr
 refine Lg ?_
 simp

@[simp] noncomputable def gJ.S : Sp
 | [.ptr i0 0], M => match M[i0]? with
  | some (.blk c0) => some { av := .tup [.lit (.int .i64 (((gJ (Th.dec c0)).getD dflt).1)), .lit (.int .i64 (((gJ (Th.dec c0)).getD dflt).2))], M := none, obl := c0 = Th.enc (Th.dec c0) ∧ (gJ (Th.dec c0)).isSome = true }
  | _ => none
 | _, _ => none

theorem gJ.ok : SpecOk Try.prog 29 gJ.S := by
 intro l M out h
 unfold gJ.S at h
 split at h
 ·rename_i i0
  split at h
  case h_2 => cases h
  rename_i c0 hM0
  cases h
  refine callOk_of fun ho => ?_
  obtain ⟨oc0, hs⟩ := ho
  generalize (Th.dec c0) = y0 at *
  subst oc0
  obtain ⟨r, hr⟩ := Option.isSome_iff_exists.1 hs
  simp only [hr, Option.getD_some]
  have q := Lh (M := M) [i0] (gJ.can y0 r hr) (by simp) rfl (by intro k i hk; (cases k with | zero => (simp at hk; subst hk; simp [hM0]) | succ k => (simp at hk)))
  exact callOk_conv q trivial (by simp [into]) (by simp [frameOut, gJ.out]) (by simp only [frameOut, gJ.out, Option.getD_some, Option.getD_none]; simp [hM0, set_same])
 ·cases h

@[simp] def gG.out (_x0 : Tl) (r : Bool) : Out := { av := .lit (.bool r), M := none }
def gG.fin (x0 : Tl) (r : Bool) (σ : St) : Prop := finK (gG.out x0 r) [] σ.M (resA Try.ty σ.A σ.M Try.f12.results.toList)
theorem gG.can (x0 : Tl) (r : Bool) (hr : gG x0 = some r) : CallOk Try.prog 12 [.agg [.sl (x0.fj.map Tc.enc) .no]] [] (gG.out x0 r) := by
 unfold gG at hr
 have hΓ := gamL_nil (P := Try.prog)
 refine Lf Try.tyOk Try.func12 rfl (by kernel_rfl) rfl rfl (by simp) ?_
 intro _ _ _
 refine AWp.then ⟨[⟨1, none, .ptr 0 0⟩], [.blk [.sl (x0.fj.map Tc.enc) .no]]⟩ (AWp.reg Try.tyOk hΓ [1] [0] (by kernel_rfl) rfl (by simp)) ?_
 obtain ⟨h2, hr⟩ := Li hr
 refine AWp.thenA [⟨2, none, .b (pickB (ltI 0 (lenL x0.fj)) ((nthI x0.fj 0).fJ) false)⟩] (AWp.reg Try.tyOk hΓ [2] [1] (by kernel_rfl) rfl (by simp [h2])) ?_
 refine AWp.ret ?_
 obtain rfl := La hr
 refine Lg ?_
 simp

@[simp] noncomputable def gG.S : Sp
 | [.agg e0], _ => some { av := .lit (.bool ((gG (Tl.dec e0)).getD dflt)), M := none, obl := WeakL e0 (Tl.enc (Tl.dec e0)) ∧ (gG (Tl.dec e0)).isSome = true }
 | _, _ => none

theorem gG.ok : SpecOk Try.prog 12 gG.S := by
 intro l M out h
 unfold gG.S at h
 split at h
 ·rename_i e0
  cases h
  refine callOk_of fun ho => ?_
  obtain ⟨ox0, hs⟩ := ho
  generalize (Tl.dec e0) = x0 at *
  obtain ⟨r, hr⟩ := Option.isSome_iff_exists.1 hs
  simp only [hr, Option.getD_some]
  have q := Lh (M := M) [] (gG.can x0 r hr) (by simp) rfl (by intro k i hk; simp at hk)
  exact callOk_conv q trivial (by simp; exact ox0) (by simp [frameOut, gG.out]) (by simp [frameOut, gG.out])
 ·cases h

@[simp] def gn.out (_x0 : Tl) (r : Int) : Out := { av := .lit (.int .i64 r), M := none }
def gn.fin (x0 : Tl) (r : Int) (σ : St) : Prop := finK (gn.out x0 r) [] σ.M (resA Try.ty σ.A σ.M Try.f54.results.toList)
theorem gn.can (x0 : Tl) (r : Int) (hr : gn x0 = some r) : CallOk Try.prog 54 [.agg [.sl (x0.fj.map Tc.enc) .no]] [] (gn.out x0 r) := by
 unfold gn at hr
 have hΓ := gamL_nil (P := Try.prog)
 refine Lf Try.tyOk Try.func54 rfl (by kernel_rfl) rfl rfl (by simp) ?_
 intro _ _ _
 refine AWp.then ⟨[⟨1, none, .ptr 0 0⟩], [.blk [.sl (x0.fj.map Tc.enc) .no]]⟩ (AWp.reg Try.tyOk hΓ [1] [0] (by kernel_rfl) rfl (by simp)) ?_
 refine AWp.thenA [⟨3, none, .n 0⟩, ⟨1, none, .ptr 0 0⟩] (AWp.reg Try.tyOk hΓ [3] [] (by kernel_rfl) rfl (by simp)) ?_
 refine AWp.seq ?_
 refine AWp.then ⟨[⟨7, none, .sl (x0.fj.map Tc.enc) .no⟩, ⟨8, none, .n (lenL x0.fj)⟩, ⟨9, none, .n 0⟩, ⟨3, none, .n 0⟩], [.blk [.sl (x0.fj.map Tc.enc) .no]]⟩ (AWp.reg Try.tyOk hΓ [7, 8, 9] [1] (by kernel_rfl) rfl (by simp)) ?_
 refine AWp.loopE (fun (s1 : Int × Int) (γ1 : Unit) => ⟨[⟨7, none, .sl (x0.fj.map Tc.enc) .no⟩, ⟨8, none, .n (lenL x0.fj)⟩, ⟨9, none, .n s1.1⟩, ⟨3, none, .n s1.2⟩], [.blk [.sl (x0.fj.map Tc.enc) .no]]⟩) (fun (v1 : Int) (γ1a : Unit) => ⟨[⟨3, none, .n v1⟩], [.blk [.sl (x0.fj.map Tc.enc) .no]]⟩) (gn.fin x0) hr () 1 (by simp) (fun s1 f γ1 hr => ?_) (fun v1 γ1a σ1 m1 hr hc => ?_) (fun _ h => h)
 ·unfold gn.loop1 at hr
  refine AWp.then ⟨[⟨10, none, .b (ltI s1.1 (lenL x0.fj))⟩, ⟨7, none, .sl (x0.fj.map Tc.enc) .no⟩, ⟨8, none, .n (lenL x0.fj)⟩, ⟨9, none, .n s1.1⟩, ⟨3, none, .n s1.2⟩], [.blk [.sl (x0.fj.map Tc.enc) .no]]⟩ (AWp.reg Try.tyOk hΓ [10] [] (by kernel_rfl) rfl (by simp)) ?_
  refine AWp.seq ?_
  refine AWp.cond (b := (ltI s1.1 (lenL x0.fj))) (by simp) (fun h3 => ?_) (fun h3 => ?_)
  ·have hr := Lj h3 hr
   refine AWp.skip ?_
   refine AWp.seq ?_
   refine AWp.block ?_
   obtain ⟨h4, hr⟩ := Li hr
   refine AWp.then ⟨[⟨5, none, .ptr 1 0⟩, ⟨7, none, .sl (x0.fj.map Tc.enc) .no⟩, ⟨8, none, .n (lenL x0.fj)⟩, ⟨9, none, .n s1.1⟩, ⟨3, none, .n s1.2⟩], [.blk [.sl (x0.fj.map Tc.enc) .no], .blk (nthI x0.fj s1.1).enc]⟩ (AWp.reg Try.tyOk hΓ [5] [10] (by kernel_rfl) rfl (by simp [h3, h4])) ?_
   refine AWp.last ⟨[⟨3, none, .n (addI .i64 s1.2 (lenS ((nthI x0.fj s1.1).fT)))⟩, ⟨7, none, .sl (x0.fj.map Tc.enc) .no⟩, ⟨8, none, .n (lenL x0.fj)⟩, ⟨9, none, .n s1.1⟩], [.blk [.sl (x0.fj.map Tc.enc) .no], .blk (nthI x0.fj s1.1).enc]⟩ (AWp.reg Try.tyOk hΓ [3] [5] (by kernel_rfl) rfl (by simp)) ?_
   refine AWp.last ⟨[⟨9, none, .n (addI .i64 s1.1 1)⟩, ⟨3, none, .n (addI .i64 s1.2 (lenS ((nthI x0.fj s1.1).fT)))⟩, ⟨7, none, .sl (x0.fj.map Tc.enc) .no⟩, ⟨8, none, .n (lenL x0.fj)⟩], [.blk [.sl (x0.fj.map Tc.enc) .no], .blk (nthI x0.fj s1.1).enc]⟩ (AWp.reg Try.tyOk hΓ [9] [] (by kernel_rfl) rfl (by simp)) ?_
   obtain rfl := La hr
   exact round_go () 1 (by first | (simp; done) | simp [h3, h4])
  ·have hr := Lk h3 hr
   refine AWp.exit ?_
   obtain rfl := La hr
   exact round_out () 1 (by first | (simp; done) | simp [h3])
 ·refine AWp.conv hc ?_
  refine AWp.then ⟨[⟨2, none, .n v1⟩], [.blk [.sl (x0.fj.map Tc.enc) .no]]⟩ (AWp.reg Try.tyOk hΓ [2] [3] (by kernel_rfl) rfl (by simp)) ?_
  refine AWp.ret ?_
  obtain rfl := La hr
  refine Lg ?_
  simp

@[simp] noncomputable def gn.S : Sp
 | [.agg e0], _ => some { av := .lit (.int .i64 ((gn (Tl.dec e0)).getD dflt)), M := none, obl := WeakL e0 (Tl.enc (Tl.dec e0)) ∧ (gn (Tl.dec e0)).isSome = true }
 | _, _ => none

theorem gn.ok : SpecOk Try.prog 54 gn.S := by
 intro l M out h
 unfold gn.S at h
 split at h
 ·rename_i e0
  cases h
  refine callOk_of fun ho => ?_
  obtain ⟨ox0, hs⟩ := ho
  generalize (Tl.dec e0) = x0 at *
  obtain ⟨r, hr⟩ := Option.isSome_iff_exists.1 hs
  simp only [hr, Option.getD_some]
  have q := Lh (M := M) [] (gn.can x0 r hr) (by simp) rfl (by intro k i hk; simp at hk)
  exact callOk_conv q trivial (by simp; exact ox0) (by simp [frameOut, gn.out]) (by simp [frameOut, gn.out])
 ·cases h

@[simp] def gy.out (_x0 : Tp) (r : Int) : Out := { av := .lit (.int .i64 r), M := none }
def gy.fin (x0 : Tp) (r : Int) (σ : St) : Prop := finK (gy.out x0 r) [] σ.M (resA Try.ty σ.A σ.M Try.f22.results.toList)
theorem gy.can (x0 : Tp) (r : Int) (hr : gy x0 = some r) : CallOk Try.prog 22 [.agg [.lit (.bool x0.fu), .lit (.int .i64 x0.fv), .lit (.int .i64 x0.fj), .lit (.int .i64 x0.fq)]] [] (gy.out x0 r) := by
 unfold gy at hr
 have hΓ := gamL_nil (P := Try.prog)
 refine Lf Try.tyOk Try.func22 rfl (by kernel_rfl) rfl rfl (by simp) ?_
 intro _ _ _
 refine AWp.then ⟨[⟨1, none, .ptr 0 0⟩], [.blk x0.enc]⟩ (AWp.reg Try.tyOk hΓ [1] [0] (by kernel_rfl) rfl (by simp)) ?_
 refine AWp.seq ?_
 refine AWp.then ⟨[⟨30, none, .b (pickB (pickB (pickB (pickB (pickB (ltI x0.fv 1) true (ltI 1048576 x0.fv)) true (ltI x0.fj 1)) true (ltI 1024 x0.fj)) true (ltI x0.fq 0)) true (ltI 1099511627776 x0.fq))⟩], [.blk x0.enc]⟩ (AWp.reg Try.tyOk hΓ [30] [1] (by kernel_rfl) rfl (by simp)) ?_
 refine AWp.cond (b := (pickB (pickB (pickB (pickB (pickB (ltI x0.fv 1) true (ltI 1048576 x0.fv)) true (ltI x0.fj 1)) true (ltI 1024 x0.fj)) true (ltI x0.fq 0)) true (ltI 1099511627776 x0.fq))) (by simp) (fun h2 => ?_) (fun h2 => ?_)
 ·have hr := Lj h2 hr
  refine AWp.thenA [⟨2, none, .n 5⟩] (AWp.reg Try.tyOk hΓ [2] [30] (by kernel_rfl) rfl (by simp [h2])) ?_
  refine AWp.ret ?_
  obtain rfl := La hr
  refine Lg ?_
  simp
 ·have hr := Lk h2 hr
  refine AWp.skip ?_
  refine AWp.then ⟨[⟨2, none, .n 0⟩], [.blk x0.enc]⟩ (AWp.reg Try.tyOk hΓ [2] [30] (by kernel_rfl) rfl (by simp [h2])) ?_
  refine AWp.ret ?_
  obtain rfl := La hr
  refine Lg ?_
  simp

@[simp] noncomputable def gy.S : Sp
 | [.agg e0], _ => some { av := .lit (.int .i64 ((gy (Tp.dec e0)).getD dflt)), M := none, obl := WeakL e0 (Tp.enc (Tp.dec e0)) ∧ (gy (Tp.dec e0)).isSome = true }
 | _, _ => none

theorem gy.ok : SpecOk Try.prog 22 gy.S := by
 intro l M out h
 unfold gy.S at h
 split at h
 ·rename_i e0
  cases h
  refine callOk_of fun ho => ?_
  obtain ⟨ox0, hs⟩ := ho
  generalize (Tp.dec e0) = x0 at *
  obtain ⟨r, hr⟩ := Option.isSome_iff_exists.1 hs
  simp only [hr, Option.getD_some]
  have q := Lh (M := M) [] (gy.can x0 r hr) (by simp) rfl (by intro k i hk; simp at hk)
  exact callOk_conv q trivial (by simp; exact ox0) (by simp [frameOut, gy.out]) (by simp [frameOut, gy.out])
 ·cases h

@[simp] def gH.out (_x0 : Th) (r : Th) : Out := { av := .tup [], M := some [.blk [.lit (.bool r.fb.fu), .lit (.int .i64 r.fb.fv), .lit (.int .i64 r.fb.fj), .lit (.int .i64 r.fb.fq), .sl (r.fw.fj.map Tc.enc) .no, .lit (.int .i64 r.fz), .lit (.int .i64 r.fe)]] }
def gH.fin (x0 : Th) (r : Th) (σ : St) : Prop := finK (gH.out x0 r) [.blk x0.enc] σ.M (resA Try.ty σ.A σ.M Try.f47.results.toList)
theorem gH.can (x0 : Th) (r : Th) (hr : gH x0 = some r) : CallOk Try.prog 47 [.ptr 0 0] [.blk x0.enc] (gH.out x0 r) := by
 unfold gH at hr
 have hΓ := (gamL_cons gC.ok (gamL_nil) : GamOk Try.prog _)
 refine Lf Try.tyOk Try.func47 rfl (by kernel_rfl) rfl rfl (by simp) ?_
 intro _ _ _
 obtain ⟨r1, h2, hr⟩ := Lc hr
 refine AWp.then ⟨[⟨0, none, .ptr 0 0⟩], [.blk (x0.fb.enc ++ [.sl (x0.fw.fj.map Tc.enc) .no, .n x0.fz, .n (addI .i64 x0.fe r1)])]⟩ (AWp.regD Try.mixed Try.tyOk hΓ [] [] [] [(false, []), (false, []), (false, []), (false, []), (false, []), (false, []), (false, []), (false, []), (false, []), (true, [])] (by kernel_rfl) rfl (by simp [h2])) ?_
 refine AWp.last ⟨[], [.blk (x0.fb.enc ++ [.sl [] .no, .n x0.fz, .n (addI .i64 x0.fe r1)])]⟩ (AWp.reg Try.tyOk hΓ [] [0] (by kernel_rfl) rfl (by simp)) ?_
 obtain rfl := La hr
 refine fin_norm ?_
 simp

@[simp] noncomputable def gH.S : Sp
 | [.ptr i0 0], M => match M[i0]? with
  | some (.blk c0) => (fun (r : Th) => some { av := .tup [], M := some (M.set i0 (.blk [.lit (.bool (r.fb.fu)), .lit (.int .i64 (r.fb.fv)), .lit (.int .i64 (r.fb.fj)), .lit (.int .i64 (r.fb.fq)), .sl ((r.fw.fj).map Tc.enc) .no, .lit (.int .i64 (r.fz)), .lit (.int .i64 (r.fe))])), obl := c0 = Th.enc (Th.dec c0) ∧ (gH (Th.dec c0)).isSome = true }) ((gH (Th.dec c0)).getD dflt)
  | _ => none
 | _, _ => none

theorem gH.ok : SpecOk Try.prog 47 gH.S := by
 intro l M out h
 unfold gH.S at h
 split at h
 ·rename_i i0
  split at h
  case h_2 => cases h
  rename_i c0 hM0
  try dsimp only at h
  cases h
  refine callOk_of fun ho => ?_
  obtain ⟨oc0, hs⟩ := ho
  generalize (Th.dec c0) = y0 at *
  subst oc0
  obtain ⟨r, hr⟩ := Option.isSome_iff_exists.1 hs
  simp only [hr, Option.getD_some]
  have q := Lh (M := M) [i0] (gH.can y0 r hr) (by simp) rfl (by intro k i hk; (cases k with | zero => (simp at hk; subst hk; simp [hM0]) | succ k => (simp at hk)))
  exact callOk_conv q trivial (by simp [into]) (by simp [frameOut, gH.out]) (by simp [frameOut, gH.out])
 ·cases h

@[simp] def gF.out (_x0 : Th) (_x1 : Tc) (r : Bool) : Out := { av := .lit (.bool r), M := none }
def gF.fin (x0 : Th) (x1 : Tc) (r : Bool) (σ : St) : Prop := finK (gF.out x0 x1 r) [.blk x0.enc] σ.M (resA Try.ty σ.A σ.M Try.f52.results.toList)
theorem gF.can (x0 : Th) (x1 : Tc) (r : Bool) (hr : gF x0 x1 = some r) : CallOk Try.prog 52 [.ptr 0 0, .agg [.lit (.int .i64 x1.fAt), .lit (.int .i64 x1.fQ), .lit (.bool x1.fA), .lit (.bool x1.fy), .lit (.bool x1.fJ), .lit (.string x1.fT), .lit (.int .i64 x1.fO)]] [.blk x0.enc] (gF.out x0 x1 r) := by
 unfold gF at hr
 have hΓ := (gamL_cons gC.ok (gamL_nil) : GamOk Try.prog _)
 refine Lf Try.tyOk Try.func52 rfl (by kernel_rfl) rfl rfl (by simp) ?_
 intro _ _ _
 refine AWp.then ⟨[⟨3, none, .ptr 1 0⟩, ⟨0, none, .ptr 0 0⟩], [.blk x0.enc, .blk x1.enc]⟩ (AWp.reg Try.tyOk hΓ [3] [1] (by kernel_rfl) rfl (by simp)) ?_
 obtain ⟨r1, h4, hr⟩ := Lc hr
 refine AWp.thenA [⟨5, none, .n r1⟩, ⟨3, none, .ptr 1 0⟩, ⟨0, none, .ptr 0 0⟩] (AWp.reg Try.tyOk hΓ [5] [] (by kernel_rfl) rfl (by simp [h4])) ?_
 refine AWp.seq ?_
 refine AWp.then ⟨[⟨10, none, .b (eqI r1 0)⟩, ⟨5, none, .n r1⟩, ⟨3, none, .ptr 1 0⟩, ⟨0, none, .ptr 0 0⟩], [.blk x0.enc, .blk x1.enc]⟩ (AWp.reg Try.tyOk hΓ [10] [] (by kernel_rfl) rfl (by simp)) ?_
 refine AWp.cond (b := (eqI r1 0)) (by simp) (fun h5 => ?_) (fun h5 => ?_)
 ·have hr := Lj h5 hr
  refine AWp.thenA [⟨4, none, .b false⟩] (AWp.reg Try.tyOk hΓ [4] [10, 5, 3, 0] (by kernel_rfl) rfl (by simp [h5])) ?_
  refine AWp.ret ?_
  obtain rfl := La hr
  refine Lg ?_
  simp
 ·have hr := Lk h5 hr
  refine AWp.skip ?_
  obtain ⟨h6, hr⟩ := Li hr
  refine AWp.then ⟨[⟨6, none, .ptr 2 0⟩, ⟨3, none, .ptr 1 0⟩], [.blk x0.enc, .blk x1.enc, .blk (nthI x0.fw.fj (subI .i64 r1 1)).enc]⟩ (AWp.reg Try.tyOk hΓ [6] [10, 5, 0] (by kernel_rfl) rfl (by simp [h5, h6])) ?_
  refine AWp.thenA [⟨4, none, .b (pickB (pickB (eqI x1.fAt (addI .i64 ((nthI x0.fw.fj (subI .i64 r1 1)).fAt) 1)) (eqI x1.fQ ((nthI x0.fw.fj (subI .i64 r1 1)).fQ)) false) (notB x1.fy) false)⟩] (AWp.reg Try.tyOk hΓ [4] [6, 3] (by kernel_rfl) rfl (by simp)) ?_
  refine AWp.ret ?_
  obtain rfl := La hr
  refine Lg ?_
  simp

@[simp] noncomputable def gF.S : Sp
 | [.ptr i0 0, .agg e1], M => match M[i0]? with
  | some (.blk c0) => some { av := .lit (.bool ((gF (Th.dec c0) (Tc.dec e1)).getD dflt)), M := none, obl := WeakL e1 (Tc.enc (Tc.dec e1)) ∧ c0 = Th.enc (Th.dec c0) ∧ (gF (Th.dec c0) (Tc.dec e1)).isSome = true }
  | _ => none
 | _, _ => none

theorem gF.ok : SpecOk Try.prog 52 gF.S := by
 intro l M out h
 unfold gF.S at h
 split at h
 ·rename_i i0 e1
  split at h
  case h_2 => cases h
  rename_i c0 hM0
  cases h
  refine callOk_of fun ho => ?_
  obtain ⟨ox1, oc0, hs⟩ := ho
  generalize (Th.dec c0) = y0 at *
  generalize (Tc.dec e1) = x1 at *
  subst oc0
  obtain ⟨r, hr⟩ := Option.isSome_iff_exists.1 hs
  simp only [hr, Option.getD_some]
  have q := Lh (M := M) [i0] (gF.can y0 x1 r hr) (by simp) rfl (by intro k i hk; (cases k with | zero => (simp at hk; subst hk; simp [hM0]) | succ k => (simp at hk)))
  exact callOk_conv q trivial (by simp [into]; exact ox1) (by simp [frameOut, gF.out]) (by simp only [frameOut, gF.out, Option.getD_some, Option.getD_none]; simp [hM0, set_same])
 ·cases h

@[simp] def gae.out (_x0 : Tp) (r : Option Th × Int) : Out := { av := .tup [(optC r.1 (.lit (.pointer none)) fun _ => .ptr 1 0), .lit (.int .i64 r.2)], M := some (optC r.1 [] fun m0 => [.dead, .blk [.lit (.bool m0.fb.fu), .lit (.int .i64 m0.fb.fv), .lit (.int .i64 m0.fb.fj), .lit (.int .i64 m0.fb.fq), .sl (m0.fw.fj.map Tc.enc) .no, .lit (.int .i64 m0.fz), .lit (.int .i64 m0.fe)]]) }
def gae.fin (x0 : Tp) (r : Option Th × Int) (σ : St) : Prop := finK (gae.out x0 r) [] σ.M (resA Try.ty σ.A σ.M Try.f31.results.toList)
theorem gae.can (x0 : Tp) (r : Option Th × Int) (hr : gae x0 = some r) : CallOk Try.prog 31 [.agg [.lit (.bool x0.fu), .lit (.int .i64 x0.fv), .lit (.int .i64 x0.fj), .lit (.int .i64 x0.fq)]] [] (gae.out x0 r) := by
 unfold gae at hr
 have hΓ := (gamL_cons gy.ok (gamL_nil) : GamOk Try.prog _)
 refine Lf Try.tyOk Try.func31 rfl (by kernel_rfl) rfl rfl (by simp) ?_
 intro _ _ _
 refine AWp.then ⟨[⟨1, none, .ptr 0 0⟩], [.blk x0.enc]⟩ (AWp.reg Try.tyOk hΓ [1] [0] (by kernel_rfl) rfl (by simp)) ?_
 refine AWp.seq ?_
 obtain ⟨r1, h3, hr⟩ := Lc hr
 refine AWp.then ⟨[⟨4, none, .n r1⟩, ⟨1, none, .ptr 0 0⟩], [.blk x0.enc]⟩ (AWp.reg Try.tyOk hΓ [4] [] (by kernel_rfl) rfl (by simp [h3])) ?_
 refine AWp.thenA [⟨8, none, .b (neI r1 0)⟩, ⟨4, none, .n r1⟩, ⟨1, none, .ptr 0 0⟩] (AWp.reg Try.tyOk hΓ [8] [] (by kernel_rfl) rfl (by simp)) ?_
 refine AWp.cond (b := (neI r1 0)) (by simp) (fun h4 => ?_) (fun h4 => ?_)
 ·have hr := Lj h4 hr
  refine AWp.thenA [⟨2, none, .lit (.pointer none)⟩, ⟨3, none, .n r1⟩] (AWp.reg Try.tyOk hΓ [2, 3] [8, 4, 1] (by kernel_rfl) rfl (by simp [h4])) ?_
  refine AWp.ret ?_
  obtain rfl := La hr
  refine Lg ?_
  simp
 ·have hr := Lk h4 hr
  refine AWp.skip ?_
  refine AWp.then ⟨[⟨2, none, .ptr 1 0⟩, ⟨3, none, .n 0⟩], [.blk x0.enc, .blk (x0.enc ++ [.sl [] .no, .n 0, .n 0])]⟩ (AWp.reg Try.tyOk hΓ [2, 3] [8, 4, 1] (by kernel_rfl) rfl (by simp [h4])) ?_
  refine AWp.ret ?_
  obtain rfl := La hr
  refine Lg ?_
  simp

@[simp] noncomputable def gae.S : Sp
 | [.agg e0], M => some { av := .tup [(optC (((gae (Tp.dec e0)).getD dflt).1) (.lit (.pointer none)) fun _ => .ptr (M.length + 1) 0), .lit (.int .i64 (((gae (Tp.dec e0)).getD dflt).2))], M := some (optC (((gae (Tp.dec e0)).getD dflt).1) M fun m0 => M ++ [.dead, .blk [.lit (.bool m0.fb.fu), .lit (.int .i64 m0.fb.fv), .lit (.int .i64 m0.fb.fj), .lit (.int .i64 m0.fb.fq), .sl (m0.fw.fj.map Tc.enc) .no, .lit (.int .i64 m0.fz), .lit (.int .i64 m0.fe)]]), obl := WeakL e0 (Tp.enc (Tp.dec e0)) ∧ (gae (Tp.dec e0)).isSome = true }
 | _, _ => none

theorem gae.ok : SpecOk Try.prog 31 gae.S := by
 intro l M out h
 unfold gae.S at h
 split at h
 ·rename_i e0
  cases h
  refine callOk_of fun ho => ?_
  obtain ⟨ox0, hs⟩ := ho
  generalize (Tp.dec e0) = x0 at *
  obtain ⟨r, hr⟩ := Option.isSome_iff_exists.1 hs
  simp only [hr, Option.getD_some]
  have q := Lh (M := M) [] (gae.can x0 r hr) (by simp) rfl (by intro k i hk; simp at hk)
  cases hc : r.1 with
  | none => exact callOk_conv q trivial (by simp; exact ox0) (by simp [hc, frameOut, gae.out]) (by simp [hc, frameOut, gae.out])
  | some m0 => exact callOk_conv q trivial (by simp; exact ox0) (by simp [hc, frameOut, gae.out, into]) (by simp [hc, frameOut, gae.out, into])
 ·cases h

@[simp] def gP.out (_x0 : Th) (_x1 : Int) (r : Bool × Th) : Out := { av := .lit (.bool r.1), M := some [.blk [.lit (.bool r.2.fb.fu), .lit (.int .i64 r.2.fb.fv), .lit (.int .i64 r.2.fb.fj), .lit (.int .i64 r.2.fb.fq), .sl (r.2.fw.fj.map Tc.enc) .no, .lit (.int .i64 r.2.fz), .lit (.int .i64 r.2.fe)]] }
def gP.fin (x0 : Th) (x1 : Int) (r : Bool × Th) (σ : St) : Prop := finK (gP.out x0 x1 r) [.blk x0.enc] σ.M (resA Try.ty σ.A σ.M Try.f33.results.toList)
theorem gP.can (x0 : Th) (x1 : Int) (r : Bool × Th) (hr : gP x0 x1 = some r) : CallOk Try.prog 33 [.ptr 0 0, .lit (.int .i64 x1)] [.blk x0.enc] (gP.out x0 x1 r) := by
 unfold gP at hr
 have hΓ := (gamL_cons gC.ok (gamL_cons gH.ok (gamL_nil)) : GamOk Try.prog _)
 refine Lf Try.tyOk Try.func33 rfl (by kernel_rfl) rfl rfl (by simp) ?_
 intro _ _ _
 refine AWp.then ⟨[⟨0, none, .ptr 0 0⟩, ⟨1, none, .n x1⟩], [.blk x0.enc]⟩ (AWp.reg Try.tyOk hΓ [] [] (by kernel_rfl) rfl (by simp)) ?_
 refine AWp.seq ?_
 obtain ⟨r1, h5, hr⟩ := Lc hr
 obtain ⟨h6, hr⟩ := Li hr
 refine AWp.then ⟨[⟨25, none, .b (pickB (eqI r1 0) true (ltI (subI .i64 x1 ((nthI x0.fw.fj 0).fO)) x0.fb.fq))⟩, ⟨0, none, .ptr 0 0⟩], [.blk x0.enc]⟩ (AWp.regD Try.mixed Try.tyOk hΓ [25] [1] [] [(false, []), (false, []), (false, []), (false, []), (false, [8]), (false, [8]), (false, [8]), (false, [8]), (false, [8]), (false, [8]), (false, [8]), (false, [8]), (false, [8]), (false, [8]), (false, [8]), (false, [8]), (false, [8]), (false, [8]), (false, [8]), (false, [8]), (false, [])] (by kernel_rfl) rfl (by simp [h5, h6])) ?_
 refine AWp.cond (b := (pickB (eqI r1 0) true (ltI (subI .i64 x1 ((nthI x0.fw.fj 0).fO)) x0.fb.fq))) (by simp) (fun h7 => ?_) (fun h7 => ?_)
 ·have hr := Lj h7 hr
  refine AWp.thenA [⟨4, none, .b false⟩] (AWp.reg Try.tyOk hΓ [4] [25, 0] (by kernel_rfl) rfl (by simp [h7])) ?_
  refine AWp.ret ?_
  obtain rfl := La hr
  refine Lg ?_
  simp
 ·have hr := Lk h7 hr
  refine AWp.skip ?_
  obtain ⟨r2, h8, hr⟩ := Lc hr
  refine AWp.then ⟨[], [.blk r2.enc]⟩ (AWp.reg Try.tyOk hΓ [] [25, 0] (by kernel_rfl) rfl (by simp [h7, h8])) ?_
  refine AWp.thenA [⟨4, none, .b true⟩] (AWp.reg Try.tyOk hΓ [4] [] (by kernel_rfl) rfl (by simp)) ?_
  refine AWp.ret ?_
  obtain rfl := La hr
  refine Lg ?_
  simp

@[simp] noncomputable def gP.S : Sp
 | [.ptr i0 0, .lit (.int .i64 x1)], M => match M[i0]? with
  | some (.blk c0) => (fun (r : Bool × Th) => some { av := .lit (.bool (r.1)), M := some (M.set i0 (.blk [.lit (.bool (r.2.fb.fu)), .lit (.int .i64 (r.2.fb.fv)), .lit (.int .i64 (r.2.fb.fj)), .lit (.int .i64 (r.2.fb.fq)), .sl ((r.2.fw.fj).map Tc.enc) .no, .lit (.int .i64 (r.2.fz)), .lit (.int .i64 (r.2.fe))])), obl := c0 = Th.enc (Th.dec c0) ∧ (gP (Th.dec c0) x1).isSome = true }) ((gP (Th.dec c0) x1).getD dflt)
  | _ => none
 | _, _ => none

theorem gP.ok : SpecOk Try.prog 33 gP.S := by
 intro l M out h
 unfold gP.S at h
 split at h
 ·rename_i i0 x1
  split at h
  case h_2 => cases h
  rename_i c0 hM0
  try dsimp only at h
  cases h
  refine callOk_of fun ho => ?_
  obtain ⟨oc0, hs⟩ := ho
  generalize (Th.dec c0) = y0 at *
  subst oc0
  obtain ⟨r, hr⟩ := Option.isSome_iff_exists.1 hs
  simp only [hr, Option.getD_some]
  have q := Lh (M := M) [i0] (gP.can y0 x1 r hr) (by simp) rfl (by intro k i hk; (cases k with | zero => (simp at hk; subst hk; simp [hM0]) | succ k => (simp at hk)))
  exact callOk_conv q trivial (by simp [into]) (by simp [frameOut, gP.out]) (by simp [frameOut, gP.out])
 ·cases h

@[simp] def gV.out (_x0 : Th) (_x1 : Tc) (r : Tl × Bool × Th) : Out := { av := .tup [.agg [.sl (r.1.fj.map Tc.enc) .no], .lit (.bool r.2.1)], M := some [.blk [.lit (.bool r.2.2.fb.fu), .lit (.int .i64 r.2.2.fb.fv), .lit (.int .i64 r.2.2.fb.fj), .lit (.int .i64 r.2.2.fb.fq), .sl (r.2.2.fw.fj.map Tc.enc) .no, .lit (.int .i64 r.2.2.fz), .lit (.int .i64 r.2.2.fe)]] }
def gV.fin (x0 : Th) (x1 : Tc) (r : Tl × Bool × Th) (σ : St) : Prop := finK (gV.out x0 x1 r) [.blk x0.enc] σ.M (resA Try.ty σ.A σ.M Try.f43.results.toList)
theorem gV.can (x0 : Th) (x1 : Tc) (r : Tl × Bool × Th) (hr : gV x0 x1 = some r) : CallOk Try.prog 43 [.ptr 0 0, .agg [.lit (.int .i64 x1.fAt), .lit (.int .i64 x1.fQ), .lit (.bool x1.fA), .lit (.bool x1.fy), .lit (.bool x1.fJ), .lit (.string x1.fT), .lit (.int .i64 x1.fO)]] [.blk x0.enc] (gV.out x0 x1 r) := by
 unfold gV at hr
 have hΓ := (gamL_cons gC.ok (gamL_cons gH.ok (gamL_cons gF.ok (gamL_cons gn.ok (gamL_cons libClone7.ok (gamL_nil))))) : GamOk Try.prog _)
 refine Lf Try.tyOk Try.func43 rfl (by kernel_rfl) rfl rfl (by simp) ?_
 intro _ _ _
 refine AWp.then ⟨[⟨3, none, .ptr 1 0⟩, ⟨4, none, .ptr 2 0⟩, ⟨0, none, .ptr 0 0⟩], [.blk x0.enc, .blk x1.enc, .blk [.sl [] .full]]⟩ (AWp.reg Try.tyOk hΓ [3, 4] [1] (by kernel_rfl) rfl (by simp)) ?_
 refine AWp.meetF (fun (v1 : Th) (γ1 : Unit) => ⟨[⟨3, none, .ptr 1 0⟩, ⟨4, none, .ptr 2 0⟩, ⟨0, none, .ptr 0 0⟩], [.blk v1.enc, .blk x1.enc, .blk [.sl [] .full]]⟩) (gV.fin x0 x1) hr (fun f hr => ?_) (fun v1 γ1 hr => ?_) (fun _ h => h)
 ·obtain ⟨r1, h12, hr⟩ := Lc hr
  refine AWp.then ⟨[⟨10, none, .b (notB r1)⟩, ⟨3, none, .ptr 1 0⟩, ⟨4, none, .ptr 2 0⟩, ⟨0, none, .ptr 0 0⟩], [.blk x0.enc, .blk x1.enc, .blk [.sl [] .full]]⟩ (AWp.reg Try.tyOk hΓ [10] [] (by kernel_rfl) rfl (by simp [h12])) ?_
  refine AWp.cond (b := (notB r1)) (by simp) (fun h13 => ?_) (fun h13 => ?_)
  ·have hr := Lj h13 hr
   obtain ⟨r2, h14, hr⟩ := Lc hr
   refine AWp.then ⟨[⟨3, none, .ptr 1 0⟩, ⟨4, none, .ptr 2 0⟩, ⟨0, none, .ptr 0 0⟩], [.blk r2.enc, .blk x1.enc, .blk [.sl [] .full]]⟩ (AWp.reg Try.tyOk hΓ [] [10] (by kernel_rfl) rfl (by simp [h13, h14])) ?_
   refine AWp.thenA [⟨22, none, .b (pickB r2.fb.fu (notB x1.fy) false)⟩, ⟨3, none, .ptr 1 0⟩, ⟨4, none, .ptr 2 0⟩, ⟨0, none, .ptr 0 0⟩] (AWp.reg Try.tyOk hΓ [22] [] (by kernel_rfl) rfl (by simp)) ?_
   refine AWp.cond (b := (pickB r2.fb.fu (notB x1.fy) false)) (by simp) (fun h15 => ?_) (fun h15 => ?_)
   ·have hr := Lj h15 hr
    refine AWp.then ⟨[⟨4, none, .ptr 2 0⟩], [.blk (r2.fb.enc ++ [.sl (r2.fw.fj.map Tc.enc) .no, .n r2.fz, .n (addI .i64 r2.fe 1)]), .blk x1.enc, .blk [.sl [] .full]]⟩ (AWp.reg Try.tyOk hΓ [] [22, 3, 0] (by kernel_rfl) rfl (by simp [h15])) ?_
    refine AWp.then ⟨[⟨5, none, .b false⟩, ⟨4, none, .ptr 2 0⟩], [.blk (r2.fb.enc ++ [.sl (r2.fw.fj.map Tc.enc) .no, .n r2.fz, .n (addI .i64 r2.fe 1)]), .blk x1.enc, .blk [.sl [] .no]]⟩ (AWp.reg Try.tyOk hΓ [5] [] (by kernel_rfl) rfl (by simp)) ?_
    refine AWp.ret ?_
    obtain rfl := La hr
    refine meet_ret ?_
    refine Lg ?_
    simp
   ·have hr := Lk h15 hr
    refine AWp.skip ?_
    obtain rfl := La hr
    exact Lo () 3 (by first | (simp; done) | simp [h12, h13, h14, h15])
  ·have hr := Lk h13 hr
   refine AWp.skip ?_
   obtain rfl := La hr
   exact Lo () 3 (by first | (simp; done) | simp [h12, h13])
 ·obtain ⟨h16, hr⟩ := Li hr
  obtain ⟨h17, hr⟩ := Li hr
  refine AWp.then ⟨[⟨3, none, .ptr 1 0⟩, ⟨4, none, .ptr 2 0⟩, ⟨0, none, .ptr 0 0⟩], [.blk (v1.fb.enc ++ [.sl ((appL v1.fw.fj [x1]).map Tc.enc) (.own 3 2 7), .n v1.fz, .n v1.fe]), .blk x1.enc, .blk [.sl [] .full], .room 2]⟩ (AWp.regD Try.mixed Try.tyOk hΓ [] [] [(0, 7), (0, 10), (7, 0), (8, 0)] [(false, []), (false, []), (false, []), (false, []), (false, []), (false, []), (true, []), (false, []), (false, []), (true, []), (false, []), (false, []), (false, []), (true, [])] (by kernel_rfl) rfl (by simp [h16, h17])) ?_
  refine AWp.seq ?_
  refine AWp.conv (m := 4) (σ' := ⟨[⟨3, none, .ptr 1 0⟩, ⟨4, none, .ptr 2 0⟩, ⟨0, none, .ptr 0 0⟩], [.blk (v1.fb.enc ++ [.sl ((appL v1.fw.fj [x1]).map Tc.enc) .no, .n v1.fz, .n v1.fe]), .blk x1.enc, .blk [.sl [] .full], .room 2]⟩) (by simp) ?_
  obtain ⟨r3, h18, hr⟩ := Lc hr
  obtain ⟨h19, hr⟩ := Li hr
  refine AWp.then ⟨[⟨64, none, .b (pickB (ltI v1.fb.fj r3) true (ltI v1.fb.fv ((gn (Tl.mk (appL v1.fw.fj [x1]))).getD dflt)))⟩, ⟨3, none, .ptr 1 0⟩, ⟨4, none, .ptr 2 0⟩, ⟨0, none, .ptr 0 0⟩], [.blk (v1.fb.enc ++ [.sl ((appL v1.fw.fj [x1]).map Tc.enc) .no, .n v1.fz, .n v1.fe]), .blk x1.enc, .blk [.sl [] .full], .room 2]⟩ (AWp.regD Try.mixed Try.tyOk hΓ [64] [] [] [(false, []), (false, []), (false, []), (false, []), (false, []), (false, []), (false, []), (false, []), (false, []), (false, [52]), (false, [52]), (false, [52]), (false, [52]), (false, [52]), (false, [52]), (false, [52]), (false, [52]), (false, [52]), (false, [52]), (false, [52]), (false, [])] (by kernel_rfl) rfl (by simp [h18, h19])) ?_
  refine AWp.cond (b := (pickB (ltI v1.fb.fj r3) true (ltI v1.fb.fv ((gn (Tl.mk (appL v1.fw.fj [x1]))).getD dflt)))) (by simp) (fun h20 => ?_) (fun h20 => ?_)
  ·have hr := Lj h20 hr
   obtain ⟨r4, h21, hr⟩ := Lc hr
   refine AWp.then ⟨[⟨4, none, .ptr 2 0⟩], [.blk r4.enc, .blk x1.enc, .blk [.sl [] .full], .room 2]⟩ (AWp.reg Try.tyOk hΓ [] [64, 3, 0] (by kernel_rfl) rfl (by simp [h20, h21])) ?_
   refine AWp.then ⟨[⟨5, none, .b false⟩, ⟨4, none, .ptr 2 0⟩], [.blk r4.enc, .blk x1.enc, .blk [.sl [] .no], .room 2]⟩ (AWp.reg Try.tyOk hΓ [5] [] (by kernel_rfl) rfl (by simp)) ?_
   refine AWp.ret ?_
   obtain rfl := La hr
   refine Lg ?_
   simp
  ·have hr := Lk h20 hr
   refine AWp.skip ?_
   refine AWp.seq ?_
   refine AWp.then ⟨[⟨77, none, .b (pickB v1.fb.fu (notB x1.fA) false)⟩, ⟨4, none, .ptr 2 0⟩, ⟨0, none, .ptr 0 0⟩], [.blk (v1.fb.enc ++ [.sl ((appL v1.fw.fj [x1]).map Tc.enc) .no, .n v1.fz, .n v1.fe]), .blk x1.enc, .blk [.sl [] .full], .room 2]⟩ (AWp.reg Try.tyOk hΓ [77] [64, 3] (by kernel_rfl) rfl (by simp [h20])) ?_
   refine AWp.cond (b := (pickB v1.fb.fu (notB x1.fA) false)) (by simp) (fun h22 => ?_) (fun h22 => ?_)
   ·have hr := Lj h22 hr
    refine AWp.then ⟨[⟨5, none, .b false⟩, ⟨4, none, .ptr 2 0⟩], [.blk (v1.fb.enc ++ [.sl ((appL v1.fw.fj [x1]).map Tc.enc) .no, .n v1.fz, .n v1.fe]), .blk x1.enc, .blk [.sl [] .no], .room 2]⟩ (AWp.reg Try.tyOk hΓ [5] [77, 0] (by kernel_rfl) rfl (by simp [h22])) ?_
    refine AWp.ret ?_
    obtain rfl := La hr
    refine Lg ?_
    simp
   ·have hr := Lk h22 hr
    refine AWp.skip ?_
    refine AWp.then ⟨[⟨6, none, .ptr 4 0⟩, ⟨4, none, .ptr 2 0⟩, ⟨0, none, .ptr 0 0⟩], [.blk (v1.fb.enc ++ [.sl ((appL v1.fw.fj [x1]).map Tc.enc) .no, .n v1.fz, .n v1.fe]), .blk x1.enc, .blk [.sl [] .full], .room 2, .blk [.sl ((appL v1.fw.fj [x1]).map Tc.enc) .no]]⟩ (AWp.reg Try.tyOk hΓ [6] [77] (by kernel_rfl) rfl (by simp [h22])) ?_
    refine AWp.then ⟨[⟨6, none, .ptr 4 0⟩, ⟨4, none, .ptr 2 0⟩, ⟨0, none, .ptr 0 0⟩], [.blk (v1.fb.enc ++ [.sl [] .no, .n v1.fz, .n v1.fe]), .blk x1.enc, .blk [.sl [] .full], .room 2, .blk [.sl ((appL v1.fw.fj [x1]).map Tc.enc) .no]]⟩ (AWp.reg Try.tyOk hΓ [] [] (by kernel_rfl) rfl (by simp)) ?_
    refine AWp.then ⟨[⟨6, none, .ptr 4 0⟩, ⟨4, none, .ptr 2 0⟩], [.blk (v1.fb.enc ++ [.sl [] .no, .n (addI .i64 v1.fz 1), .n v1.fe]), .blk x1.enc, .blk [.sl [] .full], .room 2, .blk [.sl ((appL v1.fw.fj [x1]).map Tc.enc) .no]]⟩ (AWp.reg Try.tyOk hΓ [] [0] (by kernel_rfl) rfl (by simp)) ?_
    refine AWp.then ⟨[⟨5, none, .b true⟩, ⟨4, none, .ptr 2 0⟩], [.blk (v1.fb.enc ++ [.sl [] .no, .n (addI .i64 v1.fz 1), .n v1.fe]), .blk x1.enc, .blk [.sl ((appL v1.fw.fj [x1]).map Tc.enc) .no], .room 2, .blk [.sl ((appL v1.fw.fj [x1]).map Tc.enc) .no]]⟩ (AWp.reg Try.tyOk hΓ [5] [6] (by kernel_rfl) rfl (by simp)) ?_
    refine AWp.ret ?_
    obtain rfl := La hr
    refine Lg ?_
    simp

@[simp] noncomputable def gV.S : Sp
 | [.ptr i0 0, .agg e1], M => match M[i0]? with
  | some (.blk c0) => (fun (y1 : Tc) => (fun (r : Tl × Bool × Th) => some { av := .tup [.agg [.sl ((r.1.fj).map Tc.enc) .no], .lit (.bool (r.2.1))], M := some (M.set i0 (.blk [.lit (.bool (r.2.2.fb.fu)), .lit (.int .i64 (r.2.2.fb.fv)), .lit (.int .i64 (r.2.2.fb.fj)), .lit (.int .i64 (r.2.2.fb.fq)), .sl ((r.2.2.fw.fj).map Tc.enc) .no, .lit (.int .i64 (r.2.2.fz)), .lit (.int .i64 (r.2.2.fe))])), obl := WeakL e1 (Tc.enc y1) ∧ c0 = Th.enc (Th.dec c0) ∧ (gV (Th.dec c0) y1).isSome = true }) ((gV (Th.dec c0) y1).getD dflt)) (Tc.dec e1)
  | _ => none
 | _, _ => none

theorem gV.ok : SpecOk Try.prog 43 gV.S := by
 intro l M out h
 unfold gV.S at h
 split at h
 ·rename_i i0 e1
  split at h
  case h_2 => cases h
  rename_i c0 hM0
  try dsimp only at h
  cases h
  refine callOk_of fun ho => ?_
  obtain ⟨ox1, oc0, hs⟩ := ho
  generalize (Th.dec c0) = y0 at *
  generalize (Tc.dec e1) = x1 at *
  subst oc0
  obtain ⟨r, hr⟩ := Option.isSome_iff_exists.1 hs
  simp only [hr, Option.getD_some]
  have q := Lh (M := M) [i0] (gV.can y0 x1 r hr) (by simp) rfl (by intro k i hk; (cases k with | zero => (simp at hk; subst hk; simp [hM0]) | succ k => (simp at hk)))
  exact callOk_conv q trivial (by simp [into]; exact ox1) (by simp [frameOut, gV.out]) (by simp [frameOut, gV.out])
 ·cases h
end Go.Proofs

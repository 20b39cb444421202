/- That these functions compute what their plain functions do. No condition. -/
import Derived.Test.YtbijdlgffebenaaGreatM05
import Derived.Test.YtbijdlgffebenaaGreatTy
set_option maxRecDepth 100000
set_option maxHeartbeats 4000000
namespace Go.Proofs
open Go.Ab
theorem libClone7.ok : SpecOk Tryz.prog 69 (cloneS 7 48) := by
 intro l M out h
 unfold cloneS at h
 split at h
 ·rename_i els tok
  cases h
  refine callOk_nil ?_ ?_
  ·refine call_of_vc Tryz.mixed Tryz.tyOk gamL_nil (fun | 0 => [2] | 1 => [4] | 2 => [2] | 3 => [2] | _ => []) (fun _ => []) Tryz.func69 rfl (by kernel_rfl) rfl rfl (by simp) ?_
   intro _ hbM hbA
   simp [hbM]
  ·refine call_of_vc Tryz.mixed Tryz.tyOk gamL_nil (fun | 0 => [2] | 1 => [4] | 2 => [2] | 3 => [2] | _ => []) (fun _ => []) Tryz.func69 rfl (by kernel_rfl) rfl rfl (by simp) ?_
   intro ho hbM hbA
   simp at hbA ho
   simp [hbA, hbM, ho, appL]
   try exact ho.1
 ·cases h

@[simp] def gI.out (_x0 : Tn) (r : Int) : Out := { av := .lit (.int .i64 r), M := none }
theorem gI.can (x0 : Tn) (r : Int) (hr : gI x0 = some r) : CallOk Tryz.prog 57 [.ptr 0 0] [.blk x0.enc] (gI.out x0 r) := by
 unfold gI at hr
 have hΓ := gamL_nil (P := Tryz.prog)
 refine Le Tryz.tyOk Tryz.func57 rfl (by kernel_rfl) rfl rfl (by simp) ?_
 intro _ _ _
 refine AWp.then ⟨[⟨0, none, .ptr 0 0⟩], [.blk x0.enc]⟩ (AWp.reg Tryz.tyOk hΓ [] [] (by kernel_rfl) rfl (by simp)) ?_
 refine AWp.thenA [⟨2, none, .n (lenL x0.fv.fj)⟩] (AWp.reg Tryz.tyOk hΓ [2] [0] (by kernel_rfl) rfl (by simp)) ?_
 refine AWp.ret ?_
 obtain rfl := La hr
 refine Lf ?_
 simp

@[simp] noncomputable def gI.S : Sp
 | [.ptr i0 0], M => match M[i0]? with
  | some (.blk c0) => some { av := .lit (.int .i64 ((gI (Tn.dec c0)).getD dflt)), M := none, obl := c0 = Tn.enc (Tn.dec c0) ∧ (gI (Tn.dec c0)).isSome = true }
  | _ => none
 | _, _ => none

theorem gI.ok : SpecOk Tryz.prog 57 gI.S := by
 intro l M out h
 unfold gI.S at h
 split at h
 ·rename_i i0
  split at h
  case h_2 => cases h
  rename_i c0 hM0
  cases h
  refine callOk_of fun ho => ?_
  obtain ⟨oc0, hs⟩ := ho
  generalize (Tn.dec c0) = y0 at *
  subst oc0
  obtain ⟨r, hr⟩ := Option.isSome_iff_exists.1 hs
  simp only [hr, Option.getD_some]
  have q := Lg (M := M) [i0] (gI.can y0 r hr) (by simp) rfl (by intro k i hk; (cases k with | zero => (simp at hk; subst hk; simp [hM0]) | succ k => (simp at hk)))
  exact callOk_conv q trivial (by simp [into]) (by simp [frameOut, gI.out]) (by simp only [frameOut, gI.out, Option.getD_some, Option.getD_none]; simp [hM0, set_same])
 ·cases h

@[simp] def gad.out (_x0 : Tn) (r : Int × Int) : Out := { av := .tup [.lit (.int .i64 r.1), .lit (.int .i64 r.2)], M := none }
theorem gad.can (x0 : Tn) (r : Int × Int) (hr : gad x0 = some r) : CallOk Tryz.prog 34 [.ptr 0 0] [.blk x0.enc] (gad.out x0 r) := by
 unfold gad at hr
 have hΓ := gamL_nil (P := Tryz.prog)
 refine Le Tryz.tyOk Tryz.func34 rfl (by kernel_rfl) rfl rfl (by simp) ?_
 intro _ _ _
 refine AWp.then ⟨[⟨0, none, .ptr 0 0⟩], [.blk x0.enc]⟩ (AWp.reg Tryz.tyOk hΓ [] [] (by kernel_rfl) rfl (by simp)) ?_
 refine AWp.thenA [⟨2, none, .n x0.fy⟩, ⟨3, none, .n x0.fe⟩] (AWp.regD Tryz.mixed Tryz.tyOk hΓ [2, 3] [0] [] [(false, []), (false, []), (false, []), (false, []), (false, []), (false, []), (false, []), (false, []), (false, []), (false, [])] (by kernel_rfl) rfl (by simp)) ?_
 refine AWp.ret ?_
 obtain rfl := La hr
 refine Lf ?_
 simp

@[simp] noncomputable def gad.S : Sp
 | [.ptr i0 0], M => match M[i0]? with
  | some (.blk c0) => some { av := .tup [.lit (.int .i64 (((gad (Tn.dec c0)).getD dflt).1)), .lit (.int .i64 (((gad (Tn.dec c0)).getD dflt).2))], M := none, obl := c0 = Tn.enc (Tn.dec c0) ∧ (gad (Tn.dec c0)).isSome = true }
  | _ => none
 | _, _ => none

theorem gad.ok : SpecOk Tryz.prog 34 gad.S := by
 intro l M out h
 unfold gad.S at h
 split at h
 ·rename_i i0
  split at h
  case h_2 => cases h
  rename_i c0 hM0
  cases h
  refine callOk_of fun ho => ?_
  obtain ⟨oc0, hs⟩ := ho
  generalize (Tn.dec c0) = y0 at *
  subst oc0
  obtain ⟨r, hr⟩ := Option.isSome_iff_exists.1 hs
  simp only [hr, Option.getD_some]
  have q := Lg (M := M) [i0] (gad.can y0 r hr) (by simp) rfl (by intro k i hk; (cases k with | zero => (simp at hk; subst hk; simp [hM0]) | succ k => (simp at hk)))
  exact callOk_conv q trivial (by simp [into]) (by simp [frameOut, gad.out]) (by simp only [frameOut, gad.out, Option.getD_some, Option.getD_none]; simp [hM0, set_same])
 ·cases h

@[simp] def gJ.out (_x0 : Tl) (r : Bool) : Out := { av := .lit (.bool r), M := none }
theorem gJ.can (x0 : Tl) (r : Bool) (hr : gJ x0 = some r) : CallOk Tryz.prog 21 [.agg [.sl (x0.fj.map Tc.enc) .no]] [] (gJ.out x0 r) := by
 unfold gJ at hr
 have hΓ := gamL_nil (P := Tryz.prog)
 refine Le Tryz.tyOk Tryz.func21 rfl (by kernel_rfl) rfl rfl (by simp) ?_
 intro _ _ _
 refine AWp.then ⟨[⟨1, none, .ptr 0 0⟩], [.blk [.sl (x0.fj.map Tc.enc) .no]]⟩ (AWp.reg Tryz.tyOk hΓ [1] [0] (by kernel_rfl) rfl (by simp)) ?_
 obtain ⟨h2, hr⟩ := Lc hr
 refine AWp.thenA [⟨2, none, .b (pickB (ltI 0 (lenL x0.fj)) ((nthI x0.fj 0).fJ) false)⟩] (AWp.reg Tryz.tyOk hΓ [2] [1] (by kernel_rfl) rfl (by simp [h2])) ?_
 refine AWp.ret ?_
 obtain rfl := La hr
 refine Lf ?_
 simp

@[simp] noncomputable def gJ.S : Sp
 | [.agg e0], _ => some { av := .lit (.bool ((gJ (Tl.dec e0)).getD dflt)), M := none, obl := WeakL e0 (Tl.enc (Tl.dec e0)) ∧ (gJ (Tl.dec e0)).isSome = true }
 | _, _ => none

theorem gJ.ok : SpecOk Tryz.prog 21 gJ.S := by
 intro l M out h
 unfold gJ.S at h
 split at h
 ·rename_i e0
  cases h
  refine callOk_of fun ho => ?_
  obtain ⟨ox0, hs⟩ := ho
  generalize (Tl.dec e0) = x0 at *
  obtain ⟨r, hr⟩ := Option.isSome_iff_exists.1 hs
  simp only [hr, Option.getD_some]
  have q := Lg (M := M) [] (gJ.can x0 r hr) (by simp) rfl (by intro k i hk; simp at hk)
  exact callOk_conv q trivial (by simp; exact ox0) (by simp [frameOut, gJ.out]) (by simp [frameOut, gJ.out])
 ·cases h

@[simp] def gq.out (_x0 : Tl) (r : Int) : Out := { av := .lit (.int .i64 r), M := none }
def gq.fin (x0 : Tl) (r : Int) (σ : St) : Prop := finK (gq.out x0 r) [] σ.M (resA Tryz.ty σ.A σ.M Tryz.f70.results.toList)
theorem gq.can (x0 : Tl) (r : Int) (hr : gq x0 = some r) : CallOk Tryz.prog 70 [.agg [.sl (x0.fj.map Tc.enc) .no]] [] (gq.out x0 r) := by
 unfold gq at hr
 have hΓ := gamL_nil (P := Tryz.prog)
 refine Le Tryz.tyOk Tryz.func70 rfl (by kernel_rfl) rfl rfl (by simp) ?_
 intro _ _ _
 refine AWp.then ⟨[⟨1, none, .ptr 0 0⟩], [.blk [.sl (x0.fj.map Tc.enc) .no]]⟩ (AWp.reg Tryz.tyOk hΓ [1] [0] (by kernel_rfl) rfl (by simp)) ?_
 refine AWp.thenA [⟨3, none, .n 0⟩, ⟨1, none, .ptr 0 0⟩] (AWp.reg Tryz.tyOk hΓ [3] [] (by kernel_rfl) rfl (by simp)) ?_
 refine AWp.seq ?_
 refine AWp.then ⟨[⟨7, none, .sl (x0.fj.map Tc.enc) .no⟩, ⟨8, none, .n (lenL x0.fj)⟩, ⟨9, none, .n 0⟩, ⟨3, none, .n 0⟩], [.blk [.sl (x0.fj.map Tc.enc) .no]]⟩ (AWp.reg Tryz.tyOk hΓ [7, 8, 9] [1] (by kernel_rfl) rfl (by simp)) ?_
 refine AWp.loopE (fun (s1 : Int × Int) (γ1 : Unit) => ⟨[⟨7, none, .sl (x0.fj.map Tc.enc) .no⟩, ⟨8, none, .n (lenL x0.fj)⟩, ⟨9, none, .n s1.1⟩, ⟨3, none, .n s1.2⟩], [.blk [.sl (x0.fj.map Tc.enc) .no]]⟩) (fun (v1 : Int) (γ1a : Unit) => ⟨[⟨3, none, .n v1⟩], [.blk [.sl (x0.fj.map Tc.enc) .no]]⟩) (gq.fin x0) hr () 1 (by simp) (fun s1 f γ1 hr => ?_) (fun v1 γ1a σ1 m1 hr hc => ?_) (fun _ h => h)
 ·unfold gq.loop1 at hr
  refine AWp.then ⟨[⟨10, none, .b (ltI s1.1 (lenL x0.fj))⟩, ⟨7, none, .sl (x0.fj.map Tc.enc) .no⟩, ⟨8, none, .n (lenL x0.fj)⟩, ⟨9, none, .n s1.1⟩, ⟨3, none, .n s1.2⟩], [.blk [.sl (x0.fj.map Tc.enc) .no]]⟩ (AWp.reg Tryz.tyOk hΓ [10] [] (by kernel_rfl) rfl (by simp)) ?_
  refine AWp.seq ?_
  refine AWp.cond (b := (ltI s1.1 (lenL x0.fj))) (by simp) (fun h3 => ?_) (fun h3 => ?_)
  ·have hr := Li h3 hr
   refine AWp.skip ?_
   refine AWp.seq ?_
   refine AWp.block ?_
   obtain ⟨h4, hr⟩ := Lc hr
   refine AWp.then ⟨[⟨5, none, .ptr 1 0⟩, ⟨7, none, .sl (x0.fj.map Tc.enc) .no⟩, ⟨8, none, .n (lenL x0.fj)⟩, ⟨9, none, .n s1.1⟩, ⟨3, none, .n s1.2⟩], [.blk [.sl (x0.fj.map Tc.enc) .no], .blk (nthI x0.fj s1.1).enc]⟩ (AWp.reg Tryz.tyOk hΓ [5] [10] (by kernel_rfl) rfl (by simp [h3, h4])) ?_
   refine AWp.last ⟨[⟨3, none, .n (addI .i64 s1.2 (lenS ((nthI x0.fj s1.1).fU)))⟩, ⟨7, none, .sl (x0.fj.map Tc.enc) .no⟩, ⟨8, none, .n (lenL x0.fj)⟩, ⟨9, none, .n s1.1⟩], [.blk [.sl (x0.fj.map Tc.enc) .no], .blk (nthI x0.fj s1.1).enc]⟩ (AWp.reg Tryz.tyOk hΓ [3] [5] (by kernel_rfl) rfl (by simp)) ?_
   refine AWp.last ⟨[⟨9, none, .n (addI .i64 s1.1 1)⟩, ⟨3, none, .n (addI .i64 s1.2 (lenS ((nthI x0.fj s1.1).fU)))⟩, ⟨7, none, .sl (x0.fj.map Tc.enc) .no⟩, ⟨8, none, .n (lenL x0.fj)⟩], [.blk [.sl (x0.fj.map Tc.enc) .no], .blk (nthI x0.fj s1.1).enc]⟩ (AWp.reg Tryz.tyOk hΓ [9] [] (by kernel_rfl) rfl (by simp)) ?_
   obtain rfl := La hr
   exact Lq () 1 (by first | (simp; done) | simp [h3, h4])
  ·have hr := Lj h3 hr
   refine AWp.exit ?_
   obtain rfl := La hr
   exact Lo () 1 (by first | (simp; done) | simp [h3])
 ·refine AWp.conv hc ?_
  refine AWp.then ⟨[⟨2, none, .n v1⟩], [.blk [.sl (x0.fj.map Tc.enc) .no]]⟩ (AWp.reg Tryz.tyOk hΓ [2] [3] (by kernel_rfl) rfl (by simp)) ?_
  refine AWp.ret ?_
  obtain rfl := La hr
  refine Lf ?_
  simp

@[simp] noncomputable def gq.S : Sp
 | [.agg e0], _ => some { av := .lit (.int .i64 ((gq (Tl.dec e0)).getD dflt)), M := none, obl := WeakL e0 (Tl.enc (Tl.dec e0)) ∧ (gq (Tl.dec e0)).isSome = true }
 | _, _ => none

theorem gq.ok : SpecOk Tryz.prog 70 gq.S := by
 intro l M out h
 unfold gq.S at h
 split at h
 ·rename_i e0
  cases h
  refine callOk_of fun ho => ?_
  obtain ⟨ox0, hs⟩ := ho
  generalize (Tl.dec e0) = x0 at *
  obtain ⟨r, hr⟩ := Option.isSome_iff_exists.1 hs
  simp only [hr, Option.getD_some]
  have q := Lg (M := M) [] (gq.can x0 r hr) (by simp) rfl (by intro k i hk; simp at hk)
  exact callOk_conv q trivial (by simp; exact ox0) (by simp [frameOut, gq.out]) (by simp [frameOut, gq.out])
 ·cases h

@[simp] def gQ.out (_x0 : Tu) (r : Int) : Out := { av := .lit (.int .i64 r), M := none }
theorem gQ.can (x0 : Tu) (r : Int) (hr : gQ x0 = some r) : CallOk Tryz.prog 63 [.agg [.lit (.bool x0.fu), .lit (.int .i64 x0.fw), .lit (.int .i64 x0.fj), .lit (.int .i64 x0.fp)]] [] (gQ.out x0 r) := by
 unfold gQ at hr
 have hΓ := gamL_nil (P := Tryz.prog)
 refine Le Tryz.tyOk Tryz.func63 rfl (by kernel_rfl) rfl rfl (by simp) ?_
 intro _ _ _
 refine AWp.then ⟨[⟨1, none, .ptr 0 0⟩], [.blk x0.enc]⟩ (AWp.reg Tryz.tyOk hΓ [1] [0] (by kernel_rfl) rfl (by simp)) ?_
 refine AWp.seq ?_
 refine AWp.then ⟨[⟨30, none, .b (pickB (pickB (pickB (pickB (pickB (ltI x0.fw 1) true (ltI 1048576 x0.fw)) true (ltI x0.fj 1)) true (ltI 1024 x0.fj)) true (ltI x0.fp 0)) true (ltI 1099511627776 x0.fp))⟩], [.blk x0.enc]⟩ (AWp.reg Tryz.tyOk hΓ [30] [1] (by kernel_rfl) rfl (by simp)) ?_
 refine AWp.cond (b := (pickB (pickB (pickB (pickB (pickB (ltI x0.fw 1) true (ltI 1048576 x0.fw)) true (ltI x0.fj 1)) true (ltI 1024 x0.fj)) true (ltI x0.fp 0)) true (ltI 1099511627776 x0.fp))) (by simp) (fun h2 => ?_) (fun h2 => ?_)
 ·have hr := Li h2 hr
  refine AWp.thenA [⟨2, none, .n 5⟩] (AWp.reg Tryz.tyOk hΓ [2] [30] (by kernel_rfl) rfl (by simp [h2])) ?_
  refine AWp.ret ?_
  obtain rfl := La hr
  refine Lf ?_
  simp
 ·have hr := Lj h2 hr
  refine AWp.skip ?_
  refine AWp.then ⟨[⟨2, none, .n 0⟩], [.blk x0.enc]⟩ (AWp.reg Tryz.tyOk hΓ [2] [30] (by kernel_rfl) rfl (by simp [h2])) ?_
  refine AWp.ret ?_
  obtain rfl := La hr
  refine Lf ?_
  simp

@[simp] noncomputable def gQ.S : Sp
 | [.agg e0], _ => some { av := .lit (.int .i64 ((gQ (Tu.dec e0)).getD dflt)), M := none, obl := WeakL e0 (Tu.enc (Tu.dec e0)) ∧ (gQ (Tu.dec e0)).isSome = true }
 | _, _ => none

theorem gQ.ok : SpecOk Tryz.prog 63 gQ.S := by
 intro l M out h
 unfold gQ.S at h
 split at h
 ·rename_i e0
  cases h
  refine callOk_of fun ho => ?_
  obtain ⟨ox0, hs⟩ := ho
  generalize (Tu.dec e0) = x0 at *
  obtain ⟨r, hr⟩ := Option.isSome_iff_exists.1 hs
  simp only [hr, Option.getD_some]
  have q := Lg (M := M) [] (gQ.can x0 r hr) (by simp) rfl (by intro k i hk; simp at hk)
  exact callOk_conv q trivial (by simp; exact ox0) (by simp [frameOut, gQ.out]) (by simp [frameOut, gQ.out])
 ·cases h

@[simp] def gN.out (_x0 : Tn) (r : Tn) : Out := { av := .tup [], M := some [.blk [.lit (.bool r.fb.fu), .lit (.int .i64 r.fb.fw), .lit (.int .i64 r.fb.fj), .lit (.int .i64 r.fb.fp), .sl (r.fv.fj.map Tc.enc) .no, .lit (.int .i64 r.fy), .lit (.int .i64 r.fe)]] }
theorem gN.can (x0 : Tn) (r : Tn) (hr : gN x0 = some r) : CallOk Tryz.prog 58 [.ptr 0 0] [.blk x0.enc] (gN.out x0 r) := by
 unfold gN at hr
 have hΓ := (gamL_cons gI.ok (gamL_nil) : GamOk Tryz.prog _)
 refine Le Tryz.tyOk Tryz.func58 rfl (by kernel_rfl) rfl rfl (by simp) ?_
 intro _ _ _
 obtain ⟨r1, h2, hr⟩ := Lb hr
 refine AWp.then ⟨[⟨0, none, .ptr 0 0⟩], [.blk (x0.fb.enc ++ [.sl (x0.fv.fj.map Tc.enc) .no, .n x0.fy, .n (addI .i64 x0.fe r1)])]⟩ (AWp.regD Tryz.mixed Tryz.tyOk hΓ [] [] [] [(false, []), (false, []), (false, []), (false, []), (false, []), (false, []), (false, []), (false, []), (false, []), (true, [])] (by kernel_rfl) rfl (by simp [h2])) ?_
 refine AWp.last ⟨[], [.blk (x0.fb.enc ++ [.sl [] .no, .n x0.fy, .n (addI .i64 x0.fe r1)])]⟩ (AWp.reg Tryz.tyOk hΓ [] [0] (by kernel_rfl) rfl (by simp)) ?_
 obtain rfl := La hr
 refine fin_norm ?_
 simp

@[simp] noncomputable def gN.S : Sp
 | [.ptr i0 0], M => match M[i0]? with
  | some (.blk c0) => (fun (r : Tn) => some { av := .tup [], M := some (M.set i0 (.blk [.lit (.bool (r.fb.fu)), .lit (.int .i64 (r.fb.fw)), .lit (.int .i64 (r.fb.fj)), .lit (.int .i64 (r.fb.fp)), .sl ((r.fv.fj).map Tc.enc) .no, .lit (.int .i64 (r.fy)), .lit (.int .i64 (r.fe))])), obl := c0 = Tn.enc (Tn.dec c0) ∧ (gN (Tn.dec c0)).isSome = true }) ((gN (Tn.dec c0)).getD dflt)
  | _ => none
 | _, _ => none

theorem gN.ok : SpecOk Tryz.prog 58 gN.S := by
 intro l M out h
 unfold gN.S at h
 split at h
 ·rename_i i0
  split at h
  case h_2 => cases h
  rename_i c0 hM0
  try dsimp only at h
  cases h
  refine callOk_of fun ho => ?_
  obtain ⟨oc0, hs⟩ := ho
  generalize (Tn.dec c0) = y0 at *
  subst oc0
  obtain ⟨r, hr⟩ := Option.isSome_iff_exists.1 hs
  simp only [hr, Option.getD_some]
  have q := Lg (M := M) [i0] (gN.can y0 r hr) (by simp) rfl (by intro k i hk; (cases k with | zero => (simp at hk; subst hk; simp [hM0]) | succ k => (simp at hk)))
  exact callOk_conv q trivial (by simp [into]) (by simp [frameOut, gN.out]) (by simp [frameOut, gN.out])
 ·cases h

@[simp] def gO.out (_x0 : Tn) (_x1 : Tc) (r : Bool) : Out := { av := .lit (.bool r), M := none }
theorem gO.can (x0 : Tn) (x1 : Tc) (r : Bool) (hr : gO x0 x1 = some r) : CallOk Tryz.prog 68 [.ptr 0 0, .agg [.lit (.int .i64 x1.fAt), .lit (.int .i64 x1.fT), .lit (.bool x1.fC), .lit (.bool x1.fz), .lit (.bool x1.fJ), .lit (.string x1.fU), .lit (.int .i64 x1.fO)]] [.blk x0.enc] (gO.out x0 x1 r) := by
 unfold gO at hr
 have hΓ := (gamL_cons gI.ok (gamL_nil) : GamOk Tryz.prog _)
 refine Le Tryz.tyOk Tryz.func68 rfl (by kernel_rfl) rfl rfl (by simp) ?_
 intro _ _ _
 refine AWp.then ⟨[⟨3, none, .ptr 1 0⟩, ⟨0, none, .ptr 0 0⟩], [.blk x0.enc, .blk x1.enc]⟩ (AWp.reg Tryz.tyOk hΓ [3] [1] (by kernel_rfl) rfl (by simp)) ?_
 obtain ⟨r1, h4, hr⟩ := Lb hr
 refine AWp.thenA [⟨5, none, .n r1⟩, ⟨3, none, .ptr 1 0⟩, ⟨0, none, .ptr 0 0⟩] (AWp.reg Tryz.tyOk hΓ [5] [] (by kernel_rfl) rfl (by simp [h4])) ?_
 refine AWp.seq ?_
 refine AWp.then ⟨[⟨10, none, .b (eqI r1 0)⟩, ⟨5, none, .n r1⟩, ⟨3, none, .ptr 1 0⟩, ⟨0, none, .ptr 0 0⟩], [.blk x0.enc, .blk x1.enc]⟩ (AWp.reg Tryz.tyOk hΓ [10] [] (by kernel_rfl) rfl (by simp)) ?_
 refine AWp.cond (b := (eqI r1 0)) (by simp) (fun h5 => ?_) (fun h5 => ?_)
 ·have hr := Li h5 hr
  refine AWp.thenA [⟨4, none, .b false⟩] (AWp.reg Tryz.tyOk hΓ [4] [10, 5, 3, 0] (by kernel_rfl) rfl (by simp [h5])) ?_
  refine AWp.ret ?_
  obtain rfl := La hr
  refine Lf ?_
  simp
 ·have hr := Lj h5 hr
  refine AWp.skip ?_
  obtain ⟨h6, hr⟩ := Lc hr
  refine AWp.then ⟨[⟨6, none, .ptr 2 0⟩, ⟨3, none, .ptr 1 0⟩], [.blk x0.enc, .blk x1.enc, .blk (nthI x0.fv.fj (subI .i64 r1 1)).enc]⟩ (AWp.reg Tryz.tyOk hΓ [6] [10, 5, 0] (by kernel_rfl) rfl (by simp [h5, h6])) ?_
  refine AWp.thenA [⟨4, none, .b (pickB (pickB (eqI x1.fAt (addI .i64 ((nthI x0.fv.fj (subI .i64 r1 1)).fAt) 1)) (eqI x1.fT ((nthI x0.fv.fj (subI .i64 r1 1)).fT)) false) (notB x1.fz) false)⟩] (AWp.reg Tryz.tyOk hΓ [4] [6, 3] (by kernel_rfl) rfl (by simp)) ?_
  refine AWp.ret ?_
  obtain rfl := La hr
  refine Lf ?_
  simp

@[simp] noncomputable def gO.S : Sp
 | [.ptr i0 0, .agg e1], M => match M[i0]? with
  | some (.blk c0) => some { av := .lit (.bool ((gO (Tn.dec c0) (Tc.dec e1)).getD dflt)), M := none, obl := WeakL e1 (Tc.enc (Tc.dec e1)) ∧ c0 = Tn.enc (Tn.dec c0) ∧ (gO (Tn.dec c0) (Tc.dec e1)).isSome = true }
  | _ => none
 | _, _ => none

theorem gO.ok : SpecOk Tryz.prog 68 gO.S := by
 intro l M out h
 unfold gO.S at h
 split at h
 ·rename_i i0 e1
  split at h
  case h_2 => cases h
  rename_i c0 hM0
  cases h
  refine callOk_of fun ho => ?_
  obtain ⟨ox1, oc0, hs⟩ := ho
  generalize (Tn.dec c0) = y0 at *
  generalize (Tc.dec e1) = x1 at *
  subst oc0
  obtain ⟨r, hr⟩ := Option.isSome_iff_exists.1 hs
  simp only [hr, Option.getD_some]
  have q := Lg (M := M) [i0] (gO.can y0 x1 r hr) (by simp) rfl (by intro k i hk; (cases k with | zero => (simp at hk; subst hk; simp [hM0]) | succ k => (simp at hk)))
  exact callOk_conv q trivial (by simp [into]; exact ox1) (by simp [frameOut, gO.out]) (by simp only [frameOut, gO.out, Option.getD_some, Option.getD_none]; simp [hM0, set_same])
 ·cases h

@[simp] def gaA.out (_x0 : Tu) (r : Option Tn × Int) : Out := { av := .tup [(optC r.1 (.lit (.pointer none)) fun _ => .ptr 1 0), .lit (.int .i64 r.2)], M := some (optC r.1 [] fun m0 => [.dead, .blk [.lit (.bool m0.fb.fu), .lit (.int .i64 m0.fb.fw), .lit (.int .i64 m0.fb.fj), .lit (.int .i64 m0.fb.fp), .sl (m0.fv.fj.map Tc.enc) .no, .lit (.int .i64 m0.fy), .lit (.int .i64 m0.fe)]]) }
theorem gaA.can (x0 : Tu) (r : Option Tn × Int) (hr : gaA x0 = some r) : CallOk Tryz.prog 38 [.agg [.lit (.bool x0.fu), .lit (.int .i64 x0.fw), .lit (.int .i64 x0.fj), .lit (.int .i64 x0.fp)]] [] (gaA.out x0 r) := by
 unfold gaA at hr
 have hΓ := (gamL_cons gQ.ok (gamL_nil) : GamOk Tryz.prog _)
 refine Le Tryz.tyOk Tryz.func38 rfl (by kernel_rfl) rfl rfl (by simp) ?_
 intro _ _ _
 refine AWp.then ⟨[⟨1, none, .ptr 0 0⟩], [.blk x0.enc]⟩ (AWp.reg Tryz.tyOk hΓ [1] [0] (by kernel_rfl) rfl (by simp)) ?_
 refine AWp.seq ?_
 obtain ⟨r1, h3, hr⟩ := Lb hr
 refine AWp.then ⟨[⟨4, none, .n r1⟩, ⟨1, none, .ptr 0 0⟩], [.blk x0.enc]⟩ (AWp.reg Tryz.tyOk hΓ [4] [] (by kernel_rfl) rfl (by simp [h3])) ?_
 refine AWp.thenA [⟨8, none, .b (neI r1 0)⟩, ⟨4, none, .n r1⟩, ⟨1, none, .ptr 0 0⟩] (AWp.reg Tryz.tyOk hΓ [8] [] (by kernel_rfl) rfl (by simp)) ?_
 refine AWp.cond (b := (neI r1 0)) (by simp) (fun h4 => ?_) (fun h4 => ?_)
 ·have hr := Li h4 hr
  refine AWp.thenA [⟨2, none, .lit (.pointer none)⟩, ⟨3, none, .n r1⟩] (AWp.reg Tryz.tyOk hΓ [2, 3] [8, 4, 1] (by kernel_rfl) rfl (by simp [h4])) ?_
  refine AWp.ret ?_
  obtain rfl := La hr
  refine Lf ?_
  simp
 ·have hr := Lj h4 hr
  refine AWp.skip ?_
  refine AWp.then ⟨[⟨2, none, .ptr 1 0⟩, ⟨3, none, .n 0⟩], [.blk x0.enc, .blk (x0.enc ++ [.sl [] .no, .n 0, .n 0])]⟩ (AWp.reg Tryz.tyOk hΓ [2, 3] [8, 4, 1] (by kernel_rfl) rfl (by simp [h4])) ?_
  refine AWp.ret ?_
  obtain rfl := La hr
  refine Lf ?_
  simp

@[simp] noncomputable def gaA.S : Sp
 | [.agg e0], M => some { av := .tup [(optC (((gaA (Tu.dec e0)).getD dflt).1) (.lit (.pointer none)) fun _ => .ptr (M.length + 1) 0), .lit (.int .i64 (((gaA (Tu.dec e0)).getD dflt).2))], M := some (optC (((gaA (Tu.dec e0)).getD dflt).1) M fun m0 => M ++ [.dead, .blk [.lit (.bool m0.fb.fu), .lit (.int .i64 m0.fb.fw), .lit (.int .i64 m0.fb.fj), .lit (.int .i64 m0.fb.fp), .sl (m0.fv.fj.map Tc.enc) .no, .lit (.int .i64 m0.fy), .lit (.int .i64 m0.fe)]]), obl := WeakL e0 (Tu.enc (Tu.dec e0)) ∧ (gaA (Tu.dec e0)).isSome = true }
 | _, _ => none

theorem gaA.ok : SpecOk Tryz.prog 38 gaA.S := by
 intro l M out h
 unfold gaA.S at h
 split at h
 ·rename_i e0
  cases h
  refine callOk_of fun ho => ?_
  obtain ⟨ox0, hs⟩ := ho
  generalize (Tu.dec e0) = x0 at *
  obtain ⟨r, hr⟩ := Option.isSome_iff_exists.1 hs
  simp only [hr, Option.getD_some]
  have q := Lg (M := M) [] (gaA.can x0 r hr) (by simp) rfl (by intro k i hk; simp at hk)
  cases hc : r.1 with
  | none => exact callOk_conv q trivial (by simp; exact ox0) (by simp [hc, frameOut, gaA.out]) (by simp [hc, frameOut, gaA.out])
  | some m0 => exact callOk_conv q trivial (by simp; exact ox0) (by simp [hc, frameOut, gaA.out, into]) (by simp [hc, frameOut, gaA.out, into])
 ·cases h

@[simp] def gY.out (_x0 : Tn) (_x1 : Int) (r : Bool × Tn) : Out := { av := .lit (.bool r.1), M := some [.blk [.lit (.bool r.2.fb.fu), .lit (.int .i64 r.2.fb.fw), .lit (.int .i64 r.2.fb.fj), .lit (.int .i64 r.2.fb.fp), .sl (r.2.fv.fj.map Tc.enc) .no, .lit (.int .i64 r.2.fy), .lit (.int .i64 r.2.fe)]] }
theorem gY.can (x0 : Tn) (x1 : Int) (r : Bool × Tn) (hr : gY x0 x1 = some r) : CallOk Tryz.prog 31 [.ptr 0 0, .lit (.int .i64 x1)] [.blk x0.enc] (gY.out x0 x1 r) := by
 unfold gY at hr
 have hΓ := (gamL_cons gI.ok (gamL_cons gN.ok (gamL_nil)) : GamOk Tryz.prog _)
 refine Le Tryz.tyOk Tryz.func31 rfl (by kernel_rfl) rfl rfl (by simp) ?_
 intro _ _ _
 refine AWp.then ⟨[⟨0, none, .ptr 0 0⟩, ⟨1, none, .n x1⟩], [.blk x0.enc]⟩ (AWp.reg Tryz.tyOk hΓ [] [] (by kernel_rfl) rfl (by simp)) ?_
 refine AWp.seq ?_
 obtain ⟨r1, h5, hr⟩ := Lb hr
 obtain ⟨h6, hr⟩ := Lc hr
 refine AWp.then ⟨[⟨25, none, .b (pickB (eqI r1 0) true (ltI (subI .i64 x1 ((nthI x0.fv.fj 0).fO)) x0.fb.fp))⟩, ⟨0, none, .ptr 0 0⟩], [.blk x0.enc]⟩ (AWp.regD Tryz.mixed Tryz.tyOk hΓ [25] [1] [] [(false, []), (false, []), (false, []), (false, []), (false, [8]), (false, [8]), (false, [8]), (false, [8]), (false, [8]), (false, [8]), (false, [8]), (false, [8]), (false, [8]), (false, [8]), (false, [8]), (false, [8]), (false, [8]), (false, [8]), (false, [8]), (false, [8]), (false, [])] (by kernel_rfl) rfl (by simp [h5, h6])) ?_
 refine AWp.cond (b := (pickB (eqI r1 0) true (ltI (subI .i64 x1 ((nthI x0.fv.fj 0).fO)) x0.fb.fp))) (by simp) (fun h7 => ?_) (fun h7 => ?_)
 ·have hr := Li h7 hr
  refine AWp.thenA [⟨4, none, .b false⟩] (AWp.reg Tryz.tyOk hΓ [4] [25, 0] (by kernel_rfl) rfl (by simp [h7])) ?_
  refine AWp.ret ?_
  obtain rfl := La hr
  refine Lf ?_
  simp
 ·have hr := Lj h7 hr
  refine AWp.skip ?_
  obtain ⟨r2, h8, hr⟩ := Lb hr
  refine AWp.then ⟨[], [.blk r2.enc]⟩ (AWp.reg Tryz.tyOk hΓ [] [25, 0] (by kernel_rfl) rfl (by simp [h7, h8])) ?_
  refine AWp.thenA [⟨4, none, .b true⟩] (AWp.reg Tryz.tyOk hΓ [4] [] (by kernel_rfl) rfl (by simp)) ?_
  refine AWp.ret ?_
  obtain rfl := La hr
  refine Lf ?_
  simp

@[simp] noncomputable def gY.S : Sp
 | [.ptr i0 0, .lit (.int .i64 x1)], M => match M[i0]? with
  | some (.blk c0) => (fun (r : Bool × Tn) => some { av := .lit (.bool (r.1)), M := some (M.set i0 (.blk [.lit (.bool (r.2.fb.fu)), .lit (.int .i64 (r.2.fb.fw)), .lit (.int .i64 (r.2.fb.fj)), .lit (.int .i64 (r.2.fb.fp)), .sl ((r.2.fv.fj).map Tc.enc) .no, .lit (.int .i64 (r.2.fy)), .lit (.int .i64 (r.2.fe))])), obl := c0 = Tn.enc (Tn.dec c0) ∧ (gY (Tn.dec c0) x1).isSome = true }) ((gY (Tn.dec c0) x1).getD dflt)
  | _ => none
 | _, _ => none

theorem gY.ok : SpecOk Tryz.prog 31 gY.S := by
 intro l M out h
 unfold gY.S at h
 split at h
 ·rename_i i0 x1
  split at h
  case h_2 => cases h
  rename_i c0 hM0
  try dsimp only at h
  cases h
  refine callOk_of fun ho => ?_
  obtain ⟨oc0, hs⟩ := ho
  generalize (Tn.dec c0) = y0 at *
  subst oc0
  obtain ⟨r, hr⟩ := Option.isSome_iff_exists.1 hs
  simp only [hr, Option.getD_some]
  have q := Lg (M := M) [i0] (gY.can y0 x1 r hr) (by simp) rfl (by intro k i hk; (cases k with | zero => (simp at hk; subst hk; simp [hM0]) | succ k => (simp at hk)))
  exact callOk_conv q trivial (by simp [into]) (by simp [frameOut, gY.out]) (by simp [frameOut, gY.out])
 ·cases h

@[simp] def gac.out (_x0 : Tn) (_x1 : Tc) (r : Tl × Bool × Tn) : Out := { av := .tup [.agg [.sl (r.1.fj.map Tc.enc) .no], .lit (.bool r.2.1)], M := some [.blk [.lit (.bool r.2.2.fb.fu), .lit (.int .i64 r.2.2.fb.fw), .lit (.int .i64 r.2.2.fb.fj), .lit (.int .i64 r.2.2.fb.fp), .sl (r.2.2.fv.fj.map Tc.enc) .no, .lit (.int .i64 r.2.2.fy), .lit (.int .i64 r.2.2.fe)]] }
def gac.fin (x0 : Tn) (x1 : Tc) (r : Tl × Bool × Tn) (σ : St) : Prop := finK (gac.out x0 x1 r) [.blk x0.enc] σ.M (resA Tryz.ty σ.A σ.M Tryz.f48.results.toList)
theorem gac.can (x0 : Tn) (x1 : Tc) (r : Tl × Bool × Tn) (hr : gac x0 x1 = some r) : CallOk Tryz.prog 48 [.ptr 0 0, .agg [.lit (.int .i64 x1.fAt), .lit (.int .i64 x1.fT), .lit (.bool x1.fC), .lit (.bool x1.fz), .lit (.bool x1.fJ), .lit (.string x1.fU), .lit (.int .i64 x1.fO)]] [.blk x0.enc] (gac.out x0 x1 r) := by
 unfold gac at hr
 have hΓ := (gamL_cons gI.ok (gamL_cons gN.ok (gamL_cons gO.ok (gamL_cons gq.ok (gamL_cons libClone7.ok (gamL_nil))))) : GamOk Tryz.prog _)
 refine Le Tryz.tyOk Tryz.func48 rfl (by kernel_rfl) rfl rfl (by simp) ?_
 intro _ _ _
 refine AWp.then ⟨[⟨3, none, .ptr 1 0⟩, ⟨4, none, .ptr 2 0⟩, ⟨0, none, .ptr 0 0⟩], [.blk x0.enc, .blk x1.enc, .blk [.sl [] .full]]⟩ (AWp.reg Tryz.tyOk hΓ [3, 4] [1] (by kernel_rfl) rfl (by simp)) ?_
 refine AWp.meetF (fun (v1 : Tn) (γ1 : Unit) => ⟨[⟨3, none, .ptr 1 0⟩, ⟨4, none, .ptr 2 0⟩, ⟨0, none, .ptr 0 0⟩], [.blk v1.enc, .blk x1.enc, .blk [.sl [] .full]]⟩) (gac.fin x0 x1) hr (fun f hr => ?_) (fun v1 γ1 hr => ?_) (fun _ h => h)
 ·obtain ⟨r1, h12, hr⟩ := Lb hr
  refine AWp.then ⟨[⟨10, none, .b (notB r1)⟩, ⟨3, none, .ptr 1 0⟩, ⟨4, none, .ptr 2 0⟩, ⟨0, none, .ptr 0 0⟩], [.blk x0.enc, .blk x1.enc, .blk [.sl [] .full]]⟩ (AWp.reg Tryz.tyOk hΓ [10] [] (by kernel_rfl) rfl (by simp [h12])) ?_
  refine AWp.cond (b := (notB r1)) (by simp) (fun h13 => ?_) (fun h13 => ?_)
  ·have hr := Li h13 hr
   obtain ⟨r2, h14, hr⟩ := Lb hr
   refine AWp.then ⟨[⟨3, none, .ptr 1 0⟩, ⟨4, none, .ptr 2 0⟩, ⟨0, none, .ptr 0 0⟩], [.blk r2.enc, .blk x1.enc, .blk [.sl [] .full]]⟩ (AWp.reg Tryz.tyOk hΓ [] [10] (by kernel_rfl) rfl (by simp [h13, h14])) ?_
   refine AWp.thenA [⟨22, none, .b (pickB r2.fb.fu (notB x1.fz) false)⟩, ⟨3, none, .ptr 1 0⟩, ⟨4, none, .ptr 2 0⟩, ⟨0, none, .ptr 0 0⟩] (AWp.reg Tryz.tyOk hΓ [22] [] (by kernel_rfl) rfl (by simp)) ?_
   refine AWp.cond (b := (pickB r2.fb.fu (notB x1.fz) false)) (by simp) (fun h15 => ?_) (fun h15 => ?_)
   ·have hr := Li h15 hr
    refine AWp.then ⟨[⟨4, none, .ptr 2 0⟩], [.blk (r2.fb.enc ++ [.sl (r2.fv.fj.map Tc.enc) .no, .n r2.fy, .n (addI .i64 r2.fe 1)]), .blk x1.enc, .blk [.sl [] .full]]⟩ (AWp.reg Tryz.tyOk hΓ [] [22, 3, 0] (by kernel_rfl) rfl (by simp [h15])) ?_
    refine AWp.then ⟨[⟨5, none, .b false⟩, ⟨4, none, .ptr 2 0⟩], [.blk (r2.fb.enc ++ [.sl (r2.fv.fj.map Tc.enc) .no, .n r2.fy, .n (addI .i64 r2.fe 1)]), .blk x1.enc, .blk [.sl [] .no]]⟩ (AWp.reg Tryz.tyOk hΓ [5] [] (by kernel_rfl) rfl (by simp)) ?_
    refine AWp.ret ?_
    obtain rfl := La hr
    refine meet_ret ?_
    refine Lf ?_
    simp
   ·have hr := Lj h15 hr
    refine AWp.skip ?_
    obtain rfl := La hr
    exact Ll () 3 (by first | (simp; done) | simp [h12, h13, h14, h15])
  ·have hr := Lj h13 hr
   refine AWp.skip ?_
   obtain rfl := La hr
   exact Ll () 3 (by first | (simp; done) | simp [h12, h13])
 ·obtain ⟨h16, hr⟩ := Lc hr
  obtain ⟨h17, hr⟩ := Lc hr
  refine AWp.then ⟨[⟨3, none, .ptr 1 0⟩, ⟨4, none, .ptr 2 0⟩, ⟨0, none, .ptr 0 0⟩], [.blk (v1.fb.enc ++ [.sl ((appL v1.fv.fj [x1]).map Tc.enc) (.own 3 2 7), .n v1.fy, .n v1.fe]), .blk x1.enc, .blk [.sl [] .full], .room 2]⟩ (AWp.regD Tryz.mixed Tryz.tyOk hΓ [] [] [(0, 7), (0, 10), (7, 0), (8, 0)] [(false, []), (false, []), (false, []), (false, []), (false, []), (false, []), (true, []), (false, []), (false, []), (true, []), (false, []), (false, []), (false, []), (true, [])] (by kernel_rfl) rfl (by simp [h16, h17])) ?_
  refine AWp.seq ?_
  refine AWp.conv (m := 4) (σ' := ⟨[⟨3, none, .ptr 1 0⟩, ⟨4, none, .ptr 2 0⟩, ⟨0, none, .ptr 0 0⟩], [.blk (v1.fb.enc ++ [.sl ((appL v1.fv.fj [x1]).map Tc.enc) .no, .n v1.fy, .n v1.fe]), .blk x1.enc, .blk [.sl [] .full], .room 2]⟩) (by simp) ?_
  obtain ⟨r3, h18, hr⟩ := Lb hr
  obtain ⟨h19, hr⟩ := Lc hr
  refine AWp.then ⟨[⟨64, none, .b (pickB (ltI v1.fb.fj r3) true (ltI v1.fb.fw ((gq (Tl.mk (appL v1.fv.fj [x1]))).getD dflt)))⟩, ⟨3, none, .ptr 1 0⟩, ⟨4, none, .ptr 2 0⟩, ⟨0, none, .ptr 0 0⟩], [.blk (v1.fb.enc ++ [.sl ((appL v1.fv.fj [x1]).map Tc.enc) .no, .n v1.fy, .n v1.fe]), .blk x1.enc, .blk [.sl [] .full], .room 2]⟩ (AWp.regD Tryz.mixed Tryz.tyOk hΓ [64] [] [] [(false, []), (false, []), (false, []), (false, []), (false, []), (false, []), (false, []), (false, []), (false, []), (false, [52]), (false, [52]), (false, [52]), (false, [52]), (false, [52]), (false, [52]), (false, [52]), (false, [52]), (false, [52]), (false, [52]), (false, [52]), (false, [])] (by kernel_rfl) rfl (by simp [h18, h19])) ?_
  refine AWp.cond (b := (pickB (ltI v1.fb.fj r3) true (ltI v1.fb.fw ((gq (Tl.mk (appL v1.fv.fj [x1]))).getD dflt)))) (by simp) (fun h20 => ?_) (fun h20 => ?_)
  ·have hr := Li h20 hr
   obtain ⟨r4, h21, hr⟩ := Lb hr
   refine AWp.then ⟨[⟨4, none, .ptr 2 0⟩], [.blk r4.enc, .blk x1.enc, .blk [.sl [] .full], .room 2]⟩ (AWp.reg Tryz.tyOk hΓ [] [64, 3, 0] (by kernel_rfl) rfl (by simp [h20, h21])) ?_
   refine AWp.then ⟨[⟨5, none, .b false⟩, ⟨4, none, .ptr 2 0⟩], [.blk r4.enc, .blk x1.enc, .blk [.sl [] .no], .room 2]⟩ (AWp.reg Tryz.tyOk hΓ [5] [] (by kernel_rfl) rfl (by simp)) ?_
   refine AWp.ret ?_
   obtain rfl := La hr
   refine Lf ?_
   simp
  ·have hr := Lj h20 hr
   refine AWp.skip ?_
   refine AWp.seq ?_
   refine AWp.then ⟨[⟨77, none, .b (pickB v1.fb.fu (notB x1.fC) false)⟩, ⟨4, none, .ptr 2 0⟩, ⟨0, none, .ptr 0 0⟩], [.blk (v1.fb.enc ++ [.sl ((appL v1.fv.fj [x1]).map Tc.enc) .no, .n v1.fy, .n v1.fe]), .blk x1.enc, .blk [.sl [] .full], .room 2]⟩ (AWp.reg Tryz.tyOk hΓ [77] [64, 3] (by kernel_rfl) rfl (by simp [h20])) ?_
   refine AWp.cond (b := (pickB v1.fb.fu (notB x1.fC) false)) (by simp) (fun h22 => ?_) (fun h22 => ?_)
   ·have hr := Li h22 hr
    refine AWp.then ⟨[⟨5, none, .b false⟩, ⟨4, none, .ptr 2 0⟩], [.blk (v1.fb.enc ++ [.sl ((appL v1.fv.fj [x1]).map Tc.enc) .no, .n v1.fy, .n v1.fe]), .blk x1.enc, .blk [.sl [] .no], .room 2]⟩ (AWp.reg Tryz.tyOk hΓ [5] [77, 0] (by kernel_rfl) rfl (by simp [h22])) ?_
    refine AWp.ret ?_
    obtain rfl := La hr
    refine Lf ?_
    simp
   ·have hr := Lj h22 hr
    refine AWp.skip ?_
    refine AWp.then ⟨[⟨6, none, .ptr 4 0⟩, ⟨4, none, .ptr 2 0⟩, ⟨0, none, .ptr 0 0⟩], [.blk (v1.fb.enc ++ [.sl ((appL v1.fv.fj [x1]).map Tc.enc) .no, .n v1.fy, .n v1.fe]), .blk x1.enc, .blk [.sl [] .full], .room 2, .blk [.sl ((appL v1.fv.fj [x1]).map Tc.enc) .no]]⟩ (AWp.reg Tryz.tyOk hΓ [6] [77] (by kernel_rfl) rfl (by simp [h22])) ?_
    refine AWp.then ⟨[⟨6, none, .ptr 4 0⟩, ⟨4, none, .ptr 2 0⟩, ⟨0, none, .ptr 0 0⟩], [.blk (v1.fb.enc ++ [.sl [] .no, .n v1.fy, .n v1.fe]), .blk x1.enc, .blk [.sl [] .full], .room 2, .blk [.sl ((appL v1.fv.fj [x1]).map Tc.enc) .no]]⟩ (AWp.reg Tryz.tyOk hΓ [] [] (by kernel_rfl) rfl (by simp)) ?_
    refine AWp.then ⟨[⟨6, none, .ptr 4 0⟩, ⟨4, none, .ptr 2 0⟩], [.blk (v1.fb.enc ++ [.sl [] .no, .n (addI .i64 v1.fy 1), .n v1.fe]), .blk x1.enc, .blk [.sl [] .full], .room 2, .blk [.sl ((appL v1.fv.fj [x1]).map Tc.enc) .no]]⟩ (AWp.reg Tryz.tyOk hΓ [] [0] (by kernel_rfl) rfl (by simp)) ?_
    refine AWp.then ⟨[⟨5, none, .b true⟩, ⟨4, none, .ptr 2 0⟩], [.blk (v1.fb.enc ++ [.sl [] .no, .n (addI .i64 v1.fy 1), .n v1.fe]), .blk x1.enc, .blk [.sl ((appL v1.fv.fj [x1]).map Tc.enc) .no], .room 2, .blk [.sl ((appL v1.fv.fj [x1]).map Tc.enc) .no]]⟩ (AWp.reg Tryz.tyOk hΓ [5] [6] (by kernel_rfl) rfl (by simp)) ?_
    refine AWp.ret ?_
    obtain rfl := La hr
    refine Lf ?_
    simp

@[simp] noncomputable def gac.S : Sp
 | [.ptr i0 0, .agg e1], M => match M[i0]? with
  | some (.blk c0) => (fun (y1 : Tc) => (fun (r : Tl × Bool × Tn) => some { av := .tup [.agg [.sl ((r.1.fj).map Tc.enc) .no], .lit (.bool (r.2.1))], M := some (M.set i0 (.blk [.lit (.bool (r.2.2.fb.fu)), .lit (.int .i64 (r.2.2.fb.fw)), .lit (.int .i64 (r.2.2.fb.fj)), .lit (.int .i64 (r.2.2.fb.fp)), .sl ((r.2.2.fv.fj).map Tc.enc) .no, .lit (.int .i64 (r.2.2.fy)), .lit (.int .i64 (r.2.2.fe))])), obl := WeakL e1 (Tc.enc y1) ∧ c0 = Tn.enc (Tn.dec c0) ∧ (gac (Tn.dec c0) y1).isSome = true }) ((gac (Tn.dec c0) y1).getD dflt)) (Tc.dec e1)
  | _ => none
 | _, _ => none

theorem gac.ok : SpecOk Tryz.prog 48 gac.S := by
 intro l M out h
 unfold gac.S at h
 split at h
 ·rename_i i0 e1
  split at h
  case h_2 => cases h
  rename_i c0 hM0
  try dsimp only at h
  cases h
  refine callOk_of fun ho => ?_
  obtain ⟨ox1, oc0, hs⟩ := ho
  generalize (Tn.dec c0) = y0 at *
  generalize (Tc.dec e1) = x1 at *
  subst oc0
  obtain ⟨r, hr⟩ := Option.isSome_iff_exists.1 hs
  simp only [hr, Option.getD_some]
  have q := Lg (M := M) [i0] (gac.can y0 x1 r hr) (by simp) rfl (by intro k i hk; (cases k with | zero => (simp at hk; subst hk; simp [hM0]) | succ k => (simp at hk)))
  exact callOk_conv q trivial (by simp [into]; exact ox1) (by simp [frameOut, gac.out]) (by simp [frameOut, gac.out])
 ·cases h
end Go.Proofs

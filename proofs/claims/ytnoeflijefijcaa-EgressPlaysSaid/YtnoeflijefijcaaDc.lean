/- That these functions compute what their plain functions do. No condition. -/
import Derived.Test.YtnoeflijefijcaaM02
import Derived.Test.YtnoeflijefijcaaTy
import Derived.Test.YtnoeflijefijcaaM08
set_option maxRecDepth 100000
set_option maxHeartbeats 4000000
namespace Go.Proofs
open Go.Ab
@[simp] def gaC.out (_x0 : Int) (r : Option Tq × Int) : Out := { av := .tup [(optC r.1 (.lit (.pointer none)) fun _ => .ptr 2 0), .lit (.int .i64 r.2)], M := some (optC r.1 [] fun m0 => [.mapo (encM (kI .i64) (kI .i64) m0.fj), .mapo (encM (kI .i64) (kI .i64) m0.fk), .blk [.lit (.int .i64 m0.fb), .mp 0, .mp 1, .lit (.int .i64 m0.fAt), .lit (.bool m0.ff)]]) }
theorem gaC.can (x0 : Int) (r : Option Tq × Int) (hr : gaC x0 = some r) : CallOk Try.prog 21 [.lit (.int .i64 x0)] [] (gaC.out x0 r) := by
 unfold gaC at hr
 have hΓ := gamL_nil (P := Try.prog)
 refine Lg Try.tyOk Try.func21 rfl (by kernel_rfl) rfl rfl (by simp) ?_
 intro _ _ _
 refine Try.tg hΓ [] [] (by kernel_rfl) rfl (by simp; exact rr) ?_
 refine AWp.seq ?_
 refine Try.tg hΓ [9] [] (by kernel_rfl) rfl (by simp; exact rr) ?_
 refine AWp.cond (b := (pickB (ltI x0 1) true (ltI 16777216 x0))) (by simp) (fun h2 => ?_) (fun h2 => ?_)
 ·have hr := Li h2 hr
  refine Try.tg hΓ [2, 3] [9, 0] (by kernel_rfl) rfl (by simp [h2]; exact rr) ?_
  refine AWp.ret ?_
  obtain rfl := La hr
  refine Lf ?_
  simp
 ·have hr := Lj h2 hr
  refine AWp.skip ?_
  refine Try.tg hΓ [2, 3] [9, 0] (by kernel_rfl) rfl (by simp [h2]; exact rr) ?_
  refine AWp.ret ?_
  obtain rfl := La hr
  refine Lf ?_
  simp

@[simp] noncomputable def gaC.S : Sp
 | [.lit (.int .i64 x0)], M => some { av := .tup [(optC (((gaC x0).getD dflt).1) (.lit (.pointer none)) fun _ => .ptr (M.length + 2) 0), .lit (.int .i64 (((gaC x0).getD dflt).2))], M := some (optC (((gaC x0).getD dflt).1) M fun m0 => M ++ [.mapo (encM (kI .i64) (kI .i64) m0.fj), .mapo (encM (kI .i64) (kI .i64) m0.fk), .blk [.lit (.int .i64 m0.fb), .mp M.length, .mp (M.length + 1), .lit (.int .i64 m0.fAt), .lit (.bool m0.ff)]]), obl := (gaC x0).isSome = true }
 | _, _ => none

theorem gaC.ok : SpecOk Try.prog 21 gaC.S := by
 intro l M out h
 unfold gaC.S at h
 split at h
 ·rename_i x0
  cases h
  refine callOk_of fun ho => ?_
  have hs := ho
  obtain ⟨r, hr⟩ := Option.isSome_iff_exists.1 hs
  simp only [hr, Option.getD_some]
  have q := Lk (M := M) [] (gaC.can x0 r hr) (by simp) rfl (by intro k i hk; simp at hk)
  cases hc : r.1 with
  | none => exact callOk_conv q trivial (by simp) (by simp [hc, frameOut, gaC.out]) (by simp [hc, frameOut, gaC.out])
  | some m0 => exact callOk_conv q trivial (by simp) (by simp [hc, frameOut, gaC.out, into]) (by simp [hc, frameOut, gaC.out, into])
 ·cases h

@[simp] def gam.out (_x0 : Tq) (_x1 : Int) (_x2 : Int) (r : Int × Tq) : Out := { av := .lit (.int .i64 r.1), M := some [.blk [.lit (.int .i64 r.2.fb), .mp 1, .mp 2, .lit (.int .i64 r.2.fAt), .lit (.bool r.2.ff)], .mapo (encM (kI .i64) (kI .i64) r.2.fj), .mapo (encM (kI .i64) (kI .i64) r.2.fk)] }
theorem gam.can (x0 : Tq) (x1 : Int) (x2 : Int) (r : Int × Tq) (hr : gam x0 x1 x2 = some r) : CallOk Try.prog 25 [.ptr 0 0, .lit (.int .i64 x1), .lit (.int .i64 x2)] [.blk [.lit (.int .i64 x0.fb), .mp 1, .mp 2, .lit (.int .i64 x0.fAt), .lit (.bool x0.ff)], .mapo (encM (kI .i64) (kI .i64) x0.fj), .mapo (encM (kI .i64) (kI .i64) x0.fk)] (gam.out x0 x1 x2 r) := by
 unfold gam at hr
 have hΓ := gamL_nil (P := Try.prog)
 refine Lg Try.tyOk Try.func25 rfl (by kernel_rfl) rfl rfl (by simp) ?_
 intro _ _ _
 refine Try.tg hΓ [] [] (by kernel_rfl) rfl (by simp; exact rr) ?_
 refine AWp.seq ?_
 refine AWp.block ?_
 refine Try.tg hΓ [7] [] (by kernel_rfl) rfl (by simp; exact rr) ?_
 refine AWp.cond (b := (pickB (ltI x2 x0.fb) true (ltI 16777216 x2))) (by simp) (fun h3 => ?_) (fun h3 => ?_)
 ·have hr := Li h3 hr
  refine Try.tg hΓ [6] [7, 0, 1, 2] (by kernel_rfl) rfl (by simp [h3]; exact rr) ?_
  refine AWp.ret ?_
  obtain rfl := La hr
  refine Lf ?_
  simp
 ·have hr := Lj h3 hr
  refine Try.tg hΓ [18] [7] (by kernel_rfl) rfl (by simp [h3]; exact rr) ?_
  refine AWp.cond (b := (ltI 0 (getM eqI x1 0 x0.fj))) (by simp) (fun h4 => ?_) (fun h4 => ?_)
  ·have hr := Li h4 hr
   refine Try.tg hΓ [6] [18, 0, 1, 2] (by kernel_rfl) rfl (by simp [h4]; exact rr) ?_
   refine AWp.ret ?_
   obtain rfl := La hr
   refine Lf ?_
   simp
  ·have hr := Lj h4 hr
   refine AWp.skip ?_
   refine Try.tg hΓ [] [18, 0, 1, 2] (by kernel_rfl) rfl (by simp [h4]; exact rr) ?_
   refine Try.tg hΓ [6] [] (by kernel_rfl) rfl (by simp; exact rr) ?_
   refine AWp.ret ?_
   obtain rfl := La hr
   refine Lf ?_
   simp

@[simp] noncomputable def gam.S : Sp
 | [.ptr i0 0, .lit (.int .i64 x1), .lit (.int .i64 x2)], M => match M[i0]? with
  | some (.blk c0) => (match nthE c0 1 with
  | some (.mp i1) => (match M[i1]? with
  | some (.mapo c1) => (match nthE c0 2 with
  | some (.mp i2) => (match M[i2]? with
  | some (.mapo c2) => (fun (y0 : Tq) => (fun (r : Int × Tq) => some { av := .lit (.int .i64 (r.1)), M := some (((M.set i0 (.blk [.lit (.int .i64 (r.2.fb)), .mp i1, .mp i2, .lit (.int .i64 (r.2.fAt)), .lit (.bool (r.2.ff))])).set i1 (.mapo (encM (kI .i64) (kI .i64) (r.2.fj)))).set i2 (.mapo (encM (kI .i64) (kI .i64) (r.2.fk)))), obl := c0 = Tq.enc y0 i1 i2 ∧ c1 = encM (kI .i64) (kI .i64) (y0.fj) ∧ c2 = encM (kI .i64) (kI .i64) (y0.fk) ∧ (gam y0 x1 x2).isSome = true ∧ i0 ≠ i1 ∧ i0 ≠ i2 ∧ i1 ≠ i2 }) ((gam y0 x1 x2).getD dflt)) (Tq.dec c0 (decM dkI dkI c1) (decM dkI dkI c2))
  | _ => none)
  | _ => none)
  | _ => none)
  | _ => none)
  | _ => none
 | _, _ => none

theorem gam.ok : SpecOk Try.prog 25 gam.S := by
 intro l M out h
 unfold gam.S at h
 split at h
 ·rename_i i0 x1 x2
  split at h
  case h_2 => cases h
  rename_i c0 hM0
  split at h
  case h_2 => cases h
  rename_i i1 he1
  split at h
  case h_2 => cases h
  rename_i c1 hM1
  split at h
  case h_2 => cases h
  rename_i i2 he2
  split at h
  case h_2 => cases h
  rename_i c2 hM2
  try dsimp only at h
  cases h
  refine callOk_of fun ho => ?_
  obtain ⟨oc0, oc1, oc2, hs, hne0, hne1, hne2⟩ := ho
  generalize (Tq.dec c0 (decM dkI dkI c1) (decM dkI dkI c2)) = y0 at *
  subst oc0
  subst oc1
  subst oc2
  obtain ⟨r, hr⟩ := Option.isSome_iff_exists.1 hs
  simp only [hr, Option.getD_some]
  have q := Lk (M := M) [i0, i1, i2] (gam.can y0 x1 x2 r hr) (by simp [hne0, hne1, hne2]) rfl (by intro k i hk; (cases k with | zero => (simp at hk; subst hk; simp [hM0, into]) | succ k => ((cases k with | zero => (simp at hk; subst hk; simp [hM1]) | succ k => ((cases k with | zero => (simp at hk; subst hk; simp [hM2]) | succ k => (simp at hk)))))))
  exact callOk_conv q trivial (by simp [into]) (by simp [frameOut, gam.out, into]) (by simp [frameOut, gam.out, into])
 ·cases h

@[simp] def gG.out (_x0 : Tq) (_x1 : Int) (r : Int × Tq) : Out := { av := .lit (.int .i64 r.1), M := some [.blk [.lit (.int .i64 r.2.fb), .mp 1, .mp 2, .lit (.int .i64 r.2.fAt), .lit (.bool r.2.ff)], .mapo (encM (kI .i64) (kI .i64) r.2.fj), .mapo (encM (kI .i64) (kI .i64) r.2.fk)] }
def gG.fin (x0 : Tq) (x1 : Int) (r : Int × Tq) (σ : St) : Prop := finK (gG.out x0 x1 r) [.blk [.lit (.int .i64 x0.fb), .mp 1, .mp 2, .lit (.int .i64 x0.fAt), .lit (.bool x0.ff)], .mapo (encM (kI .i64) (kI .i64) x0.fj), .mapo (encM (kI .i64) (kI .i64) x0.fk)] σ.M (resA Try.ty σ.A σ.M Try.f69.results.toList)
theorem gG.can (x0 : Tq) (x1 : Int) (r : Int × Tq) (hr : gG x0 x1 = some r) : CallOk Try.prog 69 [.ptr 0 0, .lit (.int .i64 x1)] [.blk [.lit (.int .i64 x0.fb), .mp 1, .mp 2, .lit (.int .i64 x0.fAt), .lit (.bool x0.ff)], .mapo (encM (kI .i64) (kI .i64) x0.fj), .mapo (encM (kI .i64) (kI .i64) x0.fk)] (gG.out x0 x1 r) := by
 unfold gG at hr
 have hΓ := gamL_nil (P := Try.prog)
 refine Lg Try.tyOk Try.func69 rfl (by kernel_rfl) rfl rfl (by simp) ?_
 intro _ _ _
 refine Try.tg hΓ [] [] (by kernel_rfl) rfl (by simp; exact rr) ?_
 refine AWp.seq ?_
 refine Try.tg hΓ [11] [] (by kernel_rfl) rfl (by simp; exact rr) ?_
 refine AWp.cond (b := (eqI (getM eqI x1 0 x0.fj) 0)) (by simp) (fun h3 => ?_) (fun h3 => ?_)
 ·have hr := Li h3 hr
  refine Try.tg hΓ [4] [11, 0, 1] (by kernel_rfl) rfl (by simp [h3]; exact rr) ?_
  refine AWp.ret ?_
  obtain rfl := La hr
  refine Lf ?_
  simp
 ·have hr := Lj h3 hr
  refine AWp.skip ?_
  refine Try.tg hΓ [] [11] (by kernel_rfl) rfl (by simp [h3]; exact rr) ?_
  refine Try.tg hΓ [] [] (by kernel_rfl) rfl (by simp; exact rr) ?_
  refine AWp.meetF (fun (v1 : Bool) (γ1 : Unit) => ⟨[], [.blk [.n x0.fb, .mp 1, .mp 2, .n x0.fAt, .b v1], .mapo (encM (kI .i64) (kI .i64) (delM eqI x1 x0.fj)), .mapo (encM (kI .i64) (kI .i64) (delM eqI x1 x0.fk))]⟩) (gG.fin x0 x1) hr (fun f hr => ?_) (fun v1 γ1 hr => ?_) (fun _ h => h)
  ·refine Try.tg hΓ [27] [1] (by kernel_rfl) rfl (by simp; exact rr) ?_
   refine AWp.cond (b := (eqI x0.fAt x1)) (by simp) (fun h4 => ?_) (fun h4 => ?_)
   ·have hr := Li h4 hr
    refine AWp.lst (AWp.reg Try.tyOk hΓ [] [27, 0] (by kernel_rfl) rfl (by simp [h4]; exact rr)) ?_
    obtain rfl := La hr
    exact Ls () 3 (by first | (simp; done) | simp [h3, h4])
   ·have hr := Lj h4 hr
    refine AWp.skip ?_
    obtain rfl := La hr
    exact Ls () 3 (by first | (simp; done) | simp [h3, h4])
  ·refine Try.tg hΓ [4] [] (by kernel_rfl) rfl (by simp; exact rr) ?_
   refine AWp.ret ?_
   obtain rfl := La hr
   refine Lf ?_
   simp

@[simp] noncomputable def gG.S : Sp
 | [.ptr i0 0, .lit (.int .i64 x1)], M => match M[i0]? with
  | some (.blk c0) => (match nthE c0 1 with
  | some (.mp i1) => (match M[i1]? with
  | some (.mapo c1) => (match nthE c0 2 with
  | some (.mp i2) => (match M[i2]? with
  | some (.mapo c2) => (fun (y0 : Tq) => (fun (r : Int × Tq) => some { av := .lit (.int .i64 (r.1)), M := some (((M.set i0 (.blk [.lit (.int .i64 (r.2.fb)), .mp i1, .mp i2, .lit (.int .i64 (r.2.fAt)), .lit (.bool (r.2.ff))])).set i1 (.mapo (encM (kI .i64) (kI .i64) (r.2.fj)))).set i2 (.mapo (encM (kI .i64) (kI .i64) (r.2.fk)))), obl := c0 = Tq.enc y0 i1 i2 ∧ c1 = encM (kI .i64) (kI .i64) (y0.fj) ∧ c2 = encM (kI .i64) (kI .i64) (y0.fk) ∧ (gG y0 x1).isSome = true ∧ i0 ≠ i1 ∧ i0 ≠ i2 ∧ i1 ≠ i2 }) ((gG y0 x1).getD dflt)) (Tq.dec c0 (decM dkI dkI c1) (decM dkI dkI c2))
  | _ => none)
  | _ => none)
  | _ => none)
  | _ => none)
  | _ => none
 | _, _ => none

theorem gG.ok : SpecOk Try.prog 69 gG.S := by
 intro l M out h
 unfold gG.S at h
 split at h
 ·rename_i i0 x1
  split at h
  case h_2 => cases h
  rename_i c0 hM0
  split at h
  case h_2 => cases h
  rename_i i1 he1
  split at h
  case h_2 => cases h
  rename_i c1 hM1
  split at h
  case h_2 => cases h
  rename_i i2 he2
  split at h
  case h_2 => cases h
  rename_i c2 hM2
  try dsimp only at h
  cases h
  refine callOk_of fun ho => ?_
  obtain ⟨oc0, oc1, oc2, hs, hne0, hne1, hne2⟩ := ho
  generalize (Tq.dec c0 (decM dkI dkI c1) (decM dkI dkI c2)) = y0 at *
  subst oc0
  subst oc1
  subst oc2
  obtain ⟨r, hr⟩ := Option.isSome_iff_exists.1 hs
  simp only [hr, Option.getD_some]
  have q := Lk (M := M) [i0, i1, i2] (gG.can y0 x1 r hr) (by simp [hne0, hne1, hne2]) rfl (by intro k i hk; (cases k with | zero => (simp at hk; subst hk; simp [hM0, into]) | succ k => ((cases k with | zero => (simp at hk; subst hk; simp [hM1]) | succ k => ((cases k with | zero => (simp at hk; subst hk; simp [hM2]) | succ k => (simp at hk)))))))
  exact callOk_conv q trivial (by simp [into]) (by simp [frameOut, gG.out, into]) (by simp [frameOut, gG.out, into])
 ·cases h

@[simp] def gB.out (x0 : Tq) (_x1 : List Tk) (r : (List (Int × Int))) : Out := { av := .mp 3, M := some [.blk [.lit (.int .i64 x0.fb), .mp 1, .mp 2, .lit (.int .i64 x0.fAt), .lit (.bool x0.ff)], .mapo (encM (kI .i64) (kI .i64) x0.fj), .mapo (encM (kI .i64) (kI .i64) x0.fk), .mapo (encM (kI .i64) (kI .i64) r)] }
def gB.fin (x0 : Tq) (x1 : List Tk) (r : (List (Int × Int))) (σ : St) : Prop := finK (gB.out x0 x1 r) [.blk [.lit (.int .i64 x0.fb), .mp 1, .mp 2, .lit (.int .i64 x0.fAt), .lit (.bool x0.ff)], .mapo (encM (kI .i64) (kI .i64) x0.fj), .mapo (encM (kI .i64) (kI .i64) x0.fk)] σ.M (resA Try.ty σ.A σ.M Try.f77.results.toList)
theorem gB.can (x0 : Tq) (x1 : List Tk) (r : (List (Int × Int))) (hr : gB x0 x1 = some r) : CallOk Try.prog 77 [.ptr 0 0, .sl (x1.map Tk.enc) .no] [.blk [.lit (.int .i64 x0.fb), .mp 1, .mp 2, .lit (.int .i64 x0.fAt), .lit (.bool x0.ff)], .mapo (encM (kI .i64) (kI .i64) x0.fj), .mapo (encM (kI .i64) (kI .i64) x0.fk)] (gB.out x0 x1 r) := by
 unfold gB at hr
 have hΓ := gamL_nil (P := Try.prog)
 refine Lg Try.tyOk Try.func77 rfl (by kernel_rfl) rfl rfl (by simp) ?_
 intro _ _ _
 refine Try.tg hΓ [] [] (by kernel_rfl) rfl (by simp; exact rr) ?_
 refine Try.tg hΓ [5] [] (by kernel_rfl) rfl (by simp; exact rr) ?_
 refine AWp.seq ?_
 refine Try.tg hΓ [9, 10, 11] [1] (by kernel_rfl) rfl (by simp; exact rr) ?_
 refine AWp.loopE (fun (s1 : Int × (List (Int × Int))) (γ1 : Unit) => ⟨[⟨9, none, .sl (x1.map Tk.enc) .no⟩, ⟨10, none, .n (lenL x1)⟩, ⟨11, none, .n s1.1⟩, ⟨5, none, .mp 3⟩, ⟨0, none, .ptr 0 0⟩], [.blk [.n x0.fb, .mp 1, .mp 2, .n x0.fAt, .b x0.ff], .mapo (encM (kI .i64) (kI .i64) x0.fj), .mapo (encM (kI .i64) (kI .i64) x0.fk), .mapo (encM (kI .i64) (kI .i64) s1.2)]⟩) (fun (v1 : (List (Int × Int))) (γ1a : Unit) => ⟨[⟨5, none, .mp 3⟩], [.blk [.n x0.fb, .mp 1, .mp 2, .n x0.fAt, .b x0.ff], .mapo (encM (kI .i64) (kI .i64) x0.fj), .mapo (encM (kI .i64) (kI .i64) x0.fk), .mapo (encM (kI .i64) (kI .i64) v1)]⟩) (gB.fin x0 x1) hr () 4 (by simp) (fun s1 f γ1 hr => ?_) (fun v1 γ1a σ1 m1 hr hc => ?_) (fun _ h => h)
 ·unfold gB.loop1 at hr
  refine Try.tg hΓ [12] [] (by kernel_rfl) rfl (by simp; exact rr) ?_
  refine AWp.seq ?_
  refine AWp.cond (b := (ltI s1.1 (lenL x1))) (by simp) (fun h4 => ?_) (fun h4 => ?_)
  ·have hr := Li h4 hr
   refine AWp.skip ?_
   refine AWp.seq ?_
   refine AWp.block ?_
   obtain ⟨h5, hr⟩ := Lb hr
   refine Try.tg hΓ [7] [12] (by kernel_rfl) rfl (by simp [h4, h5]; exact rr) ?_
   refine Try.td hΓ [36] [] [] [(false, []), (false, []), (false, []), (false, []), (false, []), (false, []), (false, []), (false, []), (false, []), (false, [23]), (false, [23]), (false, [23]), (false, []), (false, []), (false, [28]), (false, [28]), (false, [28]), (false, [28]), (false, [28]), (false, [28]), (false, [28]), (false, [])] (by kernel_rfl) rfl (by simp; exact rr) ?_
   refine AWp.cond (b := (pickB (pickB (ltI 0 (getM eqI ((nthI x1 s1.1).fId) 0 x0.fj)) (leqI 0 ((nthI x1 s1.1).fm)) false) (leqI ((nthI x1 s1.1).fm) x0.fb) false)) (by simp) (fun h6 => ?_) (fun h6 => ?_)
   ·have hr := Li h6 hr
    refine AWp.lst (AWp.reg Try.tyOk hΓ [] [36, 7] (by kernel_rfl) rfl (by simp [h6]; exact rr)) ?_
    refine AWp.lst (AWp.reg Try.tyOk hΓ [11] [] (by kernel_rfl) rfl (by simp; exact rr)) ?_
    obtain rfl := La hr
    exact Lm () 4 (by first | (simp; done) | simp [h4, h5, h6])
   ·have hr := Lj h6 hr
    refine AWp.skip ?_
    refine AWp.lst (AWp.reg Try.tyOk hΓ [11] [36, 7] (by kernel_rfl) rfl (by simp [h6]; exact rr)) ?_
    obtain rfl := La hr
    exact Lm () 4 (by first | (simp; done) | simp [h4, h5, h6])
  ·have hr := Lj h4 hr
   refine AWp.exit ?_
   obtain rfl := La hr
   exact Lp () 4 (by first | (simp; done) | simp [h4])
 ·refine AWp.conv hc ?_
  refine Try.tg hΓ [4] [5] (by kernel_rfl) rfl (by simp; exact rr) ?_
  refine AWp.ret ?_
  obtain rfl := La hr
  refine Lf ?_
  simp

@[simp] noncomputable def gB.S : Sp
 | [.ptr i0 0, .sl e1 _], M => match M[i0]? with
  | some (.blk c0) => (match nthE c0 1 with
  | some (.mp i1) => (match M[i1]? with
  | some (.mapo c1) => (match nthE c0 2 with
  | some (.mp i2) => (match M[i2]? with
  | some (.mapo c2) => (fun (y0 : Tq) => some { av := .mp M.length, M := some (M ++ [.mapo (encM (kI .i64) (kI .i64) ((gB y0 (e1.map Tk.dec)).getD dflt))]), obl := e1 = (e1.map Tk.dec).map Tk.enc ∧ c0 = Tq.enc y0 i1 i2 ∧ c1 = encM (kI .i64) (kI .i64) (y0.fj) ∧ c2 = encM (kI .i64) (kI .i64) (y0.fk) ∧ (gB y0 (e1.map Tk.dec)).isSome = true ∧ i0 ≠ i1 ∧ i0 ≠ i2 ∧ i1 ≠ i2 }) (Tq.dec c0 (decM dkI dkI c1) (decM dkI dkI c2))
  | _ => none)
  | _ => none)
  | _ => none)
  | _ => none)
  | _ => none
 | _, _ => none

theorem gB.ok : SpecOk Try.prog 77 gB.S := by
 intro l M out h
 unfold gB.S at h
 split at h
 ·rename_i i0 e1 k1
  split at h
  case h_2 => cases h
  rename_i c0 hM0
  split at h
  case h_2 => cases h
  rename_i i1 he1
  split at h
  case h_2 => cases h
  rename_i c1 hM1
  split at h
  case h_2 => cases h
  rename_i i2 he2
  split at h
  case h_2 => cases h
  rename_i c2 hM2
  try dsimp only at h
  cases h
  refine callOk_of fun ho => ?_
  obtain ⟨ox1, oc0, oc1, oc2, hs, hne0, hne1, hne2⟩ := ho
  generalize (Tq.dec c0 (decM dkI dkI c1) (decM dkI dkI c2)) = y0 at *
  generalize (e1.map Tk.dec) = x1 at *
  subst ox1
  subst oc0
  subst oc1
  subst oc2
  obtain ⟨r, hr⟩ := Option.isSome_iff_exists.1 hs
  simp only [hr, Option.getD_some]
  have q := Lk (M := M) [i0, i1, i2] (gB.can y0 x1 r hr) (by simp [hne0, hne1, hne2]) rfl (by intro k i hk; (cases k with | zero => (simp at hk; subst hk; simp [hM0, into]) | succ k => ((cases k with | zero => (simp at hk; subst hk; simp [hM1]) | succ k => ((cases k with | zero => (simp at hk; subst hk; simp [hM2]) | succ k => (simp at hk)))))))
  exact callOk_conv q trivial (by simp [into]) (by simp [frameOut, gB.out, into]) (by simp [frameOut, gB.out, into, hM0, hM1, hM2, set_same])
 ·cases h

@[simp] def gax.out (_x0 : List Int) (_x1 : Int) (r : Int) : Out := { av := .lit (.int .i64 r), M := none }
def gax.fin (x0 : List Int) (x1 : Int) (r : Int) (σ : St) : Prop := finK (gax.out x0 x1 r) [] σ.M (resA Try.ty σ.A σ.M Try.f79.results.toList)
theorem gax.can (x0 : List Int) (x1 : Int) (r : Int) (hr : gax x0 x1 = some r) : CallOk Try.prog 79 [.sl (x0.map (eNum .i64)) .no, .lit (.int .i64 x1)] [] (gax.out x0 x1 r) := by
 unfold gax at hr
 have hΓ := (gamL_cons ge.ok (gamL_nil) : GamOk Try.prog _)
 refine Lg Try.tyOk Try.func79 rfl (by kernel_rfl) rfl rfl (by simp) ?_
 intro _ _ _
 refine Try.tg hΓ [] [] (by kernel_rfl) rfl (by simp; exact rr) ?_
 obtain ⟨r1, h5, hr⟩ := Lc hr
 refine Try.tg hΓ [5, 6] [1] (by kernel_rfl) rfl (by simp [h5]; exact rr) ?_
 refine AWp.meetF (fun (v1 : Int) (γ1 : Unit) => ⟨[⟨5, none, .n v1⟩, ⟨0, none, .sl (x0.map (eNum .i64)) .no⟩], []⟩) (gax.fin x0 x1) hr (fun f hr => ?_) (fun v1 γ1 hr => ?_) (fun _ h => h)
 ·refine Try.tg hΓ [13] [6] (by kernel_rfl) rfl (by simp; exact rr) ?_
  refine AWp.cond (b := r1.2) (by simp) (fun h6 => ?_) (fun h6 => ?_)
  ·have hr := Li h6 hr
   refine AWp.lst (AWp.reg Try.tyOk hΓ [5] [13] (by kernel_rfl) rfl (by simp [h6]; exact rr)) ?_
   obtain rfl := La hr
   exact Ls () 0 (by first | (simp; done) | simp [h5, h6])
  ·have hr := Lj h6 hr
   refine AWp.skip ?_
   obtain rfl := La hr
   exact Ls () 0 (by first | (simp; done) | simp [h5, h6])
 ·obtain ⟨h7, hr⟩ := Lb hr
  obtain ⟨h8, hr⟩ := Lb hr
  refine Try.tg hΓ [4] [5, 0] (by kernel_rfl) rfl (by simp [h7, h8]; exact rr) ?_
  refine AWp.ret ?_
  obtain rfl := La hr
  refine Lf ?_
  simp

@[simp] noncomputable def gax.S : Sp
 | [.sl e0 _, .lit (.int .i64 x1)], _ => some { av := .lit (.int .i64 ((gax (e0.map decI) x1).getD dflt)), M := none, obl := e0 = (e0.map decI).map (eNum .i64) ∧ (gax (e0.map decI) x1).isSome = true }
 | _, _ => none

theorem gax.ok : SpecOk Try.prog 79 gax.S := by
 intro l M out h
 unfold gax.S at h
 split at h
 ·rename_i e0 k0 x1
  cases h
  refine callOk_of fun ho => ?_
  obtain ⟨ox0, hs⟩ := ho
  generalize (e0.map decI) = x0 at *
  subst ox0
  obtain ⟨r, hr⟩ := Option.isSome_iff_exists.1 hs
  simp only [hr, Option.getD_some]
  have q := Lk (M := M) [] (gax.can x0 x1 r hr) (by simp) rfl (by intro k i hk; simp at hk)
  exact callOk_conv q trivial (by simp) (by simp [frameOut, gax.out]) (by simp [frameOut, gax.out])
 ·cases h

@[simp] def gg.out (_x0 : Tq) (_x1 : List Tk) (r : Int × Bool × Tq) : Out := { av := .tup [.lit (.int .i64 r.1), .lit (.bool r.2.1)], M := some [.blk [.lit (.int .i64 r.2.2.fb), .mp 1, .mp 2, .lit (.int .i64 r.2.2.fAt), .lit (.bool r.2.2.ff)], .mapo (encM (kI .i64) (kI .i64) r.2.2.fj), .mapo (encM (kI .i64) (kI .i64) r.2.2.fk)] }
def gg.fin (x0 : Tq) (x1 : List Tk) (r : Int × Bool × Tq) (σ : St) : Prop := finK (gg.out x0 x1 r) [.blk [.lit (.int .i64 x0.fb), .mp 1, .mp 2, .lit (.int .i64 x0.fAt), .lit (.bool x0.ff)], .mapo (encM (kI .i64) (kI .i64) x0.fj), .mapo (encM (kI .i64) (kI .i64) x0.fk)] σ.M (resA Try.ty σ.A σ.M Try.f63.results.toList)
theorem gg.can (x0 : Tq) (x1 : List Tk) (r : Int × Bool × Tq) (hr : gg x0 x1 = some r) : CallOk Try.prog 63 [.ptr 0 0, .sl (x1.map Tk.enc) .no] [.blk [.lit (.int .i64 x0.fb), .mp 1, .mp 2, .lit (.int .i64 x0.fAt), .lit (.bool x0.ff)], .mapo (encM (kI .i64) (kI .i64) x0.fj), .mapo (encM (kI .i64) (kI .i64) x0.fk)] (gg.out x0 x1 r) := by
 unfold gg at hr
 have hΓ := (gamL_cons gB.ok (gamL_cons gax.ok (gamL_cons libKeys.gMapsKeysMapIntIntIntInt.ok (gamL_cons libSorted.gSlicesSortedInt.ok (gamL_nil)))) : GamOk Try.prog _)
 refine Lg Try.tyOk Try.func63 rfl (by kernel_rfl) rfl rfl (by simp) ?_
 intro _ _ _
 refine Try.tg hΓ [] [] (by kernel_rfl) rfl (by simp; exact rr) ?_
 obtain ⟨r1, h14, hr⟩ := Lc hr
 refine Try.tg hΓ [6] [1] (by kernel_rfl) rfl (by simp [h14]; exact rr) ?_
 refine AWp.seq ?_
 refine Try.tg hΓ [20] [] (by kernel_rfl) rfl (by simp; exact rr) ?_
 refine AWp.prune (kk := .i64) (vE := (kI .i64)) (i := 2) (u := 4) (mm := 5) (fun k1 => (bif (notB (hasM eqI k1 r1)) then false else true)) x0.fk (fun m1 vis1 cur1 => ⟨[⟨20, none, .it 4⟩, ⟨6, none, .mp 3⟩, ⟨0, none, .ptr 0 0⟩], [.blk [.n x0.fb, .mp 1, .mp 2, .n x0.fAt, .b x0.ff], .mapo (encM (kI .i64) (kI .i64) x0.fj), .mapr (encM (kI .i64) (kI .i64) m1) vis1 cur1 4, .mapo (encM (kI .i64) (kI .i64) r1), .dead]⟩) (fun m1 => ⟨[⟨6, none, .mp 3⟩, ⟨0, none, .ptr 0 0⟩], [.blk [.n x0.fb, .mp 1, .mp 2, .n x0.fAt, .b x0.ff], .mapo (encM (kI .i64) (kI .i64) x0.fj), .mapo (encM (kI .i64) (kI .i64) m1), .mapo (encM (kI .i64) (kI .i64) r1)]⟩) (fun _ _ _ => rfl) (by simp) (fun m1 vis1 cur1 => ?_) (fun σ1 mx hc => ?_)
 ·refine AWp.seq (AWp.regNextI Try.tyOk hΓ (t := 20) (u := 4) (i := 2) (d1 := 21) rfl rfl rfl rfl (keep := [22]) (dead := []) (by kernel_rfl) rfl (by simp) rfl (fun h15 => ⟨⟨[⟨22, none, .b false⟩, ⟨20, none, .it 4⟩, ⟨6, none, .mp 3⟩, ⟨0, none, .ptr 0 0⟩], [.blk [.n x0.fb, .mp 1, .mp 2, .n x0.fAt, .b x0.ff], .mapo (encM (kI .i64) (kI .i64) x0.fj), .mapr (encM (kI .i64) (kI .i64) m1) vis1 cur1 4, .mapo (encM (kI .i64) (kI .i64) r1), .dead]⟩, by simp, ?_⟩) (fun k1 _ _ h16 h17 h18 => ⟨⟨[⟨22, none, .b true⟩, ⟨20, none, .it 4⟩, ⟨6, none, .mp 3⟩, ⟨0, none, .ptr 0 0⟩], [.blk [.n x0.fb, .mp 1, .mp 2, .n x0.fAt, .b x0.ff], .mapo (encM (kI .i64) (kI .i64) x0.fj), .mapr (encM (kI .i64) (kI .i64) m1) (.int .i64 k1 :: vis1) (some (.int .i64 k1)) 4, .mapo (encM (kI .i64) (kI .i64) r1), .dead]⟩, by simp, ?_⟩))
  ·refine AWp.seq ?_
   refine AWp.cond (b := false) (by simp) (fun hb => ?_) (fun hb => ?_)
   ·cases hb
   ·refine AWp.exit ?_
    exact .inl ⟨rfl, h15, 4, by simp⟩
  ·refine AWp.seq ?_
   refine AWp.cond (b := true) (by simp) (fun hb => ?_) (fun hb => ?_)
   ·refine AWp.skip ?_
    refine AWp.block ?_
    refine Try.tg hΓ [7] [22] (by kernel_rfl) rfl (by simp [h18]; exact rr) ?_
    refine Try.tg hΓ [9] [] (by kernel_rfl) rfl (by simp; exact rr) ?_
    refine Try.tg hΓ [32] [9] (by kernel_rfl) rfl (by simp; exact rr) ?_
    refine AWp.cond (b := (notB (hasM eqI k1 r1))) (by simp) (fun h19 => ?_) (fun h19 => ?_)
    ·refine AWp.lst (AWp.reg Try.tyOk hΓ [] [32, 7] (by kernel_rfl) rfl (by simp [h18, h19]; exact rr)) ?_
     exact .inr ⟨rfl, k1, h16, ⟨_, h17⟩, 5, by simp [h19]⟩
    ·refine AWp.skip ?_
     exact .inr ⟨rfl, k1, h16, ⟨_, h17⟩, 5, by simp [h19]⟩
   ·cases hb
 ·refine AWp.conv hc ?_
  obtain ⟨h20, hr⟩ := Lb hr
  refine Try.tg hΓ [10] [] (by kernel_rfl) rfl (by simp [h20]; exact rr) ?_
  refine AWp.seq ?_
  refine Try.tg hΓ [43] [] (by kernel_rfl) rfl (by simp; exact rr) ?_
  refine AWp.cond (b := (eqI (lenL (sortL (keysM r1))) 0)) (by simp) (fun h21 => ?_) (fun h21 => ?_)
  ·have hr := Li h21 hr
   refine Try.tg hΓ [] [43, 10, 6, 0] (by kernel_rfl) rfl (by simp [h21]; exact rr) ?_
   refine Try.tg hΓ [4, 5] [] (by kernel_rfl) rfl (by simp; exact rr) ?_
   refine AWp.ret ?_
   obtain rfl := La hr
   refine Lf ?_
   simp
  ·have hr := Lj h21 hr
   refine AWp.skip ?_
   refine AWp.meetF (fun (v2 : Int × Bool) (γ2 : Unit) => ⟨[⟨10, none, .sl ((sortL (keysM r1)).map (eNum .i64)) .no⟩, ⟨6, none, .mp 3⟩, ⟨0, none, .ptr 0 0⟩], [.blk [.n x0.fb, .mp 1, .mp 2, .n v2.1, .b v2.2], .mapo (encM (kI .i64) (kI .i64) x0.fj), .mapo (encM (kI .i64) (kI .i64) (keepM (fun k1 => (bif (notB (hasM eqI k1 r1)) then false else true)) x0.fk)), .mapo (encM (kI .i64) (kI .i64) r1)]⟩) (gg.fin x0 x1) hr (fun f hr => ?_) (fun v2 γ2 hr => ?_) (fun _ h => h)
   ·refine Try.tg hΓ [12] [43] (by kernel_rfl) rfl (by simp [h21]; exact rr) ?_
    refine Try.tg hΓ [57] [12] (by kernel_rfl) rfl (by simp; exact rr) ?_
    refine AWp.cond (b := (notB (hasM eqI x0.fAt r1))) (by simp) (fun h22 => ?_) (fun h22 => ?_)
    ·have hr := Li h22 hr
     obtain ⟨r2, h23, hr⟩ := Lc hr
     refine AWp.lst (AWp.reg Try.tyOk hΓ [] [57] (by kernel_rfl) rfl (by simp [h22, h23]; exact rr)) ?_
     obtain rfl := La hr
     exact Ls () 4 (by first | (simp; done) | simp [h14, h20, h21, h22, h23])
    ·have hr := Lj h22 hr
     refine AWp.skip ?_
     obtain rfl := La hr
     exact Ls () 4 (by first | (simp; done) | simp [h14, h20, h21, h22])
   ·refine AWp.loopE (fun (s3 : Int × Bool × (List (Int × Int))) (γ3 : Unit) => ⟨[⟨10, none, .sl ((sortL (keysM r1)).map (eNum .i64)) .no⟩, ⟨6, none, .mp 3⟩, ⟨0, none, .ptr 0 0⟩], [.blk [.n x0.fb, .mp 1, .mp 2, .n s3.1, .b s3.2.1], .mapo (encM (kI .i64) (kI .i64) x0.fj), .mapo (encM (kI .i64) (kI .i64) s3.2.2), .mapo (encM (kI .i64) (kI .i64) r1)]⟩) (fun (v3 : Unit) (γ3a : Unit) => ⟨[], []⟩) (gg.fin x0 x1) hr () 4 (by simp) (fun s3 f γ3 hr => ?_) (fun v3 γ3a σ1 m1 hr hc => ?_) (fun _ h => h)
    ·unfold gg.loop3 at hr
     refine AWp.block ?_
     refine AWp.meetF (fun (v4 : Bool × (List (Int × Int))) (γ4 : Unit) => ⟨[⟨10, none, .sl ((sortL (keysM r1)).map (eNum .i64)) .no⟩, ⟨6, none, .mp 3⟩, ⟨0, none, .ptr 0 0⟩], [.blk [.n x0.fb, .mp 1, .mp 2, .n s3.1, .b v4.1], .mapo (encM (kI .i64) (kI .i64) x0.fj), .mapo (encM (kI .i64) (kI .i64) v4.2), .mapo (encM (kI .i64) (kI .i64) r1)]⟩) (QRr (gg.fin x0 x1)) hr (fun f hr => ?_) (fun v4 γ4 hr => ?_) (fun _ h => QRr_ret h)
     ·refine Try.tg hΓ [74] [] (by kernel_rfl) rfl (by simp; exact rr) ?_
      refine AWp.cond (b := (notB s3.2.1)) (by simp) (fun h24 => ?_) (fun h24 => ?_)
      ·have hr := Li h24 hr
       refine Try.td hΓ [] [74] [] [(false, []), (false, []), (false, []), (false, []), (false, []), (false, []), (false, []), (false, []), (false, []), (false, []), (false, []), (false, []), (false, []), (false, []), (false, []), (false, []), (false, []), (false, []), (false, []), (true, [])] (by kernel_rfl) rfl (by simp [h24]; exact rr) ?_
       refine AWp.lst (AWp.reg Try.tyOk hΓ [] [] (by kernel_rfl) rfl (by simp; exact rr)) ?_
       obtain rfl := La hr
       exact Ls () 4 (by first | (simp; done) | simp [h14, h20, h21, h24])
      ·have hr := Lj h24 hr
       refine AWp.skip ?_
       obtain rfl := La hr
       exact Ls () 4 (by first | (simp; done) | simp [h14, h20, h21, h24])
     ·refine AWp.seq ?_
      refine Try.td hΓ [112] [] [] [(false, []), (false, []), (false, []), (false, []), (false, []), (false, []), (false, []), (false, []), (false, []), (false, []), (false, []), (false, []), (false, []), (false, []), (false, []), (false, [])] (by kernel_rfl) rfl (by simp; exact rr) ?_
      refine AWp.cond (b := (leqI (getM eqI s3.1 0 r1) (getM eqI s3.1 0 v4.2))) (by simp) (fun h25 => ?_) (fun h25 => ?_)
      ·have hr := Li h25 hr
       refine Try.tg hΓ [4, 5] [112, 10, 6, 0] (by kernel_rfl) rfl (by simp [h25]; exact rr) ?_
       refine AWp.ret ?_
       obtain rfl := La hr
       refine round_ret ?_
       refine Lf ?_
       simp
      ·have hr := Lj h25 hr
       refine AWp.skip ?_
       obtain ⟨r3, h26, hr⟩ := Lc hr
       refine AWp.lst (AWp.reg Try.tyOk hΓ [] [112] (by kernel_rfl) rfl (by simp [h25, h26]; exact rr)) ?_
       obtain rfl := La hr
       exact Lm () 4 (by first | (simp; done) | simp [h14, h20, h21, h25, h26])
    ·cases hr

@[simp] noncomputable def gg.S : Sp
 | [.ptr i0 0, .sl e1 _], M => match M[i0]? with
  | some (.blk c0) => (match nthE c0 1 with
  | some (.mp i1) => (match M[i1]? with
  | some (.mapo c1) => (match nthE c0 2 with
  | some (.mp i2) => (match M[i2]? with
  | some (.mapo c2) => (fun (y0 : Tq) => (fun (r : Int × Bool × Tq) => some { av := .tup [.lit (.int .i64 (r.1)), .lit (.bool (r.2.1))], M := some (((M.set i0 (.blk [.lit (.int .i64 (r.2.2.fb)), .mp i1, .mp i2, .lit (.int .i64 (r.2.2.fAt)), .lit (.bool (r.2.2.ff))])).set i1 (.mapo (encM (kI .i64) (kI .i64) (r.2.2.fj)))).set i2 (.mapo (encM (kI .i64) (kI .i64) (r.2.2.fk)))), obl := e1 = (e1.map Tk.dec).map Tk.enc ∧ c0 = Tq.enc y0 i1 i2 ∧ c1 = encM (kI .i64) (kI .i64) (y0.fj) ∧ c2 = encM (kI .i64) (kI .i64) (y0.fk) ∧ (gg y0 (e1.map Tk.dec)).isSome = true ∧ i0 ≠ i1 ∧ i0 ≠ i2 ∧ i1 ≠ i2 }) ((gg y0 (e1.map Tk.dec)).getD dflt)) (Tq.dec c0 (decM dkI dkI c1) (decM dkI dkI c2))
  | _ => none)
  | _ => none)
  | _ => none)
  | _ => none)
  | _ => none
 | _, _ => none

theorem gg.ok : SpecOk Try.prog 63 gg.S := by
 intro l M out h
 unfold gg.S at h
 split at h
 ·rename_i i0 e1 k1
  split at h
  case h_2 => cases h
  rename_i c0 hM0
  split at h
  case h_2 => cases h
  rename_i i1 he1
  split at h
  case h_2 => cases h
  rename_i c1 hM1
  split at h
  case h_2 => cases h
  rename_i i2 he2
  split at h
  case h_2 => cases h
  rename_i c2 hM2
  try dsimp only at h
  cases h
  refine callOk_of fun ho => ?_
  obtain ⟨ox1, oc0, oc1, oc2, hs, hne0, hne1, hne2⟩ := ho
  generalize (Tq.dec c0 (decM dkI dkI c1) (decM dkI dkI c2)) = y0 at *
  generalize (e1.map Tk.dec) = x1 at *
  subst ox1
  subst oc0
  subst oc1
  subst oc2
  obtain ⟨r, hr⟩ := Option.isSome_iff_exists.1 hs
  simp only [hr, Option.getD_some]
  have q := Lk (M := M) [i0, i1, i2] (gg.can y0 x1 r hr) (by simp [hne0, hne1, hne2]) rfl (by intro k i hk; (cases k with | zero => (simp at hk; subst hk; simp [hM0, into]) | succ k => ((cases k with | zero => (simp at hk; subst hk; simp [hM1]) | succ k => ((cases k with | zero => (simp at hk; subst hk; simp [hM2]) | succ k => (simp at hk)))))))
  exact callOk_conv q trivial (by simp [into]) (by simp [frameOut, gg.out, into]) (by simp [frameOut, gg.out, into])
 ·cases h

@[simp] def gaj.out (_x0 : Tq) (_x1 : Int) (r : Tq) : Out := { av := .tup [], M := some [.blk [.lit (.int .i64 r.fb), .mp 1, .mp 2, .lit (.int .i64 r.fAt), .lit (.bool r.ff)], .mapo (encM (kI .i64) (kI .i64) r.fj), .mapo (encM (kI .i64) (kI .i64) r.fk)] }
theorem gaj.can (x0 : Tq) (x1 : Int) (r : Tq) (hr : gaj x0 x1 = some r) : CallOk Try.prog 44 [.ptr 0 0, .lit (.int .i64 x1)] [.blk [.lit (.int .i64 x0.fb), .mp 1, .mp 2, .lit (.int .i64 x0.fAt), .lit (.bool x0.ff)], .mapo (encM (kI .i64) (kI .i64) x0.fj), .mapo (encM (kI .i64) (kI .i64) x0.fk)] (gaj.out x0 x1 r) := by
 unfold gaj at hr
 have hΓ := gamL_nil (P := Try.prog)
 refine Lg Try.tyOk Try.func44 rfl (by kernel_rfl) rfl rfl (by simp) ?_
 intro _ _ _
 refine Try.td hΓ [24] [] [] [(false, []), (false, []), (false, []), (false, []), (false, []), (false, [8]), (false, [8]), (false, []), (false, []), (false, [12]), (false, [12]), (false, [12]), (false, [12]), (false, [12]), (false, [12]), (false, [12]), (false, [12]), (false, [12]), (false, [12]), (false, [12]), (false, [])] (by kernel_rfl) rfl (by simp; exact rr) ?_
 refine AWp.cond (b := (pickB (pickB x0.ff (leqI 0 x1) false) (leqI x1 (getM eqI x0.fAt 0 x0.fk)) false)) (by simp) (fun h2 => ?_) (fun h2 => ?_)
 ·have hr := Li h2 hr
  refine AWp.lst (AWp.regD Try.mixed Try.tyOk hΓ [] [24, 0, 1] [] [(false, []), (false, []), (false, []), (false, []), (false, []), (false, []), (false, []), (false, []), (false, []), (false, []), (false, []), (true, [])] (by kernel_rfl) rfl (by simp [h2]; exact rr)) ?_
  obtain rfl := La hr
  refine fin_norm ?_
  simp
 ·have hr := Lj h2 hr
  refine AWp.skip ?_
  obtain rfl := La hr
  refine fin_norm ?_
  simp

@[simp] noncomputable def gaj.S : Sp
 | [.ptr i0 0, .lit (.int .i64 x1)], M => match M[i0]? with
  | some (.blk c0) => (match nthE c0 1 with
  | some (.mp i1) => (match M[i1]? with
  | some (.mapo c1) => (match nthE c0 2 with
  | some (.mp i2) => (match M[i2]? with
  | some (.mapo c2) => (fun (y0 : Tq) => (fun (r : Tq) => some { av := .tup [], M := some (((M.set i0 (.blk [.lit (.int .i64 (r.fb)), .mp i1, .mp i2, .lit (.int .i64 (r.fAt)), .lit (.bool (r.ff))])).set i1 (.mapo (encM (kI .i64) (kI .i64) (r.fj)))).set i2 (.mapo (encM (kI .i64) (kI .i64) (r.fk)))), obl := c0 = Tq.enc y0 i1 i2 ∧ c1 = encM (kI .i64) (kI .i64) (y0.fj) ∧ c2 = encM (kI .i64) (kI .i64) (y0.fk) ∧ (gaj y0 x1).isSome = true ∧ i0 ≠ i1 ∧ i0 ≠ i2 ∧ i1 ≠ i2 }) ((gaj y0 x1).getD dflt)) (Tq.dec c0 (decM dkI dkI c1) (decM dkI dkI c2))
  | _ => none)
  | _ => none)
  | _ => none)
  | _ => none)
  | _ => none
 | _, _ => none

theorem gaj.ok : SpecOk Try.prog 44 gaj.S := by
 intro l M out h
 unfold gaj.S at h
 split at h
 ·rename_i i0 x1
  split at h
  case h_2 => cases h
  rename_i c0 hM0
  split at h
  case h_2 => cases h
  rename_i i1 he1
  split at h
  case h_2 => cases h
  rename_i c1 hM1
  split at h
  case h_2 => cases h
  rename_i i2 he2
  split at h
  case h_2 => cases h
  rename_i c2 hM2
  try dsimp only at h
  cases h
  refine callOk_of fun ho => ?_
  obtain ⟨oc0, oc1, oc2, hs, hne0, hne1, hne2⟩ := ho
  generalize (Tq.dec c0 (decM dkI dkI c1) (decM dkI dkI c2)) = y0 at *
  subst oc0
  subst oc1
  subst oc2
  obtain ⟨r, hr⟩ := Option.isSome_iff_exists.1 hs
  simp only [hr, Option.getD_some]
  have q := Lk (M := M) [i0, i1, i2] (gaj.can y0 x1 r hr) (by simp [hne0, hne1, hne2]) rfl (by intro k i hk; (cases k with | zero => (simp at hk; subst hk; simp [hM0, into]) | succ k => ((cases k with | zero => (simp at hk; subst hk; simp [hM1]) | succ k => ((cases k with | zero => (simp at hk; subst hk; simp [hM2]) | succ k => (simp at hk)))))))
  exact callOk_conv q trivial (by simp [into]) (by simp [frameOut, gaj.out, into]) (by simp [frameOut, gaj.out, into])
 ·cases h
end Go.Proofs

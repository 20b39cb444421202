/- That these functions compute what their plain functions do. No condition. -/
import Derived.Test.YtnoeflijefijcaaM01
import Derived.Test.YtnoeflijefijcaaTy
set_option maxRecDepth 100000
set_option maxHeartbeats 4000000
namespace Go.Proofs
open Go.Ab
@[simp] def gaA.out (_x0 : Int) (_x1 : Int) (r : Option Tp × Int) : Out := { av := .tup [(optC r.1 (.lit (.pointer none)) fun _ => .ptr 0 0), .lit (.int .i64 r.2)], M := some (optC r.1 [] fun m0 => [.blk [.lit (.int .i64 m0.fh), .lit (.int .i64 m0.fb), .sl (m0.fL.map Ta.enc) .no, .lit (.int .i64 m0.fm), .lit (.bool m0.fv)]]) }
theorem gaA.can (x0 : Int) (x1 : Int) (r : Option Tp × Int) (hr : gaA x0 x1 = some r) : CallOk Try.prog 26 [.lit (.int .i64 x0), .lit (.int .i64 x1)] [] (gaA.out x0 x1 r) := by
 unfold gaA at hr
 have hΓ := gamL_nil (P := Try.prog)
 refine Lg Try.tyOk Try.func26 rfl (by kernel_rfl) rfl rfl (by simp) ?_
 intro _ _ _
 refine Try.tg hΓ [] [] (by kernel_rfl) rfl (by simp; exact rr) ?_
 refine AWp.seq ?_
 refine Try.tg hΓ [19] [] (by kernel_rfl) rfl (by simp; exact rr) ?_
 refine AWp.cond (b := (pickB (pickB (pickB (ltI x0 1) true (ltI 1024 x0)) true (ltI x1 1)) true (ltI 16777216 x1))) (by simp) (fun h2 => ?_) (fun h2 => ?_)
 ·have hr := Li h2 hr
  refine Try.tg hΓ [4, 5] [19, 0, 1] (by kernel_rfl) rfl (by simp [h2]; exact rr) ?_
  refine AWp.ret ?_
  obtain rfl := La hr
  refine Lf ?_
  simp
 ·have hr := Lj h2 hr
  refine AWp.skip ?_
  refine Try.tg hΓ [4, 5] [19, 0, 1] (by kernel_rfl) rfl (by simp [h2]; exact rr) ?_
  refine AWp.ret ?_
  obtain rfl := La hr
  refine Lf ?_
  simp

@[simp] noncomputable def gaA.S : Sp
 | [.lit (.int .i64 x0), .lit (.int .i64 x1)], M => some { av := .tup [(optC (((gaA x0 x1).getD dflt).1) (.lit (.pointer none)) fun _ => .ptr M.length 0), .lit (.int .i64 (((gaA x0 x1).getD dflt).2))], M := some (optC (((gaA x0 x1).getD dflt).1) M fun m0 => M ++ [.blk [.lit (.int .i64 m0.fh), .lit (.int .i64 m0.fb), .sl (m0.fL.map Ta.enc) .no, .lit (.int .i64 m0.fm), .lit (.bool m0.fv)]]), obl := (gaA x0 x1).isSome = true }
 | _, _ => none

theorem gaA.ok : SpecOk Try.prog 26 gaA.S := by
 intro l M out h
 unfold gaA.S at h
 split at h
 ·rename_i x0 x1
  cases h
  refine callOk_of fun ho => ?_
  have hs := ho
  obtain ⟨r, hr⟩ := Option.isSome_iff_exists.1 hs
  simp only [hr, Option.getD_some]
  have q := Lk (M := M) [] (gaA.can x0 x1 r hr) (by simp) rfl (by intro k i hk; simp at hk)
  cases hc : r.1 with
  | none => exact callOk_conv q trivial (by simp) (by simp [hc, frameOut, gaA.out]) (by simp [hc, frameOut, gaA.out])
  | some m0 => exact callOk_conv q trivial (by simp) (by simp [hc, frameOut, gaA.out, into]) (by simp [hc, frameOut, gaA.out, into])
 ·cases h

@[simp] def gab.out (_x0 : Tp) (r : Int) : Out := { av := .lit (.int .i64 r), M := none }
theorem gab.can (x0 : Tp) (r : Int) (hr : gab x0 = some r) : CallOk Try.prog 33 [.ptr 0 0] [.blk x0.enc] (gab.out x0 r) := by
 unfold gab at hr
 have hΓ := gamL_nil (P := Try.prog)
 refine Lg Try.tyOk Try.func33 rfl (by kernel_rfl) rfl rfl (by simp) ?_
 intro _ _ _
 refine Try.tg hΓ [] [] (by kernel_rfl) rfl (by simp; exact rr) ?_
 refine Try.tg hΓ [2] [0] (by kernel_rfl) rfl (by simp; exact rr) ?_
 refine AWp.ret ?_
 obtain rfl := La hr
 refine Lf ?_
 simp

@[simp] noncomputable def gab.S : Sp
 | [.ptr i0 0], M => match M[i0]? with
  | some (.blk c0) => some { av := .lit (.int .i64 ((gab (Tp.dec c0)).getD dflt)), M := none, obl := c0 = Tp.enc (Tp.dec c0) ∧ (gab (Tp.dec c0)).isSome = true }
  | _ => none
 | _, _ => none

theorem gab.ok : SpecOk Try.prog 33 gab.S := by
 intro l M out h
 unfold gab.S at h
 split at h
 ·rename_i i0
  split at h
  case h_2 => cases h
  rename_i c0 hM0
  cases h
  refine callOk_of fun ho => ?_
  obtain ⟨oc0, hs⟩ := ho
  generalize (Tp.dec c0) = y0 at *
  subst oc0
  obtain ⟨r, hr⟩ := Option.isSome_iff_exists.1 hs
  simp only [hr, Option.getD_some]
  have q := Lk (M := M) [i0] (gab.can y0 r hr) (by simp) rfl (by intro k i hk; (cases k with | zero => (simp at hk; subst hk; simp [hM0]) | succ k => (simp at hk)))
  exact callOk_conv q trivial (by simp [into]) (by simp [frameOut, gab.out]) (by simp only [frameOut, gab.out, Option.getD_some, Option.getD_none]; simp [hM0, set_same])
 ·cases h

@[simp] def gao.out (_x0 : Tp) (r : Int) : Out := { av := .lit (.int .i64 r), M := none }
theorem gao.can (x0 : Tp) (r : Int) (hr : gao x0 = some r) : CallOk Try.prog 34 [.ptr 0 0] [.blk x0.enc] (gao.out x0 r) := by
 unfold gao at hr
 have hΓ := gamL_nil (P := Try.prog)
 refine Lg Try.tyOk Try.func34 rfl (by kernel_rfl) rfl rfl (by simp) ?_
 intro _ _ _
 refine Try.tg hΓ [] [] (by kernel_rfl) rfl (by simp; exact rr) ?_
 refine Try.tg hΓ [2] [0] (by kernel_rfl) rfl (by simp; exact rr) ?_
 refine AWp.ret ?_
 obtain rfl := La hr
 refine Lf ?_
 simp

@[simp] noncomputable def gao.S : Sp
 | [.ptr i0 0], M => match M[i0]? with
  | some (.blk c0) => some { av := .lit (.int .i64 ((gao (Tp.dec c0)).getD dflt)), M := none, obl := c0 = Tp.enc (Tp.dec c0) ∧ (gao (Tp.dec c0)).isSome = true }
  | _ => none
 | _, _ => none

theorem gao.ok : SpecOk Try.prog 34 gao.S := by
 intro l M out h
 unfold gao.S at h
 split at h
 ·rename_i i0
  split at h
  case h_2 => cases h
  rename_i c0 hM0
  cases h
  refine callOk_of fun ho => ?_
  obtain ⟨oc0, hs⟩ := ho
  generalize (Tp.dec c0) = y0 at *
  subst oc0
  obtain ⟨r, hr⟩ := Option.isSome_iff_exists.1 hs
  simp only [hr, Option.getD_some]
  have q := Lk (M := M) [i0] (gao.can y0 r hr) (by simp) rfl (by intro k i hk; (cases k with | zero => (simp at hk; subst hk; simp [hM0]) | succ k => (simp at hk)))
  exact callOk_conv q trivial (by simp [into]) (by simp [frameOut, gao.out]) (by simp only [frameOut, gao.out, Option.getD_some, Option.getD_none]; simp [hM0, set_same])
 ·cases h

@[simp] def gY.out (_x0 : Tp) (r : Bool) : Out := { av := .lit (.bool r), M := none }
theorem gY.can (x0 : Tp) (r : Bool) (hr : gY x0 = some r) : CallOk Try.prog 27 [.ptr 0 0] [.blk x0.enc] (gY.out x0 r) := by
 unfold gY at hr
 have hΓ := gamL_nil (P := Try.prog)
 refine Lg Try.tyOk Try.func27 rfl (by kernel_rfl) rfl rfl (by simp) ?_
 intro _ _ _
 refine Try.tg hΓ [] [] (by kernel_rfl) rfl (by simp; exact rr) ?_
 refine Try.tg hΓ [2] [0] (by kernel_rfl) rfl (by simp; exact rr) ?_
 refine AWp.ret ?_
 obtain rfl := La hr
 refine Lf ?_
 simp

@[simp] noncomputable def gY.S : Sp
 | [.ptr i0 0], M => match M[i0]? with
  | some (.blk c0) => some { av := .lit (.bool ((gY (Tp.dec c0)).getD dflt)), M := none, obl := c0 = Tp.enc (Tp.dec c0) ∧ (gY (Tp.dec c0)).isSome = true }
  | _ => none
 | _, _ => none

theorem gY.ok : SpecOk Try.prog 27 gY.S := by
 intro l M out h
 unfold gY.S at h
 split at h
 ·rename_i i0
  split at h
  case h_2 => cases h
  rename_i c0 hM0
  cases h
  refine callOk_of fun ho => ?_
  obtain ⟨oc0, hs⟩ := ho
  generalize (Tp.dec c0) = y0 at *
  subst oc0
  obtain ⟨r, hr⟩ := Option.isSome_iff_exists.1 hs
  simp only [hr, Option.getD_some]
  have q := Lk (M := M) [i0] (gY.can y0 r hr) (by simp) rfl (by intro k i hk; (cases k with | zero => (simp at hk; subst hk; simp [hM0]) | succ k => (simp at hk)))
  exact callOk_conv q trivial (by simp [into]) (by simp [frameOut, gY.out]) (by simp only [frameOut, gY.out, Option.getD_some, Option.getD_none]; simp [hM0, set_same])
 ·cases h

@[simp] def gF.out (_x0 : Tp) (r : Ta × Bool) : Out := { av := .tup [.agg [.lit (.int .i64 r.1.fN), .lit (.int .i64 r.1.fm), .lit (.int .i64 r.1.fy), .lit (.bool r.1.fz)], .lit (.bool r.2)], M := none }
theorem gF.can (x0 : Tp) (r : Ta × Bool) (hr : gF x0 = some r) : CallOk Try.prog 42 [.ptr 0 0] [.blk x0.enc] (gF.out x0 r) := by
 unfold gF at hr
 have hΓ := gamL_nil (P := Try.prog)
 refine Lg Try.tyOk Try.func42 rfl (by kernel_rfl) rfl rfl (by simp) ?_
 intro _ _ _
 refine Try.tg hΓ [2] [] (by kernel_rfl) rfl (by simp; exact rr) ?_
 refine AWp.seq ?_
 refine Try.tg hΓ [9] [] (by kernel_rfl) rfl (by simp; exact rr) ?_
 refine AWp.cond (b := (eqI (lenL x0.fL) 0)) (by simp) (fun h3 => ?_) (fun h3 => ?_)
 ·have hr := Li h3 hr
  refine Try.tg hΓ [3] [9, 0] (by kernel_rfl) rfl (by simp [h3]; exact rr) ?_
  refine AWp.ret ?_
  obtain rfl := La hr
  refine Lf ?_
  simp
 ·have hr := Lj h3 hr
  refine AWp.skip ?_
  obtain ⟨h4, hr⟩ := Lb hr
  refine Try.tg hΓ [3] [9, 0] (by kernel_rfl) rfl (by simp [h3, h4]; exact rr) ?_
  refine AWp.ret ?_
  obtain rfl := La hr
  refine Lf ?_
  simp

@[simp] noncomputable def gF.S : Sp
 | [.ptr i0 0], M => match M[i0]? with
  | some (.blk c0) => (fun (r : Ta × Bool) => some { av := .tup [.agg [.lit (.int .i64 (r.1.fN)), .lit (.int .i64 (r.1.fm)), .lit (.int .i64 (r.1.fy)), .lit (.bool (r.1.fz))], .lit (.bool (r.2))], M := none, obl := c0 = Tp.enc (Tp.dec c0) ∧ (gF (Tp.dec c0)).isSome = true }) ((gF (Tp.dec c0)).getD dflt)
  | _ => none
 | _, _ => none

theorem gF.ok : SpecOk Try.prog 42 gF.S := by
 intro l M out h
 unfold gF.S at h
 split at h
 ·rename_i i0
  split at h
  case h_2 => cases h
  rename_i c0 hM0
  try dsimp only at h
  cases h
  refine callOk_of fun ho => ?_
  obtain ⟨oc0, hs⟩ := ho
  generalize (Tp.dec c0) = y0 at *
  subst oc0
  obtain ⟨r, hr⟩ := Option.isSome_iff_exists.1 hs
  simp only [hr, Option.getD_some]
  have q := Lk (M := M) [i0] (gF.can y0 r hr) (by simp) rfl (by intro k i hk; (cases k with | zero => (simp at hk; subst hk; simp [hM0]) | succ k => (simp at hk)))
  exact callOk_conv q trivial (by simp [into]) (by simp [frameOut, gF.out]) (by simp only [frameOut, gF.out, Option.getD_some, Option.getD_none]; simp [hM0, set_same])
 ·cases h

@[simp] def gM.out (_x0 : Tp) (r : Ta × Tp) : Out := { av := .agg [.lit (.int .i64 r.1.fN), .lit (.int .i64 r.1.fm), .lit (.int .i64 r.1.fy), .lit (.bool r.1.fz)], M := some [.blk [.lit (.int .i64 r.2.fh), .lit (.int .i64 r.2.fb), .sl (r.2.fL.map Ta.enc) .no, .lit (.int .i64 r.2.fm), .lit (.bool r.2.fv)]] }
theorem gM.can (x0 : Tp) (r : Ta × Tp) (hr : gM x0 = some r) : CallOk Try.prog 64 [.ptr 0 0] [.blk x0.enc] (gM.out x0 r) := by
 unfold gM at hr
 have hΓ := gamL_nil (P := Try.prog)
 refine Lg Try.tyOk Try.func64 rfl (by kernel_rfl) rfl rfl (by simp) ?_
 intro _ _ _
 refine Try.tg hΓ [2] [] (by kernel_rfl) rfl (by simp; exact rr) ?_
 obtain ⟨h3, hr⟩ := Lb hr
 refine Try.tg hΓ [3] [] (by kernel_rfl) rfl (by simp [h3]; exact rr) ?_
 obtain ⟨h4, hr⟩ := Lb hr
 refine Try.tg hΓ [] [] (by kernel_rfl) rfl (by simp [h4]; exact rr) ?_
 refine Try.td hΓ [] [0] [] [(false, []), (false, []), (false, []), (false, []), (false, []), (false, []), (false, []), (false, []), (false, []), (true, [])] (by kernel_rfl) rfl (by simp; exact rr) ?_
 refine Try.tg hΓ [] [3] (by kernel_rfl) rfl (by simp; exact rr) ?_
 refine AWp.ret ?_
 obtain rfl := La hr
 refine Lf ?_
 simp

@[simp] noncomputable def gM.S : Sp
 | [.ptr i0 0], M => match M[i0]? with
  | some (.blk c0) => (fun (r : Ta × Tp) => some { av := .agg [.lit (.int .i64 (r.1.fN)), .lit (.int .i64 (r.1.fm)), .lit (.int .i64 (r.1.fy)), .lit (.bool (r.1.fz))], M := some (M.set i0 (.blk [.lit (.int .i64 (r.2.fh)), .lit (.int .i64 (r.2.fb)), .sl ((r.2.fL).map Ta.enc) .no, .lit (.int .i64 (r.2.fm)), .lit (.bool (r.2.fv))])), obl := c0 = Tp.enc (Tp.dec c0) ∧ (gM (Tp.dec c0)).isSome = true }) ((gM (Tp.dec c0)).getD dflt)
  | _ => none
 | _, _ => none

theorem gM.ok : SpecOk Try.prog 64 gM.S := by
 intro l M out h
 unfold gM.S at h
 split at h
 ·rename_i i0
  split at h
  case h_2 => cases h
  rename_i c0 hM0
  try dsimp only at h
  cases h
  refine callOk_of fun ho => ?_
  obtain ⟨oc0, hs⟩ := ho
  generalize (Tp.dec c0) = y0 at *
  subst oc0
  obtain ⟨r, hr⟩ := Option.isSome_iff_exists.1 hs
  simp only [hr, Option.getD_some]
  have q := Lk (M := M) [i0] (gM.can y0 r hr) (by simp) rfl (by intro k i hk; (cases k with | zero => (simp at hk; subst hk; simp [hM0]) | succ k => (simp at hk)))
  exact callOk_conv q trivial (by simp [into]) (by simp [frameOut, gM.out]) (by simp [frameOut, gM.out])
 ·cases h

@[simp] def gap.out (_x0 : Tp) (r : Ta × Bool × Tp) : Out := { av := .tup [.agg [.lit (.int .i64 r.1.fN), .lit (.int .i64 r.1.fm), .lit (.int .i64 r.1.fy), .lit (.bool r.1.fz)], .lit (.bool r.2.1)], M := some [.blk [.lit (.int .i64 r.2.2.fh), .lit (.int .i64 r.2.2.fb), .sl (r.2.2.fL.map Ta.enc) .no, .lit (.int .i64 r.2.2.fm), .lit (.bool r.2.2.fv)]] }
theorem gap.can (x0 : Tp) (r : Ta × Bool × Tp) (hr : gap x0 = some r) : CallOk Try.prog 43 [.ptr 0 0] [.blk x0.enc] (gap.out x0 r) := by
 unfold gap at hr
 have hΓ := (gamL_cons gM.ok (gamL_nil) : GamOk Try.prog _)
 refine Lg Try.tyOk Try.func43 rfl (by kernel_rfl) rfl rfl (by simp) ?_
 intro _ _ _
 refine Try.tg hΓ [2] [] (by kernel_rfl) rfl (by simp; exact rr) ?_
 refine AWp.seq ?_
 refine Try.tg hΓ [9] [] (by kernel_rfl) rfl (by simp; exact rr) ?_
 refine AWp.cond (b := (eqI (lenL x0.fL) 0)) (by simp) (fun h3 => ?_) (fun h3 => ?_)
 ·have hr := Li h3 hr
  refine Try.tg hΓ [3] [9, 0] (by kernel_rfl) rfl (by simp [h3]; exact rr) ?_
  refine AWp.ret ?_
  obtain rfl := La hr
  refine Lf ?_
  simp
 ·have hr := Lj h3 hr
  refine AWp.skip ?_
  obtain ⟨r1, h4, hr⟩ := Lc hr
  refine Try.tg hΓ [3] [9, 0] (by kernel_rfl) rfl (by simp [h3, h4]; exact rr) ?_
  refine AWp.ret ?_
  obtain rfl := La hr
  refine Lf ?_
  simp

@[simp] noncomputable def gap.S : Sp
 | [.ptr i0 0], M => match M[i0]? with
  | some (.blk c0) => (fun (r : Ta × Bool × Tp) => some { av := .tup [.agg [.lit (.int .i64 (r.1.fN)), .lit (.int .i64 (r.1.fm)), .lit (.int .i64 (r.1.fy)), .lit (.bool (r.1.fz))], .lit (.bool (r.2.1))], M := some (M.set i0 (.blk [.lit (.int .i64 (r.2.2.fh)), .lit (.int .i64 (r.2.2.fb)), .sl ((r.2.2.fL).map Ta.enc) .no, .lit (.int .i64 (r.2.2.fm)), .lit (.bool (r.2.2.fv))])), obl := c0 = Tp.enc (Tp.dec c0) ∧ (gap (Tp.dec c0)).isSome = true }) ((gap (Tp.dec c0)).getD dflt)
  | _ => none
 | _, _ => none

theorem gap.ok : SpecOk Try.prog 43 gap.S := by
 intro l M out h
 unfold gap.S at h
 split at h
 ·rename_i i0
  split at h
  case h_2 => cases h
  rename_i c0 hM0
  try dsimp only at h
  cases h
  refine callOk_of fun ho => ?_
  obtain ⟨oc0, hs⟩ := ho
  generalize (Tp.dec c0) = y0 at *
  subst oc0
  obtain ⟨r, hr⟩ := Option.isSome_iff_exists.1 hs
  simp only [hr, Option.getD_some]
  have q := Lk (M := M) [i0] (gap.can y0 r hr) (by simp) rfl (by intro k i hk; (cases k with | zero => (simp at hk; subst hk; simp [hM0]) | succ k => (simp at hk)))
  exact callOk_conv q trivial (by simp [into]) (by simp [frameOut, gap.out]) (by simp [frameOut, gap.out])
 ·cases h

@[simp] def gn.out (_x0 : Tp) (r : List Ta × Tp) : Out := { av := .sl (r.1.map Ta.enc) .no, M := some [.blk [.lit (.int .i64 r.2.fh), .lit (.int .i64 r.2.fb), .sl (r.2.fL.map Ta.enc) .no, .lit (.int .i64 r.2.fm), .lit (.bool r.2.fv)]] }
def gn.fin (x0 : Tp) (r : List Ta × Tp) (σ : St) : Prop := finK (gn.out x0 r) [.blk x0.enc] σ.M (resA Try.ty σ.A σ.M Try.f60.results.toList)
theorem gn.can (x0 : Tp) (r : List Ta × Tp) (hr : gn x0 = some r) : CallOk Try.prog 60 [.ptr 0 0] [.blk x0.enc] (gn.out x0 r) := by
 unfold gn at hr
 have hΓ := (gamL_cons gM.ok (gamL_nil) : GamOk Try.prog _)
 refine Lg Try.tyOk Try.func60 rfl (by kernel_rfl) rfl rfl (by simp) ?_
 intro _ _ _
 refine Try.tg hΓ [] [] (by kernel_rfl) rfl (by simp; exact rr) ?_
 obtain ⟨r1, h6, hr⟩ := Lc hr
 refine Try.tg hΓ [3] [] (by kernel_rfl) rfl (by simp [h6]; exact rr) ?_
 refine AWp.equip 3 4 (els := ([r1.1].map Ta.enc)) (by simp) (by simp) ?_
 refine AWp.loopB (fun (s1 : List Ta × Tp) (γ1 : Nat) => ⟨[⟨3, none, .sl (s1.1.map Ta.enc) (.own 1 (γ1) 4)⟩, ⟨0, none, .ptr 0 0⟩], [.blk s1.2.enc, .room (γ1)]⟩) (fun (v1 : List Ta × Tp) (γ1a : Nat) => ⟨[⟨3, none, .sl (v1.1.map Ta.enc) (.own 1 (γ1a) 4)⟩, ⟨0, none, .ptr 0 0⟩], [.blk v1.2.enc, .room (γ1a)]⟩) (gn.fin x0) hr 0 2 (by simp) (fun s1 f γ1 hr => ?_) (fun v1 γ1a hr => ?_) (fun _ h => h)
 ·unfold gn.loop1 at hr
  refine AWp.seq ?_
  obtain ⟨h7, hr⟩ := Lb hr
  refine Try.tg hΓ [22] [] (by kernel_rfl) rfl (by simp [h7]; exact rr) ?_
  refine AWp.cond (b := (pickB (ltI 0 (lenL s1.2.fL)) (notB ((nthI s1.2.fL 0).fz)) false)) (by simp) (fun h8 => ?_) (fun h8 => ?_)
  ·have hr := Li h8 hr
   refine AWp.skip ?_
   refine AWp.block ?_
   obtain ⟨r2, h9, hr⟩ := Lc hr
   obtain ⟨h10, hr⟩ := Lb hr
   refine AWp.lst (AWp.reg Try.tyOk hΓ [3] [22] (by kernel_rfl) rfl (by simp [h8, h9, h10]; exact rr)) ?_
   obtain rfl := La hr
   exact Lm (γ1 + 1) 2 (by first | (simp; done) | simp [h6, h7, h8, h9, h10])
  ·have hr := Lj h8 hr
   refine AWp.exit ?_
   obtain rfl := La hr
   exact Lp (γ1) 2 (by first | (simp; done) | simp [h6, h7, h8])
 ·refine Try.tg hΓ [] [0] (by kernel_rfl) rfl (by simp; exact rr) ?_
  refine Try.tg hΓ [2] [3] (by kernel_rfl) rfl (by simp; exact rr) ?_
  refine AWp.ret ?_
  obtain rfl := La hr
  refine Lf ?_
  simp

@[simp] noncomputable def gn.S : Sp
 | [.ptr i0 0], M => match M[i0]? with
  | some (.blk c0) => (fun (r : List Ta × Tp) => some { av := .sl ((r.1).map Ta.enc) .no, M := some (M.set i0 (.blk [.lit (.int .i64 (r.2.fh)), .lit (.int .i64 (r.2.fb)), .sl ((r.2.fL).map Ta.enc) .no, .lit (.int .i64 (r.2.fm)), .lit (.bool (r.2.fv))])), obl := c0 = Tp.enc (Tp.dec c0) ∧ (gn (Tp.dec c0)).isSome = true }) ((gn (Tp.dec c0)).getD dflt)
  | _ => none
 | _, _ => none

theorem gn.ok : SpecOk Try.prog 60 gn.S := by
 intro l M out h
 unfold gn.S at h
 split at h
 ·rename_i i0
  split at h
  case h_2 => cases h
  rename_i c0 hM0
  try dsimp only at h
  cases h
  refine callOk_of fun ho => ?_
  obtain ⟨oc0, hs⟩ := ho
  generalize (Tp.dec c0) = y0 at *
  subst oc0
  obtain ⟨r, hr⟩ := Option.isSome_iff_exists.1 hs
  simp only [hr, Option.getD_some]
  have q := Lk (M := M) [i0] (gn.can y0 r hr) (by simp) rfl (by intro k i hk; (cases k with | zero => (simp at hk; subst hk; simp [hM0]) | succ k => (simp at hk)))
  exact callOk_conv q trivial (by simp [into]) (by simp [frameOut, gn.out]) (by simp [frameOut, gn.out])
 ·cases h

@[simp] def gv.out (_x0 : Tp) (_x1 : Ta) (r : List Ta × Bool × Tp) : Out := { av := .tup [.sl (r.1.map Ta.enc) .no, .lit (.bool r.2.1)], M := some [.blk [.lit (.int .i64 r.2.2.fh), .lit (.int .i64 r.2.2.fb), .sl (r.2.2.fL.map Ta.enc) .no, .lit (.int .i64 r.2.2.fm), .lit (.bool r.2.2.fv)]] }
def gv.fin (x0 : Tp) (x1 : Ta) (r : List Ta × Bool × Tp) (σ : St) : Prop := finK (gv.out x0 x1 r) [.blk x0.enc] σ.M (resA Try.ty σ.A σ.M Try.f40.results.toList)
theorem gv.can (x0 : Tp) (x1 : Ta) (r : List Ta × Bool × Tp) (hr : gv x0 x1 = some r) : CallOk Try.prog 40 [.ptr 0 0, .agg [.lit (.int .i64 x1.fN), .lit (.int .i64 x1.fm), .lit (.int .i64 x1.fy), .lit (.bool x1.fz)]] [.blk x0.enc] (gv.out x0 x1 r) := by
 unfold gv at hr
 have hΓ := (gamL_cons gn.ok (gamL_nil) : GamOk Try.prog _)
 refine Lg Try.tyOk Try.func40 rfl (by kernel_rfl) rfl rfl (by simp) ?_
 intro _ _ _
 refine Try.tg hΓ [3] [1] (by kernel_rfl) rfl (by simp; exact rr) ?_
 refine AWp.seq ?_
 refine Try.td hΓ [29] [] [] [(false, []), (false, []), (false, []), (false, []), (false, [10]), (false, [10]), (false, [10]), (false, [10]), (false, [10]), (false, [10]), (false, [10]), (false, []), (false, []), (false, [19]), (false, [19]), (false, [19]), (false, [19]), (false, [19]), (false, [24, 19]), (false, [24, 19]), (false, [24, 19]), (false, [19]), (false, [])] (by kernel_rfl) rfl (by simp; exact rr) ?_
 refine AWp.cond (b := (pickB (pickB (ltI x1.fm 0) true (ltI x0.fb x1.fm)) true (pickB x0.fv (notB x1.fz) false))) (by simp) (fun h8 => ?_) (fun h8 => ?_)
 ·have hr := Li h8 hr
  refine Try.tg hΓ [] [29, 3, 0] (by kernel_rfl) rfl (by simp [h8]; exact rr) ?_
  refine Try.tg hΓ [4, 5] [] (by kernel_rfl) rfl (by simp; exact rr) ?_
  refine AWp.ret ?_
  obtain rfl := La hr
  refine Lf ?_
  simp
 ·have hr := Lj h8 hr
  refine AWp.skip ?_
  refine Try.tg hΓ [6] [29] (by kernel_rfl) rfl (by simp [h8]; exact rr) ?_
  refine AWp.equip 6 4 (els := []) (by simp) (by simp) ?_
  refine AWp.loopB (fun (s1 : List Ta × Tp) (γ1 : Nat) => ⟨[⟨6, none, .sl (s1.1.map Ta.enc) (.own 2 (γ1) 4)⟩, ⟨3, none, .ptr 1 0⟩, ⟨0, none, .ptr 0 0⟩], [.blk s1.2.enc, .blk x1.enc, .room (γ1)]⟩) (fun (v1 : List Ta × Tp) (γ1a : Nat) => ⟨[⟨6, none, .sl (v1.1.map Ta.enc) (.own 2 (γ1a) 4)⟩, ⟨3, none, .ptr 1 0⟩, ⟨0, none, .ptr 0 0⟩], [.blk v1.2.enc, .blk x1.enc, .room (γ1a)]⟩) (gv.fin x0 x1) hr 0 3 (by simp) (fun s1 f γ1 hr => ?_) (fun v1 γ1a hr => ?_) (fun _ h => h)
  ·unfold gv.loop1 at hr
   refine AWp.seq ?_
   refine Try.td hΓ [56] [] [] [(false, []), (false, []), (false, []), (false, []), (false, []), (false, []), (false, []), (false, []), (false, []), (false, []), (false, []), (false, [43]), (false, [43]), (false, [43]), (false, [43]), (false, [43]), (false, [43]), (false, [43]), (false, [43]), (false, [43]), (false, [43]), (false, [43]), (false, [43]), (false, [])] (by kernel_rfl) rfl (by simp; exact rr) ?_
   refine AWp.cond (b := (pickB (leqI s1.2.fh (lenL s1.2.fL)) true (ltI s1.2.fb (addI .i64 s1.2.fm x1.fm)))) (by simp) (fun h9 => ?_) (fun h9 => ?_)
   ·have hr := Li h9 hr
    refine AWp.skip ?_
    refine AWp.block ?_
    obtain ⟨r1, h10, hr⟩ := Lc hr
    obtain ⟨h11, hr⟩ := Lb hr
    refine AWp.lst (AWp.reg Try.tyOk hΓ [6] [56] (by kernel_rfl) rfl (by simp [h9, h10, h11]; exact rr)) ?_
    obtain rfl := La hr
    exact Lm (γ1 + 1) 3 (by first | (simp; done) | simp [h8, h9, h10, h11])
   ·have hr := Lj h9 hr
    refine AWp.exit ?_
    obtain rfl := La hr
    exact Lp (γ1) 3 (by first | (simp; done) | simp [h8, h9])
  ·refine AWp.seq ?_
   refine Try.tg hΓ [69] [] (by kernel_rfl) rfl (by simp; exact rr) ?_
   refine AWp.cond (b := (pickB v1.2.fv (notB x1.fz) false)) (by simp) (fun h12 => ?_) (fun h12 => ?_)
   ·have hr := Li h12 hr
    refine Try.tg hΓ [4, 5] [69, 6, 3, 0] (by kernel_rfl) rfl (by simp [h12]; exact rr) ?_
    refine AWp.ret ?_
    obtain rfl := La hr
    refine Lf ?_
    simp
   ·have hr := Lj h12 hr
    refine AWp.skip ?_
    refine Try.tg hΓ [] [69] (by kernel_rfl) rfl (by simp [h12]; exact rr) ?_
    obtain ⟨h13, hr⟩ := Lb hr
    obtain ⟨h14, hr⟩ := Lb hr
    refine Try.td hΓ [] [] [(0, 19)] [(false, []), (false, []), (false, []), (false, []), (false, []), (false, []), (false, []), (false, []), (false, []), (false, []), (false, []), (false, []), (false, []), (false, []), (false, []), (false, []), (false, []), (false, []), (true, []), (false, []), (false, []), (true, [])] (by kernel_rfl) rfl (by simp [h13, h14]; exact rr) ?_
    refine Try.td hΓ [] [3, 0] [] [(false, []), (false, []), (false, []), (false, []), (false, []), (false, []), (false, []), (false, []), (false, []), (true, [])] (by kernel_rfl) rfl (by simp; exact rr) ?_
    refine Try.tg hΓ [4, 5] [6] (by kernel_rfl) rfl (by simp; exact rr) ?_
    refine AWp.ret ?_
    obtain rfl := La hr
    refine Lf ?_
    simp

@[simp] noncomputable def gv.S : Sp
 | [.ptr i0 0, .agg e1], M => match M[i0]? with
  | some (.blk c0) => (fun (y1 : Ta) => (fun (r : List Ta × Bool × Tp) => some { av := .tup [.sl ((r.1).map Ta.enc) .no, .lit (.bool (r.2.1))], M := some (M.set i0 (.blk [.lit (.int .i64 (r.2.2.fh)), .lit (.int .i64 (r.2.2.fb)), .sl ((r.2.2.fL).map Ta.enc) .no, .lit (.int .i64 (r.2.2.fm)), .lit (.bool (r.2.2.fv))])), obl := WeakL e1 (Ta.enc y1) ∧ c0 = Tp.enc (Tp.dec c0) ∧ (gv (Tp.dec c0) y1).isSome = true }) ((gv (Tp.dec c0) y1).getD dflt)) (Ta.dec e1)
  | _ => none
 | _, _ => none

theorem gv.ok : SpecOk Try.prog 40 gv.S := by
 intro l M out h
 unfold gv.S at h
 split at h
 ·rename_i i0 e1
  split at h
  case h_2 => cases h
  rename_i c0 hM0
  try dsimp only at h
  cases h
  refine callOk_of fun ho => ?_
  obtain ⟨ox1, oc0, hs⟩ := ho
  generalize (Tp.dec c0) = y0 at *
  generalize (Ta.dec e1) = x1 at *
  subst oc0
  obtain ⟨r, hr⟩ := Option.isSome_iff_exists.1 hs
  simp only [hr, Option.getD_some]
  have q := Lk (M := M) [i0] (gv.can y0 x1 r hr) (by simp) rfl (by intro k i hk; (cases k with | zero => (simp at hk; subst hk; simp [hM0]) | succ k => (simp at hk)))
  exact callOk_conv q trivial (by simp [into]; exact ox1) (by simp [frameOut, gv.out]) (by simp [frameOut, gv.out])
 ·cases h

@[simp] def gk.out (_x0 : Tp) (_x1 : Int) (_x2 : Int) (r : List Ta × Tp) : Out := { av := .sl (r.1.map Ta.enc) .no, M := some [.blk [.lit (.int .i64 r.2.fh), .lit (.int .i64 r.2.fb), .sl (r.2.fL.map Ta.enc) .no, .lit (.int .i64 r.2.fm), .lit (.bool r.2.fv)]] }
def gk.fin (x0 : Tp) (x1 : Int) (x2 : Int) (r : List Ta × Tp) (σ : St) : Prop := finK (gk.out x0 x1 x2 r) [.blk x0.enc] σ.M (resA Try.ty σ.A σ.M Try.f38.results.toList)
theorem gk.can (x0 : Tp) (x1 : Int) (x2 : Int) (r : List Ta × Tp) (hr : gk x0 x1 x2 = some r) : CallOk Try.prog 38 [.ptr 0 0, .lit (.int .i64 x1), .lit (.int .i64 x2)] [.blk x0.enc] (gk.out x0 x1 x2 r) := by
 unfold gk at hr
 have hΓ := (gamL_cons gn.ok (gamL_nil) : GamOk Try.prog _)
 refine Lg Try.tyOk Try.func38 rfl (by kernel_rfl) rfl rfl (by simp) ?_
 intro _ _ _
 refine Try.tg hΓ [] [] (by kernel_rfl) rfl (by simp; exact rr) ?_
 refine Try.tg hΓ [7] [] (by kernel_rfl) rfl (by simp; exact rr) ?_
 refine AWp.equip 7 4 (els := []) (by simp) (by simp) ?_
 refine AWp.loopB (fun (s1 : List Ta × Tp) (γ1 : Nat) => ⟨[⟨7, none, .sl (s1.1.map Ta.enc) (.own 1 (γ1) 4)⟩, ⟨0, none, .ptr 0 0⟩, ⟨1, none, .n x1⟩, ⟨2, none, .n x2⟩], [.blk s1.2.enc, .room (γ1)]⟩) (fun (v1 : List Ta × Tp) (γ1a : Nat) => ⟨[⟨7, none, .sl (v1.1.map Ta.enc) (.own 1 (γ1a) 4)⟩], [.blk v1.2.enc, .room (γ1a)]⟩) (gk.fin x0 x1 x2) hr 0 2 (by simp) (fun s1 f γ1 hr => ?_) (fun v1 γ1a hr => ?_) (fun _ h => h)
 ·unfold gk.loop1 at hr
  refine AWp.seq ?_
  obtain ⟨h5, hr⟩ := Lb hr
  refine Try.tg hΓ [26] [] (by kernel_rfl) rfl (by simp [h5]; exact rr) ?_
  refine AWp.cond (b := (pickB (ltI 0 (lenL s1.2.fL)) (leqI x2 (subI .i64 x1 ((nthI s1.2.fL 0).fy))) false)) (by simp) (fun h6 => ?_) (fun h6 => ?_)
  ·have hr := Li h6 hr
   refine AWp.skip ?_
   refine AWp.block ?_
   obtain ⟨r1, h7, hr⟩ := Lc hr
   obtain ⟨h8, hr⟩ := Lb hr
   refine AWp.lst (AWp.reg Try.tyOk hΓ [7] [26] (by kernel_rfl) rfl (by simp [h6, h7, h8]; exact rr)) ?_
   obtain rfl := La hr
   exact Lm (γ1 + 1) 2 (by first | (simp; done) | simp [h5, h6, h7, h8])
  ·have hr := Lj h6 hr
   refine AWp.exit ?_
   obtain rfl := La hr
   exact Lp (γ1) 2 (by first | (simp; done) | simp [h5, h6])
 ·refine Try.tg hΓ [6] [7] (by kernel_rfl) rfl (by simp; exact rr) ?_
  refine AWp.ret ?_
  obtain rfl := La hr
  refine Lf ?_
  simp

@[simp] noncomputable def gk.S : Sp
 | [.ptr i0 0, .lit (.int .i64 x1), .lit (.int .i64 x2)], M => match M[i0]? with
  | some (.blk c0) => (fun (r : List Ta × Tp) => some { av := .sl ((r.1).map Ta.enc) .no, M := some (M.set i0 (.blk [.lit (.int .i64 (r.2.fh)), .lit (.int .i64 (r.2.fb)), .sl ((r.2.fL).map Ta.enc) .no, .lit (.int .i64 (r.2.fm)), .lit (.bool (r.2.fv))])), obl := c0 = Tp.enc (Tp.dec c0) ∧ (gk (Tp.dec c0) x1 x2).isSome = true }) ((gk (Tp.dec c0) x1 x2).getD dflt)
  | _ => none
 | _, _ => none

theorem gk.ok : SpecOk Try.prog 38 gk.S := by
 intro l M out h
 unfold gk.S at h
 split at h
 ·rename_i i0 x1 x2
  split at h
  case h_2 => cases h
  rename_i c0 hM0
  try dsimp only at h
  cases h
  refine callOk_of fun ho => ?_
  obtain ⟨oc0, hs⟩ := ho
  generalize (Tp.dec c0) = y0 at *
  subst oc0
  obtain ⟨r, hr⟩ := Option.isSome_iff_exists.1 hs
  simp only [hr, Option.getD_some]
  have q := Lk (M := M) [i0] (gk.can y0 x1 x2 r hr) (by simp) rfl (by intro k i hk; (cases k with | zero => (simp at hk; subst hk; simp [hM0]) | succ k => (simp at hk)))
  exact callOk_conv q trivial (by simp [into]) (by simp [frameOut, gk.out]) (by simp [frameOut, gk.out])
 ·cases h

@[simp] def gZ.out (_x0 : Tp) (r : List Ta × Tp) : Out := { av := .sl (r.1.map Ta.enc) .no, M := some [.blk [.lit (.int .i64 r.2.fh), .lit (.int .i64 r.2.fb), .sl (r.2.fL.map Ta.enc) .no, .lit (.int .i64 r.2.fm), .lit (.bool r.2.fv)]] }
theorem gZ.can (x0 : Tp) (r : List Ta × Tp) (hr : gZ x0 = some r) : CallOk Try.prog 70 [.ptr 0 0] [.blk x0.enc] (gZ.out x0 r) := by
 unfold gZ at hr
 have hΓ := gamL_nil (P := Try.prog)
 refine Lg Try.tyOk Try.func70 rfl (by kernel_rfl) rfl rfl (by simp) ?_
 intro _ _ _
 refine Try.tg hΓ [] [] (by kernel_rfl) rfl (by simp; exact rr) ?_
 refine Try.tg hΓ [3] [] (by kernel_rfl) rfl (by simp; exact rr) ?_
 refine Try.tg hΓ [] [0] (by kernel_rfl) rfl (by simp; exact rr) ?_
 refine Try.tg hΓ [2] [3] (by kernel_rfl) rfl (by simp; exact rr) ?_
 refine AWp.ret ?_
 obtain rfl := La hr
 refine Lf ?_
 simp

@[simp] noncomputable def gZ.S : Sp
 | [.ptr i0 0], M => match M[i0]? with
  | some (.blk c0) => (fun (r : List Ta × Tp) => some { av := .sl ((r.1).map Ta.enc) .no, M := some (M.set i0 (.blk [.lit (.int .i64 (r.2.fh)), .lit (.int .i64 (r.2.fb)), .sl ((r.2.fL).map Ta.enc) .no, .lit (.int .i64 (r.2.fm)), .lit (.bool (r.2.fv))])), obl := c0 = Tp.enc (Tp.dec c0) ∧ (gZ (Tp.dec c0)).isSome = true }) ((gZ (Tp.dec c0)).getD dflt)
  | _ => none
 | _, _ => none

theorem gZ.ok : SpecOk Try.prog 70 gZ.S := by
 intro l M out h
 unfold gZ.S at h
 split at h
 ·rename_i i0
  split at h
  case h_2 => cases h
  rename_i c0 hM0
  try dsimp only at h
  cases h
  refine callOk_of fun ho => ?_
  obtain ⟨oc0, hs⟩ := ho
  generalize (Tp.dec c0) = y0 at *
  subst oc0
  obtain ⟨r, hr⟩ := Option.isSome_iff_exists.1 hs
  simp only [hr, Option.getD_some]
  have q := Lk (M := M) [i0] (gZ.can y0 r hr) (by simp) rfl (by intro k i hk; (cases k with | zero => (simp at hk; subst hk; simp [hM0]) | succ k => (simp at hk)))
  exact callOk_conv q trivial (by simp [into]) (by simp [frameOut, gZ.out]) (by simp [frameOut, gZ.out])
 ·cases h
end Go.Proofs

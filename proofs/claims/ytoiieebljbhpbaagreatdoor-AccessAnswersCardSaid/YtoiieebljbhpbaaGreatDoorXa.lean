/- That these functions compute what their plain functions do. No condition. -/
import Derived.Test.YtoiieebljbhpbaaGreatDoorM06
import Derived.Test.YtoiieebljbhpbaaGreatDoorTy
import Derived.Test.YtoiieebljbhpbaaGreatDoorM02
import Derived.Test.YtoiieebljbhpbaaGreatDoorHa
import Derived.Test.YtoiieebljbhpbaaGreatDoorM16
set_option maxRecDepth 100000
set_option maxHeartbeats 4000000
namespace Go.Proofs
open Go.Ab
theorem libClone1.ok : SpecOk Tryz.prog 47 (cloneS 1 4) := by
 intro l M out h
 unfold cloneS at h
 split at h
 ·rename_i els tok
  cases h
  refine callOk_nil ?_ ?_
  ·refine call_of_vc Tryz.mixed Tryz.tyOk gamL_nil (fun | 0 => [2] | 1 => [4] | 2 => [2] | 3 => [2] | _ => []) (fun _ => []) Tryz.func47 rfl (by kernel_rfl) rfl rfl (by simp) ?_
   intro _ hbM hbA
   simp [hbM]
  ·refine call_of_vc Tryz.mixed Tryz.tyOk gamL_nil (fun | 0 => [2] | 1 => [4] | 2 => [2] | 3 => [2] | _ => []) (fun _ => []) Tryz.func47 rfl (by kernel_rfl) rfl rfl (by simp) ?_
   intro ho hbM hbA
   simp at hbA ho
   simp [hbA, hbM, ho, appL]
   try exact ho.1
 ·cases h

@[simp] def gV.out  (r : Th) : Out := { av := .ptr 5 0, M := some [.mapo (encM (kI .i64) (vA Ta.enc) r.fb.fe), .blk [.mp 0, .lit (.int .i64 r.fb.fj)], .mapo (encM (vA Tc.enc) (vA Te.enc) r.fc), .mapo (encM (vA Tb.enc) (vA Tg.enc) r.ff), .mapo (encM (kI .u32) (vA Tf.enc) r.fg), .blk [.ptr 1 0, .mp 2, .mp 3, .mp 4]] }
theorem gV.can  (r : Th) (hr : gV = some r) : CallOk Tryz.prog 10 [] [] (gV.out  r) := by
 unfold gV at hr
 have hΓ := (gamL_cons gao.ok (gamL_nil) : GamOk Tryz.prog _)
 refine cw Tryz.func10 rfl (by kernel_rfl) rfl rfl (by simp) fun _ _ _ => ?_
 refine tq hΓ [] [] ?_
 obtain ⟨r1, h2, hr⟩ := Ld hr
 refine tq hΓ [0] [] ?_ (by simp [h2]; exact rr)
 obtain rfl := La hr
 exact AWp.ret (Le (by simp))

@[simp] noncomputable def gV.S : Sp
  | [], M => some { av := .ptr (M.length + 5) 0, M := some (M ++ [.mapo (encM (kI .i64) (vA Ta.enc) ((gV.getD dflt).fb.fe)), .blk [.mp M.length, .lit (.int .i64 ((gV.getD dflt).fb.fj))], .mapo (encM (vA Tc.enc) (vA Te.enc) ((gV.getD dflt).fc)), .mapo (encM (vA Tb.enc) (vA Tg.enc) ((gV.getD dflt).ff)), .mapo (encM (kI .u32) (vA Tf.enc) ((gV.getD dflt).fg)), .blk [.ptr (M.length + 1) 0, .mp (M.length + 2), .mp (M.length + 3), .mp (M.length + 4)]]), obl := gV.isSome = true }
  | _, _ => none

theorem gV.ok : SpecOk Tryz.prog 10 gV.S := by
 intro l M out h
 unfold gV.S at h
 split at h
 ·cases h
  refine callOk_of fun ho => ?_
  have hs := ho
  obtain ⟨r, hr⟩ := so1 hs
  simp only [hr, gd1]
  have q := Lh (M := M) [] (gV.can r hr) (by simp) rfl ixn
  exact callOk_conv q trivial (by simp) (by simp [frameOut, into]) (by simp [frameOut, into])
 ·cases h

@[simp] def gu.m (x0 : Th) (_x1 : Tc) : List AObj := [.blk [.ptr 1 0, .mp 3, .mp 4, .mp 5], .blk [.mp 2, .lit (.int .i64 x0.fb.fj)], .mapo (encM (kI .i64) (vA Ta.enc) x0.fb.fe), .mapo (encM (vA Tc.enc) (vA Te.enc) x0.fc), .mapo (encM (vA Tb.enc) (vA Tg.enc) x0.ff), .mapo (encM (kI .u32) (vA Tf.enc) x0.fg)]
@[simp] def gu.out (_x0 : Th) (_x1 : Tc) (r : Te × Bool) : Out := { av := .tup [.agg [.lit (.bool r.1.fq), .lit (.bool r.1.fy), .sl (r.1.fa.map (eNum .u32)) .no], .lit (.bool r.2)], M := none }
theorem gu.can (x0 : Th) (x1 : Tc) (r : Te × Bool) (hr : gu x0 x1 = some r) : CallOk Tryz.prog 20 [.ptr 0 0, .agg [.lit (.int .i64 x1.fd), .lit (.int .i64 x1.fh)]] (gu.m x0 x1) (gu.out x0 x1 r) := by
 unfold gu at hr
 have hΓ := (gamL_cons libClone1.ok (gamL_nil) : GamOk Tryz.prog _)
 refine cw Tryz.func20 rfl (by kernel_rfl) rfl rfl (by simp) fun _ _ _ => ?_
 refine tq hΓ [3, 4] [1] ?_
 refine td hΓ [6, 7] [3, 0] [(0, 10), (1, 10), (2, 10), (3, 10), (4, 10), (5, 10), (6, 10), (7, 10), (8, 10), (8, 11)] [(false, []), (false, []), (false, []), (false, []), (false, []), (false, []), (false, []), (false, []), (false, []), (true, []), (true, []), (false, [])] (by simp; exact rr) ?_
 obtain ⟨h2, hr⟩ := Lg hr
 refine tq hΓ [] [] ?_ (by simp [h2]; exact rr)
 refine tq hΓ [5] [6, 7] ?_ (by simp; exact rr)
 obtain rfl := La hr
 exact AWp.ret (Le (by simp))

@[simp] noncomputable def gu.S : Sp
  | [.ptr i0 0, .agg e1], M => (rdB M i0).bind fun c0 => (rdP c0 0).bind fun i1 => (rdB M i1).bind fun c1 => (rdM c1 0).bind fun i2 => (rdE M i2).bind fun c2 => (rdM c0 1).bind fun i3 => (rdE M i3).bind fun c3 => (rdM c0 2).bind fun i4 => (rdE M i4).bind fun c4 => (rdM c0 3).bind fun i5 => (rdE M i5).bind fun c5 => (fun (y0 : Th) => (fun (r : Te × Bool) => some { av := .tup [.agg [.lit (.bool (r.1.fq)), .lit (.bool (r.1.fy)), .sl ((r.1.fa).map (eNum .u32)) .no], .lit (.bool (r.2))], M := none, obl := WeakL e1 (Tc.enc (Tc.dec e1)) ∧ c0 = Th.enc y0 i1 i3 i4 i5 ∧ c1 = Tj.enc (y0.fb) i2 ∧ c2 = encM (kI .i64) (vA Ta.enc) (y0.fb.fe) ∧ c3 = encM (vA Tc.enc) (vA Te.enc) (y0.fc) ∧ c4 = encM (vA Tb.enc) (vA Tg.enc) (y0.ff) ∧ c5 = encM (kI .u32) (vA Tf.enc) (y0.fg) ∧ (gu y0 (Tc.dec e1)).isSome = true ∧ i0 ≠ i1 ∧ i0 ≠ i2 ∧ i0 ≠ i3 ∧ i0 ≠ i4 ∧ i0 ≠ i5 ∧ i1 ≠ i2 ∧ i1 ≠ i3 ∧ i1 ≠ i4 ∧ i1 ≠ i5 ∧ i2 ≠ i3 ∧ i2 ≠ i4 ∧ i2 ≠ i5 ∧ i3 ≠ i4 ∧ i3 ≠ i5 ∧ i4 ≠ i5 }) ((gu y0 (Tc.dec e1)).getD dflt)) (Th.dec c0 (Tj.dec c1 (decM dkI (dvA Ta.dec) c2)) (decM (dvA Tc.dec) (dvA Te.dec) c3) (decM (dvA Tb.dec) (dvA Tg.dec) c4) (decM dkI (dvA Tf.dec) c5))
  | _, _ => none

theorem gu.ok : SpecOk Tryz.prog 20 gu.S := by
 intro l M out h
 unfold gu.S at h
 split at h
 ·rename_i i0 e1
  obtain ⟨c0, hM0, h⟩ := bB h
  obtain ⟨i1, he1, h⟩ := bP h
  obtain ⟨c1, hM1, h⟩ := bB h
  obtain ⟨i2, he2, h⟩ := bM h
  obtain ⟨c2, hM2, h⟩ := bE h
  obtain ⟨i3, he3, h⟩ := bM h
  obtain ⟨c3, hM3, h⟩ := bE h
  obtain ⟨i4, he4, h⟩ := bM h
  obtain ⟨c4, hM4, h⟩ := bE h
  obtain ⟨i5, he5, h⟩ := bM h
  obtain ⟨c5, hM5, h⟩ := bE h
  try dsimp only at h
  cases h
  refine callOk_of fun ho => ?_
  obtain ⟨ox1, oc0, oc1, oc2, oc3, oc4, oc5, hs, hne0, hne1, hne2, hne3, hne4, hne5, hne6, hne7, hne8, hne9, hne10, hne11, hne12, hne13, hne14⟩ := ho
  generalize (Th.dec c0 (Tj.dec c1 (decM dkI (dvA Ta.dec) c2)) (decM (dvA Tc.dec) (dvA Te.dec) c3) (decM (dvA Tb.dec) (dvA Tg.dec) c4) (decM dkI (dvA Tf.dec) c5)) = y0 at *
  generalize (Tc.dec e1) = x1 at *
  subst oc0
  subst oc1
  subst oc2
  subst oc3
  subst oc4
  subst oc5
  obtain ⟨r, hr⟩ := so1 hs
  simp only [hr, gd1]
  have q := Lh (M := M) [i0, i1, i2, i3, i4, i5] (gu.can y0 x1 r hr) (by simp [hne0, hne1, hne2, hne3, hne4, hne5, hne6, hne7, hne8, hne9, hne10, hne11, hne12, hne13, hne14]) rfl (ix (by simp [hM0, into]) (ix (by simp [hM1, into]) (ix (by simp [hM2]) (ix (by simp [hM3]) (ix (by simp [hM4]) (ix (by simp [hM5]) ixn))))))
  exact callOk_conv q trivial (by simp [into]; exact ox1) (by simp [frameOut, into]) (by simp only [frameOut, gu.out, Option.getD_some, Option.getD_none]; simp [into, hM0, hM1, hM2, hM3, hM4, hM5, set_same])
 ·cases h

@[simp] def gM.m (x0 : Th) (_x1 : Tb) : List AObj := [.blk [.ptr 1 0, .mp 3, .mp 4, .mp 5], .blk [.mp 2, .lit (.int .i64 x0.fb.fj)], .mapo (encM (kI .i64) (vA Ta.enc) x0.fb.fe), .mapo (encM (vA Tc.enc) (vA Te.enc) x0.fc), .mapo (encM (vA Tb.enc) (vA Tg.enc) x0.ff), .mapo (encM (kI .u32) (vA Tf.enc) x0.fg)]
@[simp] def gM.out (_x0 : Th) (_x1 : Tb) (r : Tg × Bool) : Out := { av := .tup [.agg [.lit (.int .i64 r.1.fo), .lit (.bool r.1.fw)], .lit (.bool r.2)], M := none }
theorem gM.can (x0 : Th) (x1 : Tb) (r : Tg × Bool) (hr : gM x0 x1 = some r) : CallOk Tryz.prog 19 [.ptr 0 0, .agg [.lit (.int .i64 x1.fu), .lit (.int .i64 x1.fOf.fd), .lit (.int .i64 x1.fOf.fh)]] (gM.m x0 x1) (gM.out x0 x1 r) := by
 unfold gM at hr
 have hΓ := gamL_nil (P := Tryz.prog)
 refine cw Tryz.func19 rfl (by kernel_rfl) rfl rfl (by simp) fun _ _ _ => ?_
 refine tq hΓ [3, 4] [1] ?_
 refine td hΓ [6, 7] [3, 0] [(0, 10), (1, 10), (2, 10), (3, 10), (4, 10), (5, 10), (6, 10), (7, 10), (8, 10), (8, 11)] [(false, []), (false, []), (false, []), (false, []), (false, []), (false, []), (false, []), (false, []), (false, []), (true, []), (true, []), (false, [])] (by simp; exact rr) ?_
 refine tq hΓ [5] [6, 7] ?_
 obtain rfl := La hr
 exact AWp.ret (Le (by simp))

@[simp] noncomputable def gM.S : Sp
  | [.ptr i0 0, .agg e1], M => (rdB M i0).bind fun c0 => (rdP c0 0).bind fun i1 => (rdB M i1).bind fun c1 => (rdM c1 0).bind fun i2 => (rdE M i2).bind fun c2 => (rdM c0 1).bind fun i3 => (rdE M i3).bind fun c3 => (rdM c0 2).bind fun i4 => (rdE M i4).bind fun c4 => (rdM c0 3).bind fun i5 => (rdE M i5).bind fun c5 => (fun (y0 : Th) => (fun (r : Tg × Bool) => some { av := .tup [.agg [.lit (.int .i64 (r.1.fo)), .lit (.bool (r.1.fw))], .lit (.bool (r.2))], M := none, obl := WeakL e1 (Tb.enc (Tb.dec e1)) ∧ c0 = Th.enc y0 i1 i3 i4 i5 ∧ c1 = Tj.enc (y0.fb) i2 ∧ c2 = encM (kI .i64) (vA Ta.enc) (y0.fb.fe) ∧ c3 = encM (vA Tc.enc) (vA Te.enc) (y0.fc) ∧ c4 = encM (vA Tb.enc) (vA Tg.enc) (y0.ff) ∧ c5 = encM (kI .u32) (vA Tf.enc) (y0.fg) ∧ (gM y0 (Tb.dec e1)).isSome = true ∧ i0 ≠ i1 ∧ i0 ≠ i2 ∧ i0 ≠ i3 ∧ i0 ≠ i4 ∧ i0 ≠ i5 ∧ i1 ≠ i2 ∧ i1 ≠ i3 ∧ i1 ≠ i4 ∧ i1 ≠ i5 ∧ i2 ≠ i3 ∧ i2 ≠ i4 ∧ i2 ≠ i5 ∧ i3 ≠ i4 ∧ i3 ≠ i5 ∧ i4 ≠ i5 }) ((gM y0 (Tb.dec e1)).getD dflt)) (Th.dec c0 (Tj.dec c1 (decM dkI (dvA Ta.dec) c2)) (decM (dvA Tc.dec) (dvA Te.dec) c3) (decM (dvA Tb.dec) (dvA Tg.dec) c4) (decM dkI (dvA Tf.dec) c5))
  | _, _ => none

theorem gM.ok : SpecOk Tryz.prog 19 gM.S := by
 intro l M out h
 unfold gM.S at h
 split at h
 ·rename_i i0 e1
  obtain ⟨c0, hM0, h⟩ := bB h
  obtain ⟨i1, he1, h⟩ := bP h
  obtain ⟨c1, hM1, h⟩ := bB h
  obtain ⟨i2, he2, h⟩ := bM h
  obtain ⟨c2, hM2, h⟩ := bE h
  obtain ⟨i3, he3, h⟩ := bM h
  obtain ⟨c3, hM3, h⟩ := bE h
  obtain ⟨i4, he4, h⟩ := bM h
  obtain ⟨c4, hM4, h⟩ := bE h
  obtain ⟨i5, he5, h⟩ := bM h
  obtain ⟨c5, hM5, h⟩ := bE h
  try dsimp only at h
  cases h
  refine callOk_of fun ho => ?_
  obtain ⟨ox1, oc0, oc1, oc2, oc3, oc4, oc5, hs, hne0, hne1, hne2, hne3, hne4, hne5, hne6, hne7, hne8, hne9, hne10, hne11, hne12, hne13, hne14⟩ := ho
  generalize (Th.dec c0 (Tj.dec c1 (decM dkI (dvA Ta.dec) c2)) (decM (dvA Tc.dec) (dvA Te.dec) c3) (decM (dvA Tb.dec) (dvA Tg.dec) c4) (decM dkI (dvA Tf.dec) c5)) = y0 at *
  generalize (Tb.dec e1) = x1 at *
  subst oc0
  subst oc1
  subst oc2
  subst oc3
  subst oc4
  subst oc5
  obtain ⟨r, hr⟩ := so1 hs
  simp only [hr, gd1]
  have q := Lh (M := M) [i0, i1, i2, i3, i4, i5] (gM.can y0 x1 r hr) (by simp [hne0, hne1, hne2, hne3, hne4, hne5, hne6, hne7, hne8, hne9, hne10, hne11, hne12, hne13, hne14]) rfl (ix (by simp [hM0, into]) (ix (by simp [hM1, into]) (ix (by simp [hM2]) (ix (by simp [hM3]) (ix (by simp [hM4]) (ix (by simp [hM5]) ixn))))))
  exact callOk_conv q trivial (by simp [into]; exact ox1) (by simp [frameOut, into]) (by simp only [frameOut, gM.out, Option.getD_some, Option.getD_none]; simp [into, hM0, hM1, hM2, hM3, hM4, hM5, set_same])
 ·cases h

@[simp] def gq.m (x0 : Th) (_x1 : Int) : List AObj := [.blk [.ptr 1 0, .mp 3, .mp 4, .mp 5], .blk [.mp 2, .lit (.int .i64 x0.fb.fj)], .mapo (encM (kI .i64) (vA Ta.enc) x0.fb.fe), .mapo (encM (vA Tc.enc) (vA Te.enc) x0.fc), .mapo (encM (vA Tb.enc) (vA Tg.enc) x0.ff), .mapo (encM (kI .u32) (vA Tf.enc) x0.fg)]
@[simp] def gq.out (_x0 : Th) (_x1 : Int) (r : Tf × Bool) : Out := { av := .tup [.agg [.lit (.int .i64 r.1.fOf.fd), .lit (.int .i64 r.1.fOf.fh), .lit (.int .i64 r.1.fo)], .lit (.bool r.2)], M := none }
theorem gq.can (x0 : Th) (x1 : Int) (r : Tf × Bool) (hr : gq x0 x1 = some r) : CallOk Tryz.prog 21 [.ptr 0 0, .lit (.int .u32 x1)] (gq.m x0 x1) (gq.out x0 x1 r) := by
 unfold gq at hr
 have hΓ := gamL_nil (P := Tryz.prog)
 refine cw Tryz.func21 rfl (by kernel_rfl) rfl rfl (by simp) fun _ _ _ => ?_
 refine tq hΓ [4] [] ?_
 refine tq hΓ [6, 7] [0, 1] ?_
 refine tq hΓ [5] [6, 7] ?_
 obtain rfl := La hr
 exact AWp.ret (Le (by simp))

@[simp] noncomputable def gq.S : Sp
  | [.ptr i0 0, .lit (.int .u32 x1)], M => (rdB M i0).bind fun c0 => (rdP c0 0).bind fun i1 => (rdB M i1).bind fun c1 => (rdM c1 0).bind fun i2 => (rdE M i2).bind fun c2 => (rdM c0 1).bind fun i3 => (rdE M i3).bind fun c3 => (rdM c0 2).bind fun i4 => (rdE M i4).bind fun c4 => (rdM c0 3).bind fun i5 => (rdE M i5).bind fun c5 => (fun (y0 : Th) => (fun (r : Tf × Bool) => some { av := .tup [.agg [.lit (.int .i64 (r.1.fOf.fd)), .lit (.int .i64 (r.1.fOf.fh)), .lit (.int .i64 (r.1.fo))], .lit (.bool (r.2))], M := none, obl := c0 = Th.enc y0 i1 i3 i4 i5 ∧ c1 = Tj.enc (y0.fb) i2 ∧ c2 = encM (kI .i64) (vA Ta.enc) (y0.fb.fe) ∧ c3 = encM (vA Tc.enc) (vA Te.enc) (y0.fc) ∧ c4 = encM (vA Tb.enc) (vA Tg.enc) (y0.ff) ∧ c5 = encM (kI .u32) (vA Tf.enc) (y0.fg) ∧ (gq y0 x1).isSome = true ∧ i0 ≠ i1 ∧ i0 ≠ i2 ∧ i0 ≠ i3 ∧ i0 ≠ i4 ∧ i0 ≠ i5 ∧ i1 ≠ i2 ∧ i1 ≠ i3 ∧ i1 ≠ i4 ∧ i1 ≠ i5 ∧ i2 ≠ i3 ∧ i2 ≠ i4 ∧ i2 ≠ i5 ∧ i3 ≠ i4 ∧ i3 ≠ i5 ∧ i4 ≠ i5 }) ((gq y0 x1).getD dflt)) (Th.dec c0 (Tj.dec c1 (decM dkI (dvA Ta.dec) c2)) (decM (dvA Tc.dec) (dvA Te.dec) c3) (decM (dvA Tb.dec) (dvA Tg.dec) c4) (decM dkI (dvA Tf.dec) c5))
  | _, _ => none

theorem gq.ok : SpecOk Tryz.prog 21 gq.S := by
 intro l M out h
 unfold gq.S at h
 split at h
 ·rename_i i0 x1
  obtain ⟨c0, hM0, h⟩ := bB h
  obtain ⟨i1, he1, h⟩ := bP h
  obtain ⟨c1, hM1, h⟩ := bB h
  obtain ⟨i2, he2, h⟩ := bM h
  obtain ⟨c2, hM2, h⟩ := bE h
  obtain ⟨i3, he3, h⟩ := bM h
  obtain ⟨c3, hM3, h⟩ := bE h
  obtain ⟨i4, he4, h⟩ := bM h
  obtain ⟨c4, hM4, h⟩ := bE h
  obtain ⟨i5, he5, h⟩ := bM h
  obtain ⟨c5, hM5, h⟩ := bE h
  try dsimp only at h
  cases h
  refine callOk_of fun ho => ?_
  obtain ⟨oc0, oc1, oc2, oc3, oc4, oc5, hs, hne0, hne1, hne2, hne3, hne4, hne5, hne6, hne7, hne8, hne9, hne10, hne11, hne12, hne13, hne14⟩ := ho
  generalize (Th.dec c0 (Tj.dec c1 (decM dkI (dvA Ta.dec) c2)) (decM (dvA Tc.dec) (dvA Te.dec) c3) (decM (dvA Tb.dec) (dvA Tg.dec) c4) (decM dkI (dvA Tf.dec) c5)) = y0 at *
  subst oc0
  subst oc1
  subst oc2
  subst oc3
  subst oc4
  subst oc5
  obtain ⟨r, hr⟩ := so1 hs
  simp only [hr, gd1]
  have q := Lh (M := M) [i0, i1, i2, i3, i4, i5] (gq.can y0 x1 r hr) (by simp [hne0, hne1, hne2, hne3, hne4, hne5, hne6, hne7, hne8, hne9, hne10, hne11, hne12, hne13, hne14]) rfl (ix (by simp [hM0, into]) (ix (by simp [hM1, into]) (ix (by simp [hM2]) (ix (by simp [hM3]) (ix (by simp [hM4]) (ix (by simp [hM5]) ixn))))))
  exact callOk_conv q trivial (by simp [into]) (by simp [frameOut, into]) (by simp only [frameOut, gq.out, Option.getD_some, Option.getD_none]; simp [into, hM0, hM1, hM2, hM3, hM4, hM5, set_same])
 ·cases h

@[simp] def gg.m (x0 : Th) : List AObj := [.blk [.ptr 1 0, .mp 3, .mp 4, .mp 5], .blk [.mp 2, .lit (.int .i64 x0.fb.fj)], .mapo (encM (kI .i64) (vA Ta.enc) x0.fb.fe), .mapo (encM (vA Tc.enc) (vA Te.enc) x0.fc), .mapo (encM (vA Tb.enc) (vA Tg.enc) x0.ff), .mapo (encM (kI .u32) (vA Tf.enc) x0.fg)]
@[simp] def gg.out (_x0 : Th) (r : List Tb) : Out := { av := .sl (r.map Tb.enc) .no, M := none }
theorem gg.can (x0 : Th) (r : List Tb) (hr : gg x0 = some r) : CallOk Tryz.prog 16 [.ptr 0 0] (gg.m x0) (gg.out x0 r) := by
 unfold gg at hr
 have hΓ := (gamL_cons libKeys.gMapsKeysMapAccessLinkAccessSubAccessLinkAccessSub.ok (gamL_cons libSorted.gSlicesSortedFuncAccessLink.ok (gamL_nil)) : GamOk Tryz.prog _)
 refine cw Tryz.func16 rfl (by kernel_rfl) rfl rfl (by simp) fun _ _ _ => ?_
 refine tq hΓ [] [] ?_
 obtain ⟨h2, hr⟩ := Lg hr
 refine tq hΓ [2] [0] ?_ (by simp [h2]; exact rr)
 obtain rfl := La hr
 exact AWp.ret (Le (by simp))

@[simp] noncomputable def gg.S : Sp
  | [.ptr i0 0], M => (rdB M i0).bind fun c0 => (rdP c0 0).bind fun i1 => (rdB M i1).bind fun c1 => (rdM c1 0).bind fun i2 => (rdE M i2).bind fun c2 => (rdM c0 1).bind fun i3 => (rdE M i3).bind fun c3 => (rdM c0 2).bind fun i4 => (rdE M i4).bind fun c4 => (rdM c0 3).bind fun i5 => (rdE M i5).bind fun c5 => (fun (y0 : Th) => some { av := .sl (((gg y0).getD dflt).map Tb.enc) .no, M := none, obl := c0 = Th.enc y0 i1 i3 i4 i5 ∧ c1 = Tj.enc (y0.fb) i2 ∧ c2 = encM (kI .i64) (vA Ta.enc) (y0.fb.fe) ∧ c3 = encM (vA Tc.enc) (vA Te.enc) (y0.fc) ∧ c4 = encM (vA Tb.enc) (vA Tg.enc) (y0.ff) ∧ c5 = encM (kI .u32) (vA Tf.enc) (y0.fg) ∧ (gg y0).isSome = true ∧ i0 ≠ i1 ∧ i0 ≠ i2 ∧ i0 ≠ i3 ∧ i0 ≠ i4 ∧ i0 ≠ i5 ∧ i1 ≠ i2 ∧ i1 ≠ i3 ∧ i1 ≠ i4 ∧ i1 ≠ i5 ∧ i2 ≠ i3 ∧ i2 ≠ i4 ∧ i2 ≠ i5 ∧ i3 ≠ i4 ∧ i3 ≠ i5 ∧ i4 ≠ i5 }) (Th.dec c0 (Tj.dec c1 (decM dkI (dvA Ta.dec) c2)) (decM (dvA Tc.dec) (dvA Te.dec) c3) (decM (dvA Tb.dec) (dvA Tg.dec) c4) (decM dkI (dvA Tf.dec) c5))
  | _, _ => none

theorem gg.ok : SpecOk Tryz.prog 16 gg.S := by
 intro l M out h
 unfold gg.S at h
 split at h
 ·rename_i i0
  obtain ⟨c0, hM0, h⟩ := bB h
  obtain ⟨i1, he1, h⟩ := bP h
  obtain ⟨c1, hM1, h⟩ := bB h
  obtain ⟨i2, he2, h⟩ := bM h
  obtain ⟨c2, hM2, h⟩ := bE h
  obtain ⟨i3, he3, h⟩ := bM h
  obtain ⟨c3, hM3, h⟩ := bE h
  obtain ⟨i4, he4, h⟩ := bM h
  obtain ⟨c4, hM4, h⟩ := bE h
  obtain ⟨i5, he5, h⟩ := bM h
  obtain ⟨c5, hM5, h⟩ := bE h
  try dsimp only at h
  cases h
  refine callOk_of fun ho => ?_
  obtain ⟨oc0, oc1, oc2, oc3, oc4, oc5, hs, hne0, hne1, hne2, hne3, hne4, hne5, hne6, hne7, hne8, hne9, hne10, hne11, hne12, hne13, hne14⟩ := ho
  generalize (Th.dec c0 (Tj.dec c1 (decM dkI (dvA Ta.dec) c2)) (decM (dvA Tc.dec) (dvA Te.dec) c3) (decM (dvA Tb.dec) (dvA Tg.dec) c4) (decM dkI (dvA Tf.dec) c5)) = y0 at *
  subst oc0
  subst oc1
  subst oc2
  subst oc3
  subst oc4
  subst oc5
  obtain ⟨r, hr⟩ := so1 hs
  simp only [hr, gd1]
  have q := Lh (M := M) [i0, i1, i2, i3, i4, i5] (gg.can y0 r hr) (by simp [hne0, hne1, hne2, hne3, hne4, hne5, hne6, hne7, hne8, hne9, hne10, hne11, hne12, hne13, hne14]) rfl (ix (by simp [hM0, into]) (ix (by simp [hM1, into]) (ix (by simp [hM2]) (ix (by simp [hM3]) (ix (by simp [hM4]) (ix (by simp [hM5]) ixn))))))
  exact callOk_conv q trivial (by simp [into]) (by simp [frameOut, into]) (by simp only [frameOut, gg.out, Option.getD_some, Option.getD_none]; simp [into, hM0, hM1, hM2, hM3, hM4, hM5, set_same])
 ·cases h

@[simp] def gk.m (x0 : Th) (_x1 : Tc) : List AObj := [.blk [.ptr 1 0, .mp 3, .mp 4, .mp 5], .blk [.mp 2, .lit (.int .i64 x0.fb.fj)], .mapo (encM (kI .i64) (vA Ta.enc) x0.fb.fe), .mapo (encM (vA Tc.enc) (vA Te.enc) x0.fc), .mapo (encM (vA Tb.enc) (vA Tg.enc) x0.ff), .mapo (encM (kI .u32) (vA Tf.enc) x0.fg)]
@[simp] def gk.out (_x0 : Th) (_x1 : Tc) (r : List Int) : Out := { av := .sl (r.map (eNum .i64)) .no, M := none }
def gk.fin (x0 : Th) (x1 : Tc) (r : List Int) (σ : St) : Prop := finK (gk.out x0 x1 r) (gk.m x0 x1) σ.M (resA Tryz.ty σ.A σ.M Tryz.f13.results.toList)
theorem gk.can (x0 : Th) (x1 : Tc) (r : List Int) (hr : gk x0 x1 = some r) : CallOk Tryz.prog 13 [.ptr 0 0, .agg [.lit (.int .i64 x1.fd), .lit (.int .i64 x1.fh)]] (gk.m x0 x1) (gk.out x0 x1 r) := by
 unfold gk at hr
 have hΓ := (gamL_cons gg.ok (gamL_nil) : GamOk Tryz.prog _)
 refine cw Tryz.func13 rfl (by kernel_rfl) rfl rfl (by simp) fun _ _ _ => ?_
 refine tq hΓ [3] [1] ?_
 refine tq hΓ [5] [] ?_
 refine AWp.seq ?_
 obtain ⟨r1, h6, hr⟩ := Ld hr
 refine tq hΓ [9, 10, 11] [0] ?_ (by simp [h6]; exact rr)
 refine AWp.equip 5 1 (els := []) (by simp) (by simp) ?_
 refine AWp.loopE (fun (s1 : Int × List Int) (γ1 : Nat) => ⟨[⟨9, none, .sl (r1.map Tb.enc) .no⟩, ⟨10, none, .n (lenL r1)⟩, ⟨11, none, .n s1.1⟩, ⟨5, none, .sl (s1.2.map (eNum .i64)) (.own 7 (γ1) 1)⟩, ⟨3, none, .ptr 6 0⟩], [.blk [.ptr 1 0, .mp 3, .mp 4, .mp 5], .blk [.mp 2, .n x0.fb.fj], .mapo (encM (kI .i64) (vA Ta.enc) x0.fb.fe), .mapo (encM (vA Tc.enc) (vA Te.enc) x0.fc), .mapo (encM (vA Tb.enc) (vA Tg.enc) x0.ff), .mapo (encM (kI .u32) (vA Tf.enc) x0.fg), .blk x1.enc, .room (γ1)]⟩) (fun (v1 : List Int) (γ1a : Nat) => ⟨[⟨5, none, .sl (v1.map (eNum .i64)) (.own 7 (γ1a) 1)⟩], [.blk [.ptr 1 0, .mp 3, .mp 4, .mp 5], .blk [.mp 2, .n x0.fb.fj], .mapo (encM (kI .i64) (vA Ta.enc) x0.fb.fe), .mapo (encM (vA Tc.enc) (vA Te.enc) x0.fc), .mapo (encM (vA Tb.enc) (vA Tg.enc) x0.ff), .mapo (encM (kI .u32) (vA Tf.enc) x0.fg), .blk x1.enc, .room (γ1a)]⟩) (gk.fin x0 x1) hr 0 8 (by simp) (fun s1 f γ1 hr => ?_) (fun v1 γ1a σ1 m1 hr hc => ?_) (fun _ h => h)
 ·unfold gk.loop1 at hr
  refine tq hΓ [12] [] ?_ (by simp; exact rr)
  refine AWp.seq ?_
  refine AWp.cnd hr (by simp) (fun h7 hr => ?_) (fun h7 hr => ?_)
  ·refine AWp.skip ?_
   refine AWp.seq ?_
   refine AWp.block ?_
   obtain ⟨h8, hr⟩ := Lg hr
   refine tq hΓ [7] [12] ?_ (by simp [h7, h8]; exact rr)
   refine tq hΓ [18] [] ?_ (by simp; exact rr)
   refine AWp.cnd hr (by simp) (fun h9 hr => ?_) (fun h9 hr => ?_)
   ·obtain ⟨h10, hr⟩ := Lg hr
    refine tl hΓ [5] [18, 7] ?_ (by simp [h9, h10]; exact rr)
    refine tl hΓ [11] [] ?_ (by simp; exact rr)
    obtain rfl := La hr
    exact Lq (γ1 + 1) 8 (by first | (simp; done) | simp [h6, h7, h8, h9, h10])
   ·refine AWp.skip ?_
    refine tl hΓ [11] [18, 7] ?_ (by simp [h9]; exact rr)
    obtain rfl := La hr
    exact Lq (γ1) 8 (by first | (simp; done) | simp [h6, h7, h8, h9])
  ·refine AWp.exit ?_
   obtain rfl := La hr
   exact Lo (γ1) 8 (by first | (simp; done) | simp [h6, h7])
 ·refine AWp.conv hc ?_
  refine tq hΓ [4] [5] ?_ (by simp; exact rr)
  obtain rfl := La hr
  exact AWp.ret (Le (by simp))

@[simp] noncomputable def gk.S : Sp
  | [.ptr i0 0, .agg e1], M => (rdB M i0).bind fun c0 => (rdP c0 0).bind fun i1 => (rdB M i1).bind fun c1 => (rdM c1 0).bind fun i2 => (rdE M i2).bind fun c2 => (rdM c0 1).bind fun i3 => (rdE M i3).bind fun c3 => (rdM c0 2).bind fun i4 => (rdE M i4).bind fun c4 => (rdM c0 3).bind fun i5 => (rdE M i5).bind fun c5 => (fun (y0 : Th) => some { av := .sl (((gk y0 (Tc.dec e1)).getD dflt).map (eNum .i64)) .no, M := none, obl := WeakL e1 (Tc.enc (Tc.dec e1)) ∧ c0 = Th.enc y0 i1 i3 i4 i5 ∧ c1 = Tj.enc (y0.fb) i2 ∧ c2 = encM (kI .i64) (vA Ta.enc) (y0.fb.fe) ∧ c3 = encM (vA Tc.enc) (vA Te.enc) (y0.fc) ∧ c4 = encM (vA Tb.enc) (vA Tg.enc) (y0.ff) ∧ c5 = encM (kI .u32) (vA Tf.enc) (y0.fg) ∧ (gk y0 (Tc.dec e1)).isSome = true ∧ i0 ≠ i1 ∧ i0 ≠ i2 ∧ i0 ≠ i3 ∧ i0 ≠ i4 ∧ i0 ≠ i5 ∧ i1 ≠ i2 ∧ i1 ≠ i3 ∧ i1 ≠ i4 ∧ i1 ≠ i5 ∧ i2 ≠ i3 ∧ i2 ≠ i4 ∧ i2 ≠ i5 ∧ i3 ≠ i4 ∧ i3 ≠ i5 ∧ i4 ≠ i5 }) (Th.dec c0 (Tj.dec c1 (decM dkI (dvA Ta.dec) c2)) (decM (dvA Tc.dec) (dvA Te.dec) c3) (decM (dvA Tb.dec) (dvA Tg.dec) c4) (decM dkI (dvA Tf.dec) c5))
  | _, _ => none

theorem gk.ok : SpecOk Tryz.prog 13 gk.S := by
 intro l M out h
 unfold gk.S at h
 split at h
 ·rename_i i0 e1
  obtain ⟨c0, hM0, h⟩ := bB h
  obtain ⟨i1, he1, h⟩ := bP h
  obtain ⟨c1, hM1, h⟩ := bB h
  obtain ⟨i2, he2, h⟩ := bM h
  obtain ⟨c2, hM2, h⟩ := bE h
  obtain ⟨i3, he3, h⟩ := bM h
  obtain ⟨c3, hM3, h⟩ := bE h
  obtain ⟨i4, he4, h⟩ := bM h
  obtain ⟨c4, hM4, h⟩ := bE h
  obtain ⟨i5, he5, h⟩ := bM h
  obtain ⟨c5, hM5, h⟩ := bE h
  try dsimp only at h
  cases h
  refine callOk_of fun ho => ?_
  obtain ⟨ox1, oc0, oc1, oc2, oc3, oc4, oc5, hs, hne0, hne1, hne2, hne3, hne4, hne5, hne6, hne7, hne8, hne9, hne10, hne11, hne12, hne13, hne14⟩ := ho
  generalize (Th.dec c0 (Tj.dec c1 (decM dkI (dvA Ta.dec) c2)) (decM (dvA Tc.dec) (dvA Te.dec) c3) (decM (dvA Tb.dec) (dvA Tg.dec) c4) (decM dkI (dvA Tf.dec) c5)) = y0 at *
  generalize (Tc.dec e1) = x1 at *
  subst oc0
  subst oc1
  subst oc2
  subst oc3
  subst oc4
  subst oc5
  obtain ⟨r, hr⟩ := so1 hs
  simp only [hr, gd1]
  have q := Lh (M := M) [i0, i1, i2, i3, i4, i5] (gk.can y0 x1 r hr) (by simp [hne0, hne1, hne2, hne3, hne4, hne5, hne6, hne7, hne8, hne9, hne10, hne11, hne12, hne13, hne14]) rfl (ix (by simp [hM0, into]) (ix (by simp [hM1, into]) (ix (by simp [hM2]) (ix (by simp [hM3]) (ix (by simp [hM4]) (ix (by simp [hM5]) ixn))))))
  exact callOk_conv q trivial (by simp [into]; exact ox1) (by simp [frameOut, into]) (by simp only [frameOut, gk.out, Option.getD_some, Option.getD_none]; simp [into, hM0, hM1, hM2, hM3, hM4, hM5, set_same])
 ·cases h
end Go.Proofs

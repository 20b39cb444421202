/- That these functions compute what their plain functions do. No condition. -/
import Derived.Test.YtoiieebljbhpbaaGreatDoorM07
import Derived.Test.YtoiieebljbhpbaaGreatDoorTy
import Derived.Test.YtoiieebljbhpbaaGreatDoorM02
import Derived.Test.YtoiieebljbhpbaaGreatDoorM16
import Derived.Test.YtoiieebljbhpbaaGreatDoorM05
import Derived.Test.YtoiieebljbhpbaaGreatDoorHa
import Derived.Test.YtoiieebljbhpbaaGreatDoorXa
import Derived.Test.YtoiieebljbhpbaaGreatDoorM04
import Derived.Test.YtoiieebljbhpbaaGreatDoorM19
import Derived.Test.YtoiieebljbhpbaaGreatDoorCa
set_option maxRecDepth 100000
set_option maxHeartbeats 4000000
namespace Go.Proofs
open Go.Ab
@[simp] def gm.m (x0 : Th) (_x1 : Tc) : List AObj := [.blk [.ptr 1 0, .mp 3, .mp 4, .mp 5], .blk [.mp 2, .lit (.int .i64 x0.fb.fj)], .mapo (encM (kI .i64) (vA Ta.enc) x0.fb.fe), .mapo (encM (vA Tc.enc) (vA Te.enc) x0.fc), .mapo (encM (vA Tb.enc) (vA Tg.enc) x0.ff), .mapo (encM (kI .u32) (vA Tf.enc) x0.fg)]
@[simp] def gm.out (_x0 : Th) (_x1 : Tc) (r : Th) : Out := { av := .tup [], M := some [.blk [.ptr 1 0, .mp 3, .mp 4, .mp 5], .blk [.mp 2, .lit (.int .i64 r.fb.fj)], .mapo (encM (kI .i64) (vA Ta.enc) r.fb.fe), .mapo (encM (vA Tc.enc) (vA Te.enc) r.fc), .mapo (encM (vA Tb.enc) (vA Tg.enc) r.ff), .mapo (encM (kI .u32) (vA Tf.enc) r.fg)] }
def gm.fin (x0 : Th) (x1 : Tc) (r : Th) (σ : St) : Prop := finK (gm.out x0 x1 r) (gm.m x0 x1) σ.M (resA Tryz.ty σ.A σ.M Tryz.f86.results.toList)
theorem gm.can (x0 : Th) (x1 : Tc) (r : Th) (hr : gm x0 x1 = some r) : CallOk Tryz.prog 86 [.ptr 0 0, .agg [.lit (.int .i64 x1.fd), .lit (.int .i64 x1.fh)]] (gm.m x0 x1) (gm.out x0 x1 r) := by
 unfold gm at hr
 have hΓ := (gamL_cons libDelete.gah.ok (gamL_nil) : GamOk Tryz.prog _)
 refine cw Tryz.func86 rfl (by kernel_rfl) rfl rfl (by simp) fun _ _ _ => ?_
 refine tq hΓ [3] [1] ?_
 refine AWp.seq ?_
 refine td hΓ [12, 13, 14] [] [] [(false, []), (false, []), (false, []), (false, []), (false, []), (false, []), (false, []), (false, []), (false, [])] (by simp; exact rr) ?_
 refine AWp.loopE (fun (s1 : Int × (List (Int × Tf))) (γ1 : Unit) => ⟨[⟨12, none, .sl (((getM Tc.eq x1 (Te.mk false false []) x0.fc).fa).map (eNum .u32)) .no⟩, ⟨13, none, .n (lenL ((getM Tc.eq x1 (Te.mk false false []) x0.fc).fa))⟩, ⟨14, none, .n s1.1⟩, ⟨3, none, .ptr 6 0⟩, ⟨0, none, .ptr 0 0⟩], [.blk [.ptr 1 0, .mp 3, .mp 4, .mp 5], .blk [.mp 2, .n x0.fb.fj], .mapo (encM (kI .i64) (vA Ta.enc) x0.fb.fe), .mapo (encM (vA Tc.enc) (vA Te.enc) x0.fc), .mapo (encM (vA Tb.enc) (vA Tg.enc) x0.ff), .mapo (encM (kI .u32) (vA Tf.enc) s1.2), .blk x1.enc]⟩) (fun (v1 : (List (Int × Tf))) (γ1a : Unit) => ⟨[⟨3, none, .ptr 6 0⟩, ⟨0, none, .ptr 0 0⟩], [.blk [.ptr 1 0, .mp 3, .mp 4, .mp 5], .blk [.mp 2, .n x0.fb.fj], .mapo (encM (kI .i64) (vA Ta.enc) x0.fb.fe), .mapo (encM (vA Tc.enc) (vA Te.enc) x0.fc), .mapo (encM (vA Tb.enc) (vA Tg.enc) x0.ff), .mapo (encM (kI .u32) (vA Tf.enc) v1), .blk x1.enc]⟩) (gm.fin x0 x1) hr () 7 (by simp) (fun s1 f γ1 hr => ?_) (fun v1 γ1a σ1 m1 hr hc => ?_) (fun _ h => h)
 ·unfold gm.loop1 at hr
  refine tq hΓ [15] [] ?_
  refine AWp.seq ?_
  refine AWp.cnd hr (by simp) (fun h3 hr => ?_) (fun h3 hr => ?_)
  ·refine AWp.skip ?_
   refine AWp.seq ?_
   refine AWp.block ?_
   obtain ⟨h4, hr⟩ := Lg hr
   refine tq hΓ [5] [15] ?_ (by simp [h3, h4]; exact rr)
   refine tl hΓ [] [5] ?_ (by simp; exact rr)
   refine tl hΓ [14] [] ?_ (by simp; exact rr)
   obtain rfl := La hr
   exact Lq () 7 (by first | (simp; done) | simp [h3, h4])
  ·refine AWp.exit ?_
   obtain rfl := La hr
   exact Lo () 7 (by first | (simp; done) | simp [h3])
 ·refine AWp.conv hc ?_
  refine td hΓ [] [] [] [(false, []), (false, []), (false, []), (false, []), (false, []), (true, [])] (by simp; exact rr) ?_
  refine tl hΓ [] [3, 0] ?_
  obtain rfl := La hr
  exact fin_norm (by simp)

@[simp] noncomputable def gm.S : Sp
  | [.ptr i0 0, .agg e1], M => (rdB M i0).bind fun c0 => (rdP c0 0).bind fun i1 => (rdB M i1).bind fun c1 => (rdM c1 0).bind fun i2 => (rdE M i2).bind fun c2 => (rdM c0 1).bind fun i3 => (rdE M i3).bind fun c3 => (rdM c0 2).bind fun i4 => (rdE M i4).bind fun c4 => (rdM c0 3).bind fun i5 => (rdE M i5).bind fun c5 => (fun (y0 : Th) => (fun (r : Th) => some { av := .tup [], M := some ((((((M.set i0 (.blk [.ptr i1 0, .mp i3, .mp i4, .mp i5])).set i1 (.blk [.mp i2, .lit (.int .i64 (r.fb.fj))])).set i2 (.mapo (encM (kI .i64) (vA Ta.enc) (r.fb.fe)))).set i3 (.mapo (encM (vA Tc.enc) (vA Te.enc) (r.fc)))).set i4 (.mapo (encM (vA Tb.enc) (vA Tg.enc) (r.ff)))).set i5 (.mapo (encM (kI .u32) (vA Tf.enc) (r.fg)))), obl := WeakL e1 (Tc.enc (Tc.dec e1)) ∧ c0 = Th.enc y0 i1 i3 i4 i5 ∧ c1 = Tj.enc (y0.fb) i2 ∧ c2 = encM (kI .i64) (vA Ta.enc) (y0.fb.fe) ∧ c3 = encM (vA Tc.enc) (vA Te.enc) (y0.fc) ∧ c4 = encM (vA Tb.enc) (vA Tg.enc) (y0.ff) ∧ c5 = encM (kI .u32) (vA Tf.enc) (y0.fg) ∧ (gm y0 (Tc.dec e1)).isSome = true ∧ i0 ≠ i1 ∧ i0 ≠ i2 ∧ i0 ≠ i3 ∧ i0 ≠ i4 ∧ i0 ≠ i5 ∧ i1 ≠ i2 ∧ i1 ≠ i3 ∧ i1 ≠ i4 ∧ i1 ≠ i5 ∧ i2 ≠ i3 ∧ i2 ≠ i4 ∧ i2 ≠ i5 ∧ i3 ≠ i4 ∧ i3 ≠ i5 ∧ i4 ≠ i5 }) ((gm y0 (Tc.dec e1)).getD dflt)) (Th.dec c0 (Tj.dec c1 (decM dkI (dvA Ta.dec) c2)) (decM (dvA Tc.dec) (dvA Te.dec) c3) (decM (dvA Tb.dec) (dvA Tg.dec) c4) (decM dkI (dvA Tf.dec) c5))
  | _, _ => none

theorem gm.ok : SpecOk Tryz.prog 86 gm.S := by
 intro l M out h
 unfold gm.S at h
 split at h
 ·rename_i i0 e1
  obtain ⟨c0, hM0, h⟩ := bB h
  obtain ⟨i1, he1, h⟩ := bP h
  obtain ⟨c1, hM1, h⟩ := bB h
  obtain ⟨i2, he2, h⟩ := bM h
  obtain ⟨c2, hM2, h⟩ := bE h
  obtain ⟨i3, he3, h⟩ := bM h
  obtain ⟨c3, hM3, h⟩ := bE h
  obtain ⟨i4, he4, h⟩ := bM h
  obtain ⟨c4, hM4, h⟩ := bE h
  obtain ⟨i5, he5, h⟩ := bM h
  obtain ⟨c5, hM5, h⟩ := bE h
  try dsimp only at h
  cases h
  refine callOk_of fun ho => ?_
  obtain ⟨ox1, oc0, oc1, oc2, oc3, oc4, oc5, hs, hne0, hne1, hne2, hne3, hne4, hne5, hne6, hne7, hne8, hne9, hne10, hne11, hne12, hne13, hne14⟩ := ho
  generalize (Th.dec c0 (Tj.dec c1 (decM dkI (dvA Ta.dec) c2)) (decM (dvA Tc.dec) (dvA Te.dec) c3) (decM (dvA Tb.dec) (dvA Tg.dec) c4) (decM dkI (dvA Tf.dec) c5)) = y0 at *
  generalize (Tc.dec e1) = x1 at *
  subst oc0
  subst oc1
  subst oc2
  subst oc3
  subst oc4
  subst oc5
  obtain ⟨r, hr⟩ := so1 hs
  simp only [hr, gd1]
  have q := Lh (M := M) [i0, i1, i2, i3, i4, i5] (gm.can y0 x1 r hr) (by simp [hne0, hne1, hne2, hne3, hne4, hne5, hne6, hne7, hne8, hne9, hne10, hne11, hne12, hne13, hne14]) rfl (ix (by simp [hM0, into]) (ix (by simp [hM1, into]) (ix (by simp [hM2]) (ix (by simp [hM3]) (ix (by simp [hM4]) (ix (by simp [hM5]) ixn))))))
  exact callOk_conv q trivial (by simp [into]; exact ox1) (by simp [frameOut, into]) (by simp [frameOut, into])
 ·cases h

@[simp] def gp.m (x0 : Th) (_x1 : Int) : List AObj := [.blk [.ptr 1 0, .mp 3, .mp 4, .mp 5], .blk [.mp 2, .lit (.int .i64 x0.fb.fj)], .mapo (encM (kI .i64) (vA Ta.enc) x0.fb.fe), .mapo (encM (vA Tc.enc) (vA Te.enc) x0.fc), .mapo (encM (vA Tb.enc) (vA Tg.enc) x0.ff), .mapo (encM (kI .u32) (vA Tf.enc) x0.fg)]
@[simp] def gp.out (_x0 : Th) (_x1 : Int) (r : Int × Th) : Out := { av := .lit (.int .i64 r.1), M := some [.blk [.ptr 1 0, .mp 3, .mp 4, .mp 5], .blk [.mp 2, .lit (.int .i64 r.2.fb.fj)], .mapo (encM (kI .i64) (vA Ta.enc) r.2.fb.fe), .mapo (encM (vA Tc.enc) (vA Te.enc) r.2.fc), .mapo (encM (vA Tb.enc) (vA Tg.enc) r.2.ff), .mapo (encM (kI .u32) (vA Tf.enc) r.2.fg)] }
def gp.fin (x0 : Th) (x1 : Int) (r : Int × Th) (σ : St) : Prop := finK (gp.out x0 x1 r) (gp.m x0 x1) σ.M (resA Tryz.ty σ.A σ.M Tryz.f35.results.toList)
theorem gp.can (x0 : Th) (x1 : Int) (r : Int × Th) (hr : gp x0 x1 = some r) : CallOk Tryz.prog 35 [.ptr 0 0, .lit (.int .i64 x1)] (gp.m x0 x1) (gp.out x0 x1 r) := by
 unfold gp at hr
 have hΓ := (gamL_cons gm.ok (gamL_cons gR.ok (gamL_cons libDelete.gah.ok (gamL_nil))) : GamOk Tryz.prog _)
 refine cw Tryz.func35 rfl (by kernel_rfl) rfl rfl (by simp) fun _ _ _ => ?_
 refine tq hΓ [3] [1] ?_
 refine AWp.seq ?_
 obtain ⟨r1, h5, hr⟩ := Ld hr
 refine td hΓ [5] [] [] [(false, []), (false, []), (false, []), (false, []), (false, []), (true, []), (false, [])] (by simp [h5]; exact rr) ?_
 refine tq hΓ [14] [] ?_ (by simp; exact rr)
 refine AWp.cnd hr (by simp) (fun h6 hr => ?_) (fun h6 hr => ?_)
 ·refine tq hΓ [4] [14, 5, 3, 0] ?_ (by simp [h6]; exact rr)
  obtain rfl := La hr
  exact AWp.ret (Le (by simp))
 ·refine AWp.skip ?_
  refine AWp.seq ?_
  refine tq hΓ [16] [14, 5] ?_ (by simp [h6]; exact rr)
  refine AWp.loopE (fun (s1 : Int × Int × (List (Int × Ta)) × (List (Tc × Te)) × (List (Tb × Tg)) × (List (Int × Tf))) (γ1 : Unit) => ⟨[⟨16, none, .n s1.1⟩, ⟨3, none, .ptr 6 0⟩, ⟨0, none, .ptr 0 0⟩], [.blk [.ptr 1 0, .mp 3, .mp 4, .mp 5], .blk [.mp 2, .n s1.2.1], .mapo (encM (kI .i64) (vA Ta.enc) s1.2.2.1), .mapo (encM (vA Tc.enc) (vA Te.enc) s1.2.2.2.1), .mapo (encM (vA Tb.enc) (vA Tg.enc) s1.2.2.2.2.1), .mapo (encM (kI .u32) (vA Tf.enc) s1.2.2.2.2.2), .blk [.n x1]]⟩) (fun (v1 : Int × (List (Int × Ta)) × (List (Tc × Te)) × (List (Tb × Tg)) × (List (Int × Tf))) (γ1a : Unit) => ⟨[⟨3, none, .ptr 6 0⟩, ⟨0, none, .ptr 0 0⟩], [.blk [.ptr 1 0, .mp 3, .mp 4, .mp 5], .blk [.mp 2, .n v1.1], .mapo (encM (kI .i64) (vA Ta.enc) v1.2.1), .mapo (encM (vA Tc.enc) (vA Te.enc) v1.2.2.1), .mapo (encM (vA Tb.enc) (vA Tg.enc) v1.2.2.2.1), .mapo (encM (kI .u32) (vA Tf.enc) v1.2.2.2.2), .blk [.n x1]]⟩) (gp.fin x0 x1) hr () 7 (by simp) (fun s1 f γ1 hr => ?_) (fun v1 γ1a σ1 m1 hr hc => ?_) (fun _ h => h)
  ·unfold gp.loop1 at hr
   refine tq hΓ [17] [] ?_ (by simp; exact rr)
   refine AWp.seq ?_
   refine AWp.cnd hr (by simp) (fun h7 hr => ?_) (fun h7 hr => ?_)
   ·refine AWp.skip ?_
    refine AWp.seq ?_
    refine AWp.block ?_
    refine tq hΓ [6] [17] ?_ (by simp [h7]; exact rr)
    obtain ⟨r2, h8, hr⟩ := Ld hr
    refine tl hΓ [] [6] ?_ (by simp [h8]; exact rr)
    refine tl hΓ [16] [] ?_ (by simp; exact rr)
    obtain rfl := La hr
    exact Lq () 7 (by first | (simp; done) | simp [h5, h6, h7, h8])
   ·refine AWp.exit ?_
    obtain rfl := La hr
    exact Lo () 7 (by first | (simp; done) | simp [h5, h6, h7])
  ·refine AWp.conv hc ?_
   refine tq hΓ [] [3, 0] ?_ (by simp; exact rr)
   refine tq hΓ [4] [] ?_ (by simp; exact rr)
   obtain rfl := La hr
   exact AWp.ret (Le (by simp))

@[simp] noncomputable def gp.S : Sp
  | [.ptr i0 0, .lit (.int .i64 x1)], M => (rdB M i0).bind fun c0 => (rdP c0 0).bind fun i1 => (rdB M i1).bind fun c1 => (rdM c1 0).bind fun i2 => (rdE M i2).bind fun c2 => (rdM c0 1).bind fun i3 => (rdE M i3).bind fun c3 => (rdM c0 2).bind fun i4 => (rdE M i4).bind fun c4 => (rdM c0 3).bind fun i5 => (rdE M i5).bind fun c5 => (fun (y0 : Th) => (fun (r : Int × Th) => some { av := .lit (.int .i64 (r.1)), M := some ((((((M.set i0 (.blk [.ptr i1 0, .mp i3, .mp i4, .mp i5])).set i1 (.blk [.mp i2, .lit (.int .i64 (r.2.fb.fj))])).set i2 (.mapo (encM (kI .i64) (vA Ta.enc) (r.2.fb.fe)))).set i3 (.mapo (encM (vA Tc.enc) (vA Te.enc) (r.2.fc)))).set i4 (.mapo (encM (vA Tb.enc) (vA Tg.enc) (r.2.ff)))).set i5 (.mapo (encM (kI .u32) (vA Tf.enc) (r.2.fg)))), obl := c0 = Th.enc y0 i1 i3 i4 i5 ∧ c1 = Tj.enc (y0.fb) i2 ∧ c2 = encM (kI .i64) (vA Ta.enc) (y0.fb.fe) ∧ c3 = encM (vA Tc.enc) (vA Te.enc) (y0.fc) ∧ c4 = encM (vA Tb.enc) (vA Tg.enc) (y0.ff) ∧ c5 = encM (kI .u32) (vA Tf.enc) (y0.fg) ∧ (gp y0 x1).isSome = true ∧ i0 ≠ i1 ∧ i0 ≠ i2 ∧ i0 ≠ i3 ∧ i0 ≠ i4 ∧ i0 ≠ i5 ∧ i1 ≠ i2 ∧ i1 ≠ i3 ∧ i1 ≠ i4 ∧ i1 ≠ i5 ∧ i2 ≠ i3 ∧ i2 ≠ i4 ∧ i2 ≠ i5 ∧ i3 ≠ i4 ∧ i3 ≠ i5 ∧ i4 ≠ i5 }) ((gp y0 x1).getD dflt)) (Th.dec c0 (Tj.dec c1 (decM dkI (dvA Ta.dec) c2)) (decM (dvA Tc.dec) (dvA Te.dec) c3) (decM (dvA Tb.dec) (dvA Tg.dec) c4) (decM dkI (dvA Tf.dec) c5))
  | _, _ => none

theorem gp.ok : SpecOk Tryz.prog 35 gp.S := by
 intro l M out h
 unfold gp.S at h
 split at h
 ·rename_i i0 x1
  obtain ⟨c0, hM0, h⟩ := bB h
  obtain ⟨i1, he1, h⟩ := bP h
  obtain ⟨c1, hM1, h⟩ := bB h
  obtain ⟨i2, he2, h⟩ := bM h
  obtain ⟨c2, hM2, h⟩ := bE h
  obtain ⟨i3, he3, h⟩ := bM h
  obtain ⟨c3, hM3, h⟩ := bE h
  obtain ⟨i4, he4, h⟩ := bM h
  obtain ⟨c4, hM4, h⟩ := bE h
  obtain ⟨i5, he5, h⟩ := bM h
  obtain ⟨c5, hM5, h⟩ := bE h
  try dsimp only at h
  cases h
  refine callOk_of fun ho => ?_
  obtain ⟨oc0, oc1, oc2, oc3, oc4, oc5, hs, hne0, hne1, hne2, hne3, hne4, hne5, hne6, hne7, hne8, hne9, hne10, hne11, hne12, hne13, hne14⟩ := ho
  generalize (Th.dec c0 (Tj.dec c1 (decM dkI (dvA Ta.dec) c2)) (decM (dvA Tc.dec) (dvA Te.dec) c3) (decM (dvA Tb.dec) (dvA Tg.dec) c4) (decM dkI (dvA Tf.dec) c5)) = y0 at *
  subst oc0
  subst oc1
  subst oc2
  subst oc3
  subst oc4
  subst oc5
  obtain ⟨r, hr⟩ := so1 hs
  simp only [hr, gd1]
  have q := Lh (M := M) [i0, i1, i2, i3, i4, i5] (gp.can y0 x1 r hr) (by simp [hne0, hne1, hne2, hne3, hne4, hne5, hne6, hne7, hne8, hne9, hne10, hne11, hne12, hne13, hne14]) rfl (ix (by simp [hM0, into]) (ix (by simp [hM1, into]) (ix (by simp [hM2]) (ix (by simp [hM3]) (ix (by simp [hM4]) (ix (by simp [hM5]) ixn))))))
  exact callOk_conv q trivial (by simp [into]) (by simp [frameOut, into]) (by simp [frameOut, into])
 ·cases h

@[simp] def gh.m (x0 : Th) (_x1 : Td) : List AObj := [.blk [.ptr 1 0, .mp 3, .mp 4, .mp 5], .blk [.mp 2, .lit (.int .i64 x0.fb.fj)], .mapo (encM (kI .i64) (vA Ta.enc) x0.fb.fe), .mapo (encM (vA Tc.enc) (vA Te.enc) x0.fc), .mapo (encM (vA Tb.enc) (vA Tg.enc) x0.ff), .mapo (encM (kI .u32) (vA Tf.enc) x0.fg)]
@[simp] def gh.out (_x0 : Th) (_x1 : Td) (r : Int × Th) : Out := { av := .lit (.int .i64 r.1), M := some [.blk [.ptr 1 0, .mp 3, .mp 4, .mp 5], .blk [.mp 2, .lit (.int .i64 r.2.fb.fj)], .mapo (encM (kI .i64) (vA Ta.enc) r.2.fb.fe), .mapo (encM (vA Tc.enc) (vA Te.enc) r.2.fc), .mapo (encM (vA Tb.enc) (vA Tg.enc) r.2.ff), .mapo (encM (kI .u32) (vA Tf.enc) r.2.fg)] }
def gh.fin (x0 : Th) (x1 : Td) (r : Int × Th) (σ : St) : Prop := finK (gh.out x0 x1 r) (gh.m x0 x1) σ.M (resA Tryz.ty σ.A σ.M Tryz.f36.results.toList)
theorem gh.can (x0 : Th) (x1 : Td) (r : Int × Th) (hr : gh x0 x1 = some r) : CallOk Tryz.prog 36 [.ptr 0 0, .agg [.lit (.int .i64 x1.fk), .lit (.string x1.fm), .lit (.string x1.fp), .lit (.int .i64 x1.fd), .lit (.int .i64 x1.fOf), .lit (.int .i64 x1.fh), .lit (.int .i64 x1.fo), .lit (.bool x1.fOn), .lit (.bool x1.fq), .sl (x1.fa.map (eNum .u32)) .no]] (gh.m x0 x1) (gh.out x0 x1 r) := by
 unfold gh at hr
 have hΓ := (gamL_cons libClone1.ok (gamL_nil) : GamOk Tryz.prog _)
 refine cw Tryz.func36 rfl (by kernel_rfl) rfl rfl (by simp) fun _ _ _ => ?_
 refine tq hΓ [3] [1] ?_
 refine tq hΓ [5] [] ?_
 refine AWp.seq ?_
 refine td hΓ [7] [] [(0, 10), (1, 10), (2, 10), (3, 10), (4, 10), (5, 10), (6, 10), (7, 10), (8, 10), (8, 11)] [(false, []), (false, []), (false, []), (false, []), (false, []), (false, []), (false, []), (false, []), (false, []), (true, []), (true, []), (false, [])] (by simp; exact rr) ?_
 refine tq hΓ [28] [7] ?_
 refine AWp.cnd hr (by simp) (fun h8 hr => ?_) (fun h8 hr => ?_)
 ·refine tq hΓ [4] [28, 5, 3, 0] ?_ (by simp [h8]; exact rr)
  obtain rfl := La hr
  exact AWp.ret (Le (by simp))
 ·refine AWp.skip ?_
  refine AWp.seq ?_
  refine tq hΓ [30, 31, 32] [28] ?_ (by simp [h8]; exact rr)
  refine AWp.loopE (fun (s1 : Int) (γ1 : Unit) => ⟨[⟨30, none, .sl (x1.fa.map (eNum .u32)) .no⟩, ⟨31, none, .n (lenL x1.fa)⟩, ⟨32, none, .n s1⟩, ⟨5, none, .ptr 7 0⟩, ⟨3, none, .ptr 6 0⟩, ⟨0, none, .ptr 0 0⟩], [.blk [.ptr 1 0, .mp 3, .mp 4, .mp 5], .blk [.mp 2, .n x0.fb.fj], .mapo (encM (kI .i64) (vA Ta.enc) x0.fb.fe), .mapo (encM (vA Tc.enc) (vA Te.enc) x0.fc), .mapo (encM (vA Tb.enc) (vA Tg.enc) x0.ff), .mapo (encM (kI .u32) (vA Tf.enc) x0.fg), .blk x1.enc, .blk [.n x1.fd, .n x1.fh], .blk (getM Tc.eq (Tc.mk x1.fd x1.fh) (Te.mk false false []) x0.fc).enc]⟩) (fun (v1 : Unit) (γ1a : Unit) => ⟨[⟨5, none, .ptr 7 0⟩, ⟨3, none, .ptr 6 0⟩, ⟨0, none, .ptr 0 0⟩], [.blk [.ptr 1 0, .mp 3, .mp 4, .mp 5], .blk [.mp 2, .n x0.fb.fj], .mapo (encM (kI .i64) (vA Ta.enc) x0.fb.fe), .mapo (encM (vA Tc.enc) (vA Te.enc) x0.fc), .mapo (encM (vA Tb.enc) (vA Tg.enc) x0.ff), .mapo (encM (kI .u32) (vA Tf.enc) x0.fg), .blk x1.enc, .blk [.n x1.fd, .n x1.fh], .blk (getM Tc.eq (Tc.mk x1.fd x1.fh) (Te.mk false false []) x0.fc).enc]⟩) (gh.fin x0 x1) hr () 9 (by simp) (fun s1 f γ1 hr => ?_) (fun v1 γ1a σ1 m1 hr hc => ?_) (fun _ h => h)
  ·unfold gh.loop1 at hr
   refine tq hΓ [33] [] ?_ (by simp; exact rr)
   refine AWp.seq ?_
   refine AWp.cnd hr (by simp) (fun h9 hr => ?_) (fun h9 hr => ?_)
   ·refine AWp.skip ?_
    refine AWp.seq ?_
    refine AWp.block ?_
    obtain ⟨h10, hr⟩ := Lg hr
    refine tq hΓ [9] [33] ?_ (by simp [h9, h10]; exact rr)
    refine tq hΓ [11] [9] ?_ (by simp; exact rr)
    refine tq hΓ [45] [11] ?_ (by simp; exact rr)
    refine AWp.cnd hr (by simp) (fun h11 hr => ?_) (fun h11 hr => ?_)
    ·refine tq hΓ [4] [45, 30, 31, 32, 5, 3, 0] ?_ (by simp [h11]; exact rr)
     refine AWp.ret ?_
     obtain rfl := La hr
     refine round_ret ?_
     refine Le ?_
     simp
    ·refine AWp.skip ?_
     refine tl hΓ [32] [45] ?_ (by simp [h11]; exact rr)
     obtain rfl := La hr
     exact Lq () 9 (by first | (simp; done) | simp [h8, h9, h10, h11])
   ·refine AWp.exit ?_
    obtain rfl := La hr
    exact Lo () 9 (by first | (simp; done) | simp [h8, h9])
  ·refine AWp.conv hc ?_
   obtain ⟨h12, hr⟩ := Lg hr
   refine td hΓ [] [] [(0, 10), (1, 10), (2, 10), (3, 10), (4, 10), (5, 10), (6, 10)] [(false, []), (false, []), (false, []), (false, []), (false, []), (false, []), (false, []), (false, []), (false, []), (true, []), (false, []), (true, [])] (by simp [h8, h12]; exact rr) ?_
   refine AWp.seq ?_
   refine tq hΓ [59, 60, 61] [3] ?_ (by simp; exact rr)
   refine AWp.loopE (fun (s2 : Int × (List (Int × Tf))) (γ2 : Unit) => ⟨[⟨59, none, .sl (x1.fa.map (eNum .u32)) .no⟩, ⟨60, none, .n (lenL x1.fa)⟩, ⟨61, none, .n s2.1⟩, ⟨5, none, .ptr 7 0⟩, ⟨0, none, .ptr 0 0⟩], [.blk [.ptr 1 0, .mp 3, .mp 4, .mp 5], .blk [.mp 2, .n x0.fb.fj], .mapo (encM (kI .i64) (vA Ta.enc) x0.fb.fe), .mapo (encM (vA Tc.enc) (vA Te.enc) (setM Tc.eq (Tc.mk x1.fd x1.fh) (Te.mk x1.fq false x1.fa) x0.fc)), .mapo (encM (vA Tb.enc) (vA Tg.enc) x0.ff), .mapo (encM (kI .u32) (vA Tf.enc) s2.2), .blk x1.enc, .blk [.n x1.fd, .n x1.fh], .blk (getM Tc.eq (Tc.mk x1.fd x1.fh) (Te.mk false false []) x0.fc).enc, .room 1]⟩) (fun (v2 : (List (Int × Tf))) (γ2a : Unit) => ⟨[], [.blk [.ptr 1 0, .mp 3, .mp 4, .mp 5], .blk [.mp 2, .n x0.fb.fj], .mapo (encM (kI .i64) (vA Ta.enc) x0.fb.fe), .mapo (encM (vA Tc.enc) (vA Te.enc) (setM Tc.eq (Tc.mk x1.fd x1.fh) (Te.mk x1.fq false x1.fa) x0.fc)), .mapo (encM (vA Tb.enc) (vA Tg.enc) x0.ff), .mapo (encM (kI .u32) (vA Tf.enc) v2), .blk x1.enc, .blk [.n x1.fd, .n x1.fh], .blk (getM Tc.eq (Tc.mk x1.fd x1.fh) (Te.mk false false []) x0.fc).enc, .room 1]⟩) (gh.fin x0 x1) hr () 10 (by simp) (fun s2 f γ2 hr => ?_) (fun v2 γ2a σ1 m1 hr hc => ?_) (fun _ h => h)
   ·unfold gh.loop2 at hr
    refine tq hΓ [62] [] ?_ (by simp; exact rr)
    refine AWp.seq ?_
    refine AWp.cnd hr (by simp) (fun h13 hr => ?_) (fun h13 hr => ?_)
    ·refine AWp.skip ?_
     refine AWp.seq ?_
     refine AWp.block ?_
     obtain ⟨h14, hr⟩ := Lg hr
     refine tq hΓ [12, 13] [62] ?_ (by simp [h13, h14]; exact rr)
     refine AWp.lst (AWp.regD Tryz.mixed Tryz.tyOk hΓ [] [12, 13] [] [(false, []), (false, []), (false, []), (false, []), (false, []), (false, []), (false, []), (false, []), (true, [])] (by kernel_rfl) rfl (by simp; exact rr)) ?_
     refine tl hΓ [61] [] ?_ (by simp; exact rr)
     obtain rfl := La hr
     exact Lq () 10 (by first | (simp; done) | simp [h8, h12, h13, h14])
    ·refine AWp.exit ?_
     obtain rfl := La hr
     exact Lo () 10 (by first | (simp; done) | simp [h8, h12, h13])
   ·refine AWp.conv hc ?_
    refine tq hΓ [4] [] ?_ (by simp; exact rr)
    obtain rfl := La hr
    exact AWp.ret (Le (by simp))

@[simp] noncomputable def gh.S : Sp
  | [.ptr i0 0, .agg e1], M => (rdB M i0).bind fun c0 => (rdP c0 0).bind fun i1 => (rdB M i1).bind fun c1 => (rdM c1 0).bind fun i2 => (rdE M i2).bind fun c2 => (rdM c0 1).bind fun i3 => (rdE M i3).bind fun c3 => (rdM c0 2).bind fun i4 => (rdE M i4).bind fun c4 => (rdM c0 3).bind fun i5 => (rdE M i5).bind fun c5 => (fun (y0 : Th) => (fun (y1 : Td) => (fun (r : Int × Th) => some { av := .lit (.int .i64 (r.1)), M := some ((((((M.set i0 (.blk [.ptr i1 0, .mp i3, .mp i4, .mp i5])).set i1 (.blk [.mp i2, .lit (.int .i64 (r.2.fb.fj))])).set i2 (.mapo (encM (kI .i64) (vA Ta.enc) (r.2.fb.fe)))).set i3 (.mapo (encM (vA Tc.enc) (vA Te.enc) (r.2.fc)))).set i4 (.mapo (encM (vA Tb.enc) (vA Tg.enc) (r.2.ff)))).set i5 (.mapo (encM (kI .u32) (vA Tf.enc) (r.2.fg)))), obl := WeakL e1 (Td.enc y1) ∧ c0 = Th.enc y0 i1 i3 i4 i5 ∧ c1 = Tj.enc (y0.fb) i2 ∧ c2 = encM (kI .i64) (vA Ta.enc) (y0.fb.fe) ∧ c3 = encM (vA Tc.enc) (vA Te.enc) (y0.fc) ∧ c4 = encM (vA Tb.enc) (vA Tg.enc) (y0.ff) ∧ c5 = encM (kI .u32) (vA Tf.enc) (y0.fg) ∧ (gh y0 y1).isSome = true ∧ i0 ≠ i1 ∧ i0 ≠ i2 ∧ i0 ≠ i3 ∧ i0 ≠ i4 ∧ i0 ≠ i5 ∧ i1 ≠ i2 ∧ i1 ≠ i3 ∧ i1 ≠ i4 ∧ i1 ≠ i5 ∧ i2 ≠ i3 ∧ i2 ≠ i4 ∧ i2 ≠ i5 ∧ i3 ≠ i4 ∧ i3 ≠ i5 ∧ i4 ≠ i5 }) ((gh y0 y1).getD dflt)) (Td.dec e1)) (Th.dec c0 (Tj.dec c1 (decM dkI (dvA Ta.dec) c2)) (decM (dvA Tc.dec) (dvA Te.dec) c3) (decM (dvA Tb.dec) (dvA Tg.dec) c4) (decM dkI (dvA Tf.dec) c5))
  | _, _ => none

theorem gh.ok : SpecOk Tryz.prog 36 gh.S := by
 intro l M out h
 unfold gh.S at h
 split at h
 ·rename_i i0 e1
  obtain ⟨c0, hM0, h⟩ := bB h
  obtain ⟨i1, he1, h⟩ := bP h
  obtain ⟨c1, hM1, h⟩ := bB h
  obtain ⟨i2, he2, h⟩ := bM h
  obtain ⟨c2, hM2, h⟩ := bE h
  obtain ⟨i3, he3, h⟩ := bM h
  obtain ⟨c3, hM3, h⟩ := bE h
  obtain ⟨i4, he4, h⟩ := bM h
  obtain ⟨c4, hM4, h⟩ := bE h
  obtain ⟨i5, he5, h⟩ := bM h
  obtain ⟨c5, hM5, h⟩ := bE h
  try dsimp only at h
  cases h
  refine callOk_of fun ho => ?_
  obtain ⟨ox1, oc0, oc1, oc2, oc3, oc4, oc5, hs, hne0, hne1, hne2, hne3, hne4, hne5, hne6, hne7, hne8, hne9, hne10, hne11, hne12, hne13, hne14⟩ := ho
  generalize (Th.dec c0 (Tj.dec c1 (decM dkI (dvA Ta.dec) c2)) (decM (dvA Tc.dec) (dvA Te.dec) c3) (decM (dvA Tb.dec) (dvA Tg.dec) c4) (decM dkI (dvA Tf.dec) c5)) = y0 at *
  generalize (Td.dec e1) = x1 at *
  subst oc0
  subst oc1
  subst oc2
  subst oc3
  subst oc4
  subst oc5
  obtain ⟨r, hr⟩ := so1 hs
  simp only [hr, gd1]
  have q := Lh (M := M) [i0, i1, i2, i3, i4, i5] (gh.can y0 x1 r hr) (by simp [hne0, hne1, hne2, hne3, hne4, hne5, hne6, hne7, hne8, hne9, hne10, hne11, hne12, hne13, hne14]) rfl (ix (by simp [hM0, into]) (ix (by simp [hM1, into]) (ix (by simp [hM2]) (ix (by simp [hM3]) (ix (by simp [hM4]) (ix (by simp [hM5]) ixn))))))
  exact callOk_conv q trivial (by simp [into]; exact ox1) (by simp [frameOut, into]) (by simp [frameOut, into])
 ·cases h

@[simp] def gB.m (x0 : Th) (_x1 : Td) : List AObj := [.blk [.ptr 1 0, .mp 3, .mp 4, .mp 5], .blk [.mp 2, .lit (.int .i64 x0.fb.fj)], .mapo (encM (kI .i64) (vA Ta.enc) x0.fb.fe), .mapo (encM (vA Tc.enc) (vA Te.enc) x0.fc), .mapo (encM (vA Tb.enc) (vA Tg.enc) x0.ff), .mapo (encM (kI .u32) (vA Tf.enc) x0.fg)]
@[simp] def gB.out (_x0 : Th) (_x1 : Td) (r : Int × Th) : Out := { av := .lit (.int .i64 r.1), M := some [.blk [.ptr 1 0, .mp 3, .mp 4, .mp 5], .blk [.mp 2, .lit (.int .i64 r.2.fb.fj)], .mapo (encM (kI .i64) (vA Ta.enc) r.2.fb.fe), .mapo (encM (vA Tc.enc) (vA Te.enc) r.2.fc), .mapo (encM (vA Tb.enc) (vA Tg.enc) r.2.ff), .mapo (encM (kI .u32) (vA Tf.enc) r.2.fg)] }
theorem gB.can (x0 : Th) (x1 : Td) (r : Int × Th) (hr : gB x0 x1 = some r) : CallOk Tryz.prog 37 [.ptr 0 0, .agg [.lit (.int .i64 x1.fk), .lit (.string x1.fm), .lit (.string x1.fp), .lit (.int .i64 x1.fd), .lit (.int .i64 x1.fOf), .lit (.int .i64 x1.fh), .lit (.int .i64 x1.fo), .lit (.bool x1.fOn), .lit (.bool x1.fq), .sl (x1.fa.map (eNum .u32)) .no]] (gB.m x0 x1) (gB.out x0 x1 r) := by
 unfold gB at hr
 have hΓ := (gamL_cons gH.ok (gamL_cons gw.ok (gamL_nil)) : GamOk Tryz.prog _)
 refine cw Tryz.func37 rfl (by kernel_rfl) rfl rfl (by simp) fun _ _ _ => ?_
 refine tq hΓ [3] [1] ?_
 refine tq hΓ [5] [] ?_
 refine AWp.seq ?_
 refine tq hΓ [22] [] ?_
 refine AWp.cnd hr (by simp) (fun h7 hr => ?_) (fun h7 hr => ?_)
 ·refine tq hΓ [4] [22, 5, 3, 0] ?_ (by simp [h7]; exact rr)
  obtain rfl := La hr
  exact AWp.ret (Le (by simp))
 ·refine AWp.skip ?_
  refine AWp.seq ?_
  obtain ⟨r1, h8, hr⟩ := Ld hr
  refine td hΓ [32] [22] [] [(false, []), (false, []), (false, []), (false, []), (false, []), (false, []), (false, []), (false, []), (false, []), (false, [])] (by simp [h7, h8]; exact rr) ?_
  refine AWp.cnd hr (by simp) (fun h9 hr => ?_) (fun h9 hr => ?_)
  ·refine tq hΓ [4] [32, 5, 3, 0] ?_ (by simp [h9]; exact rr)
   obtain rfl := La hr
   exact AWp.ret (Le (by simp))
  ·refine AWp.skip ?_
   refine AWp.seq ?_
   refine td hΓ [7] [32] [(0, 11), (1, 11), (2, 11), (3, 11), (4, 11), (5, 11), (6, 11), (7, 11), (8, 11), (9, 11), (9, 12)] [(false, []), (false, []), (false, []), (false, []), (false, []), (false, []), (false, []), (false, []), (false, []), (false, []), (true, []), (true, []), (false, [])] (by simp [h9]; exact rr) ?_
   refine tq hΓ [44] [7] ?_ (by simp; exact rr)
   refine AWp.cnd hr (by simp) (fun h10 hr => ?_) (fun h10 hr => ?_)
   ·refine tq hΓ [4] [44, 5, 3, 0] ?_ (by simp [h10]; exact rr)
    obtain rfl := La hr
    exact AWp.ret (Le (by simp))
   ·refine AWp.skip ?_
    refine td hΓ [8, 9] [44] [(0, 10), (1, 10), (2, 10), (3, 10), (4, 10), (5, 10), (6, 10), (7, 10), (8, 10), (8, 11)] [(false, []), (false, []), (false, []), (false, []), (false, []), (false, []), (false, []), (false, []), (false, []), (true, []), (true, []), (false, [])] (by simp [h10]; exact rr) ?_
    refine AWp.seq ?_
    obtain ⟨h11, hr⟩ := Lg hr
    refine tq hΓ [62] [9] ?_ (by simp [h11]; exact rr)
    refine AWp.cnd hr (by simp) (fun h12 hr => ?_) (fun h12 hr => ?_)
    ·refine tq hΓ [4] [62, 8, 5, 3, 0] ?_ (by simp [h12]; exact rr)
     obtain rfl := La hr
     exact AWp.ret (Le (by simp))
    ·refine AWp.skip ?_
     refine tq hΓ [] [62, 3] ?_ (by simp [h12]; exact rr)
     refine td hΓ [] [8, 5, 0] [] [(false, []), (false, []), (false, []), (false, []), (false, []), (false, []), (true, [])] (by simp; exact rr) ?_
     refine tq hΓ [4] [] ?_ (by simp; exact rr)
     obtain rfl := La hr
     exact AWp.ret (Le (by simp))

@[simp] noncomputable def gB.S : Sp
  | [.ptr i0 0, .agg e1], M => (rdB M i0).bind fun c0 => (rdP c0 0).bind fun i1 => (rdB M i1).bind fun c1 => (rdM c1 0).bind fun i2 => (rdE M i2).bind fun c2 => (rdM c0 1).bind fun i3 => (rdE M i3).bind fun c3 => (rdM c0 2).bind fun i4 => (rdE M i4).bind fun c4 => (rdM c0 3).bind fun i5 => (rdE M i5).bind fun c5 => (fun (y0 : Th) => (fun (y1 : Td) => (fun (r : Int × Th) => some { av := .lit (.int .i64 (r.1)), M := some ((((((M.set i0 (.blk [.ptr i1 0, .mp i3, .mp i4, .mp i5])).set i1 (.blk [.mp i2, .lit (.int .i64 (r.2.fb.fj))])).set i2 (.mapo (encM (kI .i64) (vA Ta.enc) (r.2.fb.fe)))).set i3 (.mapo (encM (vA Tc.enc) (vA Te.enc) (r.2.fc)))).set i4 (.mapo (encM (vA Tb.enc) (vA Tg.enc) (r.2.ff)))).set i5 (.mapo (encM (kI .u32) (vA Tf.enc) (r.2.fg)))), obl := WeakL e1 (Td.enc y1) ∧ c0 = Th.enc y0 i1 i3 i4 i5 ∧ c1 = Tj.enc (y0.fb) i2 ∧ c2 = encM (kI .i64) (vA Ta.enc) (y0.fb.fe) ∧ c3 = encM (vA Tc.enc) (vA Te.enc) (y0.fc) ∧ c4 = encM (vA Tb.enc) (vA Tg.enc) (y0.ff) ∧ c5 = encM (kI .u32) (vA Tf.enc) (y0.fg) ∧ (gB y0 y1).isSome = true ∧ i0 ≠ i1 ∧ i0 ≠ i2 ∧ i0 ≠ i3 ∧ i0 ≠ i4 ∧ i0 ≠ i5 ∧ i1 ≠ i2 ∧ i1 ≠ i3 ∧ i1 ≠ i4 ∧ i1 ≠ i5 ∧ i2 ≠ i3 ∧ i2 ≠ i4 ∧ i2 ≠ i5 ∧ i3 ≠ i4 ∧ i3 ≠ i5 ∧ i4 ≠ i5 }) ((gB y0 y1).getD dflt)) (Td.dec e1)) (Th.dec c0 (Tj.dec c1 (decM dkI (dvA Ta.dec) c2)) (decM (dvA Tc.dec) (dvA Te.dec) c3) (decM (dvA Tb.dec) (dvA Tg.dec) c4) (decM dkI (dvA Tf.dec) c5))
  | _, _ => none

theorem gB.ok : SpecOk Tryz.prog 37 gB.S := by
 intro l M out h
 unfold gB.S at h
 split at h
 ·rename_i i0 e1
  obtain ⟨c0, hM0, h⟩ := bB h
  obtain ⟨i1, he1, h⟩ := bP h
  obtain ⟨c1, hM1, h⟩ := bB h
  obtain ⟨i2, he2, h⟩ := bM h
  obtain ⟨c2, hM2, h⟩ := bE h
  obtain ⟨i3, he3, h⟩ := bM h
  obtain ⟨c3, hM3, h⟩ := bE h
  obtain ⟨i4, he4, h⟩ := bM h
  obtain ⟨c4, hM4, h⟩ := bE h
  obtain ⟨i5, he5, h⟩ := bM h
  obtain ⟨c5, hM5, h⟩ := bE h
  try dsimp only at h
  cases h
  refine callOk_of fun ho => ?_
  obtain ⟨ox1, oc0, oc1, oc2, oc3, oc4, oc5, hs, hne0, hne1, hne2, hne3, hne4, hne5, hne6, hne7, hne8, hne9, hne10, hne11, hne12, hne13, hne14⟩ := ho
  generalize (Th.dec c0 (Tj.dec c1 (decM dkI (dvA Ta.dec) c2)) (decM (dvA Tc.dec) (dvA Te.dec) c3) (decM (dvA Tb.dec) (dvA Tg.dec) c4) (decM dkI (dvA Tf.dec) c5)) = y0 at *
  generalize (Td.dec e1) = x1 at *
  subst oc0
  subst oc1
  subst oc2
  subst oc3
  subst oc4
  subst oc5
  obtain ⟨r, hr⟩ := so1 hs
  simp only [hr, gd1]
  have q := Lh (M := M) [i0, i1, i2, i3, i4, i5] (gB.can y0 x1 r hr) (by simp [hne0, hne1, hne2, hne3, hne4, hne5, hne6, hne7, hne8, hne9, hne10, hne11, hne12, hne13, hne14]) rfl (ix (by simp [hM0, into]) (ix (by simp [hM1, into]) (ix (by simp [hM2]) (ix (by simp [hM3]) (ix (by simp [hM4]) (ix (by simp [hM5]) ixn))))))
  exact callOk_conv q trivial (by simp [into]; exact ox1) (by simp [frameOut, into]) (by simp [frameOut, into])
 ·cases h

@[simp] def gG.m (x0 : Th) (_x1 : Td) : List AObj := [.blk [.ptr 1 0, .mp 3, .mp 4, .mp 5], .blk [.mp 2, .lit (.int .i64 x0.fb.fj)], .mapo (encM (kI .i64) (vA Ta.enc) x0.fb.fe), .mapo (encM (vA Tc.enc) (vA Te.enc) x0.fc), .mapo (encM (vA Tb.enc) (vA Tg.enc) x0.ff), .mapo (encM (kI .u32) (vA Tf.enc) x0.fg)]
@[simp] def gG.out (_x0 : Th) (_x1 : Td) (r : Int × Th) : Out := { av := .lit (.int .i64 r.1), M := some [.blk [.ptr 1 0, .mp 3, .mp 4, .mp 5], .blk [.mp 2, .lit (.int .i64 r.2.fb.fj)], .mapo (encM (kI .i64) (vA Ta.enc) r.2.fb.fe), .mapo (encM (vA Tc.enc) (vA Te.enc) r.2.fc), .mapo (encM (vA Tb.enc) (vA Tg.enc) r.2.ff), .mapo (encM (kI .u32) (vA Tf.enc) r.2.fg)] }
def gG.fin (x0 : Th) (x1 : Td) (r : Int × Th) (σ : St) : Prop := finK (gG.out x0 x1 r) (gG.m x0 x1) σ.M (resA Tryz.ty σ.A σ.M Tryz.f38.results.toList)
theorem gG.can (x0 : Th) (x1 : Td) (r : Int × Th) (hr : gG x0 x1 = some r) : CallOk Tryz.prog 38 [.ptr 0 0, .agg [.lit (.int .i64 x1.fk), .lit (.string x1.fm), .lit (.string x1.fp), .lit (.int .i64 x1.fd), .lit (.int .i64 x1.fOf), .lit (.int .i64 x1.fh), .lit (.int .i64 x1.fo), .lit (.bool x1.fOn), .lit (.bool x1.fq), .sl (x1.fa.map (eNum .u32)) .no]] (gG.m x0 x1) (gG.out x0 x1 r) := by
 unfold gG at hr
 have hΓ := gamL_nil (P := Tryz.prog)
 refine cw Tryz.func38 rfl (by kernel_rfl) rfl rfl (by simp) fun _ _ _ => ?_
 refine tq hΓ [3] [1] ?_
 refine tq hΓ [5] [] ?_
 refine td hΓ [6, 7] [] [(0, 10), (1, 10), (2, 10), (3, 10), (4, 10), (5, 10), (6, 10), (7, 10), (8, 10), (8, 11)] [(false, []), (false, []), (false, []), (false, []), (false, []), (false, []), (false, []), (false, []), (false, []), (true, []), (true, []), (false, [])] (by simp; exact rr) ?_
 refine AWp.meetF (fun (v1 : (List (Tb × Tg)) × Tg) (γ1 : Unit) => ⟨[], [.blk [.ptr 1 0, .mp 3, .mp 4, .mp 5], .blk [.mp 2, .n x0.fb.fj], .mapo (encM (kI .i64) (vA Ta.enc) x0.fb.fe), .mapo (encM (vA Tc.enc) (vA Te.enc) x0.fc), .mapo (encM (vA Tb.enc) (vA Tg.enc) v1.1), .mapo (encM (kI .u32) (vA Tf.enc) x0.fg), .blk x1.enc, .blk [.n x1.fd, .n x1.fOf, .n x1.fh], .blk [.n v1.2.fo, .b v1.2.fw]]⟩) (gG.fin x0 x1) hr (fun f hr => ?_) (fun v1 γ1 hr => ?_) (fun _ h => h)
 ·refine AWp.block ?_
  refine tq hΓ [34] [7] ?_
  refine AWp.cnd hr (by simp) (fun h3 hr => ?_) (fun h3 hr => ?_)
  ·refine tq hΓ [4] [34, 6, 5, 3, 0] ?_ (by simp [h3]; exact rr)
   refine AWp.ret ?_
   obtain rfl := La hr
   refine meet_ret ?_
   refine Le ?_
   simp
  ·refine tq hΓ [37] [34] ?_ (by simp [h3]; exact rr)
   refine AWp.cnd hr (by simp) (fun h4 hr => ?_) (fun h4 hr => ?_)
   ·refine AWp.lst (AWp.regD Tryz.mixed Tryz.tyOk hΓ [] [37, 6, 5, 3, 0] [] [(false, []), (false, []), (false, []), (false, []), (false, []), (true, [])] (by kernel_rfl) rfl (by simp [h4]; exact rr)) ?_
    obtain rfl := La hr
    exact meet_go () 9 (by first | (simp; done) | simp [h3, h4])
   ·refine tq hΓ [] [37, 3] ?_ (by simp [h4]; exact rr)
    refine AWp.lst (AWp.regD Tryz.mixed Tryz.tyOk hΓ [] [6, 5, 0] [] [(false, []), (false, []), (false, []), (false, []), (false, []), (false, []), (true, [])] (by kernel_rfl) rfl (by simp; exact rr)) ?_
    obtain rfl := La hr
    exact meet_go () 9 (by first | (simp; done) | simp [h3, h4])
 ·refine tq hΓ [4] [] ?_
  obtain rfl := La hr
  exact AWp.ret (Le (by simp))

@[simp] noncomputable def gG.S : Sp
  | [.ptr i0 0, .agg e1], M => (rdB M i0).bind fun c0 => (rdP c0 0).bind fun i1 => (rdB M i1).bind fun c1 => (rdM c1 0).bind fun i2 => (rdE M i2).bind fun c2 => (rdM c0 1).bind fun i3 => (rdE M i3).bind fun c3 => (rdM c0 2).bind fun i4 => (rdE M i4).bind fun c4 => (rdM c0 3).bind fun i5 => (rdE M i5).bind fun c5 => (fun (y0 : Th) => (fun (y1 : Td) => (fun (r : Int × Th) => some { av := .lit (.int .i64 (r.1)), M := some ((((((M.set i0 (.blk [.ptr i1 0, .mp i3, .mp i4, .mp i5])).set i1 (.blk [.mp i2, .lit (.int .i64 (r.2.fb.fj))])).set i2 (.mapo (encM (kI .i64) (vA Ta.enc) (r.2.fb.fe)))).set i3 (.mapo (encM (vA Tc.enc) (vA Te.enc) (r.2.fc)))).set i4 (.mapo (encM (vA Tb.enc) (vA Tg.enc) (r.2.ff)))).set i5 (.mapo (encM (kI .u32) (vA Tf.enc) (r.2.fg)))), obl := WeakL e1 (Td.enc y1) ∧ c0 = Th.enc y0 i1 i3 i4 i5 ∧ c1 = Tj.enc (y0.fb) i2 ∧ c2 = encM (kI .i64) (vA Ta.enc) (y0.fb.fe) ∧ c3 = encM (vA Tc.enc) (vA Te.enc) (y0.fc) ∧ c4 = encM (vA Tb.enc) (vA Tg.enc) (y0.ff) ∧ c5 = encM (kI .u32) (vA Tf.enc) (y0.fg) ∧ (gG y0 y1).isSome = true ∧ i0 ≠ i1 ∧ i0 ≠ i2 ∧ i0 ≠ i3 ∧ i0 ≠ i4 ∧ i0 ≠ i5 ∧ i1 ≠ i2 ∧ i1 ≠ i3 ∧ i1 ≠ i4 ∧ i1 ≠ i5 ∧ i2 ≠ i3 ∧ i2 ≠ i4 ∧ i2 ≠ i5 ∧ i3 ≠ i4 ∧ i3 ≠ i5 ∧ i4 ≠ i5 }) ((gG y0 y1).getD dflt)) (Td.dec e1)) (Th.dec c0 (Tj.dec c1 (decM dkI (dvA Ta.dec) c2)) (decM (dvA Tc.dec) (dvA Te.dec) c3) (decM (dvA Tb.dec) (dvA Tg.dec) c4) (decM dkI (dvA Tf.dec) c5))
  | _, _ => none

theorem gG.ok : SpecOk Tryz.prog 38 gG.S := by
 intro l M out h
 unfold gG.S at h
 split at h
 ·rename_i i0 e1
  obtain ⟨c0, hM0, h⟩ := bB h
  obtain ⟨i1, he1, h⟩ := bP h
  obtain ⟨c1, hM1, h⟩ := bB h
  obtain ⟨i2, he2, h⟩ := bM h
  obtain ⟨c2, hM2, h⟩ := bE h
  obtain ⟨i3, he3, h⟩ := bM h
  obtain ⟨c3, hM3, h⟩ := bE h
  obtain ⟨i4, he4, h⟩ := bM h
  obtain ⟨c4, hM4, h⟩ := bE h
  obtain ⟨i5, he5, h⟩ := bM h
  obtain ⟨c5, hM5, h⟩ := bE h
  try dsimp only at h
  cases h
  refine callOk_of fun ho => ?_
  obtain ⟨ox1, oc0, oc1, oc2, oc3, oc4, oc5, hs, hne0, hne1, hne2, hne3, hne4, hne5, hne6, hne7, hne8, hne9, hne10, hne11, hne12, hne13, hne14⟩ := ho
  generalize (Th.dec c0 (Tj.dec c1 (decM dkI (dvA Ta.dec) c2)) (decM (dvA Tc.dec) (dvA Te.dec) c3) (decM (dvA Tb.dec) (dvA Tg.dec) c4) (decM dkI (dvA Tf.dec) c5)) = y0 at *
  generalize (Td.dec e1) = x1 at *
  subst oc0
  subst oc1
  subst oc2
  subst oc3
  subst oc4
  subst oc5
  obtain ⟨r, hr⟩ := so1 hs
  simp only [hr, gd1]
  have q := Lh (M := M) [i0, i1, i2, i3, i4, i5] (gG.can y0 x1 r hr) (by simp [hne0, hne1, hne2, hne3, hne4, hne5, hne6, hne7, hne8, hne9, hne10, hne11, hne12, hne13, hne14]) rfl (ix (by simp [hM0, into]) (ix (by simp [hM1, into]) (ix (by simp [hM2]) (ix (by simp [hM3]) (ix (by simp [hM4]) (ix (by simp [hM5]) ixn))))))
  exact callOk_conv q trivial (by simp [into]; exact ox1) (by simp [frameOut, into]) (by simp [frameOut, into])
 ·cases h

@[simp] def gA.m (x0 : Th) (_x1 : Td) : List AObj := [.blk [.ptr 1 0, .mp 3, .mp 4, .mp 5], .blk [.mp 2, .lit (.int .i64 x0.fb.fj)], .mapo (encM (kI .i64) (vA Ta.enc) x0.fb.fe), .mapo (encM (vA Tc.enc) (vA Te.enc) x0.fc), .mapo (encM (vA Tb.enc) (vA Tg.enc) x0.ff), .mapo (encM (kI .u32) (vA Tf.enc) x0.fg)]
@[simp] def gA.out (_x0 : Th) (_x1 : Td) (r : Int × Th) : Out := { av := .lit (.int .i64 r.1), M := some [.blk [.ptr 1 0, .mp 3, .mp 4, .mp 5], .blk [.mp 2, .lit (.int .i64 r.2.fb.fj)], .mapo (encM (kI .i64) (vA Ta.enc) r.2.fb.fe), .mapo (encM (vA Tc.enc) (vA Te.enc) r.2.fc), .mapo (encM (vA Tb.enc) (vA Tg.enc) r.2.ff), .mapo (encM (kI .u32) (vA Tf.enc) r.2.fg)] }
def gA.fin (x0 : Th) (x1 : Td) (r : Int × Th) (σ : St) : Prop := finK (gA.out x0 x1 r) (gA.m x0 x1) σ.M (resA Tryz.ty σ.A σ.M Tryz.f39.results.toList)
theorem gA.can (x0 : Th) (x1 : Td) (r : Int × Th) (hr : gA x0 x1 = some r) : CallOk Tryz.prog 39 [.ptr 0 0, .agg [.lit (.int .i64 x1.fk), .lit (.string x1.fm), .lit (.string x1.fp), .lit (.int .i64 x1.fd), .lit (.int .i64 x1.fOf), .lit (.int .i64 x1.fh), .lit (.int .i64 x1.fo), .lit (.bool x1.fOn), .lit (.bool x1.fq), .sl (x1.fa.map (eNum .u32)) .no]] (gA.m x0 x1) (gA.out x0 x1 r) := by
 unfold gA at hr
 have hΓ := (gamL_cons gm.ok (gamL_nil) : GamOk Tryz.prog _)
 refine cw Tryz.func39 rfl (by kernel_rfl) rfl rfl (by simp) fun _ _ _ => ?_
 refine tq hΓ [3] [1] ?_
 refine tq hΓ [5] [] ?_
 refine td hΓ [6, 7] [] [(0, 10), (1, 10), (2, 10), (3, 10), (4, 10), (5, 10), (6, 10), (7, 10), (8, 10), (8, 11)] [(false, []), (false, []), (false, []), (false, []), (false, []), (false, []), (false, []), (false, []), (false, []), (true, []), (true, []), (false, [])] (by simp; exact rr) ?_
 refine AWp.meetF (fun (v1 : Int × (List (Int × Ta)) × (List (Tc × Te)) × (List (Tb × Tg)) × (List (Int × Tf)) × Te) (γ1 : Unit) => ⟨[], [.blk [.ptr 1 0, .mp 3, .mp 4, .mp 5], .blk [.mp 2, .n v1.1], .mapo (encM (kI .i64) (vA Ta.enc) v1.2.1), .mapo (encM (vA Tc.enc) (vA Te.enc) v1.2.2.1), .mapo (encM (vA Tb.enc) (vA Tg.enc) v1.2.2.2.1), .mapo (encM (kI .u32) (vA Tf.enc) v1.2.2.2.2.1), .blk x1.enc, .blk [.n x1.fd, .n x1.fh], .blk [.b v1.2.2.2.2.2.fq, .b v1.2.2.2.2.2.fy, .sl (v1.2.2.2.2.2.fa.map (eNum .u32)) .no]]⟩) (gA.fin x0 x1) hr (fun f hr => ?_) (fun v1 γ1 hr => ?_) (fun _ h => h)
 ·refine AWp.block ?_
  refine tq hΓ [31] [7] ?_
  refine AWp.cnd hr (by simp) (fun h4 hr => ?_) (fun h4 hr => ?_)
  ·refine tq hΓ [4] [31, 6, 5, 3, 0] ?_ (by simp [h4]; exact rr)
   refine AWp.ret ?_
   obtain rfl := La hr
   refine meet_ret ?_
   refine Le ?_
   simp
  ·refine tq hΓ [34] [31] ?_ (by simp [h4]; exact rr)
   refine AWp.cnd hr (by simp) (fun h5 hr => ?_) (fun h5 hr => ?_)
   ·obtain ⟨r1, h6, hr⟩ := Ld hr
    refine tl hΓ [] [34, 6, 5, 3, 0] ?_ (by simp [h5, h6]; exact rr)
    obtain rfl := La hr
    exact meet_go () 9 (by first | (simp; done) | simp [h4, h5, h6])
   ·refine tq hΓ [] [34, 3] ?_ (by simp [h5]; exact rr)
    refine AWp.lst (AWp.regD Tryz.mixed Tryz.tyOk hΓ [] [6, 5, 0] [] [(false, []), (false, []), (false, []), (false, []), (false, []), (false, []), (true, [])] (by kernel_rfl) rfl (by simp; exact rr)) ?_
    obtain rfl := La hr
    exact meet_go () 9 (by first | (simp; done) | simp [h4, h5])
 ·refine tq hΓ [4] [] ?_
  obtain rfl := La hr
  exact AWp.ret (Le (by simp))

@[simp] noncomputable def gA.S : Sp
  | [.ptr i0 0, .agg e1], M => (rdB M i0).bind fun c0 => (rdP c0 0).bind fun i1 => (rdB M i1).bind fun c1 => (rdM c1 0).bind fun i2 => (rdE M i2).bind fun c2 => (rdM c0 1).bind fun i3 => (rdE M i3).bind fun c3 => (rdM c0 2).bind fun i4 => (rdE M i4).bind fun c4 => (rdM c0 3).bind fun i5 => (rdE M i5).bind fun c5 => (fun (y0 : Th) => (fun (y1 : Td) => (fun (r : Int × Th) => some { av := .lit (.int .i64 (r.1)), M := some ((((((M.set i0 (.blk [.ptr i1 0, .mp i3, .mp i4, .mp i5])).set i1 (.blk [.mp i2, .lit (.int .i64 (r.2.fb.fj))])).set i2 (.mapo (encM (kI .i64) (vA Ta.enc) (r.2.fb.fe)))).set i3 (.mapo (encM (vA Tc.enc) (vA Te.enc) (r.2.fc)))).set i4 (.mapo (encM (vA Tb.enc) (vA Tg.enc) (r.2.ff)))).set i5 (.mapo (encM (kI .u32) (vA Tf.enc) (r.2.fg)))), obl := WeakL e1 (Td.enc y1) ∧ c0 = Th.enc y0 i1 i3 i4 i5 ∧ c1 = Tj.enc (y0.fb) i2 ∧ c2 = encM (kI .i64) (vA Ta.enc) (y0.fb.fe) ∧ c3 = encM (vA Tc.enc) (vA Te.enc) (y0.fc) ∧ c4 = encM (vA Tb.enc) (vA Tg.enc) (y0.ff) ∧ c5 = encM (kI .u32) (vA Tf.enc) (y0.fg) ∧ (gA y0 y1).isSome = true ∧ i0 ≠ i1 ∧ i0 ≠ i2 ∧ i0 ≠ i3 ∧ i0 ≠ i4 ∧ i0 ≠ i5 ∧ i1 ≠ i2 ∧ i1 ≠ i3 ∧ i1 ≠ i4 ∧ i1 ≠ i5 ∧ i2 ≠ i3 ∧ i2 ≠ i4 ∧ i2 ≠ i5 ∧ i3 ≠ i4 ∧ i3 ≠ i5 ∧ i4 ≠ i5 }) ((gA y0 y1).getD dflt)) (Td.dec e1)) (Th.dec c0 (Tj.dec c1 (decM dkI (dvA Ta.dec) c2)) (decM (dvA Tc.dec) (dvA Te.dec) c3) (decM (dvA Tb.dec) (dvA Tg.dec) c4) (decM dkI (dvA Tf.dec) c5))
  | _, _ => none

theorem gA.ok : SpecOk Tryz.prog 39 gA.S := by
 intro l M out h
 unfold gA.S at h
 split at h
 ·rename_i i0 e1
  obtain ⟨c0, hM0, h⟩ := bB h
  obtain ⟨i1, he1, h⟩ := bP h
  obtain ⟨c1, hM1, h⟩ := bB h
  obtain ⟨i2, he2, h⟩ := bM h
  obtain ⟨c2, hM2, h⟩ := bE h
  obtain ⟨i3, he3, h⟩ := bM h
  obtain ⟨c3, hM3, h⟩ := bE h
  obtain ⟨i4, he4, h⟩ := bM h
  obtain ⟨c4, hM4, h⟩ := bE h
  obtain ⟨i5, he5, h⟩ := bM h
  obtain ⟨c5, hM5, h⟩ := bE h
  try dsimp only at h
  cases h
  refine callOk_of fun ho => ?_
  obtain ⟨ox1, oc0, oc1, oc2, oc3, oc4, oc5, hs, hne0, hne1, hne2, hne3, hne4, hne5, hne6, hne7, hne8, hne9, hne10, hne11, hne12, hne13, hne14⟩ := ho
  generalize (Th.dec c0 (Tj.dec c1 (decM dkI (dvA Ta.dec) c2)) (decM (dvA Tc.dec) (dvA Te.dec) c3) (decM (dvA Tb.dec) (dvA Tg.dec) c4) (decM dkI (dvA Tf.dec) c5)) = y0 at *
  generalize (Td.dec e1) = x1 at *
  subst oc0
  subst oc1
  subst oc2
  subst oc3
  subst oc4
  subst oc5
  obtain ⟨r, hr⟩ := so1 hs
  simp only [hr, gd1]
  have q := Lh (M := M) [i0, i1, i2, i3, i4, i5] (gA.can y0 x1 r hr) (by simp [hne0, hne1, hne2, hne3, hne4, hne5, hne6, hne7, hne8, hne9, hne10, hne11, hne12, hne13, hne14]) rfl (ix (by simp [hM0, into]) (ix (by simp [hM1, into]) (ix (by simp [hM2]) (ix (by simp [hM3]) (ix (by simp [hM4]) (ix (by simp [hM5]) ixn))))))
  exact callOk_conv q trivial (by simp [into]; exact ox1) (by simp [frameOut, into]) (by simp [frameOut, into])
 ·cases h

@[simp] def gf.m (x0 : Th) (_x1 : Td) : List AObj := [.blk [.ptr 1 0, .mp 3, .mp 4, .mp 5], .blk [.mp 2, .lit (.int .i64 x0.fb.fj)], .mapo (encM (kI .i64) (vA Ta.enc) x0.fb.fe), .mapo (encM (vA Tc.enc) (vA Te.enc) x0.fc), .mapo (encM (vA Tb.enc) (vA Tg.enc) x0.ff), .mapo (encM (kI .u32) (vA Tf.enc) x0.fg)]
@[simp] def gf.out (_x0 : Th) (_x1 : Td) (r : Int × Int × Th) : Out := { av := .tup [.lit (.int .i64 r.1), .lit (.int .i64 r.2.1)], M := some [.blk [.ptr 1 0, .mp 3, .mp 4, .mp 5], .blk [.mp 2, .lit (.int .i64 r.2.2.fb.fj)], .mapo (encM (kI .i64) (vA Ta.enc) r.2.2.fb.fe), .mapo (encM (vA Tc.enc) (vA Te.enc) r.2.2.fc), .mapo (encM (vA Tb.enc) (vA Tg.enc) r.2.2.ff), .mapo (encM (kI .u32) (vA Tf.enc) r.2.2.fg)] }
def gf.fin (x0 : Th) (x1 : Td) (r : Int × Int × Th) (σ : St) : Prop := finK (gf.out x0 x1 r) (gf.m x0 x1) σ.M (resA Tryz.ty σ.A σ.M Tryz.f11.results.toList)
theorem gf.can (x0 : Th) (x1 : Td) (r : Int × Int × Th) (hr : gf x0 x1 = some r) : CallOk Tryz.prog 11 [.ptr 0 0, .agg [.lit (.int .i64 x1.fk), .lit (.string x1.fm), .lit (.string x1.fp), .lit (.int .i64 x1.fd), .lit (.int .i64 x1.fOf), .lit (.int .i64 x1.fh), .lit (.int .i64 x1.fo), .lit (.bool x1.fOn), .lit (.bool x1.fq), .sl (x1.fa.map (eNum .u32)) .no]] (gf.m x0 x1) (gf.out x0 x1 r) := by
 unfold gf at hr
 have hΓ := (gamL_cons gp.ok (gamL_cons gG.ok (gamL_cons gh.ok (gamL_cons gB.ok (gamL_cons gA.ok (gamL_cons gL.ok (gamL_cons gP.ok (gamL_cons gK.ok (gamL_nil)))))))) : GamOk Tryz.prog _)
 refine cw Tryz.func11 rfl (by kernel_rfl) rfl rfl (by simp) fun _ _ _ => ?_
 refine tq hΓ [3] [1] ?_
 refine AWp.seq ?_
 obtain ⟨r1, h17, hr⟩ := Ld hr
 refine tq hΓ [6] [] ?_ (by simp [h17]; exact rr)
 refine tq hΓ [12] [] ?_ (by simp; exact rr)
 refine AWp.cnd hr (by simp) (fun h18 hr => ?_) (fun h18 hr => ?_)
 ·refine tq hΓ [4, 5] [12, 6, 3, 0] ?_ (by simp [h18]; exact rr)
  obtain rfl := La hr
  exact AWp.ret (Le (by simp))
 ·refine AWp.skip ?_
  refine AWp.seq ?_
  refine tq hΓ [16] [12, 6] ?_ (by simp [h18]; exact rr)
  refine AWp.cnd hr (by simp) (fun h19 hr => ?_) (fun h19 hr => ?_)
  ·obtain ⟨r2, h20, hr⟩ := Ld hr
   refine td hΓ [4, 5] [16, 3, 0] [] [(false, []), (false, []), (false, []), (false, []), (false, []), (false, []), (false, []), (false, []), (true, []), (false, []), (false, []), (false, []), (false, [])] (by simp [h19, h20]; exact rr) ?_
   obtain rfl := La hr
   exact AWp.ret (Le (by simp))
  ·refine AWp.skip ?_
   refine AWp.seq ?_
   obtain ⟨r3, h21, hr⟩ := Ld hr
   refine td hΓ [8] [16] [(0, 11), (1, 11), (2, 11), (3, 11), (4, 11), (5, 11), (6, 11), (7, 11), (8, 11), (9, 11), (9, 12)] [(false, []), (false, []), (false, []), (false, []), (false, []), (false, []), (false, []), (false, []), (false, []), (false, []), (true, []), (true, []), (false, [])] (by simp [h19, h21]; exact rr) ?_
   refine tq hΓ [39] [8] ?_ (by simp; exact rr)
   refine AWp.cnd hr (by simp) (fun h22 hr => ?_) (fun h22 hr => ?_)
   ·refine tq hΓ [4, 5] [39, 3, 0] ?_ (by simp [h22]; exact rr)
    obtain rfl := La hr
    exact AWp.ret (Le (by simp))
   ·refine AWp.skip ?_
    refine AWp.meetF (fun (v1 : Unit) (γ1 : Unit) => ⟨[⟨3, none, .ptr 6 0⟩, ⟨0, none, .ptr 0 0⟩], [.blk [.ptr 1 0, .mp 3, .mp 4, .mp 5], .blk [.mp 2, .n x0.fb.fj], .mapo (encM (kI .i64) (vA Ta.enc) x0.fb.fe), .mapo (encM (vA Tc.enc) (vA Te.enc) x0.fc), .mapo (encM (vA Tb.enc) (vA Tg.enc) x0.ff), .mapo (encM (kI .u32) (vA Tf.enc) x0.fg), .blk x1.enc, .blk [.n r3.1.fN, .s r3.1.fp, .s r3.1.fm]]⟩) (gf.fin x0 x1) hr (fun f hr => ?_) (fun v1 γ1 hr => ?_) (fun _ h => h)
    ·refine tq hΓ [41] [39] ?_ (by simp [h22]; exact rr)
     refine AWp.block ?_
     refine tq hΓ [42] [] ?_ (by simp; exact rr)
     refine AWp.cnd hr (by simp) (fun h23 hr => ?_) (fun h23 hr => ?_)
     ·obtain ⟨r4, h24, hr⟩ := Ld hr
      refine tq hΓ [4, 5] [42, 41, 3, 0] ?_ (by simp [h23, h24]; exact rr)
      refine AWp.ret ?_
      obtain rfl := La hr
      refine meet_ret ?_
      refine Le ?_
      simp
     ·refine tq hΓ [48] [42] ?_ (by simp [h23]; exact rr)
      refine AWp.cnd hr (by simp) (fun h25 hr => ?_) (fun h25 hr => ?_)
      ·obtain ⟨r5, h26, hr⟩ := Ld hr
       refine tq hΓ [4, 5] [48, 41, 3, 0] ?_ (by simp [h25, h26]; exact rr)
       refine AWp.ret ?_
       obtain rfl := La hr
       refine meet_ret ?_
       refine Le ?_
       simp
      ·refine tq hΓ [53] [48] ?_ (by simp [h25]; exact rr)
       refine AWp.cnd hr (by simp) (fun h27 hr => ?_) (fun h27 hr => ?_)
       ·obtain ⟨r6, h28, hr⟩ := Ld hr
        refine tq hΓ [4, 5] [53, 41, 3, 0] ?_ (by simp [h27, h28]; exact rr)
        refine AWp.ret ?_
        obtain rfl := La hr
        refine meet_ret ?_
        refine Le ?_
        simp
       ·refine AWp.meetF (fun (v2 : Bool) (γ2 : Unit) => ⟨[⟨3, none, .ptr 6 0⟩, ⟨0, none, .ptr 0 0⟩, ⟨58, none, .b v2⟩], [.blk [.ptr 1 0, .mp 3, .mp 4, .mp 5], .blk [.mp 2, .n x0.fb.fj], .mapo (encM (kI .i64) (vA Ta.enc) x0.fb.fe), .mapo (encM (vA Tc.enc) (vA Te.enc) x0.fc), .mapo (encM (vA Tb.enc) (vA Tg.enc) x0.ff), .mapo (encM (kI .u32) (vA Tf.enc) x0.fg), .blk x1.enc, .blk [.n r3.1.fN, .s r3.1.fp, .s r3.1.fm]]⟩) (QRm (gf.fin x0 x1)) hr (fun f hr => ?_) (fun v2 γ2 hr => ?_) (fun _ h => QRm_ret h)
        ·refine tq hΓ [58] [53] ?_ (by simp [h27]; exact rr)
         refine AWp.cnd hr (by simp) (fun h29 hr => ?_) (fun h29 hr => ?_)
         ·refine AWp.skip ?_
          obtain rfl := La hr
          exact meet_go () 8 (by first | (simp; done) | simp [h29])
         ·refine tl hΓ [58] [41] ?_ (by simp [h29]; exact rr)
          obtain rfl := La hr
          exact meet_go () 8 (by first | (simp; done) | simp [h17, h18, h19, h21, h22, h23, h25, h27, h29])
        ·refine AWp.cnd hr (by simp) (fun h30 hr => ?_) (fun h30 hr => ?_)
         ·obtain ⟨r7, h31, hr⟩ := Ld hr
          refine tq hΓ [4, 5] [3, 0, 58] ?_ (by simp [h30, h31]; exact rr)
          refine AWp.ret ?_
          obtain rfl := La hr
          refine meet_ret ?_
          refine Le ?_
          simp
         ·refine AWp.skip ?_
          obtain rfl := La hr
          exact meet_go () 8 (by first | (simp; done) | simp [h17, h18, h19, h21, h22, h23, h25, h27, h30])
    ·obtain ⟨r8, h32, hr⟩ := Ld hr
     refine tq hΓ [4, 5] [3, 0] ?_ (by simp [h32]; exact rr)
     obtain rfl := La hr
     exact AWp.ret (Le (by simp))

@[simp] noncomputable def gf.S : Sp
  | [.ptr i0 0, .agg e1], M => (rdB M i0).bind fun c0 => (rdP c0 0).bind fun i1 => (rdB M i1).bind fun c1 => (rdM c1 0).bind fun i2 => (rdE M i2).bind fun c2 => (rdM c0 1).bind fun i3 => (rdE M i3).bind fun c3 => (rdM c0 2).bind fun i4 => (rdE M i4).bind fun c4 => (rdM c0 3).bind fun i5 => (rdE M i5).bind fun c5 => (fun (y0 : Th) => (fun (y1 : Td) => (fun (r : Int × Int × Th) => some { av := .tup [.lit (.int .i64 (r.1)), .lit (.int .i64 (r.2.1))], M := some ((((((M.set i0 (.blk [.ptr i1 0, .mp i3, .mp i4, .mp i5])).set i1 (.blk [.mp i2, .lit (.int .i64 (r.2.2.fb.fj))])).set i2 (.mapo (encM (kI .i64) (vA Ta.enc) (r.2.2.fb.fe)))).set i3 (.mapo (encM (vA Tc.enc) (vA Te.enc) (r.2.2.fc)))).set i4 (.mapo (encM (vA Tb.enc) (vA Tg.enc) (r.2.2.ff)))).set i5 (.mapo (encM (kI .u32) (vA Tf.enc) (r.2.2.fg)))), obl := WeakL e1 (Td.enc y1) ∧ c0 = Th.enc y0 i1 i3 i4 i5 ∧ c1 = Tj.enc (y0.fb) i2 ∧ c2 = encM (kI .i64) (vA Ta.enc) (y0.fb.fe) ∧ c3 = encM (vA Tc.enc) (vA Te.enc) (y0.fc) ∧ c4 = encM (vA Tb.enc) (vA Tg.enc) (y0.ff) ∧ c5 = encM (kI .u32) (vA Tf.enc) (y0.fg) ∧ (gf y0 y1).isSome = true ∧ i0 ≠ i1 ∧ i0 ≠ i2 ∧ i0 ≠ i3 ∧ i0 ≠ i4 ∧ i0 ≠ i5 ∧ i1 ≠ i2 ∧ i1 ≠ i3 ∧ i1 ≠ i4 ∧ i1 ≠ i5 ∧ i2 ≠ i3 ∧ i2 ≠ i4 ∧ i2 ≠ i5 ∧ i3 ≠ i4 ∧ i3 ≠ i5 ∧ i4 ≠ i5 }) ((gf y0 y1).getD dflt)) (Td.dec e1)) (Th.dec c0 (Tj.dec c1 (decM dkI (dvA Ta.dec) c2)) (decM (dvA Tc.dec) (dvA Te.dec) c3) (decM (dvA Tb.dec) (dvA Tg.dec) c4) (decM dkI (dvA Tf.dec) c5))
  | _, _ => none

theorem gf.ok : SpecOk Tryz.prog 11 gf.S := by
 intro l M out h
 unfold gf.S at h
 split at h
 ·rename_i i0 e1
  obtain ⟨c0, hM0, h⟩ := bB h
  obtain ⟨i1, he1, h⟩ := bP h
  obtain ⟨c1, hM1, h⟩ := bB h
  obtain ⟨i2, he2, h⟩ := bM h
  obtain ⟨c2, hM2, h⟩ := bE h
  obtain ⟨i3, he3, h⟩ := bM h
  obtain ⟨c3, hM3, h⟩ := bE h
  obtain ⟨i4, he4, h⟩ := bM h
  obtain ⟨c4, hM4, h⟩ := bE h
  obtain ⟨i5, he5, h⟩ := bM h
  obtain ⟨c5, hM5, h⟩ := bE h
  try dsimp only at h
  cases h
  refine callOk_of fun ho => ?_
  obtain ⟨ox1, oc0, oc1, oc2, oc3, oc4, oc5, hs, hne0, hne1, hne2, hne3, hne4, hne5, hne6, hne7, hne8, hne9, hne10, hne11, hne12, hne13, hne14⟩ := ho
  generalize (Th.dec c0 (Tj.dec c1 (decM dkI (dvA Ta.dec) c2)) (decM (dvA Tc.dec) (dvA Te.dec) c3) (decM (dvA Tb.dec) (dvA Tg.dec) c4) (decM dkI (dvA Tf.dec) c5)) = y0 at *
  generalize (Td.dec e1) = x1 at *
  subst oc0
  subst oc1
  subst oc2
  subst oc3
  subst oc4
  subst oc5
  obtain ⟨r, hr⟩ := so1 hs
  simp only [hr, gd1]
  have q := Lh (M := M) [i0, i1, i2, i3, i4, i5] (gf.can y0 x1 r hr) (by simp [hne0, hne1, hne2, hne3, hne4, hne5, hne6, hne7, hne8, hne9, hne10, hne11, hne12, hne13, hne14]) rfl (ix (by simp [hM0, into]) (ix (by simp [hM1, into]) (ix (by simp [hM2]) (ix (by simp [hM3]) (ix (by simp [hM4]) (ix (by simp [hM5]) ixn))))))
  exact callOk_conv q trivial (by simp [into]; exact ox1) (by simp [frameOut, into]) (by simp [frameOut, into])
 ·cases h
end Go.Proofs

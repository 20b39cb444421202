import Derived.Test.YtoiieebljbhpbaaGreatDoorM03
import Derived.Test.YtoiieebljbhpbaaGreatDoorTy
import Derived.Test.YtoiieebljbhpbaaGreatDoorM04
import Derived.Test.YtoiieebljbhpbaaGreatDoorM19
import Derived.Test.YtoiieebljbhpbaaGreatDoorM15
set_option maxRecDepth 100000
set_option maxHeartbeats 4000000
namespace Go.Proofs
open Go.Ab
theorem libClone1.ok : qap Tryz.prog 47 (cloneS 1 4) := by
 intro l M out h;unfold cloneS at h;split at h
 ·rename_i els tok;cases h;refine callOk_nil ?_ ?_
  ·refine call_of_vc Tryz.mixed Tryz.tyOk qae (fun | 0 => [2] | 1 => [4] | 2 => [2] | 3 => [2] | _ => []) (fun _ => []) Tryz.func47 rfl (by kernel_rfl) rfl rfl (by simp) ?_;intro _ hbM hbA;simp [hbM]
  ·refine call_of_vc Tryz.mixed Tryz.tyOk qae (fun | 0 => [2] | 1 => [4] | 2 => [2] | 3 => [2] | _ => []) (fun _ => []) Tryz.func47 rfl (by kernel_rfl) rfl rfl (by simp) ?_;intro ho hbM hbA;simp at hbA ho;simp [hbA, hbM, ho, appL]
   try exact ho.1
 ·cases h
@[simp] def gaf.out  (r : Th) : Out := { av := .ptr 5 0, M := some [.mapo (qas (kI .i64) (vA Ta.enc) r.fd.fe), .blk [.mp 0, .lit (.int .i64 r.fd.fj)], .mapo (qas (vA Tc.enc) (vA Te.enc) r.fb), .mapo (qas (vA Tb.enc) (vA Tf.enc) r.fg), .mapo (qas (kI .u32) (vA Tg.enc) r.fh), .blk [.ptr 1 0, .mp 2, .mp 3, .mp 4]] }
theorem gaf.can  (r : Th) (hr : gaf = some r) : qao Tryz.prog 10 [] [] (gaf.out  r) := by
 unfold gaf at hr;have hΓ := (qab gaJ.ok (qae) : qbc Tryz.prog _);refine cw Tryz.func10 rfl (by kernel_rfl) rfl rfl (by simp) fun _ _ _ => ?_;refine tq hΓ [] [] ?_;obtain ⟨r1, h2, hr⟩ := Lb hr;refine tq hΓ [0] [] ?_ (by simp [h2]; exact rr);obtain rfl := La hr;exact AWp.ret (Ld (by simp))
@[simp] noncomputable def gaf.S : Sp
  | [], M => some { av := .ptr (M.length + 5) 0, M := some (M ++ [.mapo (qas (kI .i64) (vA Ta.enc) ((gaf.getD dflt).fd.fe)), .blk [.mp M.length, .lit (.int .i64 ((gaf.getD dflt).fd.fj))], .mapo (qas (vA Tc.enc) (vA Te.enc) ((gaf.getD dflt).fb)), .mapo (qas (vA Tb.enc) (vA Tf.enc) ((gaf.getD dflt).fg)), .mapo (qas (kI .u32) (vA Tg.enc) ((gaf.getD dflt).fh)), .blk [.ptr (M.length + 1) 0, .mp (M.length + 2), .mp (M.length + 3), .mp (M.length + 4)]]), obl := gaf.isSome = true }
  | _, _ => none
theorem gaf.ok : qap Tryz.prog 10 gaf.S := by
 intro l M out h;unfold gaf.S at h;split at h
 ·cases h;refine qad fun ho => ?_;have hs := ho;obtain ⟨r, hr⟩ := so1 hs;simp only [hr, gd1];have q := Lf (M := M) [] (gaf.can r hr) (by simp) rfl ixn;exact qac q trivial (by simp) (by simp [qaa, into]) (by simp [qaa, into])
 ·cases h
@[simp] noncomputable def gaQ.S : Sp
  | [.ptr i0 0, .agg e1], M => (rdB M i0).bind fun c0 => (rdP c0 0).bind fun i1 => (rdB M i1).bind fun c1 => (rdM c1 0).bind fun i2 => (rdE M i2).bind fun c2 => (rdM c0 1).bind fun i3 => (rdE M i3).bind fun c3 => (rdM c0 2).bind fun i4 => (rdE M i4).bind fun c4 => (rdM c0 3).bind fun i5 => (rdE M i5).bind fun c5 => (fun (y0 : Th) => (fun (r : Te × Bool) => some { av := .tup [.agg [.lit (.bool (r.1.fq)), .lit (.bool (r.1.fB)), .sl ((r.1.fa).map (eNum .u32)) .no], .lit (.bool (r.2))], M := none, obl := WeakL e1 (Tc.enc (Tc.dec e1)) ∧ c0 = Th.enc y0 i1 i3 i4 i5 ∧ c1 = Tp.enc (y0.fd) i2 ∧ c2 = qas (kI .i64) (vA Ta.enc) (y0.fd.fe) ∧ c3 = qas (vA Tc.enc) (vA Te.enc) (y0.fb) ∧ c4 = qas (vA Tb.enc) (vA Tf.enc) (y0.fg) ∧ c5 = qas (kI .u32) (vA Tg.enc) (y0.fh) ∧ (gaQ y0 (Tc.dec e1)).isSome = true ∧ i0 ≠ i1 ∧ i0 ≠ i2 ∧ i0 ≠ i3 ∧ i0 ≠ i4 ∧ i0 ≠ i5 ∧ i1 ≠ i2 ∧ i1 ≠ i3 ∧ i1 ≠ i4 ∧ i1 ≠ i5 ∧ i2 ≠ i3 ∧ i2 ≠ i4 ∧ i2 ≠ i5 ∧ i3 ≠ i4 ∧ i3 ≠ i5 ∧ i4 ≠ i5 }) ((gaQ y0 (Tc.dec e1)).getD dflt)) (Th.dec c0 (Tp.dec c1 (decM dkI (dvA Ta.dec) c2)) (decM (dvA Tc.dec) (dvA Te.dec) c3) (decM (dvA Tb.dec) (dvA Tf.dec) c4) (decM dkI (dvA Tg.dec) c5))
  | _, _ => none
@[simp] def gj.m (x0 : Th) : List qau := [.blk [.ptr 1 0, .mp 3, .mp 4, .mp 5], .blk [.mp 2, .lit (.int .i64 x0.fd.fj)], .mapo (qas (kI .i64) (vA Ta.enc) x0.fd.fe), .mapo (qas (vA Tc.enc) (vA Te.enc) x0.fb), .mapo (qas (vA Tb.enc) (vA Tf.enc) x0.fg), .mapo (qas (kI .u32) (vA Tg.enc) x0.fh)]
@[simp] def gj.out (_x0 : Th) (r : List Tb) : Out := { av := .sl (r.map Tb.enc) .no, M := none }
theorem gj.can (x0 : Th) (r : List Tb) (hr : gj x0 = some r) : qao Tryz.prog 16 [.ptr 0 0] (gj.m x0) (gj.out x0 r) := by
 unfold gj at hr;have hΓ := (qab libKeys.gMapsKeysMapAccessLinkAccessSubAccessLinkAccessSub.ok (qab libSorted.gSlicesSortedFuncAccessLink.ok (qae)) : qbc Tryz.prog _);refine cw Tryz.func16 rfl (by kernel_rfl) rfl rfl (by simp) fun _ _ _ => ?_;refine tq hΓ [] [] ?_;obtain ⟨h2, hr⟩ := Lg hr;refine tq hΓ [2] [0] ?_ (by simp [h2]; exact rr);obtain rfl := La hr;exact AWp.ret (Ld (by simp))
@[simp] noncomputable def gj.S : Sp
  | [.ptr i0 0], M => (rdB M i0).bind fun c0 => (rdP c0 0).bind fun i1 => (rdB M i1).bind fun c1 => (rdM c1 0).bind fun i2 => (rdE M i2).bind fun c2 => (rdM c0 1).bind fun i3 => (rdE M i3).bind fun c3 => (rdM c0 2).bind fun i4 => (rdE M i4).bind fun c4 => (rdM c0 3).bind fun i5 => (rdE M i5).bind fun c5 => (fun (y0 : Th) => some { av := .sl (((gj y0).getD dflt).map Tb.enc) .no, M := none, obl := c0 = Th.enc y0 i1 i3 i4 i5 ∧ c1 = Tp.enc (y0.fd) i2 ∧ c2 = qas (kI .i64) (vA Ta.enc) (y0.fd.fe) ∧ c3 = qas (vA Tc.enc) (vA Te.enc) (y0.fb) ∧ c4 = qas (vA Tb.enc) (vA Tf.enc) (y0.fg) ∧ c5 = qas (kI .u32) (vA Tg.enc) (y0.fh) ∧ (gj y0).isSome = true ∧ i0 ≠ i1 ∧ i0 ≠ i2 ∧ i0 ≠ i3 ∧ i0 ≠ i4 ∧ i0 ≠ i5 ∧ i1 ≠ i2 ∧ i1 ≠ i3 ∧ i1 ≠ i4 ∧ i1 ≠ i5 ∧ i2 ≠ i3 ∧ i2 ≠ i4 ∧ i2 ≠ i5 ∧ i3 ≠ i4 ∧ i3 ≠ i5 ∧ i4 ≠ i5 }) (Th.dec c0 (Tp.dec c1 (decM dkI (dvA Ta.dec) c2)) (decM (dvA Tc.dec) (dvA Te.dec) c3) (decM (dvA Tb.dec) (dvA Tf.dec) c4) (decM dkI (dvA Tg.dec) c5))
  | _, _ => none
theorem gj.ok : qap Tryz.prog 16 gj.S := by
 intro l M out h;unfold gj.S at h;split at h
 ·rename_i i0;obtain ⟨c0, hM0, h⟩ := bB h;obtain ⟨i1, he1, h⟩ := bP h;obtain ⟨c1, hM1, h⟩ := bB h;obtain ⟨i2, he2, h⟩ := bM h;obtain ⟨c2, hM2, h⟩ := bE h;obtain ⟨i3, he3, h⟩ := bM h;obtain ⟨c3, hM3, h⟩ := bE h;obtain ⟨i4, he4, h⟩ := bM h;obtain ⟨c4, hM4, h⟩ := bE h;obtain ⟨i5, he5, h⟩ := bM h;obtain ⟨c5, hM5, h⟩ := bE h
  try dsimp only at h
  cases h;refine qad fun ho => ?_;obtain ⟨oc0, oc1, oc2, oc3, oc4, oc5, hs, hne0, hne1, hne2, hne3, hne4, hne5, hne6, hne7, hne8, hne9, hne10, hne11, hne12, hne13, hne14⟩ := ho;generalize (Th.dec c0 (Tp.dec c1 (decM dkI (dvA Ta.dec) c2)) (decM (dvA Tc.dec) (dvA Te.dec) c3) (decM (dvA Tb.dec) (dvA Tf.dec) c4) (decM dkI (dvA Tg.dec) c5)) = y0 at *
  subst oc0;subst oc1;subst oc2;subst oc3;subst oc4;subst oc5;obtain ⟨r, hr⟩ := so1 hs;simp only [hr, gd1];have q := Lf (M := M) [i0, i1, i2, i3, i4, i5] (gj.can y0 r hr) (by simp [hne0, hne1, hne2, hne3, hne4, hne5, hne6, hne7, hne8, hne9, hne10, hne11, hne12, hne13, hne14]) rfl (ix (by simp [hM0, into]) (ix (by simp [hM1, into]) (ix (by simp [hM2]) (ix (by simp [hM3]) (ix (by simp [hM4]) (ix (by simp [hM5]) ixn))))));exact qac q trivial (by simp [into]) (by simp [qaa, into]) (by simp only [qaa, gj.out, Option.getD_some, Option.getD_none]; simp [into, hM0, hM1, hM2, hM3, hM4, hM5, set_same])
 ·cases h
@[simp] def gh.m (x0 : Th) (_x1 : Tc) : List qau := [.blk [.ptr 1 0, .mp 3, .mp 4, .mp 5], .blk [.mp 2, .lit (.int .i64 x0.fd.fj)], .mapo (qas (kI .i64) (vA Ta.enc) x0.fd.fe), .mapo (qas (vA Tc.enc) (vA Te.enc) x0.fb), .mapo (qas (vA Tb.enc) (vA Tf.enc) x0.fg), .mapo (qas (kI .u32) (vA Tg.enc) x0.fh)]
@[simp] def gh.out (_x0 : Th) (_x1 : Tc) (r : List Int) : Out := { av := .sl (r.map (eNum .i64)) .no, M := none }
def gh.fin (x0 : Th) (x1 : Tc) (r : List Int) (σ : St) : Prop := finK (gh.out x0 x1 r) (gh.m x0 x1) σ.M (resA Tryz.ty σ.A σ.M Tryz.f13.results.toList)
theorem gh.can (x0 : Th) (x1 : Tc) (r : List Int) (hr : gh x0 x1 = some r) : qao Tryz.prog 13 [.ptr 0 0, .agg [.lit (.int .i64 x1.fc), .lit (.int .i64 x1.ff)]] (gh.m x0 x1) (gh.out x0 x1 r) := by
 unfold gh at hr;have hΓ := (qab gj.ok (qae) : qbc Tryz.prog _);refine cw Tryz.func13 rfl (by kernel_rfl) rfl rfl (by simp) fun _ _ _ => ?_;refine tq hΓ [3] [1] ?_;refine tq hΓ [5] [] ?_;refine AWp.seq ?_;obtain ⟨r1, h6, hr⟩ := Lb hr;refine tq hΓ [9, 10, 11] [0] ?_ (by simp [h6]; exact rr);refine AWp.equip 5 1 (els := []) (by simp) (by simp) ?_;refine AWp.loopE (fun (s1 : Int × List Int) (γ1 : Nat) => ⟨[⟨9, none, .sl (r1.map Tb.enc) .no⟩, ⟨10, none, .n (qat r1)⟩, ⟨11, none, .n s1.1⟩, ⟨5, none, .sl (s1.2.map (eNum .i64)) (.own 7 (γ1) 1)⟩, ⟨3, none, .ptr 6 0⟩], [.blk [.ptr 1 0, .mp 3, .mp 4, .mp 5], .blk [.mp 2, .n x0.fd.fj], .mapo (qas (kI .i64) (vA Ta.enc) x0.fd.fe), .mapo (qas (vA Tc.enc) (vA Te.enc) x0.fb), .mapo (qas (vA Tb.enc) (vA Tf.enc) x0.fg), .mapo (qas (kI .u32) (vA Tg.enc) x0.fh), .blk x1.enc, .room (γ1)]⟩) (fun (v1 : List Int) (γ1a : Nat) => ⟨[⟨5, none, .sl (v1.map (eNum .i64)) (.own 7 (γ1a) 1)⟩], [.blk [.ptr 1 0, .mp 3, .mp 4, .mp 5], .blk [.mp 2, .n x0.fd.fj], .mapo (qas (kI .i64) (vA Ta.enc) x0.fd.fe), .mapo (qas (vA Tc.enc) (vA Te.enc) x0.fb), .mapo (qas (vA Tb.enc) (vA Tf.enc) x0.fg), .mapo (qas (kI .u32) (vA Tg.enc) x0.fh), .blk x1.enc, .room (γ1a)]⟩) (gh.fin x0 x1) hr 0 8 (by simp) (fun s1 f γ1 hr => ?_) (fun v1 γ1a σ1 m1 hr hc => ?_) (fun _ h => h)
 ·unfold gh.loop1 at hr;refine tq hΓ [12] [] ?_ (by simp; exact rr);refine AWp.seq ?_;refine AWp.cnd hr (by simp) (fun h7 hr => ?_) (fun h7 hr => ?_)
  ·refine AWp.skip ?_;refine AWp.seq ?_;refine AWp.block ?_;obtain ⟨h8, hr⟩ := Lg hr;refine tq hΓ [7] [12] ?_ (by simp [h7, h8]; exact rr);refine tq hΓ [18] [] ?_ (by simp; exact rr);refine AWp.cnd hr (by simp) (fun h9 hr => ?_) (fun h9 hr => ?_)
   ·obtain ⟨h10, hr⟩ := Lg hr;refine tl hΓ [5] [18, 7] ?_ (by simp [h9, h10]; exact rr);refine tl hΓ [11] [] ?_ (by simp; exact rr);obtain rfl := La hr;exact Lq (γ1 + 1) 8 (by first | (simp; done) | simp [h6, h7, h8, h9, h10])
   ·refine AWp.skip ?_;refine tl hΓ [11] [18, 7] ?_ (by simp [h9]; exact rr);obtain rfl := La hr;exact Lq (γ1) 8 (by first | (simp; done) | simp [h6, h7, h8, h9])
  ·refine AWp.exit ?_;obtain rfl := La hr;exact Ln (γ1) 8 (by first | (simp; done) | simp [h6, h7])
 ·refine AWp.conv hc ?_;refine tq hΓ [4] [5] ?_ (by simp; exact rr);obtain rfl := La hr;exact AWp.ret (Ld (by simp))
@[simp] noncomputable def gh.S : Sp
  | [.ptr i0 0, .agg e1], M => (rdB M i0).bind fun c0 => (rdP c0 0).bind fun i1 => (rdB M i1).bind fun c1 => (rdM c1 0).bind fun i2 => (rdE M i2).bind fun c2 => (rdM c0 1).bind fun i3 => (rdE M i3).bind fun c3 => (rdM c0 2).bind fun i4 => (rdE M i4).bind fun c4 => (rdM c0 3).bind fun i5 => (rdE M i5).bind fun c5 => (fun (y0 : Th) => some { av := .sl (((gh y0 (Tc.dec e1)).getD dflt).map (eNum .i64)) .no, M := none, obl := WeakL e1 (Tc.enc (Tc.dec e1)) ∧ c0 = Th.enc y0 i1 i3 i4 i5 ∧ c1 = Tp.enc (y0.fd) i2 ∧ c2 = qas (kI .i64) (vA Ta.enc) (y0.fd.fe) ∧ c3 = qas (vA Tc.enc) (vA Te.enc) (y0.fb) ∧ c4 = qas (vA Tb.enc) (vA Tf.enc) (y0.fg) ∧ c5 = qas (kI .u32) (vA Tg.enc) (y0.fh) ∧ (gh y0 (Tc.dec e1)).isSome = true ∧ i0 ≠ i1 ∧ i0 ≠ i2 ∧ i0 ≠ i3 ∧ i0 ≠ i4 ∧ i0 ≠ i5 ∧ i1 ≠ i2 ∧ i1 ≠ i3 ∧ i1 ≠ i4 ∧ i1 ≠ i5 ∧ i2 ≠ i3 ∧ i2 ≠ i4 ∧ i2 ≠ i5 ∧ i3 ≠ i4 ∧ i3 ≠ i5 ∧ i4 ≠ i5 }) (Th.dec c0 (Tp.dec c1 (decM dkI (dvA Ta.dec) c2)) (decM (dvA Tc.dec) (dvA Te.dec) c3) (decM (dvA Tb.dec) (dvA Tf.dec) c4) (decM dkI (dvA Tg.dec) c5))
  | _, _ => none
theorem gh.ok : qap Tryz.prog 13 gh.S := by
 intro l M out h;unfold gh.S at h;split at h
 ·rename_i i0 e1;obtain ⟨c0, hM0, h⟩ := bB h;obtain ⟨i1, he1, h⟩ := bP h;obtain ⟨c1, hM1, h⟩ := bB h;obtain ⟨i2, he2, h⟩ := bM h;obtain ⟨c2, hM2, h⟩ := bE h;obtain ⟨i3, he3, h⟩ := bM h;obtain ⟨c3, hM3, h⟩ := bE h;obtain ⟨i4, he4, h⟩ := bM h;obtain ⟨c4, hM4, h⟩ := bE h;obtain ⟨i5, he5, h⟩ := bM h;obtain ⟨c5, hM5, h⟩ := bE h
  try dsimp only at h
  cases h;refine qad fun ho => ?_;obtain ⟨ox1, oc0, oc1, oc2, oc3, oc4, oc5, hs, hne0, hne1, hne2, hne3, hne4, hne5, hne6, hne7, hne8, hne9, hne10, hne11, hne12, hne13, hne14⟩ := ho;generalize (Th.dec c0 (Tp.dec c1 (decM dkI (dvA Ta.dec) c2)) (decM (dvA Tc.dec) (dvA Te.dec) c3) (decM (dvA Tb.dec) (dvA Tf.dec) c4) (decM dkI (dvA Tg.dec) c5)) = y0 at *
  generalize (Tc.dec e1) = x1 at *
  subst oc0;subst oc1;subst oc2;subst oc3;subst oc4;subst oc5;obtain ⟨r, hr⟩ := so1 hs;simp only [hr, gd1];have q := Lf (M := M) [i0, i1, i2, i3, i4, i5] (gh.can y0 x1 r hr) (by simp [hne0, hne1, hne2, hne3, hne4, hne5, hne6, hne7, hne8, hne9, hne10, hne11, hne12, hne13, hne14]) rfl (ix (by simp [hM0, into]) (ix (by simp [hM1, into]) (ix (by simp [hM2]) (ix (by simp [hM3]) (ix (by simp [hM4]) (ix (by simp [hM5]) ixn))))));exact qac q trivial (by simp [into]; exact ox1) (by simp [qaa, into]) (by simp only [qaa, gh.out, Option.getD_some, Option.getD_none]; simp [into, hM0, hM1, hM2, hM3, hM4, hM5, set_same])
 ·cases h
end Go.Proofs

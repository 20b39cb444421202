/- That these functions compute what their plain functions do. No condition. -/
import Derived.Test.YtoiieebljbhpbaaGreatDoorM06
import Derived.Test.YtoiieebljbhpbaaGreatDoorTy
import Derived.Test.YtoiieebljbhpbaaGreatDoorNa
import Derived.Test.YtoiieebljbhpbaaGreatDoorM10
set_option maxRecDepth 100000
set_option maxHeartbeats 4000000
namespace Go.Proofs
open Go.Ab
@[simp] def gao.out  (r : Tj) : Out := { av := .ptr 1 0, M := some [.mapo (encM (kI .i64) (vA Ta.enc) r.fe), .blk [.mp 0, .lit (.int .i64 r.fj)]] }
theorem gao.can  (r : Tj) (hr : gao = some r) : CallOk Tryz.prog 32 [] [] (gao.out  r) := by
 unfold gao at hr
 have hΓ := gamL_nil (P := Tryz.prog)
 refine cw Tryz.func32 rfl (by kernel_rfl) rfl rfl (by simp) fun _ _ _ => ?_
 refine tq hΓ [] [] ?_
 refine tq hΓ [0] [] ?_
 obtain rfl := La hr
 exact AWp.ret (Le (by simp))

@[simp] noncomputable def gao.S : Sp
  | [], M => some { av := .ptr (M.length + 1) 0, M := some (M ++ [.mapo (encM (kI .i64) (vA Ta.enc) ((gao.getD dflt).fe)), .blk [.mp M.length, .lit (.int .i64 ((gao.getD dflt).fj))]]), obl := gao.isSome = true }
  | _, _ => none

theorem gao.ok : SpecOk Tryz.prog 32 gao.S := by
 intro l M out h
 unfold gao.S at h
 split at h
 ·cases h
  refine callOk_of fun ho => ?_
  have hs := ho
  obtain ⟨r, hr⟩ := so1 hs
  simp only [hr, gd1]
  have q := Lh (M := M) [] (gao.can r hr) (by simp) rfl ixn
  exact callOk_conv q trivial (by simp) (by simp [frameOut, into]) (by simp [frameOut, into])
 ·cases h

@[simp] def gI.m (x0 : Tj) : List AObj := [.blk [.mp 1, .lit (.int .i64 x0.fj)], .mapo (encM (kI .i64) (vA Ta.enc) x0.fe)]
@[simp] def gI.out (_x0 : Tj) (r : Int) : Out := { av := .lit (.int .i64 r), M := none }
theorem gI.can (x0 : Tj) (r : Int) (hr : gI x0 = some r) : CallOk Tryz.prog 22 [.ptr 0 0] (gI.m x0) (gI.out x0 r) := by
 unfold gI at hr
 have hΓ := gamL_nil (P := Tryz.prog)
 refine cw Tryz.func22 rfl (by kernel_rfl) rfl rfl (by simp) fun _ _ _ => ?_
 refine tq hΓ [] [] ?_
 refine tq hΓ [2] [0] ?_
 obtain rfl := La hr
 exact AWp.ret (Le (by simp))

@[simp] noncomputable def gI.S : Sp
  | [.ptr i0 0], M => (rdB M i0).bind fun c0 => (rdM c0 0).bind fun i1 => (rdE M i1).bind fun c1 => some { av := .lit (.int .i64 ((gI (Tj.dec c0 (decM dkI (dvA Ta.dec) c1))).getD dflt)), M := none, obl := c0 = Tj.enc (Tj.dec c0 (decM dkI (dvA Ta.dec) c1)) i1 ∧ c1 = encM (kI .i64) (vA Ta.enc) ((Tj.dec c0 (decM dkI (dvA Ta.dec) c1)).fe) ∧ (gI (Tj.dec c0 (decM dkI (dvA Ta.dec) c1))).isSome = true ∧ i0 ≠ i1 }
  | _, _ => none

theorem gI.ok : SpecOk Tryz.prog 22 gI.S := by
 intro l M out h
 unfold gI.S at h
 split at h
 ·rename_i i0
  obtain ⟨c0, hM0, h⟩ := bB h
  obtain ⟨i1, he1, h⟩ := bM h
  obtain ⟨c1, hM1, h⟩ := bE h
  cases h
  refine callOk_of fun ho => ?_
  obtain ⟨oc0, oc1, hs, hne0⟩ := ho
  generalize (Tj.dec c0 (decM dkI (dvA Ta.dec) c1)) = y0 at *
  subst oc0
  subst oc1
  obtain ⟨r, hr⟩ := so1 hs
  simp only [hr, gd1]
  have q := Lh (M := M) [i0, i1] (gI.can y0 r hr) (by simp [hne0]) rfl (ix (by simp [hM0, into]) (ix (by simp [hM1]) ixn))
  exact callOk_conv q trivial (by simp [into]) (by simp [frameOut, into]) (by simp only [frameOut, gI.out, Option.getD_some, Option.getD_none]; simp [into, hM0, hM1, set_same])
 ·cases h

@[simp] def gP.m (x0 : Tj) (_x1 : Int) : List AObj := [.blk [.mp 1, .lit (.int .i64 x0.fj)], .mapo (encM (kI .i64) (vA Ta.enc) x0.fe)]
@[simp] def gP.out (_x0 : Tj) (_x1 : Int) (r : Ta × Bool) : Out := { av := .tup [.agg [.lit (.int .i64 r.1.fN), .lit (.string r.1.fp), .lit (.string r.1.fm)], .lit (.bool r.2)], M := none }
theorem gP.can (x0 : Tj) (x1 : Int) (r : Ta × Bool) (hr : gP x0 x1 = some r) : CallOk Tryz.prog 15 [.ptr 0 0, .lit (.int .i64 x1)] (gP.m x0 x1) (gP.out x0 x1 r) := by
 unfold gP at hr
 have hΓ := gamL_nil (P := Tryz.prog)
 refine cw Tryz.func15 rfl (by kernel_rfl) rfl rfl (by simp) fun _ _ _ => ?_
 refine tq hΓ [4] [] ?_
 refine tq hΓ [6, 7] [0, 1] ?_
 refine tq hΓ [5] [6, 7] ?_
 obtain rfl := La hr
 exact AWp.ret (Le (by simp))

@[simp] noncomputable def gP.S : Sp
  | [.ptr i0 0, .lit (.int .i64 x1)], M => (rdB M i0).bind fun c0 => (rdM c0 0).bind fun i1 => (rdE M i1).bind fun c1 => (fun (y0 : Tj) => (fun (r : Ta × Bool) => some { av := .tup [.agg [.lit (.int .i64 (r.1.fN)), .lit (.string (r.1.fp)), .lit (.string (r.1.fm))], .lit (.bool (r.2))], M := none, obl := c0 = Tj.enc y0 i1 ∧ c1 = encM (kI .i64) (vA Ta.enc) (y0.fe) ∧ (gP y0 x1).isSome = true ∧ i0 ≠ i1 }) ((gP y0 x1).getD dflt)) (Tj.dec c0 (decM dkI (dvA Ta.dec) c1))
  | _, _ => none

theorem gP.ok : SpecOk Tryz.prog 15 gP.S := by
 intro l M out h
 unfold gP.S at h
 split at h
 ·rename_i i0 x1
  obtain ⟨c0, hM0, h⟩ := bB h
  obtain ⟨i1, he1, h⟩ := bM h
  obtain ⟨c1, hM1, h⟩ := bE h
  try dsimp only at h
  cases h
  refine callOk_of fun ho => ?_
  obtain ⟨oc0, oc1, hs, hne0⟩ := ho
  generalize (Tj.dec c0 (decM dkI (dvA Ta.dec) c1)) = y0 at *
  subst oc0
  subst oc1
  obtain ⟨r, hr⟩ := so1 hs
  simp only [hr, gd1]
  have q := Lh (M := M) [i0, i1] (gP.can y0 x1 r hr) (by simp [hne0]) rfl (ix (by simp [hM0, into]) (ix (by simp [hM1]) ixn))
  exact callOk_conv q trivial (by simp [into]) (by simp [frameOut, into]) (by simp only [frameOut, gP.out, Option.getD_some, Option.getD_none]; simp [into, hM0, hM1, set_same])
 ·cases h

@[simp] def gF.m (x0 : Tj) (_x1 : ByteArray) : List AObj := [.blk [.mp 1, .lit (.int .i64 x0.fj)], .mapo (encM (kI .i64) (vA Ta.enc) x0.fe)]
@[simp] def gF.out (_x0 : Tj) (_x1 : ByteArray) (r : List Ta) : Out := { av := .sl (r.map Ta.enc) .no, M := none }
def gF.fin (x0 : Tj) (x1 : ByteArray) (r : List Ta) (σ : St) : Prop := finK (gF.out x0 x1 r) (gF.m x0 x1) σ.M (resA Tryz.ty σ.A σ.M Tryz.f81.results.toList)
theorem gF.can (x0 : Tj) (x1 : ByteArray) (r : List Ta) (hr : gF x0 x1 = some r) : CallOk Tryz.prog 81 [.ptr 0 0, .lit (.string x1)] (gF.m x0 x1) (gF.out x0 x1 r) := by
 unfold gF at hr
 have hΓ := (gamL_cons gW.ok (gamL_cons libKeys.gMapsKeysMapIntRoomPeerIntRoomPeer.ok (gamL_cons libSorted.gSortedMapIntRoomPeerIntRoomPeer1.ok (gamL_nil))) : GamOk Tryz.prog _)
 refine cw Tryz.func81 rfl (by kernel_rfl) rfl rfl (by simp) fun _ _ _ => ?_
 refine tq hΓ [] [] ?_
 refine tq hΓ [5] [] ?_
 refine AWp.seq ?_
 obtain ⟨h7, hr⟩ := Lg hr
 refine tq hΓ [14, 15, 16] [] ?_ (by simp [h7]; exact rr)
 refine AWp.equip 5 3 (els := []) (by simp) (by simp) ?_
 refine AWp.loopE (fun (s1 : Int × List Ta) (γ1 : Nat) => ⟨[⟨14, none, .sl ((sortL (keysM x0.fe)).map (eNum .i64)) .no⟩, ⟨15, none, .n (lenL (sortL (keysM x0.fe)))⟩, ⟨16, none, .n s1.1⟩, ⟨5, none, .sl (s1.2.map Ta.enc) (.own 2 (γ1) 3)⟩, ⟨0, none, .ptr 0 0⟩, ⟨1, none, .s x1⟩], [.blk [.mp 1, .n x0.fj], .mapo (encM (kI .i64) (vA Ta.enc) x0.fe), .room (γ1)]⟩) (fun (v1 : List Ta) (γ1a : Nat) => ⟨[⟨5, none, .sl (v1.map Ta.enc) (.own 2 (γ1a) 3)⟩], [.blk [.mp 1, .n x0.fj], .mapo (encM (kI .i64) (vA Ta.enc) x0.fe), .room (γ1a)]⟩) (gF.fin x0 x1) hr 0 3 (by simp) (fun s1 f γ1 hr => ?_) (fun v1 γ1a σ1 m1 hr hc => ?_) (fun _ h => h)
 ·unfold gF.loop1 at hr
  refine tq hΓ [17] [] ?_ (by simp; exact rr)
  refine AWp.seq ?_
  refine AWp.cnd hr (by simp) (fun h8 hr => ?_) (fun h8 hr => ?_)
  ·refine AWp.skip ?_
   refine AWp.seq ?_
   refine AWp.block ?_
   obtain ⟨h9, hr⟩ := Lg hr
   refine tq hΓ [7] [17] ?_ (by simp [h8, h9]; exact rr)
   refine tq hΓ [8] [7] ?_ (by simp; exact rr)
   obtain ⟨r1, h10, hr⟩ := Ld hr
   refine tq hΓ [29] [] ?_ (by simp [h10]; exact rr)
   refine AWp.cnd hr (by simp) (fun h11 hr => ?_) (fun h11 hr => ?_)
   ·obtain ⟨h12, hr⟩ := Lg hr
    refine tl hΓ [5] [29, 8] ?_ (by simp [h11, h12]; exact rr)
    refine tl hΓ [16] [] ?_ (by simp; exact rr)
    obtain rfl := La hr
    exact Lq (γ1 + 1) 3 (by first | (simp; done) | simp [h7, h8, h9, h10, h11, h12])
   ·refine AWp.skip ?_
    refine tl hΓ [16] [29, 8] ?_ (by simp [h11]; exact rr)
    obtain rfl := La hr
    exact Lq (γ1) 3 (by first | (simp; done) | simp [h7, h8, h9, h10, h11])
  ·refine AWp.exit ?_
   obtain rfl := La hr
   exact Lo (γ1) 3 (by first | (simp; done) | simp [h7, h8])
 ·refine AWp.conv hc ?_
  refine tq hΓ [4] [5] ?_ (by simp; exact rr)
  obtain rfl := La hr
  exact AWp.ret (Le (by simp))

@[simp] noncomputable def gF.S : Sp
  | [.ptr i0 0, .lit (.string x1)], M => (rdB M i0).bind fun c0 => (rdM c0 0).bind fun i1 => (rdE M i1).bind fun c1 => some { av := .sl (((gF (Tj.dec c0 (decM dkI (dvA Ta.dec) c1)) x1).getD dflt).map Ta.enc) .no, M := none, obl := c0 = Tj.enc (Tj.dec c0 (decM dkI (dvA Ta.dec) c1)) i1 ∧ c1 = encM (kI .i64) (vA Ta.enc) ((Tj.dec c0 (decM dkI (dvA Ta.dec) c1)).fe) ∧ (gF (Tj.dec c0 (decM dkI (dvA Ta.dec) c1)) x1).isSome = true ∧ i0 ≠ i1 }
  | _, _ => none

theorem gF.ok : SpecOk Tryz.prog 81 gF.S := by
 intro l M out h
 unfold gF.S at h
 split at h
 ·rename_i i0 x1
  obtain ⟨c0, hM0, h⟩ := bB h
  obtain ⟨i1, he1, h⟩ := bM h
  obtain ⟨c1, hM1, h⟩ := bE h
  cases h
  refine callOk_of fun ho => ?_
  obtain ⟨oc0, oc1, hs, hne0⟩ := ho
  generalize (Tj.dec c0 (decM dkI (dvA Ta.dec) c1)) = y0 at *
  subst oc0
  subst oc1
  obtain ⟨r, hr⟩ := so1 hs
  simp only [hr, gd1]
  have q := Lh (M := M) [i0, i1] (gF.can y0 x1 r hr) (by simp [hne0]) rfl (ix (by simp [hM0, into]) (ix (by simp [hM1]) ixn))
  exact callOk_conv q trivial (by simp [into]) (by simp [frameOut, into]) (by simp only [frameOut, gF.out, Option.getD_some, Option.getD_none]; simp [into, hM0, hM1, set_same])
 ·cases h

@[simp] def gR.m (x0 : Tj) (_x1 : Int) : List AObj := [.blk [.mp 1, .lit (.int .i64 x0.fj)], .mapo (encM (kI .i64) (vA Ta.enc) x0.fe)]
@[simp] def gR.out (_x0 : Tj) (_x1 : Int) (r : Int × Tj) : Out := { av := .lit (.int .i64 r.1), M := some [.blk [.mp 1, .lit (.int .i64 r.2.fj)], .mapo (encM (kI .i64) (vA Ta.enc) r.2.fe)] }
theorem gR.can (x0 : Tj) (x1 : Int) (r : Int × Tj) (hr : gR x0 x1 = some r) : CallOk Tryz.prog 85 [.ptr 0 0, .lit (.int .i64 x1)] (gR.m x0 x1) (gR.out x0 x1 r) := by
 unfold gR at hr
 have hΓ := gamL_nil (P := Tryz.prog)
 refine cw Tryz.func85 rfl (by kernel_rfl) rfl rfl (by simp) fun _ _ _ => ?_
 refine tq hΓ [] [] ?_
 refine AWp.seq ?_
 refine tq hΓ [6] [] ?_
 refine tq hΓ [17] [6] ?_
 refine AWp.cnd hr (by simp) (fun h2 hr => ?_) (fun h2 hr => ?_)
 ·refine tq hΓ [4] [17, 0, 1] ?_ (by simp [h2]; exact rr)
  obtain rfl := La hr
  exact AWp.ret (Le (by simp))
 ·refine AWp.skip ?_
  refine tq hΓ [] [17, 0, 1] ?_ (by simp [h2]; exact rr)
  refine tq hΓ [4] [] ?_ (by simp; exact rr)
  obtain rfl := La hr
  exact AWp.ret (Le (by simp))

@[simp] noncomputable def gR.S : Sp
  | [.ptr i0 0, .lit (.int .i64 x1)], M => (rdB M i0).bind fun c0 => (rdM c0 0).bind fun i1 => (rdE M i1).bind fun c1 => (fun (y0 : Tj) => (fun (r : Int × Tj) => some { av := .lit (.int .i64 (r.1)), M := some ((M.set i0 (.blk [.mp i1, .lit (.int .i64 (r.2.fj))])).set i1 (.mapo (encM (kI .i64) (vA Ta.enc) (r.2.fe)))), obl := c0 = Tj.enc y0 i1 ∧ c1 = encM (kI .i64) (vA Ta.enc) (y0.fe) ∧ (gR y0 x1).isSome = true ∧ i0 ≠ i1 }) ((gR y0 x1).getD dflt)) (Tj.dec c0 (decM dkI (dvA Ta.dec) c1))
  | _, _ => none

theorem gR.ok : SpecOk Tryz.prog 85 gR.S := by
 intro l M out h
 unfold gR.S at h
 split at h
 ·rename_i i0 x1
  obtain ⟨c0, hM0, h⟩ := bB h
  obtain ⟨i1, he1, h⟩ := bM h
  obtain ⟨c1, hM1, h⟩ := bE h
  try dsimp only at h
  cases h
  refine callOk_of fun ho => ?_
  obtain ⟨oc0, oc1, hs, hne0⟩ := ho
  generalize (Tj.dec c0 (decM dkI (dvA Ta.dec) c1)) = y0 at *
  subst oc0
  subst oc1
  obtain ⟨r, hr⟩ := so1 hs
  simp only [hr, gd1]
  have q := Lh (M := M) [i0, i1] (gR.can y0 x1 r hr) (by simp [hne0]) rfl (ix (by simp [hM0, into]) (ix (by simp [hM1]) ixn))
  exact callOk_conv q trivial (by simp [into]) (by simp [frameOut, into]) (by simp [frameOut, into])
 ·cases h

@[simp] def gw.m (x0 : Tj) (_x1 : Int) (_x2 : Int) : List AObj := [.blk [.mp 1, .lit (.int .i64 x0.fj)], .mapo (encM (kI .i64) (vA Ta.enc) x0.fe)]
@[simp] def gw.out (_x0 : Tj) (_x1 : Int) (_x2 : Int) (r : Bool) : Out := { av := .lit (.bool r), M := none }
theorem gw.can (x0 : Tj) (x1 : Int) (x2 : Int) (r : Bool) (hr : gw x0 x1 x2 = some r) : CallOk Tryz.prog 14 [.ptr 0 0, .lit (.int .i64 x1), .lit (.int .i64 x2)] (gw.m x0 x1 x2) (gw.out x0 x1 x2 r) := by
 unfold gw at hr
 have hΓ := (gamL_cons gW.ok (gamL_nil) : GamOk Tryz.prog _)
 refine cw Tryz.func14 rfl (by kernel_rfl) rfl rfl (by simp) fun _ _ _ => ?_
 refine tq hΓ [] [] ?_
 refine tq hΓ [7, 8] [] ?_
 refine tq hΓ [9, 10] [0] ?_
 obtain ⟨h2, hr⟩ := Lg hr
 refine tq hΓ [6] [9, 10, 7, 8, 1, 2] ?_ (by simp [h2]; exact rr)
 obtain rfl := La hr
 exact AWp.ret (Le (by simp))

@[simp] noncomputable def gw.S : Sp
  | [.ptr i0 0, .lit (.int .i64 x1), .lit (.int .i64 x2)], M => (rdB M i0).bind fun c0 => (rdM c0 0).bind fun i1 => (rdE M i1).bind fun c1 => some { av := .lit (.bool ((gw (Tj.dec c0 (decM dkI (dvA Ta.dec) c1)) x1 x2).getD dflt)), M := none, obl := c0 = Tj.enc (Tj.dec c0 (decM dkI (dvA Ta.dec) c1)) i1 ∧ c1 = encM (kI .i64) (vA Ta.enc) ((Tj.dec c0 (decM dkI (dvA Ta.dec) c1)).fe) ∧ (gw (Tj.dec c0 (decM dkI (dvA Ta.dec) c1)) x1 x2).isSome = true ∧ i0 ≠ i1 }
  | _, _ => none

theorem gw.ok : SpecOk Tryz.prog 14 gw.S := by
 intro l M out h
 unfold gw.S at h
 split at h
 ·rename_i i0 x1 x2
  obtain ⟨c0, hM0, h⟩ := bB h
  obtain ⟨i1, he1, h⟩ := bM h
  obtain ⟨c1, hM1, h⟩ := bE h
  cases h
  refine callOk_of fun ho => ?_
  obtain ⟨oc0, oc1, hs, hne0⟩ := ho
  generalize (Tj.dec c0 (decM dkI (dvA Ta.dec) c1)) = y0 at *
  subst oc0
  subst oc1
  obtain ⟨r, hr⟩ := so1 hs
  simp only [hr, gd1]
  have q := Lh (M := M) [i0, i1] (gw.can y0 x1 x2 r hr) (by simp [hne0]) rfl (ix (by simp [hM0, into]) (ix (by simp [hM1]) ixn))
  exact callOk_conv q trivial (by simp [into]) (by simp [frameOut, into]) (by simp only [frameOut, gw.out, Option.getD_some, Option.getD_none]; simp [into, hM0, hM1, set_same])
 ·cases h
end Go.Proofs

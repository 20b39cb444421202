import Derived.Test.YtoiieebljbhpbaaGreatDoorM08
import Derived.Test.YtoiieebljbhpbaaGreatDoorTy
import Derived.Test.YtoiieebljbhpbaaGreatDoorM19
import Derived.Test.YtoiieebljbhpbaaGreatDoorM15
set_option maxRecDepth 100000
set_option maxHeartbeats 4000000
namespace Go.Proofs
open Go.Ab
@[simp] def gaF.out  (r : Tq) : Out := { av := .ptr 1 0, M := some [.mapo (encM (kI .i64) (vA Ta.enc) r.fg), .blk [.mp 0, .lit (.int .i64 r.fh)]] }
theorem gaF.can  (r : Tq) (hr : gaF = some r) : CallOk Tryz.prog 32 [] [] (gaF.out  r) := by
 unfold gaF at hr;have hΓ := gamL_nil (P := Tryz.prog);refine cw Tryz.func32 rfl (by kernel_rfl) rfl rfl (by simp) fun _ _ _ => ?_;refine tq hΓ [] [] ?_;refine tq hΓ [0] [] ?_;obtain rfl := La hr;exact AWp.ret (Lb (by simp))
@[simp] noncomputable def gaF.S : Sp
  | [], M => some { av := .ptr (M.length + 1) 0, M := some (M ++ [.mapo (encM (kI .i64) (vA Ta.enc) ((gaF.getD dflt).fg)), .blk [.mp M.length, .lit (.int .i64 ((gaF.getD dflt).fh))]]), obl := gaF.isSome = true }
  | _, _ => none
theorem gaF.ok : SpecOk Tryz.prog 32 gaF.S := by
 intro l M out h;unfold gaF.S at h;split at h
 ·cases h;refine callOk_of fun ho => ?_;have hs := ho;obtain ⟨r, hr⟩ := so1 hs;simp only [hr, gd1];have q := Lf (M := M) [] (gaF.can r hr) (by simp) rfl ixn;exact callOk_conv q trivial (by simp) (by simp [frameOut, into]) (by simp [frameOut, into])
 ·cases h
@[simp] def gZ.m (x0 : Tq) : List AObj := [.blk [.mp 1, .lit (.int .i64 x0.fh)], .mapo (encM (kI .i64) (vA Ta.enc) x0.fg)]
@[simp] def gZ.out (_x0 : Tq) (r : Int) : Out := { av := .lit (.int .i64 r), M := none }
theorem gZ.can (x0 : Tq) (r : Int) (hr : gZ x0 = some r) : CallOk Tryz.prog 22 [.ptr 0 0] (gZ.m x0) (gZ.out x0 r) := by
 unfold gZ at hr;have hΓ := gamL_nil (P := Tryz.prog);refine cw Tryz.func22 rfl (by kernel_rfl) rfl rfl (by simp) fun _ _ _ => ?_;refine tq hΓ [] [] ?_;refine tq hΓ [2] [0] ?_;obtain rfl := La hr;exact AWp.ret (Lb (by simp))
@[simp] noncomputable def gZ.S : Sp
  | [.ptr i0 0], M => (rdB M i0).bind fun c0 => (rdM c0 0).bind fun i1 => (rdE M i1).bind fun c1 => some { av := .lit (.int .i64 ((gZ (Tq.dec c0 (decM dkI (dvA Ta.dec) c1))).getD dflt)), M := none, obl := c0 = Tq.enc (Tq.dec c0 (decM dkI (dvA Ta.dec) c1)) i1 ∧ c1 = encM (kI .i64) (vA Ta.enc) ((Tq.dec c0 (decM dkI (dvA Ta.dec) c1)).fg) ∧ (gZ (Tq.dec c0 (decM dkI (dvA Ta.dec) c1))).isSome = true ∧ i0 ≠ i1 }
  | _, _ => none
theorem gZ.ok : SpecOk Tryz.prog 22 gZ.S := by
 intro l M out h;unfold gZ.S at h;split at h
 ·rename_i i0;obtain ⟨c0, hM0, h⟩ := bB h;obtain ⟨i1, he1, h⟩ := bM h;obtain ⟨c1, hM1, h⟩ := bE h;cases h;refine callOk_of fun ho => ?_;obtain ⟨oc0, oc1, hs, hne0⟩ := ho;generalize (Tq.dec c0 (decM dkI (dvA Ta.dec) c1)) = y0 at *
  subst oc0;subst oc1;obtain ⟨r, hr⟩ := so1 hs;simp only [hr, gd1];have q := Lf (M := M) [i0, i1] (gZ.can y0 r hr) (by simp [hne0]) rfl (ix (by simp [hM0, into]) (ix (by simp [hM1]) ixn));exact callOk_conv q trivial (by simp [into]) (by simp [frameOut, into]) (by simp only [frameOut, gZ.out, Option.getD_some, Option.getD_none]; simp [into, hM0, hM1, set_same])
 ·cases h
@[simp] def gaa.m (x0 : Tq) (_x1 : Int) : List AObj := [.blk [.mp 1, .lit (.int .i64 x0.fh)], .mapo (encM (kI .i64) (vA Ta.enc) x0.fg)]
@[simp] def gaa.out (_x0 : Tq) (_x1 : Int) (r : Ta × Bool) : Out := { av := .tup [.agg [.lit (.int .i64 r.1.fN), .lit (.string r.1.fo), .lit (.string r.1.fk)], .lit (.bool r.2)], M := none }
theorem gaa.can (x0 : Tq) (x1 : Int) (r : Ta × Bool) (hr : gaa x0 x1 = some r) : CallOk Tryz.prog 15 [.ptr 0 0, .lit (.int .i64 x1)] (gaa.m x0 x1) (gaa.out x0 x1 r) := by
 unfold gaa at hr;have hΓ := gamL_nil (P := Tryz.prog);refine cw Tryz.func15 rfl (by kernel_rfl) rfl rfl (by simp) fun _ _ _ => ?_;refine tq hΓ [4] [] ?_;refine tq hΓ [6, 7] [0, 1] ?_;refine tq hΓ [5] [6, 7] ?_;obtain rfl := La hr;exact AWp.ret (Lb (by simp))
@[simp] noncomputable def gaa.S : Sp
  | [.ptr i0 0, .lit (.int .i64 x1)], M => (rdB M i0).bind fun c0 => (rdM c0 0).bind fun i1 => (rdE M i1).bind fun c1 => (fun (y0 : Tq) => (fun (r : Ta × Bool) => some { av := .tup [.agg [.lit (.int .i64 (r.1.fN)), .lit (.string (r.1.fo)), .lit (.string (r.1.fk))], .lit (.bool (r.2))], M := none, obl := c0 = Tq.enc y0 i1 ∧ c1 = encM (kI .i64) (vA Ta.enc) (y0.fg) ∧ (gaa y0 x1).isSome = true ∧ i0 ≠ i1 }) ((gaa y0 x1).getD dflt)) (Tq.dec c0 (decM dkI (dvA Ta.dec) c1))
  | _, _ => none
theorem gaa.ok : SpecOk Tryz.prog 15 gaa.S := by
 intro l M out h;unfold gaa.S at h;split at h
 ·rename_i i0 x1;obtain ⟨c0, hM0, h⟩ := bB h;obtain ⟨i1, he1, h⟩ := bM h;obtain ⟨c1, hM1, h⟩ := bE h
  try dsimp only at h
  cases h;refine callOk_of fun ho => ?_;obtain ⟨oc0, oc1, hs, hne0⟩ := ho;generalize (Tq.dec c0 (decM dkI (dvA Ta.dec) c1)) = y0 at *
  subst oc0;subst oc1;obtain ⟨r, hr⟩ := so1 hs;simp only [hr, gd1];have q := Lf (M := M) [i0, i1] (gaa.can y0 x1 r hr) (by simp [hne0]) rfl (ix (by simp [hM0, into]) (ix (by simp [hM1]) ixn));exact callOk_conv q trivial (by simp [into]) (by simp [frameOut, into]) (by simp only [frameOut, gaa.out, Option.getD_some, Option.getD_none]; simp [into, hM0, hM1, set_same])
 ·cases h
@[simp] def gE.m (x0 : Tq) (_x1 : ByteArray) : List AObj := [.blk [.mp 1, .lit (.int .i64 x0.fh)], .mapo (encM (kI .i64) (vA Ta.enc) x0.fg)]
@[simp] def gE.out (_x0 : Tq) (_x1 : ByteArray) (r : List Ta) : Out := { av := .sl (r.map Ta.enc) .no, M := none }
def gE.fin (x0 : Tq) (x1 : ByteArray) (r : List Ta) (σ : St) : Prop := finK (gE.out x0 x1 r) (gE.m x0 x1) σ.M (resA Tryz.ty σ.A σ.M Tryz.f81.results.toList)
theorem gE.can (x0 : Tq) (x1 : ByteArray) (r : List Ta) (hr : gE x0 x1 = some r) : CallOk Tryz.prog 81 [.ptr 0 0, .lit (.string x1)] (gE.m x0 x1) (gE.out x0 x1 r) := by
 unfold gE at hr;have hΓ := (gamL_cons gan.ok (gamL_cons libKeys.gMapsKeysMapIntRoomPeerIntRoomPeer.ok (gamL_cons libSorted.gSortedMapIntRoomPeerIntRoomPeer1.ok (gamL_nil))) : GamOk Tryz.prog _);refine cw Tryz.func81 rfl (by kernel_rfl) rfl rfl (by simp) fun _ _ _ => ?_;refine tq hΓ [] [] ?_;refine tq hΓ [5] [] ?_;refine AWp.seq ?_;obtain ⟨h7, hr⟩ := Ld hr;refine tq hΓ [14, 15, 16] [] ?_ (by simp [h7]; exact rr);refine AWp.equip 5 3 (els := []) (by simp) (by simp) ?_;refine AWp.loopE (fun (s1 : Int × List Ta) (γ1 : Nat) => ⟨[⟨14, none, .sl ((sortL (keysM x0.fg)).map (eNum .i64)) .no⟩, ⟨15, none, .n (lenL (sortL (keysM x0.fg)))⟩, ⟨16, none, .n s1.1⟩, ⟨5, none, .sl (s1.2.map Ta.enc) (.own 2 (γ1) 3)⟩, ⟨0, none, .ptr 0 0⟩, ⟨1, none, .s x1⟩], [.blk [.mp 1, .n x0.fh], .mapo (encM (kI .i64) (vA Ta.enc) x0.fg), .room (γ1)]⟩) (fun (v1 : List Ta) (γ1a : Nat) => ⟨[⟨5, none, .sl (v1.map Ta.enc) (.own 2 (γ1a) 3)⟩], [.blk [.mp 1, .n x0.fh], .mapo (encM (kI .i64) (vA Ta.enc) x0.fg), .room (γ1a)]⟩) (gE.fin x0 x1) hr 0 3 (by simp) (fun s1 f γ1 hr => ?_) (fun v1 γ1a σ1 m1 hr hc => ?_) (fun _ h => h)
 ·unfold gE.loop1 at hr;refine tq hΓ [17] [] ?_ (by simp; exact rr);refine AWp.seq ?_;refine AWp.cnd hr (by simp) (fun h8 hr => ?_) (fun h8 hr => ?_)
  ·refine AWp.skip ?_;refine AWp.seq ?_;refine AWp.block ?_;obtain ⟨h9, hr⟩ := Ld hr;refine tq hΓ [7] [17] ?_ (by simp [h8, h9]; exact rr);refine tq hΓ [8] [7] ?_ (by simp; exact rr);obtain ⟨r1, h10, hr⟩ := Lc hr;refine tq hΓ [29] [] ?_ (by simp [h10]; exact rr);refine AWp.cnd hr (by simp) (fun h11 hr => ?_) (fun h11 hr => ?_)
   ·obtain ⟨h12, hr⟩ := Ld hr;refine tl hΓ [5] [29, 8] ?_ (by simp [h11, h12]; exact rr);refine tl hΓ [16] [] ?_ (by simp; exact rr);obtain rfl := La hr;exact Lj (γ1 + 1) 3 (by first | (simp; done) | simp [h7, h8, h9, h10, h11, h12])
   ·refine AWp.skip ?_;refine tl hΓ [16] [29, 8] ?_ (by simp [h11]; exact rr);obtain rfl := La hr;exact Lj (γ1) 3 (by first | (simp; done) | simp [h7, h8, h9, h10, h11])
  ·refine AWp.exit ?_;obtain rfl := La hr;exact Ll (γ1) 3 (by first | (simp; done) | simp [h7, h8])
 ·refine AWp.conv hc ?_;refine tq hΓ [4] [5] ?_ (by simp; exact rr);obtain rfl := La hr;exact AWp.ret (Lb (by simp))
@[simp] noncomputable def gE.S : Sp
  | [.ptr i0 0, .lit (.string x1)], M => (rdB M i0).bind fun c0 => (rdM c0 0).bind fun i1 => (rdE M i1).bind fun c1 => some { av := .sl (((gE (Tq.dec c0 (decM dkI (dvA Ta.dec) c1)) x1).getD dflt).map Ta.enc) .no, M := none, obl := c0 = Tq.enc (Tq.dec c0 (decM dkI (dvA Ta.dec) c1)) i1 ∧ c1 = encM (kI .i64) (vA Ta.enc) ((Tq.dec c0 (decM dkI (dvA Ta.dec) c1)).fg) ∧ (gE (Tq.dec c0 (decM dkI (dvA Ta.dec) c1)) x1).isSome = true ∧ i0 ≠ i1 }
  | _, _ => none
theorem gE.ok : SpecOk Tryz.prog 81 gE.S := by
 intro l M out h;unfold gE.S at h;split at h
 ·rename_i i0 x1;obtain ⟨c0, hM0, h⟩ := bB h;obtain ⟨i1, he1, h⟩ := bM h;obtain ⟨c1, hM1, h⟩ := bE h;cases h;refine callOk_of fun ho => ?_;obtain ⟨oc0, oc1, hs, hne0⟩ := ho;generalize (Tq.dec c0 (decM dkI (dvA Ta.dec) c1)) = y0 at *
  subst oc0;subst oc1;obtain ⟨r, hr⟩ := so1 hs;simp only [hr, gd1];have q := Lf (M := M) [i0, i1] (gE.can y0 x1 r hr) (by simp [hne0]) rfl (ix (by simp [hM0, into]) (ix (by simp [hM1]) ixn));exact callOk_conv q trivial (by simp [into]) (by simp [frameOut, into]) (by simp only [frameOut, gE.out, Option.getD_some, Option.getD_none]; simp [into, hM0, hM1, set_same])
 ·cases h
@[simp] def gaf.m (x0 : Tq) (_x1 : Int) : List AObj := [.blk [.mp 1, .lit (.int .i64 x0.fh)], .mapo (encM (kI .i64) (vA Ta.enc) x0.fg)]
@[simp] def gaf.out (_x0 : Tq) (_x1 : Int) (r : Int × Tq) : Out := { av := .lit (.int .i64 r.1), M := some [.blk [.mp 1, .lit (.int .i64 r.2.fh)], .mapo (encM (kI .i64) (vA Ta.enc) r.2.fg)] }
theorem gaf.can (x0 : Tq) (x1 : Int) (r : Int × Tq) (hr : gaf x0 x1 = some r) : CallOk Tryz.prog 85 [.ptr 0 0, .lit (.int .i64 x1)] (gaf.m x0 x1) (gaf.out x0 x1 r) := by
 unfold gaf at hr;have hΓ := gamL_nil (P := Tryz.prog);refine cw Tryz.func85 rfl (by kernel_rfl) rfl rfl (by simp) fun _ _ _ => ?_;refine tq hΓ [] [] ?_;refine AWp.seq ?_;refine tq hΓ [6] [] ?_;refine tq hΓ [17] [6] ?_;refine AWp.cnd hr (by simp) (fun h2 hr => ?_) (fun h2 hr => ?_)
 ·refine tq hΓ [4] [17, 0, 1] ?_ (by simp [h2]; exact rr);obtain rfl := La hr;exact AWp.ret (Lb (by simp))
 ·refine AWp.skip ?_;refine tq hΓ [] [17, 0, 1] ?_ (by simp [h2]; exact rr);refine tq hΓ [4] [] ?_ (by simp; exact rr);obtain rfl := La hr;exact AWp.ret (Lb (by simp))
@[simp] noncomputable def gaf.S : Sp
  | [.ptr i0 0, .lit (.int .i64 x1)], M => (rdB M i0).bind fun c0 => (rdM c0 0).bind fun i1 => (rdE M i1).bind fun c1 => (fun (y0 : Tq) => (fun (r : Int × Tq) => some { av := .lit (.int .i64 (r.1)), M := some ((M.set i0 (.blk [.mp i1, .lit (.int .i64 (r.2.fh))])).set i1 (.mapo (encM (kI .i64) (vA Ta.enc) (r.2.fg)))), obl := c0 = Tq.enc y0 i1 ∧ c1 = encM (kI .i64) (vA Ta.enc) (y0.fg) ∧ (gaf y0 x1).isSome = true ∧ i0 ≠ i1 }) ((gaf y0 x1).getD dflt)) (Tq.dec c0 (decM dkI (dvA Ta.dec) c1))
  | _, _ => none
theorem gaf.ok : SpecOk Tryz.prog 85 gaf.S := by
 intro l M out h;unfold gaf.S at h;split at h
 ·rename_i i0 x1;obtain ⟨c0, hM0, h⟩ := bB h;obtain ⟨i1, he1, h⟩ := bM h;obtain ⟨c1, hM1, h⟩ := bE h
  try dsimp only at h
  cases h;refine callOk_of fun ho => ?_;obtain ⟨oc0, oc1, hs, hne0⟩ := ho;generalize (Tq.dec c0 (decM dkI (dvA Ta.dec) c1)) = y0 at *
  subst oc0;subst oc1;obtain ⟨r, hr⟩ := so1 hs;simp only [hr, gd1];have q := Lf (M := M) [i0, i1] (gaf.can y0 x1 r hr) (by simp [hne0]) rfl (ix (by simp [hM0, into]) (ix (by simp [hM1]) ixn));exact callOk_conv q trivial (by simp [into]) (by simp [frameOut, into]) (by simp [frameOut, into])
 ·cases h
@[simp] def gJ.m (x0 : Tq) (_x1 : Int) (_x2 : Int) : List AObj := [.blk [.mp 1, .lit (.int .i64 x0.fh)], .mapo (encM (kI .i64) (vA Ta.enc) x0.fg)]
@[simp] def gJ.out (_x0 : Tq) (_x1 : Int) (_x2 : Int) (r : Bool) : Out := { av := .lit (.bool r), M := none }
theorem gJ.can (x0 : Tq) (x1 : Int) (x2 : Int) (r : Bool) (hr : gJ x0 x1 x2 = some r) : CallOk Tryz.prog 14 [.ptr 0 0, .lit (.int .i64 x1), .lit (.int .i64 x2)] (gJ.m x0 x1 x2) (gJ.out x0 x1 x2 r) := by
 unfold gJ at hr;have hΓ := (gamL_cons gan.ok (gamL_nil) : GamOk Tryz.prog _);refine cw Tryz.func14 rfl (by kernel_rfl) rfl rfl (by simp) fun _ _ _ => ?_;refine tq hΓ [] [] ?_;refine tq hΓ [7, 8] [] ?_;refine tq hΓ [9, 10] [0] ?_;obtain ⟨h2, hr⟩ := Ld hr;refine tq hΓ [6] [9, 10, 7, 8, 1, 2] ?_ (by simp [h2]; exact rr);obtain rfl := La hr;exact AWp.ret (Lb (by simp))
@[simp] noncomputable def gJ.S : Sp
  | [.ptr i0 0, .lit (.int .i64 x1), .lit (.int .i64 x2)], M => (rdB M i0).bind fun c0 => (rdM c0 0).bind fun i1 => (rdE M i1).bind fun c1 => some { av := .lit (.bool ((gJ (Tq.dec c0 (decM dkI (dvA Ta.dec) c1)) x1 x2).getD dflt)), M := none, obl := c0 = Tq.enc (Tq.dec c0 (decM dkI (dvA Ta.dec) c1)) i1 ∧ c1 = encM (kI .i64) (vA Ta.enc) ((Tq.dec c0 (decM dkI (dvA Ta.dec) c1)).fg) ∧ (gJ (Tq.dec c0 (decM dkI (dvA Ta.dec) c1)) x1 x2).isSome = true ∧ i0 ≠ i1 }
  | _, _ => none
theorem gJ.ok : SpecOk Tryz.prog 14 gJ.S := by
 intro l M out h;unfold gJ.S at h;split at h
 ·rename_i i0 x1 x2;obtain ⟨c0, hM0, h⟩ := bB h;obtain ⟨i1, he1, h⟩ := bM h;obtain ⟨c1, hM1, h⟩ := bE h;cases h;refine callOk_of fun ho => ?_;obtain ⟨oc0, oc1, hs, hne0⟩ := ho;generalize (Tq.dec c0 (decM dkI (dvA Ta.dec) c1)) = y0 at *
  subst oc0;subst oc1;obtain ⟨r, hr⟩ := so1 hs;simp only [hr, gd1];have q := Lf (M := M) [i0, i1] (gJ.can y0 x1 x2 r hr) (by simp [hne0]) rfl (ix (by simp [hM0, into]) (ix (by simp [hM1]) ixn));exact callOk_conv q trivial (by simp [into]) (by simp [frameOut, into]) (by simp only [frameOut, gJ.out, Option.getD_some, Option.getD_none]; simp [into, hM0, hM1, set_same])
 ·cases h
end Go.Proofs

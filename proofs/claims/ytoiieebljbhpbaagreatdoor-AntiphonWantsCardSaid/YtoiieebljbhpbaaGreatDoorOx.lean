import Derived.Test.YtoiieebljbhpbaaGreatDoorM16
import Derived.Test.YtoiieebljbhpbaaGreatDoorTy
set_option maxRecDepth 100000
set_option maxHeartbeats 4000000
namespace Go.Proofs
open Go.Ab
@[simp] def gau.out (_x0 : ByteArray) (r : Tj) : Out := { av := .ptr 0 0, M := some [.blk [.lit (.string r.fS), .lit (.int .i64 r.fE)]] }
theorem gau.can (x0 : ByteArray) (r : Tj) (hr : gau x0 = some r) : qao Tryz.prog 56 [.lit (.string x0)] [] (gau.out x0 r) := by
 unfold gau at hr;have hΓ := qae (P := Tryz.prog);refine cw Tryz.func56 rfl (by kernel_rfl) rfl rfl (by simp) fun _ _ _ => ?_;refine tq hΓ [] [] ?_;refine tq hΓ [2] [0] ?_;obtain rfl := La hr;exact AWp.ret (Ld (by simp))
@[simp] noncomputable def gau.S : Sp
  | [.lit (.string x0)], M => some { av := .ptr M.length 0, M := some (M ++ [.blk [.lit (.string (((gau x0).getD dflt).fS)), .lit (.int .i64 (((gau x0).getD dflt).fE))]]), obl := (gau x0).isSome = true }
  | _, _ => none
theorem gau.ok : qap Tryz.prog 56 gau.S := by
 intro l M out h;unfold gau.S at h;split at h
 ·rename_i x0;cases h;refine qad fun ho => ?_;have hs := ho;obtain ⟨r, hr⟩ := so1 hs;simp only [hr, gd1];have q := Lf (M := M) [] (gau.can x0 r hr) (by simp) rfl ixn;exact qac q trivial (by simp) (by simp [qaa, into]) (by simp [qaa, into])
 ·cases h
@[simp] def gW.m (x0 : Tj) : List qau := [.blk x0.enc]
@[simp] def gW.out (_x0 : Tj) (r : Int) : Out := { av := .lit (.int .i64 r), M := none }
theorem gW.can (x0 : Tj) (r : Int) (hr : gW x0 = some r) : qao Tryz.prog 58 [.ptr 0 0] (gW.m x0) (gW.out x0 r) := by
 unfold gW at hr;have hΓ := qae (P := Tryz.prog);refine cw Tryz.func58 rfl (by kernel_rfl) rfl rfl (by simp) fun _ _ _ => ?_;refine tq hΓ [] [] ?_;refine tq hΓ [2] [0] ?_;obtain rfl := La hr;exact AWp.ret (Ld (by simp))
@[simp] noncomputable def gW.S : Sp
  | [.ptr i0 0], M => (rdB M i0).bind fun c0 => some { av := .lit (.int .i64 ((gW (Tj.dec c0)).getD dflt)), M := none, obl := c0 = Tj.enc (Tj.dec c0) ∧ (gW (Tj.dec c0)).isSome = true }
  | _, _ => none
theorem gW.ok : qap Tryz.prog 58 gW.S := by
 intro l M out h;unfold gW.S at h;split at h
 ·rename_i i0;obtain ⟨c0, hM0, h⟩ := bB h;cases h;refine qad fun ho => ?_;obtain ⟨oc0, hs⟩ := ho;generalize (Tj.dec c0) = y0 at *
  subst oc0;obtain ⟨r, hr⟩ := so1 hs;simp only [hr, gd1];have q := Lf (M := M) [i0] (gW.can y0 r hr) (by simp) rfl (ix (by simp [hM0]) ixn);exact qac q trivial (by simp [into]) (by simp [qaa]) (by simp only [qaa, gW.out, Option.getD_some, Option.getD_none]; simp [hM0, set_same])
 ·cases h
@[simp] def gI.m (x0 : Tj) (_x1 : Int) : List qau := [.blk x0.enc]
@[simp] def gI.out (_x0 : Tj) (_x1 : Int) (r : Tj) : Out := { av := .tup [], M := some [.blk [.lit (.string r.fS), .lit (.int .i64 r.fE)]] }
theorem gI.can (x0 : Tj) (x1 : Int) (r : Tj) (hr : gI x0 x1 = some r) : qao Tryz.prog 64 [.ptr 0 0, .lit (.int .i64 x1)] (gI.m x0 x1) (gI.out x0 x1 r) := by
 unfold gI at hr;have hΓ := qae (P := Tryz.prog);refine cw Tryz.func64 rfl (by kernel_rfl) rfl rfl (by simp) fun _ _ _ => ?_;refine tq hΓ [12] [] ?_;refine AWp.cnd hr (by simp) (fun h2 hr => ?_) (fun h2 hr => ?_)
 ·refine tl hΓ [] [12, 0, 1] ?_ (by simp [h2]; exact rr);obtain rfl := La hr;exact fin_norm (by simp)
 ·refine AWp.skip ?_;obtain rfl := La hr;exact fin_norm (by simp)
@[simp] noncomputable def gI.S : Sp
  | [.ptr i0 0, .lit (.int .i64 x1)], M => (rdB M i0).bind fun c0 => some { av := .tup [], M := some (M.set i0 (.blk [.lit (.string (((gI (Tj.dec c0) x1).getD dflt).fS)), .lit (.int .i64 (((gI (Tj.dec c0) x1).getD dflt).fE))])), obl := c0 = Tj.enc (Tj.dec c0) ∧ (gI (Tj.dec c0) x1).isSome = true }
  | _, _ => none
theorem gI.ok : qap Tryz.prog 64 gI.S := by
 intro l M out h;unfold gI.S at h;split at h
 ·rename_i i0 x1;obtain ⟨c0, hM0, h⟩ := bB h;cases h;refine qad fun ho => ?_;obtain ⟨oc0, hs⟩ := ho;generalize (Tj.dec c0) = y0 at *
  subst oc0;obtain ⟨r, hr⟩ := so1 hs;simp only [hr, gd1];have q := Lf (M := M) [i0] (gI.can y0 x1 r hr) (by simp) rfl (ix (by simp [hM0]) ixn);exact qac q trivial (by simp [into]) (by simp [qaa]) (by simp [qaa])
 ·cases h
@[simp] def gZ.m (x0 : Tj) : List qau := [.blk x0.enc]
@[simp] def gZ.out (_x0 : Tj) (r : Int) : Out := { av := .lit (.int .i64 r), M := none }
theorem gZ.can (x0 : Tj) (r : Int) (hr : gZ x0 = some r) : qao Tryz.prog 111 [.ptr 0 0] (gZ.m x0) (gZ.out x0 r) := by
 unfold gZ at hr;have hΓ := qae (P := Tryz.prog);refine cw Tryz.func111 rfl (by kernel_rfl) rfl rfl (by simp) fun _ _ _ => ?_;refine tq hΓ [] [] ?_;refine tq hΓ [2] [0] ?_;obtain rfl := La hr;exact AWp.ret (Ld (by simp))
@[simp] noncomputable def gZ.S : Sp
  | [.ptr i0 0], M => (rdB M i0).bind fun c0 => some { av := .lit (.int .i64 ((gZ (Tj.dec c0)).getD dflt)), M := none, obl := c0 = Tj.enc (Tj.dec c0) ∧ (gZ (Tj.dec c0)).isSome = true }
  | _, _ => none
theorem gZ.ok : qap Tryz.prog 111 gZ.S := by
 intro l M out h;unfold gZ.S at h;split at h
 ·rename_i i0;obtain ⟨c0, hM0, h⟩ := bB h;cases h;refine qad fun ho => ?_;obtain ⟨oc0, hs⟩ := ho;generalize (Tj.dec c0) = y0 at *
  subst oc0;obtain ⟨r, hr⟩ := so1 hs;simp only [hr, gd1];have q := Lf (M := M) [i0] (gZ.can y0 r hr) (by simp) rfl (ix (by simp [hM0]) ixn);exact qac q trivial (by simp [into]) (by simp [qaa]) (by simp only [qaa, gZ.out, Option.getD_some, Option.getD_none]; simp [hM0, set_same])
 ·cases h
@[simp] def gy.m (x0 : Tj) (_x1 : Int) : List qau := [.blk x0.enc]
@[simp] def gy.out (_x0 : Tj) (_x1 : Int) (r : ByteArray × Tj) : Out := { av := .lit (.string r.1), M := some [.blk [.lit (.string r.2.fS), .lit (.int .i64 r.2.fE)]] }
theorem gy.can (x0 : Tj) (x1 : Int) (r : ByteArray × Tj) (hr : gy x0 x1 = some r) : qao Tryz.prog 61 [.ptr 0 0, .lit (.int .i64 x1)] (gy.m x0 x1) (gy.out x0 x1 r) := by
 unfold gy at hr;have hΓ := (qab gI.ok (qae) : qbc Tryz.prog _);refine cw Tryz.func61 rfl (by kernel_rfl) rfl rfl (by simp) fun _ _ _ => ?_;refine tq hΓ [] [] ?_;refine AWp.seq ?_;refine AWp.block ?_;refine tq hΓ [6] [] ?_;refine AWp.cnd hr (by simp) (fun h8 hr => ?_) (fun h8 hr => ?_)
 ·refine tq hΓ [4] [6, 0, 1] ?_ (by simp [h8]; exact rr);obtain rfl := La hr;exact AWp.ret (Ld (by simp))
 ·refine tq hΓ [12] [6] ?_ (by simp [h8]; exact rr);refine AWp.cnd hr (by simp) (fun h9 hr => ?_) (fun h9 hr => ?_)
  ·obtain ⟨r1, h10, hr⟩ := Lb hr;refine tq hΓ [] [12, 0, 1] ?_ (by simp [h9, h10]; exact rr);refine tq hΓ [4] [] ?_ (by simp; exact rr);obtain rfl := La hr;exact AWp.ret (Ld (by simp))
  ·refine tq hΓ [17] [12] ?_ (by simp [h9]; exact rr);refine AWp.cnd hr (by simp) (fun h11 hr => ?_) (fun h11 hr => ?_)
   ·obtain ⟨r2, h12, hr⟩ := Lb hr;refine tq hΓ [] [17, 0, 1] ?_ (by simp [h11, h12]; exact rr);refine tq hΓ [4] [] ?_ (by simp; exact rr);obtain rfl := La hr;exact AWp.ret (Ld (by simp))
   ·refine AWp.skip ?_;obtain ⟨h13, hr⟩ := Lg hr;refine tq hΓ [5] [17] ?_ (by simp [h11, h13]; exact rr);obtain ⟨h14, hr⟩ := Lg hr;refine tq hΓ [] [0, 1] ?_ (by simp [h14]; exact rr);refine tq hΓ [4] [5] ?_ (by simp; exact rr);obtain rfl := La hr;exact AWp.ret (Ld (by simp))
@[simp] noncomputable def gy.S : Sp
  | [.ptr i0 0, .lit (.int .i64 x1)], M => (rdB M i0).bind fun c0 => some { av := .lit (.string (((gy (Tj.dec c0) x1).getD dflt).1)), M := some (M.set i0 (.blk [.lit (.string (((gy (Tj.dec c0) x1).getD dflt).2.fS)), .lit (.int .i64 (((gy (Tj.dec c0) x1).getD dflt).2.fE))])), obl := c0 = Tj.enc (Tj.dec c0) ∧ (gy (Tj.dec c0) x1).isSome = true }
  | _, _ => none
theorem gy.ok : qap Tryz.prog 61 gy.S := by
 intro l M out h;unfold gy.S at h;split at h
 ·rename_i i0 x1;obtain ⟨c0, hM0, h⟩ := bB h;cases h;refine qad fun ho => ?_;obtain ⟨oc0, hs⟩ := ho;generalize (Tj.dec c0) = y0 at *
  subst oc0;obtain ⟨r, hr⟩ := so1 hs;simp only [hr, gd1];have q := Lf (M := M) [i0] (gy.can y0 x1 r hr) (by simp) rfl (ix (by simp [hM0]) ixn);exact qac q trivial (by simp [into]) (by simp [qaa]) (by simp [qaa])
 ·cases h
@[simp] def gm.m (x0 : Tj) (_x1 : Int) : List qau := [.blk x0.enc]
@[simp] def gm.out (_x0 : Tj) (_x1 : Int) (r : Int × Tj) : Out := { av := .lit (.int .u64 r.1), M := some [.blk [.lit (.string r.2.fS), .lit (.int .i64 r.2.fE)]] }
def gm.fin (x0 : Tj) (x1 : Int) (r : Int × Tj) (σ : St) : Prop := finK (gm.out x0 x1 r) (gm.m x0 x1) σ.M (resA Tryz.ty σ.A σ.M Tryz.f110.results.toList)
theorem gm.can (x0 : Tj) (x1 : Int) (r : Int × Tj) (hr : gm x0 x1 = some r) : qao Tryz.prog 110 [.ptr 0 0, .lit (.int .i64 x1)] (gm.m x0 x1) (gm.out x0 x1 r) := by
 unfold gm at hr;have hΓ := (qab gy.ok (qae) : qbc Tryz.prog _);refine cw Tryz.func110 rfl (by kernel_rfl) rfl rfl (by simp) fun _ _ _ => ?_;refine tq hΓ [] [] ?_;refine tq hΓ [5] [] ?_;refine AWp.seq ?_;obtain ⟨r1, h5, hr⟩ := Lb hr;refine tq hΓ [13, 14, 15] [0, 1] ?_ (by simp [h5]; exact rr);refine AWp.loopE (fun (s1 : Int × Int) (γ1 : Unit) => ⟨[⟨13, none, .sl ((numsOf r1.1).map (eNum .u8)) .no⟩, ⟨14, none, .n (qat (numsOf r1.1))⟩, ⟨15, none, .n s1.1⟩, ⟨5, none, .lit (.int .u64 s1.2)⟩], [.blk r1.2.enc]⟩) (fun (v1 : Int) (γ1a : Unit) => ⟨[⟨5, none, .lit (.int .u64 v1)⟩], [.blk r1.2.enc]⟩) (gm.fin x0 x1) hr () 1 (by simp) (fun s1 f γ1 hr => ?_) (fun v1 γ1a σ1 m1 hr hc => ?_) (fun _ h => h)
 ·unfold gm.loop1 at hr;refine tq hΓ [16] [] ?_ (by simp; exact rr);refine AWp.seq ?_;refine AWp.cnd hr (by simp) (fun h6 hr => ?_) (fun h6 hr => ?_)
  ·refine AWp.skip ?_;refine AWp.seq ?_;refine AWp.block ?_;obtain ⟨h7, hr⟩ := Lg hr;refine tq hΓ [7] [16] ?_ (by simp [h6, h7]; exact rr);obtain ⟨h8, hr⟩ := Lg hr;refine tl hΓ [5] [7] ?_ (by simp [h8]; exact rr);refine tl hΓ [15] [] ?_ (by simp; exact rr);obtain rfl := La hr;exact Lq () 1 (by first | (simp; done) | simp [h5, h6, h7, h8])
  ·refine AWp.exit ?_;obtain rfl := La hr;exact Ln () 1 (by first | (simp; done) | simp [h5, h6])
 ·refine AWp.conv hc ?_;refine tq hΓ [4] [5] ?_ (by simp; exact rr);obtain rfl := La hr;exact AWp.ret (Ld (by simp))
@[simp] noncomputable def gm.S : Sp
  | [.ptr i0 0, .lit (.int .i64 x1)], M => (rdB M i0).bind fun c0 => some { av := .lit (.int .u64 (((gm (Tj.dec c0) x1).getD dflt).1)), M := some (M.set i0 (.blk [.lit (.string (((gm (Tj.dec c0) x1).getD dflt).2.fS)), .lit (.int .i64 (((gm (Tj.dec c0) x1).getD dflt).2.fE))])), obl := c0 = Tj.enc (Tj.dec c0) ∧ (gm (Tj.dec c0) x1).isSome = true }
  | _, _ => none
theorem gm.ok : qap Tryz.prog 110 gm.S := by
 intro l M out h;unfold gm.S at h;split at h
 ·rename_i i0 x1;obtain ⟨c0, hM0, h⟩ := bB h;cases h;refine qad fun ho => ?_;obtain ⟨oc0, hs⟩ := ho;generalize (Tj.dec c0) = y0 at *
  subst oc0;obtain ⟨r, hr⟩ := so1 hs;simp only [hr, gd1];have q := Lf (M := M) [i0] (gm.can y0 x1 r hr) (by simp) rfl (ix (by simp [hM0]) ixn);exact qac q trivial (by simp [into]) (by simp [qaa]) (by simp [qaa])
 ·cases h
@[simp] def gX.m (x0 : Tj) : List qau := [.blk x0.enc]
@[simp] def gX.out (_x0 : Tj) (r : Int × Tj) : Out := { av := .lit (.int .u8 r.1), M := some [.blk [.lit (.string r.2.fS), .lit (.int .i64 r.2.fE)]] }
theorem gX.can (x0 : Tj) (r : Int × Tj) (hr : gX x0 = some r) : qao Tryz.prog 57 [.ptr 0 0] (gX.m x0) (gX.out x0 r) := by
 unfold gX at hr;have hΓ := (qab gm.ok (qae) : qbc Tryz.prog _);refine cw Tryz.func57 rfl (by kernel_rfl) rfl rfl (by simp) fun _ _ _ => ?_;refine tq hΓ [] [] ?_;obtain ⟨r1, h2, hr⟩ := Lb hr;refine tq hΓ [2] [0] ?_ (by simp [h2]; exact rr);obtain rfl := La hr;exact AWp.ret (Ld (by simp))
@[simp] noncomputable def gX.S : Sp
  | [.ptr i0 0], M => (rdB M i0).bind fun c0 => some { av := .lit (.int .u8 (((gX (Tj.dec c0)).getD dflt).1)), M := some (M.set i0 (.blk [.lit (.string (((gX (Tj.dec c0)).getD dflt).2.fS)), .lit (.int .i64 (((gX (Tj.dec c0)).getD dflt).2.fE))])), obl := c0 = Tj.enc (Tj.dec c0) ∧ (gX (Tj.dec c0)).isSome = true }
  | _, _ => none
theorem gX.ok : qap Tryz.prog 57 gX.S := by
 intro l M out h;unfold gX.S at h;split at h
 ·rename_i i0;obtain ⟨c0, hM0, h⟩ := bB h;cases h;refine qad fun ho => ?_;obtain ⟨oc0, hs⟩ := ho;generalize (Tj.dec c0) = y0 at *
  subst oc0;obtain ⟨r, hr⟩ := so1 hs;simp only [hr, gd1];have q := Lf (M := M) [i0] (gX.can y0 r hr) (by simp) rfl (ix (by simp [hM0]) ixn);exact qac q trivial (by simp [into]) (by simp [qaa]) (by simp [qaa])
 ·cases h
@[simp] def gL.m (x0 : Tj) : List qau := [.blk x0.enc]
@[simp] def gL.out (_x0 : Tj) (r : Int × Tj) : Out := { av := .lit (.int .u16 r.1), M := some [.blk [.lit (.string r.2.fS), .lit (.int .i64 r.2.fE)]] }
theorem gL.can (x0 : Tj) (r : Int × Tj) (hr : gL x0 = some r) : qao Tryz.prog 59 [.ptr 0 0] (gL.m x0) (gL.out x0 r) := by
 unfold gL at hr;have hΓ := (qab gm.ok (qae) : qbc Tryz.prog _);refine cw Tryz.func59 rfl (by kernel_rfl) rfl rfl (by simp) fun _ _ _ => ?_;refine tq hΓ [] [] ?_;obtain ⟨r1, h2, hr⟩ := Lb hr;refine tq hΓ [2] [0] ?_ (by simp [h2]; exact rr);obtain rfl := La hr;exact AWp.ret (Ld (by simp))
@[simp] noncomputable def gL.S : Sp
  | [.ptr i0 0], M => (rdB M i0).bind fun c0 => some { av := .lit (.int .u16 (((gL (Tj.dec c0)).getD dflt).1)), M := some (M.set i0 (.blk [.lit (.string (((gL (Tj.dec c0)).getD dflt).2.fS)), .lit (.int .i64 (((gL (Tj.dec c0)).getD dflt).2.fE))])), obl := c0 = Tj.enc (Tj.dec c0) ∧ (gL (Tj.dec c0)).isSome = true }
  | _, _ => none
theorem gL.ok : qap Tryz.prog 59 gL.S := by
 intro l M out h;unfold gL.S at h;split at h
 ·rename_i i0;obtain ⟨c0, hM0, h⟩ := bB h;cases h;refine qad fun ho => ?_;obtain ⟨oc0, hs⟩ := ho;generalize (Tj.dec c0) = y0 at *
  subst oc0;obtain ⟨r, hr⟩ := so1 hs;simp only [hr, gd1];have q := Lf (M := M) [i0] (gL.can y0 r hr) (by simp) rfl (ix (by simp [hM0]) ixn);exact qac q trivial (by simp [into]) (by simp [qaa]) (by simp [qaa])
 ·cases h
@[simp] def gM.m (x0 : Tj) : List qau := [.blk x0.enc]
@[simp] def gM.out (_x0 : Tj) (r : Int × Tj) : Out := { av := .lit (.int .u32 r.1), M := some [.blk [.lit (.string r.2.fS), .lit (.int .i64 r.2.fE)]] }
theorem gM.can (x0 : Tj) (r : Int × Tj) (hr : gM x0 = some r) : qao Tryz.prog 60 [.ptr 0 0] (gM.m x0) (gM.out x0 r) := by
 unfold gM at hr;have hΓ := (qab gm.ok (qae) : qbc Tryz.prog _);refine cw Tryz.func60 rfl (by kernel_rfl) rfl rfl (by simp) fun _ _ _ => ?_;refine tq hΓ [] [] ?_;obtain ⟨r1, h2, hr⟩ := Lb hr;refine tq hΓ [2] [0] ?_ (by simp [h2]; exact rr);obtain rfl := La hr;exact AWp.ret (Ld (by simp))
@[simp] noncomputable def gM.S : Sp
  | [.ptr i0 0], M => (rdB M i0).bind fun c0 => some { av := .lit (.int .u32 (((gM (Tj.dec c0)).getD dflt).1)), M := some (M.set i0 (.blk [.lit (.string (((gM (Tj.dec c0)).getD dflt).2.fS)), .lit (.int .i64 (((gM (Tj.dec c0)).getD dflt).2.fE))])), obl := c0 = Tj.enc (Tj.dec c0) ∧ (gM (Tj.dec c0)).isSome = true }
  | _, _ => none
theorem gM.ok : qap Tryz.prog 60 gM.S := by
 intro l M out h;unfold gM.S at h;split at h
 ·rename_i i0;obtain ⟨c0, hM0, h⟩ := bB h;cases h;refine qad fun ho => ?_;obtain ⟨oc0, hs⟩ := ho;generalize (Tj.dec c0) = y0 at *
  subst oc0;obtain ⟨r, hr⟩ := so1 hs;simp only [hr, gd1];have q := Lf (M := M) [i0] (gM.can y0 r hr) (by simp) rfl (ix (by simp [hM0]) ixn);exact qac q trivial (by simp [into]) (by simp [qaa]) (by simp [qaa])
 ·cases h
@[simp] def gQ.m (x0 : Tj) : List qau := [.blk x0.enc]
@[simp] def gQ.out (_x0 : Tj) (r : ByteArray × Tj) : Out := { av := .lit (.string r.1), M := some [.blk [.lit (.string r.2.fS), .lit (.int .i64 r.2.fE)]] }
theorem gQ.can (x0 : Tj) (r : ByteArray × Tj) (hr : gQ x0 = some r) : qao Tryz.prog 62 [.ptr 0 0] (gQ.m x0) (gQ.out x0 r) := by
 unfold gQ at hr;have hΓ := (qab gy.ok (qab gZ.ok (qae)) : qbc Tryz.prog _);refine cw Tryz.func62 rfl (by kernel_rfl) rfl rfl (by simp) fun _ _ _ => ?_;refine tq hΓ [] [] ?_;obtain ⟨r1, h3, hr⟩ := Lb hr;obtain ⟨r2, h4, hr⟩ := Lb hr;refine tq hΓ [2] [0] ?_ (by simp [h3, h4]; exact rr);obtain rfl := La hr;exact AWp.ret (Ld (by simp))
@[simp] noncomputable def gQ.S : Sp
  | [.ptr i0 0], M => (rdB M i0).bind fun c0 => some { av := .lit (.string (((gQ (Tj.dec c0)).getD dflt).1)), M := some (M.set i0 (.blk [.lit (.string (((gQ (Tj.dec c0)).getD dflt).2.fS)), .lit (.int .i64 (((gQ (Tj.dec c0)).getD dflt).2.fE))])), obl := c0 = Tj.enc (Tj.dec c0) ∧ (gQ (Tj.dec c0)).isSome = true }
  | _, _ => none
theorem gQ.ok : qap Tryz.prog 62 gQ.S := by
 intro l M out h;unfold gQ.S at h;split at h
 ·rename_i i0;obtain ⟨c0, hM0, h⟩ := bB h;cases h;refine qad fun ho => ?_;obtain ⟨oc0, hs⟩ := ho;generalize (Tj.dec c0) = y0 at *
  subst oc0;obtain ⟨r, hr⟩ := so1 hs;simp only [hr, gd1];have q := Lf (M := M) [i0] (gQ.can y0 r hr) (by simp) rfl (ix (by simp [hM0]) ixn);exact qac q trivial (by simp [into]) (by simp [qaa]) (by simp [qaa])
 ·cases h
end Go.Proofs

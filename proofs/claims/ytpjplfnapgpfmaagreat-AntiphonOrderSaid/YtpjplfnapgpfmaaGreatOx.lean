/- That these functions compute what their plain functions do. No condition. -/
import Derived.Test.YtpjplfnapgpfmaaGreatM07
import Derived.Test.YtpjplfnapgpfmaaGreatTy
set_option maxRecDepth 100000
set_option maxHeartbeats 4000000
namespace Go.Proofs
open Go.Ab
@[simp] def gaP.out (_x0 : ByteArray) (r : Tj) : Out := { av := .ptr 0 0, M := some [.blk [.lit (.string r.fS), .lit (.int .i64 r.fE)]] }
theorem gaP.can (x0 : ByteArray) (r : Tj) (hr : gaP x0 = some r) : CallOk Tryz.prog 32 [.lit (.string x0)] [] (gaP.out x0 r) := by
 unfold gaP at hr
 have hΓ := gamL_nil (P := Tryz.prog)
 refine cw Tryz.func32 rfl (by kernel_rfl) rfl rfl (by simp) fun _ _ _ => ?_
 refine tq hΓ [] [] ?_
 refine tq hΓ [2] [0] ?_
 obtain rfl := La hr
 exact AWp.ret (Le (by simp))

@[simp] noncomputable def gaP.S : Sp
  | [.lit (.string x0)], M => some { av := .ptr M.length 0, M := some (M ++ [.blk [.lit (.string (((gaP x0).getD dflt).fS)), .lit (.int .i64 (((gaP x0).getD dflt).fE))]]), obl := (gaP x0).isSome = true }
  | _, _ => none

theorem gaP.ok : SpecOk Tryz.prog 32 gaP.S := by
 intro l M out h
 unfold gaP.S at h
 split at h
 ·rename_i x0
  cases h
  refine callOk_of fun ho => ?_
  have hs := ho
  obtain ⟨r, hr⟩ := so1 hs
  simp only [hr, gd1]
  have q := Lh (M := M) [] (gaP.can x0 r hr) (by simp) rfl ixn
  exact callOk_conv q trivial (by simp) (by simp [frameOut, into]) (by simp [frameOut, into])
 ·cases h

@[simp] def gZ.m (x0 : Tj) : List AObj := [.blk x0.enc]
@[simp] def gZ.out (_x0 : Tj) (r : Int) : Out := { av := .lit (.int .i64 r), M := none }
theorem gZ.can (x0 : Tj) (r : Int) (hr : gZ x0 = some r) : CallOk Tryz.prog 34 [.ptr 0 0] (gZ.m x0) (gZ.out x0 r) := by
 unfold gZ at hr
 have hΓ := gamL_nil (P := Tryz.prog)
 refine cw Tryz.func34 rfl (by kernel_rfl) rfl rfl (by simp) fun _ _ _ => ?_
 refine tq hΓ [] [] ?_
 refine tq hΓ [2] [0] ?_
 obtain rfl := La hr
 exact AWp.ret (Le (by simp))

@[simp] noncomputable def gZ.S : Sp
  | [.ptr i0 0], M => (rdB M i0).bind fun c0 => some { av := .lit (.int .i64 ((gZ (Tj.dec c0)).getD dflt)), M := none, obl := c0 = Tj.enc (Tj.dec c0) ∧ (gZ (Tj.dec c0)).isSome = true }
  | _, _ => none

theorem gZ.ok : SpecOk Tryz.prog 34 gZ.S := by
 intro l M out h
 unfold gZ.S at h
 split at h
 ·rename_i i0
  obtain ⟨c0, hM0, h⟩ := bB h
  cases h
  refine callOk_of fun ho => ?_
  obtain ⟨oc0, hs⟩ := ho
  generalize (Tj.dec c0) = y0 at *
  subst oc0
  obtain ⟨r, hr⟩ := so1 hs
  simp only [hr, gd1]
  have q := Lh (M := M) [i0] (gZ.can y0 r hr) (by simp) rfl (ix (by simp [hM0]) ixn)
  exact callOk_conv q trivial (by simp [into]) (by simp [frameOut]) (by simp only [frameOut, gZ.out, Option.getD_some, Option.getD_none]; simp [hM0, set_same])
 ·cases h

@[simp] def gJ.m (x0 : Tj) (_x1 : Int) : List AObj := [.blk x0.enc]
@[simp] def gJ.out (_x0 : Tj) (_x1 : Int) (r : Tj) : Out := { av := .tup [], M := some [.blk [.lit (.string r.fS), .lit (.int .i64 r.fE)]] }
theorem gJ.can (x0 : Tj) (x1 : Int) (r : Tj) (hr : gJ x0 x1 = some r) : CallOk Tryz.prog 40 [.ptr 0 0, .lit (.int .i64 x1)] (gJ.m x0 x1) (gJ.out x0 x1 r) := by
 unfold gJ at hr
 have hΓ := gamL_nil (P := Tryz.prog)
 refine cw Tryz.func40 rfl (by kernel_rfl) rfl rfl (by simp) fun _ _ _ => ?_
 refine tq hΓ [12] [] ?_
 refine AWp.cnd hr (by simp) (fun h2 hr => ?_) (fun h2 hr => ?_)
 ·refine tl hΓ [] [12, 0, 1] ?_ (by simp [h2]; exact rr)
  obtain rfl := La hr
  exact fin_norm (by simp)
 ·refine AWp.skip ?_
  obtain rfl := La hr
  exact fin_norm (by simp)

@[simp] noncomputable def gJ.S : Sp
  | [.ptr i0 0, .lit (.int .i64 x1)], M => (rdB M i0).bind fun c0 => some { av := .tup [], M := some (M.set i0 (.blk [.lit (.string (((gJ (Tj.dec c0) x1).getD dflt).fS)), .lit (.int .i64 (((gJ (Tj.dec c0) x1).getD dflt).fE))])), obl := c0 = Tj.enc (Tj.dec c0) ∧ (gJ (Tj.dec c0) x1).isSome = true }
  | _, _ => none

theorem gJ.ok : SpecOk Tryz.prog 40 gJ.S := by
 intro l M out h
 unfold gJ.S at h
 split at h
 ·rename_i i0 x1
  obtain ⟨c0, hM0, h⟩ := bB h
  cases h
  refine callOk_of fun ho => ?_
  obtain ⟨oc0, hs⟩ := ho
  generalize (Tj.dec c0) = y0 at *
  subst oc0
  obtain ⟨r, hr⟩ := so1 hs
  simp only [hr, gd1]
  have q := Lh (M := M) [i0] (gJ.can y0 x1 r hr) (by simp) rfl (ix (by simp [hM0]) ixn)
  exact callOk_conv q trivial (by simp [into]) (by simp [frameOut]) (by simp [frameOut])
 ·cases h

@[simp] def gah.m (x0 : Tj) : List AObj := [.blk x0.enc]
@[simp] def gah.out (_x0 : Tj) (r : Int) : Out := { av := .lit (.int .i64 r), M := none }
theorem gah.can (x0 : Tj) (r : Int) (hr : gah x0 = some r) : CallOk Tryz.prog 77 [.ptr 0 0] (gah.m x0) (gah.out x0 r) := by
 unfold gah at hr
 have hΓ := gamL_nil (P := Tryz.prog)
 refine cw Tryz.func77 rfl (by kernel_rfl) rfl rfl (by simp) fun _ _ _ => ?_
 refine tq hΓ [] [] ?_
 refine tq hΓ [2] [0] ?_
 obtain rfl := La hr
 exact AWp.ret (Le (by simp))

@[simp] noncomputable def gah.S : Sp
  | [.ptr i0 0], M => (rdB M i0).bind fun c0 => some { av := .lit (.int .i64 ((gah (Tj.dec c0)).getD dflt)), M := none, obl := c0 = Tj.enc (Tj.dec c0) ∧ (gah (Tj.dec c0)).isSome = true }
  | _, _ => none

theorem gah.ok : SpecOk Tryz.prog 77 gah.S := by
 intro l M out h
 unfold gah.S at h
 split at h
 ·rename_i i0
  obtain ⟨c0, hM0, h⟩ := bB h
  cases h
  refine callOk_of fun ho => ?_
  obtain ⟨oc0, hs⟩ := ho
  generalize (Tj.dec c0) = y0 at *
  subst oc0
  obtain ⟨r, hr⟩ := so1 hs
  simp only [hr, gd1]
  have q := Lh (M := M) [i0] (gah.can y0 r hr) (by simp) rfl (ix (by simp [hM0]) ixn)
  exact callOk_conv q trivial (by simp [into]) (by simp [frameOut]) (by simp only [frameOut, gah.out, Option.getD_some, Option.getD_none]; simp [hM0, set_same])
 ·cases h

@[simp] def gz.m (x0 : Tj) (_x1 : Int) : List AObj := [.blk x0.enc]
@[simp] def gz.out (_x0 : Tj) (_x1 : Int) (r : ByteArray × Tj) : Out := { av := .lit (.string r.1), M := some [.blk [.lit (.string r.2.fS), .lit (.int .i64 r.2.fE)]] }
theorem gz.can (x0 : Tj) (x1 : Int) (r : ByteArray × Tj) (hr : gz x0 x1 = some r) : CallOk Tryz.prog 37 [.ptr 0 0, .lit (.int .i64 x1)] (gz.m x0 x1) (gz.out x0 x1 r) := by
 unfold gz at hr
 have hΓ := (gamL_cons gJ.ok (gamL_nil) : GamOk Tryz.prog _)
 refine cw Tryz.func37 rfl (by kernel_rfl) rfl rfl (by simp) fun _ _ _ => ?_
 refine tq hΓ [] [] ?_
 refine AWp.seq ?_
 refine AWp.block ?_
 refine tq hΓ [6] [] ?_
 refine AWp.cnd hr (by simp) (fun h8 hr => ?_) (fun h8 hr => ?_)
 ·refine tq hΓ [4] [6, 0, 1] ?_ (by simp [h8]; exact rr)
  obtain rfl := La hr
  exact AWp.ret (Le (by simp))
 ·refine tq hΓ [12] [6] ?_ (by simp [h8]; exact rr)
  refine AWp.cnd hr (by simp) (fun h9 hr => ?_) (fun h9 hr => ?_)
  ·obtain ⟨r1, h10, hr⟩ := Lb hr
   refine tq hΓ [] [12, 0, 1] ?_ (by simp [h9, h10]; exact rr)
   refine tq hΓ [4] [] ?_ (by simp; exact rr)
   obtain rfl := La hr
   exact AWp.ret (Le (by simp))
  ·refine tq hΓ [17] [12] ?_ (by simp [h9]; exact rr)
   refine AWp.cnd hr (by simp) (fun h11 hr => ?_) (fun h11 hr => ?_)
   ·obtain ⟨r2, h12, hr⟩ := Lb hr
    refine tq hΓ [] [17, 0, 1] ?_ (by simp [h11, h12]; exact rr)
    refine tq hΓ [4] [] ?_ (by simp; exact rr)
    obtain rfl := La hr
    exact AWp.ret (Le (by simp))
   ·refine AWp.skip ?_
    obtain ⟨h13, hr⟩ := Lc hr
    refine tq hΓ [5] [17] ?_ (by simp [h11, h13]; exact rr)
    obtain ⟨h14, hr⟩ := Lc hr
    refine tq hΓ [] [0, 1] ?_ (by simp [h14]; exact rr)
    refine tq hΓ [4] [5] ?_ (by simp; exact rr)
    obtain rfl := La hr
    exact AWp.ret (Le (by simp))

@[simp] noncomputable def gz.S : Sp
  | [.ptr i0 0, .lit (.int .i64 x1)], M => (rdB M i0).bind fun c0 => some { av := .lit (.string (((gz (Tj.dec c0) x1).getD dflt).1)), M := some (M.set i0 (.blk [.lit (.string (((gz (Tj.dec c0) x1).getD dflt).2.fS)), .lit (.int .i64 (((gz (Tj.dec c0) x1).getD dflt).2.fE))])), obl := c0 = Tj.enc (Tj.dec c0) ∧ (gz (Tj.dec c0) x1).isSome = true }
  | _, _ => none

theorem gz.ok : SpecOk Tryz.prog 37 gz.S := by
 intro l M out h
 unfold gz.S at h
 split at h
 ·rename_i i0 x1
  obtain ⟨c0, hM0, h⟩ := bB h
  cases h
  refine callOk_of fun ho => ?_
  obtain ⟨oc0, hs⟩ := ho
  generalize (Tj.dec c0) = y0 at *
  subst oc0
  obtain ⟨r, hr⟩ := so1 hs
  simp only [hr, gd1]
  have q := Lh (M := M) [i0] (gz.can y0 x1 r hr) (by simp) rfl (ix (by simp [hM0]) ixn)
  exact callOk_conv q trivial (by simp [into]) (by simp [frameOut]) (by simp [frameOut])
 ·cases h

@[simp] def gj.m (x0 : Tj) (_x1 : Int) : List AObj := [.blk x0.enc]
@[simp] def gj.out (_x0 : Tj) (_x1 : Int) (r : Int × Tj) : Out := { av := .lit (.int .u64 r.1), M := some [.blk [.lit (.string r.2.fS), .lit (.int .i64 r.2.fE)]] }
def gj.fin (x0 : Tj) (x1 : Int) (r : Int × Tj) (σ : St) : Prop := finK (gj.out x0 x1 r) (gj.m x0 x1) σ.M (resA Tryz.ty σ.A σ.M Tryz.f76.results.toList)
theorem gj.can (x0 : Tj) (x1 : Int) (r : Int × Tj) (hr : gj x0 x1 = some r) : CallOk Tryz.prog 76 [.ptr 0 0, .lit (.int .i64 x1)] (gj.m x0 x1) (gj.out x0 x1 r) := by
 unfold gj at hr
 have hΓ := (gamL_cons gz.ok (gamL_nil) : GamOk Tryz.prog _)
 refine cw Tryz.func76 rfl (by kernel_rfl) rfl rfl (by simp) fun _ _ _ => ?_
 refine tq hΓ [] [] ?_
 refine tq hΓ [5] [] ?_
 refine AWp.seq ?_
 obtain ⟨r1, h5, hr⟩ := Lb hr
 refine tq hΓ [13, 14, 15] [0, 1] ?_ (by simp [h5]; exact rr)
 refine AWp.loopE (fun (s1 : Int × Int) (γ1 : Unit) => ⟨[⟨13, none, .sl ((numsOf r1.1).map (eNum .u8)) .no⟩, ⟨14, none, .n (lenL (numsOf r1.1))⟩, ⟨15, none, .n s1.1⟩, ⟨5, none, .lit (.int .u64 s1.2)⟩], [.blk r1.2.enc]⟩) (fun (v1 : Int) (γ1a : Unit) => ⟨[⟨5, none, .lit (.int .u64 v1)⟩], [.blk r1.2.enc]⟩) (gj.fin x0 x1) hr () 1 (by simp) (fun s1 f γ1 hr => ?_) (fun v1 γ1a σ1 m1 hr hc => ?_) (fun _ h => h)
 ·unfold gj.loop1 at hr
  refine tq hΓ [16] [] ?_ (by simp; exact rr)
  refine AWp.seq ?_
  refine AWp.cnd hr (by simp) (fun h6 hr => ?_) (fun h6 hr => ?_)
  ·refine AWp.skip ?_
   refine AWp.seq ?_
   refine AWp.block ?_
   obtain ⟨h7, hr⟩ := Lc hr
   refine tq hΓ [7] [16] ?_ (by simp [h6, h7]; exact rr)
   obtain ⟨h8, hr⟩ := Lc hr
   refine tl hΓ [5] [7] ?_ (by simp [h8]; exact rr)
   refine tl hΓ [15] [] ?_ (by simp; exact rr)
   obtain rfl := La hr
   exact Lk () 1 (by first | (simp; done) | simp [h5, h6, h7, h8])
  ·refine AWp.exit ?_
   obtain rfl := La hr
   exact Ln () 1 (by first | (simp; done) | simp [h5, h6])
 ·refine AWp.conv hc ?_
  refine tq hΓ [4] [5] ?_ (by simp; exact rr)
  obtain rfl := La hr
  exact AWp.ret (Le (by simp))

@[simp] noncomputable def gj.S : Sp
  | [.ptr i0 0, .lit (.int .i64 x1)], M => (rdB M i0).bind fun c0 => some { av := .lit (.int .u64 (((gj (Tj.dec c0) x1).getD dflt).1)), M := some (M.set i0 (.blk [.lit (.string (((gj (Tj.dec c0) x1).getD dflt).2.fS)), .lit (.int .i64 (((gj (Tj.dec c0) x1).getD dflt).2.fE))])), obl := c0 = Tj.enc (Tj.dec c0) ∧ (gj (Tj.dec c0) x1).isSome = true }
  | _, _ => none

theorem gj.ok : SpecOk Tryz.prog 76 gj.S := by
 intro l M out h
 unfold gj.S at h
 split at h
 ·rename_i i0 x1
  obtain ⟨c0, hM0, h⟩ := bB h
  cases h
  refine callOk_of fun ho => ?_
  obtain ⟨oc0, hs⟩ := ho
  generalize (Tj.dec c0) = y0 at *
  subst oc0
  obtain ⟨r, hr⟩ := so1 hs
  simp only [hr, gd1]
  have q := Lh (M := M) [i0] (gj.can y0 x1 r hr) (by simp) rfl (ix (by simp [hM0]) ixn)
  exact callOk_conv q trivial (by simp [into]) (by simp [frameOut]) (by simp [frameOut])
 ·cases h

@[simp] def gac.m (x0 : Tj) : List AObj := [.blk x0.enc]
@[simp] def gac.out (_x0 : Tj) (r : Int × Tj) : Out := { av := .lit (.int .u8 r.1), M := some [.blk [.lit (.string r.2.fS), .lit (.int .i64 r.2.fE)]] }
theorem gac.can (x0 : Tj) (r : Int × Tj) (hr : gac x0 = some r) : CallOk Tryz.prog 33 [.ptr 0 0] (gac.m x0) (gac.out x0 r) := by
 unfold gac at hr
 have hΓ := (gamL_cons gj.ok (gamL_nil) : GamOk Tryz.prog _)
 refine cw Tryz.func33 rfl (by kernel_rfl) rfl rfl (by simp) fun _ _ _ => ?_
 refine tq hΓ [] [] ?_
 obtain ⟨r1, h2, hr⟩ := Lb hr
 refine tq hΓ [2] [0] ?_ (by simp [h2]; exact rr)
 obtain rfl := La hr
 exact AWp.ret (Le (by simp))

@[simp] noncomputable def gac.S : Sp
  | [.ptr i0 0], M => (rdB M i0).bind fun c0 => some { av := .lit (.int .u8 (((gac (Tj.dec c0)).getD dflt).1)), M := some (M.set i0 (.blk [.lit (.string (((gac (Tj.dec c0)).getD dflt).2.fS)), .lit (.int .i64 (((gac (Tj.dec c0)).getD dflt).2.fE))])), obl := c0 = Tj.enc (Tj.dec c0) ∧ (gac (Tj.dec c0)).isSome = true }
  | _, _ => none

theorem gac.ok : SpecOk Tryz.prog 33 gac.S := by
 intro l M out h
 unfold gac.S at h
 split at h
 ·rename_i i0
  obtain ⟨c0, hM0, h⟩ := bB h
  cases h
  refine callOk_of fun ho => ?_
  obtain ⟨oc0, hs⟩ := ho
  generalize (Tj.dec c0) = y0 at *
  subst oc0
  obtain ⟨r, hr⟩ := so1 hs
  simp only [hr, gd1]
  have q := Lh (M := M) [i0] (gac.can y0 r hr) (by simp) rfl (ix (by simp [hM0]) ixn)
  exact callOk_conv q trivial (by simp [into]) (by simp [frameOut]) (by simp [frameOut])
 ·cases h

@[simp] def gM.m (x0 : Tj) : List AObj := [.blk x0.enc]
@[simp] def gM.out (_x0 : Tj) (r : Int × Tj) : Out := { av := .lit (.int .u16 r.1), M := some [.blk [.lit (.string r.2.fS), .lit (.int .i64 r.2.fE)]] }
theorem gM.can (x0 : Tj) (r : Int × Tj) (hr : gM x0 = some r) : CallOk Tryz.prog 35 [.ptr 0 0] (gM.m x0) (gM.out x0 r) := by
 unfold gM at hr
 have hΓ := (gamL_cons gj.ok (gamL_nil) : GamOk Tryz.prog _)
 refine cw Tryz.func35 rfl (by kernel_rfl) rfl rfl (by simp) fun _ _ _ => ?_
 refine tq hΓ [] [] ?_
 obtain ⟨r1, h2, hr⟩ := Lb hr
 refine tq hΓ [2] [0] ?_ (by simp [h2]; exact rr)
 obtain rfl := La hr
 exact AWp.ret (Le (by simp))

@[simp] noncomputable def gM.S : Sp
  | [.ptr i0 0], M => (rdB M i0).bind fun c0 => some { av := .lit (.int .u16 (((gM (Tj.dec c0)).getD dflt).1)), M := some (M.set i0 (.blk [.lit (.string (((gM (Tj.dec c0)).getD dflt).2.fS)), .lit (.int .i64 (((gM (Tj.dec c0)).getD dflt).2.fE))])), obl := c0 = Tj.enc (Tj.dec c0) ∧ (gM (Tj.dec c0)).isSome = true }
  | _, _ => none

theorem gM.ok : SpecOk Tryz.prog 35 gM.S := by
 intro l M out h
 unfold gM.S at h
 split at h
 ·rename_i i0
  obtain ⟨c0, hM0, h⟩ := bB h
  cases h
  refine callOk_of fun ho => ?_
  obtain ⟨oc0, hs⟩ := ho
  generalize (Tj.dec c0) = y0 at *
  subst oc0
  obtain ⟨r, hr⟩ := so1 hs
  simp only [hr, gd1]
  have q := Lh (M := M) [i0] (gM.can y0 r hr) (by simp) rfl (ix (by simp [hM0]) ixn)
  exact callOk_conv q trivial (by simp [into]) (by simp [frameOut]) (by simp [frameOut])
 ·cases h

@[simp] def gN.m (x0 : Tj) : List AObj := [.blk x0.enc]
@[simp] def gN.out (_x0 : Tj) (r : Int × Tj) : Out := { av := .lit (.int .u32 r.1), M := some [.blk [.lit (.string r.2.fS), .lit (.int .i64 r.2.fE)]] }
theorem gN.can (x0 : Tj) (r : Int × Tj) (hr : gN x0 = some r) : CallOk Tryz.prog 36 [.ptr 0 0] (gN.m x0) (gN.out x0 r) := by
 unfold gN at hr
 have hΓ := (gamL_cons gj.ok (gamL_nil) : GamOk Tryz.prog _)
 refine cw Tryz.func36 rfl (by kernel_rfl) rfl rfl (by simp) fun _ _ _ => ?_
 refine tq hΓ [] [] ?_
 obtain ⟨r1, h2, hr⟩ := Lb hr
 refine tq hΓ [2] [0] ?_ (by simp [h2]; exact rr)
 obtain rfl := La hr
 exact AWp.ret (Le (by simp))

@[simp] noncomputable def gN.S : Sp
  | [.ptr i0 0], M => (rdB M i0).bind fun c0 => some { av := .lit (.int .u32 (((gN (Tj.dec c0)).getD dflt).1)), M := some (M.set i0 (.blk [.lit (.string (((gN (Tj.dec c0)).getD dflt).2.fS)), .lit (.int .i64 (((gN (Tj.dec c0)).getD dflt).2.fE))])), obl := c0 = Tj.enc (Tj.dec c0) ∧ (gN (Tj.dec c0)).isSome = true }
  | _, _ => none

theorem gN.ok : SpecOk Tryz.prog 36 gN.S := by
 intro l M out h
 unfold gN.S at h
 split at h
 ·rename_i i0
  obtain ⟨c0, hM0, h⟩ := bB h
  cases h
  refine callOk_of fun ho => ?_
  obtain ⟨oc0, hs⟩ := ho
  generalize (Tj.dec c0) = y0 at *
  subst oc0
  obtain ⟨r, hr⟩ := so1 hs
  simp only [hr, gd1]
  have q := Lh (M := M) [i0] (gN.can y0 r hr) (by simp) rfl (ix (by simp [hM0]) ixn)
  exact callOk_conv q trivial (by simp [into]) (by simp [frameOut]) (by simp [frameOut])
 ·cases h

@[simp] def gP.m (x0 : Tj) : List AObj := [.blk x0.enc]
@[simp] def gP.out (_x0 : Tj) (r : ByteArray × Tj) : Out := { av := .lit (.string r.1), M := some [.blk [.lit (.string r.2.fS), .lit (.int .i64 r.2.fE)]] }
theorem gP.can (x0 : Tj) (r : ByteArray × Tj) (hr : gP x0 = some r) : CallOk Tryz.prog 38 [.ptr 0 0] (gP.m x0) (gP.out x0 r) := by
 unfold gP at hr
 have hΓ := (gamL_cons gz.ok (gamL_cons gah.ok (gamL_nil)) : GamOk Tryz.prog _)
 refine cw Tryz.func38 rfl (by kernel_rfl) rfl rfl (by simp) fun _ _ _ => ?_
 refine tq hΓ [] [] ?_
 obtain ⟨r1, h3, hr⟩ := Lb hr
 obtain ⟨r2, h4, hr⟩ := Lb hr
 refine tq hΓ [2] [0] ?_ (by simp [h3, h4]; exact rr)
 obtain rfl := La hr
 exact AWp.ret (Le (by simp))

@[simp] noncomputable def gP.S : Sp
  | [.ptr i0 0], M => (rdB M i0).bind fun c0 => some { av := .lit (.string (((gP (Tj.dec c0)).getD dflt).1)), M := some (M.set i0 (.blk [.lit (.string (((gP (Tj.dec c0)).getD dflt).2.fS)), .lit (.int .i64 (((gP (Tj.dec c0)).getD dflt).2.fE))])), obl := c0 = Tj.enc (Tj.dec c0) ∧ (gP (Tj.dec c0)).isSome = true }
  | _, _ => none

theorem gP.ok : SpecOk Tryz.prog 38 gP.S := by
 intro l M out h
 unfold gP.S at h
 split at h
 ·rename_i i0
  obtain ⟨c0, hM0, h⟩ := bB h
  cases h
  refine callOk_of fun ho => ?_
  obtain ⟨oc0, hs⟩ := ho
  generalize (Tj.dec c0) = y0 at *
  subst oc0
  obtain ⟨r, hr⟩ := so1 hs
  simp only [hr, gd1]
  have q := Lh (M := M) [i0] (gP.can y0 r hr) (by simp) rfl (ix (by simp [hM0]) ixn)
  exact callOk_conv q trivial (by simp [into]) (by simp [frameOut]) (by simp [frameOut])
 ·cases h
end Go.Proofs

/- That these functions compute what their plain functions do. No condition. -/
import Derived.Test.YtpjplfnapgpfmaaGreatM05
import Derived.Test.YtpjplfnapgpfmaaGreatTy
set_option maxRecDepth 100000
set_option maxHeartbeats 4000000
namespace Go.Proofs
open Go.Ab
@[simp] def gaR.out (_x0 : ByteArray) (r : Tk) : Out := { av := .ptr 0 0, M := some [.blk [.lit (.string r.fS), .lit (.int .i64 r.fE)]] }
theorem gaR.can (x0 : ByteArray) (r : Tk) (hr : gaR x0 = some r) : CallOk Tryz.prog 32 [.lit (.string x0)] [] (gaR.out x0 r) := by
 unfold gaR at hr
 have hΓ := gamL_nil (P := Tryz.prog)
 refine cw Tryz.func32 rfl (by kernel_rfl) rfl rfl (by simp) fun _ _ _ => ?_
 refine tq hΓ [] [] ?_
 refine tq hΓ [2] [0] ?_
 obtain rfl := La hr
 exact AWp.ret (Le (by simp))

@[simp] noncomputable def gaR.S : Sp
  | [.lit (.string x0)], M => some { av := .ptr M.length 0, M := some (M ++ [.blk [.lit (.string (((gaR x0).getD dflt).fS)), .lit (.int .i64 (((gaR x0).getD dflt).fE))]]), obl := (gaR x0).isSome = true }
  | _, _ => none

theorem gaR.ok : SpecOk Tryz.prog 32 gaR.S := by
 intro l M out h
 unfold gaR.S at h
 split at h
 ·rename_i x0
  cases h
  refine callOk_of fun ho => ?_
  have hs := ho
  obtain ⟨r, hr⟩ := so1 hs
  simp only [hr, gd1]
  have q := Lg (M := M) [] (gaR.can x0 r hr) (by simp) rfl ixn
  exact callOk_conv q trivial (by simp) (by simp [frameOut, into]) (by simp [frameOut, into])
 ·cases h

@[simp] def gaa.m (x0 : Tk) : List AObj := [.blk x0.enc]
@[simp] def gaa.out (_x0 : Tk) (r : Int) : Out := { av := .lit (.int .i64 r), M := none }
theorem gaa.can (x0 : Tk) (r : Int) (hr : gaa x0 = some r) : CallOk Tryz.prog 34 [.ptr 0 0] (gaa.m x0) (gaa.out x0 r) := by
 unfold gaa at hr
 have hΓ := gamL_nil (P := Tryz.prog)
 refine cw Tryz.func34 rfl (by kernel_rfl) rfl rfl (by simp) fun _ _ _ => ?_
 refine tq hΓ [] [] ?_
 refine tq hΓ [2] [0] ?_
 obtain rfl := La hr
 exact AWp.ret (Le (by simp))

@[simp] noncomputable def gaa.S : Sp
  | [.ptr i0 0], M => (rdB M i0).bind fun c0 => some { av := .lit (.int .i64 ((gaa (Tk.dec c0)).getD dflt)), M := none, obl := c0 = Tk.enc (Tk.dec c0) ∧ (gaa (Tk.dec c0)).isSome = true }
  | _, _ => none

theorem gaa.ok : SpecOk Tryz.prog 34 gaa.S := by
 intro l M out h
 unfold gaa.S at h
 split at h
 ·rename_i i0
  obtain ⟨c0, hM0, h⟩ := bB h
  cases h
  refine callOk_of fun ho => ?_
  obtain ⟨oc0, hs⟩ := ho
  generalize (Tk.dec c0) = y0 at *
  subst oc0
  obtain ⟨r, hr⟩ := so1 hs
  simp only [hr, gd1]
  have q := Lg (M := M) [i0] (gaa.can y0 r hr) (by simp) rfl (ix (by simp [hM0]) ixn)
  exact callOk_conv q trivial (by simp [into]) (by simp [frameOut]) (by simp only [frameOut, gaa.out, Option.getD_some, Option.getD_none]; simp [hM0, set_same])
 ·cases h

@[simp] def gJ.m (x0 : Tk) (_x1 : Int) : List AObj := [.blk x0.enc]
@[simp] def gJ.out (_x0 : Tk) (_x1 : Int) (r : Tk) : Out := { av := .tup [], M := some [.blk [.lit (.string r.fS), .lit (.int .i64 r.fE)]] }
theorem gJ.can (x0 : Tk) (x1 : Int) (r : Tk) (hr : gJ x0 x1 = some r) : CallOk Tryz.prog 40 [.ptr 0 0, .lit (.int .i64 x1)] (gJ.m x0 x1) (gJ.out x0 x1 r) := by
 unfold gJ at hr
 have hΓ := gamL_nil (P := Tryz.prog)
 refine cw Tryz.func40 rfl (by kernel_rfl) rfl rfl (by simp) fun _ _ _ => ?_
 refine tq hΓ [12] [] ?_
 refine AWp.cnd hr (by simp) (fun h2 hr => ?_) (fun h2 hr => ?_)
 ·refine tl hΓ [] [12, 0, 1] ?_ (by simp [h2]; exact rr)
  obtain rfl := La hr
  exact fin_norm (by simp)
 ·refine AWp.skip ?_
  obtain rfl := La hr
  exact fin_norm (by simp)

@[simp] noncomputable def gJ.S : Sp
  | [.ptr i0 0, .lit (.int .i64 x1)], M => (rdB M i0).bind fun c0 => some { av := .tup [], M := some (M.set i0 (.blk [.lit (.string (((gJ (Tk.dec c0) x1).getD dflt).fS)), .lit (.int .i64 (((gJ (Tk.dec c0) x1).getD dflt).fE))])), obl := c0 = Tk.enc (Tk.dec c0) ∧ (gJ (Tk.dec c0) x1).isSome = true }
  | _, _ => none

theorem gJ.ok : SpecOk Tryz.prog 40 gJ.S := by
 intro l M out h
 unfold gJ.S at h
 split at h
 ·rename_i i0 x1
  obtain ⟨c0, hM0, h⟩ := bB h
  cases h
  refine callOk_of fun ho => ?_
  obtain ⟨oc0, hs⟩ := ho
  generalize (Tk.dec c0) = y0 at *
  subst oc0
  obtain ⟨r, hr⟩ := so1 hs
  simp only [hr, gd1]
  have q := Lg (M := M) [i0] (gJ.can y0 x1 r hr) (by simp) rfl (ix (by simp [hM0]) ixn)
  exact callOk_conv q trivial (by simp [into]) (by simp [frameOut]) (by simp [frameOut])
 ·cases h

@[simp] def gak.m (x0 : Tk) : List AObj := [.blk x0.enc]
@[simp] def gak.out (_x0 : Tk) (r : Int) : Out := { av := .lit (.int .i64 r), M := none }
theorem gak.can (x0 : Tk) (r : Int) (hr : gak x0 = some r) : CallOk Tryz.prog 77 [.ptr 0 0] (gak.m x0) (gak.out x0 r) := by
 unfold gak at hr
 have hΓ := gamL_nil (P := Tryz.prog)
 refine cw Tryz.func77 rfl (by kernel_rfl) rfl rfl (by simp) fun _ _ _ => ?_
 refine tq hΓ [] [] ?_
 refine tq hΓ [2] [0] ?_
 obtain rfl := La hr
 exact AWp.ret (Le (by simp))

@[simp] noncomputable def gak.S : Sp
  | [.ptr i0 0], M => (rdB M i0).bind fun c0 => some { av := .lit (.int .i64 ((gak (Tk.dec c0)).getD dflt)), M := none, obl := c0 = Tk.enc (Tk.dec c0) ∧ (gak (Tk.dec c0)).isSome = true }
  | _, _ => none

theorem gak.ok : SpecOk Tryz.prog 77 gak.S := by
 intro l M out h
 unfold gak.S at h
 split at h
 ·rename_i i0
  obtain ⟨c0, hM0, h⟩ := bB h
  cases h
  refine callOk_of fun ho => ?_
  obtain ⟨oc0, hs⟩ := ho
  generalize (Tk.dec c0) = y0 at *
  subst oc0
  obtain ⟨r, hr⟩ := so1 hs
  simp only [hr, gd1]
  have q := Lg (M := M) [i0] (gak.can y0 r hr) (by simp) rfl (ix (by simp [hM0]) ixn)
  exact callOk_conv q trivial (by simp [into]) (by simp [frameOut]) (by simp only [frameOut, gak.out, Option.getD_some, Option.getD_none]; simp [hM0, set_same])
 ·cases h

@[simp] def gz.m (x0 : Tk) (_x1 : Int) : List AObj := [.blk x0.enc]
@[simp] def gz.out (_x0 : Tk) (_x1 : Int) (r : ByteArray × Tk) : Out := { av := .lit (.string r.1), M := some [.blk [.lit (.string r.2.fS), .lit (.int .i64 r.2.fE)]] }
theorem gz.can (x0 : Tk) (x1 : Int) (r : ByteArray × Tk) (hr : gz x0 x1 = some r) : CallOk Tryz.prog 37 [.ptr 0 0, .lit (.int .i64 x1)] (gz.m x0 x1) (gz.out x0 x1 r) := by
 unfold gz at hr
 have hΓ := (gamL_cons gJ.ok (gamL_nil) : GamOk Tryz.prog _)
 refine cw Tryz.func37 rfl (by kernel_rfl) rfl rfl (by simp) fun _ _ _ => ?_
 refine tq hΓ [] [] ?_
 refine AWp.seq ?_
 refine AWp.block ?_
 refine tq hΓ [6] [] ?_
 refine AWp.cnd hr (by simp) (fun h8 hr => ?_) (fun h8 hr => ?_)
 ·refine tq hΓ [4] [6, 0, 1] ?_ (by simp [h8]; exact rr)
  obtain rfl := La hr
  exact AWp.ret (Le (by simp))
 ·refine tq hΓ [12] [6] ?_ (by simp [h8]; exact rr)
  refine AWp.cnd hr (by simp) (fun h9 hr => ?_) (fun h9 hr => ?_)
  ·obtain ⟨r1, h10, hr⟩ := Lb hr
   refine tq hΓ [] [12, 0, 1] ?_ (by simp [h9, h10]; exact rr)
   refine tq hΓ [4] [] ?_ (by simp; exact rr)
   obtain rfl := La hr
   exact AWp.ret (Le (by simp))
  ·refine tq hΓ [17] [12] ?_ (by simp [h9]; exact rr)
   refine AWp.cnd hr (by simp) (fun h11 hr => ?_) (fun h11 hr => ?_)
   ·obtain ⟨r2, h12, hr⟩ := Lb hr
    refine tq hΓ [] [17, 0, 1] ?_ (by simp [h11, h12]; exact rr)
    refine tq hΓ [4] [] ?_ (by simp; exact rr)
    obtain rfl := La hr
    exact AWp.ret (Le (by simp))
   ·refine AWp.skip ?_
    obtain ⟨h13, hr⟩ := Lc hr
    refine tq hΓ [5] [17] ?_ (by simp [h11, h13]; exact rr)
    obtain ⟨h14, hr⟩ := Lc hr
    refine tq hΓ [] [0, 1] ?_ (by simp [h14]; exact rr)
    refine tq hΓ [4] [5] ?_ (by simp; exact rr)
    obtain rfl := La hr
    exact AWp.ret (Le (by simp))

@[simp] noncomputable def gz.S : Sp
  | [.ptr i0 0, .lit (.int .i64 x1)], M => (rdB M i0).bind fun c0 => some { av := .lit (.string (((gz (Tk.dec c0) x1).getD dflt).1)), M := some (M.set i0 (.blk [.lit (.string (((gz (Tk.dec c0) x1).getD dflt).2.fS)), .lit (.int .i64 (((gz (Tk.dec c0) x1).getD dflt).2.fE))])), obl := c0 = Tk.enc (Tk.dec c0) ∧ (gz (Tk.dec c0) x1).isSome = true }
  | _, _ => none

theorem gz.ok : SpecOk Tryz.prog 37 gz.S := by
 intro l M out h
 unfold gz.S at h
 split at h
 ·rename_i i0 x1
  obtain ⟨c0, hM0, h⟩ := bB h
  cases h
  refine callOk_of fun ho => ?_
  obtain ⟨oc0, hs⟩ := ho
  generalize (Tk.dec c0) = y0 at *
  subst oc0
  obtain ⟨r, hr⟩ := so1 hs
  simp only [hr, gd1]
  have q := Lg (M := M) [i0] (gz.can y0 x1 r hr) (by simp) rfl (ix (by simp [hM0]) ixn)
  exact callOk_conv q trivial (by simp [into]) (by simp [frameOut]) (by simp [frameOut])
 ·cases h

@[simp] def gk.m (x0 : Tk) (_x1 : Int) : List AObj := [.blk x0.enc]
@[simp] def gk.out (_x0 : Tk) (_x1 : Int) (r : Int × Tk) : Out := { av := .lit (.int .u64 r.1), M := some [.blk [.lit (.string r.2.fS), .lit (.int .i64 r.2.fE)]] }
def gk.fin (x0 : Tk) (x1 : Int) (r : Int × Tk) (σ : St) : Prop := finK (gk.out x0 x1 r) (gk.m x0 x1) σ.M (resA Tryz.ty σ.A σ.M Tryz.f76.results.toList)
theorem gk.can (x0 : Tk) (x1 : Int) (r : Int × Tk) (hr : gk x0 x1 = some r) : CallOk Tryz.prog 76 [.ptr 0 0, .lit (.int .i64 x1)] (gk.m x0 x1) (gk.out x0 x1 r) := by
 unfold gk at hr
 have hΓ := (gamL_cons gz.ok (gamL_nil) : GamOk Tryz.prog _)
 refine cw Tryz.func76 rfl (by kernel_rfl) rfl rfl (by simp) fun _ _ _ => ?_
 refine tq hΓ [] [] ?_
 refine tq hΓ [5] [] ?_
 refine AWp.seq ?_
 obtain ⟨r1, h5, hr⟩ := Lb hr
 refine tq hΓ [13, 14, 15] [0, 1] ?_ (by simp [h5]; exact rr)
 refine AWp.loopE (fun (s1 : Int × Int) (γ1 : Unit) => ⟨[⟨13, none, .sl ((numsOf r1.1).map (eNum .u8)) .no⟩, ⟨14, none, .n (lenL (numsOf r1.1))⟩, ⟨15, none, .n s1.1⟩, ⟨5, none, .lit (.int .u64 s1.2)⟩], [.blk r1.2.enc]⟩) (fun (v1 : Int) (γ1a : Unit) => ⟨[⟨5, none, .lit (.int .u64 v1)⟩], [.blk r1.2.enc]⟩) (gk.fin x0 x1) hr () 1 (by simp) (fun s1 f γ1 hr => ?_) (fun v1 γ1a σ1 m1 hr hc => ?_) (fun _ h => h)
 ·unfold gk.loop1 at hr
  refine tq hΓ [16] [] ?_ (by simp; exact rr)
  refine AWp.seq ?_
  refine AWp.cnd hr (by simp) (fun h6 hr => ?_) (fun h6 hr => ?_)
  ·refine AWp.skip ?_
   refine AWp.seq ?_
   refine AWp.block ?_
   obtain ⟨h7, hr⟩ := Lc hr
   refine tq hΓ [7] [16] ?_ (by simp [h6, h7]; exact rr)
   obtain ⟨h8, hr⟩ := Lc hr
   refine tl hΓ [5] [7] ?_ (by simp [h8]; exact rr)
   refine tl hΓ [15] [] ?_ (by simp; exact rr)
   obtain rfl := La hr
   exact Lk () 1 (by first | (simp; done) | simp [h5, h6, h7, h8])
  ·refine AWp.exit ?_
   obtain rfl := La hr
   exact Ln () 1 (by first | (simp; done) | simp [h5, h6])
 ·refine AWp.conv hc ?_
  refine tq hΓ [4] [5] ?_ (by simp; exact rr)
  obtain rfl := La hr
  exact AWp.ret (Le (by simp))

@[simp] noncomputable def gk.S : Sp
  | [.ptr i0 0, .lit (.int .i64 x1)], M => (rdB M i0).bind fun c0 => some { av := .lit (.int .u64 (((gk (Tk.dec c0) x1).getD dflt).1)), M := some (M.set i0 (.blk [.lit (.string (((gk (Tk.dec c0) x1).getD dflt).2.fS)), .lit (.int .i64 (((gk (Tk.dec c0) x1).getD dflt).2.fE))])), obl := c0 = Tk.enc (Tk.dec c0) ∧ (gk (Tk.dec c0) x1).isSome = true }
  | _, _ => none

theorem gk.ok : SpecOk Tryz.prog 76 gk.S := by
 intro l M out h
 unfold gk.S at h
 split at h
 ·rename_i i0 x1
  obtain ⟨c0, hM0, h⟩ := bB h
  cases h
  refine callOk_of fun ho => ?_
  obtain ⟨oc0, hs⟩ := ho
  generalize (Tk.dec c0) = y0 at *
  subst oc0
  obtain ⟨r, hr⟩ := so1 hs
  simp only [hr, gd1]
  have q := Lg (M := M) [i0] (gk.can y0 x1 r hr) (by simp) rfl (ix (by simp [hM0]) ixn)
  exact callOk_conv q trivial (by simp [into]) (by simp [frameOut]) (by simp [frameOut])
 ·cases h

@[simp] def gad.m (x0 : Tk) : List AObj := [.blk x0.enc]
@[simp] def gad.out (_x0 : Tk) (r : Int × Tk) : Out := { av := .lit (.int .u8 r.1), M := some [.blk [.lit (.string r.2.fS), .lit (.int .i64 r.2.fE)]] }
theorem gad.can (x0 : Tk) (r : Int × Tk) (hr : gad x0 = some r) : CallOk Tryz.prog 33 [.ptr 0 0] (gad.m x0) (gad.out x0 r) := by
 unfold gad at hr
 have hΓ := (gamL_cons gk.ok (gamL_nil) : GamOk Tryz.prog _)
 refine cw Tryz.func33 rfl (by kernel_rfl) rfl rfl (by simp) fun _ _ _ => ?_
 refine tq hΓ [] [] ?_
 obtain ⟨r1, h2, hr⟩ := Lb hr
 refine tq hΓ [2] [0] ?_ (by simp [h2]; exact rr)
 obtain rfl := La hr
 exact AWp.ret (Le (by simp))

@[simp] noncomputable def gad.S : Sp
  | [.ptr i0 0], M => (rdB M i0).bind fun c0 => some { av := .lit (.int .u8 (((gad (Tk.dec c0)).getD dflt).1)), M := some (M.set i0 (.blk [.lit (.string (((gad (Tk.dec c0)).getD dflt).2.fS)), .lit (.int .i64 (((gad (Tk.dec c0)).getD dflt).2.fE))])), obl := c0 = Tk.enc (Tk.dec c0) ∧ (gad (Tk.dec c0)).isSome = true }
  | _, _ => none

theorem gad.ok : SpecOk Tryz.prog 33 gad.S := by
 intro l M out h
 unfold gad.S at h
 split at h
 ·rename_i i0
  obtain ⟨c0, hM0, h⟩ := bB h
  cases h
  refine callOk_of fun ho => ?_
  obtain ⟨oc0, hs⟩ := ho
  generalize (Tk.dec c0) = y0 at *
  subst oc0
  obtain ⟨r, hr⟩ := so1 hs
  simp only [hr, gd1]
  have q := Lg (M := M) [i0] (gad.can y0 r hr) (by simp) rfl (ix (by simp [hM0]) ixn)
  exact callOk_conv q trivial (by simp [into]) (by simp [frameOut]) (by simp [frameOut])
 ·cases h

@[simp] def gN.m (x0 : Tk) : List AObj := [.blk x0.enc]
@[simp] def gN.out (_x0 : Tk) (r : Int × Tk) : Out := { av := .lit (.int .u16 r.1), M := some [.blk [.lit (.string r.2.fS), .lit (.int .i64 r.2.fE)]] }
theorem gN.can (x0 : Tk) (r : Int × Tk) (hr : gN x0 = some r) : CallOk Tryz.prog 35 [.ptr 0 0] (gN.m x0) (gN.out x0 r) := by
 unfold gN at hr
 have hΓ := (gamL_cons gk.ok (gamL_nil) : GamOk Tryz.prog _)
 refine cw Tryz.func35 rfl (by kernel_rfl) rfl rfl (by simp) fun _ _ _ => ?_
 refine tq hΓ [] [] ?_
 obtain ⟨r1, h2, hr⟩ := Lb hr
 refine tq hΓ [2] [0] ?_ (by simp [h2]; exact rr)
 obtain rfl := La hr
 exact AWp.ret (Le (by simp))

@[simp] noncomputable def gN.S : Sp
  | [.ptr i0 0], M => (rdB M i0).bind fun c0 => some { av := .lit (.int .u16 (((gN (Tk.dec c0)).getD dflt).1)), M := some (M.set i0 (.blk [.lit (.string (((gN (Tk.dec c0)).getD dflt).2.fS)), .lit (.int .i64 (((gN (Tk.dec c0)).getD dflt).2.fE))])), obl := c0 = Tk.enc (Tk.dec c0) ∧ (gN (Tk.dec c0)).isSome = true }
  | _, _ => none

theorem gN.ok : SpecOk Tryz.prog 35 gN.S := by
 intro l M out h
 unfold gN.S at h
 split at h
 ·rename_i i0
  obtain ⟨c0, hM0, h⟩ := bB h
  cases h
  refine callOk_of fun ho => ?_
  obtain ⟨oc0, hs⟩ := ho
  generalize (Tk.dec c0) = y0 at *
  subst oc0
  obtain ⟨r, hr⟩ := so1 hs
  simp only [hr, gd1]
  have q := Lg (M := M) [i0] (gN.can y0 r hr) (by simp) rfl (ix (by simp [hM0]) ixn)
  exact callOk_conv q trivial (by simp [into]) (by simp [frameOut]) (by simp [frameOut])
 ·cases h

@[simp] def gO.m (x0 : Tk) : List AObj := [.blk x0.enc]
@[simp] def gO.out (_x0 : Tk) (r : Int × Tk) : Out := { av := .lit (.int .u32 r.1), M := some [.blk [.lit (.string r.2.fS), .lit (.int .i64 r.2.fE)]] }
theorem gO.can (x0 : Tk) (r : Int × Tk) (hr : gO x0 = some r) : CallOk Tryz.prog 36 [.ptr 0 0] (gO.m x0) (gO.out x0 r) := by
 unfold gO at hr
 have hΓ := (gamL_cons gk.ok (gamL_nil) : GamOk Tryz.prog _)
 refine cw Tryz.func36 rfl (by kernel_rfl) rfl rfl (by simp) fun _ _ _ => ?_
 refine tq hΓ [] [] ?_
 obtain ⟨r1, h2, hr⟩ := Lb hr
 refine tq hΓ [2] [0] ?_ (by simp [h2]; exact rr)
 obtain rfl := La hr
 exact AWp.ret (Le (by simp))

@[simp] noncomputable def gO.S : Sp
  | [.ptr i0 0], M => (rdB M i0).bind fun c0 => some { av := .lit (.int .u32 (((gO (Tk.dec c0)).getD dflt).1)), M := some (M.set i0 (.blk [.lit (.string (((gO (Tk.dec c0)).getD dflt).2.fS)), .lit (.int .i64 (((gO (Tk.dec c0)).getD dflt).2.fE))])), obl := c0 = Tk.enc (Tk.dec c0) ∧ (gO (Tk.dec c0)).isSome = true }
  | _, _ => none

theorem gO.ok : SpecOk Tryz.prog 36 gO.S := by
 intro l M out h
 unfold gO.S at h
 split at h
 ·rename_i i0
  obtain ⟨c0, hM0, h⟩ := bB h
  cases h
  refine callOk_of fun ho => ?_
  obtain ⟨oc0, hs⟩ := ho
  generalize (Tk.dec c0) = y0 at *
  subst oc0
  obtain ⟨r, hr⟩ := so1 hs
  simp only [hr, gd1]
  have q := Lg (M := M) [i0] (gO.can y0 r hr) (by simp) rfl (ix (by simp [hM0]) ixn)
  exact callOk_conv q trivial (by simp [into]) (by simp [frameOut]) (by simp [frameOut])
 ·cases h

@[simp] def gQ.m (x0 : Tk) : List AObj := [.blk x0.enc]
@[simp] def gQ.out (_x0 : Tk) (r : ByteArray × Tk) : Out := { av := .lit (.string r.1), M := some [.blk [.lit (.string r.2.fS), .lit (.int .i64 r.2.fE)]] }
theorem gQ.can (x0 : Tk) (r : ByteArray × Tk) (hr : gQ x0 = some r) : CallOk Tryz.prog 38 [.ptr 0 0] (gQ.m x0) (gQ.out x0 r) := by
 unfold gQ at hr
 have hΓ := (gamL_cons gz.ok (gamL_cons gak.ok (gamL_nil)) : GamOk Tryz.prog _)
 refine cw Tryz.func38 rfl (by kernel_rfl) rfl rfl (by simp) fun _ _ _ => ?_
 refine tq hΓ [] [] ?_
 obtain ⟨r1, h3, hr⟩ := Lb hr
 obtain ⟨r2, h4, hr⟩ := Lb hr
 refine tq hΓ [2] [0] ?_ (by simp [h3, h4]; exact rr)
 obtain rfl := La hr
 exact AWp.ret (Le (by simp))

@[simp] noncomputable def gQ.S : Sp
  | [.ptr i0 0], M => (rdB M i0).bind fun c0 => some { av := .lit (.string (((gQ (Tk.dec c0)).getD dflt).1)), M := some (M.set i0 (.blk [.lit (.string (((gQ (Tk.dec c0)).getD dflt).2.fS)), .lit (.int .i64 (((gQ (Tk.dec c0)).getD dflt).2.fE))])), obl := c0 = Tk.enc (Tk.dec c0) ∧ (gQ (Tk.dec c0)).isSome = true }
  | _, _ => none

theorem gQ.ok : SpecOk Tryz.prog 38 gQ.S := by
 intro l M out h
 unfold gQ.S at h
 split at h
 ·rename_i i0
  obtain ⟨c0, hM0, h⟩ := bB h
  cases h
  refine callOk_of fun ho => ?_
  obtain ⟨oc0, hs⟩ := ho
  generalize (Tk.dec c0) = y0 at *
  subst oc0
  obtain ⟨r, hr⟩ := so1 hs
  simp only [hr, gd1]
  have q := Lg (M := M) [i0] (gQ.can y0 r hr) (by simp) rfl (ix (by simp [hM0]) ixn)
  exact callOk_conv q trivial (by simp [into]) (by simp [frameOut]) (by simp [frameOut])
 ·cases h
end Go.Proofs

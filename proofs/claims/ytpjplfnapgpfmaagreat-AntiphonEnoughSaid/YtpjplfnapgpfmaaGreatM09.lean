/- That these functions compute what their plain functions do. No condition. -/
import Derived.Test.YtpjplfnapgpfmaaGreatM04
import Derived.Test.YtpjplfnapgpfmaaGreatTy
import Derived.Test.YtpjplfnapgpfmaaGreatM10
import Derived.Test.YtpjplfnapgpfmaaGreatOw
section
set_option maxRecDepth 100000
set_option maxHeartbeats 4000000
namespace Go.Proofs
open Go.Ab
@[simp] def gaF.out  (r : Tv) : Out := { av := .agg [.lit (.bool r.fT), .lit (.bool r.fV), .lit (.int .i64 r.fR), .lit (.int .i64 r.fF), .lit (.bool r.faa), .lit (.int .i64 r.fJ), .lit (.int .i64 r.fK), .lit (.bool r.fab), .lit (.int .i64 r.fy)], M := none }
theorem gaF.can  (r : Tv) (hr : gaF = some r) : CallOk Tryz.prog 14 [] [] (gaF.out  r) := by
 unfold gaF at hr
 have hΓ := gamL_nil (P := Tryz.prog)
 refine cw Tryz.func14 rfl (by kernel_rfl) rfl rfl (by simp) fun _ _ _ => ?_
 refine tq hΓ [0] [] ?_
 refine tq hΓ [] [] ?_
 obtain rfl := La hr
 exact AWp.ret (Le (by simp))

@[simp] noncomputable def gaF.S : Sp
  | [], _ => some { av := .agg [.lit (.bool ((gaF.getD dflt).fT)), .lit (.bool ((gaF.getD dflt).fV)), .lit (.int .i64 ((gaF.getD dflt).fR)), .lit (.int .i64 ((gaF.getD dflt).fF)), .lit (.bool ((gaF.getD dflt).faa)), .lit (.int .i64 ((gaF.getD dflt).fJ)), .lit (.int .i64 ((gaF.getD dflt).fK)), .lit (.bool ((gaF.getD dflt).fab)), .lit (.int .i64 ((gaF.getD dflt).fy))], M := none, obl := gaF.isSome = true }
  | _, _ => none

theorem gaF.ok : SpecOk Tryz.prog 14 gaF.S := by
 intro l M out h
 unfold gaF.S at h
 split at h
 ·cases h
  refine callOk_of fun ho => ?_
  have hs := ho
  obtain ⟨r, hr⟩ := so1 hs
  simp only [hr, gd1]
  have q := Lg (M := M) [] (gaF.can r hr) (by simp) rfl ixn
  exact callOk_conv q trivial (by simp) (by simp [frameOut]) (by simp [frameOut])
 ·cases h

@[simp] def gaS.out (_x0 : Bool) (_x1 : Int) (r : Int) : Out := { av := .lit (.int .u8 r), M := none }
theorem gaS.can (x0 : Bool) (x1 : Int) (r : Int) (hr : gaS x0 x1 = some r) : CallOk Tryz.prog 47 [.lit (.bool x0), .lit (.int .u8 x1)] [] (gaS.out x0 x1 r) := by
 unfold gaS at hr
 have hΓ := gamL_nil (P := Tryz.prog)
 refine cw Tryz.func47 rfl (by kernel_rfl) rfl rfl (by simp) fun _ _ _ => ?_
 refine tq hΓ [] [] ?_
 refine AWp.seq ?_
 refine tq hΓ [5] [0] ?_
 refine AWp.cnd hr (by simp) (fun h2 hr => ?_) (fun h2 hr => ?_)
 ·refine tq hΓ [4] [5, 1] ?_ (by simp [h2]; exact rr)
  obtain rfl := La hr
  exact AWp.ret (Le (by simp))
 ·refine AWp.skip ?_
  refine tq hΓ [4] [5, 1] ?_ (by simp [h2]; exact rr)
  obtain rfl := La hr
  exact AWp.ret (Le (by simp))

@[simp] noncomputable def gaS.S : Sp
  | [.lit (.bool x0), .lit (.int .u8 x1)], _ => some { av := .lit (.int .u8 ((gaS x0 x1).getD dflt)), M := none, obl := (gaS x0 x1).isSome = true }
  | _, _ => none

theorem gaS.ok : SpecOk Tryz.prog 47 gaS.S := by
 intro l M out h
 unfold gaS.S at h
 split at h
 ·rename_i x0 x1
  cases h
  refine callOk_of fun ho => ?_
  have hs := ho
  obtain ⟨r, hr⟩ := so1 hs
  simp only [hr, gd1]
  have q := Lg (M := M) [] (gaS.can x0 x1 r hr) (by simp) rfl ixn
  exact callOk_conv q trivial (by simp) (by simp [frameOut]) (by simp [frameOut])
 ·cases h

@[simp] def gaL.out (_x0 : Tv) (r : Bool) : Out := { av := .lit (.bool r), M := none }
theorem gaL.can (x0 : Tv) (r : Bool) (hr : gaL x0 = some r) : CallOk Tryz.prog 48 [.agg [.lit (.bool x0.fT), .lit (.bool x0.fV), .lit (.int .i64 x0.fR), .lit (.int .i64 x0.fF), .lit (.bool x0.faa), .lit (.int .i64 x0.fJ), .lit (.int .i64 x0.fK), .lit (.bool x0.fab), .lit (.int .i64 x0.fy)]] [] (gaL.out x0 r) := by
 unfold gaL at hr
 have hΓ := gamL_nil (P := Tryz.prog)
 refine cw Tryz.func48 rfl (by kernel_rfl) rfl rfl (by simp) fun _ _ _ => ?_
 refine tq hΓ [1] [0] ?_
 refine tq hΓ [2] [1] ?_
 obtain rfl := La hr
 exact AWp.ret (Le (by simp))

@[simp] noncomputable def gaL.S : Sp
  | [.agg e0], _ => some { av := .lit (.bool ((gaL (Tv.dec e0)).getD dflt)), M := none, obl := WeakL e0 (Tv.enc (Tv.dec e0)) ∧ (gaL (Tv.dec e0)).isSome = true }
  | _, _ => none

theorem gaL.ok : SpecOk Tryz.prog 48 gaL.S := by
 intro l M out h
 unfold gaL.S at h
 split at h
 ·rename_i e0
  cases h
  refine callOk_of fun ho => ?_
  obtain ⟨ox0, hs⟩ := ho
  generalize (Tv.dec e0) = x0 at *
  obtain ⟨r, hr⟩ := so1 hs
  simp only [hr, gd1]
  have q := Lg (M := M) [] (gaL.can x0 r hr) (by simp) rfl ixn
  exact callOk_conv q trivial (by simp; exact ox0) (by simp [frameOut]) (by simp [frameOut])
 ·cases h

@[simp] def gah.out (_x0 : Tv) (r : ByteArray) : Out := { av := .lit (.string r), M := none }
def gah.fin (x0 : Tv) (r : ByteArray) (σ : St) : Prop := finK (gah.out x0 r) [] σ.M (resA Tryz.ty σ.A σ.M Tryz.f15.results.toList)
theorem gah.can (x0 : Tv) (r : ByteArray) (hr : gah x0 = some r) : CallOk Tryz.prog 15 [.agg [.lit (.bool x0.fT), .lit (.bool x0.fV), .lit (.int .i64 x0.fR), .lit (.int .i64 x0.fF), .lit (.bool x0.faa), .lit (.int .i64 x0.fJ), .lit (.int .i64 x0.fK), .lit (.bool x0.fab), .lit (.int .i64 x0.fy)]] [] (gah.out x0 r) := by
 unfold gah at hr
 have hΓ := (gamL_cons gaT.Text.ok (gamL_cons gj.ok (gamL_cons gaT.U8.ok (gamL_cons gaL.ok (gamL_cons gaS.ok (gamL_nil))))) : GamOk Tryz.prog _)
 refine cw Tryz.func15 rfl (by kernel_rfl) rfl rfl (by simp) fun _ _ _ => ?_
 refine tq hΓ [1] [0] ?_
 refine AWp.then ⟨[⟨3, none, .ptr 1 0⟩, ⟨1, none, .ptr 0 0⟩], [.blk x0.enc, .opq (wrO 119 5 [])]⟩ (gaT.alloc rfl rfl rfl rfl (by kernel_rfl) rfl (dead := []) (by simp [exS])) ?_
 obtain ⟨r1, h24, hr⟩ := Lb hr
 obtain ⟨r2, h25, hr⟩ := Lb hr
 obtain ⟨r3, h26, hr⟩ := Lb hr
 obtain ⟨r4, h27, hr⟩ := Lb hr
 obtain ⟨h28, hr⟩ := Lc hr
 refine td hΓ [] [] [] [(false, []), (false, []), (false, []), (false, []), (false, []), (false, []), (false, []), (false, []), (false, []), (false, []), (false, []), (false, []), (false, []), (false, []), (false, []), (false, []), (false, []), (true, [])] (by simp [h24, h25, h26, h27, h28]; exact rr) ?_
 refine AWp.seq ?_
 refine tq hΓ [24] [] ?_ (by simp [h24]; exact rr)
 refine AWp.cnd hr (by simp) (fun h29 hr => ?_) (fun h29 hr => ?_)
 ·obtain ⟨h30, hr⟩ := Lc hr
  refine tq hΓ [2] [24, 3, 1] ?_ (by simp [h29, h30]; exact rr)
  obtain rfl := La hr
  exact AWp.ret (Le (by simp))
 ·refine AWp.skip ?_
  obtain ⟨r5, h31, hr⟩ := Lb hr
  obtain ⟨r6, h32, hr⟩ := Lb hr
  obtain ⟨r7, h33, hr⟩ := Lb hr
  obtain ⟨r8, h34, hr⟩ := Lb hr
  obtain ⟨h35, hr⟩ := Lc hr
  refine td hΓ [] [24] [] [(false, []), (false, []), (false, []), (false, []), (false, []), (false, []), (false, []), (false, []), (false, []), (false, []), (false, []), (false, []), (false, []), (false, []), (false, []), (false, []), (false, []), (false, []), (false, []), (false, []), (true, [])] (by simp [h29, h31, h32, h33, h34, h35]; exact rr) ?_
  refine AWp.meetF (fun (v1 : List Int) (γ1 : Unit) => ⟨[⟨3, none, .ptr 1 0⟩, ⟨1, none, .ptr 0 0⟩], [.blk x0.enc, .opq (wrO 119 5 v1)]⟩) (gah.fin x0) hr (fun f hr => ?_) (fun v1 γ1 hr => ?_) (fun _ h => h)
  ·refine AWp.block ?_
   refine tq hΓ [47] [] ?_ (by simp; exact rr)
   refine AWp.cnd hr (by simp) (fun h36 hr => ?_) (fun h36 hr => ?_)
   ·obtain ⟨r9, h37, hr⟩ := Lb hr
    refine tl hΓ [] [47] ?_ (by simp [h36, h37]; exact rr)
    obtain rfl := La hr
    exact Ll () 2 (by first | (simp; done) | simp [h24, h25, h26, h27, h28, h29, h31, h32, h33, h34, h35, h36, h37])
   ·refine tq hΓ [61] [47] ?_ (by simp [h36]; exact rr)
    refine AWp.cnd hr (by simp) (fun h38 hr => ?_) (fun h38 hr => ?_)
    ·obtain ⟨h39, hr⟩ := Lc hr
     refine tl hΓ [] [61] ?_ (by simp [h38, h39]; exact rr)
     obtain rfl := La hr
     exact Ll () 2 (by first | (simp; done) | simp [h24, h25, h26, h27, h28, h29, h31, h32, h33, h34, h35, h36, h38, h39])
    ·refine AWp.skip ?_
     obtain rfl := La hr
     exact Ll () 2 (by first | (simp; done) | simp [h24, h25, h26, h27, h28, h29, h31, h32, h33, h34, h35, h36, h38])
  ·refine AWp.meetF (fun (v2 : List Int) (γ2 : Unit) => ⟨[⟨3, none, .ptr 1 0⟩, ⟨1, none, .ptr 0 0⟩], [.blk x0.enc, .opq (wrO 119 5 v2)]⟩) (gah.fin x0) hr (fun f hr => ?_) (fun v2 γ2 hr => ?_) (fun _ h => h)
   ·refine tq hΓ [73] [] ?_ (by simp; exact rr)
    refine AWp.cnd hr (by simp) (fun h40 hr => ?_) (fun h40 hr => ?_)
    ·obtain ⟨h41, hr⟩ := Lc hr
     refine tl hΓ [] [73] ?_ (by simp [h40, h41]; exact rr)
     obtain rfl := La hr
     exact Ll () 2 (by first | (simp; done) | simp [h24, h25, h26, h27, h28, h29, h31, h32, h33, h34, h35, h40, h41])
    ·refine AWp.skip ?_
     obtain rfl := La hr
     exact Ll () 2 (by first | (simp; done) | simp [h24, h25, h26, h27, h28, h29, h31, h32, h33, h34, h35, h40])
   ·refine AWp.meetF (fun (v3 : List Int) (γ3 : Unit) => ⟨[⟨3, none, .ptr 1 0⟩], [.blk x0.enc, .opq (wrO 119 5 v3)]⟩) (gah.fin x0) hr (fun f hr => ?_) (fun v3 γ3 hr => ?_) (fun _ h => h)
    ·refine tq hΓ [86] [] ?_ (by simp; exact rr)
     refine AWp.cnd hr (by simp) (fun h42 hr => ?_) (fun h42 hr => ?_)
     ·obtain ⟨h43, hr⟩ := Lc hr
      obtain ⟨r10, h44, hr⟩ := Lb hr
      obtain ⟨h45, hr⟩ := Lc hr
      refine AWp.lst (AWp.regD Tryz.mixed Tryz.tyOk hΓ [] [86, 1] [] [(false, []), (false, []), (false, []), (false, []), (false, []), (false, []), (false, []), (false, []), (false, []), (false, []), (false, []), (false, []), (false, []), (false, []), (false, []), (true, [])] (by kernel_rfl) rfl (by simp [h42, h43, h44, h45]; exact rr)) ?_
      obtain rfl := La hr
      exact Ll () 2 (by first | (simp; done) | simp [h24, h25, h26, h27, h28, h29, h31, h32, h33, h34, h35, h42, h43, h44, h45])
     ·refine AWp.skip ?_
      obtain rfl := La hr
      exact Ll () 2 (by first | (simp; done) | simp [h24, h25, h26, h27, h28, h29, h31, h32, h33, h34, h35, h42])
    ·obtain ⟨h46, hr⟩ := Lc hr
     refine tq hΓ [2] [3] ?_ (by simp [h46]; exact rr)
     obtain rfl := La hr
     exact AWp.ret (Le (by simp))

@[simp] noncomputable def gah.S : Sp
  | [.agg e0], _ => some { av := .lit (.string ((gah (Tv.dec e0)).getD dflt)), M := none, obl := WeakL e0 (Tv.enc (Tv.dec e0)) ∧ (gah (Tv.dec e0)).isSome = true }
  | _, _ => none

theorem gah.ok : SpecOk Tryz.prog 15 gah.S := by
 intro l M out h
 unfold gah.S at h
 split at h
 ·rename_i e0
  cases h
  refine callOk_of fun ho => ?_
  obtain ⟨ox0, hs⟩ := ho
  generalize (Tv.dec e0) = x0 at *
  obtain ⟨r, hr⟩ := so1 hs
  simp only [hr, gd1]
  have q := Lg (M := M) [] (gah.can x0 r hr) (by simp) rfl ixn
  exact callOk_conv q trivial (by simp; exact ox0) (by simp [frameOut]) (by simp [frameOut])
 ·cases h
end Go.Proofs
end
section
set_option maxRecDepth 100000
set_option maxHeartbeats 4000000
namespace Go.Proofs
open Go.Ab
@[simp] def gaI.out (_x0 : Tw) (r : Int × Int) : Out := { av := .tup [.lit (.int .u8 r.1), .lit (.int .u8 r.2)], M := none }
theorem gaI.can (x0 : Tw) (r : Int × Int) (hr : gaI x0 = some r) : CallOk Tryz.prog 148 [.agg [.lit (.int .u32 x0.fZ), .lit (.int .u32 x0.fTo)]] [] (gaI.out x0 r) := by
 unfold gaI at hr
 have hΓ := gamL_nil (P := Tryz.prog)
 refine cw Tryz.func148 rfl (by kernel_rfl) rfl rfl (by simp) fun _ _ _ => ?_
 refine tq hΓ [] [0] ?_
 refine tq hΓ [2, 3] [] ?_
 obtain rfl := La hr
 exact AWp.ret (Le (by simp))

@[simp] noncomputable def gaI.S : Sp
  | [.agg e0], _ => some { av := .tup [.lit (.int .u8 (((gaI (Tw.dec e0)).getD dflt).1)), .lit (.int .u8 (((gaI (Tw.dec e0)).getD dflt).2))], M := none, obl := WeakL e0 (Tw.enc (Tw.dec e0)) ∧ (gaI (Tw.dec e0)).isSome = true }
  | _, _ => none

theorem gaI.ok : SpecOk Tryz.prog 148 gaI.S := by
 intro l M out h
 unfold gaI.S at h
 split at h
 ·rename_i e0
  cases h
  refine callOk_of fun ho => ?_
  obtain ⟨ox0, hs⟩ := ho
  generalize (Tw.dec e0) = x0 at *
  obtain ⟨r, hr⟩ := so1 hs
  simp only [hr, gd1]
  have q := Lg (M := M) [] (gaI.can x0 r hr) (by simp) rfl ixn
  exact callOk_conv q trivial (by simp; exact ox0) (by simp [frameOut]) (by simp [frameOut])
 ·cases h

@[simp] def gaK.m (_x0 : Tw) (x1 : List Int) : List AObj := [.opq (wrO 119 5 x1)]
@[simp] def gaK.out (_x0 : Tw) (_x1 : List Int) (r : List Int) : Out := { av := .tup [], M := some [.opq (wrO 119 5 r)] }
theorem gaK.can (x0 : Tw) (x1 : List Int) (r : List Int) (hr : gaK x0 x1 = some r) : CallOk Tryz.prog 149 [.agg [.lit (.int .u32 x0.fZ), .lit (.int .u32 x0.fTo)], .ptr 0 0] (gaK.m x0 x1) (gaK.out x0 x1 r) := by
 unfold gaK at hr
 have hΓ := (gamL_cons gl.ok (gamL_nil) : GamOk Tryz.prog _)
 refine cw Tryz.func149 rfl (by kernel_rfl) rfl rfl (by simp) fun _ _ _ => ?_
 refine tq hΓ [2] [0] ?_
 obtain ⟨r1, h2, hr⟩ := Lb hr
 refine tl hΓ [] [2, 1] ?_ (by simp [h2]; exact rr)
 obtain rfl := La hr
 exact fin_norm (by simp)

@[simp] noncomputable def gaK.S : Sp
  | [.agg e0, .ptr i0 0], M => (rdQ M i0).bind fun c0 => some { av := .tup [], M := some (M.set i0 (.opq (wrO 119 5 ((gaK (Tw.dec e0) c0.bs).getD dflt)))), obl := WeakL e0 (Tw.enc (Tw.dec e0)) ∧ c0 = wrO 119 5 c0.bs ∧ (gaK (Tw.dec e0) c0.bs).isSome = true }
  | _, _ => none

theorem gaK.ok : SpecOk Tryz.prog 149 gaK.S := by
 intro l M out h
 unfold gaK.S at h
 split at h
 ·rename_i e0 i0
  obtain ⟨c0, hM0, h⟩ := bQ h
  cases h
  refine callOk_of fun ho => ?_
  obtain ⟨ox0, oc0, hs⟩ := ho
  generalize (Tw.dec e0) = x0 at *
  generalize c0.bs = y0 at *
  subst oc0
  obtain ⟨r, hr⟩ := so1 hs
  simp only [hr, gd1]
  have q := Lg (M := M) [i0] (gaK.can x0 y0 r hr) (by simp) rfl (ix (by simp [hM0]) ixn)
  exact callOk_conv q trivial (by simp [into]; exact ox0) (by simp [frameOut]) (by simp [frameOut])
 ·cases h

@[simp] def gaV.m (x0 : List Int) (_x1 : RtcpPacket) : List AObj := [.opq (wrO 119 5 x0)]
@[simp] def gaV.out (_x0 : List Int) (_x1 : RtcpPacket) (r : List Int) : Out := { av := .tup [], M := some [.opq (wrO 119 5 r)] }
theorem gaV.can (x0 : List Int) (x1 : RtcpPacket) (r : List Int) (hr : gaV x0 x1 = some r) : CallOk Tryz.prog 49 [.ptr 0 0, RtcpPacket.av x1] (gaV.m x0 x1) (gaV.out x0 x1 r) := by
 unfold gaV at hr
 have hΓ := (gamL_cons gaK.ok (gamL_nil) : GamOk Tryz.prog _)
 refine cw Tryz.func49 rfl (by kernel_rfl) rfl rfl (by simp) fun _ _ _ => ?_
 cases h3 : x1 with
 | c0 y1c0 =>
   have hr := RtcpPacket.by0 h3 hr
   refine tq hΓ [4, 5] [1] ?_ (by simp; exact rr)
   refine tq hΓ [11] [5] ?_ (by simp; exact rr)
   refine AWp.cond (b := true) (by simp) (fun hb => ?_) (fun hb => ?_)
   ·obtain ⟨r1, h4, hr⟩ := Lb hr
    refine tl hΓ [] [11, 4, 0] ?_ (by simp [h4]; exact rr)
    obtain rfl := La hr
    exact fin_norm (by simp)
   ·cases hb

@[simp] noncomputable def gaV.S : Sp
  | [.ptr i0 0, a1], M => (rdQ M i0).bind fun c0 => some { av := .tup [], M := some (M.set i0 (.opq (wrO 119 5 ((gaV c0.bs (RtcpPacket.dec [a1])).getD dflt)))), obl := a1 = RtcpPacket.av (RtcpPacket.dec [a1]) ∧ c0 = wrO 119 5 c0.bs ∧ (gaV c0.bs (RtcpPacket.dec [a1])).isSome = true }
  | _, _ => none

theorem gaV.ok : SpecOk Tryz.prog 49 gaV.S := by
 intro l M out h
 unfold gaV.S at h
 split at h
 ·rename_i i0 a1
  obtain ⟨c0, hM0, h⟩ := bQ h
  cases h
  refine callOk_of fun ho => ?_
  obtain ⟨ox1, oc0, hs⟩ := ho
  generalize c0.bs = y0 at *
  generalize (RtcpPacket.dec [a1]) = x1 at *
  subst ox1
  subst oc0
  obtain ⟨r, hr⟩ := so1 hs
  simp only [hr, gd1]
  have q := Lg (M := M) [i0] (gaV.can y0 x1 r hr) (by simp) rfl (ix (by simp [hM0]) ixn)
  exact callOk_conv q trivial (by simp [into]) (by simp [frameOut]) (by simp [frameOut])
 ·cases h

@[simp] def gaz.out (_x0 : List RtcpPacket) (r : ByteArray) : Out := { av := .lit (.string r), M := none }
def gaz.fin (x0 : List RtcpPacket) (r : ByteArray) (σ : St) : Prop := finK (gaz.out x0 r) [] σ.M (resA Tryz.ty σ.A σ.M Tryz.f16.results.toList)
theorem gaz.can (x0 : List RtcpPacket) (r : ByteArray) (hr : gaz x0 = some r) : CallOk Tryz.prog 16 [.sl (x0.map RtcpPacket.enc) .no] [] (gaz.out x0 r) := by
 unfold gaz at hr
 have hΓ := (gamL_cons gS.ok (gamL_cons gC.ok (gamL_cons gp.ok (gamL_cons gaT.Text.ok (gamL_cons gj.ok (gamL_cons gaT.U8.ok (gamL_cons gaI.ok (gamL_cons gaV.ok (gamL_nil)))))))) : GamOk Tryz.prog _)
 refine cw Tryz.func16 rfl (by kernel_rfl) rfl rfl (by simp) fun _ _ _ => ?_
 refine tq hΓ [] [] ?_
 refine AWp.then ⟨[⟨3, none, .ptr 0 0⟩, ⟨0, none, .sl (x0.map RtcpPacket.enc) .no⟩], [.opq (wrO 119 5 [])]⟩ (gaT.alloc rfl rfl rfl rfl (by kernel_rfl) rfl (dead := []) (by simp [exS])) ?_
 refine AWp.seq ?_
 refine tq hΓ [9, 10, 11] [0] ?_
 refine AWp.loopE (fun (s1 : Int × List Int) (γ1 : Unit) => ⟨[⟨9, none, .sl (x0.map RtcpPacket.enc) .no⟩, ⟨10, none, .n (lenL x0)⟩, ⟨11, none, .n s1.1⟩, ⟨3, none, .ptr 0 0⟩], [.opq (wrO 119 5 s1.2)]⟩) (fun (v1 : List Int) (γ1a : Unit) => ⟨[⟨3, none, .ptr 0 0⟩], [.opq (wrO 119 5 v1)]⟩) (gaz.fin x0) hr () 1 (by simp) (fun s1 f γ1 hr => ?_) (fun v1 γ1a σ1 m1 hr hc => ?_) (fun _ h => h)
 ·unfold gaz.loop1 at hr
  refine tq hΓ [12] [] ?_
  refine AWp.seq ?_
  refine AWp.cnd hr (by simp) (fun h14 hr => ?_) (fun h14 hr => ?_)
  ·refine AWp.skip ?_
   refine AWp.seq ?_
   refine AWp.block ?_
   obtain ⟨h15, hr⟩ := Lc hr
   refine tq hΓ [5] [12] ?_ (by simp [h14, h15]; exact rr)
   cases h16 : (nthI x0 s1.1) with
   | c0 y2c0 =>
     have hr := RtcpPacket.by0 h16 hr
     obtain ⟨r1, h17, hr⟩ := Lb hr
     refine tq hΓ [6, 7] [] ?_ (by simp [h17]; exact rr)
     refine AWp.then ⟨[⟨8, none, .ptr 1 0⟩, ⟨6, none, .lit (.int .u8 r1.1)⟩, ⟨7, none, .lit (.int .u8 r1.2)⟩, ⟨5, none, .iface 73 (.agg [.lit (.int .u32 y2c0.fZ), .lit (.int .u32 y2c0.fTo)])⟩, ⟨9, none, .sl (x0.map RtcpPacket.enc) .no⟩, ⟨10, none, .n (lenL x0)⟩, ⟨11, none, .n s1.1⟩, ⟨3, none, .ptr 0 0⟩], [.opq (wrO 119 5 s1.2), .opq (wrO 119 5 [])]⟩ (gaT.alloc rfl rfl rfl rfl (by kernel_rfl) rfl (dead := []) (by simp [exS])) ?_
     obtain ⟨r2, h18, hr⟩ := Lb hr
     refine tq hΓ [] [5] ?_ (by simp [h18]; exact rr)
     obtain ⟨r3, h19, hr⟩ := Lb hr
     refine tq hΓ [] [] ?_ (by simp [h19]; exact rr)
     obtain ⟨h20, hr⟩ := Lc hr
     obtain ⟨r4, h21, hr⟩ := Lb hr
     obtain ⟨h22, hr⟩ := Lc hr
     obtain ⟨r5, h23, hr⟩ := Lb hr
     obtain ⟨h24, hr⟩ := Lc hr
     obtain ⟨r6, h25, hr⟩ := Lb hr
     refine tl hΓ [] [8, 6, 7] ?_ (by simp [h20, h21, h22, h23, h24, h25]; exact rr)
     refine tl hΓ [11] [] ?_ (by simp; exact rr)
     obtain rfl := La hr
     exact Lk () 1 (by first | (simp; done) | simp [h14, h15, h16, h17, h18, h19, h20, h21, h22, h23, h24, h25])
  ·refine AWp.exit ?_
   obtain rfl := La hr
   exact Ln () 1 (by first | (simp; done) | simp [h14])
 ·refine AWp.conv hc ?_
  obtain ⟨h26, hr⟩ := Lc hr
  refine tq hΓ [2] [3] ?_ (by simp [h26]; exact rr)
  obtain rfl := La hr
  exact AWp.ret (Le (by simp))

@[simp] noncomputable def gaz.S : Sp
  | [.sl e0 _], _ => some { av := .lit (.string ((gaz (e0.map RtcpPacket.dec)).getD dflt)), M := none, obl := e0 = (e0.map RtcpPacket.dec).map RtcpPacket.enc ∧ (gaz (e0.map RtcpPacket.dec)).isSome = true }
  | _, _ => none

theorem gaz.ok : SpecOk Tryz.prog 16 gaz.S := by
 intro l M out h
 unfold gaz.S at h
 split at h
 ·rename_i e0 k0
  cases h
  refine callOk_of fun ho => ?_
  obtain ⟨ox0, hs⟩ := ho
  generalize (e0.map RtcpPacket.dec) = x0 at *
  subst ox0
  obtain ⟨r, hr⟩ := so1 hs
  simp only [hr, gd1]
  have q := Lg (M := M) [] (gaz.can x0 r hr) (by simp) rfl ixn
  exact callOk_conv q trivial (by simp) (by simp [frameOut]) (by simp [frameOut])
 ·cases h
end Go.Proofs
end

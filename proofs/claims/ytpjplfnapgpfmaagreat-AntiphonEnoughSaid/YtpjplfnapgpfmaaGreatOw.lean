/- That these functions compute what their plain functions do. No condition. -/
import Derived.Test.YtpjplfnapgpfmaaGreatM03
import Derived.Test.YtpjplfnapgpfmaaGreatTy
import Derived.Test.YtpjplfnapgpfmaaGreatWg
import Derived.Test.YtpjplfnapgpfmaaGreatM13
set_option maxRecDepth 100000
set_option maxHeartbeats 4000000
namespace Go.Proofs
open Go.Ab
@[simp] def gi.m (x0 : List Int) (_x1 : Int) (_x2 : List Int) : List AObj := [.opq (wrO 119 5 x0)]
@[simp] def gi.out (_x0 : List Int) (_x1 : Int) (_x2 : List Int) (r : List Int) : Out := { av := .ptr 0 0, M := some [.opq (wrO 119 5 r)] }
def gi.fin (x0 : List Int) (x1 : Int) (x2 : List Int) (r : List Int) (σ : St) : Prop := finK (gi.out x0 x1 x2 r) (gi.m x0 x1 x2) σ.M (resA Tryz.ty σ.A σ.M Tryz.f79.results.toList)
theorem gi.can (x0 : List Int) (x1 : Int) (x2 : List Int) (r : List Int) (hr : gi x0 x1 x2 = some r) : CallOk Tryz.prog 79 [.ptr 0 0, .lit (.int .i64 x1), .sl (x2.map (eNum .u64)) .no] (gi.m x0 x1 x2) (gi.out x0 x1 x2 r) := by
 unfold gi at hr
 have hΓ := (gamL_cons ga1.ok (gamL_nil) : GamOk Tryz.prog _)
 refine cw Tryz.func79 rfl (by kernel_rfl) rfl rfl (by simp) fun _ _ _ => ?_
 refine tq hΓ [] [] ?_
 refine tq hΓ [1] [] ?_
 refine AWp.seq ?_
 refine tq hΓ [13, 14, 15] [2] ?_
 refine AWp.loopE (fun (s1 : Int × List Int) (γ1 : Unit) => ⟨[⟨13, none, .sl (x2.map (eNum .u64)) .no⟩, ⟨14, none, .n (lenL x2)⟩, ⟨15, none, .n s1.1⟩, ⟨1, none, .n (minI (maxI x1 1) 8)⟩, ⟨0, none, .ptr 0 0⟩], [.opq (wrO 119 5 s1.2)]⟩) (fun (v1 : List Int) (γ1a : Unit) => ⟨[⟨0, none, .ptr 0 0⟩], [.opq (wrO 119 5 v1)]⟩) (gi.fin x0 x1 x2) hr () 1 (by simp) (fun s1 f γ1 hr => ?_) (fun v1 γ1a σ1 m1 hr hc => ?_) (fun _ h => h)
 ·unfold gi.loop1 at hr
  refine tq hΓ [16] [] ?_
  refine AWp.seq ?_
  refine AWp.cnd hr (by simp) (fun h6 hr => ?_) (fun h6 hr => ?_)
  ·refine AWp.skip ?_
   refine AWp.seq ?_
   refine AWp.block ?_
   obtain ⟨h7, hr⟩ := Lc hr
   refine tq hΓ [8] [16] ?_ (by simp [h6, h7]; exact rr)
   refine tq hΓ [9] [] ?_ (by simp; exact rr)
   refine AWp.loopE (fun (s2 : Int × List Int) (γ2 : Unit) => ⟨[⟨9, none, .n s2.1⟩, ⟨8, none, .lit (.int .u64 (nthI x2 s1.1))⟩, ⟨13, none, .sl (x2.map (eNum .u64)) .no⟩, ⟨14, none, .n (lenL x2)⟩, ⟨15, none, .n s1.1⟩, ⟨1, none, .n (minI (maxI x1 1) 8)⟩, ⟨0, none, .ptr 0 0⟩], [.opq (wrO 119 5 s2.2)]⟩) (fun (v2 : List Int) (γ2a : Unit) => ⟨[⟨13, none, .sl (x2.map (eNum .u64)) .no⟩, ⟨14, none, .n (lenL x2)⟩, ⟨15, none, .n s1.1⟩, ⟨1, none, .n (minI (maxI x1 1) 8)⟩, ⟨0, none, .ptr 0 0⟩], [.opq (wrO 119 5 v2)]⟩) (QRr (gi.fin x0 x1 x2)) hr () 1 (by simp) (fun s2 f γ2 hr => ?_) (fun v2 γ2a σ1 m1 hr hc => ?_) (fun _ h => QRr_ret h)
   ·unfold gi.loop2 at hr
    refine AWp.seq ?_
    refine tq hΓ [22] [] ?_ (by simp; exact rr)
    refine AWp.cnd hr (by simp) (fun h8 hr => ?_) (fun h8 hr => ?_)
    ·refine AWp.skip ?_
     refine AWp.seq ?_
     refine AWp.block ?_
     obtain ⟨h9, hr⟩ := Lc hr
     obtain ⟨h10, hr⟩ := Lc hr
     refine AWp.lst (AWp.regD Tryz.mixed Tryz.tyOk hΓ [] [22] [] [(false, []), (false, []), (false, []), (false, []), (false, []), (false, []), (false, []), (false, []), (true, [])] (by kernel_rfl) rfl (by simp [h8, h9, h10]; exact rr)) ?_
     refine tl hΓ [9] [] ?_ (by simp; exact rr)
     obtain rfl := La hr
     exact Lk () 1 (by first | (simp; done) | simp [h6, h7, h8, h9, h10])
    ·refine AWp.exit ?_
     obtain rfl := La hr
     exact Ln () 1 (by first | (simp; done) | simp [h6, h7, h8])
   ·refine AWp.conv hc ?_
    refine tl hΓ [15] [] ?_ (by simp; exact rr)
    obtain rfl := La hr
    exact Lk () 1 (by first | (simp; done) | simp [h6, h7])
  ·refine AWp.exit ?_
   obtain rfl := La hr
   exact Ln () 1 (by first | (simp; done) | simp [h6])
 ·refine AWp.conv hc ?_
  refine tq hΓ [6] [0] ?_
  obtain rfl := La hr
  exact AWp.ret (Le (by simp))

@[simp] noncomputable def gi.S : Sp
  | [.ptr i0 0, .lit (.int .i64 x1), .sl e2 _], M => (rdQ M i0).bind fun c0 => some { av := .ptr i0 0, M := some (M.set i0 (.opq (wrO 119 5 ((gi c0.bs x1 (e2.map decI)).getD dflt)))), obl := e2 = (e2.map decI).map (eNum .u64) ∧ c0 = wrO 119 5 c0.bs ∧ (gi c0.bs x1 (e2.map decI)).isSome = true }
  | _, _ => none

theorem gi.ok : SpecOk Tryz.prog 79 gi.S := by
 intro l M out h
 unfold gi.S at h
 split at h
 ·rename_i i0 x1 e2 k2
  obtain ⟨c0, hM0, h⟩ := bQ h
  cases h
  refine callOk_of fun ho => ?_
  obtain ⟨ox2, oc0, hs⟩ := ho
  generalize c0.bs = y0 at *
  generalize (e2.map decI) = x2 at *
  subst ox2
  subst oc0
  obtain ⟨r, hr⟩ := so1 hs
  simp only [hr, gd1]
  have q := Lg (M := M) [i0] (gi.can y0 x1 x2 r hr) (by simp) rfl (ix (by simp [hM0]) ixn)
  exact callOk_conv q trivial (by simp [into]) (by simp [frameOut, into]) (by simp [frameOut, into])
 ·cases h

@[simp] def gj.m (x0 : List Int) (_x1 : List Int) : List AObj := [.opq (wrO 119 5 x0)]
@[simp] def gj.out (_x0 : List Int) (_x1 : List Int) (r : List Int) : Out := { av := .ptr 0 0, M := some [.opq (wrO 119 5 r)] }
def gj.fin (x0 : List Int) (x1 : List Int) (r : List Int) (σ : St) : Prop := finK (gj.out x0 x1 r) (gj.m x0 x1) σ.M (resA Tryz.ty σ.A σ.M Tryz.f43.results.toList)
theorem gj.can (x0 : List Int) (x1 : List Int) (r : List Int) (hr : gj x0 x1 = some r) : CallOk Tryz.prog 43 [.ptr 0 0, .sl (x1.map (eNum .u16)) .no] (gj.m x0 x1) (gj.out x0 x1 r) := by
 unfold gj at hr
 have hΓ := (gamL_cons gi.ok (gamL_nil) : GamOk Tryz.prog _)
 refine cw Tryz.func43 rfl (by kernel_rfl) rfl rfl (by simp) fun _ _ _ => ?_
 refine tq hΓ [] [] ?_
 refine AWp.seq ?_
 refine tq hΓ [7, 8, 9] [1] ?_
 refine AWp.loopE (fun (s1 : Int × List Int) (γ1 : Unit) => ⟨[⟨7, none, .sl (x1.map (eNum .u16)) .no⟩, ⟨8, none, .n (lenL x1)⟩, ⟨9, none, .n s1.1⟩, ⟨0, none, .ptr 0 0⟩], [.opq (wrO 119 5 s1.2)]⟩) (fun (v1 : List Int) (γ1a : Unit) => ⟨[⟨0, none, .ptr 0 0⟩], [.opq (wrO 119 5 v1)]⟩) (gj.fin x0 x1) hr () 1 (by simp) (fun s1 f γ1 hr => ?_) (fun v1 γ1a σ1 m1 hr hc => ?_) (fun _ h => h)
 ·unfold gj.loop1 at hr
  refine tq hΓ [10] [] ?_
  refine AWp.seq ?_
  refine AWp.cnd hr (by simp) (fun h4 hr => ?_) (fun h4 hr => ?_)
  ·refine AWp.skip ?_
   refine AWp.seq ?_
   refine AWp.block ?_
   obtain ⟨h5, hr⟩ := Lc hr
   refine tq hΓ [6] [10] ?_ (by simp [h4, h5]; exact rr)
   obtain ⟨r1, h6, hr⟩ := Lb hr
   refine tl hΓ [] [6] ?_ (by simp [h6]; exact rr)
   refine tl hΓ [9] [] ?_ (by simp; exact rr)
   obtain rfl := La hr
   exact Lk () 1 (by first | (simp; done) | simp [h4, h5, h6])
  ·refine AWp.exit ?_
   obtain rfl := La hr
   exact Ln () 1 (by first | (simp; done) | simp [h4])
 ·refine AWp.conv hc ?_
  refine tq hΓ [4] [0] ?_
  obtain rfl := La hr
  exact AWp.ret (Le (by simp))

@[simp] noncomputable def gj.S : Sp
  | [.ptr i0 0, .sl e1 _], M => (rdQ M i0).bind fun c0 => some { av := .ptr i0 0, M := some (M.set i0 (.opq (wrO 119 5 ((gj c0.bs (e1.map decI)).getD dflt)))), obl := e1 = (e1.map decI).map (eNum .u16) ∧ c0 = wrO 119 5 c0.bs ∧ (gj c0.bs (e1.map decI)).isSome = true }
  | _, _ => none

theorem gj.ok : SpecOk Tryz.prog 43 gj.S := by
 intro l M out h
 unfold gj.S at h
 split at h
 ·rename_i i0 e1 k1
  obtain ⟨c0, hM0, h⟩ := bQ h
  cases h
  refine callOk_of fun ho => ?_
  obtain ⟨ox1, oc0, hs⟩ := ho
  generalize c0.bs = y0 at *
  generalize (e1.map decI) = x1 at *
  subst ox1
  subst oc0
  obtain ⟨r, hr⟩ := so1 hs
  simp only [hr, gd1]
  have q := Lg (M := M) [i0] (gj.can y0 x1 r hr) (by simp) rfl (ix (by simp [hM0]) ixn)
  exact callOk_conv q trivial (by simp [into]) (by simp [frameOut, into]) (by simp [frameOut, into])
 ·cases h

@[simp] def gl.m (x0 : List Int) (_x1 : List Int) : List AObj := [.opq (wrO 119 5 x0)]
@[simp] def gl.out (_x0 : List Int) (_x1 : List Int) (r : List Int) : Out := { av := .ptr 0 0, M := some [.opq (wrO 119 5 r)] }
def gl.fin (x0 : List Int) (x1 : List Int) (r : List Int) (σ : St) : Prop := finK (gl.out x0 x1 r) (gl.m x0 x1) σ.M (resA Tryz.ty σ.A σ.M Tryz.f44.results.toList)
theorem gl.can (x0 : List Int) (x1 : List Int) (r : List Int) (hr : gl x0 x1 = some r) : CallOk Tryz.prog 44 [.ptr 0 0, .sl (x1.map (eNum .u32)) .no] (gl.m x0 x1) (gl.out x0 x1 r) := by
 unfold gl at hr
 have hΓ := (gamL_cons gi.ok (gamL_nil) : GamOk Tryz.prog _)
 refine cw Tryz.func44 rfl (by kernel_rfl) rfl rfl (by simp) fun _ _ _ => ?_
 refine tq hΓ [] [] ?_
 refine AWp.seq ?_
 refine tq hΓ [7, 8, 9] [1] ?_
 refine AWp.loopE (fun (s1 : Int × List Int) (γ1 : Unit) => ⟨[⟨7, none, .sl (x1.map (eNum .u32)) .no⟩, ⟨8, none, .n (lenL x1)⟩, ⟨9, none, .n s1.1⟩, ⟨0, none, .ptr 0 0⟩], [.opq (wrO 119 5 s1.2)]⟩) (fun (v1 : List Int) (γ1a : Unit) => ⟨[⟨0, none, .ptr 0 0⟩], [.opq (wrO 119 5 v1)]⟩) (gl.fin x0 x1) hr () 1 (by simp) (fun s1 f γ1 hr => ?_) (fun v1 γ1a σ1 m1 hr hc => ?_) (fun _ h => h)
 ·unfold gl.loop1 at hr
  refine tq hΓ [10] [] ?_
  refine AWp.seq ?_
  refine AWp.cnd hr (by simp) (fun h4 hr => ?_) (fun h4 hr => ?_)
  ·refine AWp.skip ?_
   refine AWp.seq ?_
   refine AWp.block ?_
   obtain ⟨h5, hr⟩ := Lc hr
   refine tq hΓ [6] [10] ?_ (by simp [h4, h5]; exact rr)
   obtain ⟨r1, h6, hr⟩ := Lb hr
   refine tl hΓ [] [6] ?_ (by simp [h6]; exact rr)
   refine tl hΓ [9] [] ?_ (by simp; exact rr)
   obtain rfl := La hr
   exact Lk () 1 (by first | (simp; done) | simp [h4, h5, h6])
  ·refine AWp.exit ?_
   obtain rfl := La hr
   exact Ln () 1 (by first | (simp; done) | simp [h4])
 ·refine AWp.conv hc ?_
  refine tq hΓ [4] [0] ?_
  obtain rfl := La hr
  exact AWp.ret (Le (by simp))

@[simp] noncomputable def gl.S : Sp
  | [.ptr i0 0, .sl e1 _], M => (rdQ M i0).bind fun c0 => some { av := .ptr i0 0, M := some (M.set i0 (.opq (wrO 119 5 ((gl c0.bs (e1.map decI)).getD dflt)))), obl := e1 = (e1.map decI).map (eNum .u32) ∧ c0 = wrO 119 5 c0.bs ∧ (gl c0.bs (e1.map decI)).isSome = true }
  | _, _ => none

theorem gl.ok : SpecOk Tryz.prog 44 gl.S := by
 intro l M out h
 unfold gl.S at h
 split at h
 ·rename_i i0 e1 k1
  obtain ⟨c0, hM0, h⟩ := bQ h
  cases h
  refine callOk_of fun ho => ?_
  obtain ⟨ox1, oc0, hs⟩ := ho
  generalize c0.bs = y0 at *
  generalize (e1.map decI) = x1 at *
  subst ox1
  subst oc0
  obtain ⟨r, hr⟩ := so1 hs
  simp only [hr, gd1]
  have q := Lg (M := M) [i0] (gl.can y0 x1 r hr) (by simp) rfl (ix (by simp [hM0]) ixn)
  exact callOk_conv q trivial (by simp [into]) (by simp [frameOut, into]) (by simp [frameOut, into])
 ·cases h

@[simp] def gp.m (x0 : List Int) (_x1 : List ByteArray) : List AObj := [.opq (wrO 119 5 x0)]
@[simp] def gp.out (_x0 : List Int) (_x1 : List ByteArray) (r : List Int) : Out := { av := .ptr 0 0, M := some [.opq (wrO 119 5 r)] }
def gp.fin (x0 : List Int) (x1 : List ByteArray) (r : List Int) (σ : St) : Prop := finK (gp.out x0 x1 r) (gp.m x0 x1) σ.M (resA Tryz.ty σ.A σ.M Tryz.f45.results.toList)
theorem gp.can (x0 : List Int) (x1 : List ByteArray) (r : List Int) (hr : gp x0 x1 = some r) : CallOk Tryz.prog 45 [.ptr 0 0, .sl (x1.map eTxt) .no] (gp.m x0 x1) (gp.out x0 x1 r) := by
 unfold gp at hr
 have hΓ := (gamL_cons gOwText.ok (gamL_nil) : GamOk Tryz.prog _)
 refine cw Tryz.func45 rfl (by kernel_rfl) rfl rfl (by simp) fun _ _ _ => ?_
 refine tq hΓ [] [] ?_
 refine AWp.seq ?_
 refine tq hΓ [7, 8, 9] [1] ?_
 refine AWp.loopE (fun (s1 : Int × List Int) (γ1 : Unit) => ⟨[⟨7, none, .sl (x1.map eTxt) .no⟩, ⟨8, none, .n (lenL x1)⟩, ⟨9, none, .n s1.1⟩, ⟨0, none, .ptr 0 0⟩], [.opq (wrO 119 5 s1.2)]⟩) (fun (v1 : List Int) (γ1a : Unit) => ⟨[⟨0, none, .ptr 0 0⟩], [.opq (wrO 119 5 v1)]⟩) (gp.fin x0 x1) hr () 1 (by simp) (fun s1 f γ1 hr => ?_) (fun v1 γ1a σ1 m1 hr hc => ?_) (fun _ h => h)
 ·unfold gp.loop1 at hr
  refine tq hΓ [10] [] ?_
  refine AWp.seq ?_
  refine AWp.cnd hr (by simp) (fun h5 hr => ?_) (fun h5 hr => ?_)
  ·refine AWp.skip ?_
   refine AWp.seq ?_
   refine AWp.block ?_
   obtain ⟨h6, hr⟩ := Lc hr
   refine tq hΓ [6] [10] ?_ (by simp [h5, h6]; exact rr)
   obtain ⟨h7, hr⟩ := Lc hr
   obtain ⟨h8, hr⟩ := Lc hr
   refine tl hΓ [] [6] ?_ (by simp [h7, h8]; exact rr)
   refine tl hΓ [9] [] ?_ (by simp; exact rr)
   obtain rfl := La hr
   exact Lk () 1 (by first | (simp; done) | simp [h5, h6, h7, h8])
  ·refine AWp.exit ?_
   obtain rfl := La hr
   exact Ln () 1 (by first | (simp; done) | simp [h5])
 ·refine AWp.conv hc ?_
  refine tq hΓ [4] [0] ?_
  obtain rfl := La hr
  exact AWp.ret (Le (by simp))

@[simp] noncomputable def gp.S : Sp
  | [.ptr i0 0, .sl e1 _], M => (rdQ M i0).bind fun c0 => some { av := .ptr i0 0, M := some (M.set i0 (.opq (wrO 119 5 ((gp c0.bs (e1.map decS)).getD dflt)))), obl := e1 = (e1.map decS).map eTxt ∧ c0 = wrO 119 5 c0.bs ∧ (gp c0.bs (e1.map decS)).isSome = true }
  | _, _ => none

theorem gp.ok : SpecOk Tryz.prog 45 gp.S := by
 intro l M out h
 unfold gp.S at h
 split at h
 ·rename_i i0 e1 k1
  obtain ⟨c0, hM0, h⟩ := bQ h
  cases h
  refine callOk_of fun ho => ?_
  obtain ⟨ox1, oc0, hs⟩ := ho
  generalize c0.bs = y0 at *
  generalize (e1.map decS) = x1 at *
  subst ox1
  subst oc0
  obtain ⟨r, hr⟩ := so1 hs
  simp only [hr, gd1]
  have q := Lg (M := M) [i0] (gp.can y0 x1 r hr) (by simp) rfl (ix (by simp [hM0]) ixn)
  exact callOk_conv q trivial (by simp [into]) (by simp [frameOut, into]) (by simp [frameOut, into])
 ·cases h

@[simp] def gS.m (x0 : List Int) : List AObj := [.opq (wrO 119 5 x0)]
@[simp] def gS.out (_x0 : List Int) (r : Int) : Out := { av := .lit (.int .i64 r), M := none }
theorem gS.can (x0 : List Int) (r : Int) (hr : gS x0 = some r) : CallOk Tryz.prog 51 [.ptr 0 0] (gS.m x0) (gS.out x0 r) := by
 unfold gS at hr
 have hΓ := (gamL_cons gOwLen.ok (gamL_nil) : GamOk Tryz.prog _)
 refine cw Tryz.func51 rfl (by kernel_rfl) rfl rfl (by simp) fun _ _ _ => ?_
 refine tq hΓ [] [] ?_
 refine tq hΓ [2] [0] ?_
 obtain rfl := La hr
 exact AWp.ret (Le (by simp))

@[simp] noncomputable def gS.S : Sp
  | [.ptr i0 0], M => (rdQ M i0).bind fun c0 => some { av := .lit (.int .i64 ((gS c0.bs).getD dflt)), M := none, obl := c0 = wrO 119 5 c0.bs ∧ (gS c0.bs).isSome = true }
  | _, _ => none

theorem gS.ok : SpecOk Tryz.prog 51 gS.S := by
 intro l M out h
 unfold gS.S at h
 split at h
 ·rename_i i0
  obtain ⟨c0, hM0, h⟩ := bQ h
  cases h
  refine callOk_of fun ho => ?_
  obtain ⟨oc0, hs⟩ := ho
  generalize c0.bs = y0 at *
  subst oc0
  obtain ⟨r, hr⟩ := so1 hs
  simp only [hr, gd1]
  have q := Lg (M := M) [i0] (gS.can y0 r hr) (by simp) rfl (ix (by simp [hM0]) ixn)
  exact callOk_conv q trivial (by simp [into]) (by simp [frameOut]) (by simp only [frameOut, gS.out, Option.getD_some, Option.getD_none]; simp [hM0, set_same])
 ·cases h

@[simp] def gC.m (x0 : List Int) (_x1 : Int) : List AObj := [.opq (wrO 119 5 x0)]
@[simp] def gC.out (_x0 : List Int) (_x1 : Int) (r : List Int) : Out := { av := .ptr 0 0, M := some [.opq (wrO 119 5 r)] }
def gC.fin (x0 : List Int) (x1 : Int) (r : List Int) (σ : St) : Prop := finK (gC.out x0 x1 r) (gC.m x0 x1) σ.M (resA Tryz.ty σ.A σ.M Tryz.f50.results.toList)
theorem gC.can (x0 : List Int) (x1 : Int) (r : List Int) (hr : gC x0 x1 = some r) : CallOk Tryz.prog 50 [.ptr 0 0, .lit (.int .i64 x1)] (gC.m x0 x1) (gC.out x0 x1 r) := by
 unfold gC at hr
 have hΓ := (gamL_cons gS.ok (gamL_cons ga1.ok (gamL_nil)) : GamOk Tryz.prog _)
 refine cw Tryz.func50 rfl (by kernel_rfl) rfl rfl (by simp) fun _ _ _ => ?_
 refine tq hΓ [] [] ?_
 refine tq hΓ [1] [] ?_
 refine AWp.loopB (fun (s1 : List Int) (γ1 : Unit) => ⟨[⟨1, none, .n (maxI x1 1)⟩, ⟨0, none, .ptr 0 0⟩], [.opq (wrO 119 5 s1)]⟩) (fun (v1 : List Int) (γ1a : Unit) => ⟨[⟨0, none, .ptr 0 0⟩], [.opq (wrO 119 5 v1)]⟩) (gC.fin x0 x1) hr () 1 (by simp) (fun s1 f γ1 hr => ?_) (fun v1 γ1a hr => ?_) (fun _ h => h)
 ·unfold gC.loop1 at hr
  refine AWp.seq ?_
  obtain ⟨r1, h5, hr⟩ := Lb hr
  obtain ⟨h6, hr⟩ := Lc hr
  refine tq hΓ [11] [] ?_ (by simp [h5, h6]; exact rr)
  refine AWp.cnd hr (by simp) (fun h7 hr => ?_) (fun h7 hr => ?_)
  ·refine AWp.skip ?_
   refine AWp.block ?_
   obtain ⟨h8, hr⟩ := Lc hr
   refine tl hΓ [] [11] ?_ (by simp [h7, h8]; exact rr)
   obtain rfl := La hr
   exact Lk () 1 (by first | (simp; done) | simp [h5, h6, h7, h8])
  ·refine AWp.exit ?_
   obtain rfl := La hr
   exact Ln () 1 (by first | (simp; done) | simp [h5, h6, h7])
 ·refine tq hΓ [4] [0] ?_
  obtain rfl := La hr
  exact AWp.ret (Le (by simp))

@[simp] noncomputable def gC.S : Sp
  | [.ptr i0 0, .lit (.int .i64 x1)], M => (rdQ M i0).bind fun c0 => some { av := .ptr i0 0, M := some (M.set i0 (.opq (wrO 119 5 ((gC c0.bs x1).getD dflt)))), obl := c0 = wrO 119 5 c0.bs ∧ (gC c0.bs x1).isSome = true }
  | _, _ => none

theorem gC.ok : SpecOk Tryz.prog 50 gC.S := by
 intro l M out h
 unfold gC.S at h
 split at h
 ·rename_i i0 x1
  obtain ⟨c0, hM0, h⟩ := bQ h
  cases h
  refine callOk_of fun ho => ?_
  obtain ⟨oc0, hs⟩ := ho
  generalize c0.bs = y0 at *
  subst oc0
  obtain ⟨r, hr⟩ := so1 hs
  simp only [hr, gd1]
  have q := Lg (M := M) [i0] (gC.can y0 x1 r hr) (by simp) rfl (ix (by simp [hM0]) ixn)
  exact callOk_conv q trivial (by simp [into]) (by simp [frameOut, into]) (by simp [frameOut, into])
 ·cases h
end Go.Proofs

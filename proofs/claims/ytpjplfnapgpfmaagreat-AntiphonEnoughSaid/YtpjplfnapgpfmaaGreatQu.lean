/- That these functions compute what their plain functions do. No condition. -/
import Derived.Test.YtpjplfnapgpfmaaGreatM02
import Derived.Test.YtpjplfnapgpfmaaGreatTy
set_option maxRecDepth 100000
set_option maxHeartbeats 4000000
namespace Go.Proofs
open Go.Ab
@[simp] def gaQ.out (_x0 : Int) (_x1 : Int) (r : Option Tn × Int) : Out := { av := .tup [(optC r.1 (.lit (.pointer none)) fun _ => .ptr 0 0), .lit (.int .i64 r.2)], M := some (optC r.1 [] fun m0 => [.blk [.lit (.int .i64 m0.fe), .lit (.int .i64 m0.fb), .sl (m0.fL.map Ta.enc) .no, .lit (.int .i64 m0.fj), .lit (.bool m0.fv)]]) }
theorem gaQ.can (x0 : Int) (x1 : Int) (r : Option Tn × Int) (hr : gaQ x0 x1 = some r) : CallOk Tryz.prog 93 [.lit (.int .i64 x0), .lit (.int .i64 x1)] [] (gaQ.out x0 x1 r) := by
 unfold gaQ at hr
 have hΓ := gamL_nil (P := Tryz.prog)
 refine cw Tryz.func93 rfl (by kernel_rfl) rfl rfl (by simp) fun _ _ _ => ?_
 refine tq hΓ [] [] ?_
 refine AWp.seq ?_
 refine tq hΓ [19] [] ?_
 refine AWp.cnd hr (by simp) (fun h2 hr => ?_) (fun h2 hr => ?_)
 ·refine tq hΓ [4, 5] [19, 0, 1] ?_ (by simp [h2]; exact rr)
  obtain rfl := La hr
  exact AWp.ret (Le (by simp))
 ·refine AWp.skip ?_
  refine tq hΓ [4, 5] [19, 0, 1] ?_ (by simp [h2]; exact rr)
  obtain rfl := La hr
  exact AWp.ret (Le (by simp))

@[simp] noncomputable def gaQ.S : Sp
  | [.lit (.int .i64 x0), .lit (.int .i64 x1)], M => some { av := .tup [(optC (((gaQ x0 x1).getD dflt).1) (.lit (.pointer none)) fun _ => .ptr M.length 0), .lit (.int .i64 (((gaQ x0 x1).getD dflt).2))], M := some (optC (((gaQ x0 x1).getD dflt).1) M fun m0 => M ++ [.blk [.lit (.int .i64 m0.fe), .lit (.int .i64 m0.fb), .sl (m0.fL.map Ta.enc) .no, .lit (.int .i64 m0.fj), .lit (.bool m0.fv)]]), obl := (gaQ x0 x1).isSome = true }
  | _, _ => none

theorem gaQ.ok : SpecOk Tryz.prog 93 gaQ.S := by
 intro l M out h
 unfold gaQ.S at h
 split at h
 ·rename_i x0 x1
  cases h
  refine callOk_of fun ho => ?_
  have hs := ho
  obtain ⟨r, hr⟩ := so1 hs
  simp only [hr, gd1]
  have q := Lg (M := M) [] (gaQ.can x0 x1 r hr) (by simp) rfl ixn
  cases hc : r.1 with
  | none => exact callOk_conv q trivial (by simp) (by simp [hc, frameOut]) (by simp [hc, frameOut])
  | some m0 => exact callOk_conv q trivial (by simp) (by simp [hc, frameOut, into]) (by simp [hc, frameOut, into])
 ·cases h

@[simp] def gae.m (x0 : Tn) : List AObj := [.blk x0.enc]
@[simp] def gae.out (_x0 : Tn) (r : Int) : Out := { av := .lit (.int .i64 r), M := none }
theorem gae.can (x0 : Tn) (r : Int) (hr : gae x0 = some r) : CallOk Tryz.prog 30 [.ptr 0 0] (gae.m x0) (gae.out x0 r) := by
 unfold gae at hr
 have hΓ := gamL_nil (P := Tryz.prog)
 refine cw Tryz.func30 rfl (by kernel_rfl) rfl rfl (by simp) fun _ _ _ => ?_
 refine tq hΓ [] [] ?_
 refine tq hΓ [2] [0] ?_
 obtain rfl := La hr
 exact AWp.ret (Le (by simp))

@[simp] noncomputable def gae.S : Sp
  | [.ptr i0 0], M => (rdB M i0).bind fun c0 => some { av := .lit (.int .i64 ((gae (Tn.dec c0)).getD dflt)), M := none, obl := c0 = Tn.enc (Tn.dec c0) ∧ (gae (Tn.dec c0)).isSome = true }
  | _, _ => none

theorem gae.ok : SpecOk Tryz.prog 30 gae.S := by
 intro l M out h
 unfold gae.S at h
 split at h
 ·rename_i i0
  obtain ⟨c0, hM0, h⟩ := bB h
  cases h
  refine callOk_of fun ho => ?_
  obtain ⟨oc0, hs⟩ := ho
  generalize (Tn.dec c0) = y0 at *
  subst oc0
  obtain ⟨r, hr⟩ := so1 hs
  simp only [hr, gd1]
  have q := Lg (M := M) [i0] (gae.can y0 r hr) (by simp) rfl (ix (by simp [hM0]) ixn)
  exact callOk_conv q trivial (by simp [into]) (by simp [frameOut]) (by simp only [frameOut, gae.out, Option.getD_some, Option.getD_none]; simp [hM0, set_same])
 ·cases h

@[simp] def gan.m (x0 : Tn) : List AObj := [.blk x0.enc]
@[simp] def gan.out (_x0 : Tn) (r : Int) : Out := { av := .lit (.int .i64 r), M := none }
theorem gan.can (x0 : Tn) (r : Int) (hr : gan x0 = some r) : CallOk Tryz.prog 31 [.ptr 0 0] (gan.m x0) (gan.out x0 r) := by
 unfold gan at hr
 have hΓ := gamL_nil (P := Tryz.prog)
 refine cw Tryz.func31 rfl (by kernel_rfl) rfl rfl (by simp) fun _ _ _ => ?_
 refine tq hΓ [] [] ?_
 refine tq hΓ [2] [0] ?_
 obtain rfl := La hr
 exact AWp.ret (Le (by simp))

@[simp] noncomputable def gan.S : Sp
  | [.ptr i0 0], M => (rdB M i0).bind fun c0 => some { av := .lit (.int .i64 ((gan (Tn.dec c0)).getD dflt)), M := none, obl := c0 = Tn.enc (Tn.dec c0) ∧ (gan (Tn.dec c0)).isSome = true }
  | _, _ => none

theorem gan.ok : SpecOk Tryz.prog 31 gan.S := by
 intro l M out h
 unfold gan.S at h
 split at h
 ·rename_i i0
  obtain ⟨c0, hM0, h⟩ := bB h
  cases h
  refine callOk_of fun ho => ?_
  obtain ⟨oc0, hs⟩ := ho
  generalize (Tn.dec c0) = y0 at *
  subst oc0
  obtain ⟨r, hr⟩ := so1 hs
  simp only [hr, gd1]
  have q := Lg (M := M) [i0] (gan.can y0 r hr) (by simp) rfl (ix (by simp [hM0]) ixn)
  exact callOk_conv q trivial (by simp [into]) (by simp [frameOut]) (by simp only [frameOut, gan.out, Option.getD_some, Option.getD_none]; simp [hM0, set_same])
 ·cases h

@[simp] def gD.m (x0 : Tn) : List AObj := [.blk x0.enc]
@[simp] def gD.out (_x0 : Tn) (r : Ta × Bool) : Out := { av := .tup [.agg [.lit (.int .i64 r.1.fN), .lit (.int .i64 r.1.fj), .lit (.int .i64 r.1.fw), .lit (.bool r.1.fy)], .lit (.bool r.2)], M := none }
theorem gD.can (x0 : Tn) (r : Ta × Bool) (hr : gD x0 = some r) : CallOk Tryz.prog 27 [.ptr 0 0] (gD.m x0) (gD.out x0 r) := by
 unfold gD at hr
 have hΓ := gamL_nil (P := Tryz.prog)
 refine cw Tryz.func27 rfl (by kernel_rfl) rfl rfl (by simp) fun _ _ _ => ?_
 refine tq hΓ [2] [] ?_
 refine AWp.seq ?_
 refine tq hΓ [9] [] ?_
 refine AWp.cnd hr (by simp) (fun h3 hr => ?_) (fun h3 hr => ?_)
 ·refine tq hΓ [3] [9, 0] ?_ (by simp [h3]; exact rr)
  obtain rfl := La hr
  exact AWp.ret (Le (by simp))
 ·refine AWp.skip ?_
  obtain ⟨h4, hr⟩ := Lc hr
  refine tq hΓ [3] [9, 0] ?_ (by simp [h3, h4]; exact rr)
  obtain rfl := La hr
  exact AWp.ret (Le (by simp))

@[simp] noncomputable def gD.S : Sp
  | [.ptr i0 0], M => (rdB M i0).bind fun c0 => (fun (r : Ta × Bool) => some { av := .tup [.agg [.lit (.int .i64 (r.1.fN)), .lit (.int .i64 (r.1.fj)), .lit (.int .i64 (r.1.fw)), .lit (.bool (r.1.fy))], .lit (.bool (r.2))], M := none, obl := c0 = Tn.enc (Tn.dec c0) ∧ (gD (Tn.dec c0)).isSome = true }) ((gD (Tn.dec c0)).getD dflt)
  | _, _ => none

theorem gD.ok : SpecOk Tryz.prog 27 gD.S := by
 intro l M out h
 unfold gD.S at h
 split at h
 ·rename_i i0
  obtain ⟨c0, hM0, h⟩ := bB h
  try dsimp only at h
  cases h
  refine callOk_of fun ho => ?_
  obtain ⟨oc0, hs⟩ := ho
  generalize (Tn.dec c0) = y0 at *
  subst oc0
  obtain ⟨r, hr⟩ := so1 hs
  simp only [hr, gd1]
  have q := Lg (M := M) [i0] (gD.can y0 r hr) (by simp) rfl (ix (by simp [hM0]) ixn)
  exact callOk_conv q trivial (by simp [into]) (by simp [frameOut]) (by simp only [frameOut, gD.out, Option.getD_some, Option.getD_none]; simp [hM0, set_same])
 ·cases h

@[simp] def gL.m (x0 : Tn) : List AObj := [.blk x0.enc]
@[simp] def gL.out (_x0 : Tn) (r : Ta × Tn) : Out := { av := .agg [.lit (.int .i64 r.1.fN), .lit (.int .i64 r.1.fj), .lit (.int .i64 r.1.fw), .lit (.bool r.1.fy)], M := some [.blk [.lit (.int .i64 r.2.fe), .lit (.int .i64 r.2.fb), .sl (r.2.fL.map Ta.enc) .no, .lit (.int .i64 r.2.fj), .lit (.bool r.2.fv)]] }
theorem gL.can (x0 : Tn) (r : Ta × Tn) (hr : gL x0 = some r) : CallOk Tryz.prog 75 [.ptr 0 0] (gL.m x0) (gL.out x0 r) := by
 unfold gL at hr
 have hΓ := gamL_nil (P := Tryz.prog)
 refine cw Tryz.func75 rfl (by kernel_rfl) rfl rfl (by simp) fun _ _ _ => ?_
 refine tq hΓ [2] [] ?_
 obtain ⟨h3, hr⟩ := Lc hr
 refine tq hΓ [3] [] ?_ (by simp [h3]; exact rr)
 obtain ⟨h4, hr⟩ := Lc hr
 refine tq hΓ [] [] ?_ (by simp [h4]; exact rr)
 refine td hΓ [] [0] [] [(false, []), (false, []), (false, []), (false, []), (false, []), (false, []), (false, []), (false, []), (false, []), (true, [])] (by simp; exact rr) ?_
 refine tq hΓ [] [3] ?_ (by simp; exact rr)
 obtain rfl := La hr
 exact AWp.ret (Le (by simp))

@[simp] noncomputable def gL.S : Sp
  | [.ptr i0 0], M => (rdB M i0).bind fun c0 => (fun (r : Ta × Tn) => some { av := .agg [.lit (.int .i64 (r.1.fN)), .lit (.int .i64 (r.1.fj)), .lit (.int .i64 (r.1.fw)), .lit (.bool (r.1.fy))], M := some (M.set i0 (.blk [.lit (.int .i64 (r.2.fe)), .lit (.int .i64 (r.2.fb)), .sl ((r.2.fL).map Ta.enc) .no, .lit (.int .i64 (r.2.fj)), .lit (.bool (r.2.fv))])), obl := c0 = Tn.enc (Tn.dec c0) ∧ (gL (Tn.dec c0)).isSome = true }) ((gL (Tn.dec c0)).getD dflt)
  | _, _ => none

theorem gL.ok : SpecOk Tryz.prog 75 gL.S := by
 intro l M out h
 unfold gL.S at h
 split at h
 ·rename_i i0
  obtain ⟨c0, hM0, h⟩ := bB h
  try dsimp only at h
  cases h
  refine callOk_of fun ho => ?_
  obtain ⟨oc0, hs⟩ := ho
  generalize (Tn.dec c0) = y0 at *
  subst oc0
  obtain ⟨r, hr⟩ := so1 hs
  simp only [hr, gd1]
  have q := Lg (M := M) [i0] (gL.can y0 r hr) (by simp) rfl (ix (by simp [hM0]) ixn)
  exact callOk_conv q trivial (by simp [into]) (by simp [frameOut]) (by simp [frameOut])
 ·cases h

@[simp] def gaw.m (x0 : Tn) : List AObj := [.blk x0.enc]
@[simp] def gaw.out (_x0 : Tn) (r : Ta × Bool × Tn) : Out := { av := .tup [.agg [.lit (.int .i64 r.1.fN), .lit (.int .i64 r.1.fj), .lit (.int .i64 r.1.fw), .lit (.bool r.1.fy)], .lit (.bool r.2.1)], M := some [.blk [.lit (.int .i64 r.2.2.fe), .lit (.int .i64 r.2.2.fb), .sl (r.2.2.fL.map Ta.enc) .no, .lit (.int .i64 r.2.2.fj), .lit (.bool r.2.2.fv)]] }
theorem gaw.can (x0 : Tn) (r : Ta × Bool × Tn) (hr : gaw x0 = some r) : CallOk Tryz.prog 28 [.ptr 0 0] (gaw.m x0) (gaw.out x0 r) := by
 unfold gaw at hr
 have hΓ := (gamL_cons gL.ok (gamL_nil) : GamOk Tryz.prog _)
 refine cw Tryz.func28 rfl (by kernel_rfl) rfl rfl (by simp) fun _ _ _ => ?_
 refine tq hΓ [2] [] ?_
 refine AWp.seq ?_
 refine tq hΓ [9] [] ?_
 refine AWp.cnd hr (by simp) (fun h3 hr => ?_) (fun h3 hr => ?_)
 ·refine tq hΓ [3] [9, 0] ?_ (by simp [h3]; exact rr)
  obtain rfl := La hr
  exact AWp.ret (Le (by simp))
 ·refine AWp.skip ?_
  obtain ⟨r1, h4, hr⟩ := Lb hr
  refine tq hΓ [3] [9, 0] ?_ (by simp [h3, h4]; exact rr)
  obtain rfl := La hr
  exact AWp.ret (Le (by simp))

@[simp] noncomputable def gaw.S : Sp
  | [.ptr i0 0], M => (rdB M i0).bind fun c0 => (fun (r : Ta × Bool × Tn) => some { av := .tup [.agg [.lit (.int .i64 (r.1.fN)), .lit (.int .i64 (r.1.fj)), .lit (.int .i64 (r.1.fw)), .lit (.bool (r.1.fy))], .lit (.bool (r.2.1))], M := some (M.set i0 (.blk [.lit (.int .i64 (r.2.2.fe)), .lit (.int .i64 (r.2.2.fb)), .sl ((r.2.2.fL).map Ta.enc) .no, .lit (.int .i64 (r.2.2.fj)), .lit (.bool (r.2.2.fv))])), obl := c0 = Tn.enc (Tn.dec c0) ∧ (gaw (Tn.dec c0)).isSome = true }) ((gaw (Tn.dec c0)).getD dflt)
  | _, _ => none

theorem gaw.ok : SpecOk Tryz.prog 28 gaw.S := by
 intro l M out h
 unfold gaw.S at h
 split at h
 ·rename_i i0
  obtain ⟨c0, hM0, h⟩ := bB h
  try dsimp only at h
  cases h
  refine callOk_of fun ho => ?_
  obtain ⟨oc0, hs⟩ := ho
  generalize (Tn.dec c0) = y0 at *
  subst oc0
  obtain ⟨r, hr⟩ := so1 hs
  simp only [hr, gd1]
  have q := Lg (M := M) [i0] (gaw.can y0 r hr) (by simp) rfl (ix (by simp [hM0]) ixn)
  exact callOk_conv q trivial (by simp [into]) (by simp [frameOut]) (by simp [frameOut])
 ·cases h

@[simp] def gq.m (x0 : Tn) : List AObj := [.blk x0.enc]
@[simp] def gq.out (_x0 : Tn) (r : List Ta × Tn) : Out := { av := .sl (r.1.map Ta.enc) .no, M := some [.blk [.lit (.int .i64 r.2.fe), .lit (.int .i64 r.2.fb), .sl (r.2.fL.map Ta.enc) .no, .lit (.int .i64 r.2.fj), .lit (.bool r.2.fv)]] }
def gq.fin (x0 : Tn) (r : List Ta × Tn) (σ : St) : Prop := finK (gq.out x0 r) (gq.m x0) σ.M (resA Tryz.ty σ.A σ.M Tryz.f84.results.toList)
theorem gq.can (x0 : Tn) (r : List Ta × Tn) (hr : gq x0 = some r) : CallOk Tryz.prog 84 [.ptr 0 0] (gq.m x0) (gq.out x0 r) := by
 unfold gq at hr
 have hΓ := (gamL_cons gL.ok (gamL_nil) : GamOk Tryz.prog _)
 refine cw Tryz.func84 rfl (by kernel_rfl) rfl rfl (by simp) fun _ _ _ => ?_
 refine tq hΓ [] [] ?_
 obtain ⟨r1, h6, hr⟩ := Lb hr
 refine tq hΓ [3] [] ?_ (by simp [h6]; exact rr)
 refine AWp.equip 3 4 (els := ([r1.1].map Ta.enc)) (by simp) (by simp) ?_
 refine AWp.loopB (fun (s1 : List Ta × Tn) (γ1 : Nat) => ⟨[⟨3, none, .sl (s1.1.map Ta.enc) (.own 1 (γ1) 4)⟩, ⟨0, none, .ptr 0 0⟩], [.blk s1.2.enc, .room (γ1)]⟩) (fun (v1 : List Ta × Tn) (γ1a : Nat) => ⟨[⟨3, none, .sl (v1.1.map Ta.enc) (.own 1 (γ1a) 4)⟩, ⟨0, none, .ptr 0 0⟩], [.blk v1.2.enc, .room (γ1a)]⟩) (gq.fin x0) hr 0 2 (by simp) (fun s1 f γ1 hr => ?_) (fun v1 γ1a hr => ?_) (fun _ h => h)
 ·unfold gq.loop1 at hr
  refine AWp.seq ?_
  obtain ⟨h7, hr⟩ := Lc hr
  refine tq hΓ [22] [] ?_ (by simp [h7]; exact rr)
  refine AWp.cnd hr (by simp) (fun h8 hr => ?_) (fun h8 hr => ?_)
  ·refine AWp.skip ?_
   refine AWp.block ?_
   obtain ⟨r2, h9, hr⟩ := Lb hr
   obtain ⟨h10, hr⟩ := Lc hr
   refine tl hΓ [3] [22] ?_ (by simp [h8, h9, h10]; exact rr)
   obtain rfl := La hr
   exact Lk (γ1 + 1) 2 (by first | (simp; done) | simp [h6, h7, h8, h9, h10])
  ·refine AWp.exit ?_
   obtain rfl := La hr
   exact Ln (γ1) 2 (by first | (simp; done) | simp [h6, h7, h8])
 ·refine tq hΓ [] [0] ?_ (by simp; exact rr)
  refine tq hΓ [2] [3] ?_ (by simp; exact rr)
  obtain rfl := La hr
  exact AWp.ret (Le (by simp))

@[simp] noncomputable def gq.S : Sp
  | [.ptr i0 0], M => (rdB M i0).bind fun c0 => (fun (r : List Ta × Tn) => some { av := .sl ((r.1).map Ta.enc) .no, M := some (M.set i0 (.blk [.lit (.int .i64 (r.2.fe)), .lit (.int .i64 (r.2.fb)), .sl ((r.2.fL).map Ta.enc) .no, .lit (.int .i64 (r.2.fj)), .lit (.bool (r.2.fv))])), obl := c0 = Tn.enc (Tn.dec c0) ∧ (gq (Tn.dec c0)).isSome = true }) ((gq (Tn.dec c0)).getD dflt)
  | _, _ => none

theorem gq.ok : SpecOk Tryz.prog 84 gq.S := by
 intro l M out h
 unfold gq.S at h
 split at h
 ·rename_i i0
  obtain ⟨c0, hM0, h⟩ := bB h
  try dsimp only at h
  cases h
  refine callOk_of fun ho => ?_
  obtain ⟨oc0, hs⟩ := ho
  generalize (Tn.dec c0) = y0 at *
  subst oc0
  obtain ⟨r, hr⟩ := so1 hs
  simp only [hr, gd1]
  have q := Lg (M := M) [i0] (gq.can y0 r hr) (by simp) rfl (ix (by simp [hM0]) ixn)
  exact callOk_conv q trivial (by simp [into]) (by simp [frameOut]) (by simp [frameOut])
 ·cases h

@[simp] def gv.m (x0 : Tn) (_x1 : Ta) : List AObj := [.blk x0.enc]
@[simp] def gv.out (_x0 : Tn) (_x1 : Ta) (r : List Ta × Bool × Tn) : Out := { av := .tup [.sl (r.1.map Ta.enc) .no, .lit (.bool r.2.1)], M := some [.blk [.lit (.int .i64 r.2.2.fe), .lit (.int .i64 r.2.2.fb), .sl (r.2.2.fL.map Ta.enc) .no, .lit (.int .i64 r.2.2.fj), .lit (.bool r.2.2.fv)]] }
def gv.fin (x0 : Tn) (x1 : Ta) (r : List Ta × Bool × Tn) (σ : St) : Prop := finK (gv.out x0 x1 r) (gv.m x0 x1) σ.M (resA Tryz.ty σ.A σ.M Tryz.f54.results.toList)
theorem gv.can (x0 : Tn) (x1 : Ta) (r : List Ta × Bool × Tn) (hr : gv x0 x1 = some r) : CallOk Tryz.prog 54 [.ptr 0 0, .agg [.lit (.int .i64 x1.fN), .lit (.int .i64 x1.fj), .lit (.int .i64 x1.fw), .lit (.bool x1.fy)]] (gv.m x0 x1) (gv.out x0 x1 r) := by
 unfold gv at hr
 have hΓ := (gamL_cons gq.ok (gamL_nil) : GamOk Tryz.prog _)
 refine cw Tryz.func54 rfl (by kernel_rfl) rfl rfl (by simp) fun _ _ _ => ?_
 refine tq hΓ [3] [1] ?_
 refine AWp.seq ?_
 refine td hΓ [29] [] [] [(false, []), (false, []), (false, []), (false, []), (false, [10]), (false, [10]), (false, [10]), (false, [10]), (false, [10]), (false, [10]), (false, [10]), (false, []), (false, []), (false, [19]), (false, [19]), (false, [19]), (false, [19]), (false, [19]), (false, [24, 19]), (false, [24, 19]), (false, [24, 19]), (false, [19]), (false, [])] (by simp; exact rr) ?_
 refine AWp.cnd hr (by simp) (fun h8 hr => ?_) (fun h8 hr => ?_)
 ·refine tq hΓ [] [29, 3, 0] ?_ (by simp [h8]; exact rr)
  refine tq hΓ [4, 5] [] ?_ (by simp; exact rr)
  obtain rfl := La hr
  exact AWp.ret (Le (by simp))
 ·refine AWp.skip ?_
  refine tq hΓ [6] [29] ?_ (by simp [h8]; exact rr)
  refine AWp.equip 6 4 (els := []) (by simp) (by simp) ?_
  refine AWp.loopB (fun (s1 : List Ta × Tn) (γ1 : Nat) => ⟨[⟨6, none, .sl (s1.1.map Ta.enc) (.own 2 (γ1) 4)⟩, ⟨3, none, .ptr 1 0⟩, ⟨0, none, .ptr 0 0⟩], [.blk s1.2.enc, .blk x1.enc, .room (γ1)]⟩) (fun (v1 : List Ta × Tn) (γ1a : Nat) => ⟨[⟨6, none, .sl (v1.1.map Ta.enc) (.own 2 (γ1a) 4)⟩, ⟨3, none, .ptr 1 0⟩, ⟨0, none, .ptr 0 0⟩], [.blk v1.2.enc, .blk x1.enc, .room (γ1a)]⟩) (gv.fin x0 x1) hr 0 3 (by simp) (fun s1 f γ1 hr => ?_) (fun v1 γ1a hr => ?_) (fun _ h => h)
  ·unfold gv.loop1 at hr
   refine AWp.seq ?_
   refine td hΓ [56] [] [] [(false, []), (false, []), (false, []), (false, []), (false, []), (false, []), (false, []), (false, []), (false, []), (false, []), (false, []), (false, [43]), (false, [43]), (false, [43]), (false, [43]), (false, [43]), (false, [43]), (false, [43]), (false, [43]), (false, [43]), (false, [43]), (false, [43]), (false, [43]), (false, [])] (by simp; exact rr) ?_
   refine AWp.cnd hr (by simp) (fun h9 hr => ?_) (fun h9 hr => ?_)
   ·refine AWp.skip ?_
    refine AWp.block ?_
    obtain ⟨r1, h10, hr⟩ := Lb hr
    obtain ⟨h11, hr⟩ := Lc hr
    refine tl hΓ [6] [56] ?_ (by simp [h9, h10, h11]; exact rr)
    obtain rfl := La hr
    exact Lk (γ1 + 1) 3 (by first | (simp; done) | simp [h8, h9, h10, h11])
   ·refine AWp.exit ?_
    obtain rfl := La hr
    exact Ln (γ1) 3 (by first | (simp; done) | simp [h8, h9])
  ·refine AWp.seq ?_
   refine tq hΓ [69] [] ?_ (by simp; exact rr)
   refine AWp.cnd hr (by simp) (fun h12 hr => ?_) (fun h12 hr => ?_)
   ·refine tq hΓ [4, 5] [69, 6, 3, 0] ?_ (by simp [h12]; exact rr)
    obtain rfl := La hr
    exact AWp.ret (Le (by simp))
   ·refine AWp.skip ?_
    refine tq hΓ [] [69] ?_ (by simp [h12]; exact rr)
    obtain ⟨h13, hr⟩ := Lc hr
    obtain ⟨h14, hr⟩ := Lc hr
    refine td hΓ [] [] [(0, 19)] [(false, []), (false, []), (false, []), (false, []), (false, []), (false, []), (false, []), (false, []), (false, []), (false, []), (false, []), (false, []), (false, []), (false, []), (false, []), (false, []), (false, []), (false, []), (true, []), (false, []), (false, []), (true, [])] (by simp [h13, h14]; exact rr) ?_
    refine td hΓ [] [3, 0] [] [(false, []), (false, []), (false, []), (false, []), (false, []), (false, []), (false, []), (false, []), (false, []), (true, [])] (by simp; exact rr) ?_
    refine tq hΓ [4, 5] [6] ?_ (by simp; exact rr)
    obtain rfl := La hr
    exact AWp.ret (Le (by simp))

@[simp] noncomputable def gv.S : Sp
  | [.ptr i0 0, .agg e1], M => (rdB M i0).bind fun c0 => (fun (y1 : Ta) => (fun (r : List Ta × Bool × Tn) => some { av := .tup [.sl ((r.1).map Ta.enc) .no, .lit (.bool (r.2.1))], M := some (M.set i0 (.blk [.lit (.int .i64 (r.2.2.fe)), .lit (.int .i64 (r.2.2.fb)), .sl ((r.2.2.fL).map Ta.enc) .no, .lit (.int .i64 (r.2.2.fj)), .lit (.bool (r.2.2.fv))])), obl := WeakL e1 (Ta.enc y1) ∧ c0 = Tn.enc (Tn.dec c0) ∧ (gv (Tn.dec c0) y1).isSome = true }) ((gv (Tn.dec c0) y1).getD dflt)) (Ta.dec e1)
  | _, _ => none

theorem gv.ok : SpecOk Tryz.prog 54 gv.S := by
 intro l M out h
 unfold gv.S at h
 split at h
 ·rename_i i0 e1
  obtain ⟨c0, hM0, h⟩ := bB h
  try dsimp only at h
  cases h
  refine callOk_of fun ho => ?_
  obtain ⟨ox1, oc0, hs⟩ := ho
  generalize (Tn.dec c0) = y0 at *
  generalize (Ta.dec e1) = x1 at *
  subst oc0
  obtain ⟨r, hr⟩ := so1 hs
  simp only [hr, gd1]
  have q := Lg (M := M) [i0] (gv.can y0 x1 r hr) (by simp) rfl (ix (by simp [hM0]) ixn)
  exact callOk_conv q trivial (by simp [into]; exact ox1) (by simp [frameOut]) (by simp [frameOut])
 ·cases h

@[simp] def gn.m (x0 : Tn) (_x1 : Int) (_x2 : Int) : List AObj := [.blk x0.enc]
@[simp] def gn.out (_x0 : Tn) (_x1 : Int) (_x2 : Int) (r : List Ta × Tn) : Out := { av := .sl (r.1.map Ta.enc) .no, M := some [.blk [.lit (.int .i64 r.2.fe), .lit (.int .i64 r.2.fb), .sl (r.2.fL.map Ta.enc) .no, .lit (.int .i64 r.2.fj), .lit (.bool r.2.fv)]] }
def gn.fin (x0 : Tn) (x1 : Int) (x2 : Int) (r : List Ta × Tn) (σ : St) : Prop := finK (gn.out x0 x1 x2 r) (gn.m x0 x1 x2) σ.M (resA Tryz.ty σ.A σ.M Tryz.f64.results.toList)
theorem gn.can (x0 : Tn) (x1 : Int) (x2 : Int) (r : List Ta × Tn) (hr : gn x0 x1 x2 = some r) : CallOk Tryz.prog 64 [.ptr 0 0, .lit (.int .i64 x1), .lit (.int .i64 x2)] (gn.m x0 x1 x2) (gn.out x0 x1 x2 r) := by
 unfold gn at hr
 have hΓ := (gamL_cons gq.ok (gamL_nil) : GamOk Tryz.prog _)
 refine cw Tryz.func64 rfl (by kernel_rfl) rfl rfl (by simp) fun _ _ _ => ?_
 refine tq hΓ [] [] ?_
 refine tq hΓ [7] [] ?_
 refine AWp.equip 7 4 (els := []) (by simp) (by simp) ?_
 refine AWp.loopB (fun (s1 : List Ta × Tn) (γ1 : Nat) => ⟨[⟨7, none, .sl (s1.1.map Ta.enc) (.own 1 (γ1) 4)⟩, ⟨0, none, .ptr 0 0⟩, ⟨1, none, .n x1⟩, ⟨2, none, .n x2⟩], [.blk s1.2.enc, .room (γ1)]⟩) (fun (v1 : List Ta × Tn) (γ1a : Nat) => ⟨[⟨7, none, .sl (v1.1.map Ta.enc) (.own 1 (γ1a) 4)⟩], [.blk v1.2.enc, .room (γ1a)]⟩) (gn.fin x0 x1 x2) hr 0 2 (by simp) (fun s1 f γ1 hr => ?_) (fun v1 γ1a hr => ?_) (fun _ h => h)
 ·unfold gn.loop1 at hr
  refine AWp.seq ?_
  obtain ⟨h5, hr⟩ := Lc hr
  refine tq hΓ [26] [] ?_ (by simp [h5]; exact rr)
  refine AWp.cnd hr (by simp) (fun h6 hr => ?_) (fun h6 hr => ?_)
  ·refine AWp.skip ?_
   refine AWp.block ?_
   obtain ⟨r1, h7, hr⟩ := Lb hr
   obtain ⟨h8, hr⟩ := Lc hr
   refine tl hΓ [7] [26] ?_ (by simp [h6, h7, h8]; exact rr)
   obtain rfl := La hr
   exact Lk (γ1 + 1) 2 (by first | (simp; done) | simp [h5, h6, h7, h8])
  ·refine AWp.exit ?_
   obtain rfl := La hr
   exact Ln (γ1) 2 (by first | (simp; done) | simp [h5, h6])
 ·refine tq hΓ [6] [7] ?_
  obtain rfl := La hr
  exact AWp.ret (Le (by simp))

@[simp] noncomputable def gn.S : Sp
  | [.ptr i0 0, .lit (.int .i64 x1), .lit (.int .i64 x2)], M => (rdB M i0).bind fun c0 => (fun (r : List Ta × Tn) => some { av := .sl ((r.1).map Ta.enc) .no, M := some (M.set i0 (.blk [.lit (.int .i64 (r.2.fe)), .lit (.int .i64 (r.2.fb)), .sl ((r.2.fL).map Ta.enc) .no, .lit (.int .i64 (r.2.fj)), .lit (.bool (r.2.fv))])), obl := c0 = Tn.enc (Tn.dec c0) ∧ (gn (Tn.dec c0) x1 x2).isSome = true }) ((gn (Tn.dec c0) x1 x2).getD dflt)
  | _, _ => none

theorem gn.ok : SpecOk Tryz.prog 64 gn.S := by
 intro l M out h
 unfold gn.S at h
 split at h
 ·rename_i i0 x1 x2
  obtain ⟨c0, hM0, h⟩ := bB h
  try dsimp only at h
  cases h
  refine callOk_of fun ho => ?_
  obtain ⟨oc0, hs⟩ := ho
  generalize (Tn.dec c0) = y0 at *
  subst oc0
  obtain ⟨r, hr⟩ := so1 hs
  simp only [hr, gd1]
  have q := Lg (M := M) [i0] (gn.can y0 x1 x2 r hr) (by simp) rfl (ix (by simp [hM0]) ixn)
  exact callOk_conv q trivial (by simp [into]) (by simp [frameOut]) (by simp [frameOut])
 ·cases h

@[simp] def gX.m (x0 : Tn) : List AObj := [.blk x0.enc]
@[simp] def gX.out (_x0 : Tn) (r : List Ta × Tn) : Out := { av := .sl (r.1.map Ta.enc) .no, M := some [.blk [.lit (.int .i64 r.2.fe), .lit (.int .i64 r.2.fb), .sl (r.2.fL.map Ta.enc) .no, .lit (.int .i64 r.2.fj), .lit (.bool r.2.fv)]] }
theorem gX.can (x0 : Tn) (r : List Ta × Tn) (hr : gX x0 = some r) : CallOk Tryz.prog 96 [.ptr 0 0] (gX.m x0) (gX.out x0 r) := by
 unfold gX at hr
 have hΓ := gamL_nil (P := Tryz.prog)
 refine cw Tryz.func96 rfl (by kernel_rfl) rfl rfl (by simp) fun _ _ _ => ?_
 refine tq hΓ [] [] ?_
 refine tq hΓ [3] [] ?_
 refine tq hΓ [] [0] ?_
 refine tq hΓ [2] [3] ?_
 obtain rfl := La hr
 exact AWp.ret (Le (by simp))

@[simp] noncomputable def gX.S : Sp
  | [.ptr i0 0], M => (rdB M i0).bind fun c0 => (fun (r : List Ta × Tn) => some { av := .sl ((r.1).map Ta.enc) .no, M := some (M.set i0 (.blk [.lit (.int .i64 (r.2.fe)), .lit (.int .i64 (r.2.fb)), .sl ((r.2.fL).map Ta.enc) .no, .lit (.int .i64 (r.2.fj)), .lit (.bool (r.2.fv))])), obl := c0 = Tn.enc (Tn.dec c0) ∧ (gX (Tn.dec c0)).isSome = true }) ((gX (Tn.dec c0)).getD dflt)
  | _, _ => none

theorem gX.ok : SpecOk Tryz.prog 96 gX.S := by
 intro l M out h
 unfold gX.S at h
 split at h
 ·rename_i i0
  obtain ⟨c0, hM0, h⟩ := bB h
  try dsimp only at h
  cases h
  refine callOk_of fun ho => ?_
  obtain ⟨oc0, hs⟩ := ho
  generalize (Tn.dec c0) = y0 at *
  subst oc0
  obtain ⟨r, hr⟩ := so1 hs
  simp only [hr, gd1]
  have q := Lg (M := M) [i0] (gX.can y0 r hr) (by simp) rfl (ix (by simp [hM0]) ixn)
  exact callOk_conv q trivial (by simp [into]) (by simp [frameOut]) (by simp [frameOut])
 ·cases h
end Go.Proofs

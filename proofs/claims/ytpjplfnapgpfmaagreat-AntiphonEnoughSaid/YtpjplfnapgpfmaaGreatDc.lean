/- That these functions compute what their plain functions do. No condition. -/
import Derived.Test.YtpjplfnapgpfmaaGreatM05
import Derived.Test.YtpjplfnapgpfmaaGreatTy
import Derived.Test.YtpjplfnapgpfmaaGreatM14
import Derived.Test.YtpjplfnapgpfmaaGreatM01
set_option maxRecDepth 100000
set_option maxHeartbeats 4000000
namespace Go.Proofs
open Go.Ab
@[simp] def gaX.out (_x0 : Int) (r : Option Tp × Int) : Out := { av := .tup [(optC r.1 (.lit (.pointer none)) fun _ => .ptr 2 0), .lit (.int .i64 r.2)], M := some (optC r.1 [] fun m0 => [.mapo (encM (kI .i64) (kI .i64) m0.fm), .mapo (encM (kI .i64) (kI .i64) m0.fp), .blk [.lit (.int .i64 m0.fb), .mp 0, .mp 1, .lit (.int .i64 m0.fAt), .lit (.bool m0.fg)]]) }
theorem gaX.can (x0 : Int) (r : Option Tp × Int) (hr : gaX x0 = some r) : CallOk Tryz.prog 53 [.lit (.int .i64 x0)] [] (gaX.out x0 r) := by
 unfold gaX at hr
 have hΓ := gamL_nil (P := Tryz.prog)
 refine cw Tryz.func53 rfl (by kernel_rfl) rfl rfl (by simp) fun _ _ _ => ?_
 refine tq hΓ [] [] ?_
 refine AWp.seq ?_
 refine tq hΓ [9] [] ?_
 refine AWp.cnd hr (by simp) (fun h2 hr => ?_) (fun h2 hr => ?_)
 ·refine tq hΓ [2, 3] [9, 0] ?_ (by simp [h2]; exact rr)
  obtain rfl := La hr
  exact AWp.ret (Le (by simp))
 ·refine AWp.skip ?_
  refine tq hΓ [2, 3] [9, 0] ?_ (by simp [h2]; exact rr)
  obtain rfl := La hr
  exact AWp.ret (Le (by simp))

@[simp] noncomputable def gaX.S : Sp
  | [.lit (.int .i64 x0)], M => some { av := .tup [(optC (((gaX x0).getD dflt).1) (.lit (.pointer none)) fun _ => .ptr (M.length + 2) 0), .lit (.int .i64 (((gaX x0).getD dflt).2))], M := some (optC (((gaX x0).getD dflt).1) M fun m0 => M ++ [.mapo (encM (kI .i64) (kI .i64) m0.fm), .mapo (encM (kI .i64) (kI .i64) m0.fp), .blk [.lit (.int .i64 m0.fb), .mp M.length, .mp (M.length + 1), .lit (.int .i64 m0.fAt), .lit (.bool m0.fg)]]), obl := (gaX x0).isSome = true }
  | _, _ => none

theorem gaX.ok : SpecOk Tryz.prog 53 gaX.S := by
 intro l M out h
 unfold gaX.S at h
 split at h
 ·rename_i x0
  cases h
  refine callOk_of fun ho => ?_
  have hs := ho
  obtain ⟨r, hr⟩ := so1 hs
  simp only [hr, gd1]
  have q := Lg (M := M) [] (gaX.can x0 r hr) (by simp) rfl ixn
  cases hc : r.1 with
  | none => exact callOk_conv q trivial (by simp) (by simp [hc, frameOut]) (by simp [hc, frameOut])
  | some m0 => exact callOk_conv q trivial (by simp) (by simp [hc, frameOut, into]) (by simp [hc, frameOut, into])
 ·cases h

@[simp] def gaq.m (x0 : Tp) (_x1 : Int) (_x2 : Int) : List AObj := [.blk [.lit (.int .i64 x0.fb), .mp 1, .mp 2, .lit (.int .i64 x0.fAt), .lit (.bool x0.fg)], .mapo (encM (kI .i64) (kI .i64) x0.fm), .mapo (encM (kI .i64) (kI .i64) x0.fp)]
@[simp] def gaq.out (_x0 : Tp) (_x1 : Int) (_x2 : Int) (r : Int × Tp) : Out := { av := .lit (.int .i64 r.1), M := some [.blk [.lit (.int .i64 r.2.fb), .mp 1, .mp 2, .lit (.int .i64 r.2.fAt), .lit (.bool r.2.fg)], .mapo (encM (kI .i64) (kI .i64) r.2.fm), .mapo (encM (kI .i64) (kI .i64) r.2.fp)] }
theorem gaq.can (x0 : Tp) (x1 : Int) (x2 : Int) (r : Int × Tp) (hr : gaq x0 x1 x2 = some r) : CallOk Tryz.prog 92 [.ptr 0 0, .lit (.int .i64 x1), .lit (.int .i64 x2)] (gaq.m x0 x1 x2) (gaq.out x0 x1 x2 r) := by
 unfold gaq at hr
 have hΓ := gamL_nil (P := Tryz.prog)
 refine cw Tryz.func92 rfl (by kernel_rfl) rfl rfl (by simp) fun _ _ _ => ?_
 refine tq hΓ [] [] ?_
 refine AWp.seq ?_
 refine AWp.block ?_
 refine tq hΓ [7] [] ?_
 refine AWp.cnd hr (by simp) (fun h3 hr => ?_) (fun h3 hr => ?_)
 ·refine tq hΓ [6] [7, 0, 1, 2] ?_ (by simp [h3]; exact rr)
  obtain rfl := La hr
  exact AWp.ret (Le (by simp))
 ·refine tq hΓ [18] [7] ?_ (by simp [h3]; exact rr)
  refine AWp.cnd hr (by simp) (fun h4 hr => ?_) (fun h4 hr => ?_)
  ·refine tq hΓ [6] [18, 0, 1, 2] ?_ (by simp [h4]; exact rr)
   obtain rfl := La hr
   exact AWp.ret (Le (by simp))
  ·refine AWp.skip ?_
   refine tq hΓ [] [18, 0, 1, 2] ?_ (by simp [h4]; exact rr)
   refine tq hΓ [6] [] ?_ (by simp; exact rr)
   obtain rfl := La hr
   exact AWp.ret (Le (by simp))

@[simp] noncomputable def gaq.S : Sp
  | [.ptr i0 0, .lit (.int .i64 x1), .lit (.int .i64 x2)], M => (rdB M i0).bind fun c0 => (rdM c0 1).bind fun i1 => (rdE M i1).bind fun c1 => (rdM c0 2).bind fun i2 => (rdE M i2).bind fun c2 => (fun (y0 : Tp) => (fun (r : Int × Tp) => some { av := .lit (.int .i64 (r.1)), M := some (((M.set i0 (.blk [.lit (.int .i64 (r.2.fb)), .mp i1, .mp i2, .lit (.int .i64 (r.2.fAt)), .lit (.bool (r.2.fg))])).set i1 (.mapo (encM (kI .i64) (kI .i64) (r.2.fm)))).set i2 (.mapo (encM (kI .i64) (kI .i64) (r.2.fp)))), obl := c0 = Tp.enc y0 i1 i2 ∧ c1 = encM (kI .i64) (kI .i64) (y0.fm) ∧ c2 = encM (kI .i64) (kI .i64) (y0.fp) ∧ (gaq y0 x1 x2).isSome = true ∧ i0 ≠ i1 ∧ i0 ≠ i2 ∧ i1 ≠ i2 }) ((gaq y0 x1 x2).getD dflt)) (Tp.dec c0 (decM dkI dkI c1) (decM dkI dkI c2))
  | _, _ => none

theorem gaq.ok : SpecOk Tryz.prog 92 gaq.S := by
 intro l M out h
 unfold gaq.S at h
 split at h
 ·rename_i i0 x1 x2
  obtain ⟨c0, hM0, h⟩ := bB h
  obtain ⟨i1, he1, h⟩ := bM h
  obtain ⟨c1, hM1, h⟩ := bE h
  obtain ⟨i2, he2, h⟩ := bM h
  obtain ⟨c2, hM2, h⟩ := bE h
  try dsimp only at h
  cases h
  refine callOk_of fun ho => ?_
  obtain ⟨oc0, oc1, oc2, hs, hne0, hne1, hne2⟩ := ho
  generalize (Tp.dec c0 (decM dkI dkI c1) (decM dkI dkI c2)) = y0 at *
  subst oc0
  subst oc1
  subst oc2
  obtain ⟨r, hr⟩ := so1 hs
  simp only [hr, gd1]
  have q := Lg (M := M) [i0, i1, i2] (gaq.can y0 x1 x2 r hr) (by simp [hne0, hne1, hne2]) rfl (ix (by simp [hM0, into]) (ix (by simp [hM1]) (ix (by simp [hM2]) ixn)))
  exact callOk_conv q trivial (by simp [into]) (by simp [frameOut, into]) (by simp [frameOut, into])
 ·cases h

@[simp] def gF.m (x0 : Tp) (_x1 : Int) : List AObj := [.blk [.lit (.int .i64 x0.fb), .mp 1, .mp 2, .lit (.int .i64 x0.fAt), .lit (.bool x0.fg)], .mapo (encM (kI .i64) (kI .i64) x0.fm), .mapo (encM (kI .i64) (kI .i64) x0.fp)]
@[simp] def gF.out (_x0 : Tp) (_x1 : Int) (r : Int × Tp) : Out := { av := .lit (.int .i64 r.1), M := some [.blk [.lit (.int .i64 r.2.fb), .mp 1, .mp 2, .lit (.int .i64 r.2.fAt), .lit (.bool r.2.fg)], .mapo (encM (kI .i64) (kI .i64) r.2.fm), .mapo (encM (kI .i64) (kI .i64) r.2.fp)] }
def gF.fin (x0 : Tp) (x1 : Int) (r : Int × Tp) (σ : St) : Prop := finK (gF.out x0 x1 r) (gF.m x0 x1) σ.M (resA Tryz.ty σ.A σ.M Tryz.f95.results.toList)
theorem gF.can (x0 : Tp) (x1 : Int) (r : Int × Tp) (hr : gF x0 x1 = some r) : CallOk Tryz.prog 95 [.ptr 0 0, .lit (.int .i64 x1)] (gF.m x0 x1) (gF.out x0 x1 r) := by
 unfold gF at hr
 have hΓ := gamL_nil (P := Tryz.prog)
 refine cw Tryz.func95 rfl (by kernel_rfl) rfl rfl (by simp) fun _ _ _ => ?_
 refine tq hΓ [] [] ?_
 refine AWp.seq ?_
 refine tq hΓ [11] [] ?_
 refine AWp.cnd hr (by simp) (fun h3 hr => ?_) (fun h3 hr => ?_)
 ·refine tq hΓ [4] [11, 0, 1] ?_ (by simp [h3]; exact rr)
  obtain rfl := La hr
  exact AWp.ret (Le (by simp))
 ·refine AWp.skip ?_
  refine tq hΓ [] [11] ?_ (by simp [h3]; exact rr)
  refine tq hΓ [] [] ?_ (by simp; exact rr)
  refine AWp.meetF (fun (v1 : Bool) (γ1 : Unit) => ⟨[], [.blk [.n x0.fb, .mp 1, .mp 2, .n x0.fAt, .b v1], .mapo (encM (kI .i64) (kI .i64) (delM eqI x1 x0.fm)), .mapo (encM (kI .i64) (kI .i64) (delM eqI x1 x0.fp))]⟩) (gF.fin x0 x1) hr (fun f hr => ?_) (fun v1 γ1 hr => ?_) (fun _ h => h)
  ·refine tq hΓ [27] [1] ?_ (by simp; exact rr)
   refine AWp.cnd hr (by simp) (fun h4 hr => ?_) (fun h4 hr => ?_)
   ·refine tl hΓ [] [27, 0] ?_ (by simp [h4]; exact rr)
    obtain rfl := La hr
    exact Ll () 3 (by first | (simp; done) | simp [h3, h4])
   ·refine AWp.skip ?_
    obtain rfl := La hr
    exact Ll () 3 (by first | (simp; done) | simp [h3, h4])
  ·refine tq hΓ [4] [] ?_ (by simp; exact rr)
   obtain rfl := La hr
   exact AWp.ret (Le (by simp))

@[simp] noncomputable def gF.S : Sp
  | [.ptr i0 0, .lit (.int .i64 x1)], M => (rdB M i0).bind fun c0 => (rdM c0 1).bind fun i1 => (rdE M i1).bind fun c1 => (rdM c0 2).bind fun i2 => (rdE M i2).bind fun c2 => (fun (y0 : Tp) => (fun (r : Int × Tp) => some { av := .lit (.int .i64 (r.1)), M := some (((M.set i0 (.blk [.lit (.int .i64 (r.2.fb)), .mp i1, .mp i2, .lit (.int .i64 (r.2.fAt)), .lit (.bool (r.2.fg))])).set i1 (.mapo (encM (kI .i64) (kI .i64) (r.2.fm)))).set i2 (.mapo (encM (kI .i64) (kI .i64) (r.2.fp)))), obl := c0 = Tp.enc y0 i1 i2 ∧ c1 = encM (kI .i64) (kI .i64) (y0.fm) ∧ c2 = encM (kI .i64) (kI .i64) (y0.fp) ∧ (gF y0 x1).isSome = true ∧ i0 ≠ i1 ∧ i0 ≠ i2 ∧ i1 ≠ i2 }) ((gF y0 x1).getD dflt)) (Tp.dec c0 (decM dkI dkI c1) (decM dkI dkI c2))
  | _, _ => none

theorem gF.ok : SpecOk Tryz.prog 95 gF.S := by
 intro l M out h
 unfold gF.S at h
 split at h
 ·rename_i i0 x1
  obtain ⟨c0, hM0, h⟩ := bB h
  obtain ⟨i1, he1, h⟩ := bM h
  obtain ⟨c1, hM1, h⟩ := bE h
  obtain ⟨i2, he2, h⟩ := bM h
  obtain ⟨c2, hM2, h⟩ := bE h
  try dsimp only at h
  cases h
  refine callOk_of fun ho => ?_
  obtain ⟨oc0, oc1, oc2, hs, hne0, hne1, hne2⟩ := ho
  generalize (Tp.dec c0 (decM dkI dkI c1) (decM dkI dkI c2)) = y0 at *
  subst oc0
  subst oc1
  subst oc2
  obtain ⟨r, hr⟩ := so1 hs
  simp only [hr, gd1]
  have q := Lg (M := M) [i0, i1, i2] (gF.can y0 x1 r hr) (by simp [hne0, hne1, hne2]) rfl (ix (by simp [hM0, into]) (ix (by simp [hM1]) (ix (by simp [hM2]) ixn)))
  exact callOk_conv q trivial (by simp [into]) (by simp [frameOut, into]) (by simp [frameOut, into])
 ·cases h

@[simp] def gB.m (x0 : Tp) (_x1 : List Tg) : List AObj := [.blk [.lit (.int .i64 x0.fb), .mp 1, .mp 2, .lit (.int .i64 x0.fAt), .lit (.bool x0.fg)], .mapo (encM (kI .i64) (kI .i64) x0.fm), .mapo (encM (kI .i64) (kI .i64) x0.fp)]
@[simp] def gB.out (x0 : Tp) (_x1 : List Tg) (r : (List (Int × Int))) : Out := { av := .mp 3, M := some [.blk [.lit (.int .i64 x0.fb), .mp 1, .mp 2, .lit (.int .i64 x0.fAt), .lit (.bool x0.fg)], .mapo (encM (kI .i64) (kI .i64) x0.fm), .mapo (encM (kI .i64) (kI .i64) x0.fp), .mapo (encM (kI .i64) (kI .i64) r)] }
def gB.fin (x0 : Tp) (x1 : List Tg) (r : (List (Int × Int))) (σ : St) : Prop := finK (gB.out x0 x1 r) (gB.m x0 x1) σ.M (resA Tryz.ty σ.A σ.M Tryz.f100.results.toList)
theorem gB.can (x0 : Tp) (x1 : List Tg) (r : (List (Int × Int))) (hr : gB x0 x1 = some r) : CallOk Tryz.prog 100 [.ptr 0 0, .sl (x1.map Tg.enc) .no] (gB.m x0 x1) (gB.out x0 x1 r) := by
 unfold gB at hr
 have hΓ := gamL_nil (P := Tryz.prog)
 refine cw Tryz.func100 rfl (by kernel_rfl) rfl rfl (by simp) fun _ _ _ => ?_
 refine tq hΓ [] [] ?_
 refine tq hΓ [5] [] ?_
 refine AWp.seq ?_
 refine tq hΓ [9, 10, 11] [1] ?_
 refine AWp.loopE (fun (s1 : Int × (List (Int × Int))) (γ1 : Unit) => ⟨[⟨9, none, .sl (x1.map Tg.enc) .no⟩, ⟨10, none, .n (lenL x1)⟩, ⟨11, none, .n s1.1⟩, ⟨5, none, .mp 3⟩, ⟨0, none, .ptr 0 0⟩], [.blk [.n x0.fb, .mp 1, .mp 2, .n x0.fAt, .b x0.fg], .mapo (encM (kI .i64) (kI .i64) x0.fm), .mapo (encM (kI .i64) (kI .i64) x0.fp), .mapo (encM (kI .i64) (kI .i64) s1.2)]⟩) (fun (v1 : (List (Int × Int))) (γ1a : Unit) => ⟨[⟨5, none, .mp 3⟩], [.blk [.n x0.fb, .mp 1, .mp 2, .n x0.fAt, .b x0.fg], .mapo (encM (kI .i64) (kI .i64) x0.fm), .mapo (encM (kI .i64) (kI .i64) x0.fp), .mapo (encM (kI .i64) (kI .i64) v1)]⟩) (gB.fin x0 x1) hr () 4 (by simp) (fun s1 f γ1 hr => ?_) (fun v1 γ1a σ1 m1 hr hc => ?_) (fun _ h => h)
 ·unfold gB.loop1 at hr
  refine tq hΓ [12] [] ?_
  refine AWp.seq ?_
  refine AWp.cnd hr (by simp) (fun h4 hr => ?_) (fun h4 hr => ?_)
  ·refine AWp.skip ?_
   refine AWp.seq ?_
   refine AWp.block ?_
   obtain ⟨h5, hr⟩ := Lc hr
   refine tq hΓ [7] [12] ?_ (by simp [h4, h5]; exact rr)
   refine td hΓ [36] [] [] [(false, []), (false, []), (false, []), (false, []), (false, []), (false, []), (false, []), (false, []), (false, []), (false, [23]), (false, [23]), (false, [23]), (false, []), (false, []), (false, [28]), (false, [28]), (false, [28]), (false, [28]), (false, [28]), (false, [28]), (false, [28]), (false, [])] (by simp; exact rr) ?_
   refine AWp.cnd hr (by simp) (fun h6 hr => ?_) (fun h6 hr => ?_)
   ·refine tl hΓ [] [36, 7] ?_ (by simp [h6]; exact rr)
    refine tl hΓ [11] [] ?_ (by simp; exact rr)
    obtain rfl := La hr
    exact Lk () 4 (by first | (simp; done) | simp [h4, h5, h6])
   ·refine AWp.skip ?_
    refine tl hΓ [11] [36, 7] ?_ (by simp [h6]; exact rr)
    obtain rfl := La hr
    exact Lk () 4 (by first | (simp; done) | simp [h4, h5, h6])
  ·refine AWp.exit ?_
   obtain rfl := La hr
   exact Ln () 4 (by first | (simp; done) | simp [h4])
 ·refine AWp.conv hc ?_
  refine tq hΓ [4] [5] ?_
  obtain rfl := La hr
  exact AWp.ret (Le (by simp))

@[simp] noncomputable def gB.S : Sp
  | [.ptr i0 0, .sl e1 _], M => (rdB M i0).bind fun c0 => (rdM c0 1).bind fun i1 => (rdE M i1).bind fun c1 => (rdM c0 2).bind fun i2 => (rdE M i2).bind fun c2 => (fun (y0 : Tp) => some { av := .mp M.length, M := some (M ++ [.mapo (encM (kI .i64) (kI .i64) ((gB y0 (e1.map Tg.dec)).getD dflt))]), obl := e1 = (e1.map Tg.dec).map Tg.enc ∧ c0 = Tp.enc y0 i1 i2 ∧ c1 = encM (kI .i64) (kI .i64) (y0.fm) ∧ c2 = encM (kI .i64) (kI .i64) (y0.fp) ∧ (gB y0 (e1.map Tg.dec)).isSome = true ∧ i0 ≠ i1 ∧ i0 ≠ i2 ∧ i1 ≠ i2 }) (Tp.dec c0 (decM dkI dkI c1) (decM dkI dkI c2))
  | _, _ => none

theorem gB.ok : SpecOk Tryz.prog 100 gB.S := by
 intro l M out h
 unfold gB.S at h
 split at h
 ·rename_i i0 e1 k1
  obtain ⟨c0, hM0, h⟩ := bB h
  obtain ⟨i1, he1, h⟩ := bM h
  obtain ⟨c1, hM1, h⟩ := bE h
  obtain ⟨i2, he2, h⟩ := bM h
  obtain ⟨c2, hM2, h⟩ := bE h
  try dsimp only at h
  cases h
  refine callOk_of fun ho => ?_
  obtain ⟨ox1, oc0, oc1, oc2, hs, hne0, hne1, hne2⟩ := ho
  generalize (Tp.dec c0 (decM dkI dkI c1) (decM dkI dkI c2)) = y0 at *
  generalize (e1.map Tg.dec) = x1 at *
  subst ox1
  subst oc0
  subst oc1
  subst oc2
  obtain ⟨r, hr⟩ := so1 hs
  simp only [hr, gd1]
  have q := Lg (M := M) [i0, i1, i2] (gB.can y0 x1 r hr) (by simp [hne0, hne1, hne2]) rfl (ix (by simp [hM0, into]) (ix (by simp [hM1]) (ix (by simp [hM2]) ixn)))
  exact callOk_conv q trivial (by simp [into]) (by simp [frameOut, into]) (by simp [frameOut, into, hM0, hM1, hM2, set_same])
 ·cases h

@[simp] def gaH.out (_x0 : List Int) (_x1 : Int) (r : Int) : Out := { av := .lit (.int .i64 r), M := none }
def gaH.fin (x0 : List Int) (x1 : Int) (r : Int) (σ : St) : Prop := finK (gaH.out x0 x1 r) [] σ.M (resA Tryz.ty σ.A σ.M Tryz.f102.results.toList)
theorem gaH.can (x0 : List Int) (x1 : Int) (r : Int) (hr : gaH x0 x1 = some r) : CallOk Tryz.prog 102 [.sl (x0.map (eNum .i64)) .no, .lit (.int .i64 x1)] [] (gaH.out x0 x1 r) := by
 unfold gaH at hr
 have hΓ := (gamL_cons gc.ok (gamL_nil) : GamOk Tryz.prog _)
 refine cw Tryz.func102 rfl (by kernel_rfl) rfl rfl (by simp) fun _ _ _ => ?_
 refine tq hΓ [] [] ?_
 obtain ⟨r1, h5, hr⟩ := Lb hr
 refine tq hΓ [5, 6] [1] ?_ (by simp [h5]; exact rr)
 refine AWp.meetF (fun (v1 : Int) (γ1 : Unit) => ⟨[⟨5, none, .n v1⟩, ⟨0, none, .sl (x0.map (eNum .i64)) .no⟩], []⟩) (gaH.fin x0 x1) hr (fun f hr => ?_) (fun v1 γ1 hr => ?_) (fun _ h => h)
 ·refine tq hΓ [13] [6] ?_ (by simp; exact rr)
  refine AWp.cnd hr (by simp) (fun h6 hr => ?_) (fun h6 hr => ?_)
  ·refine tl hΓ [5] [13] ?_ (by simp [h6]; exact rr)
   obtain rfl := La hr
   exact Ll () 0 (by first | (simp; done) | simp [h5, h6])
  ·refine AWp.skip ?_
   obtain rfl := La hr
   exact Ll () 0 (by first | (simp; done) | simp [h5, h6])
 ·obtain ⟨h7, hr⟩ := Lc hr
  obtain ⟨h8, hr⟩ := Lc hr
  refine tq hΓ [4] [5, 0] ?_ (by simp [h7, h8]; exact rr)
  obtain rfl := La hr
  exact AWp.ret (Le (by simp))

@[simp] noncomputable def gaH.S : Sp
  | [.sl e0 _, .lit (.int .i64 x1)], _ => some { av := .lit (.int .i64 ((gaH (e0.map decI) x1).getD dflt)), M := none, obl := e0 = (e0.map decI).map (eNum .i64) ∧ (gaH (e0.map decI) x1).isSome = true }
  | _, _ => none

theorem gaH.ok : SpecOk Tryz.prog 102 gaH.S := by
 intro l M out h
 unfold gaH.S at h
 split at h
 ·rename_i e0 k0 x1
  cases h
  refine callOk_of fun ho => ?_
  obtain ⟨ox0, hs⟩ := ho
  generalize (e0.map decI) = x0 at *
  subst ox0
  obtain ⟨r, hr⟩ := so1 hs
  simp only [hr, gd1]
  have q := Lg (M := M) [] (gaH.can x0 x1 r hr) (by simp) rfl ixn
  exact callOk_conv q trivial (by simp) (by simp [frameOut]) (by simp [frameOut])
 ·cases h

@[simp] def gf.m (x0 : Tp) (_x1 : List Tg) : List AObj := [.blk [.lit (.int .i64 x0.fb), .mp 1, .mp 2, .lit (.int .i64 x0.fAt), .lit (.bool x0.fg)], .mapo (encM (kI .i64) (kI .i64) x0.fm), .mapo (encM (kI .i64) (kI .i64) x0.fp)]
@[simp] def gf.out (_x0 : Tp) (_x1 : List Tg) (r : Int × Bool × Tp) : Out := { av := .tup [.lit (.int .i64 r.1), .lit (.bool r.2.1)], M := some [.blk [.lit (.int .i64 r.2.2.fb), .mp 1, .mp 2, .lit (.int .i64 r.2.2.fAt), .lit (.bool r.2.2.fg)], .mapo (encM (kI .i64) (kI .i64) r.2.2.fm), .mapo (encM (kI .i64) (kI .i64) r.2.2.fp)] }
def gf.fin (x0 : Tp) (x1 : List Tg) (r : Int × Bool × Tp) (σ : St) : Prop := finK (gf.out x0 x1 r) (gf.m x0 x1) σ.M (resA Tryz.ty σ.A σ.M Tryz.f74.results.toList)
theorem gf.can (x0 : Tp) (x1 : List Tg) (r : Int × Bool × Tp) (hr : gf x0 x1 = some r) : CallOk Tryz.prog 74 [.ptr 0 0, .sl (x1.map Tg.enc) .no] (gf.m x0 x1) (gf.out x0 x1 r) := by
 unfold gf at hr
 have hΓ := (gamL_cons gB.ok (gamL_cons gaH.ok (gamL_cons libKeys.gMapsKeysMapIntIntIntInt.ok (gamL_cons libSorted.gSlicesSortedInt.ok (gamL_nil)))) : GamOk Tryz.prog _)
 refine cw Tryz.func74 rfl (by kernel_rfl) rfl rfl (by simp) fun _ _ _ => ?_
 refine tq hΓ [] [] ?_
 obtain ⟨r1, h14, hr⟩ := Lb hr
 refine tq hΓ [6] [1] ?_ (by simp [h14]; exact rr)
 refine AWp.seq ?_
 refine tq hΓ [20] [] ?_ (by simp; exact rr)
 refine AWp.prune (kk := .i64) (vE := (kI .i64)) (i := 2) (u := 4) (mm := 5) (fun k1 => (bif (notB (hasM eqI k1 r1)) then false else true)) x0.fp (fun m1 vis1 cur1 => ⟨[⟨20, none, .it 4⟩, ⟨6, none, .mp 3⟩, ⟨0, none, .ptr 0 0⟩], [.blk [.n x0.fb, .mp 1, .mp 2, .n x0.fAt, .b x0.fg], .mapo (encM (kI .i64) (kI .i64) x0.fm), .mapr (encM (kI .i64) (kI .i64) m1) vis1 cur1 4, .mapo (encM (kI .i64) (kI .i64) r1), .dead]⟩) (fun m1 => ⟨[⟨6, none, .mp 3⟩, ⟨0, none, .ptr 0 0⟩], [.blk [.n x0.fb, .mp 1, .mp 2, .n x0.fAt, .b x0.fg], .mapo (encM (kI .i64) (kI .i64) x0.fm), .mapo (encM (kI .i64) (kI .i64) m1), .mapo (encM (kI .i64) (kI .i64) r1)]⟩) (fun _ _ _ => rfl) (by simp) (fun m1 vis1 cur1 => ?_) (fun σ1 mx hc => ?_)
 ·refine AWp.seq (AWp.regNextI Tryz.tyOk hΓ (t := 20) (u := 4) (i := 2) (d1 := 21) rfl rfl rfl rfl (keep := [22]) (dead := []) (by kernel_rfl) rfl (by simp) rfl (fun h15 => ⟨⟨[⟨22, none, .b false⟩, ⟨20, none, .it 4⟩, ⟨6, none, .mp 3⟩, ⟨0, none, .ptr 0 0⟩], [.blk [.n x0.fb, .mp 1, .mp 2, .n x0.fAt, .b x0.fg], .mapo (encM (kI .i64) (kI .i64) x0.fm), .mapr (encM (kI .i64) (kI .i64) m1) vis1 cur1 4, .mapo (encM (kI .i64) (kI .i64) r1), .dead]⟩, by simp, ?_⟩) (fun k1 _ _ h16 h17 h18 => ⟨⟨[⟨22, none, .b true⟩, ⟨20, none, .it 4⟩, ⟨6, none, .mp 3⟩, ⟨0, none, .ptr 0 0⟩], [.blk [.n x0.fb, .mp 1, .mp 2, .n x0.fAt, .b x0.fg], .mapo (encM (kI .i64) (kI .i64) x0.fm), .mapr (encM (kI .i64) (kI .i64) m1) (.int .i64 k1 :: vis1) (some (.int .i64 k1)) 4, .mapo (encM (kI .i64) (kI .i64) r1), .dead]⟩, by simp, ?_⟩))
  ·refine AWp.seq ?_
   refine AWp.cond (b := false) (by simp) (fun hb => ?_) (fun hb => ?_)
   ·cases hb
   ·refine AWp.exit ?_
    exact .inl ⟨rfl, h15, 4, by simp⟩
  ·refine AWp.seq ?_
   refine AWp.cond (b := true) (by simp) (fun hb => ?_) (fun hb => ?_)
   ·refine AWp.skip ?_
    refine AWp.block ?_
    refine tq hΓ [7] [22] ?_ (by simp [h18]; exact rr)
    refine tq hΓ [9] [] ?_ (by simp; exact rr)
    refine tq hΓ [32] [9] ?_ (by simp; exact rr)
    refine AWp.cond (b := (notB (hasM eqI k1 r1))) (by simp) (fun h19 => ?_) (fun h19 => ?_)
    ·refine tl hΓ [] [32, 7] ?_ (by simp [h18, h19]; exact rr)
     exact .inr ⟨rfl, k1, h16, ⟨_, h17⟩, 5, by simp [h19]⟩
    ·refine AWp.skip ?_
     exact .inr ⟨rfl, k1, h16, ⟨_, h17⟩, 5, by simp [h19]⟩
   ·cases hb
 ·refine AWp.conv hc ?_
  obtain ⟨h20, hr⟩ := Lc hr
  refine tq hΓ [10] [] ?_ (by simp [h20]; exact rr)
  refine AWp.seq ?_
  refine tq hΓ [43] [] ?_ (by simp; exact rr)
  refine AWp.cnd hr (by simp) (fun h21 hr => ?_) (fun h21 hr => ?_)
  ·refine tq hΓ [] [43, 10, 6, 0] ?_ (by simp [h21]; exact rr)
   refine tq hΓ [4, 5] [] ?_ (by simp; exact rr)
   obtain rfl := La hr
   exact AWp.ret (Le (by simp))
  ·refine AWp.skip ?_
   refine AWp.meetF (fun (v2 : Int × Bool) (γ2 : Unit) => ⟨[⟨10, none, .sl ((sortL (keysM r1)).map (eNum .i64)) .no⟩, ⟨6, none, .mp 3⟩, ⟨0, none, .ptr 0 0⟩], [.blk [.n x0.fb, .mp 1, .mp 2, .n v2.1, .b v2.2], .mapo (encM (kI .i64) (kI .i64) x0.fm), .mapo (encM (kI .i64) (kI .i64) (keepM (fun k1 => (bif (notB (hasM eqI k1 r1)) then false else true)) x0.fp)), .mapo (encM (kI .i64) (kI .i64) r1)]⟩) (gf.fin x0 x1) hr (fun f hr => ?_) (fun v2 γ2 hr => ?_) (fun _ h => h)
   ·refine tq hΓ [12] [43] ?_ (by simp [h21]; exact rr)
    refine tq hΓ [57] [12] ?_ (by simp; exact rr)
    refine AWp.cnd hr (by simp) (fun h22 hr => ?_) (fun h22 hr => ?_)
    ·obtain ⟨r2, h23, hr⟩ := Lb hr
     refine tl hΓ [] [57] ?_ (by simp [h22, h23]; exact rr)
     obtain rfl := La hr
     exact Ll () 4 (by first | (simp; done) | simp [h14, h20, h21, h22, h23])
    ·refine AWp.skip ?_
     obtain rfl := La hr
     exact Ll () 4 (by first | (simp; done) | simp [h14, h20, h21, h22])
   ·refine AWp.loopE (fun (s3 : Int × Bool × (List (Int × Int))) (γ3 : Unit) => ⟨[⟨10, none, .sl ((sortL (keysM r1)).map (eNum .i64)) .no⟩, ⟨6, none, .mp 3⟩, ⟨0, none, .ptr 0 0⟩], [.blk [.n x0.fb, .mp 1, .mp 2, .n s3.1, .b s3.2.1], .mapo (encM (kI .i64) (kI .i64) x0.fm), .mapo (encM (kI .i64) (kI .i64) s3.2.2), .mapo (encM (kI .i64) (kI .i64) r1)]⟩) (fun (v3 : Unit) (γ3a : Unit) => ⟨[], []⟩) (gf.fin x0 x1) hr () 4 (by simp) (fun s3 f γ3 hr => ?_) (fun v3 γ3a σ1 m1 hr hc => ?_) (fun _ h => h)
    ·unfold gf.loop3 at hr
     refine AWp.block ?_
     refine AWp.meetF (fun (v4 : Bool × (List (Int × Int))) (γ4 : Unit) => ⟨[⟨10, none, .sl ((sortL (keysM r1)).map (eNum .i64)) .no⟩, ⟨6, none, .mp 3⟩, ⟨0, none, .ptr 0 0⟩], [.blk [.n x0.fb, .mp 1, .mp 2, .n s3.1, .b v4.1], .mapo (encM (kI .i64) (kI .i64) x0.fm), .mapo (encM (kI .i64) (kI .i64) v4.2), .mapo (encM (kI .i64) (kI .i64) r1)]⟩) (QRr (gf.fin x0 x1)) hr (fun f hr => ?_) (fun v4 γ4 hr => ?_) (fun _ h => QRr_ret h)
     ·refine tq hΓ [74] [] ?_ (by simp; exact rr)
      refine AWp.cnd hr (by simp) (fun h24 hr => ?_) (fun h24 hr => ?_)
      ·refine td hΓ [] [74] [] [(false, []), (false, []), (false, []), (false, []), (false, []), (false, []), (false, []), (false, []), (false, []), (false, []), (false, []), (false, []), (false, []), (false, []), (false, []), (false, []), (false, []), (false, []), (false, []), (true, [])] (by simp [h24]; exact rr) ?_
       refine tl hΓ [] [] ?_ (by simp; exact rr)
       obtain rfl := La hr
       exact Ll () 4 (by first | (simp; done) | simp [h14, h20, h21, h24])
      ·refine AWp.skip ?_
       obtain rfl := La hr
       exact Ll () 4 (by first | (simp; done) | simp [h14, h20, h21, h24])
     ·refine AWp.seq ?_
      refine td hΓ [112] [] [] [(false, []), (false, []), (false, []), (false, []), (false, []), (false, []), (false, []), (false, []), (false, []), (false, []), (false, []), (false, []), (false, []), (false, []), (false, []), (false, [])] (by simp; exact rr) ?_
      refine AWp.cnd hr (by simp) (fun h25 hr => ?_) (fun h25 hr => ?_)
      ·refine tq hΓ [4, 5] [112, 10, 6, 0] ?_ (by simp [h25]; exact rr)
       refine AWp.ret ?_
       obtain rfl := La hr
       refine round_ret ?_
       refine Le ?_
       simp
      ·refine AWp.skip ?_
       obtain ⟨r3, h26, hr⟩ := Lb hr
       refine tl hΓ [] [112] ?_ (by simp [h25, h26]; exact rr)
       obtain rfl := La hr
       exact Lk () 4 (by first | (simp; done) | simp [h14, h20, h21, h25, h26])
    ·cases hr

@[simp] noncomputable def gf.S : Sp
  | [.ptr i0 0, .sl e1 _], M => (rdB M i0).bind fun c0 => (rdM c0 1).bind fun i1 => (rdE M i1).bind fun c1 => (rdM c0 2).bind fun i2 => (rdE M i2).bind fun c2 => (fun (y0 : Tp) => (fun (r : Int × Bool × Tp) => some { av := .tup [.lit (.int .i64 (r.1)), .lit (.bool (r.2.1))], M := some (((M.set i0 (.blk [.lit (.int .i64 (r.2.2.fb)), .mp i1, .mp i2, .lit (.int .i64 (r.2.2.fAt)), .lit (.bool (r.2.2.fg))])).set i1 (.mapo (encM (kI .i64) (kI .i64) (r.2.2.fm)))).set i2 (.mapo (encM (kI .i64) (kI .i64) (r.2.2.fp)))), obl := e1 = (e1.map Tg.dec).map Tg.enc ∧ c0 = Tp.enc y0 i1 i2 ∧ c1 = encM (kI .i64) (kI .i64) (y0.fm) ∧ c2 = encM (kI .i64) (kI .i64) (y0.fp) ∧ (gf y0 (e1.map Tg.dec)).isSome = true ∧ i0 ≠ i1 ∧ i0 ≠ i2 ∧ i1 ≠ i2 }) ((gf y0 (e1.map Tg.dec)).getD dflt)) (Tp.dec c0 (decM dkI dkI c1) (decM dkI dkI c2))
  | _, _ => none

theorem gf.ok : SpecOk Tryz.prog 74 gf.S := by
 intro l M out h
 unfold gf.S at h
 split at h
 ·rename_i i0 e1 k1
  obtain ⟨c0, hM0, h⟩ := bB h
  obtain ⟨i1, he1, h⟩ := bM h
  obtain ⟨c1, hM1, h⟩ := bE h
  obtain ⟨i2, he2, h⟩ := bM h
  obtain ⟨c2, hM2, h⟩ := bE h
  try dsimp only at h
  cases h
  refine callOk_of fun ho => ?_
  obtain ⟨ox1, oc0, oc1, oc2, hs, hne0, hne1, hne2⟩ := ho
  generalize (Tp.dec c0 (decM dkI dkI c1) (decM dkI dkI c2)) = y0 at *
  generalize (e1.map Tg.dec) = x1 at *
  subst ox1
  subst oc0
  subst oc1
  subst oc2
  obtain ⟨r, hr⟩ := so1 hs
  simp only [hr, gd1]
  have q := Lg (M := M) [i0, i1, i2] (gf.can y0 x1 r hr) (by simp [hne0, hne1, hne2]) rfl (ix (by simp [hM0, into]) (ix (by simp [hM1]) (ix (by simp [hM2]) ixn)))
  exact callOk_conv q trivial (by simp [into]) (by simp [frameOut, into]) (by simp [frameOut, into])
 ·cases h

@[simp] def gam.m (x0 : Tp) (_x1 : Int) : List AObj := [.blk [.lit (.int .i64 x0.fb), .mp 1, .mp 2, .lit (.int .i64 x0.fAt), .lit (.bool x0.fg)], .mapo (encM (kI .i64) (kI .i64) x0.fm), .mapo (encM (kI .i64) (kI .i64) x0.fp)]
@[simp] def gam.out (_x0 : Tp) (_x1 : Int) (r : Tp) : Out := { av := .tup [], M := some [.blk [.lit (.int .i64 r.fb), .mp 1, .mp 2, .lit (.int .i64 r.fAt), .lit (.bool r.fg)], .mapo (encM (kI .i64) (kI .i64) r.fm), .mapo (encM (kI .i64) (kI .i64) r.fp)] }
theorem gam.can (x0 : Tp) (x1 : Int) (r : Tp) (hr : gam x0 x1 = some r) : CallOk Tryz.prog 29 [.ptr 0 0, .lit (.int .i64 x1)] (gam.m x0 x1) (gam.out x0 x1 r) := by
 unfold gam at hr
 have hΓ := gamL_nil (P := Tryz.prog)
 refine cw Tryz.func29 rfl (by kernel_rfl) rfl rfl (by simp) fun _ _ _ => ?_
 refine td hΓ [24] [] [] [(false, []), (false, []), (false, []), (false, []), (false, []), (false, [8]), (false, [8]), (false, []), (false, []), (false, [12]), (false, [12]), (false, [12]), (false, [12]), (false, [12]), (false, [12]), (false, [12]), (false, [12]), (false, [12]), (false, [12]), (false, [12]), (false, [])] (by simp; exact rr) ?_
 refine AWp.cnd hr (by simp) (fun h2 hr => ?_) (fun h2 hr => ?_)
 ·refine AWp.lst (AWp.regD Tryz.mixed Tryz.tyOk hΓ [] [24, 0, 1] [] [(false, []), (false, []), (false, []), (false, []), (false, []), (false, []), (false, []), (false, []), (false, []), (false, []), (false, []), (true, [])] (by kernel_rfl) rfl (by simp [h2]; exact rr)) ?_
  obtain rfl := La hr
  exact fin_norm (by simp)
 ·refine AWp.skip ?_
  obtain rfl := La hr
  exact fin_norm (by simp)

@[simp] noncomputable def gam.S : Sp
  | [.ptr i0 0, .lit (.int .i64 x1)], M => (rdB M i0).bind fun c0 => (rdM c0 1).bind fun i1 => (rdE M i1).bind fun c1 => (rdM c0 2).bind fun i2 => (rdE M i2).bind fun c2 => (fun (y0 : Tp) => (fun (r : Tp) => some { av := .tup [], M := some (((M.set i0 (.blk [.lit (.int .i64 (r.fb)), .mp i1, .mp i2, .lit (.int .i64 (r.fAt)), .lit (.bool (r.fg))])).set i1 (.mapo (encM (kI .i64) (kI .i64) (r.fm)))).set i2 (.mapo (encM (kI .i64) (kI .i64) (r.fp)))), obl := c0 = Tp.enc y0 i1 i2 ∧ c1 = encM (kI .i64) (kI .i64) (y0.fm) ∧ c2 = encM (kI .i64) (kI .i64) (y0.fp) ∧ (gam y0 x1).isSome = true ∧ i0 ≠ i1 ∧ i0 ≠ i2 ∧ i1 ≠ i2 }) ((gam y0 x1).getD dflt)) (Tp.dec c0 (decM dkI dkI c1) (decM dkI dkI c2))
  | _, _ => none

theorem gam.ok : SpecOk Tryz.prog 29 gam.S := by
 intro l M out h
 unfold gam.S at h
 split at h
 ·rename_i i0 x1
  obtain ⟨c0, hM0, h⟩ := bB h
  obtain ⟨i1, he1, h⟩ := bM h
  obtain ⟨c1, hM1, h⟩ := bE h
  obtain ⟨i2, he2, h⟩ := bM h
  obtain ⟨c2, hM2, h⟩ := bE h
  try dsimp only at h
  cases h
  refine callOk_of fun ho => ?_
  obtain ⟨oc0, oc1, oc2, hs, hne0, hne1, hne2⟩ := ho
  generalize (Tp.dec c0 (decM dkI dkI c1) (decM dkI dkI c2)) = y0 at *
  subst oc0
  subst oc1
  subst oc2
  obtain ⟨r, hr⟩ := so1 hs
  simp only [hr, gd1]
  have q := Lg (M := M) [i0, i1, i2] (gam.can y0 x1 r hr) (by simp [hne0, hne1, hne2]) rfl (ix (by simp [hM0, into]) (ix (by simp [hM1]) (ix (by simp [hM2]) ixn)))
  exact callOk_conv q trivial (by simp [into]) (by simp [frameOut, into]) (by simp [frameOut, into])
 ·cases h
end Go.Proofs

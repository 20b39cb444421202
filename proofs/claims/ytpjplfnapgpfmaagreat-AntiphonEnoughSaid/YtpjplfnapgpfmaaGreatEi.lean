/- That these functions compute what their plain functions do. No condition. -/
import Derived.Test.YtpjplfnapgpfmaaGreatM14
import Derived.Test.YtpjplfnapgpfmaaGreatTy
import Derived.Test.YtpjplfnapgpfmaaGreatEa
import Derived.Test.YtpjplfnapgpfmaaGreatEf
import Derived.Test.YtpjplfnapgpfmaaGreatEo
import Derived.Test.YtpjplfnapgpfmaaGreatEd
set_option maxHeartbeats 4000000
namespace Go.Proofs
open Go.Ab
@[simp] def gaC.m (x0 : Tu) (_x1 : Tq) : List AObj := [.blk (x0.fO.fd.enc ++ [.mp 1, .ptr 2 0, .lit (.int .i64 x0.fO.fc), .lit (.int .i64 x0.fO.ff)]), .own (Tj.own .i64 x0.fO.fh none) none, .blk [.lit (.int .i64 x0.fO.fa.fb), .mp 3, .mp 4, .lit (.int .i64 x0.fO.fa.fAt), .lit (.bool x0.fO.fa.fg)], .mapo (encM (kI .i64) (kI .i64) x0.fO.fa.fm), .mapo (encM (kI .i64) (kI .i64) x0.fO.fa.fp)]
@[simp] def gaC.out (_x0 : Tu) (_x1 : Tq) (r : Tu × Bool) : Out := { av := .tup [.agg [.ptr 0 0, .lit (.int .i64 r.1.fX.fe), .lit (.int .i64 r.1.fX.fk), .lit (.int .i64 r.1.fX.fq), .lit (.int .i64 r.1.fX.fb), .lit (.int .i64 r.1.fX.fo), .sl (r.1.fX.fL.map Th.enc) .no, .lit (.int .i64 r.1.fX.fS.fb), .sl (r.1.fX.fS.fL.map Td.enc) .no, .lit (.int .i64 r.1.fX.fS.fAt), .lit (.bool r.1.fX.fS.fg), .lit (.int .i64 r.1.fX.fc), .lit (.int .i64 r.1.fX.ff), .lit (.int .i64 r.1.fC), .lit (.int .i64 r.1.fN)], .lit (.bool r.2)], M := some [.blk [.lit (.int .i64 r.1.fO.fd.fe), .lit (.int .i64 r.1.fO.fd.fk), .lit (.int .i64 r.1.fO.fd.fq), .lit (.int .i64 r.1.fO.fd.fb), .lit (.int .i64 r.1.fO.fd.fo), .mp 1, .ptr 2 0, .lit (.int .i64 r.1.fO.fc), .lit (.int .i64 r.1.fO.ff)], .own (Tj.own .i64 r.1.fO.fh none) none, .blk [.lit (.int .i64 r.1.fO.fa.fb), .mp 3, .mp 4, .lit (.int .i64 r.1.fO.fa.fAt), .lit (.bool r.1.fO.fa.fg)], .mapo (encM (kI .i64) (kI .i64) r.1.fO.fa.fm), .mapo (encM (kI .i64) (kI .i64) r.1.fO.fa.fp)] }
set_option maxRecDepth 100000 in
theorem gaC.can (x0 : Tu) (x1 : Tq) (r : Tu × Bool) (hr : gaC x0 x1 = some r) : CallOk Tryz.prog 25 [.agg [.ptr 0 0, .lit (.int .i64 x0.fX.fe), .lit (.int .i64 x0.fX.fk), .lit (.int .i64 x0.fX.fq), .lit (.int .i64 x0.fX.fb), .lit (.int .i64 x0.fX.fo), .sl (x0.fX.fL.map Th.enc) .no, .lit (.int .i64 x0.fX.fS.fb), .sl (x0.fX.fS.fL.map Td.enc) .no, .lit (.int .i64 x0.fX.fS.fAt), .lit (.bool x0.fX.fS.fg), .lit (.int .i64 x0.fX.fc), .lit (.int .i64 x0.fX.ff), .lit (.int .i64 x0.fC), .lit (.int .i64 x0.fN)], .agg [.lit (.int .i64 x1.fz), .lit (.int .i64 x1.fId), .lit (.int .i64 x1.fN), .lit (.bool x1.fy), .lit (.bool x1.fu)]] (gaC.m x0 x1) (gaC.out x0 x1 r) := by
 unfold gaC at hr
 have hΓ := (gamL_cons gU.ok (gamL_cons gag.ok (gamL_cons gG.ok (gamL_cons gR.ok (gamL_cons gav.ok (gamL_cons gaJ.ok (gamL_cons gaG.ok (gamL_nil))))))) : GamOk Tryz.prog _)
 refine cw Tryz.func25 rfl (by kernel_rfl) rfl rfl (by simp) fun _ _ _ => ?_
 refine tq hΓ [2, 3, 4] [0, 1] ?_
 refine AWp.seq ?_
 refine tq hΓ [18] [] ?_
 refine AWp.block ?_
 refine tq hΓ [19] [] ?_
 refine AWp.cnd hr (by simp) (fun h11 hr => ?_) (fun h11 hr => ?_)
 ·obtain ⟨r1, h12, hr⟩ := Lb hr
  refine tq hΓ [6] [19, 18] ?_ (by simp [h11, h12]; exact rr)
  obtain ⟨r2, h13, hr⟩ := Lb hr
  refine tq hΓ [7, 8] [3] ?_ (by simp [h13]; exact rr)
  refine tq hΓ [] [7] ?_ (by simp; exact rr)
  refine tq hΓ [5] [8, 6, 2] ?_ (by simp; exact rr)
  obtain rfl := La hr
  exact AWp.ret (Le (by simp))
 ·refine tq hΓ [48] [19, 18] ?_ (by simp [h11]; exact rr)
  refine AWp.cnd hr (by simp) (fun h14 hr => ?_) (fun h14 hr => ?_)
  ·obtain ⟨r3, h15, hr⟩ := Lb hr
   refine tq hΓ [9, 10] [48] ?_ (by simp [h14, h15]; exact rr)
   obtain ⟨r4, h16, hr⟩ := Lb hr
   refine tq hΓ [11, 12, 13] [3] ?_ (by simp [h16]; exact rr)
   refine tq hΓ [] [11] ?_ (by simp; exact rr)
   obtain ⟨h17, hr⟩ := Lc hr
   refine td hΓ [5] [12, 13, 9, 10, 2] [(8, 11), (9, 11)] [(false, []), (false, []), (false, []), (false, []), (false, []), (false, [73]), (false, [73]), (false, [73]), (false, [73]), (false, []), (true, []), (false, [])] (by simp [h17]; exact rr) ?_
   obtain rfl := La hr
   exact AWp.ret (Le (by simp))
  ·refine AWp.skip ?_
   obtain ⟨r5, h18, hr⟩ := Lb hr
   refine tq hΓ [14] [48] ?_ (by simp [h14, h18]; exact rr)
   obtain ⟨r6, h19, hr⟩ := Lb hr
   refine tq hΓ [15, 16] [3] ?_ (by simp [h19]; exact rr)
   refine tq hΓ [] [15] ?_ (by simp; exact rr)
   obtain ⟨r7, h20, hr⟩ := Lb hr
   refine td hΓ [5] [16, 14, 2] [(4, 6)] [(false, []), (false, []), (false, []), (false, []), (false, []), (true, []), (false, [])] (by simp [h20]; exact rr) ?_
   obtain rfl := La hr
   exact AWp.ret (Le (by simp))

@[simp] noncomputable def gaC.S : Sp
  | [.agg e0, .agg e1], M => (rdP e0 0).bind fun i0 => (rdB M i0).bind fun c0 => (rdM c0 5).bind fun i1 => (rdO M i1).bind fun c1 => (rdP c0 6).bind fun i2 => (rdB M i2).bind fun c2 => (rdM c2 1).bind fun i3 => (rdE M i3).bind fun c3 => (rdM c2 2).bind fun i4 => (rdE M i4).bind fun c4 => (fun (y0 : Tu) => (fun (y1 : Tq) => (fun (r : Tu × Bool) => some { av := .tup [.agg [.ptr i0 0, .lit (.int .i64 (r.1.fX.fe)), .lit (.int .i64 (r.1.fX.fk)), .lit (.int .i64 (r.1.fX.fq)), .lit (.int .i64 (r.1.fX.fb)), .lit (.int .i64 (r.1.fX.fo)), .sl ((r.1.fX.fL).map Th.enc) .no, .lit (.int .i64 (r.1.fX.fS.fb)), .sl ((r.1.fX.fS.fL).map Td.enc) .no, .lit (.int .i64 (r.1.fX.fS.fAt)), .lit (.bool (r.1.fX.fS.fg)), .lit (.int .i64 (r.1.fX.fc)), .lit (.int .i64 (r.1.fX.ff)), .lit (.int .i64 (r.1.fC)), .lit (.int .i64 (r.1.fN))], .lit (.bool (r.2))], M := some (((((M.set i0 (.blk [.lit (.int .i64 (r.1.fO.fd.fe)), .lit (.int .i64 (r.1.fO.fd.fk)), .lit (.int .i64 (r.1.fO.fd.fq)), .lit (.int .i64 (r.1.fO.fd.fb)), .lit (.int .i64 (r.1.fO.fd.fo)), .mp i1, .ptr i2 0, .lit (.int .i64 (r.1.fO.fc)), .lit (.int .i64 (r.1.fO.ff))])).set i1 (.own (Tj.own .i64 (r.1.fO.fh) none) none)).set i2 (.blk [.lit (.int .i64 (r.1.fO.fa.fb)), .mp i3, .mp i4, .lit (.int .i64 (r.1.fO.fa.fAt)), .lit (.bool (r.1.fO.fa.fg))])).set i3 (.mapo (encM (kI .i64) (kI .i64) (r.1.fO.fa.fm)))).set i4 (.mapo (encM (kI .i64) (kI .i64) (r.1.fO.fa.fp)))), obl := WeakL e0 (Tu.enc y0 i0) ∧ WeakL e1 (Tq.enc y1) ∧ c0 = Tf.enc (y0.fO) i1 i2 ∧ c1 = Tj.own .i64 (y0.fO.fh) none ∧ c2 = Tp.enc (y0.fO.fa) i3 i4 ∧ c3 = encM (kI .i64) (kI .i64) (y0.fO.fa.fm) ∧ c4 = encM (kI .i64) (kI .i64) (y0.fO.fa.fp) ∧ (gaC y0 y1).isSome = true ∧ i0 ≠ i1 ∧ i0 ≠ i2 ∧ i0 ≠ i3 ∧ i0 ≠ i4 ∧ i1 ≠ i2 ∧ i1 ≠ i3 ∧ i1 ≠ i4 ∧ i2 ≠ i3 ∧ i2 ≠ i4 ∧ i3 ≠ i4 }) ((gaC y0 y1).getD dflt)) (Tq.dec e1)) (Tu.dec e0 (Tf.dec c0 (decM dkI Tj.dfl c1.data) (Tp.dec c2 (decM dkI dkI c3) (decM dkI dkI c4))))
  | _, _ => none

theorem gaC.ok : SpecOk Tryz.prog 25 gaC.S := by
 intro l M out h
 unfold gaC.S at h
 split at h
 ·rename_i e0 e1
  obtain ⟨i0, he0, h⟩ := bP h
  obtain ⟨c0, hM0, h⟩ := bB h
  obtain ⟨i1, he1, h⟩ := bM h
  obtain ⟨c1, hM1, h⟩ := bO h
  obtain ⟨i2, he2, h⟩ := bP h
  obtain ⟨c2, hM2, h⟩ := bB h
  obtain ⟨i3, he3, h⟩ := bM h
  obtain ⟨c3, hM3, h⟩ := bE h
  obtain ⟨i4, he4, h⟩ := bM h
  obtain ⟨c4, hM4, h⟩ := bE h
  try dsimp only at h
  cases h
  refine callOk_of fun ho => ?_
  obtain ⟨ox0, ox1, oc0, oc1, oc2, oc3, oc4, hs, hne0, hne1, hne2, hne3, hne4, hne5, hne6, hne7, hne8, hne9⟩ := ho
  generalize (Tu.dec e0 (Tf.dec c0 (decM dkI Tj.dfl c1.data) (Tp.dec c2 (decM dkI dkI c3) (decM dkI dkI c4)))) = x0 at *
  generalize (Tq.dec e1) = x1 at *
  subst oc0
  subst oc1
  subst oc2
  subst oc3
  subst oc4
  obtain ⟨r, hr⟩ := so1 hs
  simp only [hr, gd1]
  have q := Lg (M := M) [i0, i1, i2, i3, i4] (gaC.can x0 x1 r hr) (by simp [hne0, hne1, hne2, hne3, hne4, hne5, hne6, hne7, hne8, hne9]) rfl (ix (by simp [hM0, into]) (ix (by simp [hM1]) (ix (by simp [hM2, into]) (ix (by simp [hM3]) (ix (by simp [hM4]) ixn)))))
  exact callOk_conv q trivial (by simp [into]; exact ⟨ox0, ox1⟩) (by simp [frameOut, into]) (by simp [frameOut, into])
 ·cases h

@[simp] def gP.m (x0 : Tu) (_x1 : Tq) : List AObj := [.blk (x0.fO.fd.enc ++ [.mp 1, .ptr 2 0, .lit (.int .i64 x0.fO.fc), .lit (.int .i64 x0.fO.ff)]), .own (Tj.own .i64 x0.fO.fh none) none, .blk [.lit (.int .i64 x0.fO.fa.fb), .mp 3, .mp 4, .lit (.int .i64 x0.fO.fa.fAt), .lit (.bool x0.fO.fa.fg)], .mapo (encM (kI .i64) (kI .i64) x0.fO.fa.fm), .mapo (encM (kI .i64) (kI .i64) x0.fO.fa.fp)]
@[simp] def gP.out (_x0 : Tu) (_x1 : Tq) (r : Tu × List Tb × Bool) : Out := { av := .tup [.agg [.ptr 0 0, .lit (.int .i64 r.1.fX.fe), .lit (.int .i64 r.1.fX.fk), .lit (.int .i64 r.1.fX.fq), .lit (.int .i64 r.1.fX.fb), .lit (.int .i64 r.1.fX.fo), .sl (r.1.fX.fL.map Th.enc) .no, .lit (.int .i64 r.1.fX.fS.fb), .sl (r.1.fX.fS.fL.map Td.enc) .no, .lit (.int .i64 r.1.fX.fS.fAt), .lit (.bool r.1.fX.fS.fg), .lit (.int .i64 r.1.fX.fc), .lit (.int .i64 r.1.fX.ff), .lit (.int .i64 r.1.fC), .lit (.int .i64 r.1.fN)], .sl (r.2.1.map Tb.enc) .no, .lit (.bool r.2.2)], M := some [.blk [.lit (.int .i64 r.1.fO.fd.fe), .lit (.int .i64 r.1.fO.fd.fk), .lit (.int .i64 r.1.fO.fd.fq), .lit (.int .i64 r.1.fO.fd.fb), .lit (.int .i64 r.1.fO.fd.fo), .mp 1, .ptr 2 0, .lit (.int .i64 r.1.fO.fc), .lit (.int .i64 r.1.fO.ff)], .own (Tj.own .i64 r.1.fO.fh none) none, .blk [.lit (.int .i64 r.1.fO.fa.fb), .mp 3, .mp 4, .lit (.int .i64 r.1.fO.fa.fAt), .lit (.bool r.1.fO.fa.fg)], .mapo (encM (kI .i64) (kI .i64) r.1.fO.fa.fm), .mapo (encM (kI .i64) (kI .i64) r.1.fO.fa.fp)] }
def gP.fin (x0 : Tu) (x1 : Tq) (r : Tu × List Tb × Bool) (σ : St) : Prop := finK (gP.out x0 x1 r) (gP.m x0 x1) σ.M (resA Tryz.ty σ.A σ.M Tryz.f8.results.toList)
set_option maxRecDepth 100000 in
theorem gP.can (x0 : Tu) (x1 : Tq) (r : Tu × List Tb × Bool) (hr : gP x0 x1 = some r) : CallOk Tryz.prog 8 [.agg [.ptr 0 0, .lit (.int .i64 x0.fX.fe), .lit (.int .i64 x0.fX.fk), .lit (.int .i64 x0.fX.fq), .lit (.int .i64 x0.fX.fb), .lit (.int .i64 x0.fX.fo), .sl (x0.fX.fL.map Th.enc) .no, .lit (.int .i64 x0.fX.fS.fb), .sl (x0.fX.fS.fL.map Td.enc) .no, .lit (.int .i64 x0.fX.fS.fAt), .lit (.bool x0.fX.fS.fg), .lit (.int .i64 x0.fX.fc), .lit (.int .i64 x0.fX.ff), .lit (.int .i64 x0.fC), .lit (.int .i64 x0.fN)], .agg [.lit (.int .i64 x1.fz), .lit (.int .i64 x1.fId), .lit (.int .i64 x1.fN), .lit (.bool x1.fy), .lit (.bool x1.fu)]] (gP.m x0 x1) (gP.out x0 x1 r) := by
 unfold gP at hr
 have hΓ := (gamL_cons gK.ok (gamL_cons gar.ok (gamL_cons gu.ok (gamL_cons gab.ok (gamL_cons gA.ok (gamL_cons gR.ok (gamL_cons gaC.ok (gamL_cons gaP.ok (gamL_cons gal.ok (gamL_cons gau.ok (gamL_nil)))))))))) : GamOk Tryz.prog _)
 refine cw Tryz.func8 rfl (by kernel_rfl) rfl rfl (by simp) fun _ _ _ => ?_
 refine tq hΓ [2, 3, 4] [0, 1] ?_
 refine AWp.meetF (fun (v1 : Ts × Int × Int × (List (Int × Tj)) × Int × Int × Bool × (List (Int × Int)) × (List (Int × Int)) × Tc × Tq) (γ1 : Unit) => ⟨[⟨2, none, .ptr 5 0⟩, ⟨4, none, .ptr 7 0⟩], [.blk (v1.1.enc ++ [.mp 1, .ptr 2 0, .n v1.2.1, .n v1.2.2.1]), .own (Tj.own .i64 v1.2.2.2.1 none) none, .blk [.n v1.2.2.2.2.1, .mp 3, .mp 4, .n v1.2.2.2.2.2.1, .b v1.2.2.2.2.2.2.1], .mapo (encM (kI .i64) (kI .i64) v1.2.2.2.2.2.2.2.1), .mapo (encM (kI .i64) (kI .i64) v1.2.2.2.2.2.2.2.2.1), .blk ([.ptr 0 0] ++ v1.2.2.2.2.2.2.2.2.2.1.enc ++ [.n x0.fC, .n x0.fN]), .blk v1.2.2.2.2.2.2.2.2.2.2.enc, .blk [.lit (.pointer none), .n 0, .n 0, .n 0, .n 0, .n 0, .sl [] .full, .n 0, .sl [] .full, .n 0, .b false, .n 0, .n 0, .n 0, .n 0]]⟩) (gP.fin x0 x1) hr (fun f hr => ?_) (fun v1 γ1 hr => ?_) (fun _ h => h)
 ·refine tq hΓ [23] [] ?_
  refine AWp.block ?_
  refine tq hΓ [24] [] ?_
  refine AWp.cnd hr (by simp) (fun h23 hr => ?_) (fun h23 hr => ?_)
  ·refine tq hΓ [] [24, 23] ?_ (by simp [h23]; exact rr)
   refine tq hΓ [7] [] ?_ (by simp; exact rr)
   obtain ⟨r1, h24, hr⟩ := Lb hr
   refine tq hΓ [8, 9] [] ?_ (by simp [h24]; exact rr)
   obtain ⟨r2, h25, hr⟩ := Lb hr
   refine tq hΓ [10, 11, 12] [7, 3] ?_ (by simp [h25]; exact rr)
   refine tq hΓ [] [10] ?_ (by simp; exact rr)
   obtain ⟨h26, hr⟩ := Lc hr
   refine td hΓ [5, 6] [11, 12, 8, 9, 2] [(8, 11), (9, 11)] [(false, []), (false, []), (false, []), (false, []), (false, []), (false, [64]), (false, [64]), (false, [64]), (false, [64]), (false, []), (true, []), (false, []), (false, [])] (by simp [h26]; exact rr) ?_
   refine AWp.ret ?_
   obtain rfl := La hr
   refine meet_ret ?_
   refine Le ?_
   simp
  ·refine tq hΓ [70] [24] ?_ (by simp [h23]; exact rr)
   refine AWp.cnd hr (by simp) (fun h27 hr => ?_) (fun h27 hr => ?_)
   ·refine AWp.meetF (fun (v2 : Ts × Int × Int × (List (Int × Tj)) × Int × Int × Bool × (List (Int × Int)) × (List (Int × Int)) × Tc × Tq) (γ2 : Unit) => ⟨[⟨2, none, .ptr 5 0⟩, ⟨3, none, .ptr 6 0⟩, ⟨4, none, .ptr 7 0⟩], [.blk (v2.1.enc ++ [.mp 1, .ptr 2 0, .n v2.2.1, .n v2.2.2.1]), .own (Tj.own .i64 v2.2.2.2.1 none) none, .blk [.n v2.2.2.2.2.1, .mp 3, .mp 4, .n v2.2.2.2.2.2.1, .b v2.2.2.2.2.2.2.1], .mapo (encM (kI .i64) (kI .i64) v2.2.2.2.2.2.2.2.1), .mapo (encM (kI .i64) (kI .i64) v2.2.2.2.2.2.2.2.2.1), .blk ([.ptr 0 0] ++ v2.2.2.2.2.2.2.2.2.2.1.enc ++ [.n x0.fC, .n x0.fN]), .blk v2.2.2.2.2.2.2.2.2.2.2.enc, .blk [.lit (.pointer none), .n 0, .n 0, .n 0, .n 0, .n 0, .sl [] .full, .n 0, .sl [] .full, .n 0, .b false, .n 0, .n 0, .n 0, .n 0]]⟩) (QRm (gP.fin x0 x1)) hr (fun f hr => ?_) (fun v2 γ2 hr => ?_) (fun _ h => QRm_ret h)
    ·refine tq hΓ [73] [70, 23] ?_ (by simp [h27]; exact rr)
     refine AWp.cnd hr (by simp) (fun h28 hr => ?_) (fun h28 hr => ?_)
     ·obtain ⟨r3, h29, hr⟩ := Lb hr
      refine tq hΓ [13] [73] ?_ (by simp [h28, h29]; exact rr)
      refine tq hΓ [91] [] ?_ (by simp; exact rr)
      refine AWp.cnd hr (by simp) (fun h30 hr => ?_) (fun h30 hr => ?_)
      ·refine tq hΓ [5, 6] [91, 13, 2, 3] ?_ (by simp [h30]; exact rr)
       refine AWp.ret ?_
       obtain rfl := La hr
       refine meet_ret ?_
       refine ⟨_, rfl, ?_⟩
       refine Le ?_
       simp
      ·refine tq hΓ [93] [91, 13] ?_ (by simp [h30]; exact rr)
       refine AWp.cnd hr (by simp) (fun h31 hr => ?_) (fun h31 hr => ?_)
       ·refine tl hΓ [] [93] ?_ (by simp [h31]; exact rr)
        obtain rfl := La hr
        exact Ll () 8 (by first | (simp; done) | simp [h23, h27, h28, h29, h30, h31])
       ·refine AWp.skip ?_
        obtain rfl := La hr
        exact Ll () 8 (by first | (simp; done) | simp [h23, h27, h28, h29, h30, h31])
     ·refine AWp.skip ?_
      obtain rfl := La hr
      exact Ll () 8 (by first | (simp; done) | simp [h28])
    ·obtain ⟨r4, h32, hr⟩ := Lb hr
     refine tq hΓ [] [] ?_ (by simp [h32]; exact rr)
     refine tl hΓ [] [3] ?_ (by simp; exact rr)
     obtain rfl := La hr
     exact Ll () 8 (by first | (simp; done) | simp [h23, h27, h32])
   ·refine tq hΓ [118] [70] ?_ (by simp [h27]; exact rr)
    refine AWp.cnd hr (by simp) (fun h33 hr => ?_) (fun h33 hr => ?_)
    ·obtain ⟨r5, h34, hr⟩ := Lb hr
     refine tq hΓ [14] [118, 23, 3] ?_ (by simp [h33, h34]; exact rr)
     obtain ⟨r6, h35, hr⟩ := Lb hr
     refine tq hΓ [15, 16] [] ?_ (by simp [h35]; exact rr)
     refine tq hΓ [] [15] ?_ (by simp; exact rr)
     obtain ⟨r7, h36, hr⟩ := Lb hr
     refine td hΓ [5, 6] [16, 14, 2] [(1, 7), (5, 7)] [(false, []), (false, []), (false, []), (false, []), (false, []), (false, []), (true, []), (false, []), (false, [])] (by simp [h36]; exact rr) ?_
     refine AWp.ret ?_
     obtain rfl := La hr
     refine meet_ret ?_
     refine Le ?_
     simp
    ·refine tq hΓ [137] [118] ?_ (by simp [h33]; exact rr)
     refine AWp.cnd hr (by simp) (fun h37 hr => ?_) (fun h37 hr => ?_)
     ·refine tq hΓ [] [137, 23, 3] ?_ (by simp [h37]; exact rr)
      obtain ⟨r8, h38, hr⟩ := Lb hr
      refine tq hΓ [17] [] ?_ (by simp [h38]; exact rr)
      obtain ⟨r9, h39, hr⟩ := Lb hr
      refine tq hΓ [18, 19] [] ?_ (by simp [h39]; exact rr)
      refine tq hΓ [] [18] ?_ (by simp; exact rr)
      obtain ⟨r10, h40, hr⟩ := Lb hr
      refine td hΓ [5, 6] [19, 17, 2] [(4, 6)] [(false, []), (false, []), (false, []), (false, []), (false, []), (true, []), (false, []), (false, [])] (by simp [h40]; exact rr) ?_
      refine AWp.ret ?_
      obtain rfl := La hr
      refine meet_ret ?_
      refine Le ?_
      simp
     ·refine AWp.meetF (fun (v3 : Bool) (γ3 : Unit) => ⟨[⟨2, none, .ptr 5 0⟩, ⟨3, none, .ptr 6 0⟩, ⟨4, none, .ptr 7 0⟩, ⟨166, none, .b v3⟩], [.blk (x0.fO.fd.enc ++ [.mp 1, .ptr 2 0, .n x0.fO.fc, .n x0.fO.ff]), .own (Tj.own .i64 x0.fO.fh none) none, .blk [.n x0.fO.fa.fb, .mp 3, .mp 4, .n x0.fO.fa.fAt, .b x0.fO.fa.fg], .mapo (encM (kI .i64) (kI .i64) x0.fO.fa.fm), .mapo (encM (kI .i64) (kI .i64) x0.fO.fa.fp), .blk ([.ptr 0 0] ++ x0.fX.enc ++ [.n x0.fC, .n x0.fN]), .blk x1.enc, .blk [.lit (.pointer none), .n 0, .n 0, .n 0, .n 0, .n 0, .sl [] .full, .n 0, .sl [] .full, .n 0, .b false, .n 0, .n 0, .n 0, .n 0]]⟩) (QRm (gP.fin x0 x1)) hr (fun f hr => ?_) (fun v3 γ3 hr => ?_) (fun _ h => QRm_ret h)
      ·refine tq hΓ [166] [137] ?_ (by simp [h37]; exact rr)
       refine AWp.cnd hr (by simp) (fun h41 hr => ?_) (fun h41 hr => ?_)
       ·refine AWp.skip ?_
        obtain rfl := La hr
        exact Ll () 8 (by first | (simp; done) | simp [h41])
       ·refine tq hΓ [166] [] ?_ (by simp [h41]; exact rr)
        refine AWp.cnd hr (by simp) (fun h42 hr => ?_) (fun h42 hr => ?_)
        ·refine AWp.skip ?_
         obtain rfl := La hr
         exact Ll () 8 (by first | (simp; done) | simp [h42])
        ·refine tl hΓ [166] [23] ?_ (by simp [h42]; exact rr)
         obtain rfl := La hr
         exact Ll () 8 (by first | (simp; done) | simp [h23, h27, h33, h37, h41, h42])
      ·refine AWp.cnd hr (by simp) (fun h43 hr => ?_) (fun h43 hr => ?_)
       ·obtain ⟨r11, h44, hr⟩ := Lb hr
        refine tq hΓ [20, 21] [2, 3, 166] ?_ (by simp [h43, h44]; exact rr)
        refine tq hΓ [5, 6] [20, 21] ?_ (by simp; exact rr)
        refine AWp.ret ?_
        obtain rfl := La hr
        refine meet_ret ?_
        refine Le ?_
        simp
       ·refine AWp.skip ?_
        obtain rfl := La hr
        exact Ll () 8 (by first | (simp; done) | simp [h23, h27, h33, h37, h43])
 ·refine tq hΓ [5, 6] [2] ?_
  obtain rfl := La hr
  exact AWp.ret (Le (by simp))

@[simp] noncomputable def gP.S : Sp
  | [.agg e0, .agg e1], M => (rdP e0 0).bind fun i0 => (rdB M i0).bind fun c0 => (rdM c0 5).bind fun i1 => (rdO M i1).bind fun c1 => (rdP c0 6).bind fun i2 => (rdB M i2).bind fun c2 => (rdM c2 1).bind fun i3 => (rdE M i3).bind fun c3 => (rdM c2 2).bind fun i4 => (rdE M i4).bind fun c4 => (fun (y0 : Tu) => (fun (y1 : Tq) => (fun (r : Tu × List Tb × Bool) => some { av := .tup [.agg [.ptr i0 0, .lit (.int .i64 (r.1.fX.fe)), .lit (.int .i64 (r.1.fX.fk)), .lit (.int .i64 (r.1.fX.fq)), .lit (.int .i64 (r.1.fX.fb)), .lit (.int .i64 (r.1.fX.fo)), .sl ((r.1.fX.fL).map Th.enc) .no, .lit (.int .i64 (r.1.fX.fS.fb)), .sl ((r.1.fX.fS.fL).map Td.enc) .no, .lit (.int .i64 (r.1.fX.fS.fAt)), .lit (.bool (r.1.fX.fS.fg)), .lit (.int .i64 (r.1.fX.fc)), .lit (.int .i64 (r.1.fX.ff)), .lit (.int .i64 (r.1.fC)), .lit (.int .i64 (r.1.fN))], .sl ((r.2.1).map Tb.enc) .no, .lit (.bool (r.2.2))], M := some (((((M.set i0 (.blk [.lit (.int .i64 (r.1.fO.fd.fe)), .lit (.int .i64 (r.1.fO.fd.fk)), .lit (.int .i64 (r.1.fO.fd.fq)), .lit (.int .i64 (r.1.fO.fd.fb)), .lit (.int .i64 (r.1.fO.fd.fo)), .mp i1, .ptr i2 0, .lit (.int .i64 (r.1.fO.fc)), .lit (.int .i64 (r.1.fO.ff))])).set i1 (.own (Tj.own .i64 (r.1.fO.fh) none) none)).set i2 (.blk [.lit (.int .i64 (r.1.fO.fa.fb)), .mp i3, .mp i4, .lit (.int .i64 (r.1.fO.fa.fAt)), .lit (.bool (r.1.fO.fa.fg))])).set i3 (.mapo (encM (kI .i64) (kI .i64) (r.1.fO.fa.fm)))).set i4 (.mapo (encM (kI .i64) (kI .i64) (r.1.fO.fa.fp)))), obl := WeakL e0 (Tu.enc y0 i0) ∧ WeakL e1 (Tq.enc y1) ∧ c0 = Tf.enc (y0.fO) i1 i2 ∧ c1 = Tj.own .i64 (y0.fO.fh) none ∧ c2 = Tp.enc (y0.fO.fa) i3 i4 ∧ c3 = encM (kI .i64) (kI .i64) (y0.fO.fa.fm) ∧ c4 = encM (kI .i64) (kI .i64) (y0.fO.fa.fp) ∧ (gP y0 y1).isSome = true ∧ i0 ≠ i1 ∧ i0 ≠ i2 ∧ i0 ≠ i3 ∧ i0 ≠ i4 ∧ i1 ≠ i2 ∧ i1 ≠ i3 ∧ i1 ≠ i4 ∧ i2 ≠ i3 ∧ i2 ≠ i4 ∧ i3 ≠ i4 }) ((gP y0 y1).getD dflt)) (Tq.dec e1)) (Tu.dec e0 (Tf.dec c0 (decM dkI Tj.dfl c1.data) (Tp.dec c2 (decM dkI dkI c3) (decM dkI dkI c4))))
  | _, _ => none

theorem gP.ok : SpecOk Tryz.prog 8 gP.S := by
 intro l M out h
 unfold gP.S at h
 split at h
 ·rename_i e0 e1
  obtain ⟨i0, he0, h⟩ := bP h
  obtain ⟨c0, hM0, h⟩ := bB h
  obtain ⟨i1, he1, h⟩ := bM h
  obtain ⟨c1, hM1, h⟩ := bO h
  obtain ⟨i2, he2, h⟩ := bP h
  obtain ⟨c2, hM2, h⟩ := bB h
  obtain ⟨i3, he3, h⟩ := bM h
  obtain ⟨c3, hM3, h⟩ := bE h
  obtain ⟨i4, he4, h⟩ := bM h
  obtain ⟨c4, hM4, h⟩ := bE h
  try dsimp only at h
  cases h
  refine callOk_of fun ho => ?_
  obtain ⟨ox0, ox1, oc0, oc1, oc2, oc3, oc4, hs, hne0, hne1, hne2, hne3, hne4, hne5, hne6, hne7, hne8, hne9⟩ := ho
  generalize (Tu.dec e0 (Tf.dec c0 (decM dkI Tj.dfl c1.data) (Tp.dec c2 (decM dkI dkI c3) (decM dkI dkI c4)))) = x0 at *
  generalize (Tq.dec e1) = x1 at *
  subst oc0
  subst oc1
  subst oc2
  subst oc3
  subst oc4
  obtain ⟨r, hr⟩ := so1 hs
  simp only [hr, gd1]
  have q := Lg (M := M) [i0, i1, i2, i3, i4] (gP.can x0 x1 r hr) (by simp [hne0, hne1, hne2, hne3, hne4, hne5, hne6, hne7, hne8, hne9]) rfl (ix (by simp [hM0, into]) (ix (by simp [hM1]) (ix (by simp [hM2, into]) (ix (by simp [hM3]) (ix (by simp [hM4]) ixn)))))
  exact callOk_conv q trivial (by simp [into]; exact ⟨ox0, ox1⟩) (by simp [frameOut, into]) (by simp [frameOut, into])
 ·cases h
end Go.Proofs

/- That these functions compute what their plain functions do. No condition. -/
import Derived.Test.YtpjplfnapgpfmaaGreatM06
import Derived.Test.YtpjplfnapgpfmaaGreatTy
import Derived.Test.YtpjplfnapgpfmaaGreatEa
set_option maxRecDepth 100000
set_option maxHeartbeats 4000000
namespace Go.Proofs
open Go.Ab
@[simp] def gay.out (_x0 : Int) (_x1 : Int) (r : Ts) : Out := { av := .agg [.lit (.int .i64 r.fe), .lit (.int .i64 r.fk), .lit (.int .i64 r.fq), .lit (.int .i64 r.fb), .lit (.int .i64 r.fo)], M := none }
theorem gay.can (x0 : Int) (x1 : Int) (r : Ts) (hr : gay x0 x1 = some r) : CallOk Tryz.prog 7 [.lit (.int .i64 x0), .lit (.int .i64 x1)] [] (gay.out x0 x1 r) := by
 unfold gay at hr
 have hΓ := gamL_nil (P := Tryz.prog)
 refine cw Tryz.func7 rfl (by kernel_rfl) rfl rfl (by simp) fun _ _ _ => ?_
 refine tq hΓ [4] [] ?_
 obtain ⟨h4, hr⟩ := Lc hr
 obtain ⟨h5, hr⟩ := Lc hr
 obtain ⟨h6, hr⟩ := Lc hr
 refine tq hΓ [] [0, 1] ?_ (by simp [h4, h5, h6]; exact rr)
 obtain rfl := La hr
 exact AWp.ret (Le (by simp))

@[simp] noncomputable def gay.S : Sp
  | [.lit (.int .i64 x0), .lit (.int .i64 x1)], _ => some { av := .agg [.lit (.int .i64 (((gay x0 x1).getD dflt).fe)), .lit (.int .i64 (((gay x0 x1).getD dflt).fk)), .lit (.int .i64 (((gay x0 x1).getD dflt).fq)), .lit (.int .i64 (((gay x0 x1).getD dflt).fb)), .lit (.int .i64 (((gay x0 x1).getD dflt).fo))], M := none, obl := (gay x0 x1).isSome = true }
  | _, _ => none

theorem gay.ok : SpecOk Tryz.prog 7 gay.S := by
 intro l M out h
 unfold gay.S at h
 split at h
 ·rename_i x0 x1
  cases h
  refine callOk_of fun ho => ?_
  have hs := ho
  obtain ⟨r, hr⟩ := so1 hs
  simp only [hr, gd1]
  have q := Lg (M := M) [] (gay.can x0 x1 r hr) (by simp) rfl ixn
  exact callOk_conv q trivial (by simp) (by simp [frameOut]) (by simp [frameOut])
 ·cases h

@[simp] def gR.out (_x0 : List Tb) (_x1 : List Tb) (r : Int) : Out := { av := .lit (.int .i64 r), M := none }
def gR.fin (x0 : List Tb) (x1 : List Tb) (r : Int) (σ : St) : Prop := finK (gR.out x0 x1 r) [] σ.M (resA Tryz.ty σ.A σ.M Tryz.f20.results.toList)
theorem gR.can (x0 : List Tb) (x1 : List Tb) (r : Int) (hr : gR x0 x1 = some r) : CallOk Tryz.prog 20 [.sl (x0.map Tb.enc) .no, .sl (x1.map Tb.enc) .no] [] (gR.out x0 x1 r) := by
 unfold gR at hr
 have hΓ := gamL_nil (P := Tryz.prog)
 refine cw Tryz.func20 rfl (by kernel_rfl) rfl rfl (by simp) fun _ _ _ => ?_
 refine tq hΓ [] [] ?_
 refine AWp.seq ?_
 refine tq hΓ [10] [] ?_
 refine AWp.cnd hr (by simp) (fun h8 hr => ?_) (fun h8 hr => ?_)
 ·refine tq hΓ [4] [10, 0, 1] ?_ (by simp [h8]; exact rr)
  obtain rfl := La hr
  exact AWp.ret (Le (by simp))
 ·refine AWp.skip ?_
  refine AWp.seq ?_
  refine tq hΓ [12, 13] [10] ?_ (by simp [h8]; exact rr)
  refine AWp.loopE (fun (s1 : Int) (γ1 : Unit) => ⟨[⟨12, none, .n (lenL x1)⟩, ⟨13, none, .n s1⟩, ⟨0, none, .sl (x0.map Tb.enc) .no⟩, ⟨1, none, .sl (x1.map Tb.enc) .no⟩], []⟩) (fun (v1 : Unit) (γ1a : Unit) => ⟨[], []⟩) (gR.fin x0 x1) hr () 0 (by simp) (fun s1 f γ1 hr => ?_) (fun v1 γ1a σ1 m1 hr hc => ?_) (fun _ h => h)
  ·unfold gR.loop1 at hr
   refine tq hΓ [14] [] ?_ (by simp; exact rr)
   refine AWp.seq ?_
   refine AWp.cnd hr (by simp) (fun h9 hr => ?_) (fun h9 hr => ?_)
   ·refine AWp.skip ?_
    refine AWp.seq ?_
    refine AWp.block ?_
    refine tq hΓ [5] [14] ?_ (by simp [h9]; exact rr)
    obtain ⟨h10, hr⟩ := Lc hr
    obtain ⟨h11, hr⟩ := Lc hr
    obtain ⟨h12, hr⟩ := Lc hr
    obtain ⟨h13, hr⟩ := Lc hr
    refine td hΓ [39] [5] [] [(false, []), (false, []), (false, []), (false, []), (false, []), (false, []), (false, []), (false, []), (false, []), (false, []), (false, []), (false, []), (false, [27]), (false, [27]), (false, [27]), (false, [27]), (false, [27]), (false, [27]), (false, [27]), (false, [27]), (false, [27]), (false, [27]), (false, [27]), (false, [])] (by simp [h10, h11]; exact rr) ?_
    refine AWp.cnd hr (by simp) (fun h14 hr => ?_) (fun h14 hr => ?_)
    ·refine tq hΓ [4] [39, 12, 13, 0, 1] ?_ (by simp [h14]; exact rr)
     refine AWp.ret ?_
     obtain rfl := La hr
     refine round_ret ?_
     refine Le ?_
     simp
    ·refine AWp.skip ?_
     refine tl hΓ [13] [39] ?_ (by simp [h14]; exact rr)
     obtain rfl := La hr
     exact Lk () 0 (by first | (simp; done) | simp [h8, h9, h10, h11, h12, h13, h14])
   ·refine AWp.exit ?_
    obtain rfl := La hr
    exact Ln () 0 (by first | (simp; done) | simp [h8, h9])
  ·refine AWp.conv hc ?_
   refine tq hΓ [4] [] ?_ (by simp; exact rr)
   obtain rfl := La hr
   exact AWp.ret (Le (by simp))

@[simp] noncomputable def gR.S : Sp
  | [.sl e0 _, .sl e1 _], _ => some { av := .lit (.int .i64 ((gR (e0.map Tb.dec) (e1.map Tb.dec)).getD dflt)), M := none, obl := e0 = (e0.map Tb.dec).map Tb.enc ∧ e1 = (e1.map Tb.dec).map Tb.enc ∧ (gR (e0.map Tb.dec) (e1.map Tb.dec)).isSome = true }
  | _, _ => none

theorem gR.ok : SpecOk Tryz.prog 20 gR.S := by
 intro l M out h
 unfold gR.S at h
 split at h
 ·rename_i e0 k0 e1 k1
  cases h
  refine callOk_of fun ho => ?_
  obtain ⟨ox0, ox1, hs⟩ := ho
  generalize (e0.map Tb.dec) = x0 at *
  generalize (e1.map Tb.dec) = x1 at *
  subst ox0
  subst ox1
  obtain ⟨r, hr⟩ := so1 hs
  simp only [hr, gd1]
  have q := Lg (M := M) [] (gR.can x0 x1 r hr) (by simp) rfl ixn
  exact callOk_conv q trivial (by simp) (by simp [frameOut]) (by simp [frameOut])
 ·cases h

@[simp] def gaO.out (_x0 : Ts) (r : Tu × Bool) : Out := { av := .tup [.agg [.ptr 7 0, .lit (.int .i64 r.1.fX.fe), .lit (.int .i64 r.1.fX.fk), .lit (.int .i64 r.1.fX.fq), .lit (.int .i64 r.1.fX.fb), .lit (.int .i64 r.1.fX.fo), .sl (r.1.fX.fL.map Th.enc) .no, .lit (.int .i64 r.1.fX.fS.fb), .sl (r.1.fX.fS.fL.map Td.enc) .no, .lit (.int .i64 r.1.fX.fS.fAt), .lit (.bool r.1.fX.fS.fg), .lit (.int .i64 r.1.fX.fc), .lit (.int .i64 r.1.fX.ff), .lit (.int .i64 r.1.fC), .lit (.int .i64 r.1.fN)], .lit (.bool r.2)], M := some [.dead, .dead, .dead, .mapo (encM (kI .i64) (kI .i64) r.1.fO.fa.fm), .mapo (encM (kI .i64) (kI .i64) r.1.fO.fa.fp), .blk [.lit (.int .i64 r.1.fO.fa.fb), .mp 3, .mp 4, .lit (.int .i64 r.1.fO.fa.fAt), .lit (.bool r.1.fO.fa.fg)], .own (Tj.own .i64 r.1.fO.fh none) none, .blk [.lit (.int .i64 r.1.fO.fd.fe), .lit (.int .i64 r.1.fO.fd.fk), .lit (.int .i64 r.1.fO.fd.fq), .lit (.int .i64 r.1.fO.fd.fb), .lit (.int .i64 r.1.fO.fd.fo), .mp 6, .ptr 5 0, .lit (.int .i64 r.1.fO.fc), .lit (.int .i64 r.1.fO.ff)]] }
theorem gaO.can (x0 : Ts) (r : Tu × Bool) (hr : gaO x0 = some r) : CallOk Tryz.prog 6 [.agg [.lit (.int .i64 x0.fe), .lit (.int .i64 x0.fk), .lit (.int .i64 x0.fq), .lit (.int .i64 x0.fb), .lit (.int .i64 x0.fo)]] [] (gaO.out x0 r) := by
 unfold gaO at hr
 have hΓ := (gamL_cons gaM.ok (gamL_nil) : GamOk Tryz.prog _)
 refine cw Tryz.func6 rfl (by kernel_rfl) rfl rfl (by simp) fun _ _ _ => ?_
 refine tq hΓ [1, 2] [0] ?_
 obtain ⟨r1, h3, hr⟩ := Lb hr
 cases h4 : r1.1 with
 | none =>
   have hr := optC_n h4 hr
   refine tq hΓ [4, 5] [] ?_ (by simp [h3, h4]; exact rr)
   refine tq hΓ [3] [4, 5, 1] ?_ (by simp; exact rr)
   cases hr
 | some o1 =>
   have hr := optC_s h4 hr
   refine tq hΓ [4, 5] [] ?_ (by simp [h3, h4]; exact rr)
   refine tq hΓ [3] [4, 5, 1] ?_ (by simp; exact rr)
   obtain rfl := La hr
   exact AWp.ret (Le (by simp))

@[simp] noncomputable def gaO.S : Sp
  | [.agg e0], M => (fun (r : Tu × Bool) => some { av := .tup [.agg [.ptr (M.length + 7) 0, .lit (.int .i64 (r.1.fX.fe)), .lit (.int .i64 (r.1.fX.fk)), .lit (.int .i64 (r.1.fX.fq)), .lit (.int .i64 (r.1.fX.fb)), .lit (.int .i64 (r.1.fX.fo)), .sl ((r.1.fX.fL).map Th.enc) .no, .lit (.int .i64 (r.1.fX.fS.fb)), .sl ((r.1.fX.fS.fL).map Td.enc) .no, .lit (.int .i64 (r.1.fX.fS.fAt)), .lit (.bool (r.1.fX.fS.fg)), .lit (.int .i64 (r.1.fX.fc)), .lit (.int .i64 (r.1.fX.ff)), .lit (.int .i64 (r.1.fC)), .lit (.int .i64 (r.1.fN))], .lit (.bool (r.2))], M := some (M ++ [.dead, .dead, .dead, .mapo (encM (kI .i64) (kI .i64) (r.1.fO.fa.fm)), .mapo (encM (kI .i64) (kI .i64) (r.1.fO.fa.fp)), .blk [.lit (.int .i64 (r.1.fO.fa.fb)), .mp (M.length + 3), .mp (M.length + 4), .lit (.int .i64 (r.1.fO.fa.fAt)), .lit (.bool (r.1.fO.fa.fg))], .own (Tj.own .i64 (r.1.fO.fh) none) none, .blk [.lit (.int .i64 (r.1.fO.fd.fe)), .lit (.int .i64 (r.1.fO.fd.fk)), .lit (.int .i64 (r.1.fO.fd.fq)), .lit (.int .i64 (r.1.fO.fd.fb)), .lit (.int .i64 (r.1.fO.fd.fo)), .mp (M.length + 6), .ptr (M.length + 5) 0, .lit (.int .i64 (r.1.fO.fc)), .lit (.int .i64 (r.1.fO.ff))]]), obl := WeakL e0 (Ts.enc (Ts.dec e0)) ∧ (gaO (Ts.dec e0)).isSome = true }) ((gaO (Ts.dec e0)).getD dflt)
  | _, _ => none

theorem gaO.ok : SpecOk Tryz.prog 6 gaO.S := by
 intro l M out h
 unfold gaO.S at h
 split at h
 ·rename_i e0
  try dsimp only at h
  cases h
  refine callOk_of fun ho => ?_
  obtain ⟨ox0, hs⟩ := ho
  generalize (Ts.dec e0) = x0 at *
  obtain ⟨r, hr⟩ := so1 hs
  simp only [hr, gd1]
  have q := Lg (M := M) [] (gaO.can x0 r hr) (by simp) rfl ixn
  exact callOk_conv q trivial (by simp; exact ox0) (by simp [frameOut, into]) (by simp [frameOut, into])
 ·cases h
end Go.Proofs

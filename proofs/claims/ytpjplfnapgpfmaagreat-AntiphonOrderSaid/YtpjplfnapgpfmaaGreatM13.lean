/- That these functions compute what their plain functions do. No condition. -/
import Derived.Test.YtpjplfnapgpfmaaGreatM02
import Derived.Test.YtpjplfnapgpfmaaGreatTy
import Derived.Test.YtpjplfnapgpfmaaGreatM06
import Derived.Test.YtpjplfnapgpfmaaGreatM10
import Derived.Test.YtpjplfnapgpfmaaGreatOw
section
set_option maxRecDepth 100000
set_option maxHeartbeats 4000000
namespace Go.Proofs
open Go.Ab
@[simp] def gam.out (_x0 : List Ta) (r : Int) : Out := { av := .lit (.int .i64 r), M := none }
def gam.fin (x0 : List Ta) (r : Int) (σ : St) : Prop := finK (gam.out x0 r) [] σ.M (resA Tryz.ty σ.A σ.M Tryz.f85.results.toList)
theorem gam.can (x0 : List Ta) (r : Int) (hr : gam x0 = some r) : CallOk Tryz.prog 85 [.sl (x0.map Ta.enc) .no] [] (gam.out x0 r) := by
 unfold gam at hr
 have hΓ := gamL_nil (P := Tryz.prog)
 refine cw Tryz.func85 rfl (by kernel_rfl) rfl rfl (by simp) fun _ _ _ => ?_
 refine tq hΓ [] [] ?_
 refine tq hΓ [3] [] ?_
 refine AWp.seq ?_
 refine tq hΓ [6, 7, 8] [0] ?_
 refine AWp.loopE (fun (s1 : Int × Int) (γ1 : Unit) => ⟨[⟨6, none, .sl (x0.map Ta.enc) .no⟩, ⟨7, none, .n (lenL x0)⟩, ⟨8, none, .n s1.1⟩, ⟨3, none, .n s1.2⟩], []⟩) (fun (v1 : Int) (γ1a : Unit) => ⟨[⟨3, none, .n v1⟩], []⟩) (gam.fin x0) hr () 0 (by simp) (fun s1 f γ1 hr => ?_) (fun v1 γ1a σ1 m1 hr hc => ?_) (fun _ h => h)
 ·unfold gam.loop1 at hr
  refine tq hΓ [9] [] ?_
  refine AWp.seq ?_
  refine AWp.cnd hr (by simp) (fun h3 hr => ?_) (fun h3 hr => ?_)
  ·refine AWp.skip ?_
   refine AWp.seq ?_
   refine AWp.block ?_
   obtain ⟨h4, hr⟩ := Lc hr
   refine tq hΓ [5] [9] ?_ (by simp [h3, h4]; exact rr)
   refine tl hΓ [3] [5] ?_ (by simp; exact rr)
   refine tl hΓ [8] [] ?_ (by simp; exact rr)
   obtain rfl := La hr
   exact Lk () 0 (by first | (simp; done) | simp [h3, h4])
  ·refine AWp.exit ?_
   obtain rfl := La hr
   exact Ln () 0 (by first | (simp; done) | simp [h3])
 ·refine AWp.conv hc ?_
  refine tq hΓ [2] [3] ?_
  obtain rfl := La hr
  exact AWp.ret (Le (by simp))

@[simp] noncomputable def gam.S : Sp
  | [.sl e0 _], _ => some { av := .lit (.int .i64 ((gam (e0.map Ta.dec)).getD dflt)), M := none, obl := e0 = (e0.map Ta.dec).map Ta.enc ∧ (gam (e0.map Ta.dec)).isSome = true }
  | _, _ => none

theorem gam.ok : SpecOk Tryz.prog 85 gam.S := by
 intro l M out h
 unfold gam.S at h
 split at h
 ·rename_i e0 k0
  cases h
  refine callOk_of fun ho => ?_
  obtain ⟨ox0, hs⟩ := ho
  generalize (e0.map Ta.dec) = x0 at *
  subst ox0
  obtain ⟨r, hr⟩ := so1 hs
  simp only [hr, gd1]
  have q := Lh (M := M) [] (gam.can x0 r hr) (by simp) rfl ixn
  exact callOk_conv q trivial (by simp) (by simp [frameOut]) (by simp [frameOut])
 ·cases h

@[simp] def gab.out (_x0 : Tl) (r : Tl × List Ta) : Out := { av := .tup [.agg [.lit (.int .i64 r.1.fd), .lit (.int .i64 r.1.fb), .sl (r.1.fL.map Ta.enc) .no, .lit (.bool r.1.fv)], .sl (r.2.map Ta.enc) .no], M := none }
def gab.fin (x0 : Tl) (r : Tl × List Ta) (σ : St) : Prop := finK (gab.out x0 r) [] σ.M (resA Tryz.ty σ.A σ.M Tryz.f86.results.toList)
theorem gab.can (x0 : Tl) (r : Tl × List Ta) (hr : gab x0 = some r) : CallOk Tryz.prog 86 [.agg [.lit (.int .i64 x0.fd), .lit (.int .i64 x0.fb), .sl (x0.fL.map Ta.enc) .no, .lit (.bool x0.fv)]] [] (gab.out x0 r) := by
 unfold gab at hr
 have hΓ := gamL_nil (P := Tryz.prog)
 refine cw Tryz.func86 rfl (by kernel_rfl) rfl rfl (by simp) fun _ _ _ => ?_
 refine tq hΓ [1, 2] [0] ?_
 refine tq hΓ [4] [] ?_
 refine AWp.loopB (fun (s1 : Int) (γ1 : Unit) => ⟨[⟨4, none, .n s1⟩, ⟨1, none, .ptr 0 0⟩, ⟨2, none, .ptr 1 0⟩], [.blk x0.enc, .blk [.n 0, .n 0, .sl [] .full, .b false]]⟩) (fun (v1 : Int) (γ1a : Unit) => ⟨[⟨4, none, .n v1⟩, ⟨1, none, .ptr 0 0⟩, ⟨2, none, .ptr 1 0⟩], [.blk x0.enc, .blk [.n 0, .n 0, .sl [] .full, .b false]]⟩) (gab.fin x0) hr () 2 (by simp) (fun s1 f γ1 hr => ?_) (fun v1 γ1a hr => ?_) (fun _ h => h)
 ·unfold gab.loop1 at hr
  refine AWp.seq ?_
  obtain ⟨h5, hr⟩ := Lc hr
  refine tq hΓ [19] [] ?_ (by simp [h5]; exact rr)
  refine AWp.cnd hr (by simp) (fun h6 hr => ?_) (fun h6 hr => ?_)
  ·refine AWp.skip ?_
   refine AWp.block ?_
   refine tl hΓ [4] [19] ?_ (by simp [h6]; exact rr)
   obtain rfl := La hr
   exact Lk () 2 (by first | (simp; done) | simp [h5, h6])
  ·refine AWp.exit ?_
   obtain rfl := La hr
   exact Ln () 2 (by first | (simp; done) | simp [h5, h6])
 ·obtain ⟨h7, hr⟩ := Lc hr
  refine tq hΓ [5] [] ?_ (by simp [h7]; exact rr)
  obtain ⟨h8, hr⟩ := Lc hr
  refine tq hΓ [] [4] ?_ (by simp [h8]; exact rr)
  refine tq hΓ [] [] ?_ (by simp; exact rr)
  refine tq hΓ [3] [5, 1] ?_ (by simp; exact rr)
  obtain rfl := La hr
  exact AWp.ret (Le (by simp))

@[simp] noncomputable def gab.S : Sp
  | [.agg e0], _ => (fun (y0 : Tl) => (fun (r : Tl × List Ta) => some { av := .tup [.agg [.lit (.int .i64 (r.1.fd)), .lit (.int .i64 (r.1.fb)), .sl ((r.1.fL).map Ta.enc) .no, .lit (.bool (r.1.fv))], .sl ((r.2).map Ta.enc) .no], M := none, obl := WeakL e0 (Tl.enc y0) ∧ (gab y0).isSome = true }) ((gab y0).getD dflt)) (Tl.dec e0)
  | _, _ => none

theorem gab.ok : SpecOk Tryz.prog 86 gab.S := by
 intro l M out h
 unfold gab.S at h
 split at h
 ·rename_i e0
  try dsimp only at h
  cases h
  refine callOk_of fun ho => ?_
  obtain ⟨ox0, hs⟩ := ho
  generalize (Tl.dec e0) = x0 at *
  obtain ⟨r, hr⟩ := so1 hs
  simp only [hr, gd1]
  have q := Lh (M := M) [] (gab.can x0 r hr) (by simp) rfl ixn
  exact callOk_conv q trivial (by simp; exact ox0) (by simp [frameOut]) (by simp [frameOut])
 ·cases h

@[simp] def gar.out (_x0 : Tl) (_x1 : Ta) (r : Tl × List Ta × Bool) : Out := { av := .tup [.agg [.lit (.int .i64 r.1.fd), .lit (.int .i64 r.1.fb), .sl (r.1.fL.map Ta.enc) .no, .lit (.bool r.1.fv)], .sl (r.2.1.map Ta.enc) .no, .lit (.bool r.2.2)], M := none }
def gar.fin (x0 : Tl) (x1 : Ta) (r : Tl × List Ta × Bool) (σ : St) : Prop := finK (gar.out x0 x1 r) [] σ.M (resA Tryz.ty σ.A σ.M Tryz.f57.results.toList)
theorem gar.can (x0 : Tl) (x1 : Ta) (r : Tl × List Ta × Bool) (hr : gar x0 x1 = some r) : CallOk Tryz.prog 57 [.agg [.lit (.int .i64 x0.fd), .lit (.int .i64 x0.fb), .sl (x0.fL.map Ta.enc) .no, .lit (.bool x0.fv)], .agg [.lit (.int .i64 x1.fN), .lit (.int .i64 x1.fj), .lit (.int .i64 x1.fw), .lit (.bool x1.fy)]] [] (gar.out x0 x1 r) := by
 unfold gar at hr
 have hΓ := (gamL_cons gab.ok (gamL_cons gam.ok (gamL_nil)) : GamOk Tryz.prog _)
 refine cw Tryz.func57 rfl (by kernel_rfl) rfl rfl (by simp) fun _ _ _ => ?_
 refine tq hΓ [2, 3, 4] [0, 1] ?_
 refine AWp.seq ?_
 refine tq hΓ [28] [] ?_
 refine AWp.cnd hr (by simp) (fun h9 hr => ?_) (fun h9 hr => ?_)
 ·refine tq hΓ [] [28, 3] ?_ (by simp [h9]; exact rr)
  refine tq hΓ [5, 6] [2] ?_ (by simp; exact rr)
  obtain rfl := La hr
  exact AWp.ret (Le (by simp))
 ·refine AWp.skip ?_
  refine tq hΓ [7] [28] ?_ (by simp [h9]; exact rr)
  refine AWp.equip 7 4 (els := []) (by simp) (by simp) ?_
  refine AWp.loopB (fun (s1 : List Ta × Tl) (γ1 : Nat) => ⟨[⟨7, none, .sl (s1.1.map Ta.enc) (.own 3 (γ1) 4)⟩, ⟨2, none, .ptr 0 0⟩, ⟨3, none, .ptr 1 0⟩, ⟨4, none, .ptr 2 0⟩], [.blk s1.2.enc, .blk x1.enc, .blk [.n 0, .n 0, .sl [] .full, .b false], .room (γ1)]⟩) (fun (v1 : List Ta × Tl) (γ1a : Nat) => ⟨[⟨7, none, .sl (v1.1.map Ta.enc) (.own 3 (γ1a) 4)⟩, ⟨2, none, .ptr 0 0⟩, ⟨3, none, .ptr 1 0⟩, ⟨4, none, .ptr 2 0⟩], [.blk v1.2.enc, .blk x1.enc, .blk [.n 0, .n 0, .sl [] .full, .b false], .room (γ1a)]⟩) (gar.fin x0 x1) hr 0 4 (by simp) (fun s1 f γ1 hr => ?_) (fun v1 γ1a hr => ?_) (fun _ h => h)
  ·unfold gar.loop1 at hr
   refine AWp.seq ?_
   obtain ⟨h10, hr⟩ := Lc hr
   refine td hΓ [48] [] [] [(false, []), (false, []), (false, []), (false, []), (false, []), (false, []), (false, []), (false, [38]), (false, [38]), (false, [38]), (false, [38]), (false, [38]), (false, [38]), (false, [38]), (false, [38]), (false, [38]), (false, [])] (by simp [h10]; exact rr) ?_
   refine AWp.cnd hr (by simp) (fun h11 hr => ?_) (fun h11 hr => ?_)
   ·refine AWp.skip ?_
    refine AWp.block ?_
    obtain ⟨r1, h12, hr⟩ := Lb hr
    refine tq hΓ [8, 9] [48] ?_ (by simp [h11, h12]; exact rr)
    refine tq hΓ [] [8] ?_ (by simp; exact rr)
    obtain ⟨h13, hr⟩ := Lc hr
    refine tl hΓ [7] [9] ?_ (by simp [h13]; exact rr)
    obtain rfl := La hr
    exact Lk (γ1 + 1) 4 (by first | (simp; done) | simp [h9, h10, h11, h12, h13])
   ·refine AWp.exit ?_
    obtain rfl := La hr
    exact Ln (γ1) 4 (by first | (simp; done) | simp [h9, h10, h11])
  ·refine AWp.seq ?_
   refine tq hΓ [64] [] ?_ (by simp; exact rr)
   refine AWp.cnd hr (by simp) (fun h14 hr => ?_) (fun h14 hr => ?_)
   ·refine tq hΓ [5, 6] [64, 7, 2, 3] ?_ (by simp [h14]; exact rr)
    obtain rfl := La hr
    exact AWp.ret (Le (by simp))
   ·refine AWp.skip ?_
    refine tq hΓ [] [64] ?_ (by simp [h14]; exact rr)
    obtain ⟨h15, hr⟩ := Lc hr
    obtain ⟨h16, hr⟩ := Lc hr
    refine td hΓ [] [3] [(4, 0), (5, 0)] [(false, []), (false, []), (false, []), (true, []), (false, []), (false, []), (true, []), (false, []), (true, [])] (by simp [h15, h16]; exact rr) ?_
    refine tq hΓ [5, 6] [7, 2] ?_ (by simp; exact rr)
    obtain rfl := La hr
    exact AWp.ret (Le (by simp))

@[simp] noncomputable def gar.S : Sp
  | [.agg e0, .agg e1], _ => (fun (y0 : Tl) => (fun (y1 : Ta) => (fun (r : Tl × List Ta × Bool) => some { av := .tup [.agg [.lit (.int .i64 (r.1.fd)), .lit (.int .i64 (r.1.fb)), .sl ((r.1.fL).map Ta.enc) .no, .lit (.bool (r.1.fv))], .sl ((r.2.1).map Ta.enc) .no, .lit (.bool (r.2.2))], M := none, obl := WeakL e0 (Tl.enc y0) ∧ WeakL e1 (Ta.enc y1) ∧ (gar y0 y1).isSome = true }) ((gar y0 y1).getD dflt)) (Ta.dec e1)) (Tl.dec e0)
  | _, _ => none

theorem gar.ok : SpecOk Tryz.prog 57 gar.S := by
 intro l M out h
 unfold gar.S at h
 split at h
 ·rename_i e0 e1
  try dsimp only at h
  cases h
  refine callOk_of fun ho => ?_
  obtain ⟨ox0, ox1, hs⟩ := ho
  generalize (Tl.dec e0) = x0 at *
  generalize (Ta.dec e1) = x1 at *
  obtain ⟨r, hr⟩ := so1 hs
  simp only [hr, gd1]
  have q := Lh (M := M) [] (gar.can x0 x1 r hr) (by simp) rfl ixn
  exact callOk_conv q trivial (by simp; exact ⟨ox0, ox1⟩) (by simp [frameOut]) (by simp [frameOut])
 ·cases h

@[simp] def gU.out (_x0 : Tl) (_x1 : Int) (_x2 : Int) (r : Tl × List Ta) : Out := { av := .tup [.agg [.lit (.int .i64 r.1.fd), .lit (.int .i64 r.1.fb), .sl (r.1.fL.map Ta.enc) .no, .lit (.bool r.1.fv)], .sl (r.2.map Ta.enc) .no], M := none }
def gU.fin (x0 : Tl) (x1 : Int) (x2 : Int) (r : Tl × List Ta) (σ : St) : Prop := finK (gU.out x0 x1 x2 r) [] σ.M (resA Tryz.ty σ.A σ.M Tryz.f65.results.toList)
theorem gU.can (x0 : Tl) (x1 : Int) (x2 : Int) (r : Tl × List Ta) (hr : gU x0 x1 x2 = some r) : CallOk Tryz.prog 65 [.agg [.lit (.int .i64 x0.fd), .lit (.int .i64 x0.fb), .sl (x0.fL.map Ta.enc) .no, .lit (.bool x0.fv)], .lit (.int .i64 x1), .lit (.int .i64 x2)] [] (gU.out x0 x1 x2 r) := by
 unfold gU at hr
 have hΓ := (gamL_cons gab.ok (gamL_nil) : GamOk Tryz.prog _)
 refine cw Tryz.func65 rfl (by kernel_rfl) rfl rfl (by simp) fun _ _ _ => ?_
 refine tq hΓ [3, 6] [0] ?_
 refine tq hΓ [8] [] ?_
 refine AWp.equip 8 4 (els := []) (by simp) (by simp) ?_
 refine AWp.loopB (fun (s1 : List Ta × Tl) (γ1 : Nat) => ⟨[⟨8, none, .sl (s1.1.map Ta.enc) (.own 2 (γ1) 4)⟩, ⟨3, none, .ptr 0 0⟩, ⟨6, none, .ptr 1 0⟩, ⟨1, none, .n x1⟩, ⟨2, none, .n x2⟩], [.blk s1.2.enc, .blk [.n 0, .n 0, .sl [] .full, .b false], .room (γ1)]⟩) (fun (v1 : List Ta × Tl) (γ1a : Nat) => ⟨[⟨8, none, .sl (v1.1.map Ta.enc) (.own 2 (γ1a) 4)⟩, ⟨3, none, .ptr 0 0⟩, ⟨6, none, .ptr 1 0⟩], [.blk v1.2.enc, .blk [.n 0, .n 0, .sl [] .full, .b false], .room (γ1a)]⟩) (gU.fin x0 x1 x2) hr 0 3 (by simp) (fun s1 f γ1 hr => ?_) (fun v1 γ1a hr => ?_) (fun _ h => h)
 ·unfold gU.loop1 at hr
  refine AWp.seq ?_
  obtain ⟨h5, hr⟩ := Lc hr
  refine tq hΓ [26] [] ?_ (by simp [h5]; exact rr)
  refine AWp.cnd hr (by simp) (fun h6 hr => ?_) (fun h6 hr => ?_)
  ·refine AWp.skip ?_
   refine AWp.block ?_
   obtain ⟨r1, h7, hr⟩ := Lb hr
   refine tq hΓ [9, 10] [26] ?_ (by simp [h6, h7]; exact rr)
   refine tq hΓ [] [9] ?_ (by simp; exact rr)
   obtain ⟨h8, hr⟩ := Lc hr
   refine tl hΓ [8] [10] ?_ (by simp [h8]; exact rr)
   obtain rfl := La hr
   exact Lk (γ1 + 1) 3 (by first | (simp; done) | simp [h5, h6, h7, h8])
  ·refine AWp.exit ?_
   obtain rfl := La hr
   exact Ln (γ1) 3 (by first | (simp; done) | simp [h5, h6])
 ·refine tq hΓ [7] [8, 3] ?_
  obtain rfl := La hr
  exact AWp.ret (Le (by simp))

@[simp] noncomputable def gU.S : Sp
  | [.agg e0, .lit (.int .i64 x1), .lit (.int .i64 x2)], _ => (fun (y0 : Tl) => (fun (r : Tl × List Ta) => some { av := .tup [.agg [.lit (.int .i64 (r.1.fd)), .lit (.int .i64 (r.1.fb)), .sl ((r.1.fL).map Ta.enc) .no, .lit (.bool (r.1.fv))], .sl ((r.2).map Ta.enc) .no], M := none, obl := WeakL e0 (Tl.enc y0) ∧ (gU y0 x1 x2).isSome = true }) ((gU y0 x1 x2).getD dflt)) (Tl.dec e0)
  | _, _ => none

theorem gU.ok : SpecOk Tryz.prog 65 gU.S := by
 intro l M out h
 unfold gU.S at h
 split at h
 ·rename_i e0 x1 x2
  try dsimp only at h
  cases h
  refine callOk_of fun ho => ?_
  obtain ⟨ox0, hs⟩ := ho
  generalize (Tl.dec e0) = x0 at *
  obtain ⟨r, hr⟩ := so1 hs
  simp only [hr, gd1]
  have q := Lh (M := M) [] (gU.can x0 x1 x2 r hr) (by simp) rfl ixn
  exact callOk_conv q trivial (by simp; exact ox0) (by simp [frameOut]) (by simp [frameOut])
 ·cases h
end Go.Proofs
end
section
set_option maxRecDepth 100000
set_option maxHeartbeats 4000000
namespace Go.Proofs
open Go.Ab
@[simp] def gaD.out  (r : Tv) : Out := { av := .agg [.lit (.bool r.fT), .lit (.bool r.fV), .lit (.int .i64 r.fR), .lit (.int .i64 r.fG), .lit (.bool r.faa), .lit (.int .i64 r.fJ), .lit (.int .i64 r.fK), .lit (.bool r.fab), .lit (.int .i64 r.fy)], M := none }
theorem gaD.can  (r : Tv) (hr : gaD = some r) : CallOk Tryz.prog 14 [] [] (gaD.out  r) := by
 unfold gaD at hr
 have hΓ := gamL_nil (P := Tryz.prog)
 refine cw Tryz.func14 rfl (by kernel_rfl) rfl rfl (by simp) fun _ _ _ => ?_
 refine tq hΓ [0] [] ?_
 refine tq hΓ [] [] ?_
 obtain rfl := La hr
 exact AWp.ret (Le (by simp))

@[simp] noncomputable def gaD.S : Sp
  | [], _ => some { av := .agg [.lit (.bool ((gaD.getD dflt).fT)), .lit (.bool ((gaD.getD dflt).fV)), .lit (.int .i64 ((gaD.getD dflt).fR)), .lit (.int .i64 ((gaD.getD dflt).fG)), .lit (.bool ((gaD.getD dflt).faa)), .lit (.int .i64 ((gaD.getD dflt).fJ)), .lit (.int .i64 ((gaD.getD dflt).fK)), .lit (.bool ((gaD.getD dflt).fab)), .lit (.int .i64 ((gaD.getD dflt).fy))], M := none, obl := gaD.isSome = true }
  | _, _ => none

theorem gaD.ok : SpecOk Tryz.prog 14 gaD.S := by
 intro l M out h
 unfold gaD.S at h
 split at h
 ·cases h
  refine callOk_of fun ho => ?_
  have hs := ho
  obtain ⟨r, hr⟩ := so1 hs
  simp only [hr, gd1]
  have q := Lh (M := M) [] (gaD.can r hr) (by simp) rfl ixn
  exact callOk_conv q trivial (by simp) (by simp [frameOut]) (by simp [frameOut])
 ·cases h

@[simp] def gaQ.out (_x0 : Bool) (_x1 : Int) (r : Int) : Out := { av := .lit (.int .u8 r), M := none }
theorem gaQ.can (x0 : Bool) (x1 : Int) (r : Int) (hr : gaQ x0 x1 = some r) : CallOk Tryz.prog 47 [.lit (.bool x0), .lit (.int .u8 x1)] [] (gaQ.out x0 x1 r) := by
 unfold gaQ at hr
 have hΓ := gamL_nil (P := Tryz.prog)
 refine cw Tryz.func47 rfl (by kernel_rfl) rfl rfl (by simp) fun _ _ _ => ?_
 refine tq hΓ [] [] ?_
 refine AWp.seq ?_
 refine tq hΓ [5] [0] ?_
 refine AWp.cnd hr (by simp) (fun h2 hr => ?_) (fun h2 hr => ?_)
 ·refine tq hΓ [4] [5, 1] ?_ (by simp [h2]; exact rr)
  obtain rfl := La hr
  exact AWp.ret (Le (by simp))
 ·refine AWp.skip ?_
  refine tq hΓ [4] [5, 1] ?_ (by simp [h2]; exact rr)
  obtain rfl := La hr
  exact AWp.ret (Le (by simp))

@[simp] noncomputable def gaQ.S : Sp
  | [.lit (.bool x0), .lit (.int .u8 x1)], _ => some { av := .lit (.int .u8 ((gaQ x0 x1).getD dflt)), M := none, obl := (gaQ x0 x1).isSome = true }
  | _, _ => none

theorem gaQ.ok : SpecOk Tryz.prog 47 gaQ.S := by
 intro l M out h
 unfold gaQ.S at h
 split at h
 ·rename_i x0 x1
  cases h
  refine callOk_of fun ho => ?_
  have hs := ho
  obtain ⟨r, hr⟩ := so1 hs
  simp only [hr, gd1]
  have q := Lh (M := M) [] (gaQ.can x0 x1 r hr) (by simp) rfl ixn
  exact callOk_conv q trivial (by simp) (by simp [frameOut]) (by simp [frameOut])
 ·cases h

@[simp] def gaJ.out (_x0 : Tv) (r : Bool) : Out := { av := .lit (.bool r), M := none }
theorem gaJ.can (x0 : Tv) (r : Bool) (hr : gaJ x0 = some r) : CallOk Tryz.prog 48 [.agg [.lit (.bool x0.fT), .lit (.bool x0.fV), .lit (.int .i64 x0.fR), .lit (.int .i64 x0.fG), .lit (.bool x0.faa), .lit (.int .i64 x0.fJ), .lit (.int .i64 x0.fK), .lit (.bool x0.fab), .lit (.int .i64 x0.fy)]] [] (gaJ.out x0 r) := by
 unfold gaJ at hr
 have hΓ := gamL_nil (P := Tryz.prog)
 refine cw Tryz.func48 rfl (by kernel_rfl) rfl rfl (by simp) fun _ _ _ => ?_
 refine tq hΓ [1] [0] ?_
 refine tq hΓ [2] [1] ?_
 obtain rfl := La hr
 exact AWp.ret (Le (by simp))

@[simp] noncomputable def gaJ.S : Sp
  | [.agg e0], _ => some { av := .lit (.bool ((gaJ (Tv.dec e0)).getD dflt)), M := none, obl := WeakL e0 (Tv.enc (Tv.dec e0)) ∧ (gaJ (Tv.dec e0)).isSome = true }
  | _, _ => none

theorem gaJ.ok : SpecOk Tryz.prog 48 gaJ.S := by
 intro l M out h
 unfold gaJ.S at h
 split at h
 ·rename_i e0
  cases h
  refine callOk_of fun ho => ?_
  obtain ⟨ox0, hs⟩ := ho
  generalize (Tv.dec e0) = x0 at *
  obtain ⟨r, hr⟩ := so1 hs
  simp only [hr, gd1]
  have q := Lh (M := M) [] (gaJ.can x0 r hr) (by simp) rfl ixn
  exact callOk_conv q trivial (by simp; exact ox0) (by simp [frameOut]) (by simp [frameOut])
 ·cases h

@[simp] def gae.out (_x0 : Tv) (r : ByteArray) : Out := { av := .lit (.string r), M := none }
def gae.fin (x0 : Tv) (r : ByteArray) (σ : St) : Prop := finK (gae.out x0 r) [] σ.M (resA Tryz.ty σ.A σ.M Tryz.f15.results.toList)
theorem gae.can (x0 : Tv) (r : ByteArray) (hr : gae x0 = some r) : CallOk Tryz.prog 15 [.agg [.lit (.bool x0.fT), .lit (.bool x0.fV), .lit (.int .i64 x0.fR), .lit (.int .i64 x0.fG), .lit (.bool x0.faa), .lit (.int .i64 x0.fJ), .lit (.int .i64 x0.fK), .lit (.bool x0.fab), .lit (.int .i64 x0.fy)]] [] (gae.out x0 r) := by
 unfold gae at hr
 have hΓ := (gamL_cons gaR.Text.ok (gamL_cons gi.ok (gamL_cons gaR.U8.ok (gamL_cons gaJ.ok (gamL_cons gaQ.ok (gamL_nil))))) : GamOk Tryz.prog _)
 refine cw Tryz.func15 rfl (by kernel_rfl) rfl rfl (by simp) fun _ _ _ => ?_
 refine tq hΓ [1] [0] ?_
 refine AWp.then ⟨[⟨3, none, .ptr 1 0⟩, ⟨1, none, .ptr 0 0⟩], [.blk x0.enc, .opq (wrO 119 5 [])]⟩ (gaR.alloc rfl rfl rfl rfl (by kernel_rfl) rfl (dead := []) (by simp [exS])) ?_
 obtain ⟨r1, h24, hr⟩ := Lb hr
 obtain ⟨r2, h25, hr⟩ := Lb hr
 obtain ⟨r3, h26, hr⟩ := Lb hr
 obtain ⟨r4, h27, hr⟩ := Lb hr
 obtain ⟨h28, hr⟩ := Lc hr
 refine td hΓ [] [] [] [(false, []), (false, []), (false, []), (false, []), (false, []), (false, []), (false, []), (false, []), (false, []), (false, []), (false, []), (false, []), (false, []), (false, []), (false, []), (false, []), (false, []), (true, [])] (by simp [h24, h25, h26, h27, h28]; exact rr) ?_
 refine AWp.seq ?_
 refine tq hΓ [24] [] ?_ (by simp [h24]; exact rr)
 refine AWp.cnd hr (by simp) (fun h29 hr => ?_) (fun h29 hr => ?_)
 ·obtain ⟨h30, hr⟩ := Lc hr
  refine tq hΓ [2] [24, 3, 1] ?_ (by simp [h29, h30]; exact rr)
  obtain rfl := La hr
  exact AWp.ret (Le (by simp))
 ·refine AWp.skip ?_
  obtain ⟨r5, h31, hr⟩ := Lb hr
  obtain ⟨r6, h32, hr⟩ := Lb hr
  obtain ⟨r7, h33, hr⟩ := Lb hr
  obtain ⟨r8, h34, hr⟩ := Lb hr
  obtain ⟨h35, hr⟩ := Lc hr
  refine td hΓ [] [24] [] [(false, []), (false, []), (false, []), (false, []), (false, []), (false, []), (false, []), (false, []), (false, []), (false, []), (false, []), (false, []), (false, []), (false, []), (false, []), (false, []), (false, []), (false, []), (false, []), (false, []), (true, [])] (by simp [h29, h31, h32, h33, h34, h35]; exact rr) ?_
  refine AWp.meetF (fun (v1 : List Int) (γ1 : Unit) => ⟨[⟨3, none, .ptr 1 0⟩, ⟨1, none, .ptr 0 0⟩], [.blk x0.enc, .opq (wrO 119 5 v1)]⟩) (gae.fin x0) hr (fun f hr => ?_) (fun v1 γ1 hr => ?_) (fun _ h => h)
  ·refine AWp.block ?_
   refine tq hΓ [47] [] ?_ (by simp; exact rr)
   refine AWp.cnd hr (by simp) (fun h36 hr => ?_) (fun h36 hr => ?_)
   ·obtain ⟨r9, h37, hr⟩ := Lb hr
    refine tl hΓ [] [47] ?_ (by simp [h36, h37]; exact rr)
    obtain rfl := La hr
    exact Ll () 2 (by first | (simp; done) | simp [h24, h25, h26, h27, h28, h29, h31, h32, h33, h34, h35, h36, h37])
   ·refine tq hΓ [61] [47] ?_ (by simp [h36]; exact rr)
    refine AWp.cnd hr (by simp) (fun h38 hr => ?_) (fun h38 hr => ?_)
    ·obtain ⟨h39, hr⟩ := Lc hr
     refine tl hΓ [] [61] ?_ (by simp [h38, h39]; exact rr)
     obtain rfl := La hr
     exact Ll () 2 (by first | (simp; done) | simp [h24, h25, h26, h27, h28, h29, h31, h32, h33, h34, h35, h36, h38, h39])
    ·refine AWp.skip ?_
     obtain rfl := La hr
     exact Ll () 2 (by first | (simp; done) | simp [h24, h25, h26, h27, h28, h29, h31, h32, h33, h34, h35, h36, h38])
  ·refine AWp.meetF (fun (v2 : List Int) (γ2 : Unit) => ⟨[⟨3, none, .ptr 1 0⟩, ⟨1, none, .ptr 0 0⟩], [.blk x0.enc, .opq (wrO 119 5 v2)]⟩) (gae.fin x0) hr (fun f hr => ?_) (fun v2 γ2 hr => ?_) (fun _ h => h)
   ·refine tq hΓ [73] [] ?_ (by simp; exact rr)
    refine AWp.cnd hr (by simp) (fun h40 hr => ?_) (fun h40 hr => ?_)
    ·obtain ⟨h41, hr⟩ := Lc hr
     refine tl hΓ [] [73] ?_ (by simp [h40, h41]; exact rr)
     obtain rfl := La hr
     exact Ll () 2 (by first | (simp; done) | simp [h24, h25, h26, h27, h28, h29, h31, h32, h33, h34, h35, h40, h41])
    ·refine AWp.skip ?_
     obtain rfl := La hr
     exact Ll () 2 (by first | (simp; done) | simp [h24, h25, h26, h27, h28, h29, h31, h32, h33, h34, h35, h40])
   ·refine AWp.meetF (fun (v3 : List Int) (γ3 : Unit) => ⟨[⟨3, none, .ptr 1 0⟩], [.blk x0.enc, .opq (wrO 119 5 v3)]⟩) (gae.fin x0) hr (fun f hr => ?_) (fun v3 γ3 hr => ?_) (fun _ h => h)
    ·refine tq hΓ [86] [] ?_ (by simp; exact rr)
     refine AWp.cnd hr (by simp) (fun h42 hr => ?_) (fun h42 hr => ?_)
     ·obtain ⟨h43, hr⟩ := Lc hr
      obtain ⟨r10, h44, hr⟩ := Lb hr
      obtain ⟨h45, hr⟩ := Lc hr
      refine AWp.lst (AWp.regD Tryz.mixed Tryz.tyOk hΓ [] [86, 1] [] [(false, []), (false, []), (false, []), (false, []), (false, []), (false, []), (false, []), (false, []), (false, []), (false, []), (false, []), (false, []), (false, []), (false, []), (false, []), (true, [])] (by kernel_rfl) rfl (by simp [h42, h43, h44, h45]; exact rr)) ?_
      obtain rfl := La hr
      exact Ll () 2 (by first | (simp; done) | simp [h24, h25, h26, h27, h28, h29, h31, h32, h33, h34, h35, h42, h43, h44, h45])
     ·refine AWp.skip ?_
      obtain rfl := La hr
      exact Ll () 2 (by first | (simp; done) | simp [h24, h25, h26, h27, h28, h29, h31, h32, h33, h34, h35, h42])
    ·obtain ⟨h46, hr⟩ := Lc hr
     refine tq hΓ [2] [3] ?_ (by simp [h46]; exact rr)
     obtain rfl := La hr
     exact AWp.ret (Le (by simp))

@[simp] noncomputable def gae.S : Sp
  | [.agg e0], _ => some { av := .lit (.string ((gae (Tv.dec e0)).getD dflt)), M := none, obl := WeakL e0 (Tv.enc (Tv.dec e0)) ∧ (gae (Tv.dec e0)).isSome = true }
  | _, _ => none

theorem gae.ok : SpecOk Tryz.prog 15 gae.S := by
 intro l M out h
 unfold gae.S at h
 split at h
 ·rename_i e0
  cases h
  refine callOk_of fun ho => ?_
  obtain ⟨ox0, hs⟩ := ho
  generalize (Tv.dec e0) = x0 at *
  obtain ⟨r, hr⟩ := so1 hs
  simp only [hr, gd1]
  have q := Lh (M := M) [] (gae.can x0 r hr) (by simp) rfl ixn
  exact callOk_conv q trivial (by simp; exact ox0) (by simp [frameOut]) (by simp [frameOut])
 ·cases h
end Go.Proofs
end

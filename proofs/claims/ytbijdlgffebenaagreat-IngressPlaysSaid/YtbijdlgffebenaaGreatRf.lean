/- That these functions compute what their plain functions do. No condition. -/
import Derived.Test.YtbijdlgffebenaaGreatM07
import Derived.Test.YtbijdlgffebenaaGreatTy
set_option maxRecDepth 100000
set_option maxHeartbeats 4000000
namespace Go.Proofs
open Go.Ab
@[simp] def gau.out (_x0 : Ts) (r : Ts) : Out := { av := .agg [.lit (.bool r.fu), .lit (.int .i64 r.fw), .lit (.int .i64 r.fj), .lit (.int .i64 r.fp), .sl (r.fv.map Tc.enc) .no, .lit (.int .i64 r.fy), .lit (.int .i64 r.fe)], M := none }
theorem gau.can (x0 : Ts) (r : Ts) (hr : gau x0 = some r) : CallOk Tryz.prog 59 [.agg [.lit (.bool x0.fu), .lit (.int .i64 x0.fw), .lit (.int .i64 x0.fj), .lit (.int .i64 x0.fp), .sl (x0.fv.map Tc.enc) .no, .lit (.int .i64 x0.fy), .lit (.int .i64 x0.fe)]] [] (gau.out x0 r) := by
 unfold gau at hr
 have hΓ := gamL_nil (P := Tryz.prog)
 refine Le Tryz.tyOk Tryz.func59 rfl (by kernel_rfl) rfl rfl (by simp) ?_
 intro _ _ _
 refine AWp.then ⟨[⟨1, none, .ptr 0 0⟩, ⟨2, none, .ptr 1 0⟩], [.blk x0.enc, .blk [.b false, .n 0, .n 0, .n 0, .sl [] .full, .n 0, .n 0]]⟩ (AWp.reg Tryz.tyOk hΓ [1, 2] [0] (by kernel_rfl) rfl (by simp)) ?_
 refine AWp.then ⟨[⟨1, none, .ptr 0 0⟩, ⟨2, none, .ptr 1 0⟩], [.blk [.b x0.fu, .n x0.fw, .n x0.fj, .n x0.fp, .sl (x0.fv.map Tc.enc) .no, .n x0.fy, .n (addI .i64 x0.fe (lenL x0.fv))], .blk [.b false, .n 0, .n 0, .n 0, .sl [] .full, .n 0, .n 0]]⟩ (AWp.reg Tryz.tyOk hΓ [] [] (by kernel_rfl) rfl (by simp)) ?_
 refine AWp.then ⟨[⟨1, none, .ptr 0 0⟩, ⟨2, none, .ptr 1 0⟩], [.blk [.b x0.fu, .n x0.fw, .n x0.fj, .n x0.fp, .sl [] .full, .n x0.fy, .n (addI .i64 x0.fe (lenL x0.fv))], .blk [.b false, .n 0, .n 0, .n 0, .sl [] .full, .n 0, .n 0]]⟩ (AWp.reg Tryz.tyOk hΓ [] [] (by kernel_rfl) rfl (by simp)) ?_
 refine AWp.then ⟨[⟨2, none, .ptr 1 0⟩], [.blk [.b x0.fu, .n x0.fw, .n x0.fj, .n x0.fp, .sl [] .full, .n x0.fy, .n (addI .i64 x0.fe (lenL x0.fv))], .blk [.b x0.fu, .n x0.fw, .n x0.fj, .n x0.fp, .sl [] .full, .n x0.fy, .n (addI .i64 x0.fe (lenL x0.fv))]]⟩ (AWp.reg Tryz.tyOk hΓ [] [1] (by kernel_rfl) rfl (by simp)) ?_
 refine AWp.ret ?_
 obtain rfl := La hr
 refine Lf ?_
 simp

@[simp] noncomputable def gau.S : Sp
 | [.agg e0], _ => (fun (y0 : Ts) => (fun (r : Ts) => some { av := .agg [.lit (.bool (r.fu)), .lit (.int .i64 (r.fw)), .lit (.int .i64 (r.fj)), .lit (.int .i64 (r.fp)), .sl ((r.fv).map Tc.enc) .no, .lit (.int .i64 (r.fy)), .lit (.int .i64 (r.fe))], M := none, obl := WeakL e0 (Ts.enc y0) ∧ (gau y0).isSome = true }) ((gau y0).getD dflt)) (Ts.dec e0)
 | _, _ => none

theorem gau.ok : SpecOk Tryz.prog 59 gau.S := by
 intro l M out h
 unfold gau.S at h
 split at h
 ·rename_i e0
  try dsimp only at h
  cases h
  refine callOk_of fun ho => ?_
  obtain ⟨ox0, hs⟩ := ho
  generalize (Ts.dec e0) = x0 at *
  obtain ⟨r, hr⟩ := Option.isSome_iff_exists.1 hs
  simp only [hr, Option.getD_some]
  have q := Lg (M := M) [] (gau.can x0 r hr) (by simp) rfl (by intro k i hk; simp at hk)
  exact callOk_conv q trivial (by simp; exact ox0) (by simp [frameOut, gau.out]) (by simp [frameOut, gau.out])
 ·cases h

@[simp] def gah.out (_x0 : List Tc) (r : Int) : Out := { av := .lit (.int .i64 r), M := none }
def gah.fin (x0 : List Tc) (r : Int) (σ : St) : Prop := finK (gah.out x0 r) [] σ.M (resA Tryz.ty σ.A σ.M Tryz.f80.results.toList)
theorem gah.can (x0 : List Tc) (r : Int) (hr : gah x0 = some r) : CallOk Tryz.prog 80 [.sl (x0.map Tc.enc) .no] [] (gah.out x0 r) := by
 unfold gah at hr
 have hΓ := gamL_nil (P := Tryz.prog)
 refine Le Tryz.tyOk Tryz.func80 rfl (by kernel_rfl) rfl rfl (by simp) ?_
 intro _ _ _
 refine AWp.then ⟨[⟨0, none, .sl (x0.map Tc.enc) .no⟩], []⟩ (AWp.reg Tryz.tyOk hΓ [] [] (by kernel_rfl) rfl (by simp)) ?_
 refine AWp.thenA [⟨3, none, .n 0⟩, ⟨0, none, .sl (x0.map Tc.enc) .no⟩] (AWp.reg Tryz.tyOk hΓ [3] [] (by kernel_rfl) rfl (by simp)) ?_
 refine AWp.seq ?_
 refine AWp.then ⟨[⟨6, none, .sl (x0.map Tc.enc) .no⟩, ⟨7, none, .n (lenL x0)⟩, ⟨8, none, .n 0⟩, ⟨3, none, .n 0⟩], []⟩ (AWp.reg Tryz.tyOk hΓ [6, 7, 8] [0] (by kernel_rfl) rfl (by simp)) ?_
 refine AWp.loopE (fun (s1 : Int × Int) (γ1 : Unit) => ⟨[⟨6, none, .sl (x0.map Tc.enc) .no⟩, ⟨7, none, .n (lenL x0)⟩, ⟨8, none, .n s1.1⟩, ⟨3, none, .n s1.2⟩], []⟩) (fun (v1 : Int) (γ1a : Unit) => ⟨[⟨3, none, .n v1⟩], []⟩) (gah.fin x0) hr () 0 (by simp) (fun s1 f γ1 hr => ?_) (fun v1 γ1a σ1 m1 hr hc => ?_) (fun _ h => h)
 ·unfold gah.loop1 at hr
  refine AWp.then ⟨[⟨9, none, .b (ltI s1.1 (lenL x0))⟩, ⟨6, none, .sl (x0.map Tc.enc) .no⟩, ⟨7, none, .n (lenL x0)⟩, ⟨8, none, .n s1.1⟩, ⟨3, none, .n s1.2⟩], []⟩ (AWp.reg Tryz.tyOk hΓ [9] [] (by kernel_rfl) rfl (by simp)) ?_
  refine AWp.seq ?_
  refine AWp.cond (b := (ltI s1.1 (lenL x0))) (by simp) (fun h3 => ?_) (fun h3 => ?_)
  ·have hr := Li h3 hr
   refine AWp.skip ?_
   refine AWp.seq ?_
   refine AWp.block ?_
   obtain ⟨h4, hr⟩ := Lc hr
   refine AWp.then ⟨[⟨5, none, .ptr 0 0⟩, ⟨6, none, .sl (x0.map Tc.enc) .no⟩, ⟨7, none, .n (lenL x0)⟩, ⟨8, none, .n s1.1⟩, ⟨3, none, .n s1.2⟩], [.blk (nthI x0 s1.1).enc]⟩ (AWp.reg Tryz.tyOk hΓ [5] [9] (by kernel_rfl) rfl (by simp [h3, h4])) ?_
   refine AWp.last ⟨[⟨3, none, .n (addI .i64 s1.2 (lenS ((nthI x0 s1.1).fU)))⟩, ⟨6, none, .sl (x0.map Tc.enc) .no⟩, ⟨7, none, .n (lenL x0)⟩, ⟨8, none, .n s1.1⟩], [.blk (nthI x0 s1.1).enc]⟩ (AWp.reg Tryz.tyOk hΓ [3] [5] (by kernel_rfl) rfl (by simp)) ?_
   refine AWp.last ⟨[⟨8, none, .n (addI .i64 s1.1 1)⟩, ⟨3, none, .n (addI .i64 s1.2 (lenS ((nthI x0 s1.1).fU)))⟩, ⟨6, none, .sl (x0.map Tc.enc) .no⟩, ⟨7, none, .n (lenL x0)⟩], [.blk (nthI x0 s1.1).enc]⟩ (AWp.reg Tryz.tyOk hΓ [8] [] (by kernel_rfl) rfl (by simp)) ?_
   obtain rfl := La hr
   exact Lq () 0 (by first | (simp; done) | simp [h3, h4])
  ·have hr := Lj h3 hr
   refine AWp.exit ?_
   obtain rfl := La hr
   exact Lo () 0 (by first | (simp; done) | simp [h3])
 ·refine AWp.conv hc ?_
  refine AWp.then ⟨[⟨2, none, .n v1⟩], []⟩ (AWp.reg Tryz.tyOk hΓ [2] [3] (by kernel_rfl) rfl (by simp)) ?_
  refine AWp.ret ?_
  obtain rfl := La hr
  refine Lf ?_
  simp

@[simp] noncomputable def gah.S : Sp
 | [.sl e0 _], _ => some { av := .lit (.int .i64 ((gah (e0.map Tc.dec)).getD dflt)), M := none, obl := e0 = (e0.map Tc.dec).map Tc.enc ∧ (gah (e0.map Tc.dec)).isSome = true }
 | _, _ => none

theorem gah.ok : SpecOk Tryz.prog 80 gah.S := by
 intro l M out h
 unfold gah.S at h
 split at h
 ·rename_i e0 k0
  cases h
  refine callOk_of fun ho => ?_
  obtain ⟨ox0, hs⟩ := ho
  generalize (e0.map Tc.dec) = x0 at *
  subst ox0
  obtain ⟨r, hr⟩ := Option.isSome_iff_exists.1 hs
  simp only [hr, Option.getD_some]
  have q := Lg (M := M) [] (gah.can x0 r hr) (by simp) rfl (by intro k i hk; simp at hk)
  exact callOk_conv q trivial (by simp) (by simp [frameOut, gah.out]) (by simp [frameOut, gah.out])
 ·cases h

@[simp] def gaF.out (_x0 : Ts) (_x1 : Tc) (r : Ts × List Tc) : Out := { av := .tup [.agg [.lit (.bool r.1.fu), .lit (.int .i64 r.1.fw), .lit (.int .i64 r.1.fj), .lit (.int .i64 r.1.fp), .sl (r.1.fv.map Tc.enc) .no, .lit (.int .i64 r.1.fy), .lit (.int .i64 r.1.fe)], .sl (r.2.map Tc.enc) .no], M := none }
def gaF.fin (x0 : Ts) (x1 : Tc) (r : Ts × List Tc) (σ : St) : Prop := finK (gaF.out x0 x1 r) [] σ.M (resA Tryz.ty σ.A σ.M Tryz.f55.results.toList)
theorem gaF.can (x0 : Ts) (x1 : Tc) (r : Ts × List Tc) (hr : gaF x0 x1 = some r) : CallOk Tryz.prog 55 [.agg [.lit (.bool x0.fu), .lit (.int .i64 x0.fw), .lit (.int .i64 x0.fj), .lit (.int .i64 x0.fp), .sl (x0.fv.map Tc.enc) .no, .lit (.int .i64 x0.fy), .lit (.int .i64 x0.fe)], .agg [.lit (.int .i64 x1.fAt), .lit (.int .i64 x1.fT), .lit (.bool x1.fC), .lit (.bool x1.fz), .lit (.bool x1.fJ), .lit (.string x1.fU), .lit (.int .i64 x1.fO)]] [] (gaF.out x0 x1 r) := by
 unfold gaF at hr
 have hΓ := (gamL_cons gah.ok (gamL_cons gau.ok (gamL_nil)) : GamOk Tryz.prog _)
 refine Le Tryz.tyOk Tryz.func55 rfl (by kernel_rfl) rfl rfl (by simp) ?_
 intro _ _ _
 refine AWp.then ⟨[⟨2, none, .ptr 0 0⟩, ⟨3, none, .ptr 1 0⟩, ⟨4, none, .ptr 2 0⟩], [.blk x0.enc, .blk x1.enc, .blk [.b false, .n 0, .n 0, .n 0, .sl [] .full, .n 0, .n 0]]⟩ (AWp.reg Tryz.tyOk hΓ [2, 3, 4] [0, 1] (by kernel_rfl) rfl (by simp)) ?_
 refine AWp.thenA [⟨6, none, .b false⟩, ⟨2, none, .ptr 0 0⟩, ⟨3, none, .ptr 1 0⟩, ⟨4, none, .ptr 2 0⟩] (AWp.reg Tryz.tyOk hΓ [6] [] (by kernel_rfl) rfl (by simp)) ?_
 refine AWp.meetF (fun (v1 : Bool) (γ1 : Unit) => ⟨[⟨6, none, .b v1⟩, ⟨2, none, .ptr 0 0⟩, ⟨3, none, .ptr 1 0⟩, ⟨4, none, .ptr 2 0⟩], [.blk x0.enc, .blk x1.enc, .blk [.b false, .n 0, .n 0, .n 0, .sl [] .full, .n 0, .n 0]]⟩) (gaF.fin x0 x1) hr (fun f hr => ?_) (fun v1 γ1 hr => ?_) (fun _ h => h)
 ·refine AWp.then ⟨[⟨12, none, .b (ltI 0 (lenL x0.fv))⟩, ⟨6, none, .b false⟩, ⟨2, none, .ptr 0 0⟩, ⟨3, none, .ptr 1 0⟩, ⟨4, none, .ptr 2 0⟩], [.blk x0.enc, .blk x1.enc, .blk [.b false, .n 0, .n 0, .n 0, .sl [] .full, .n 0, .n 0]]⟩ (AWp.reg Tryz.tyOk hΓ [12] [] (by kernel_rfl) rfl (by simp)) ?_
  refine AWp.cond (b := (ltI 0 (lenL x0.fv))) (by simp) (fun h12 => ?_) (fun h12 => ?_)
  ·have hr := Li h12 hr
   obtain ⟨h13, hr⟩ := Lc hr
   refine AWp.then ⟨[⟨7, none, .ptr 3 0⟩, ⟨2, none, .ptr 0 0⟩, ⟨3, none, .ptr 1 0⟩, ⟨4, none, .ptr 2 0⟩], [.blk x0.enc, .blk x1.enc, .blk [.b false, .n 0, .n 0, .n 0, .sl [] .full, .n 0, .n 0], .blk (nthI x0.fv (subI .i64 (lenL x0.fv) 1)).enc]⟩ (AWp.reg Tryz.tyOk hΓ [7] [12, 6] (by kernel_rfl) rfl (by simp [h12, h13])) ?_
   refine AWp.last ⟨[⟨6, none, .b (pickB (pickB (eqI x1.fAt (addI .i64 ((nthI x0.fv (subI .i64 (lenL x0.fv) 1)).fAt) 1)) (eqI x1.fT ((nthI x0.fv (subI .i64 (lenL x0.fv) 1)).fT)) false) (notB x1.fz) false)⟩, ⟨2, none, .ptr 0 0⟩, ⟨3, none, .ptr 1 0⟩, ⟨4, none, .ptr 2 0⟩], [.blk x0.enc, .blk x1.enc, .blk [.b false, .n 0, .n 0, .n 0, .sl [] .full, .n 0, .n 0], .blk (nthI x0.fv (subI .i64 (lenL x0.fv) 1)).enc]⟩ (AWp.reg Tryz.tyOk hΓ [6] [7] (by kernel_rfl) rfl (by simp)) ?_
   obtain rfl := La hr
   exact Ll () 3 (by first | (simp; done) | simp [h12, h13])
  ·have hr := Lj h12 hr
   refine AWp.skip ?_
   obtain rfl := La hr
   exact Ll () 3 (by first | (simp; done) | simp [h12])
 ·refine AWp.meetF (fun (v2 : Ts) (γ2 : Unit) => ⟨[⟨6, none, .b v1⟩, ⟨2, none, .ptr 0 0⟩, ⟨3, none, .ptr 1 0⟩, ⟨4, none, .ptr 2 0⟩], [.blk v2.enc, .blk x1.enc, .blk [.b false, .n 0, .n 0, .n 0, .sl [] .full, .n 0, .n 0]]⟩) (gaF.fin x0 x1) hr (fun f hr => ?_) (fun v2 γ2 hr => ?_) (fun _ h => h)
  ·refine AWp.then ⟨[⟨40, none, .b (notB v1)⟩, ⟨6, none, .b v1⟩, ⟨2, none, .ptr 0 0⟩, ⟨3, none, .ptr 1 0⟩, ⟨4, none, .ptr 2 0⟩], [.blk x0.enc, .blk x1.enc, .blk [.b false, .n 0, .n 0, .n 0, .sl [] .full, .n 0, .n 0]]⟩ (AWp.reg Tryz.tyOk hΓ [40] [] (by kernel_rfl) rfl (by simp)) ?_
   refine AWp.cond (b := (notB v1)) (by simp) (fun h14 => ?_) (fun h14 => ?_)
   ·have hr := Li h14 hr
    obtain ⟨r1, h15, hr⟩ := Lb hr
    refine AWp.last ⟨[⟨6, none, .b v1⟩, ⟨2, none, .ptr 0 0⟩, ⟨3, none, .ptr 1 0⟩, ⟨4, none, .ptr 2 0⟩], [.blk r1.enc, .blk x1.enc, .blk [.b false, .n 0, .n 0, .n 0, .sl [] .full, .n 0, .n 0]]⟩ (AWp.reg Tryz.tyOk hΓ [] [40] (by kernel_rfl) rfl (by simp [h14, h15])) ?_
    obtain rfl := La hr
    exact Ll () 3 (by first | (simp; done) | simp [h14, h15])
   ·have hr := Lj h14 hr
    refine AWp.skip ?_
    obtain rfl := La hr
    exact Ll () 3 (by first | (simp; done) | simp [h14])
  ·refine AWp.seq ?_
   refine AWp.then ⟨[⟨53, none, .b (pickB (pickB (notB v1) v2.fu false) (notB x1.fz) false)⟩, ⟨2, none, .ptr 0 0⟩, ⟨3, none, .ptr 1 0⟩, ⟨4, none, .ptr 2 0⟩], [.blk v2.enc, .blk x1.enc, .blk [.b false, .n 0, .n 0, .n 0, .sl [] .full, .n 0, .n 0]]⟩ (AWp.reg Tryz.tyOk hΓ [53] [6] (by kernel_rfl) rfl (by simp)) ?_
   refine AWp.cond (b := (pickB (pickB (notB v1) v2.fu false) (notB x1.fz) false)) (by simp) (fun h16 => ?_) (fun h16 => ?_)
   ·have hr := Li h16 hr
    refine AWp.then ⟨[⟨2, none, .ptr 0 0⟩, ⟨4, none, .ptr 2 0⟩], [.blk [.b v2.fu, .n v2.fw, .n v2.fj, .n v2.fp, .sl (v2.fv.map Tc.enc) .no, .n v2.fy, .n (addI .i64 v2.fe 1)], .blk x1.enc, .blk [.b false, .n 0, .n 0, .n 0, .sl [] .full, .n 0, .n 0]]⟩ (AWp.reg Tryz.tyOk hΓ [] [53, 3] (by kernel_rfl) rfl (by simp [h16])) ?_
    refine AWp.then ⟨[⟨5, none, .sl [] .full⟩, ⟨4, none, .ptr 2 0⟩], [.blk [.b v2.fu, .n v2.fw, .n v2.fj, .n v2.fp, .sl (v2.fv.map Tc.enc) .no, .n v2.fy, .n (addI .i64 v2.fe 1)], .blk x1.enc, .blk [.b v2.fu, .n v2.fw, .n v2.fj, .n v2.fp, .sl (v2.fv.map Tc.enc) .no, .n v2.fy, .n (addI .i64 v2.fe 1)]]⟩ (AWp.reg Tryz.tyOk hΓ [5] [2] (by kernel_rfl) rfl (by simp)) ?_
    refine AWp.ret ?_
    obtain rfl := La hr
    refine Lf ?_
    simp
   ·have hr := Lj h16 hr
    refine AWp.skip ?_
    obtain ⟨h17, hr⟩ := Lc hr
    obtain ⟨h18, hr⟩ := Lc hr
    refine AWp.then ⟨[⟨2, none, .ptr 0 0⟩, ⟨3, none, .ptr 1 0⟩, ⟨4, none, .ptr 2 0⟩], [.blk [.b v2.fu, .n v2.fw, .n v2.fj, .n v2.fp, .sl ((appL (appL [] v2.fv) [x1]).map Tc.enc) (.own 3 2 7), .n v2.fy, .n v2.fe], .blk x1.enc, .blk [.b false, .n 0, .n 0, .n 0, .sl [] .full, .n 0, .n 0], .room 2]⟩ (AWp.regD Tryz.mixed Tryz.tyOk hΓ [] [53] [(4, 0), (5, 0)] [(false, []), (false, []), (false, []), (true, []), (false, []), (false, []), (true, []), (false, []), (true, [])] (by kernel_rfl) rfl (by simp [h16, h17, h18])) ?_
    refine AWp.seq ?_
    obtain ⟨h19, hr⟩ := Lc hr
    refine AWp.then ⟨[⟨80, none, .b (pickB (ltI v2.fj ((lenL v2.fv) + 1)) true (ltI v2.fw ((gah (appL (appL [] v2.fv) [x1])).getD dflt)))⟩, ⟨2, none, .ptr 0 0⟩, ⟨3, none, .ptr 1 0⟩, ⟨4, none, .ptr 2 0⟩], [.blk [.b v2.fu, .n v2.fw, .n v2.fj, .n v2.fp, .sl ((appL (appL [] v2.fv) [x1]).map Tc.enc) (.own 3 2 7), .n v2.fy, .n v2.fe], .blk x1.enc, .blk [.b false, .n 0, .n 0, .n 0, .sl [] .full, .n 0, .n 0], .room 2]⟩ (AWp.regD Tryz.mixed Tryz.tyOk hΓ [80] [] [] [(false, []), (false, []), (false, []), (false, []), (false, []), (false, []), (false, []), (false, [73]), (false, [73]), (false, [73]), (false, [73]), (false, [73]), (false, [73]), (false, [])] (by kernel_rfl) rfl (by simp [h19])) ?_
    refine AWp.cond (b := (pickB (ltI v2.fj ((lenL v2.fv) + 1)) true (ltI v2.fw ((gah (appL (appL [] v2.fv) [x1])).getD dflt)))) (by simp) (fun h20 => ?_) (fun h20 => ?_)
    ·have hr := Li h20 hr
     obtain ⟨r2, h21, hr⟩ := Lb hr
     refine AWp.then ⟨[⟨5, none, .sl [] .full⟩, ⟨4, none, .ptr 2 0⟩], [.blk [.b v2.fu, .n v2.fw, .n v2.fj, .n v2.fp, .sl ((appL (appL [] v2.fv) [x1]).map Tc.enc) (.own 3 2 7), .n v2.fy, .n v2.fe], .blk x1.enc, .blk r2.enc, .room 2]⟩ (AWp.reg Tryz.tyOk hΓ [5] [80, 2, 3] (by kernel_rfl) rfl (by simp [h20, h21])) ?_
     refine AWp.ret ?_
     obtain rfl := La hr
     refine Lf ?_
     simp
    ·have hr := Lj h20 hr
     refine AWp.skip ?_
     refine AWp.seq ?_
     refine AWp.then ⟨[⟨89, none, .b (pickB v2.fu (notB x1.fC) false)⟩, ⟨2, none, .ptr 0 0⟩, ⟨4, none, .ptr 2 0⟩], [.blk [.b v2.fu, .n v2.fw, .n v2.fj, .n v2.fp, .sl ((appL (appL [] v2.fv) [x1]).map Tc.enc) (.own 3 2 7), .n v2.fy, .n v2.fe], .blk x1.enc, .blk [.b false, .n 0, .n 0, .n 0, .sl [] .full, .n 0, .n 0], .room 2]⟩ (AWp.reg Tryz.tyOk hΓ [89] [80, 3] (by kernel_rfl) rfl (by simp [h20])) ?_
     refine AWp.cond (b := (pickB v2.fu (notB x1.fC) false)) (by simp) (fun h22 => ?_) (fun h22 => ?_)
     ·have hr := Li h22 hr
      refine AWp.then ⟨[⟨5, none, .sl [] .full⟩, ⟨4, none, .ptr 2 0⟩], [.blk [.b v2.fu, .n v2.fw, .n v2.fj, .n v2.fp, .sl ((appL (appL [] v2.fv) [x1]).map Tc.enc) (.own 3 2 7), .n v2.fy, .n v2.fe], .blk x1.enc, .blk [.b v2.fu, .n v2.fw, .n v2.fj, .n v2.fp, .sl ((appL (appL [] v2.fv) [x1]).map Tc.enc) (.own 3 2 7), .n v2.fy, .n v2.fe], .room 2]⟩ (AWp.reg Tryz.tyOk hΓ [5] [89, 2] (by kernel_rfl) rfl (by simp [h22])) ?_
      refine AWp.ret ?_
      obtain rfl := La hr
      refine Lf ?_
      simp
     ·have hr := Lj h22 hr
      refine AWp.skip ?_
      refine AWp.then ⟨[⟨8, none, .sl ((appL (appL [] v2.fv) [x1]).map Tc.enc) (.own 3 2 7)⟩, ⟨2, none, .ptr 0 0⟩, ⟨4, none, .ptr 2 0⟩], [.blk [.b v2.fu, .n v2.fw, .n v2.fj, .n v2.fp, .sl ((appL (appL [] v2.fv) [x1]).map Tc.enc) (.own 3 2 7), .n v2.fy, .n v2.fe], .blk x1.enc, .blk [.b false, .n 0, .n 0, .n 0, .sl [] .full, .n 0, .n 0], .room 2]⟩ (AWp.reg Tryz.tyOk hΓ [8] [89] (by kernel_rfl) rfl (by simp [h22])) ?_
      refine AWp.then ⟨[⟨8, none, .sl ((appL (appL [] v2.fv) [x1]).map Tc.enc) (.own 3 2 7)⟩, ⟨2, none, .ptr 0 0⟩, ⟨4, none, .ptr 2 0⟩], [.blk [.b v2.fu, .n v2.fw, .n v2.fj, .n v2.fp, .sl [] .full, .n v2.fy, .n v2.fe], .blk x1.enc, .blk [.b false, .n 0, .n 0, .n 0, .sl [] .full, .n 0, .n 0], .room 2]⟩ (AWp.reg Tryz.tyOk hΓ [] [] (by kernel_rfl) rfl (by simp)) ?_
      refine AWp.then ⟨[⟨8, none, .sl ((appL (appL [] v2.fv) [x1]).map Tc.enc) (.own 3 2 7)⟩, ⟨2, none, .ptr 0 0⟩, ⟨4, none, .ptr 2 0⟩], [.blk [.b v2.fu, .n v2.fw, .n v2.fj, .n v2.fp, .sl [] .full, .n (addI .i64 v2.fy 1), .n v2.fe], .blk x1.enc, .blk [.b false, .n 0, .n 0, .n 0, .sl [] .full, .n 0, .n 0], .room 2]⟩ (AWp.reg Tryz.tyOk hΓ [] [] (by kernel_rfl) rfl (by simp)) ?_
      refine AWp.then ⟨[⟨5, none, .sl ((appL (appL [] v2.fv) [x1]).map Tc.enc) (.own 3 2 7)⟩, ⟨4, none, .ptr 2 0⟩], [.blk [.b v2.fu, .n v2.fw, .n v2.fj, .n v2.fp, .sl [] .full, .n (addI .i64 v2.fy 1), .n v2.fe], .blk x1.enc, .blk [.b v2.fu, .n v2.fw, .n v2.fj, .n v2.fp, .sl [] .full, .n (addI .i64 v2.fy 1), .n v2.fe], .room 2]⟩ (AWp.reg Tryz.tyOk hΓ [5] [8, 2] (by kernel_rfl) rfl (by simp)) ?_
      refine AWp.ret ?_
      obtain rfl := La hr
      refine Lf ?_
      simp

@[simp] noncomputable def gaF.S : Sp
 | [.agg e0, .agg e1], _ => (fun (y0 : Ts) => (fun (y1 : Tc) => (fun (r : Ts × List Tc) => some { av := .tup [.agg [.lit (.bool (r.1.fu)), .lit (.int .i64 (r.1.fw)), .lit (.int .i64 (r.1.fj)), .lit (.int .i64 (r.1.fp)), .sl ((r.1.fv).map Tc.enc) .no, .lit (.int .i64 (r.1.fy)), .lit (.int .i64 (r.1.fe))], .sl ((r.2).map Tc.enc) .no], M := none, obl := WeakL e0 (Ts.enc y0) ∧ WeakL e1 (Tc.enc y1) ∧ (gaF y0 y1).isSome = true }) ((gaF y0 y1).getD dflt)) (Tc.dec e1)) (Ts.dec e0)
 | _, _ => none

theorem gaF.ok : SpecOk Tryz.prog 55 gaF.S := by
 intro l M out h
 unfold gaF.S at h
 split at h
 ·rename_i e0 e1
  try dsimp only at h
  cases h
  refine callOk_of fun ho => ?_
  obtain ⟨ox0, ox1, hs⟩ := ho
  generalize (Ts.dec e0) = x0 at *
  generalize (Tc.dec e1) = x1 at *
  obtain ⟨r, hr⟩ := Option.isSome_iff_exists.1 hs
  simp only [hr, Option.getD_some]
  have q := Lg (M := M) [] (gaF.can x0 x1 r hr) (by simp) rfl (by intro k i hk; simp at hk)
  exact callOk_conv q trivial (by simp; exact ⟨ox0, ox1⟩) (by simp [frameOut, gaF.out]) (by simp [frameOut, gaF.out])
 ·cases h

@[simp] def gaH.out (_x0 : Ts) (_x1 : Int) (r : Ts × Bool) : Out := { av := .tup [.agg [.lit (.bool r.1.fu), .lit (.int .i64 r.1.fw), .lit (.int .i64 r.1.fj), .lit (.int .i64 r.1.fp), .sl (r.1.fv.map Tc.enc) .no, .lit (.int .i64 r.1.fy), .lit (.int .i64 r.1.fe)], .lit (.bool r.2)], M := none }
theorem gaH.can (x0 : Ts) (x1 : Int) (r : Ts × Bool) (hr : gaH x0 x1 = some r) : CallOk Tryz.prog 33 [.agg [.lit (.bool x0.fu), .lit (.int .i64 x0.fw), .lit (.int .i64 x0.fj), .lit (.int .i64 x0.fp), .sl (x0.fv.map Tc.enc) .no, .lit (.int .i64 x0.fy), .lit (.int .i64 x0.fe)], .lit (.int .i64 x1)] [] (gaH.out x0 x1 r) := by
 unfold gaH at hr
 have hΓ := (gamL_cons gau.ok (gamL_nil) : GamOk Tryz.prog _)
 refine Le Tryz.tyOk Tryz.func33 rfl (by kernel_rfl) rfl rfl (by simp) ?_
 intro _ _ _
 refine AWp.then ⟨[⟨2, none, .ptr 0 0⟩, ⟨4, none, .ptr 1 0⟩, ⟨1, none, .n x1⟩], [.blk x0.enc, .blk [.b false, .n 0, .n 0, .n 0, .sl [] .full, .n 0, .n 0]]⟩ (AWp.reg Tryz.tyOk hΓ [2, 4] [0] (by kernel_rfl) rfl (by simp)) ?_
 refine AWp.seq ?_
 obtain ⟨h4, hr⟩ := Lc hr
 refine AWp.then ⟨[⟨21, none, .b (pickB (eqI (lenL x0.fv) 0) true (ltI (subI .i64 x1 ((nthI x0.fv 0).fO)) x0.fp))⟩, ⟨2, none, .ptr 0 0⟩, ⟨4, none, .ptr 1 0⟩], [.blk x0.enc, .blk [.b false, .n 0, .n 0, .n 0, .sl [] .full, .n 0, .n 0]]⟩ (AWp.regD Tryz.mixed Tryz.tyOk hΓ [21] [1] [] [(false, []), (false, []), (false, []), (false, []), (false, []), (false, [10]), (false, [10]), (false, [10]), (false, [10]), (false, [10]), (false, [10]), (false, [10]), (false, [10]), (false, [10]), (false, [10]), (false, [])] (by kernel_rfl) rfl (by simp [h4])) ?_
 refine AWp.cond (b := (pickB (eqI (lenL x0.fv) 0) true (ltI (subI .i64 x1 ((nthI x0.fv 0).fO)) x0.fp))) (by simp) (fun h5 => ?_) (fun h5 => ?_)
 ·have hr := Li h5 hr
  refine AWp.then ⟨[⟨5, none, .b false⟩, ⟨4, none, .ptr 1 0⟩], [.blk x0.enc, .blk x0.enc]⟩ (AWp.reg Tryz.tyOk hΓ [5] [21, 2] (by kernel_rfl) rfl (by simp [h5])) ?_
  refine AWp.ret ?_
  obtain rfl := La hr
  refine Lf ?_
  simp
 ·have hr := Lj h5 hr
  refine AWp.skip ?_
  obtain ⟨r1, h6, hr⟩ := Lb hr
  refine AWp.then ⟨[⟨5, none, .b true⟩, ⟨4, none, .ptr 1 0⟩], [.blk x0.enc, .blk r1.enc]⟩ (AWp.reg Tryz.tyOk hΓ [5] [21, 2] (by kernel_rfl) rfl (by simp [h5, h6])) ?_
  refine AWp.ret ?_
  obtain rfl := La hr
  refine Lf ?_
  simp

@[simp] noncomputable def gaH.S : Sp
 | [.agg e0, .lit (.int .i64 x1)], _ => (fun (y0 : Ts) => (fun (r : Ts × Bool) => some { av := .tup [.agg [.lit (.bool (r.1.fu)), .lit (.int .i64 (r.1.fw)), .lit (.int .i64 (r.1.fj)), .lit (.int .i64 (r.1.fp)), .sl ((r.1.fv).map Tc.enc) .no, .lit (.int .i64 (r.1.fy)), .lit (.int .i64 (r.1.fe))], .lit (.bool (r.2))], M := none, obl := WeakL e0 (Ts.enc y0) ∧ (gaH y0 x1).isSome = true }) ((gaH y0 x1).getD dflt)) (Ts.dec e0)
 | _, _ => none

theorem gaH.ok : SpecOk Tryz.prog 33 gaH.S := by
 intro l M out h
 unfold gaH.S at h
 split at h
 ·rename_i e0 x1
  try dsimp only at h
  cases h
  refine callOk_of fun ho => ?_
  obtain ⟨ox0, hs⟩ := ho
  generalize (Ts.dec e0) = x0 at *
  obtain ⟨r, hr⟩ := Option.isSome_iff_exists.1 hs
  simp only [hr, Option.getD_some]
  have q := Lg (M := M) [] (gaH.can x0 x1 r hr) (by simp) rfl (by intro k i hk; simp at hk)
  exact callOk_conv q trivial (by simp; exact ox0) (by simp [frameOut, gaH.out]) (by simp [frameOut, gaH.out])
 ·cases h
end Go.Proofs

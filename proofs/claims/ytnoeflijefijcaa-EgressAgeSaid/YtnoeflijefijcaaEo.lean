/- That these functions compute what their plain functions do. No condition. -/
import Derived.Test.YtnoeflijefijcaaM04
import Derived.Test.YtnoeflijefijcaaTy
import Derived.Test.YtnoeflijefijcaaSc
import Derived.Test.YtnoeflijefijcaaQr
set_option maxRecDepth 100000
set_option maxHeartbeats 4000000
namespace Go.Proofs
open Go.Ab
@[simp] def gD.out (_x0 : Tb) (_x1 : Int) (r : Int) : Out := { av := .lit (.int .i64 r), M := none }
def gD.fin (x0 : Tb) (x1 : Int) (r : Int) (σ : St) : Prop := finK (gD.out x0 x1 r) [] σ.M (resA Try.ty σ.A σ.M Try.f45.results.toList)
theorem gD.can (x0 : Tb) (x1 : Int) (r : Int) (hr : gD x0 x1 = some r) : CallOk Try.prog 45 [.agg [.lit (.int .i64 x0.fh), .lit (.int .i64 x0.fo), .lit (.int .i64 x0.fu), .lit (.int .i64 x0.fb), .lit (.int .i64 x0.fp), .sl (x0.fL.map Tj.enc) .no, .lit (.int .i64 x0.fS.fb), .sl (x0.fS.fL.map Te.enc) .no, .lit (.int .i64 x0.fS.fAt), .lit (.bool x0.fS.ff), .lit (.int .i64 x0.fc), .lit (.int .i64 x0.fd)], .lit (.int .i64 x1)] [] (gD.out x0 x1 r) := by
 unfold gD at hr
 have hΓ := gamL_nil (P := Try.prog)
 refine Lg Try.tyOk Try.func45 rfl (by kernel_rfl) rfl rfl (by simp) ?_
 intro _ _ _
 refine Try.tg hΓ [2] [0] (by kernel_rfl) rfl (by simp; exact rr) ?_
 refine AWp.seq ?_
 refine Try.tg hΓ [8, 9, 10] [2] (by kernel_rfl) rfl (by simp; exact rr) ?_
 refine AWp.loopE (fun (s1 : Int) (γ1 : Unit) => ⟨[⟨8, none, .sl (x0.fL.map Tj.enc) .no⟩, ⟨9, none, .n (lenL x0.fL)⟩, ⟨10, none, .n s1⟩, ⟨1, none, .n x1⟩], [.blk x0.enc]⟩) (fun (v1 : Unit) (γ1a : Unit) => ⟨[], [.blk x0.enc]⟩) (gD.fin x0 x1) hr () 1 (by simp) (fun s1 f γ1 hr => ?_) (fun v1 γ1a σ1 m1 hr hc => ?_) (fun _ h => h)
 ·unfold gD.loop1 at hr
  refine Try.tg hΓ [11] [] (by kernel_rfl) rfl (by simp; exact rr) ?_
  refine AWp.seq ?_
  refine AWp.cond (b := (ltI s1 (lenL x0.fL))) (by simp) (fun h4 => ?_) (fun h4 => ?_)
  ·have hr := Li h4 hr
   refine AWp.skip ?_
   refine AWp.seq ?_
   refine AWp.block ?_
   obtain ⟨h5, hr⟩ := Lb hr
   refine Try.tg hΓ [6, 5] [11] (by kernel_rfl) rfl (by simp [h4, h5]; exact rr) ?_
   refine Try.tg hΓ [18] [6] (by kernel_rfl) rfl (by simp; exact rr) ?_
   refine AWp.cond (b := (eqI ((nthI x0.fL s1).fId) x1)) (by simp) (fun h6 => ?_) (fun h6 => ?_)
   ·have hr := Li h6 hr
    refine Try.tg hΓ [4] [18, 5, 8, 9, 10, 1] (by kernel_rfl) rfl (by simp [h6]; exact rr) ?_
    refine AWp.ret ?_
    obtain rfl := La hr
    refine round_ret ?_
    refine Lf ?_
    simp
   ·have hr := Lj h6 hr
    refine AWp.skip ?_
    refine AWp.lst (AWp.reg Try.tyOk hΓ [10] [18, 5] (by kernel_rfl) rfl (by simp [h6]; exact rr)) ?_
    obtain rfl := La hr
    exact Lm () 1 (by first | (simp; done) | simp [h4, h5, h6])
  ·have hr := Lj h4 hr
   refine AWp.exit ?_
   obtain rfl := La hr
   exact Lp () 1 (by first | (simp; done) | simp [h4])
 ·refine AWp.conv hc ?_
  refine Try.tg hΓ [4] [] (by kernel_rfl) rfl (by simp; exact rr) ?_
  refine AWp.ret ?_
  obtain rfl := La hr
  refine Lf ?_
  simp

@[simp] noncomputable def gD.S : Sp
 | [.agg e0, .lit (.int .i64 x1)], _ => some { av := .lit (.int .i64 ((gD (Tb.dec e0) x1).getD dflt)), M := none, obl := WeakL e0 (Tb.enc (Tb.dec e0)) ∧ (gD (Tb.dec e0) x1).isSome = true }
 | _, _ => none

theorem gD.ok : SpecOk Try.prog 45 gD.S := by
 intro l M out h
 unfold gD.S at h
 split at h
 ·rename_i e0 x1
  cases h
  refine callOk_of fun ho => ?_
  obtain ⟨ox0, hs⟩ := ho
  generalize (Tb.dec e0) = x0 at *
  obtain ⟨r, hr⟩ := Option.isSome_iff_exists.1 hs
  simp only [hr, Option.getD_some]
  have q := Lk (M := M) [] (gD.can x0 x1 r hr) (by simp) rfl (by intro k i hk; simp at hk)
  exact callOk_conv q trivial (by simp; exact ox0) (by simp [frameOut, gD.out]) (by simp [frameOut, gD.out])
 ·cases h

@[simp] def gai.out (_x0 : Int) (_x1 : List Ta) (r : List Tc) : Out := { av := .sl (r.map Tc.enc) .no, M := none }
def gai.fin (x0 : Int) (x1 : List Ta) (r : List Tc) (σ : St) : Prop := finK (gai.out x0 x1 r) [] σ.M (resA Try.ty σ.A σ.M Try.f48.results.toList)
theorem gai.can (x0 : Int) (x1 : List Ta) (r : List Tc) (hr : gai x0 x1 = some r) : CallOk Try.prog 48 [.lit (.int .i64 x0), .sl (x1.map Ta.enc) .no] [] (gai.out x0 x1 r) := by
 unfold gai at hr
 have hΓ := gamL_nil (P := Try.prog)
 refine Lg Try.tyOk Try.func48 rfl (by kernel_rfl) rfl rfl (by simp) ?_
 intro _ _ _
 refine Try.tg hΓ [] [] (by kernel_rfl) rfl (by simp; exact rr) ?_
 refine Try.tg hΓ [5] [] (by kernel_rfl) rfl (by simp; exact rr) ?_
 refine AWp.seq ?_
 refine Try.tg hΓ [9, 10, 11] [1] (by kernel_rfl) rfl (by simp; exact rr) ?_
 refine AWp.equip 5 5 (els := []) (by simp) (by simp) ?_
 refine AWp.loopE (fun (s1 : Int × List Tc) (γ1 : Nat) => ⟨[⟨9, none, .sl (x1.map Ta.enc) .no⟩, ⟨10, none, .n (lenL x1)⟩, ⟨11, none, .n s1.1⟩, ⟨5, none, .sl (s1.2.map Tc.enc) (.own 0 (γ1) 5)⟩, ⟨0, none, .n x0⟩], [.room (γ1)]⟩) (fun (v1 : List Tc) (γ1a : Nat) => ⟨[⟨5, none, .sl (v1.map Tc.enc) (.own 0 (γ1a) 5)⟩], [.room (γ1a)]⟩) (gai.fin x0 x1) hr 0 1 (by simp) (fun s1 f γ1 hr => ?_) (fun v1 γ1a σ1 m1 hr hc => ?_) (fun _ h => h)
 ·unfold gai.loop1 at hr
  refine Try.tg hΓ [12] [] (by kernel_rfl) rfl (by simp; exact rr) ?_
  refine AWp.seq ?_
  refine AWp.cond (b := (ltI s1.1 (lenL x1))) (by simp) (fun h4 => ?_) (fun h4 => ?_)
  ·have hr := Li h4 hr
   refine AWp.skip ?_
   refine AWp.seq ?_
   refine AWp.block ?_
   obtain ⟨h5, hr⟩ := Lb hr
   refine Try.tg hΓ [7] [12] (by kernel_rfl) rfl (by simp [h4, h5]; exact rr) ?_
   obtain ⟨h6, hr⟩ := Lb hr
   refine AWp.lst (AWp.reg Try.tyOk hΓ [5] [7] (by kernel_rfl) rfl (by simp [h6]; exact rr)) ?_
   refine AWp.lst (AWp.reg Try.tyOk hΓ [11] [] (by kernel_rfl) rfl (by simp; exact rr)) ?_
   obtain rfl := La hr
   exact Lm (γ1 + 1) 1 (by first | (simp; done) | simp [h4, h5, h6])
  ·have hr := Lj h4 hr
   refine AWp.exit ?_
   obtain rfl := La hr
   exact Lp (γ1) 1 (by first | (simp; done) | simp [h4])
 ·refine AWp.conv hc ?_
  refine Try.tg hΓ [4] [5] (by kernel_rfl) rfl (by simp; exact rr) ?_
  refine AWp.ret ?_
  obtain rfl := La hr
  refine Lf ?_
  simp

@[simp] noncomputable def gai.S : Sp
 | [.lit (.int .i64 x0), .sl e1 _], _ => some { av := .sl (((gai x0 (e1.map Ta.dec)).getD dflt).map Tc.enc) .no, M := none, obl := e1 = (e1.map Ta.dec).map Ta.enc ∧ (gai x0 (e1.map Ta.dec)).isSome = true }
 | _, _ => none

theorem gai.ok : SpecOk Try.prog 48 gai.S := by
 intro l M out h
 unfold gai.S at h
 split at h
 ·rename_i x0 e1 k1
  cases h
  refine callOk_of fun ho => ?_
  obtain ⟨ox1, hs⟩ := ho
  generalize (e1.map Ta.dec) = x1 at *
  subst ox1
  obtain ⟨r, hr⟩ := Option.isSome_iff_exists.1 hs
  simp only [hr, Option.getD_some]
  have q := Lk (M := M) [] (gai.can x0 x1 r hr) (by simp) rfl (by intro k i hk; simp at hk)
  exact callOk_conv q trivial (by simp) (by simp [frameOut, gai.out]) (by simp [frameOut, gai.out])
 ·cases h

@[simp] def gah.out (_x0 : Tb) (_x1 : Int) (_x2 : Bool) (_x3 : Int) (r : Tb × Int) : Out := { av := .tup [.agg [.lit (.int .i64 r.1.fh), .lit (.int .i64 r.1.fo), .lit (.int .i64 r.1.fu), .lit (.int .i64 r.1.fb), .lit (.int .i64 r.1.fp), .sl (r.1.fL.map Tj.enc) .no, .lit (.int .i64 r.1.fS.fb), .sl (r.1.fS.fL.map Te.enc) .no, .lit (.int .i64 r.1.fS.fAt), .lit (.bool r.1.fS.ff), .lit (.int .i64 r.1.fc), .lit (.int .i64 r.1.fd)], .lit (.int .i64 r.2)], M := none }
def gah.fin (x0 : Tb) (x1 : Int) (x2 : Bool) (x3 : Int) (r : Tb × Int) (σ : St) : Prop := finK (gah.out x0 x1 x2 x3 r) [] σ.M (resA Try.ty σ.A σ.M Try.f52.results.toList)
theorem gah.can (x0 : Tb) (x1 : Int) (x2 : Bool) (x3 : Int) (r : Tb × Int) (hr : gah x0 x1 x2 x3 = some r) : CallOk Try.prog 52 [.agg [.lit (.int .i64 x0.fh), .lit (.int .i64 x0.fo), .lit (.int .i64 x0.fu), .lit (.int .i64 x0.fb), .lit (.int .i64 x0.fp), .sl (x0.fL.map Tj.enc) .no, .lit (.int .i64 x0.fS.fb), .sl (x0.fS.fL.map Te.enc) .no, .lit (.int .i64 x0.fS.fAt), .lit (.bool x0.fS.ff), .lit (.int .i64 x0.fc), .lit (.int .i64 x0.fd)], .lit (.int .i64 x1), .lit (.bool x2), .lit (.int .i64 x3)] [] (gah.out x0 x1 x2 x3 r) := by
 unfold gah at hr
 have hΓ := (gamL_cons gal.ok (gamL_cons gD.ok (gamL_nil)) : GamOk Try.prog _)
 refine Lg Try.tyOk Try.func52 rfl (by kernel_rfl) rfl rfl (by simp) ?_
 intro _ _ _
 refine Try.tg hΓ [4, 8] [0] (by kernel_rfl) rfl (by simp; exact rr) ?_
 refine AWp.seq ?_
 obtain ⟨r1, h13, hr⟩ := Lc hr
 refine Try.tg hΓ [20] [] (by kernel_rfl) rfl (by simp [h13]; exact rr) ?_
 refine AWp.cond (b := (leqI 0 r1)) (by simp) (fun h14 => ?_) (fun h14 => ?_)
 ·have hr := Li h14 hr
  refine Try.tg hΓ [9] [20, 4, 1, 2, 3] (by kernel_rfl) rfl (by simp [h14]; exact rr) ?_
  refine AWp.ret ?_
  obtain rfl := La hr
  refine Lf ?_
  simp
 ·have hr := Lj h14 hr
  refine AWp.skip ?_
  refine AWp.meetF (fun (v1 : Tb × Bool) (γ1 : Unit) => ⟨[⟨4, none, .ptr 0 0⟩, ⟨8, none, .ptr 1 0⟩, ⟨1, none, .n x1⟩, ⟨2, none, .b v1.2⟩], [.blk v1.1.enc, .blk [.n 0, .n 0, .n 0, .n 0, .n 0, .sl [] .full, .n 0, .sl [] .full, .n 0, .b false, .n 0, .n 0]]⟩) (gah.fin x0 x1 x2 x3) hr (fun f hr => ?_) (fun v1 γ1 hr => ?_) (fun _ h => h)
  ·refine Try.tg hΓ [22] [20] (by kernel_rfl) rfl (by simp [h14]; exact rr) ?_
   refine AWp.cond (b := x2) (by simp) (fun h15 => ?_) (fun h15 => ?_)
   ·have hr := Li h15 hr
    obtain ⟨r2, h16, hr⟩ := Lc hr
    refine Try.tg hΓ [10, 11] [22, 3] (by kernel_rfl) rfl (by simp [h15, h16]; exact rr) ?_
    refine AWp.seq ?_
    refine Try.tg hΓ [32] [] (by kernel_rfl) rfl (by simp; exact rr) ?_
    refine AWp.cond (b := (neI r2.2 0)) (by simp) (fun h17 => ?_) (fun h17 => ?_)
    ·have hr := Li h17 hr
     refine Try.tg hΓ [9] [32, 10, 11, 4, 1, 2] (by kernel_rfl) rfl (by simp [h17]; exact rr) ?_
     refine AWp.ret ?_
     obtain rfl := La hr
     refine meet_ret ?_
     refine Lf ?_
     simp
    ·have hr := Lj h17 hr
     refine AWp.skip ?_
     refine AWp.lst (AWp.reg Try.tyOk hΓ [] [32, 10, 11] (by kernel_rfl) rfl (by simp [h17]; exact rr)) ?_
     obtain rfl := La hr
     exact Ls () 2 (by first | (simp; done) | simp [h13, h14, h15, h16, h17])
   ·have hr := Lj h15 hr
    refine AWp.skip ?_
    obtain rfl := La hr
    exact Ls () 2 (by first | (simp; done) | simp [h15])
  ·refine Try.tg hΓ [12] [2] (by kernel_rfl) rfl (by simp; exact rr) ?_
   refine Try.tg hΓ [13] [] (by kernel_rfl) rfl (by simp; exact rr) ?_
   refine Try.tg hΓ [14] [] (by kernel_rfl) rfl (by simp; exact rr) ?_
   refine AWp.seq ?_
   refine Try.tg hΓ [47, 48, 49] [] (by kernel_rfl) rfl (by simp; exact rr) ?_
   refine AWp.equip 13 6 (els := []) (by simp) (by simp) ?_
   refine AWp.loopE (fun (s2 : Int × Bool × List Tj) (γ2 : Nat) => ⟨[⟨47, none, .sl (v1.1.fL.map Tj.enc) .no⟩, ⟨48, none, .n (lenL v1.1.fL)⟩, ⟨49, none, .n s2.1⟩, ⟨14, none, .b s2.2.1⟩, ⟨13, none, .sl (s2.2.2.map Tj.enc) (.own 3 (γ2) 6)⟩, ⟨12, none, .ptr 2 0⟩, ⟨4, none, .ptr 0 0⟩, ⟨8, none, .ptr 1 0⟩, ⟨1, none, .n x1⟩], [.blk v1.1.enc, .blk [.n 0, .n 0, .n 0, .n 0, .n 0, .sl [] .full, .n 0, .sl [] .full, .n 0, .b false, .n 0, .n 0], .blk [.n x1, .b v1.2, .n v1.1.fh, .n v1.1.fo, .sl [] .no, .b true], .room (γ2)]⟩) (fun (v2 : Bool × List Tj) (γ2a : Nat) => ⟨[⟨14, none, .b v2.1⟩, ⟨13, none, .sl (v2.2.map Tj.enc) (.own 3 (γ2a) 6)⟩, ⟨12, none, .ptr 2 0⟩, ⟨4, none, .ptr 0 0⟩, ⟨8, none, .ptr 1 0⟩], [.blk v1.1.enc, .blk [.n 0, .n 0, .n 0, .n 0, .n 0, .sl [] .full, .n 0, .sl [] .full, .n 0, .b false, .n 0, .n 0], .blk [.n x1, .b v1.2, .n v1.1.fh, .n v1.1.fo, .sl [] .no, .b true], .room (γ2a)]⟩) (gah.fin x0 x1 x2 x3) hr 0 4 (by simp) (fun s2 f γ2 hr => ?_) (fun v2 γ2a σ1 m1 hr hc => ?_) (fun _ h => h)
   ·unfold gah.loop2 at hr
    refine Try.tg hΓ [50] [] (by kernel_rfl) rfl (by simp; exact rr) ?_
    refine AWp.seq ?_
    refine AWp.cond (b := (ltI s2.1 (lenL v1.1.fL))) (by simp) (fun h18 => ?_) (fun h18 => ?_)
    ·have hr := Li h18 hr
     refine AWp.skip ?_
     refine AWp.seq ?_
     refine AWp.block ?_
     obtain ⟨h19, hr⟩ := Lb hr
     refine Try.tg hΓ [16] [50] (by kernel_rfl) rfl (by simp [h18, h19]; exact rr) ?_
     refine AWp.meetF (fun (v3 : Bool × List Tj) (γ3 : Nat) => ⟨[⟨16, none, .ptr 4 0⟩, ⟨47, none, .sl (v1.1.fL.map Tj.enc) .no⟩, ⟨48, none, .n (lenL v1.1.fL)⟩, ⟨49, none, .n s2.1⟩, ⟨14, none, .b v3.1⟩, ⟨13, none, .sl (v3.2.map Tj.enc) (.own 3 (γ3) 6)⟩, ⟨12, none, .ptr 2 0⟩, ⟨4, none, .ptr 0 0⟩, ⟨8, none, .ptr 1 0⟩, ⟨1, none, .n x1⟩], [.blk v1.1.enc, .blk [.n 0, .n 0, .n 0, .n 0, .n 0, .sl [] .full, .n 0, .sl [] .full, .n 0, .b false, .n 0, .n 0], .blk [.n x1, .b v1.2, .n v1.1.fh, .n v1.1.fo, .sl [] .no, .b true], .room (γ3), .blk (nthI v1.1.fL s2.1).enc]⟩) (QRr (gah.fin x0 x1 x2 x3)) hr (fun f hr => ?_) (fun v3 γ3 hr => ?_) (fun _ h => QRr_ret h)
     ·refine Try.tg hΓ [60] [] (by kernel_rfl) rfl (by simp; exact rr) ?_
      refine AWp.cond (b := (pickB (notB s2.2.1) (ltI x1 ((nthI v1.1.fL s2.1).fId)) false)) (by simp) (fun h20 => ?_) (fun h20 => ?_)
      ·have hr := Li h20 hr
       obtain ⟨h21, hr⟩ := Lb hr
       refine Try.tg hΓ [13] [60, 14] (by kernel_rfl) rfl (by simp [h20, h21]; exact rr) ?_
       refine AWp.lst (AWp.reg Try.tyOk hΓ [14] [] (by kernel_rfl) rfl (by simp; exact rr)) ?_
       obtain rfl := La hr
       exact Ls (γ2 + 1) 5 (by first | (simp; done) | simp [h13, h14, h18, h19, h20, h21])
      ·have hr := Lj h20 hr
       refine AWp.skip ?_
       obtain rfl := La hr
       exact Ls (γ2) 5 (by first | (simp; done) | simp [h13, h14, h18, h19, h20])
     ·obtain ⟨h22, hr⟩ := Lb hr
      refine AWp.lst (AWp.reg Try.tyOk hΓ [13] [16] (by kernel_rfl) rfl (by simp [h22]; exact rr)) ?_
      refine AWp.lst (AWp.reg Try.tyOk hΓ [49] [] (by kernel_rfl) rfl (by simp; exact rr)) ?_
      obtain rfl := La hr
      exact Lm (γ3 + 1) 4 (by first | (simp; done) | simp [h13, h14, h18, h19, h22])
    ·have hr := Lj h18 hr
     refine AWp.exit ?_
     obtain rfl := La hr
     exact Lp (γ2) 4 (by first | (simp; done) | simp [h13, h14, h18])
   ·refine AWp.conv hc ?_
    refine AWp.meetF (fun (v4 : List Tj) (γ4 : Nat) => ⟨[⟨13, none, .sl (v4.map Tj.enc) (.own 3 (γ4) 6)⟩, ⟨4, none, .ptr 0 0⟩, ⟨8, none, .ptr 1 0⟩], [.blk v1.1.enc, .blk [.n 0, .n 0, .n 0, .n 0, .n 0, .sl [] .full, .n 0, .sl [] .full, .n 0, .b false, .n 0, .n 0], .blk [.n x1, .b v1.2, .n v1.1.fh, .n v1.1.fo, .sl [] .no, .b true], .room (γ4)]⟩) (gah.fin x0 x1 x2 x3) hr (fun f hr => ?_) (fun v4 γ4 hr => ?_) (fun _ h => h)
    ·refine Try.tg hΓ [71] [14] (by kernel_rfl) rfl (by simp; exact rr) ?_
     refine AWp.cond (b := (notB v2.1)) (by simp) (fun h23 => ?_) (fun h23 => ?_)
     ·have hr := Li h23 hr
      obtain ⟨h24, hr⟩ := Lb hr
      refine AWp.lst (AWp.reg Try.tyOk hΓ [13] [71, 12] (by kernel_rfl) rfl (by simp [h23, h24]; exact rr)) ?_
      obtain rfl := La hr
      exact Ls (γ2a + 1) 4 (by first | (simp; done) | simp [h13, h14, h23, h24])
     ·have hr := Lj h23 hr
      refine AWp.skip ?_
      obtain rfl := La hr
      exact Ls (γ2a) 4 (by first | (simp; done) | simp [h13, h14, h23])
    ·refine Try.tg hΓ [] [13] (by kernel_rfl) rfl (by simp; exact rr) ?_
     refine Try.tg hΓ [9] [4] (by kernel_rfl) rfl (by simp; exact rr) ?_
     refine AWp.ret ?_
     obtain rfl := La hr
     refine Lf ?_
     simp

@[simp] noncomputable def gah.S : Sp
 | [.agg e0, .lit (.int .i64 x1), .lit (.bool x2), .lit (.int .i64 x3)], _ => (fun (y0 : Tb) => (fun (r : Tb × Int) => some { av := .tup [.agg [.lit (.int .i64 (r.1.fh)), .lit (.int .i64 (r.1.fo)), .lit (.int .i64 (r.1.fu)), .lit (.int .i64 (r.1.fb)), .lit (.int .i64 (r.1.fp)), .sl ((r.1.fL).map Tj.enc) .no, .lit (.int .i64 (r.1.fS.fb)), .sl ((r.1.fS.fL).map Te.enc) .no, .lit (.int .i64 (r.1.fS.fAt)), .lit (.bool (r.1.fS.ff)), .lit (.int .i64 (r.1.fc)), .lit (.int .i64 (r.1.fd))], .lit (.int .i64 (r.2))], M := none, obl := WeakL e0 (Tb.enc y0) ∧ (gah y0 x1 x2 x3).isSome = true }) ((gah y0 x1 x2 x3).getD dflt)) (Tb.dec e0)
 | _, _ => none

theorem gah.ok : SpecOk Try.prog 52 gah.S := by
 intro l M out h
 unfold gah.S at h
 split at h
 ·rename_i e0 x1 x2 x3
  try dsimp only at h
  cases h
  refine callOk_of fun ho => ?_
  obtain ⟨ox0, hs⟩ := ho
  generalize (Tb.dec e0) = x0 at *
  obtain ⟨r, hr⟩ := Option.isSome_iff_exists.1 hs
  simp only [hr, Option.getD_some]
  have q := Lk (M := M) [] (gah.can x0 x1 x2 x3 r hr) (by simp) rfl (by intro k i hk; simp at hk)
  exact callOk_conv q trivial (by simp; exact ox0) (by simp [frameOut, gah.out]) (by simp [frameOut, gah.out])
 ·cases h

@[simp] def gav.out (_x0 : Tb) (_x1 : Int) (_x2 : Tn) (r : Tb) : Out := { av := .agg [.lit (.int .i64 r.fh), .lit (.int .i64 r.fo), .lit (.int .i64 r.fu), .lit (.int .i64 r.fb), .lit (.int .i64 r.fp), .sl (r.fL.map Tj.enc) .no, .lit (.int .i64 r.fS.fb), .sl (r.fS.fL.map Te.enc) .no, .lit (.int .i64 r.fS.fAt), .lit (.bool r.fS.ff), .lit (.int .i64 r.fc), .lit (.int .i64 r.fd)], M := none }
theorem gav.can (x0 : Tb) (x1 : Int) (x2 : Tn) (r : Tb) (hr : gav x0 x1 x2 = some r) : CallOk Try.prog 47 [.agg [.lit (.int .i64 x0.fh), .lit (.int .i64 x0.fo), .lit (.int .i64 x0.fu), .lit (.int .i64 x0.fb), .lit (.int .i64 x0.fp), .sl (x0.fL.map Tj.enc) .no, .lit (.int .i64 x0.fS.fb), .sl (x0.fS.fL.map Te.enc) .no, .lit (.int .i64 x0.fS.fAt), .lit (.bool x0.fS.ff), .lit (.int .i64 x0.fc), .lit (.int .i64 x0.fd)], .lit (.int .i64 x1), .agg [.lit (.int .i64 x2.fh), .lit (.int .i64 x2.fb), .sl (x2.fL.map Ta.enc) .no, .lit (.bool x2.fv)]] [] (gav.out x0 x1 x2 r) := by
 unfold gav at hr
 have hΓ := gamL_nil (P := Try.prog)
 refine Lg Try.tyOk Try.func47 rfl (by kernel_rfl) rfl rfl (by simp) ?_
 intro _ _ _
 refine Try.tg hΓ [3, 5, 6] [0, 2] (by kernel_rfl) rfl (by simp; exact rr) ?_
 refine AWp.see (See.markA (M' := [.blk x0.enc, .blk x2.enc, .blk [.n 0, .n 0, .n 0, .n 0, .n 0, .sl [] .full, .n 0, .sl [] .full, .n 0, .b false, .n 0, .n 0], .arr 0 []]) rfl) ?_
 obtain ⟨h3, hr⟩ := Lb hr
 refine Try.tg hΓ [7] [] (by kernel_rfl) rfl (by simp [h3]; exact rr) ?_
 obtain ⟨h4, hr⟩ := Lb hr
 refine Try.tg hΓ [] [5, 1] (by kernel_rfl) rfl (by simp [h4]; exact rr) ?_
 refine Try.tg hΓ [] [7] (by kernel_rfl) rfl (by simp; exact rr) ?_
 refine Try.tg hΓ [] [3] (by kernel_rfl) rfl (by simp; exact rr) ?_
 refine AWp.see (See.freeze 4 (σ' := ⟨[⟨6, none, .ptr 2 0⟩], [.blk ([.n x0.fh, .n x0.fo, .n x0.fu, .n x0.fb, .n x0.fp, .sl ((setI x0.fL x1 (Tj.mk ((nthI x0.fL x1).fId) ((nthI x0.fL x1).fq) x2)).map Tj.enc) .no] ++ x0.fS.enc ++ [.n x0.fc, .n x0.fd]), .blk x2.enc, .blk ([.n x0.fh, .n x0.fo, .n x0.fu, .n x0.fb, .n x0.fp, .sl ((setI x0.fL x1 (Tj.mk ((nthI x0.fL x1).fId) ((nthI x0.fL x1).fq) x2)).map Tj.enc) .no] ++ x0.fS.enc ++ [.n x0.fc, .n x0.fd]), .arr 0 [], .dead]⟩) (by rfl) (by simp) (by simp) (by simp)) ?_
 refine AWp.ret ?_
 obtain rfl := La hr
 refine Lf ?_
 simp

@[simp] noncomputable def gav.S : Sp
 | [.agg e0, .lit (.int .i64 x1), .agg e2], _ => (fun (y0 : Tb) => (fun (y1 : Tn) => (fun (r : Tb) => some { av := .agg [.lit (.int .i64 (r.fh)), .lit (.int .i64 (r.fo)), .lit (.int .i64 (r.fu)), .lit (.int .i64 (r.fb)), .lit (.int .i64 (r.fp)), .sl ((r.fL).map Tj.enc) .no, .lit (.int .i64 (r.fS.fb)), .sl ((r.fS.fL).map Te.enc) .no, .lit (.int .i64 (r.fS.fAt)), .lit (.bool (r.fS.ff)), .lit (.int .i64 (r.fc)), .lit (.int .i64 (r.fd))], M := none, obl := WeakL e0 (Tb.enc y0) ∧ WeakL e2 (Tn.enc y1) ∧ (gav y0 x1 y1).isSome = true }) ((gav y0 x1 y1).getD dflt)) (Tn.dec e2)) (Tb.dec e0)
 | _, _ => none

theorem gav.ok : SpecOk Try.prog 47 gav.S := by
 intro l M out h
 unfold gav.S at h
 split at h
 ·rename_i e0 x1 e2
  try dsimp only at h
  cases h
  refine callOk_of fun ho => ?_
  obtain ⟨ox0, ox2, hs⟩ := ho
  generalize (Tb.dec e0) = x0 at *
  generalize (Tn.dec e2) = x2 at *
  obtain ⟨r, hr⟩ := Option.isSome_iff_exists.1 hs
  simp only [hr, Option.getD_some]
  have q := Lk (M := M) [] (gav.can x0 x1 x2 r hr) (by simp) rfl (by intro k i hk; simp at hk)
  exact callOk_conv q trivial (by simp; exact ⟨ox0, ox2⟩) (by simp [frameOut, gav.out]) (by simp [frameOut, gav.out])
 ·cases h

@[simp] def gau.out (_x0 : Tb) (_x1 : Int) (r : Tb × List Tc × Int) : Out := { av := .tup [.agg [.lit (.int .i64 r.1.fh), .lit (.int .i64 r.1.fo), .lit (.int .i64 r.1.fu), .lit (.int .i64 r.1.fb), .lit (.int .i64 r.1.fp), .sl (r.1.fL.map Tj.enc) .no, .lit (.int .i64 r.1.fS.fb), .sl (r.1.fS.fL.map Te.enc) .no, .lit (.int .i64 r.1.fS.fAt), .lit (.bool r.1.fS.ff), .lit (.int .i64 r.1.fc), .lit (.int .i64 r.1.fd)], .sl (r.2.1.map Tc.enc) .no, .lit (.int .i64 r.2.2)], M := none }
theorem gau.can (x0 : Tb) (x1 : Int) (r : Tb × List Tc × Int) (hr : gau x0 x1 = some r) : CallOk Try.prog 54 [.agg [.lit (.int .i64 x0.fh), .lit (.int .i64 x0.fo), .lit (.int .i64 x0.fu), .lit (.int .i64 x0.fb), .lit (.int .i64 x0.fp), .sl (x0.fL.map Tj.enc) .no, .lit (.int .i64 x0.fS.fb), .sl (x0.fS.fL.map Te.enc) .no, .lit (.int .i64 x0.fS.fAt), .lit (.bool x0.fS.ff), .lit (.int .i64 x0.fc), .lit (.int .i64 x0.fd)], .lit (.int .i64 x1)] [] (gau.out x0 x1 r) := by
 unfold gau at hr
 have hΓ := (gamL_cons gaf.ok (gamL_cons gai.ok (gamL_cons gD.ok (gamL_nil))) : GamOk Try.prog _)
 refine Lg Try.tyOk Try.func54 rfl (by kernel_rfl) rfl rfl (by simp) ?_
 intro _ _ _
 refine Try.tg hΓ [2, 4] [0] (by kernel_rfl) rfl (by simp; exact rr) ?_
 obtain ⟨r1, h10, hr⟩ := Lc hr
 refine Try.tg hΓ [7] [] (by kernel_rfl) rfl (by simp [h10]; exact rr) ?_
 refine AWp.seq ?_
 refine Try.tg hΓ [15] [] (by kernel_rfl) rfl (by simp; exact rr) ?_
 refine AWp.cond (b := (ltI r1 0)) (by simp) (fun h11 => ?_) (fun h11 => ?_)
 ·have hr := Li h11 hr
  refine Try.tg hΓ [5, 6] [15, 7, 2, 1] (by kernel_rfl) rfl (by simp [h11]; exact rr) ?_
  refine AWp.ret ?_
  obtain rfl := La hr
  refine Lf ?_
  simp
 ·have hr := Lj h11 hr
  refine AWp.skip ?_
  obtain ⟨h12, hr⟩ := Lb hr
  refine Try.tg hΓ [8] [15] (by kernel_rfl) rfl (by simp [h11, h12]; exact rr) ?_
  obtain ⟨r2, h13, hr⟩ := Lc hr
  refine Try.tg hΓ [9] [] (by kernel_rfl) rfl (by simp [h13]; exact rr) ?_
  refine Try.tg hΓ [] [9] (by kernel_rfl) rfl (by simp; exact rr) ?_
  obtain ⟨h14, hr⟩ := Lb hr
  obtain ⟨h15, hr⟩ := Lb hr
  obtain ⟨h16, hr⟩ := Lb hr
  obtain ⟨h17, hr⟩ := Lb hr
  refine Try.td hΓ [] [7] [(6, 0), (7, 0), (8, 0), (9, 0), (10, 0)] [(false, []), (false, []), (false, []), (false, []), (false, []), (true, []), (false, []), (false, []), (false, []), (false, []), (false, []), (true, []), (false, []), (true, [])] (by kernel_rfl) rfl (by simp [h14, h15, h16, h17]; exact rr) ?_
  obtain ⟨r3, h18, hr⟩ := Lc hr
  refine Try.td hΓ [5, 6] [8, 2, 1] [] [(false, []), (false, []), (false, []), (false, []), (false, []), (false, []), (true, []), (false, []), (false, [])] (by kernel_rfl) rfl (by simp [h18]; exact rr) ?_
  refine AWp.ret ?_
  obtain rfl := La hr
  refine Lf ?_
  simp

@[simp] noncomputable def gau.S : Sp
 | [.agg e0, .lit (.int .i64 x1)], _ => (fun (y0 : Tb) => (fun (r : Tb × List Tc × Int) => some { av := .tup [.agg [.lit (.int .i64 (r.1.fh)), .lit (.int .i64 (r.1.fo)), .lit (.int .i64 (r.1.fu)), .lit (.int .i64 (r.1.fb)), .lit (.int .i64 (r.1.fp)), .sl ((r.1.fL).map Tj.enc) .no, .lit (.int .i64 (r.1.fS.fb)), .sl ((r.1.fS.fL).map Te.enc) .no, .lit (.int .i64 (r.1.fS.fAt)), .lit (.bool (r.1.fS.ff)), .lit (.int .i64 (r.1.fc)), .lit (.int .i64 (r.1.fd))], .sl ((r.2.1).map Tc.enc) .no, .lit (.int .i64 (r.2.2))], M := none, obl := WeakL e0 (Tb.enc y0) ∧ (gau y0 x1).isSome = true }) ((gau y0 x1).getD dflt)) (Tb.dec e0)
 | _, _ => none

theorem gau.ok : SpecOk Try.prog 54 gau.S := by
 intro l M out h
 unfold gau.S at h
 split at h
 ·rename_i e0 x1
  try dsimp only at h
  cases h
  refine callOk_of fun ho => ?_
  obtain ⟨ox0, hs⟩ := ho
  generalize (Tb.dec e0) = x0 at *
  obtain ⟨r, hr⟩ := Option.isSome_iff_exists.1 hs
  simp only [hr, Option.getD_some]
  have q := Lk (M := M) [] (gau.can x0 x1 r hr) (by simp) rfl (by intro k i hk; simp at hk)
  exact callOk_conv q trivial (by simp; exact ox0) (by simp [frameOut, gau.out]) (by simp [frameOut, gau.out])
 ·cases h

@[simp] def gay.out (_x0 : Tb) (_x1 : Int) (r : Tb × List Tc) : Out := { av := .tup [.agg [.lit (.int .i64 r.1.fh), .lit (.int .i64 r.1.fo), .lit (.int .i64 r.1.fu), .lit (.int .i64 r.1.fb), .lit (.int .i64 r.1.fp), .sl (r.1.fL.map Tj.enc) .no, .lit (.int .i64 r.1.fS.fb), .sl (r.1.fS.fL.map Te.enc) .no, .lit (.int .i64 r.1.fS.fAt), .lit (.bool r.1.fS.ff), .lit (.int .i64 r.1.fc), .lit (.int .i64 r.1.fd)], .sl (r.2.map Tc.enc) .no], M := none }
theorem gay.can (x0 : Tb) (x1 : Int) (r : Tb × List Tc) (hr : gay x0 x1 = some r) : CallOk Try.prog 56 [.agg [.lit (.int .i64 x0.fh), .lit (.int .i64 x0.fo), .lit (.int .i64 x0.fu), .lit (.int .i64 x0.fb), .lit (.int .i64 x0.fp), .sl (x0.fL.map Tj.enc) .no, .lit (.int .i64 x0.fS.fb), .sl (x0.fS.fL.map Te.enc) .no, .lit (.int .i64 x0.fS.fAt), .lit (.bool x0.fS.ff), .lit (.int .i64 x0.fc), .lit (.int .i64 x0.fd)], .lit (.int .i64 x1)] [] (gay.out x0 x1 r) := by
 unfold gay at hr
 have hΓ := (gamL_cons gai.ok (gamL_cons gD.ok (gamL_cons gav.ok (gamL_nil))) : GamOk Try.prog _)
 refine Lg Try.tyOk Try.func56 rfl (by kernel_rfl) rfl rfl (by simp) ?_
 intro _ _ _
 refine Try.tg hΓ [2, 4] [0] (by kernel_rfl) rfl (by simp; exact rr) ?_
 obtain ⟨r1, h6, hr⟩ := Lc hr
 refine Try.tg hΓ [6] [] (by kernel_rfl) rfl (by simp [h6]; exact rr) ?_
 refine AWp.seq ?_
 refine Try.tg hΓ [13] [] (by kernel_rfl) rfl (by simp; exact rr) ?_
 refine AWp.cond (b := (ltI r1 0)) (by simp) (fun h7 => ?_) (fun h7 => ?_)
 ·have hr := Li h7 hr
  refine Try.tg hΓ [5] [13, 6, 2, 1] (by kernel_rfl) rfl (by simp [h7]; exact rr) ?_
  refine AWp.ret ?_
  obtain rfl := La hr
  refine Lf ?_
  simp
 ·have hr := Lj h7 hr
  refine AWp.skip ?_
  obtain ⟨h8, hr⟩ := Lb hr
  refine Try.tg hΓ [7] [13] (by kernel_rfl) rfl (by simp [h7, h8]; exact rr) ?_
  obtain ⟨r2, h9, hr⟩ := Lc hr
  refine Try.tg hΓ [8] [1] (by kernel_rfl) rfl (by simp [h9]; exact rr) ?_
  refine Try.tg hΓ [] [] (by kernel_rfl) rfl (by simp; exact rr) ?_
  refine Try.tg hΓ [] [] (by kernel_rfl) rfl (by simp; exact rr) ?_
  obtain ⟨r3, h10, hr⟩ := Lc hr
  refine Try.tg hΓ [5] [8, 7, 6, 2] (by kernel_rfl) rfl (by simp [h10]; exact rr) ?_
  refine AWp.ret ?_
  obtain rfl := La hr
  refine Lf ?_
  simp

@[simp] noncomputable def gay.S : Sp
 | [.agg e0, .lit (.int .i64 x1)], _ => (fun (y0 : Tb) => (fun (r : Tb × List Tc) => some { av := .tup [.agg [.lit (.int .i64 (r.1.fh)), .lit (.int .i64 (r.1.fo)), .lit (.int .i64 (r.1.fu)), .lit (.int .i64 (r.1.fb)), .lit (.int .i64 (r.1.fp)), .sl ((r.1.fL).map Tj.enc) .no, .lit (.int .i64 (r.1.fS.fb)), .sl ((r.1.fS.fL).map Te.enc) .no, .lit (.int .i64 (r.1.fS.fAt)), .lit (.bool (r.1.fS.ff)), .lit (.int .i64 (r.1.fc)), .lit (.int .i64 (r.1.fd))], .sl ((r.2).map Tc.enc) .no], M := none, obl := WeakL e0 (Tb.enc y0) ∧ (gay y0 x1).isSome = true }) ((gay y0 x1).getD dflt)) (Tb.dec e0)
 | _, _ => none

theorem gay.ok : SpecOk Try.prog 56 gay.S := by
 intro l M out h
 unfold gay.S at h
 split at h
 ·rename_i e0 x1
  try dsimp only at h
  cases h
  refine callOk_of fun ho => ?_
  obtain ⟨ox0, hs⟩ := ho
  generalize (Tb.dec e0) = x0 at *
  obtain ⟨r, hr⟩ := Option.isSome_iff_exists.1 hs
  simp only [hr, Option.getD_some]
  have q := Lk (M := M) [] (gay.can x0 x1 r hr) (by simp) rfl (by intro k i hk; simp at hk)
  exact callOk_conv q trivial (by simp; exact ox0) (by simp [frameOut, gay.out]) (by simp [frameOut, gay.out])
 ·cases h

@[simp] def gaB.out (_x0 : Tb) (_x1 : Int) (_x2 : Ta) (r : Tb × List Tc × Bool) : Out := { av := .tup [.agg [.lit (.int .i64 r.1.fh), .lit (.int .i64 r.1.fo), .lit (.int .i64 r.1.fu), .lit (.int .i64 r.1.fb), .lit (.int .i64 r.1.fp), .sl (r.1.fL.map Tj.enc) .no, .lit (.int .i64 r.1.fS.fb), .sl (r.1.fS.fL.map Te.enc) .no, .lit (.int .i64 r.1.fS.fAt), .lit (.bool r.1.fS.ff), .lit (.int .i64 r.1.fc), .lit (.int .i64 r.1.fd)], .sl (r.2.1.map Tc.enc) .no, .lit (.bool r.2.2)], M := none }
theorem gaB.can (x0 : Tb) (x1 : Int) (x2 : Ta) (r : Tb × List Tc × Bool) (hr : gaB x0 x1 x2 = some r) : CallOk Try.prog 28 [.agg [.lit (.int .i64 x0.fh), .lit (.int .i64 x0.fo), .lit (.int .i64 x0.fu), .lit (.int .i64 x0.fb), .lit (.int .i64 x0.fp), .sl (x0.fL.map Tj.enc) .no, .lit (.int .i64 x0.fS.fb), .sl (x0.fS.fL.map Te.enc) .no, .lit (.int .i64 x0.fS.fAt), .lit (.bool x0.fS.ff), .lit (.int .i64 x0.fc), .lit (.int .i64 x0.fd)], .lit (.int .i64 x1), .agg [.lit (.int .i64 x2.fN), .lit (.int .i64 x2.fm), .lit (.int .i64 x2.fy), .lit (.bool x2.fz)]] [] (gaB.out x0 x1 x2 r) := by
 unfold gaB at hr
 have hΓ := (gamL_cons gX.ok (gamL_cons gai.ok (gamL_cons gD.ok (gamL_cons gav.ok (gamL_nil)))) : GamOk Try.prog _)
 refine Lg Try.tyOk Try.func28 rfl (by kernel_rfl) rfl rfl (by simp) ?_
 intro _ _ _
 refine Try.tg hΓ [3, 5, 6] [0, 2] (by kernel_rfl) rfl (by simp; exact rr) ?_
 obtain ⟨r1, h8, hr⟩ := Lc hr
 refine Try.tg hΓ [9] [] (by kernel_rfl) rfl (by simp [h8]; exact rr) ?_
 refine AWp.seq ?_
 refine Try.tg hΓ [24] [] (by kernel_rfl) rfl (by simp; exact rr) ?_
 refine AWp.cond (b := (pickB (ltI r1 0) true (ltI x0.fb x2.fm))) (by simp) (fun h9 => ?_) (fun h9 => ?_)
 ·have hr := Li h9 hr
  refine Try.tg hΓ [7, 8] [24, 9, 3, 5, 1] (by kernel_rfl) rfl (by simp [h9]; exact rr) ?_
  refine AWp.ret ?_
  obtain rfl := La hr
  refine Lf ?_
  simp
 ·have hr := Lj h9 hr
  refine AWp.skip ?_
  obtain ⟨h10, hr⟩ := Lb hr
  refine Try.tg hΓ [] [24] (by kernel_rfl) rfl (by simp [h9, h10]; exact rr) ?_
  obtain ⟨h11, hr⟩ := Lb hr
  obtain ⟨r2, h12, hr⟩ := Lc hr
  refine Try.td hΓ [10, 11, 12] [5] [(0, 13), (1, 13), (2, 13), (3, 13), (4, 13), (5, 13), (6, 13), (7, 13), (8, 13), (9, 13), (10, 13), (10, 14), (11, 13), (11, 14)] [(false, []), (false, []), (false, []), (false, []), (false, []), (false, []), (false, []), (false, []), (false, []), (false, []), (false, []), (false, []), (true, []), (true, []), (false, []), (false, [])] (by kernel_rfl) rfl (by simp [h11, h12]; exact rr) ?_
  obtain ⟨r3, h13, hr⟩ := Lc hr
  obtain ⟨r4, h14, hr⟩ := Lc hr
  refine Try.tg hΓ [7, 8] [10, 11, 12, 9, 3, 1] (by kernel_rfl) rfl (by simp [h13, h14]; exact rr) ?_
  refine AWp.ret ?_
  obtain rfl := La hr
  refine Lf ?_
  simp

@[simp] noncomputable def gaB.S : Sp
 | [.agg e0, .lit (.int .i64 x1), .agg e2], _ => (fun (y0 : Tb) => (fun (y1 : Ta) => (fun (r : Tb × List Tc × Bool) => some { av := .tup [.agg [.lit (.int .i64 (r.1.fh)), .lit (.int .i64 (r.1.fo)), .lit (.int .i64 (r.1.fu)), .lit (.int .i64 (r.1.fb)), .lit (.int .i64 (r.1.fp)), .sl ((r.1.fL).map Tj.enc) .no, .lit (.int .i64 (r.1.fS.fb)), .sl ((r.1.fS.fL).map Te.enc) .no, .lit (.int .i64 (r.1.fS.fAt)), .lit (.bool (r.1.fS.ff)), .lit (.int .i64 (r.1.fc)), .lit (.int .i64 (r.1.fd))], .sl ((r.2.1).map Tc.enc) .no, .lit (.bool (r.2.2))], M := none, obl := WeakL e0 (Tb.enc y0) ∧ WeakL e2 (Ta.enc y1) ∧ (gaB y0 x1 y1).isSome = true }) ((gaB y0 x1 y1).getD dflt)) (Ta.dec e2)) (Tb.dec e0)
 | _, _ => none

theorem gaB.ok : SpecOk Try.prog 28 gaB.S := by
 intro l M out h
 unfold gaB.S at h
 split at h
 ·rename_i e0 x1 e2
  try dsimp only at h
  cases h
  refine callOk_of fun ho => ?_
  obtain ⟨ox0, ox2, hs⟩ := ho
  generalize (Tb.dec e0) = x0 at *
  generalize (Ta.dec e2) = x2 at *
  obtain ⟨r, hr⟩ := Option.isSome_iff_exists.1 hs
  simp only [hr, Option.getD_some]
  have q := Lk (M := M) [] (gaB.can x0 x1 x2 r hr) (by simp) rfl (by intro k i hk; simp at hk)
  exact callOk_conv q trivial (by simp; exact ⟨ox0, ox2⟩) (by simp [frameOut, gaB.out]) (by simp [frameOut, gaB.out])
 ·cases h

@[simp] def gA.out (_x0 : Tb) (r : Tb × Int) : Out := { av := .tup [.agg [.lit (.int .i64 r.1.fh), .lit (.int .i64 r.1.fo), .lit (.int .i64 r.1.fu), .lit (.int .i64 r.1.fb), .lit (.int .i64 r.1.fp), .sl (r.1.fL.map Tj.enc) .no, .lit (.int .i64 r.1.fS.fb), .sl (r.1.fS.fL.map Te.enc) .no, .lit (.int .i64 r.1.fS.fAt), .lit (.bool r.1.fS.ff), .lit (.int .i64 r.1.fc), .lit (.int .i64 r.1.fd)], .lit (.int .i64 r.2)], M := none }
def gA.fin (x0 : Tb) (r : Tb × Int) (σ : St) : Prop := finK (gA.out x0 r) [] σ.M (resA Try.ty σ.A σ.M Try.f49.results.toList)
theorem gA.can (x0 : Tb) (r : Tb × Int) (hr : gA x0 = some r) : CallOk Try.prog 49 [.agg [.lit (.int .i64 x0.fh), .lit (.int .i64 x0.fo), .lit (.int .i64 x0.fu), .lit (.int .i64 x0.fb), .lit (.int .i64 x0.fp), .sl (x0.fL.map Tj.enc) .no, .lit (.int .i64 x0.fS.fb), .sl (x0.fS.fL.map Te.enc) .no, .lit (.int .i64 x0.fS.fAt), .lit (.bool x0.fS.ff), .lit (.int .i64 x0.fc), .lit (.int .i64 x0.fd)]] [] (gA.out x0 r) := by
 unfold gA at hr
 have hΓ := (gamL_cons gh.ok (gamL_cons gD.ok (gamL_nil)) : GamOk Try.prog _)
 refine Lg Try.tyOk Try.func49 rfl (by kernel_rfl) rfl rfl (by simp) ?_
 intro _ _ _
 refine Try.tg hΓ [1, 2] [0] (by kernel_rfl) rfl (by simp; exact rr) ?_
 refine Try.tg hΓ [4] [] (by kernel_rfl) rfl (by simp; exact rr) ?_
 refine Try.tg hΓ [5] [] (by kernel_rfl) rfl (by simp; exact rr) ?_
 refine AWp.seq ?_
 refine Try.tg hΓ [13, 14, 15] [] (by kernel_rfl) rfl (by simp; exact rr) ?_
 refine AWp.equip 5 2 (els := []) (by simp) (by simp) ?_
 refine AWp.loopE (fun (s1 : Int × List Tk × Int) (γ1 : Nat) => ⟨[⟨13, none, .sl (x0.fL.map Tj.enc) .no⟩, ⟨14, none, .n (lenL x0.fL)⟩, ⟨15, none, .n s1.1⟩, ⟨5, none, .sl (s1.2.1.map Tk.enc) (.own 2 (γ1) 2)⟩, ⟨4, none, .n s1.2.2⟩, ⟨1, none, .ptr 0 0⟩, ⟨2, none, .ptr 1 0⟩], [.blk x0.enc, .blk [.n 0, .n 0, .n 0, .n 0, .n 0, .sl [] .full, .n 0, .sl [] .full, .n 0, .b false, .n 0, .n 0], .room (γ1)]⟩) (fun (v1 : List Tk × Int) (γ1a : Nat) => ⟨[⟨5, none, .sl (v1.1.map Tk.enc) (.own 2 (γ1a) 2)⟩, ⟨4, none, .n v1.2⟩, ⟨1, none, .ptr 0 0⟩, ⟨2, none, .ptr 1 0⟩], [.blk x0.enc, .blk [.n 0, .n 0, .n 0, .n 0, .n 0, .sl [] .full, .n 0, .sl [] .full, .n 0, .b false, .n 0, .n 0], .room (γ1a)]⟩) (gA.fin x0) hr 0 3 (by simp) (fun s1 f γ1 hr => ?_) (fun v1 γ1a σ1 m1 hr hc => ?_) (fun _ h => h)
 ·unfold gA.loop1 at hr
  refine Try.tg hΓ [16] [] (by kernel_rfl) rfl (by simp; exact rr) ?_
  refine AWp.seq ?_
  refine AWp.cond (b := (ltI s1.1 (lenL x0.fL))) (by simp) (fun h15 => ?_) (fun h15 => ?_)
  ·have hr := Li h15 hr
   refine AWp.skip ?_
   refine AWp.seq ?_
   refine AWp.block ?_
   obtain ⟨h16, hr⟩ := Lb hr
   refine Try.tg hΓ [7, 6] [16] (by kernel_rfl) rfl (by simp [h15, h16]; exact rr) ?_
   refine AWp.seq ?_
   refine Try.tg hΓ [24] [] (by kernel_rfl) rfl (by simp; exact rr) ?_
   refine AWp.cond (b := (eqI (lenL ((nthI x0.fL s1.1).fQ.fL)) 0)) (by simp) (fun h17 => ?_) (fun h17 => ?_)
   ·have hr := Li h17 hr
    refine AWp.exit ?_
    refine blockS_same ?_
    refine AWp.lst (AWp.reg Try.tyOk hΓ [15] [24, 7, 6] (by kernel_rfl) rfl (by simp [h17]; exact rr)) ?_
    obtain rfl := La hr
    exact Lm (γ1) 3 (by first | (simp; done) | simp [h15, h16, h17])
   ·have hr := Lj h17 hr
    refine AWp.skip ?_
    refine Try.tg hΓ [26] [24] (by kernel_rfl) rfl (by simp [h17]; exact rr) ?_
    refine AWp.cond (b := (nthI x0.fL s1.1).fq) (by simp) (fun h18 => ?_) (fun h18 => ?_)
    ·have hr := Li h18 hr
     obtain ⟨h19, hr⟩ := Lb hr
     obtain ⟨h20, hr⟩ := Lb hr
     refine AWp.lst (AWp.regD Try.mixed Try.tyOk hΓ [5] [26, 7, 6] [] [(false, []), (false, []), (false, []), (false, []), (false, []), (false, []), (false, []), (false, []), (false, []), (false, []), (false, []), (true, []), (false, [])] (by kernel_rfl) rfl (by simp [h18, h19, h20]; exact rr)) ?_
     refine AWp.lst (AWp.reg Try.tyOk hΓ [15] [] (by kernel_rfl) rfl (by simp; exact rr)) ?_
     obtain rfl := La hr
     exact Lm (γ1 + 1) 3 (by first | (simp; done) | simp [h15, h16, h17, h18, h19, h20])
    ·have hr := Lj h18 hr
     obtain ⟨h21, hr⟩ := Lb hr
     obtain ⟨h22, hr⟩ := Lb hr
     obtain ⟨h23, hr⟩ := Lb hr
     refine Try.td hΓ [59] [26, 7] [] [(false, []), (false, []), (false, []), (false, [41]), (false, [41]), (false, [41]), (false, [41]), (false, [41]), (false, [41]), (false, [41]), (false, [41]), (false, [41]), (false, [41]), (false, [41]), (false, [41]), (false, [41]), (false, [41]), (false, [41]), (false, [41]), (false, [41]), (false, [])] (by kernel_rfl) rfl (by simp [h18, h21, h22, h23]; exact rr) ?_
     refine AWp.cond (b := (pickB (ltI s1.2.2 0) true (ltI ((nthI ((nthI x0.fL s1.1).fQ.fL) 0).fy) ((nthI ((nthI x0.fL s1.2.2).fQ.fL) 0).fy)))) (by simp) (fun h24 => ?_) (fun h24 => ?_)
     ·have hr := Li h24 hr
      refine AWp.lst (AWp.reg Try.tyOk hΓ [4] [59, 6] (by kernel_rfl) rfl (by simp [h24]; exact rr)) ?_
      refine AWp.lst (AWp.reg Try.tyOk hΓ [15] [] (by kernel_rfl) rfl (by simp; exact rr)) ?_
      obtain rfl := La hr
      exact Lm (γ1) 3 (by first | (simp; done) | simp [h15, h16, h17, h18, h21, h22, h23, h24])
     ·have hr := Lj h24 hr
      refine AWp.skip ?_
      refine AWp.lst (AWp.reg Try.tyOk hΓ [15] [59, 6] (by kernel_rfl) rfl (by simp [h24]; exact rr)) ?_
      obtain rfl := La hr
      exact Lm (γ1) 3 (by first | (simp; done) | simp [h15, h16, h17, h18, h21, h22, h23, h24])
  ·have hr := Lj h15 hr
   refine AWp.exit ?_
   obtain rfl := La hr
   exact Lp (γ1) 3 (by first | (simp; done) | simp [h15])
 ·refine AWp.conv hc ?_
  refine AWp.seq ?_
  refine Try.tg hΓ [75] [] (by kernel_rfl) rfl (by simp; exact rr) ?_
  refine AWp.cond (b := (pickB (leqI 0 v1.2) (pickB (ltI x0.fd x0.fp) true (eqI (lenL v1.1) 0)) false)) (by simp) (fun h25 => ?_) (fun h25 => ?_)
  ·have hr := Li h25 hr
   refine Try.tg hΓ [3] [75, 5, 4, 1] (by kernel_rfl) rfl (by simp [h25]; exact rr) ?_
   refine AWp.ret ?_
   obtain rfl := La hr
   refine Lf ?_
   simp
  ·have hr := Lj h25 hr
   refine AWp.skip ?_
   obtain ⟨r1, h26, hr⟩ := Lc hr
   refine Try.tg hΓ [8, 9, 10] [75, 5, 4] (by kernel_rfl) rfl (by simp [h25, h26]; exact rr) ?_
   refine Try.tg hΓ [] [8] (by kernel_rfl) rfl (by simp; exact rr) ?_
   refine AWp.seq ?_
   refine Try.tg hΓ [89] [10] (by kernel_rfl) rfl (by simp; exact rr) ?_
   refine AWp.cond (b := (notB r1.2.2)) (by simp) (fun h27 => ?_) (fun h27 => ?_)
   ·have hr := Li h27 hr
    refine Try.tg hΓ [3] [89, 9, 1] (by kernel_rfl) rfl (by simp [h27]; exact rr) ?_
    refine AWp.ret ?_
    obtain rfl := La hr
    refine Lf ?_
    simp
   ·have hr := Lj h27 hr
    refine AWp.skip ?_
    obtain ⟨r2, h28, hr⟩ := Lc hr
    refine Try.td hΓ [3] [89, 9, 1] [] [(false, []), (false, []), (false, []), (false, []), (true, []), (false, [])] (by kernel_rfl) rfl (by simp [h27, h28]; exact rr) ?_
    refine AWp.ret ?_
    obtain rfl := La hr
    refine Lf ?_
    simp

@[simp] noncomputable def gA.S : Sp
 | [.agg e0], _ => (fun (y0 : Tb) => (fun (r : Tb × Int) => some { av := .tup [.agg [.lit (.int .i64 (r.1.fh)), .lit (.int .i64 (r.1.fo)), .lit (.int .i64 (r.1.fu)), .lit (.int .i64 (r.1.fb)), .lit (.int .i64 (r.1.fp)), .sl ((r.1.fL).map Tj.enc) .no, .lit (.int .i64 (r.1.fS.fb)), .sl ((r.1.fS.fL).map Te.enc) .no, .lit (.int .i64 (r.1.fS.fAt)), .lit (.bool (r.1.fS.ff)), .lit (.int .i64 (r.1.fc)), .lit (.int .i64 (r.1.fd))], .lit (.int .i64 (r.2))], M := none, obl := WeakL e0 (Tb.enc y0) ∧ (gA y0).isSome = true }) ((gA y0).getD dflt)) (Tb.dec e0)
 | _, _ => none

theorem gA.ok : SpecOk Try.prog 49 gA.S := by
 intro l M out h
 unfold gA.S at h
 split at h
 ·rename_i e0
  try dsimp only at h
  cases h
  refine callOk_of fun ho => ?_
  obtain ⟨ox0, hs⟩ := ho
  generalize (Tb.dec e0) = x0 at *
  obtain ⟨r, hr⟩ := Option.isSome_iff_exists.1 hs
  simp only [hr, Option.getD_some]
  have q := Lk (M := M) [] (gA.can x0 r hr) (by simp) rfl (by intro k i hk; simp at hk)
  exact callOk_conv q trivial (by simp; exact ox0) (by simp [frameOut, gA.out]) (by simp [frameOut, gA.out])
 ·cases h

@[simp] def gac.out (_x0 : Tb) (r : Tb × List Tc) : Out := { av := .tup [.agg [.lit (.int .i64 r.1.fh), .lit (.int .i64 r.1.fo), .lit (.int .i64 r.1.fu), .lit (.int .i64 r.1.fb), .lit (.int .i64 r.1.fp), .sl (r.1.fL.map Tj.enc) .no, .lit (.int .i64 r.1.fS.fb), .sl (r.1.fS.fL.map Te.enc) .no, .lit (.int .i64 r.1.fS.fAt), .lit (.bool r.1.fS.ff), .lit (.int .i64 r.1.fc), .lit (.int .i64 r.1.fd)], .sl (r.2.map Tc.enc) .no], M := none }
def gac.fin (x0 : Tb) (r : Tb × List Tc) (σ : St) : Prop := finK (gac.out x0 r) [] σ.M (resA Try.ty σ.A σ.M Try.f30.results.toList)
theorem gac.can (x0 : Tb) (r : Tb × List Tc) (hr : gac x0 = some r) : CallOk Try.prog 30 [.agg [.lit (.int .i64 x0.fh), .lit (.int .i64 x0.fo), .lit (.int .i64 x0.fu), .lit (.int .i64 x0.fb), .lit (.int .i64 x0.fp), .sl (x0.fL.map Tj.enc) .no, .lit (.int .i64 x0.fS.fb), .sl (x0.fS.fL.map Te.enc) .no, .lit (.int .i64 x0.fS.fAt), .lit (.bool x0.fS.ff), .lit (.int .i64 x0.fc), .lit (.int .i64 x0.fd)]] [] (gac.out x0 r) := by
 unfold gac at hr
 have hΓ := (gamL_cons gaq.ok (gamL_cons gA.ok (gamL_cons gav.ok (gamL_nil))) : GamOk Try.prog _)
 refine Lg Try.tyOk Try.func30 rfl (by kernel_rfl) rfl rfl (by simp) ?_
 intro _ _ _
 refine Try.tg hΓ [1, 2] [0] (by kernel_rfl) rfl (by simp; exact rr) ?_
 refine Try.tg hΓ [4] [] (by kernel_rfl) rfl (by simp; exact rr) ?_
 refine AWp.seq ?_
 refine Try.tg hΓ [5] [] (by kernel_rfl) rfl (by simp; exact rr) ?_
 refine AWp.equip 4 5 (els := []) (by simp) (by simp) ?_
 refine AWp.loopE (fun (s1 : Int × List Tc × Tb) (γ1 : Nat) => ⟨[⟨5, none, .n s1.1⟩, ⟨4, none, .sl (s1.2.1.map Tc.enc) (.own 2 (γ1) 5)⟩, ⟨1, none, .ptr 0 0⟩, ⟨2, none, .ptr 1 0⟩], [.blk s1.2.2.enc, .blk [.n 0, .n 0, .n 0, .n 0, .n 0, .sl [] .full, .n 0, .sl [] .full, .n 0, .b false, .n 0, .n 0], .room (γ1)]⟩) (fun (v1 : List Tc × Tb) (γ1a : Nat) => ⟨[⟨4, none, .sl (v1.1.map Tc.enc) (.own 2 (γ1a) 5)⟩, ⟨1, none, .ptr 0 0⟩, ⟨2, none, .ptr 1 0⟩], [.blk v1.2.enc, .blk [.n 0, .n 0, .n 0, .n 0, .n 0, .sl [] .full, .n 0, .sl [] .full, .n 0, .b false, .n 0, .n 0], .room (γ1a)]⟩) (gac.fin x0) hr 0 3 (by simp) (fun s1 f γ1 hr => ?_) (fun v1 γ1a σ1 m1 hr hc => ?_) (fun _ h => h)
 ·unfold gac.loop1 at hr
  refine AWp.seq ?_
  refine Try.tg hΓ [13] [] (by kernel_rfl) rfl (by simp; exact rr) ?_
  refine AWp.cond (b := (ltI s1.1 100000)) (by simp) (fun h12 => ?_) (fun h12 => ?_)
  ·have hr := Li h12 hr
   refine AWp.skip ?_
   refine AWp.meetF (fun (v2 : List Tc × Tb) (γ2 : Unit) => ⟨[⟨5, none, .n s1.1⟩, ⟨4, none, .sl (v2.1.map Tc.enc) (.own 2 (γ1 + 1) 5)⟩, ⟨1, none, .ptr 0 0⟩, ⟨2, none, .ptr 1 0⟩], [.blk v2.2.enc, .blk [.n 0, .n 0, .n 0, .n 0, .n 0, .sl [] .full, .n 0, .sl [] .full, .n 0, .b false, .n 0, .n 0], .room (γ1 + 1)]⟩) (QRr (gac.fin x0)) hr (fun f hr => ?_) (fun v2 γ2 hr => ?_) (fun _ h => QRr_ret h)
   ·refine AWp.block ?_
    obtain ⟨r1, h13, hr⟩ := Lc hr
    refine Try.tg hΓ [6, 7] [13] (by kernel_rfl) rfl (by simp [h12, h13]; exact rr) ?_
    refine Try.tg hΓ [] [6] (by kernel_rfl) rfl (by simp; exact rr) ?_
    refine AWp.seq ?_
    refine Try.tg hΓ [23] [] (by kernel_rfl) rfl (by simp; exact rr) ?_
    refine AWp.cond (b := (ltI r1.2 0)) (by simp) (fun h14 => ?_) (fun h14 => ?_)
    ·have hr := Li h14 hr
     refine Try.tg hΓ [3] [23, 7, 5, 4, 1] (by kernel_rfl) rfl (by simp [h14]; exact rr) ?_
     refine AWp.ret ?_
     obtain rfl := La hr
     refine meet_ret ?_
     refine ⟨_, rfl, ?_⟩
     refine Lf ?_
     simp
    ·have hr := Lj h14 hr
     refine AWp.skip ?_
     obtain ⟨h15, hr⟩ := Lb hr
     refine Try.tg hΓ [8] [23] (by kernel_rfl) rfl (by simp [h14, h15]; exact rr) ?_
     obtain ⟨h16, hr⟩ := Lb hr
     refine Try.tg hΓ [9] [] (by kernel_rfl) rfl (by simp [h16]; exact rr) ?_
     refine AWp.seq ?_
     refine Try.tg hΓ [40] [] (by kernel_rfl) rfl (by simp; exact rr) ?_
     refine AWp.cond (b := (ltI r1.1.fc ((nthI ((nthI r1.1.fL r1.2).fQ.fL) 0).fm))) (by simp) (fun h17 => ?_) (fun h17 => ?_)
     ·have hr := Li h17 hr
      refine Try.tg hΓ [3] [40, 9, 8, 7, 5, 4, 1] (by kernel_rfl) rfl (by simp [h17]; exact rr) ?_
      refine AWp.ret ?_
      obtain rfl := La hr
      refine meet_ret ?_
      refine ⟨_, rfl, ?_⟩
      refine Lf ?_
      simp
     ·have hr := Lj h17 hr
      refine AWp.skip ?_
      refine Try.tg hΓ [10] [40] (by kernel_rfl) rfl (by simp [h17]; exact rr) ?_
      obtain ⟨h18, hr⟩ := Lb hr
      refine Try.tg hΓ [] [] (by kernel_rfl) rfl (by simp [h18]; exact rr) ?_
      obtain ⟨r2, h19, hr⟩ := Lc hr
      refine Try.tg hΓ [] [10, 7] (by kernel_rfl) rfl (by simp [h19]; exact rr) ?_
      refine Try.tg hΓ [] [] (by kernel_rfl) rfl (by simp; exact rr) ?_
      refine Try.tg hΓ [] [] (by kernel_rfl) rfl (by simp; exact rr) ?_
      refine AWp.meetF (fun (v3 : Tb × Tj) (γ3 : Unit) => ⟨[⟨9, none, .ptr 5 0⟩, ⟨8, none, .ptr 4 0⟩, ⟨5, none, .n s1.1⟩, ⟨4, none, .sl (s1.2.1.map Tc.enc) (.own 2 (γ1) 5)⟩, ⟨1, none, .ptr 0 0⟩, ⟨2, none, .ptr 1 0⟩], [.blk v3.1.enc, .blk [.n 0, .n 0, .n 0, .n 0, .n 0, .sl [] .full, .n 0, .sl [] .full, .n 0, .b false, .n 0, .n 0], .room (γ1), .blk r1.1.enc, .blk v3.2.enc, .blk (nthI ((nthI r1.1.fL r1.2).fQ.fL) 0).enc, .blk [.n ((nthI r1.1.fL r1.2).fQ.fh), .n ((nthI r1.1.fL r1.2).fQ.fb), .sl ((cutL ((nthI r1.1.fL r1.2).fQ.fL) 1 (lenL ((nthI r1.1.fL r1.2).fQ.fL))).map Ta.enc) .no, .b ((nthI r1.1.fL r1.2).fQ.fv)]]⟩) (QRm (QRr (gac.fin x0))) hr (fun f hr => ?_) (fun v3 γ3 hr => ?_) (fun _ h => QRm_ret h)
      ·refine Try.tg hΓ [64] [] (by kernel_rfl) rfl (by simp; exact rr) ?_
       refine AWp.cond (b := (nthI r1.1.fL r1.2).fq) (by simp) (fun h20 => ?_) (fun h20 => ?_)
       ·have hr := Li h20 hr
        obtain ⟨r3, h21, hr⟩ := Lc hr
        refine Try.tg hΓ [] [64] (by kernel_rfl) rfl (by simp [h20, h21]; exact rr) ?_
        refine AWp.lst (AWp.reg Try.tyOk hΓ [] [] (by kernel_rfl) rfl (by simp; exact rr)) ?_
        obtain rfl := La hr
        exact Ls () 7 (by first | (simp; done) | simp [h12, h13, h14, h15, h16, h17, h18, h19, h20, h21])
       ·have hr := Lj h20 hr
        refine AWp.skip ?_
        obtain rfl := La hr
        exact Ls () 7 (by first | (simp; done) | simp [h20])
      ·obtain ⟨h22, hr⟩ := Lb hr
       refine AWp.lst (AWp.reg Try.tyOk hΓ [4] [9, 8] (by kernel_rfl) rfl (by simp [h22]; exact rr)) ?_
       obtain rfl := La hr
       exact Ls () 3 (by first | (simp; done) | simp [h12, h13, h14, h15, h16, h17, h18, h19, h22])
   ·refine AWp.lst (AWp.reg Try.tyOk hΓ [5] [] (by kernel_rfl) rfl (by simp; exact rr)) ?_
    obtain rfl := La hr
    exact Lm (γ1 + 1) 3 (by first | (simp; done) | simp [h12])
  ·have hr := Lj h12 hr
   refine AWp.exit ?_
   obtain rfl := La hr
   exact Lp (γ1) 3 (by first | (simp; done) | simp [h12])
 ·refine AWp.conv hc ?_
  refine Try.tg hΓ [3] [4, 1] (by kernel_rfl) rfl (by simp; exact rr) ?_
  refine AWp.ret ?_
  obtain rfl := La hr
  refine Lf ?_
  simp

@[simp] noncomputable def gac.S : Sp
 | [.agg e0], _ => (fun (y0 : Tb) => (fun (r : Tb × List Tc) => some { av := .tup [.agg [.lit (.int .i64 (r.1.fh)), .lit (.int .i64 (r.1.fo)), .lit (.int .i64 (r.1.fu)), .lit (.int .i64 (r.1.fb)), .lit (.int .i64 (r.1.fp)), .sl ((r.1.fL).map Tj.enc) .no, .lit (.int .i64 (r.1.fS.fb)), .sl ((r.1.fS.fL).map Te.enc) .no, .lit (.int .i64 (r.1.fS.fAt)), .lit (.bool (r.1.fS.ff)), .lit (.int .i64 (r.1.fc)), .lit (.int .i64 (r.1.fd))], .sl ((r.2).map Tc.enc) .no], M := none, obl := WeakL e0 (Tb.enc y0) ∧ (gac y0).isSome = true }) ((gac y0).getD dflt)) (Tb.dec e0)
 | _, _ => none

theorem gac.ok : SpecOk Try.prog 30 gac.S := by
 intro l M out h
 unfold gac.S at h
 split at h
 ·rename_i e0
  try dsimp only at h
  cases h
  refine callOk_of fun ho => ?_
  obtain ⟨ox0, hs⟩ := ho
  generalize (Tb.dec e0) = x0 at *
  obtain ⟨r, hr⟩ := Option.isSome_iff_exists.1 hs
  simp only [hr, Option.getD_some]
  have q := Lk (M := M) [] (gac.can x0 r hr) (by simp) rfl (by intro k i hk; simp at hk)
  exact callOk_conv q trivial (by simp; exact ox0) (by simp [frameOut, gac.out]) (by simp [frameOut, gac.out])
 ·cases h

@[simp] def gag.out (_x0 : Tb) (_x1 : Int) (r : Tb × List Tc) : Out := { av := .tup [.agg [.lit (.int .i64 r.1.fh), .lit (.int .i64 r.1.fo), .lit (.int .i64 r.1.fu), .lit (.int .i64 r.1.fb), .lit (.int .i64 r.1.fp), .sl (r.1.fL.map Tj.enc) .no, .lit (.int .i64 r.1.fS.fb), .sl (r.1.fS.fL.map Te.enc) .no, .lit (.int .i64 r.1.fS.fAt), .lit (.bool r.1.fS.ff), .lit (.int .i64 r.1.fc), .lit (.int .i64 r.1.fd)], .sl (r.2.map Tc.enc) .no], M := none }
def gag.fin (x0 : Tb) (x1 : Int) (r : Tb × List Tc) (σ : St) : Prop := finK (gag.out x0 x1 r) [] σ.M (resA Try.ty σ.A σ.M Try.f31.results.toList)
theorem gag.can (x0 : Tb) (x1 : Int) (r : Tb × List Tc) (hr : gag x0 x1 = some r) : CallOk Try.prog 31 [.agg [.lit (.int .i64 x0.fh), .lit (.int .i64 x0.fo), .lit (.int .i64 x0.fu), .lit (.int .i64 x0.fb), .lit (.int .i64 x0.fp), .sl (x0.fL.map Tj.enc) .no, .lit (.int .i64 x0.fS.fb), .sl (x0.fS.fL.map Te.enc) .no, .lit (.int .i64 x0.fS.fAt), .lit (.bool x0.fS.ff), .lit (.int .i64 x0.fc), .lit (.int .i64 x0.fd)], .lit (.int .i64 x1)] [] (gag.out x0 x1 r) := by
 unfold gag at hr
 have hΓ := (gamL_cons gR.ok (gamL_cons gai.ok (gamL_cons gav.ok (gamL_nil))) : GamOk Try.prog _)
 refine Lg Try.tyOk Try.func31 rfl (by kernel_rfl) rfl rfl (by simp) ?_
 intro _ _ _
 refine Try.tg hΓ [2, 4] [0] (by kernel_rfl) rfl (by simp; exact rr) ?_
 refine Try.tg hΓ [6] [] (by kernel_rfl) rfl (by simp; exact rr) ?_
 refine AWp.seq ?_
 refine Try.tg hΓ [13, 14, 15] [] (by kernel_rfl) rfl (by simp; exact rr) ?_
 refine AWp.equip 6 5 (els := []) (by simp) (by simp) ?_
 refine AWp.loopE (fun (s1 : Int × List Tc × Tb) (γ1 : Nat) => ⟨[⟨13, none, .sl (x0.fL.map Tj.enc) .no⟩, ⟨14, none, .n (lenL x0.fL)⟩, ⟨15, none, .n s1.1⟩, ⟨6, none, .sl (s1.2.1.map Tc.enc) (.own 2 (γ1) 5)⟩, ⟨2, none, .ptr 0 0⟩, ⟨4, none, .ptr 1 0⟩, ⟨1, none, .n x1⟩], [.blk s1.2.2.enc, .blk [.n 0, .n 0, .n 0, .n 0, .n 0, .sl [] .full, .n 0, .sl [] .full, .n 0, .b false, .n 0, .n 0], .room (γ1)]⟩) (fun (v1 : List Tc × Tb) (γ1a : Nat) => ⟨[⟨6, none, .sl (v1.1.map Tc.enc) (.own 2 (γ1a) 5)⟩, ⟨2, none, .ptr 0 0⟩, ⟨4, none, .ptr 1 0⟩], [.blk v1.2.enc, .blk [.n 0, .n 0, .n 0, .n 0, .n 0, .sl [] .full, .n 0, .sl [] .full, .n 0, .b false, .n 0, .n 0], .room (γ1a)]⟩) (gag.fin x0 x1) hr 0 3 (by simp) (fun s1 f γ1 hr => ?_) (fun v1 γ1a σ1 m1 hr hc => ?_) (fun _ h => h)
 ·unfold gag.loop1 at hr
  refine Try.tg hΓ [16] [] (by kernel_rfl) rfl (by simp; exact rr) ?_
  refine AWp.seq ?_
  refine AWp.cond (b := (ltI s1.1 (lenL x0.fL))) (by simp) (fun h7 => ?_) (fun h7 => ?_)
  ·have hr := Li h7 hr
   refine AWp.skip ?_
   refine AWp.seq ?_
   refine AWp.block ?_
   obtain ⟨h8, hr⟩ := Lb hr
   refine Try.tg hΓ [8, 7] [16] (by kernel_rfl) rfl (by simp [h7, h8]; exact rr) ?_
   obtain ⟨r1, h9, hr⟩ := Lc hr
   refine Try.tg hΓ [9, 10] [] (by kernel_rfl) rfl (by simp [h9]; exact rr) ?_
   obtain ⟨r2, h10, hr⟩ := Lc hr
   refine Try.tg hΓ [] [9, 7] (by kernel_rfl) rfl (by simp [h10]; exact rr) ?_
   obtain ⟨r3, h11, hr⟩ := Lc hr
   obtain ⟨h12, hr⟩ := Lb hr
   refine AWp.lst (AWp.reg Try.tyOk hΓ [6] [10, 8] (by kernel_rfl) rfl (by simp [h11, h12]; exact rr)) ?_
   refine AWp.lst (AWp.reg Try.tyOk hΓ [15] [] (by kernel_rfl) rfl (by simp; exact rr)) ?_
   obtain rfl := La hr
   exact Lm (γ1 + 1) 3 (by first | (simp; done) | simp [h7, h8, h9, h10, h11, h12])
  ·have hr := Lj h7 hr
   refine AWp.exit ?_
   obtain rfl := La hr
   exact Lp (γ1) 3 (by first | (simp; done) | simp [h7])
 ·refine AWp.conv hc ?_
  refine Try.tg hΓ [5] [6, 2] (by kernel_rfl) rfl (by simp; exact rr) ?_
  refine AWp.ret ?_
  obtain rfl := La hr
  refine Lf ?_
  simp

@[simp] noncomputable def gag.S : Sp
 | [.agg e0, .lit (.int .i64 x1)], _ => (fun (y0 : Tb) => (fun (r : Tb × List Tc) => some { av := .tup [.agg [.lit (.int .i64 (r.1.fh)), .lit (.int .i64 (r.1.fo)), .lit (.int .i64 (r.1.fu)), .lit (.int .i64 (r.1.fb)), .lit (.int .i64 (r.1.fp)), .sl ((r.1.fL).map Tj.enc) .no, .lit (.int .i64 (r.1.fS.fb)), .sl ((r.1.fS.fL).map Te.enc) .no, .lit (.int .i64 (r.1.fS.fAt)), .lit (.bool (r.1.fS.ff)), .lit (.int .i64 (r.1.fc)), .lit (.int .i64 (r.1.fd))], .sl ((r.2).map Tc.enc) .no], M := none, obl := WeakL e0 (Tb.enc y0) ∧ (gag y0 x1).isSome = true }) ((gag y0 x1).getD dflt)) (Tb.dec e0)
 | _, _ => none

theorem gag.ok : SpecOk Try.prog 31 gag.S := by
 intro l M out h
 unfold gag.S at h
 split at h
 ·rename_i e0 x1
  try dsimp only at h
  cases h
  refine callOk_of fun ho => ?_
  obtain ⟨ox0, hs⟩ := ho
  generalize (Tb.dec e0) = x0 at *
  obtain ⟨r, hr⟩ := Option.isSome_iff_exists.1 hs
  simp only [hr, Option.getD_some]
  have q := Lk (M := M) [] (gag.can x0 x1 r hr) (by simp) rfl (by intro k i hk; simp at hk)
  exact callOk_conv q trivial (by simp; exact ox0) (by simp [frameOut, gag.out]) (by simp [frameOut, gag.out])
 ·cases h
end Go.Proofs

/- That these functions compute what their plain functions do. No condition. -/
import Derived.Test.YtnoeflijefijcaaM02
import Derived.Test.YtnoeflijefijcaaTy
set_option maxRecDepth 100000
set_option maxHeartbeats 4000000
namespace Go.Proofs
open Go.Ab
@[simp] def gP.out (_x0 : Tf) (_x1 : Int) (r : Int) : Out := { av := .lit (.int .i64 r), M := none }
def gP.fin (x0 : Tf) (x1 : Int) (r : Int) (σ : St) : Prop := finK (gP.out x0 x1 r) [] σ.M (resA Try.ty σ.A σ.M Try.f67.results.toList)
theorem gP.can (x0 : Tf) (x1 : Int) (r : Int) (hr : gP x0 x1 = some r) : CallOk Try.prog 67 [.agg [.lit (.int .i64 x0.fb), .sl (x0.fL.map Te.enc) .no, .lit (.int .i64 x0.fAt), .lit (.bool x0.ff)], .lit (.int .i64 x1)] [] (gP.out x0 x1 r) := by
 unfold gP at hr
 have hΓ := gamL_nil (P := Try.prog)
 refine Lg Try.tyOk Try.func67 rfl (by kernel_rfl) rfl rfl (by simp) ?_
 intro _ _ _
 refine Try.tg hΓ [2] [0] (by kernel_rfl) rfl (by simp; exact rr) ?_
 refine AWp.seq ?_
 refine Try.tg hΓ [8, 9, 10] [2] (by kernel_rfl) rfl (by simp; exact rr) ?_
 refine AWp.loopE (fun (s1 : Int) (γ1 : Unit) => ⟨[⟨8, none, .sl (x0.fL.map Te.enc) .no⟩, ⟨9, none, .n (lenL x0.fL)⟩, ⟨10, none, .n s1⟩, ⟨1, none, .n x1⟩], [.blk x0.enc]⟩) (fun (v1 : Unit) (γ1a : Unit) => ⟨[], [.blk x0.enc]⟩) (gP.fin x0 x1) hr () 1 (by simp) (fun s1 f γ1 hr => ?_) (fun v1 γ1a σ1 m1 hr hc => ?_) (fun _ h => h)
 ·unfold gP.loop1 at hr
  refine Try.tg hΓ [11] [] (by kernel_rfl) rfl (by simp; exact rr) ?_
  refine AWp.seq ?_
  refine AWp.cond (b := (ltI s1 (lenL x0.fL))) (by simp) (fun h4 => ?_) (fun h4 => ?_)
  ·have hr := Li h4 hr
   refine AWp.skip ?_
   refine AWp.seq ?_
   refine AWp.block ?_
   obtain ⟨h5, hr⟩ := Lb hr
   refine Try.tg hΓ [6, 5] [11] (by kernel_rfl) rfl (by simp [h4, h5]; exact rr) ?_
   refine Try.tg hΓ [18] [6] (by kernel_rfl) rfl (by simp; exact rr) ?_
   refine AWp.cond (b := (eqI ((nthI x0.fL s1).fId) x1)) (by simp) (fun h6 => ?_) (fun h6 => ?_)
   ·have hr := Li h6 hr
    refine Try.tg hΓ [4] [18, 5, 8, 9, 10, 1] (by kernel_rfl) rfl (by simp [h6]; exact rr) ?_
    refine AWp.ret ?_
    obtain rfl := La hr
    refine round_ret ?_
    refine Lf ?_
    simp
   ·have hr := Lj h6 hr
    refine AWp.skip ?_
    refine AWp.lst (AWp.reg Try.tyOk hΓ [10] [18, 5] (by kernel_rfl) rfl (by simp [h6]; exact rr)) ?_
    obtain rfl := La hr
    exact Lm () 1 (by first | (simp; done) | simp [h4, h5, h6])
  ·have hr := Lj h4 hr
   refine AWp.exit ?_
   obtain rfl := La hr
   exact Lp () 1 (by first | (simp; done) | simp [h4])
 ·refine AWp.conv hc ?_
  refine Try.tg hΓ [4] [] (by kernel_rfl) rfl (by simp; exact rr) ?_
  refine AWp.ret ?_
  obtain rfl := La hr
  refine Lf ?_
  simp

@[simp] noncomputable def gP.S : Sp
 | [.agg e0, .lit (.int .i64 x1)], _ => some { av := .lit (.int .i64 ((gP (Tf.dec e0) x1).getD dflt)), M := none, obl := WeakL e0 (Tf.enc (Tf.dec e0)) ∧ (gP (Tf.dec e0) x1).isSome = true }
 | _, _ => none

theorem gP.ok : SpecOk Try.prog 67 gP.S := by
 intro l M out h
 unfold gP.S at h
 split at h
 ·rename_i e0 x1
  cases h
  refine callOk_of fun ho => ?_
  obtain ⟨ox0, hs⟩ := ho
  generalize (Tf.dec e0) = x0 at *
  obtain ⟨r, hr⟩ := Option.isSome_iff_exists.1 hs
  simp only [hr, Option.getD_some]
  have q := Lk (M := M) [] (gP.can x0 x1 r hr) (by simp) rfl (by intro k i hk; simp at hk)
  exact callOk_conv q trivial (by simp; exact ox0) (by simp [frameOut, gP.out]) (by simp [frameOut, gP.out])
 ·cases h

@[simp] def gal.out (_x0 : Tf) (_x1 : Int) (_x2 : Int) (r : Tf × Int) : Out := { av := .tup [.agg [.lit (.int .i64 r.1.fb), .sl (r.1.fL.map Te.enc) .no, .lit (.int .i64 r.1.fAt), .lit (.bool r.1.ff)], .lit (.int .i64 r.2)], M := none }
def gal.fin (x0 : Tf) (x1 : Int) (x2 : Int) (r : Tf × Int) (σ : St) : Prop := finK (gal.out x0 x1 x2 r) [] σ.M (resA Try.ty σ.A σ.M Try.f68.results.toList)
theorem gal.can (x0 : Tf) (x1 : Int) (x2 : Int) (r : Tf × Int) (hr : gal x0 x1 x2 = some r) : CallOk Try.prog 68 [.agg [.lit (.int .i64 x0.fb), .sl (x0.fL.map Te.enc) .no, .lit (.int .i64 x0.fAt), .lit (.bool x0.ff)], .lit (.int .i64 x1), .lit (.int .i64 x2)] [] (gal.out x0 x1 x2 r) := by
 unfold gal at hr
 have hΓ := (gamL_cons gP.ok (gamL_nil) : GamOk Try.prog _)
 refine Lg Try.tyOk Try.func68 rfl (by kernel_rfl) rfl rfl (by simp) ?_
 intro _ _ _
 refine Try.tg hΓ [3, 6] [0] (by kernel_rfl) rfl (by simp; exact rr) ?_
 refine AWp.seq ?_
 refine Try.tg hΓ [19] [] (by kernel_rfl) rfl (by simp; exact rr) ?_
 refine AWp.cond (b := (pickB (ltI x2 x0.fb) true (ltI 16777216 x2))) (by simp) (fun h11 => ?_) (fun h11 => ?_)
 ·have hr := Li h11 hr
  refine Try.tg hΓ [7] [19, 3, 1, 2] (by kernel_rfl) rfl (by simp [h11]; exact rr) ?_
  refine AWp.ret ?_
  obtain rfl := La hr
  refine Lf ?_
  simp
 ·have hr := Lj h11 hr
  refine AWp.skip ?_
  refine AWp.seq ?_
  obtain ⟨r1, h12, hr⟩ := Lc hr
  refine Try.tg hΓ [24] [19] (by kernel_rfl) rfl (by simp [h11, h12]; exact rr) ?_
  refine AWp.cond (b := (leqI 0 r1)) (by simp) (fun h13 => ?_) (fun h13 => ?_)
  ·have hr := Li h13 hr
   refine Try.tg hΓ [7] [24, 3, 1, 2] (by kernel_rfl) rfl (by simp [h13]; exact rr) ?_
   refine AWp.ret ?_
   obtain rfl := La hr
   refine Lf ?_
   simp
  ·have hr := Lj h13 hr
   refine AWp.skip ?_
   refine Try.tg hΓ [8] [24] (by kernel_rfl) rfl (by simp [h13]; exact rr) ?_
   refine Try.tg hΓ [9] [] (by kernel_rfl) rfl (by simp; exact rr) ?_
   refine AWp.seq ?_
   refine Try.tg hΓ [28, 29, 30] [] (by kernel_rfl) rfl (by simp; exact rr) ?_
   refine AWp.equip 8 3 (els := []) (by simp) (by simp) ?_
   refine AWp.loopE (fun (s1 : Int × Bool × List Te) (γ1 : Nat) => ⟨[⟨28, none, .sl (x0.fL.map Te.enc) .no⟩, ⟨29, none, .n (lenL x0.fL)⟩, ⟨30, none, .n s1.1⟩, ⟨9, none, .b s1.2.1⟩, ⟨8, none, .sl (s1.2.2.map Te.enc) (.own 2 (γ1) 3)⟩, ⟨3, none, .ptr 0 0⟩, ⟨6, none, .ptr 1 0⟩, ⟨1, none, .n x1⟩, ⟨2, none, .n x2⟩], [.blk x0.enc, .blk [.n 0, .sl [] .full, .n 0, .b false], .room (γ1)]⟩) (fun (v1 : Bool × List Te) (γ1a : Nat) => ⟨[⟨9, none, .b v1.1⟩, ⟨8, none, .sl (v1.2.map Te.enc) (.own 2 (γ1a) 3)⟩, ⟨3, none, .ptr 0 0⟩, ⟨6, none, .ptr 1 0⟩, ⟨1, none, .n x1⟩, ⟨2, none, .n x2⟩], [.blk x0.enc, .blk [.n 0, .sl [] .full, .n 0, .b false], .room (γ1a)]⟩) (gal.fin x0 x1 x2) hr 0 3 (by simp) (fun s1 f γ1 hr => ?_) (fun v1 γ1a σ1 m1 hr hc => ?_) (fun _ h => h)
   ·unfold gal.loop1 at hr
    refine Try.tg hΓ [31] [] (by kernel_rfl) rfl (by simp; exact rr) ?_
    refine AWp.seq ?_
    refine AWp.cond (b := (ltI s1.1 (lenL x0.fL))) (by simp) (fun h14 => ?_) (fun h14 => ?_)
    ·have hr := Li h14 hr
     refine AWp.skip ?_
     refine AWp.seq ?_
     refine AWp.block ?_
     obtain ⟨h15, hr⟩ := Lb hr
     refine Try.tg hΓ [11] [31] (by kernel_rfl) rfl (by simp [h14, h15]; exact rr) ?_
     refine AWp.meetF (fun (v2 : Bool × List Te) (γ2 : Nat) => ⟨[⟨11, none, .ptr 3 0⟩, ⟨28, none, .sl (x0.fL.map Te.enc) .no⟩, ⟨29, none, .n (lenL x0.fL)⟩, ⟨30, none, .n s1.1⟩, ⟨9, none, .b v2.1⟩, ⟨8, none, .sl (v2.2.map Te.enc) (.own 2 (γ2) 3)⟩, ⟨3, none, .ptr 0 0⟩, ⟨6, none, .ptr 1 0⟩, ⟨1, none, .n x1⟩, ⟨2, none, .n x2⟩], [.blk x0.enc, .blk [.n 0, .sl [] .full, .n 0, .b false], .room (γ2), .blk (nthI x0.fL s1.1).enc]⟩) (QRr (gal.fin x0 x1 x2)) hr (fun f hr => ?_) (fun v2 γ2 hr => ?_) (fun _ h => QRr_ret h)
     ·refine Try.tg hΓ [41] [] (by kernel_rfl) rfl (by simp; exact rr) ?_
      refine AWp.cond (b := (pickB (notB s1.2.1) (ltI x1 ((nthI x0.fL s1.1).fId)) false)) (by simp) (fun h16 => ?_) (fun h16 => ?_)
      ·have hr := Li h16 hr
       obtain ⟨h17, hr⟩ := Lb hr
       refine Try.tg hΓ [8] [41, 9] (by kernel_rfl) rfl (by simp [h16, h17]; exact rr) ?_
       refine AWp.lst (AWp.reg Try.tyOk hΓ [9] [] (by kernel_rfl) rfl (by simp; exact rr)) ?_
       obtain rfl := La hr
       exact Ls (γ1 + 1) 4 (by first | (simp; done) | simp [h11, h12, h13, h14, h15, h16, h17])
      ·have hr := Lj h16 hr
       refine AWp.skip ?_
       obtain rfl := La hr
       exact Ls (γ1) 4 (by first | (simp; done) | simp [h11, h12, h13, h14, h15, h16])
     ·obtain ⟨h18, hr⟩ := Lb hr
      refine AWp.lst (AWp.reg Try.tyOk hΓ [8] [11] (by kernel_rfl) rfl (by simp [h18]; exact rr)) ?_
      refine AWp.lst (AWp.reg Try.tyOk hΓ [30] [] (by kernel_rfl) rfl (by simp; exact rr)) ?_
      obtain rfl := La hr
      exact Lm (γ2 + 1) 3 (by first | (simp; done) | simp [h11, h12, h13, h14, h15, h18])
    ·have hr := Lj h14 hr
     refine AWp.exit ?_
     obtain rfl := La hr
     exact Lp (γ1) 3 (by first | (simp; done) | simp [h11, h12, h13, h14])
   ·refine AWp.conv hc ?_
    refine AWp.meetF (fun (v3 : List Te) (γ3 : Nat) => ⟨[⟨8, none, .sl (v3.map Te.enc) (.own 2 (γ3) 3)⟩, ⟨3, none, .ptr 0 0⟩, ⟨6, none, .ptr 1 0⟩], [.blk x0.enc, .blk [.n 0, .sl [] .full, .n 0, .b false], .room (γ3)]⟩) (gal.fin x0 x1 x2) hr (fun f hr => ?_) (fun v3 γ3 hr => ?_) (fun _ h => h)
    ·refine Try.tg hΓ [54] [9] (by kernel_rfl) rfl (by simp; exact rr) ?_
     refine AWp.cond (b := (notB v1.1)) (by simp) (fun h19 => ?_) (fun h19 => ?_)
     ·have hr := Li h19 hr
      obtain ⟨h20, hr⟩ := Lb hr
      refine AWp.lst (AWp.reg Try.tyOk hΓ [8] [54, 1, 2] (by kernel_rfl) rfl (by simp [h19, h20]; exact rr)) ?_
      obtain rfl := La hr
      exact Ls (γ1a + 1) 3 (by first | (simp; done) | simp [h11, h12, h13, h19, h20])
     ·have hr := Lj h19 hr
      refine AWp.skip ?_
      obtain rfl := La hr
      exact Ls (γ1a) 3 (by first | (simp; done) | simp [h11, h12, h13, h19])
    ·refine Try.tg hΓ [] [8] (by kernel_rfl) rfl (by simp; exact rr) ?_
     refine Try.tg hΓ [7] [3] (by kernel_rfl) rfl (by simp; exact rr) ?_
     refine AWp.ret ?_
     obtain rfl := La hr
     refine Lf ?_
     simp

@[simp] noncomputable def gal.S : Sp
 | [.agg e0, .lit (.int .i64 x1), .lit (.int .i64 x2)], _ => (fun (y0 : Tf) => (fun (r : Tf × Int) => some { av := .tup [.agg [.lit (.int .i64 (r.1.fb)), .sl ((r.1.fL).map Te.enc) .no, .lit (.int .i64 (r.1.fAt)), .lit (.bool (r.1.ff))], .lit (.int .i64 (r.2))], M := none, obl := WeakL e0 (Tf.enc y0) ∧ (gal y0 x1 x2).isSome = true }) ((gal y0 x1 x2).getD dflt)) (Tf.dec e0)
 | _, _ => none

theorem gal.ok : SpecOk Try.prog 68 gal.S := by
 intro l M out h
 unfold gal.S at h
 split at h
 ·rename_i e0 x1 x2
  try dsimp only at h
  cases h
  refine callOk_of fun ho => ?_
  obtain ⟨ox0, hs⟩ := ho
  generalize (Tf.dec e0) = x0 at *
  obtain ⟨r, hr⟩ := Option.isSome_iff_exists.1 hs
  simp only [hr, Option.getD_some]
  have q := Lk (M := M) [] (gal.can x0 x1 x2 r hr) (by simp) rfl (by intro k i hk; simp at hk)
  exact callOk_conv q trivial (by simp; exact ox0) (by simp [frameOut, gal.out]) (by simp [frameOut, gal.out])
 ·cases h

@[simp] def gaf.out (_x0 : Tf) (_x1 : Int) (r : Tf × Int) : Out := { av := .tup [.agg [.lit (.int .i64 r.1.fb), .sl (r.1.fL.map Te.enc) .no, .lit (.int .i64 r.1.fAt), .lit (.bool r.1.ff)], .lit (.int .i64 r.2)], M := none }
def gaf.fin (x0 : Tf) (x1 : Int) (r : Tf × Int) (σ : St) : Prop := finK (gaf.out x0 x1 r) [] σ.M (resA Try.ty σ.A σ.M Try.f71.results.toList)
theorem gaf.can (x0 : Tf) (x1 : Int) (r : Tf × Int) (hr : gaf x0 x1 = some r) : CallOk Try.prog 71 [.agg [.lit (.int .i64 x0.fb), .sl (x0.fL.map Te.enc) .no, .lit (.int .i64 x0.fAt), .lit (.bool x0.ff)], .lit (.int .i64 x1)] [] (gaf.out x0 x1 r) := by
 unfold gaf at hr
 have hΓ := (gamL_cons gP.ok (gamL_nil) : GamOk Try.prog _)
 refine Lg Try.tyOk Try.func71 rfl (by kernel_rfl) rfl rfl (by simp) ?_
 intro _ _ _
 refine Try.tg hΓ [2, 4] [0] (by kernel_rfl) rfl (by simp; exact rr) ?_
 obtain ⟨r1, h8, hr⟩ := Lc hr
 refine Try.tg hΓ [6] [] (by kernel_rfl) rfl (by simp [h8]; exact rr) ?_
 refine AWp.seq ?_
 refine Try.tg hΓ [11] [] (by kernel_rfl) rfl (by simp; exact rr) ?_
 refine AWp.cond (b := (ltI r1 0)) (by simp) (fun h9 => ?_) (fun h9 => ?_)
 ·have hr := Li h9 hr
  refine Try.tg hΓ [5] [11, 6, 2, 1] (by kernel_rfl) rfl (by simp [h9]; exact rr) ?_
  refine AWp.ret ?_
  obtain rfl := La hr
  refine Lf ?_
  simp
 ·have hr := Lj h9 hr
  refine AWp.skip ?_
  obtain ⟨h10, hr⟩ := Lb hr
  obtain ⟨h11, hr⟩ := Lb hr
  obtain ⟨h12, hr⟩ := Lb hr
  obtain ⟨h13, hr⟩ := Lb hr
  refine Try.td hΓ [] [11, 6] [(6, 0), (7, 0), (8, 0), (9, 0), (10, 0)] [(false, []), (false, []), (false, []), (false, []), (false, []), (true, []), (false, []), (false, []), (false, []), (false, []), (false, []), (true, []), (false, []), (true, [])] (by kernel_rfl) rfl (by simp [h9, h10, h11, h12, h13]; exact rr) ?_
  refine AWp.meetF (fun (v1 : Bool) (γ1 : Unit) => ⟨[⟨2, none, .ptr 0 0⟩, ⟨4, none, .ptr 1 0⟩], [.blk [.n x0.fb, .sl ((appL (appL [] (cutL x0.fL 0 r1)) (cutL x0.fL (addI .i64 r1 1) (lenL x0.fL))).map Te.enc) (.own 2 2 3), .n x0.fAt, .b v1], .blk [.n 0, .sl [] .full, .n 0, .b false], .room 2]⟩) (gaf.fin x0 x1) hr (fun f hr => ?_) (fun v1 γ1 hr => ?_) (fun _ h => h)
  ·refine Try.tg hΓ [29] [1] (by kernel_rfl) rfl (by simp; exact rr) ?_
   refine AWp.cond (b := (eqI x0.fAt x1)) (by simp) (fun h14 => ?_) (fun h14 => ?_)
   ·have hr := Li h14 hr
    refine AWp.lst (AWp.reg Try.tyOk hΓ [] [29] (by kernel_rfl) rfl (by simp [h14]; exact rr)) ?_
    obtain rfl := La hr
    exact Ls () 3 (by first | (simp; done) | simp [h8, h9, h10, h11, h12, h13, h14])
   ·have hr := Lj h14 hr
    refine AWp.skip ?_
    obtain rfl := La hr
    exact Ls () 3 (by first | (simp; done) | simp [h8, h9, h10, h11, h12, h13, h14])
  ·refine Try.tg hΓ [5] [2] (by kernel_rfl) rfl (by simp; exact rr) ?_
   refine AWp.ret ?_
   obtain rfl := La hr
   refine Lf ?_
   simp

@[simp] noncomputable def gaf.S : Sp
 | [.agg e0, .lit (.int .i64 x1)], _ => (fun (y0 : Tf) => (fun (r : Tf × Int) => some { av := .tup [.agg [.lit (.int .i64 (r.1.fb)), .sl ((r.1.fL).map Te.enc) .no, .lit (.int .i64 (r.1.fAt)), .lit (.bool (r.1.ff))], .lit (.int .i64 (r.2))], M := none, obl := WeakL e0 (Tf.enc y0) ∧ (gaf y0 x1).isSome = true }) ((gaf y0 x1).getD dflt)) (Tf.dec e0)
 | _, _ => none

theorem gaf.ok : SpecOk Try.prog 71 gaf.S := by
 intro l M out h
 unfold gaf.S at h
 split at h
 ·rename_i e0 x1
  try dsimp only at h
  cases h
  refine callOk_of fun ho => ?_
  obtain ⟨ox0, hs⟩ := ho
  generalize (Tf.dec e0) = x0 at *
  obtain ⟨r, hr⟩ := Option.isSome_iff_exists.1 hs
  simp only [hr, Option.getD_some]
  have q := Lk (M := M) [] (gaf.can x0 x1 r hr) (by simp) rfl (by intro k i hk; simp at hk)
  exact callOk_conv q trivial (by simp; exact ox0) (by simp [frameOut, gaf.out]) (by simp [frameOut, gaf.out])
 ·cases h

@[simp] def gz.out (_x0 : Tf) (_x1 : List Tk) (_x2 : Int) (r : Int) : Out := { av := .lit (.int .i64 r), M := none }
def gz.fin (x0 : Tf) (x1 : List Tk) (x2 : Int) (r : Int) (σ : St) : Prop := finK (gz.out x0 x1 x2 r) [] σ.M (resA Try.ty σ.A σ.M Try.f80.results.toList)
theorem gz.can (x0 : Tf) (x1 : List Tk) (x2 : Int) (r : Int) (hr : gz x0 x1 x2 = some r) : CallOk Try.prog 80 [.agg [.lit (.int .i64 x0.fb), .sl (x0.fL.map Te.enc) .no, .lit (.int .i64 x0.fAt), .lit (.bool x0.ff)], .sl (x1.map Tk.enc) .no, .lit (.int .i64 x2)] [] (gz.out x0 x1 x2 r) := by
 unfold gz at hr
 have hΓ := gamL_nil (P := Try.prog)
 refine Lg Try.tyOk Try.func80 rfl (by kernel_rfl) rfl rfl (by simp) ?_
 intro _ _ _
 refine Try.tg hΓ [3] [0] (by kernel_rfl) rfl (by simp; exact rr) ?_
 refine Try.tg hΓ [7] [] (by kernel_rfl) rfl (by simp; exact rr) ?_
 refine AWp.seq ?_
 refine Try.tg hΓ [10, 11, 12] [1] (by kernel_rfl) rfl (by simp; exact rr) ?_
 refine AWp.loopE (fun (s1 : Int × Int) (γ1 : Unit) => ⟨[⟨10, none, .sl (x1.map Tk.enc) .no⟩, ⟨11, none, .n (lenL x1)⟩, ⟨12, none, .n s1.1⟩, ⟨7, none, .n s1.2⟩, ⟨3, none, .ptr 0 0⟩, ⟨2, none, .n x2⟩], [.blk x0.enc]⟩) (fun (v1 : Int) (γ1a : Unit) => ⟨[⟨7, none, .n v1⟩], [.blk x0.enc]⟩) (gz.fin x0 x1 x2) hr () 1 (by simp) (fun s1 f γ1 hr => ?_) (fun v1 γ1a σ1 m1 hr hc => ?_) (fun _ h => h)
 ·unfold gz.loop1 at hr
  refine Try.tg hΓ [13] [] (by kernel_rfl) rfl (by simp; exact rr) ?_
  refine AWp.seq ?_
  refine AWp.cond (b := (ltI s1.1 (lenL x1))) (by simp) (fun h4 => ?_) (fun h4 => ?_)
  ·have hr := Li h4 hr
   refine AWp.skip ?_
   refine AWp.seq ?_
   refine AWp.block ?_
   obtain ⟨h5, hr⟩ := Lb hr
   refine Try.tg hΓ [9] [13] (by kernel_rfl) rfl (by simp [h4, h5]; exact rr) ?_
   refine Try.tg hΓ [31] [] (by kernel_rfl) rfl (by simp; exact rr) ?_
   refine AWp.cond (b := (pickB (pickB (eqI ((nthI x1 s1.1).fId) x2) (leqI 0 ((nthI x1 s1.1).fm)) false) (leqI ((nthI x1 s1.1).fm) x0.fb) false)) (by simp) (fun h6 => ?_) (fun h6 => ?_)
   ·have hr := Li h6 hr
    refine AWp.lst (AWp.reg Try.tyOk hΓ [7] [31, 9] (by kernel_rfl) rfl (by simp [h6]; exact rr)) ?_
    refine AWp.lst (AWp.reg Try.tyOk hΓ [12] [] (by kernel_rfl) rfl (by simp; exact rr)) ?_
    obtain rfl := La hr
    exact Lm () 1 (by first | (simp; done) | simp [h4, h5, h6])
   ·have hr := Lj h6 hr
    refine AWp.skip ?_
    refine AWp.lst (AWp.reg Try.tyOk hΓ [12] [31, 9] (by kernel_rfl) rfl (by simp [h6]; exact rr)) ?_
    obtain rfl := La hr
    exact Lm () 1 (by first | (simp; done) | simp [h4, h5, h6])
  ·have hr := Lj h4 hr
   refine AWp.exit ?_
   obtain rfl := La hr
   exact Lp () 1 (by first | (simp; done) | simp [h4])
 ·refine AWp.conv hc ?_
  refine Try.tg hΓ [6] [7] (by kernel_rfl) rfl (by simp; exact rr) ?_
  refine AWp.ret ?_
  obtain rfl := La hr
  refine Lf ?_
  simp

@[simp] noncomputable def gz.S : Sp
 | [.agg e0, .sl e1 _, .lit (.int .i64 x2)], _ => some { av := .lit (.int .i64 ((gz (Tf.dec e0) (e1.map Tk.dec) x2).getD dflt)), M := none, obl := WeakL e0 (Tf.enc (Tf.dec e0)) ∧ e1 = (e1.map Tk.dec).map Tk.enc ∧ (gz (Tf.dec e0) (e1.map Tk.dec) x2).isSome = true }
 | _, _ => none

theorem gz.ok : SpecOk Try.prog 80 gz.S := by
 intro l M out h
 unfold gz.S at h
 split at h
 ·rename_i e0 e1 k1 x2
  cases h
  refine callOk_of fun ho => ?_
  obtain ⟨ox0, ox1, hs⟩ := ho
  generalize (Tf.dec e0) = x0 at *
  generalize (e1.map Tk.dec) = x1 at *
  subst ox1
  obtain ⟨r, hr⟩ := Option.isSome_iff_exists.1 hs
  simp only [hr, Option.getD_some]
  have q := Lk (M := M) [] (gz.can x0 x1 x2 r hr) (by simp) rfl (by intro k i hk; simp at hk)
  exact callOk_conv q trivial (by simp; exact ox0) (by simp [frameOut, gz.out]) (by simp [frameOut, gz.out])
 ·cases h

@[simp] def gj.out (_x0 : Tf) (_x1 : List Tk) (_x2 : Int) (r : Int) : Out := { av := .lit (.int .i64 r), M := none }
def gj.fin (x0 : Tf) (x1 : List Tk) (x2 : Int) (r : Int) (σ : St) : Prop := finK (gj.out x0 x1 x2 r) [] σ.M (resA Try.ty σ.A σ.M Try.f81.results.toList)
theorem gj.can (x0 : Tf) (x1 : List Tk) (x2 : Int) (r : Int) (hr : gj x0 x1 x2 = some r) : CallOk Try.prog 81 [.agg [.lit (.int .i64 x0.fb), .sl (x0.fL.map Te.enc) .no, .lit (.int .i64 x0.fAt), .lit (.bool x0.ff)], .sl (x1.map Tk.enc) .no, .lit (.int .i64 x2)] [] (gj.out x0 x1 x2 r) := by
 unfold gj at hr
 have hΓ := (gamL_cons gz.ok (gamL_nil) : GamOk Try.prog _)
 refine Lg Try.tyOk Try.func81 rfl (by kernel_rfl) rfl rfl (by simp) ?_
 intro _ _ _
 refine Try.tg hΓ [3] [0] (by kernel_rfl) rfl (by simp; exact rr) ?_
 refine AWp.seq ?_
 refine Try.tg hΓ [12, 13, 14] [] (by kernel_rfl) rfl (by simp; exact rr) ?_
 refine AWp.loopE (fun (s1 : Int) (γ1 : Unit) => ⟨[⟨12, none, .sl (x0.fL.map Te.enc) .no⟩, ⟨13, none, .n (lenL x0.fL)⟩, ⟨14, none, .n s1⟩, ⟨3, none, .ptr 0 0⟩, ⟨1, none, .sl (x1.map Tk.enc) .no⟩, ⟨2, none, .n x2⟩], [.blk x0.enc]⟩) (fun (v1 : Unit) (γ1a : Unit) => ⟨[⟨3, none, .ptr 0 0⟩, ⟨1, none, .sl (x1.map Tk.enc) .no⟩], [.blk x0.enc]⟩) (gj.fin x0 x1 x2) hr () 1 (by simp) (fun s1 f γ1 hr => ?_) (fun v1 γ1a σ1 m1 hr hc => ?_) (fun _ h => h)
 ·unfold gj.loop1 at hr
  refine Try.tg hΓ [15] [] (by kernel_rfl) rfl (by simp; exact rr) ?_
  refine AWp.seq ?_
  refine AWp.cond (b := (ltI s1 (lenL x0.fL))) (by simp) (fun h9 => ?_) (fun h9 => ?_)
  ·have hr := Li h9 hr
   refine AWp.skip ?_
   refine AWp.seq ?_
   refine AWp.block ?_
   obtain ⟨h10, hr⟩ := Lb hr
   refine Try.tg hΓ [8, 7] [15] (by kernel_rfl) rfl (by simp [h9, h10]; exact rr) ?_
   obtain ⟨h11, hr⟩ := Lb hr
   refine Try.tg hΓ [30] [8] (by kernel_rfl) rfl (by simp [h11]; exact rr) ?_
   refine AWp.cond (b := (pickB (ltI x2 ((nthI x0.fL s1).fId)) (leqI 0 ((gz x0 x1 ((nthI x0.fL s1).fId)).getD dflt)) false)) (by simp) (fun h12 => ?_) (fun h12 => ?_)
   ·have hr := Li h12 hr
    refine Try.tg hΓ [6] [30, 7, 12, 13, 14, 3, 1, 2] (by kernel_rfl) rfl (by simp [h12]; exact rr) ?_
    refine AWp.ret ?_
    obtain rfl := La hr
    refine round_ret ?_
    refine Lf ?_
    simp
   ·have hr := Lj h12 hr
    refine AWp.skip ?_
    refine AWp.lst (AWp.reg Try.tyOk hΓ [14] [30, 7] (by kernel_rfl) rfl (by simp [h12]; exact rr)) ?_
    obtain rfl := La hr
    exact Lm () 1 (by first | (simp; done) | simp [h9, h10, h11, h12])
  ·have hr := Lj h9 hr
   refine AWp.exit ?_
   obtain rfl := La hr
   exact Lp () 1 (by first | (simp; done) | simp [h9])
 ·refine AWp.conv hc ?_
  refine AWp.seq ?_
  refine Try.tg hΓ [34, 35, 36] [] (by kernel_rfl) rfl (by simp; exact rr) ?_
  refine AWp.loopE (fun (s2 : Int) (γ2 : Unit) => ⟨[⟨34, none, .sl (x0.fL.map Te.enc) .no⟩, ⟨35, none, .n (lenL x0.fL)⟩, ⟨36, none, .n s2⟩, ⟨3, none, .ptr 0 0⟩, ⟨1, none, .sl (x1.map Tk.enc) .no⟩], [.blk x0.enc]⟩) (fun (v2 : Unit) (γ2a : Unit) => ⟨[], [.blk x0.enc]⟩) (gj.fin x0 x1 x2) hr () 1 (by simp) (fun s2 f γ2 hr => ?_) (fun v2 γ2a σ1 m1 hr hc => ?_) (fun _ h => h)
  ·unfold gj.loop2 at hr
   refine Try.tg hΓ [37] [] (by kernel_rfl) rfl (by simp; exact rr) ?_
   refine AWp.seq ?_
   refine AWp.cond (b := (ltI s2 (lenL x0.fL))) (by simp) (fun h13 => ?_) (fun h13 => ?_)
   ·have hr := Li h13 hr
    refine AWp.skip ?_
    refine AWp.seq ?_
    refine AWp.block ?_
    obtain ⟨h14, hr⟩ := Lb hr
    refine Try.tg hΓ [10, 9] [37] (by kernel_rfl) rfl (by simp [h13, h14]; exact rr) ?_
    obtain ⟨r1, h15, hr⟩ := Lc hr
    refine Try.tg hΓ [46] [10] (by kernel_rfl) rfl (by simp [h15]; exact rr) ?_
    refine AWp.cond (b := (leqI 0 r1)) (by simp) (fun h16 => ?_) (fun h16 => ?_)
    ·have hr := Li h16 hr
     refine Try.tg hΓ [6] [46, 9, 34, 35, 36, 3, 1] (by kernel_rfl) rfl (by simp [h16]; exact rr) ?_
     refine AWp.ret ?_
     obtain rfl := La hr
     refine round_ret ?_
     refine Lf ?_
     simp
    ·have hr := Lj h16 hr
     refine AWp.skip ?_
     refine AWp.lst (AWp.reg Try.tyOk hΓ [36] [46, 9] (by kernel_rfl) rfl (by simp [h16]; exact rr)) ?_
     obtain rfl := La hr
     exact Lm () 1 (by first | (simp; done) | simp [h13, h14, h15, h16])
   ·have hr := Lj h13 hr
    refine AWp.exit ?_
    obtain rfl := La hr
    exact Lp () 1 (by first | (simp; done) | simp [h13])
  ·refine AWp.conv hc ?_
   refine Try.tg hΓ [6] [] (by kernel_rfl) rfl (by simp; exact rr) ?_
   refine AWp.ret ?_
   obtain rfl := La hr
   refine Lf ?_
   simp

@[simp] noncomputable def gj.S : Sp
 | [.agg e0, .sl e1 _, .lit (.int .i64 x2)], _ => some { av := .lit (.int .i64 ((gj (Tf.dec e0) (e1.map Tk.dec) x2).getD dflt)), M := none, obl := WeakL e0 (Tf.enc (Tf.dec e0)) ∧ e1 = (e1.map Tk.dec).map Tk.enc ∧ (gj (Tf.dec e0) (e1.map Tk.dec) x2).isSome = true }
 | _, _ => none

theorem gj.ok : SpecOk Try.prog 81 gj.S := by
 intro l M out h
 unfold gj.S at h
 split at h
 ·rename_i e0 e1 k1 x2
  cases h
  refine callOk_of fun ho => ?_
  obtain ⟨ox0, ox1, hs⟩ := ho
  generalize (Tf.dec e0) = x0 at *
  generalize (e1.map Tk.dec) = x1 at *
  subst ox1
  obtain ⟨r, hr⟩ := Option.isSome_iff_exists.1 hs
  simp only [hr, Option.getD_some]
  have q := Lk (M := M) [] (gj.can x0 x1 x2 r hr) (by simp) rfl (by intro k i hk; simp at hk)
  exact callOk_conv q trivial (by simp; exact ox0) (by simp [frameOut, gj.out]) (by simp [frameOut, gj.out])
 ·cases h

@[simp] def gh.out (_x0 : Tf) (_x1 : List Tk) (r : Tf × Int × Bool) : Out := { av := .tup [.agg [.lit (.int .i64 r.1.fb), .sl (r.1.fL.map Te.enc) .no, .lit (.int .i64 r.1.fAt), .lit (.bool r.1.ff)], .lit (.int .i64 r.2.1), .lit (.bool r.2.2)], M := none }
def gh.fin (x0 : Tf) (x1 : List Tk) (r : Tf × Int × Bool) (σ : St) : Prop := finK (gh.out x0 x1 r) [] σ.M (resA Try.ty σ.A σ.M Try.f66.results.toList)
theorem gh.can (x0 : Tf) (x1 : List Tk) (r : Tf × Int × Bool) (hr : gh x0 x1 = some r) : CallOk Try.prog 66 [.agg [.lit (.int .i64 x0.fb), .sl (x0.fL.map Te.enc) .no, .lit (.int .i64 x0.fAt), .lit (.bool x0.ff)], .sl (x1.map Tk.enc) .no] [] (gh.out x0 x1 r) := by
 unfold gh at hr
 have hΓ := (gamL_cons gP.ok (gamL_cons gj.ok (gamL_cons gz.ok (gamL_nil))) : GamOk Try.prog _)
 refine Lg Try.tyOk Try.func66 rfl (by kernel_rfl) rfl rfl (by simp) ?_
 intro _ _ _
 refine Try.tg hΓ [2, 4] [0] (by kernel_rfl) rfl (by simp; exact rr) ?_
 refine AWp.see (See.markA (M' := [.blk x0.enc, .blk [.n 0, .sl [] .full, .n 0, .b false], .arr 0 []]) rfl) ?_
 obtain ⟨h39, hr⟩ := Lb hr
 refine Try.tg hΓ [7] [] (by kernel_rfl) rfl (by simp [h39]; exact rr) ?_
 refine AWp.seq ?_
 refine Try.tg hΓ [16, 17, 18] [] (by kernel_rfl) rfl (by simp; exact rr) ?_
 refine AWp.loopE (fun (s1 : Int × List Te) (γ1 : Unit) => ⟨[⟨16, none, .asl 3 (lenL x0.fL) 3⟩, ⟨17, none, .n (lenL x0.fL)⟩, ⟨18, none, .n s1.1⟩, ⟨7, none, .asl 3 (lenL x0.fL) 3⟩, ⟨2, none, .ptr 0 0⟩, ⟨4, none, .ptr 1 0⟩, ⟨1, none, .sl (x1.map Tk.enc) .no⟩], [.blk x0.enc, .blk [.n 0, .sl [] .full, .n 0, .b false], .arr 0 [], .arr 3 (s1.2.map Te.enc)]⟩) (fun (v1 : List Te) (γ1a : Unit) => ⟨[⟨7, none, .asl 3 (lenL x0.fL) 3⟩, ⟨2, none, .ptr 0 0⟩, ⟨4, none, .ptr 1 0⟩, ⟨1, none, .sl (x1.map Tk.enc) .no⟩], [.blk x0.enc, .blk [.n 0, .sl [] .full, .n 0, .b false], .arr 0 [], .arr 3 (v1.map Te.enc)]⟩) (gh.fin x0 x1) hr () 4 (by simp) (fun s1 f γ1 hr => ?_) (fun v1 γ1a σ1 m1 hr hc => ?_) (fun _ h => h)
 ·unfold gh.loop1 at hr
  refine Try.tg hΓ [19] [] (by kernel_rfl) rfl (by simp; exact rr) ?_
  refine AWp.seq ?_
  refine AWp.cond (b := (ltI s1.1 (lenL x0.fL))) (by simp) (fun h40 => ?_) (fun h40 => ?_)
  ·have hr := Li h40 hr
   refine AWp.skip ?_
   refine AWp.seq ?_
   refine AWp.block ?_
   obtain ⟨h41, hr⟩ := Lb hr
   obtain ⟨h42, hr⟩ := Lb hr
   refine Try.tg hΓ [9, 8] [19] (by kernel_rfl) rfl (by simp [h40, h41, h42]; exact rr) ?_
   obtain ⟨r1, h43, hr⟩ := Lc hr
   refine Try.tg hΓ [28] [9] (by kernel_rfl) rfl (by simp [h43]; exact rr) ?_
   refine AWp.cond (b := (ltI r1 0)) (by simp) (fun h44 => ?_) (fun h44 => ?_)
   ·have hr := Li h44 hr
    obtain ⟨h45, hr⟩ := Lb hr
    obtain ⟨h46, hr⟩ := Lb hr
    refine AWp.lst (AWp.reg Try.tyOk hΓ [] [28, 8] (by kernel_rfl) rfl (by simp [h41, h42, h44]; exact rr)) ?_
    refine AWp.lst (AWp.reg Try.tyOk hΓ [18] [] (by kernel_rfl) rfl (by simp; exact rr)) ?_
    obtain rfl := La hr
    exact Lm () 4 (by first | (simp; done) | simp [h39, h40, h41, h42, h43, h44, h45, h46])
   ·have hr := Lj h44 hr
    refine AWp.skip ?_
    refine AWp.lst (AWp.reg Try.tyOk hΓ [18] [28, 8] (by kernel_rfl) rfl (by simp [h44]; exact rr)) ?_
    obtain rfl := La hr
    exact Lm () 4 (by first | (simp; done) | simp [h39, h40, h41, h42, h43, h44])
  ·have hr := Lj h40 hr
   refine AWp.exit ?_
   obtain rfl := La hr
   exact Lp () 4 (by first | (simp; done) | simp [h39, h40])
 ·refine AWp.conv hc ?_
  refine Try.tg hΓ [] [] (by kernel_rfl) rfl (by simp; exact rr) ?_
  refine AWp.seq ?_
  obtain ⟨h47, hr⟩ := Lb hr
  obtain ⟨r2, h48, hr⟩ := Lc hr
  refine Try.tg hΓ [39] [] (by kernel_rfl) rfl (by simp [h47, h48]; exact rr) ?_
  refine AWp.cond (b := (ltI r2 0)) (by simp) (fun h49 => ?_) (fun h49 => ?_)
  ·have hr := Li h49 hr
   refine Try.tg hΓ [] [39, 7, 1] (by kernel_rfl) rfl (by simp [h49]; exact rr) ?_
   refine Try.tg hΓ [5, 6] [2] (by kernel_rfl) rfl (by simp; exact rr) ?_
   obtain ⟨h50, hr⟩ := Lb hr
   refine AWp.see (See.freeze 3 (σ' := ⟨[⟨5, none, .n 0⟩, ⟨6, none, .b false⟩, ⟨4, none, .ptr 1 0⟩], [.blk [.n x0.fb, .sl (v1.map Te.enc) .no, .n x0.fAt, .b false], .blk [.n x0.fb, .sl (v1.map Te.enc) .no, .n x0.fAt, .b false], .arr 0 [], .dead]⟩) (by rfl) (by simp) (by simp [h47]) (by simp)) ?_
   refine AWp.ret ?_
   obtain rfl := La hr
   refine Lf ?_
   simp
  ·have hr := Lj h49 hr
   refine AWp.skip ?_
   obtain ⟨h51, hr⟩ := Lb hr
   obtain ⟨r3, h52, hr⟩ := Lc hr
   refine Try.tg hΓ [10] [39] (by kernel_rfl) rfl (by simp [h47, h49, h52]; exact rr) ?_
   refine AWp.meetF (fun (v2 : Int × Bool) (γ2 : Unit) => ⟨[⟨10, none, .n v2.1⟩, ⟨7, none, .asl 3 (lenL x0.fL) 3⟩, ⟨2, none, .ptr 0 0⟩, ⟨4, none, .ptr 1 0⟩, ⟨1, none, .sl (x1.map Tk.enc) .no⟩], [.blk [.n x0.fb, .asl 3 (lenL x0.fL) 3, .n x0.fAt, .b v2.2], .blk [.n 0, .sl [] .full, .n 0, .b false], .arr 0 [], .arr 3 (v1.map Te.enc)]⟩) (gh.fin x0 x1) hr (fun f hr => ?_) (fun v2 γ2 hr => ?_) (fun _ h => h)
   ·obtain ⟨h53, hr⟩ := Lb hr
    obtain ⟨h54, hr⟩ := Lb hr
    refine Try.tg hΓ [55] [] (by kernel_rfl) rfl (by simp [h47, h54]; exact rr) ?_
    refine AWp.cond (b := (pickB (ltI r3 0) true (ltI ((gz (Tf.mk x0.fb v1 x0.fAt x0.ff) x1 x0.fAt).getD dflt) 0))) (by simp) (fun h55 => ?_) (fun h55 => ?_)
    ·have hr := Li h55 hr
     obtain ⟨h56, hr⟩ := Lb hr
     obtain ⟨r4, h57, hr⟩ := Lc hr
     refine Try.tg hΓ [10] [55] (by kernel_rfl) rfl (by simp [h47, h55, h57]; exact rr) ?_
     refine AWp.lst (AWp.reg Try.tyOk hΓ [] [] (by kernel_rfl) rfl (by simp; exact rr)) ?_
     obtain rfl := La hr
     exact Ls () 4 (by first | (simp; done) | simp [h39, h47, h48, h49, h51, h52, h53, h54, h55, h56, h57])
    ·have hr := Lj h55 hr
     refine AWp.skip ?_
     obtain rfl := La hr
     exact Ls () 4 (by first | (simp; done) | simp [h39, h47, h48, h49, h51, h52, h53, h54, h55])
   ·refine AWp.seq ?_
    refine Try.tg hΓ [11] [] (by kernel_rfl) rfl (by simp; exact rr) ?_
    refine AWp.loopE (fun (s3 : Int × Int × Int × Bool × List Te) (γ3 : Unit) => ⟨[⟨11, none, .n s3.1⟩, ⟨10, none, .n s3.2.1⟩, ⟨7, none, .asl 3 (lenL x0.fL) 3⟩, ⟨2, none, .ptr 0 0⟩, ⟨4, none, .ptr 1 0⟩, ⟨1, none, .sl (x1.map Tk.enc) .no⟩], [.blk [.n x0.fb, .asl 3 (lenL x0.fL) 3, .n s3.2.2.1, .b s3.2.2.2.1], .blk [.n 0, .sl [] .full, .n 0, .b false], .arr 0 [], .arr 3 (s3.2.2.2.2.map Te.enc)]⟩) (fun (v3 : Int × Bool × List Te) (γ3a : Unit) => ⟨[⟨2, none, .ptr 0 0⟩, ⟨4, none, .ptr 1 0⟩], [.blk [.n x0.fb, .asl 3 (lenL x0.fL) 3, .n v3.1, .b v3.2.1], .blk [.n 0, .sl [] .full, .n 0, .b false], .arr 0 [], .arr 3 (v3.2.2.map Te.enc)]⟩) (gh.fin x0 x1) hr () 4 (by simp) (fun s3 f γ3 hr => ?_) (fun v3 γ3a σ1 m1 hr hc => ?_) (fun _ h => h)
    ·unfold gh.loop3 at hr
     refine AWp.seq ?_
     refine Try.tg hΓ [63] [] (by kernel_rfl) rfl (by simp; exact rr) ?_
     refine AWp.cond (b := (ltI s3.1 1000)) (by simp) (fun h58 => ?_) (fun h58 => ?_)
     ·have hr := Li h58 hr
      refine AWp.skip ?_
      refine AWp.meetF (fun (v4 : Int × List Te) (γ4 : Unit) => ⟨[⟨11, none, .n s3.1⟩, ⟨10, none, .n v4.1⟩, ⟨7, none, .asl 3 (lenL x0.fL) 3⟩, ⟨2, none, .ptr 0 0⟩, ⟨4, none, .ptr 1 0⟩, ⟨1, none, .sl (x1.map Tk.enc) .no⟩], [.blk [.n x0.fb, .asl 3 (lenL x0.fL) 3, .n ((nthI s3.2.2.2.2 s3.2.1).fId), .b false], .blk [.n 0, .sl [] .full, .n 0, .b false], .arr 0 [], .arr 3 (v4.2.map Te.enc)]⟩) (QRr (gh.fin x0 x1)) hr (fun f hr => ?_) (fun v4 γ4 hr => ?_) (fun _ h => QRr_ret h)
      ·refine AWp.block ?_
       obtain ⟨h59, hr⟩ := Lb hr
       obtain ⟨h60, hr⟩ := Lb hr
       refine Try.tg hΓ [] [63] (by kernel_rfl) rfl (by simp [h58, h59, h60]; exact rr) ?_
       refine AWp.meetF (fun (v5 : Bool × List Te) (γ5 : Unit) => ⟨[⟨11, none, .n s3.1⟩, ⟨10, none, .n s3.2.1⟩, ⟨7, none, .asl 3 (lenL x0.fL) 3⟩, ⟨2, none, .ptr 0 0⟩, ⟨4, none, .ptr 1 0⟩, ⟨1, none, .sl (x1.map Tk.enc) .no⟩], [.blk [.n x0.fb, .asl 3 (lenL x0.fL) 3, .n ((nthI s3.2.2.2.2 s3.2.1).fId), .b v5.1], .blk [.n 0, .sl [] .full, .n 0, .b false], .arr 0 [], .arr 3 (v5.2.map Te.enc)]⟩) (QRm (QRr (gh.fin x0 x1))) hr (fun f hr => ?_) (fun v5 γ5 hr => ?_) (fun _ h => QRm_ret h)
       ·refine Try.tg hΓ [75] [] (by kernel_rfl) rfl (by simp; exact rr) ?_
        refine AWp.cond (b := (notB s3.2.2.2.1)) (by simp) (fun h61 => ?_) (fun h61 => ?_)
        ·have hr := Li h61 hr
         obtain ⟨h62, hr⟩ := Lb hr
         obtain ⟨h63, hr⟩ := Lb hr
         obtain ⟨h64, hr⟩ := Lb hr
         obtain ⟨h65, hr⟩ := Lb hr
         obtain ⟨h66, hr⟩ := Lb hr
         obtain ⟨h67, hr⟩ := Lb hr
         refine Try.td hΓ [] [75] [] [(false, []), (false, []), (false, []), (false, []), (false, []), (false, []), (false, []), (false, []), (false, []), (false, []), (false, []), (false, []), (false, []), (true, [])] (by kernel_rfl) rfl (by simp [h59, h60, h61]; exact rr) ?_
         refine AWp.lst (AWp.reg Try.tyOk hΓ [] [] (by kernel_rfl) rfl (by simp; exact rr)) ?_
         obtain rfl := La hr
         exact Ls () 4 (by first | (simp; done) | simp [h39, h47, h48, h49, h51, h52, h58, h59, h60, h61, h62, h63, h64, h65, h66, h67])
        ·have hr := Lj h61 hr
         refine AWp.skip ?_
         obtain rfl := La hr
         exact Ls () 4 (by first | (simp; done) | simp [h39, h47, h48, h49, h51, h52, h58, h59, h60, h61])
       ·refine AWp.seq ?_
        obtain ⟨h68, hr⟩ := Lb hr
        obtain ⟨h69, hr⟩ := Lb hr
        obtain ⟨h70, hr⟩ := Lb hr
        obtain ⟨r5, h71, hr⟩ := Lc hr
        refine Try.td hΓ [100] [10] [] [(false, []), (false, []), (false, []), (false, []), (false, []), (false, []), (false, []), (false, []), (false, []), (false, []), (false, [])] (by kernel_rfl) rfl (by simp [h59, h70, h71]; exact rr) ?_
        refine AWp.cond (b := (leqI r5 ((nthI v5.2 s3.2.1).fk))) (by simp) (fun h72 => ?_) (fun h72 => ?_)
        ·have hr := Li h72 hr
         refine Try.td hΓ [5, 6] [100, 11, 7, 2, 1] [(1, 4), (2, 4)] [(false, []), (false, []), (false, []), (true, []), (false, []), (false, [])] (by kernel_rfl) rfl (by simp [h72]; exact rr) ?_
         obtain ⟨h73, hr⟩ := Lb hr
         refine AWp.see (See.freeze 3 (σ' := ⟨[⟨5, none, .n ((nthI s3.2.2.2.2 s3.2.1).fId)⟩, ⟨6, none, .b true⟩, ⟨4, none, .ptr 1 0⟩], [.blk [.n x0.fb, .sl (v5.2.map Te.enc) .no, .n ((nthI s3.2.2.2.2 s3.2.1).fId), .b v5.1], .blk [.n x0.fb, .sl (v5.2.map Te.enc) .no, .n ((nthI s3.2.2.2.2 s3.2.1).fId), .b v5.1], .arr 0 [], .dead]⟩) (by rfl) (by simp) (by simp [h70]) (by simp)) ?_
         refine AWp.ret ?_
         obtain rfl := La hr
         refine meet_ret ?_
         refine ⟨_, rfl, ?_⟩
         refine Lf ?_
         simp
        ·have hr := Lj h72 hr
         refine AWp.skip ?_
         obtain ⟨h74, hr⟩ := Lb hr
         obtain ⟨r6, h75, hr⟩ := Lc hr
         refine Try.tg hΓ [10] [100] (by kernel_rfl) rfl (by simp [h70, h72, h75]; exact rr) ?_
         refine AWp.lst (AWp.reg Try.tyOk hΓ [] [] (by kernel_rfl) rfl (by simp; exact rr)) ?_
         obtain rfl := La hr
         exact Ls () 4 (by first | (simp; done) | simp [h39, h47, h48, h49, h51, h52, h58, h59, h60, h68, h69, h70, h71, h72, h74, h75])
      ·refine AWp.lst (AWp.reg Try.tyOk hΓ [11] [] (by kernel_rfl) rfl (by simp; exact rr)) ?_
       obtain rfl := La hr
       exact Lm () 4 (by first | (simp; done) | simp [h39, h47, h48, h49, h51, h52, h58])
     ·have hr := Lj h58 hr
      refine AWp.exit ?_
      obtain rfl := La hr
      exact Lp () 4 (by first | (simp; done) | simp [h39, h47, h48, h49, h51, h52, h58])
    ·refine AWp.conv hc ?_
     refine Try.tg hΓ [5, 6] [2] (by kernel_rfl) rfl (by simp; exact rr) ?_
     obtain ⟨h76, hr⟩ := Lb hr
     refine AWp.see (See.freeze 3 (σ' := ⟨[⟨5, none, .n 0⟩, ⟨6, none, .b false⟩, ⟨4, none, .ptr 1 0⟩], [.blk [.n x0.fb, .sl (v3.2.2.map Te.enc) .no, .n v3.1, .b v3.2.1], .blk [.n x0.fb, .sl (v3.2.2.map Te.enc) .no, .n v3.1, .b v3.2.1], .arr 0 [], .dead]⟩) (by rfl) (by simp) (by simp [h76]) (by simp)) ?_
     refine AWp.ret ?_
     obtain rfl := La hr
     refine Lf ?_
     simp

@[simp] noncomputable def gh.S : Sp
 | [.agg e0, .sl e1 _], _ => (fun (y0 : Tf) => (fun (r : Tf × Int × Bool) => some { av := .tup [.agg [.lit (.int .i64 (r.1.fb)), .sl ((r.1.fL).map Te.enc) .no, .lit (.int .i64 (r.1.fAt)), .lit (.bool (r.1.ff))], .lit (.int .i64 (r.2.1)), .lit (.bool (r.2.2))], M := none, obl := WeakL e0 (Tf.enc y0) ∧ e1 = (e1.map Tk.dec).map Tk.enc ∧ (gh y0 (e1.map Tk.dec)).isSome = true }) ((gh y0 (e1.map Tk.dec)).getD dflt)) (Tf.dec e0)
 | _, _ => none

theorem gh.ok : SpecOk Try.prog 66 gh.S := by
 intro l M out h
 unfold gh.S at h
 split at h
 ·rename_i e0 e1 k1
  try dsimp only at h
  cases h
  refine callOk_of fun ho => ?_
  obtain ⟨ox0, ox1, hs⟩ := ho
  generalize (Tf.dec e0) = x0 at *
  generalize (e1.map Tk.dec) = x1 at *
  subst ox1
  obtain ⟨r, hr⟩ := Option.isSome_iff_exists.1 hs
  simp only [hr, Option.getD_some]
  have q := Lk (M := M) [] (gh.can x0 x1 r hr) (by simp) rfl (by intro k i hk; simp at hk)
  exact callOk_conv q trivial (by simp; exact ox0) (by simp [frameOut, gh.out]) (by simp [frameOut, gh.out])
 ·cases h

@[simp] def gaq.out (_x0 : Tf) (_x1 : Int) (r : Tf) : Out := { av := .agg [.lit (.int .i64 r.fb), .sl (r.fL.map Te.enc) .no, .lit (.int .i64 r.fAt), .lit (.bool r.ff)], M := none }
theorem gaq.can (x0 : Tf) (x1 : Int) (r : Tf) (hr : gaq x0 x1 = some r) : CallOk Try.prog 50 [.agg [.lit (.int .i64 x0.fb), .sl (x0.fL.map Te.enc) .no, .lit (.int .i64 x0.fAt), .lit (.bool x0.ff)], .lit (.int .i64 x1)] [] (gaq.out x0 x1 r) := by
 unfold gaq at hr
 have hΓ := (gamL_cons gP.ok (gamL_nil) : GamOk Try.prog _)
 refine Lg Try.tyOk Try.func50 rfl (by kernel_rfl) rfl rfl (by simp) ?_
 intro _ _ _
 refine Try.tg hΓ [2, 4] [0] (by kernel_rfl) rfl (by simp; exact rr) ?_
 obtain ⟨r1, h7, hr⟩ := Lc hr
 refine Try.tg hΓ [5] [] (by kernel_rfl) rfl (by simp [h7]; exact rr) ?_
 refine AWp.seq ?_
 obtain ⟨h8, hr⟩ := Lb hr
 refine Try.tg hΓ [31] [] (by kernel_rfl) rfl (by simp [h8]; exact rr) ?_
 refine AWp.cond (b := (pickB (pickB (pickB (notB x0.ff) true (ltI r1 0)) true (ltI x1 0)) true (ltI ((nthI x0.fL r1).fk) x1))) (by simp) (fun h9 => ?_) (fun h9 => ?_)
 ·have hr := Li h9 hr
  refine Try.tg hΓ [] [31, 5, 2, 1] (by kernel_rfl) rfl (by simp [h9]; exact rr) ?_
  refine AWp.ret ?_
  obtain rfl := La hr
  refine Lf ?_
  simp
 ·have hr := Lj h9 hr
  refine AWp.skip ?_
  refine AWp.see (See.markA (M' := [.blk x0.enc, .blk [.n 0, .sl [] .full, .n 0, .b false], .arr 0 []]) rfl) ?_
  obtain ⟨h10, hr⟩ := Lb hr
  refine Try.tg hΓ [6] [31] (by kernel_rfl) rfl (by simp [h9, h10]; exact rr) ?_
  obtain ⟨h11, hr⟩ := Lb hr
  obtain ⟨h12, hr⟩ := Lb hr
  refine Try.tg hΓ [] [5, 1] (by kernel_rfl) rfl (by simp [h11]; exact rr) ?_
  refine Try.tg hΓ [] [6] (by kernel_rfl) rfl (by simp; exact rr) ?_
  refine Try.tg hΓ [] [2] (by kernel_rfl) rfl (by simp; exact rr) ?_
  refine AWp.see (See.freeze 3 (σ' := ⟨[⟨4, none, .ptr 1 0⟩], [.blk [.n x0.fb, .sl ((setI x0.fL r1 (Te.mk ((nthI x0.fL r1).fId) ((nthI x0.fL r1).fj) (subI .i64 ((nthI x0.fL r1).fk) x1))).map Te.enc) .no, .n x0.fAt, .b x0.ff], .blk [.n x0.fb, .sl ((setI x0.fL r1 (Te.mk ((nthI x0.fL r1).fId) ((nthI x0.fL r1).fj) (subI .i64 ((nthI x0.fL r1).fk) x1))).map Te.enc) .no, .n x0.fAt, .b x0.ff], .arr 0 [], .dead]⟩) (by rfl) (by simp) (by simp) (by simp)) ?_
  refine AWp.ret ?_
  obtain rfl := La hr
  refine Lf ?_
  simp

@[simp] noncomputable def gaq.S : Sp
 | [.agg e0, .lit (.int .i64 x1)], _ => some { av := .agg [.lit (.int .i64 (((gaq (Tf.dec e0) x1).getD dflt).fb)), .sl ((((gaq (Tf.dec e0) x1).getD dflt).fL).map Te.enc) .no, .lit (.int .i64 (((gaq (Tf.dec e0) x1).getD dflt).fAt)), .lit (.bool (((gaq (Tf.dec e0) x1).getD dflt).ff))], M := none, obl := WeakL e0 (Tf.enc (Tf.dec e0)) ∧ (gaq (Tf.dec e0) x1).isSome = true }
 | _, _ => none

theorem gaq.ok : SpecOk Try.prog 50 gaq.S := by
 intro l M out h
 unfold gaq.S at h
 split at h
 ·rename_i e0 x1
  cases h
  refine callOk_of fun ho => ?_
  obtain ⟨ox0, hs⟩ := ho
  generalize (Tf.dec e0) = x0 at *
  obtain ⟨r, hr⟩ := Option.isSome_iff_exists.1 hs
  simp only [hr, Option.getD_some]
  have q := Lk (M := M) [] (gaq.can x0 x1 r hr) (by simp) rfl (by intro k i hk; simp at hk)
  exact callOk_conv q trivial (by simp; exact ox0) (by simp [frameOut, gaq.out]) (by simp [frameOut, gaq.out])
 ·cases h
end Go.Proofs

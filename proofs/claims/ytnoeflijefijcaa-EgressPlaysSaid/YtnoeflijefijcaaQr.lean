/- That these functions compute what their plain functions do. No condition. -/
import Derived.Test.YtnoeflijefijcaaM01
import Derived.Test.YtnoeflijefijcaaTy
set_option maxRecDepth 100000
set_option maxHeartbeats 4000000
namespace Go.Proofs
open Go.Ab
@[simp] def gJ.out (_x0 : List Ta) (r : Int) : Out := { av := .lit (.int .i64 r), M := none }
def gJ.fin (x0 : List Ta) (r : Int) (σ : St) : Prop := finK (gJ.out x0 r) [] σ.M (resA Try.ty σ.A σ.M Try.f39.results.toList)
theorem gJ.can (x0 : List Ta) (r : Int) (hr : gJ x0 = some r) : CallOk Try.prog 39 [.sl (x0.map Ta.enc) .no] [] (gJ.out x0 r) := by
 unfold gJ at hr
 have hΓ := gamL_nil (P := Try.prog)
 refine Lg Try.tyOk Try.func39 rfl (by kernel_rfl) rfl rfl (by simp) ?_
 intro _ _ _
 refine Try.tg hΓ [] [] (by kernel_rfl) rfl (by simp; exact rr) ?_
 refine Try.tg hΓ [3] [] (by kernel_rfl) rfl (by simp; exact rr) ?_
 refine AWp.seq ?_
 refine Try.tg hΓ [6, 7, 8] [0] (by kernel_rfl) rfl (by simp; exact rr) ?_
 refine AWp.loopE (fun (s1 : Int × Int) (γ1 : Unit) => ⟨[⟨6, none, .sl (x0.map Ta.enc) .no⟩, ⟨7, none, .n (lenL x0)⟩, ⟨8, none, .n s1.1⟩, ⟨3, none, .n s1.2⟩], []⟩) (fun (v1 : Int) (γ1a : Unit) => ⟨[⟨3, none, .n v1⟩], []⟩) (gJ.fin x0) hr () 0 (by simp) (fun s1 f γ1 hr => ?_) (fun v1 γ1a σ1 m1 hr hc => ?_) (fun _ h => h)
 ·unfold gJ.loop1 at hr
  refine Try.tg hΓ [9] [] (by kernel_rfl) rfl (by simp; exact rr) ?_
  refine AWp.seq ?_
  refine AWp.cond (b := (ltI s1.1 (lenL x0))) (by simp) (fun h3 => ?_) (fun h3 => ?_)
  ·have hr := Li h3 hr
   refine AWp.skip ?_
   refine AWp.seq ?_
   refine AWp.block ?_
   obtain ⟨h4, hr⟩ := Lb hr
   refine Try.tg hΓ [5] [9] (by kernel_rfl) rfl (by simp [h3, h4]; exact rr) ?_
   refine AWp.lst (AWp.reg Try.tyOk hΓ [3] [5] (by kernel_rfl) rfl (by simp; exact rr)) ?_
   refine AWp.lst (AWp.reg Try.tyOk hΓ [8] [] (by kernel_rfl) rfl (by simp; exact rr)) ?_
   obtain rfl := La hr
   exact Lm () 0 (by first | (simp; done) | simp [h3, h4])
  ·have hr := Lj h3 hr
   refine AWp.exit ?_
   obtain rfl := La hr
   exact Lp () 0 (by first | (simp; done) | simp [h3])
 ·refine AWp.conv hc ?_
  refine Try.tg hΓ [2] [3] (by kernel_rfl) rfl (by simp; exact rr) ?_
  refine AWp.ret ?_
  obtain rfl := La hr
  refine Lf ?_
  simp

@[simp] noncomputable def gJ.S : Sp
 | [.sl e0 _], _ => some { av := .lit (.int .i64 ((gJ (e0.map Ta.dec)).getD dflt)), M := none, obl := e0 = (e0.map Ta.dec).map Ta.enc ∧ (gJ (e0.map Ta.dec)).isSome = true }
 | _, _ => none

theorem gJ.ok : SpecOk Try.prog 39 gJ.S := by
 intro l M out h
 unfold gJ.S at h
 split at h
 ·rename_i e0 k0
  cases h
  refine callOk_of fun ho => ?_
  obtain ⟨ox0, hs⟩ := ho
  generalize (e0.map Ta.dec) = x0 at *
  subst ox0
  obtain ⟨r, hr⟩ := Option.isSome_iff_exists.1 hs
  simp only [hr, Option.getD_some]
  have q := Lk (M := M) [] (gJ.can x0 r hr) (by simp) rfl (by intro k i hk; simp at hk)
  exact callOk_conv q trivial (by simp) (by simp [frameOut, gJ.out]) (by simp [frameOut, gJ.out])
 ·cases h

@[simp] def gW.out (_x0 : Tn) (r : Tn × List Ta) : Out := { av := .tup [.agg [.lit (.int .i64 r.1.fh), .lit (.int .i64 r.1.fb), .sl (r.1.fL.map Ta.enc) .no, .lit (.bool r.1.fv)], .sl (r.2.map Ta.enc) .no], M := none }
def gW.fin (x0 : Tn) (r : Tn × List Ta) (σ : St) : Prop := finK (gW.out x0 r) [] σ.M (resA Try.ty σ.A σ.M Try.f65.results.toList)
theorem gW.can (x0 : Tn) (r : Tn × List Ta) (hr : gW x0 = some r) : CallOk Try.prog 65 [.agg [.lit (.int .i64 x0.fh), .lit (.int .i64 x0.fb), .sl (x0.fL.map Ta.enc) .no, .lit (.bool x0.fv)]] [] (gW.out x0 r) := by
 unfold gW at hr
 have hΓ := gamL_nil (P := Try.prog)
 refine Lg Try.tyOk Try.func65 rfl (by kernel_rfl) rfl rfl (by simp) ?_
 intro _ _ _
 refine Try.tg hΓ [1, 2] [0] (by kernel_rfl) rfl (by simp; exact rr) ?_
 refine Try.tg hΓ [4] [] (by kernel_rfl) rfl (by simp; exact rr) ?_
 refine AWp.loopB (fun (s1 : Int) (γ1 : Unit) => ⟨[⟨4, none, .n s1⟩, ⟨1, none, .ptr 0 0⟩, ⟨2, none, .ptr 1 0⟩], [.blk x0.enc, .blk [.n 0, .n 0, .sl [] .full, .b false]]⟩) (fun (v1 : Int) (γ1a : Unit) => ⟨[⟨4, none, .n v1⟩, ⟨1, none, .ptr 0 0⟩, ⟨2, none, .ptr 1 0⟩], [.blk x0.enc, .blk [.n 0, .n 0, .sl [] .full, .b false]]⟩) (gW.fin x0) hr () 2 (by simp) (fun s1 f γ1 hr => ?_) (fun v1 γ1a hr => ?_) (fun _ h => h)
 ·unfold gW.loop1 at hr
  refine AWp.seq ?_
  obtain ⟨h5, hr⟩ := Lb hr
  refine Try.tg hΓ [19] [] (by kernel_rfl) rfl (by simp [h5]; exact rr) ?_
  refine AWp.cond (b := (pickB (ltI s1 (lenL x0.fL)) (notB ((nthI x0.fL s1).fz)) false)) (by simp) (fun h6 => ?_) (fun h6 => ?_)
  ·have hr := Li h6 hr
   refine AWp.skip ?_
   refine AWp.block ?_
   refine AWp.lst (AWp.reg Try.tyOk hΓ [4] [19] (by kernel_rfl) rfl (by simp [h6]; exact rr)) ?_
   obtain rfl := La hr
   exact Lm () 2 (by first | (simp; done) | simp [h5, h6])
  ·have hr := Lj h6 hr
   refine AWp.exit ?_
   obtain rfl := La hr
   exact Lp () 2 (by first | (simp; done) | simp [h5, h6])
 ·obtain ⟨h7, hr⟩ := Lb hr
  refine Try.tg hΓ [5] [] (by kernel_rfl) rfl (by simp [h7]; exact rr) ?_
  obtain ⟨h8, hr⟩ := Lb hr
  refine Try.tg hΓ [] [4] (by kernel_rfl) rfl (by simp [h8]; exact rr) ?_
  refine Try.tg hΓ [] [] (by kernel_rfl) rfl (by simp; exact rr) ?_
  refine Try.tg hΓ [3] [5, 1] (by kernel_rfl) rfl (by simp; exact rr) ?_
  refine AWp.ret ?_
  obtain rfl := La hr
  refine Lf ?_
  simp

@[simp] noncomputable def gW.S : Sp
 | [.agg e0], _ => (fun (y0 : Tn) => (fun (r : Tn × List Ta) => some { av := .tup [.agg [.lit (.int .i64 (r.1.fh)), .lit (.int .i64 (r.1.fb)), .sl ((r.1.fL).map Ta.enc) .no, .lit (.bool (r.1.fv))], .sl ((r.2).map Ta.enc) .no], M := none, obl := WeakL e0 (Tn.enc y0) ∧ (gW y0).isSome = true }) ((gW y0).getD dflt)) (Tn.dec e0)
 | _, _ => none

theorem gW.ok : SpecOk Try.prog 65 gW.S := by
 intro l M out h
 unfold gW.S at h
 split at h
 ·rename_i e0
  try dsimp only at h
  cases h
  refine callOk_of fun ho => ?_
  obtain ⟨ox0, hs⟩ := ho
  generalize (Tn.dec e0) = x0 at *
  obtain ⟨r, hr⟩ := Option.isSome_iff_exists.1 hs
  simp only [hr, Option.getD_some]
  have q := Lk (M := M) [] (gW.can x0 r hr) (by simp) rfl (by intro k i hk; simp at hk)
  exact callOk_conv q trivial (by simp; exact ox0) (by simp [frameOut, gW.out]) (by simp [frameOut, gW.out])
 ·cases h

@[simp] def gX.out (_x0 : Tn) (_x1 : Ta) (r : Tn × List Ta × Bool) : Out := { av := .tup [.agg [.lit (.int .i64 r.1.fh), .lit (.int .i64 r.1.fb), .sl (r.1.fL.map Ta.enc) .no, .lit (.bool r.1.fv)], .sl (r.2.1.map Ta.enc) .no, .lit (.bool r.2.2)], M := none }
def gX.fin (x0 : Tn) (x1 : Ta) (r : Tn × List Ta × Bool) (σ : St) : Prop := finK (gX.out x0 x1 r) [] σ.M (resA Try.ty σ.A σ.M Try.f46.results.toList)
theorem gX.can (x0 : Tn) (x1 : Ta) (r : Tn × List Ta × Bool) (hr : gX x0 x1 = some r) : CallOk Try.prog 46 [.agg [.lit (.int .i64 x0.fh), .lit (.int .i64 x0.fb), .sl (x0.fL.map Ta.enc) .no, .lit (.bool x0.fv)], .agg [.lit (.int .i64 x1.fN), .lit (.int .i64 x1.fm), .lit (.int .i64 x1.fy), .lit (.bool x1.fz)]] [] (gX.out x0 x1 r) := by
 unfold gX at hr
 have hΓ := (gamL_cons gW.ok (gamL_cons gJ.ok (gamL_nil)) : GamOk Try.prog _)
 refine Lg Try.tyOk Try.func46 rfl (by kernel_rfl) rfl rfl (by simp) ?_
 intro _ _ _
 refine Try.tg hΓ [2, 3, 4] [0, 1] (by kernel_rfl) rfl (by simp; exact rr) ?_
 refine AWp.seq ?_
 refine Try.tg hΓ [28] [] (by kernel_rfl) rfl (by simp; exact rr) ?_
 refine AWp.cond (b := (pickB (pickB (ltI x1.fm 0) true (ltI x0.fb x1.fm)) true (pickB x0.fv (notB x1.fz) false))) (by simp) (fun h9 => ?_) (fun h9 => ?_)
 ·have hr := Li h9 hr
  refine Try.tg hΓ [] [28, 3] (by kernel_rfl) rfl (by simp [h9]; exact rr) ?_
  refine Try.tg hΓ [5, 6] [2] (by kernel_rfl) rfl (by simp; exact rr) ?_
  refine AWp.ret ?_
  obtain rfl := La hr
  refine Lf ?_
  simp
 ·have hr := Lj h9 hr
  refine AWp.skip ?_
  refine Try.tg hΓ [7] [28] (by kernel_rfl) rfl (by simp [h9]; exact rr) ?_
  refine AWp.equip 7 4 (els := []) (by simp) (by simp) ?_
  refine AWp.loopB (fun (s1 : List Ta × Tn) (γ1 : Nat) => ⟨[⟨7, none, .sl (s1.1.map Ta.enc) (.own 3 (γ1) 4)⟩, ⟨2, none, .ptr 0 0⟩, ⟨3, none, .ptr 1 0⟩, ⟨4, none, .ptr 2 0⟩], [.blk s1.2.enc, .blk x1.enc, .blk [.n 0, .n 0, .sl [] .full, .b false], .room (γ1)]⟩) (fun (v1 : List Ta × Tn) (γ1a : Nat) => ⟨[⟨7, none, .sl (v1.1.map Ta.enc) (.own 3 (γ1a) 4)⟩, ⟨2, none, .ptr 0 0⟩, ⟨3, none, .ptr 1 0⟩, ⟨4, none, .ptr 2 0⟩], [.blk v1.2.enc, .blk x1.enc, .blk [.n 0, .n 0, .sl [] .full, .b false], .room (γ1a)]⟩) (gX.fin x0 x1) hr 0 4 (by simp) (fun s1 f γ1 hr => ?_) (fun v1 γ1a hr => ?_) (fun _ h => h)
  ·unfold gX.loop1 at hr
   refine AWp.seq ?_
   obtain ⟨h10, hr⟩ := Lb hr
   refine Try.td hΓ [48] [] [] [(false, []), (false, []), (false, []), (false, []), (false, []), (false, []), (false, []), (false, [38]), (false, [38]), (false, [38]), (false, [38]), (false, [38]), (false, [38]), (false, [38]), (false, [38]), (false, [38]), (false, [])] (by kernel_rfl) rfl (by simp [h10]; exact rr) ?_
   refine AWp.cond (b := (pickB (leqI s1.2.fh (lenL s1.2.fL)) true (ltI (subI .i64 s1.2.fb x1.fm) ((gJ s1.2.fL).getD dflt)))) (by simp) (fun h11 => ?_) (fun h11 => ?_)
   ·have hr := Li h11 hr
    refine AWp.skip ?_
    refine AWp.block ?_
    obtain ⟨r1, h12, hr⟩ := Lc hr
    refine Try.tg hΓ [8, 9] [48] (by kernel_rfl) rfl (by simp [h11, h12]; exact rr) ?_
    refine Try.tg hΓ [] [8] (by kernel_rfl) rfl (by simp; exact rr) ?_
    obtain ⟨h13, hr⟩ := Lb hr
    refine AWp.lst (AWp.reg Try.tyOk hΓ [7] [9] (by kernel_rfl) rfl (by simp [h13]; exact rr)) ?_
    obtain rfl := La hr
    exact Lm (γ1 + 1) 4 (by first | (simp; done) | simp [h9, h10, h11, h12, h13])
   ·have hr := Lj h11 hr
    refine AWp.exit ?_
    obtain rfl := La hr
    exact Lp (γ1) 4 (by first | (simp; done) | simp [h9, h10, h11])
  ·refine AWp.seq ?_
   refine Try.tg hΓ [64] [] (by kernel_rfl) rfl (by simp; exact rr) ?_
   refine AWp.cond (b := (pickB v1.2.fv (notB x1.fz) false)) (by simp) (fun h14 => ?_) (fun h14 => ?_)
   ·have hr := Li h14 hr
    refine Try.tg hΓ [5, 6] [64, 7, 2, 3] (by kernel_rfl) rfl (by simp [h14]; exact rr) ?_
    refine AWp.ret ?_
    obtain rfl := La hr
    refine Lf ?_
    simp
   ·have hr := Lj h14 hr
    refine AWp.skip ?_
    refine Try.tg hΓ [] [64] (by kernel_rfl) rfl (by simp [h14]; exact rr) ?_
    obtain ⟨h15, hr⟩ := Lb hr
    obtain ⟨h16, hr⟩ := Lb hr
    refine Try.td hΓ [] [3] [(4, 0), (5, 0)] [(false, []), (false, []), (false, []), (true, []), (false, []), (false, []), (true, []), (false, []), (true, [])] (by kernel_rfl) rfl (by simp [h15, h16]; exact rr) ?_
    refine Try.tg hΓ [5, 6] [7, 2] (by kernel_rfl) rfl (by simp; exact rr) ?_
    refine AWp.ret ?_
    obtain rfl := La hr
    refine Lf ?_
    simp

@[simp] noncomputable def gX.S : Sp
 | [.agg e0, .agg e1], _ => (fun (y0 : Tn) => (fun (y1 : Ta) => (fun (r : Tn × List Ta × Bool) => some { av := .tup [.agg [.lit (.int .i64 (r.1.fh)), .lit (.int .i64 (r.1.fb)), .sl ((r.1.fL).map Ta.enc) .no, .lit (.bool (r.1.fv))], .sl ((r.2.1).map Ta.enc) .no, .lit (.bool (r.2.2))], M := none, obl := WeakL e0 (Tn.enc y0) ∧ WeakL e1 (Ta.enc y1) ∧ (gX y0 y1).isSome = true }) ((gX y0 y1).getD dflt)) (Ta.dec e1)) (Tn.dec e0)
 | _, _ => none

theorem gX.ok : SpecOk Try.prog 46 gX.S := by
 intro l M out h
 unfold gX.S at h
 split at h
 ·rename_i e0 e1
  try dsimp only at h
  cases h
  refine callOk_of fun ho => ?_
  obtain ⟨ox0, ox1, hs⟩ := ho
  generalize (Tn.dec e0) = x0 at *
  generalize (Ta.dec e1) = x1 at *
  obtain ⟨r, hr⟩ := Option.isSome_iff_exists.1 hs
  simp only [hr, Option.getD_some]
  have q := Lk (M := M) [] (gX.can x0 x1 r hr) (by simp) rfl (by intro k i hk; simp at hk)
  exact callOk_conv q trivial (by simp; exact ⟨ox0, ox1⟩) (by simp [frameOut, gX.out]) (by simp [frameOut, gX.out])
 ·cases h

@[simp] def gR.out (_x0 : Tn) (_x1 : Int) (_x2 : Int) (r : Tn × List Ta) : Out := { av := .tup [.agg [.lit (.int .i64 r.1.fh), .lit (.int .i64 r.1.fb), .sl (r.1.fL.map Ta.enc) .no, .lit (.bool r.1.fv)], .sl (r.2.map Ta.enc) .no], M := none }
def gR.fin (x0 : Tn) (x1 : Int) (x2 : Int) (r : Tn × List Ta) (σ : St) : Prop := finK (gR.out x0 x1 x2 r) [] σ.M (resA Try.ty σ.A σ.M Try.f51.results.toList)
theorem gR.can (x0 : Tn) (x1 : Int) (x2 : Int) (r : Tn × List Ta) (hr : gR x0 x1 x2 = some r) : CallOk Try.prog 51 [.agg [.lit (.int .i64 x0.fh), .lit (.int .i64 x0.fb), .sl (x0.fL.map Ta.enc) .no, .lit (.bool x0.fv)], .lit (.int .i64 x1), .lit (.int .i64 x2)] [] (gR.out x0 x1 x2 r) := by
 unfold gR at hr
 have hΓ := (gamL_cons gW.ok (gamL_nil) : GamOk Try.prog _)
 refine Lg Try.tyOk Try.func51 rfl (by kernel_rfl) rfl rfl (by simp) ?_
 intro _ _ _
 refine Try.tg hΓ [3, 6] [0] (by kernel_rfl) rfl (by simp; exact rr) ?_
 refine Try.tg hΓ [8] [] (by kernel_rfl) rfl (by simp; exact rr) ?_
 refine AWp.equip 8 4 (els := []) (by simp) (by simp) ?_
 refine AWp.loopB (fun (s1 : List Ta × Tn) (γ1 : Nat) => ⟨[⟨8, none, .sl (s1.1.map Ta.enc) (.own 2 (γ1) 4)⟩, ⟨3, none, .ptr 0 0⟩, ⟨6, none, .ptr 1 0⟩, ⟨1, none, .n x1⟩, ⟨2, none, .n x2⟩], [.blk s1.2.enc, .blk [.n 0, .n 0, .sl [] .full, .b false], .room (γ1)]⟩) (fun (v1 : List Ta × Tn) (γ1a : Nat) => ⟨[⟨8, none, .sl (v1.1.map Ta.enc) (.own 2 (γ1a) 4)⟩, ⟨3, none, .ptr 0 0⟩, ⟨6, none, .ptr 1 0⟩], [.blk v1.2.enc, .blk [.n 0, .n 0, .sl [] .full, .b false], .room (γ1a)]⟩) (gR.fin x0 x1 x2) hr 0 3 (by simp) (fun s1 f γ1 hr => ?_) (fun v1 γ1a hr => ?_) (fun _ h => h)
 ·unfold gR.loop1 at hr
  refine AWp.seq ?_
  obtain ⟨h5, hr⟩ := Lb hr
  refine Try.tg hΓ [26] [] (by kernel_rfl) rfl (by simp [h5]; exact rr) ?_
  refine AWp.cond (b := (pickB (ltI 0 (lenL s1.2.fL)) (leqI x2 (subI .i64 x1 ((nthI s1.2.fL 0).fy))) false)) (by simp) (fun h6 => ?_) (fun h6 => ?_)
  ·have hr := Li h6 hr
   refine AWp.skip ?_
   refine AWp.block ?_
   obtain ⟨r1, h7, hr⟩ := Lc hr
   refine Try.tg hΓ [9, 10] [26] (by kernel_rfl) rfl (by simp [h6, h7]; exact rr) ?_
   refine Try.tg hΓ [] [9] (by kernel_rfl) rfl (by simp; exact rr) ?_
   obtain ⟨h8, hr⟩ := Lb hr
   refine AWp.lst (AWp.reg Try.tyOk hΓ [8] [10] (by kernel_rfl) rfl (by simp [h8]; exact rr)) ?_
   obtain rfl := La hr
   exact Lm (γ1 + 1) 3 (by first | (simp; done) | simp [h5, h6, h7, h8])
  ·have hr := Lj h6 hr
   refine AWp.exit ?_
   obtain rfl := La hr
   exact Lp (γ1) 3 (by first | (simp; done) | simp [h5, h6])
 ·refine Try.tg hΓ [7] [8, 3] (by kernel_rfl) rfl (by simp; exact rr) ?_
  refine AWp.ret ?_
  obtain rfl := La hr
  refine Lf ?_
  simp

@[simp] noncomputable def gR.S : Sp
 | [.agg e0, .lit (.int .i64 x1), .lit (.int .i64 x2)], _ => (fun (y0 : Tn) => (fun (r : Tn × List Ta) => some { av := .tup [.agg [.lit (.int .i64 (r.1.fh)), .lit (.int .i64 (r.1.fb)), .sl ((r.1.fL).map Ta.enc) .no, .lit (.bool (r.1.fv))], .sl ((r.2).map Ta.enc) .no], M := none, obl := WeakL e0 (Tn.enc y0) ∧ (gR y0 x1 x2).isSome = true }) ((gR y0 x1 x2).getD dflt)) (Tn.dec e0)
 | _, _ => none

theorem gR.ok : SpecOk Try.prog 51 gR.S := by
 intro l M out h
 unfold gR.S at h
 split at h
 ·rename_i e0 x1 x2
  try dsimp only at h
  cases h
  refine callOk_of fun ho => ?_
  obtain ⟨ox0, hs⟩ := ho
  generalize (Tn.dec e0) = x0 at *
  obtain ⟨r, hr⟩ := Option.isSome_iff_exists.1 hs
  simp only [hr, Option.getD_some]
  have q := Lk (M := M) [] (gR.can x0 x1 x2 r hr) (by simp) rfl (by intro k i hk; simp at hk)
  exact callOk_conv q trivial (by simp; exact ox0) (by simp [frameOut, gR.out]) (by simp [frameOut, gR.out])
 ·cases h
end Go.Proofs

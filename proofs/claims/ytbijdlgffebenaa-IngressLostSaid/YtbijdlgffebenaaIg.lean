/- That these functions compute what their plain functions do. No condition. -/
import Derived.Test.YtbijdlgffebenaaQ09
import Derived.Test.YtbijdlgffebenaaTy
import Derived.Test.YtbijdlgffebenaaFr
import Derived.Test.YtbijdlgffebenaaRo
import Derived.Test.YtbijdlgffebenaaEx
import Derived.Test.YtbijdlgffebenaaOx
import Derived.Test.YtbijdlgffebenaaRr
set_option maxRecDepth 100000
set_option maxHeartbeats 4000000
namespace Go.Proofs
open Go.Ab
@[simp] def gQ.out (_x0 : Tu) (r : Int) : Out := { av := .lit (.int .i64 r), M := none }
def gQ.fin (x0 : Tu) (r : Int) (σ : St) : Prop := finK (gQ.out x0 r) [] σ.M (resA Try.ty σ.A σ.M Try.f20.results.toList)
theorem gQ.can (x0 : Tu) (r : Int) (hr : gQ x0 = some r) : CallOk Try.prog 20 [.agg [.lit (.int .i64 x0.fo.fk), .lit (.int .i64 x0.fo.fq), .lit (.bool x0.fD.fu), .lit (.int .i64 x0.fD.fv), .lit (.int .i64 x0.fD.fj), .lit (.int .i64 x0.fD.fq)]] [] (gQ.out x0 r) := by
 unfold gQ at hr
 have hΓ := (gamL_cons gy.ok (gamL_cons gq.ok (gamL_nil)) : GamOk Try.prog _)
 refine Lf Try.tyOk Try.func20 rfl (by kernel_rfl) rfl rfl (by simp) ?_
 intro _ _ _
 refine AWp.then ⟨[⟨1, none, .ptr 0 0⟩], [.blk x0.enc]⟩ (AWp.reg Try.tyOk hΓ [1] [0] (by kernel_rfl) rfl (by simp)) ?_
 refine AWp.seq ?_
 obtain ⟨r1, h4, hr⟩ := Lc hr
 refine AWp.then ⟨[⟨3, none, .n r1⟩, ⟨1, none, .ptr 0 0⟩], [.blk x0.enc]⟩ (AWp.reg Try.tyOk hΓ [3] [] (by kernel_rfl) rfl (by simp [h4])) ?_
 refine AWp.thenA [⟨8, none, .b (neI r1 0)⟩, ⟨3, none, .n r1⟩, ⟨1, none, .ptr 0 0⟩] (AWp.reg Try.tyOk hΓ [8] [] (by kernel_rfl) rfl (by simp)) ?_
 refine AWp.cond (b := (neI r1 0)) (by simp) (fun h5 => ?_) (fun h5 => ?_)
 ·have hr := Lj h5 hr
  refine AWp.thenA [⟨2, none, .n r1⟩] (AWp.reg Try.tyOk hΓ [2] [8, 3, 1] (by kernel_rfl) rfl (by simp [h5])) ?_
  refine AWp.ret ?_
  obtain rfl := La hr
  refine Lg ?_
  simp
 ·have hr := Lk h5 hr
  refine AWp.skip ?_
  obtain ⟨r2, h6, hr⟩ := Lc hr
  refine AWp.then ⟨[⟨2, none, .n r2⟩], [.blk x0.enc]⟩ (AWp.reg Try.tyOk hΓ [2] [8, 3, 1] (by kernel_rfl) rfl (by simp [h5, h6])) ?_
  refine AWp.ret ?_
  obtain rfl := La hr
  refine Lg ?_
  simp

@[simp] noncomputable def gQ.S : Sp
 | [.agg e0], _ => some { av := .lit (.int .i64 ((gQ (Tu.dec e0)).getD dflt)), M := none, obl := WeakL e0 (Tu.enc (Tu.dec e0)) ∧ (gQ (Tu.dec e0)).isSome = true }
 | _, _ => none

theorem gQ.ok : SpecOk Try.prog 20 gQ.S := by
 intro l M out h
 unfold gQ.S at h
 split at h
 ·rename_i e0
  cases h
  refine callOk_of fun ho => ?_
  obtain ⟨ox0, hs⟩ := ho
  generalize (Tu.dec e0) = x0 at *
  obtain ⟨r, hr⟩ := Option.isSome_iff_exists.1 hs
  simp only [hr, Option.getD_some]
  have q := Lh (M := M) [] (gQ.can x0 r hr) (by simp) rfl (by intro k i hk; simp at hk)
  exact callOk_conv q trivial (by simp; exact ox0) (by simp [frameOut, gQ.out]) (by simp [frameOut, gQ.out])
 ·cases h

@[simp] def gY.out (_x0 : Tu) (r : Option Tf × Int) : Out := { av := .tup [(optC r.1 (.lit (.pointer none)) fun _ => .ptr 7 0), .lit (.int .i64 r.2)], M := some (optC r.1 [] fun m0 => [.dead, .dead, .mapo (encM (kI .i64) (vA Ta.enc) m0.fa.fOf), .blk [.lit (.int .i64 m0.fa.fb.fk), .lit (.int .i64 m0.fa.fb.fq), .lit (.bool m0.fa.fd), .lit (.int .i64 m0.fa.fg), .mp 2, .lit (.int .i64 m0.fa.fe)], .dead, .blk [.lit (.bool m0.fc.fb.fu), .lit (.int .i64 m0.fc.fb.fv), .lit (.int .i64 m0.fc.fb.fj), .lit (.int .i64 m0.fc.fb.fq), .sl (m0.fc.fw.fj.map Tc.enc) .no, .lit (.int .i64 m0.fc.fz), .lit (.int .i64 m0.fc.fe)], .mapo (encM (kI .i64) (vA Tb.enc) m0.fOf), .blk [.ptr 3 0, .ptr 5 0, .lit (.bool m0.ff.fd), .lit (.int .i64 m0.ff.fk), .lit (.int .u16 m0.ff.fV), .lit (.int .i64 m0.ff.fM), .lit (.int .i64 m0.ff.fC), .lit (.bool m0.fh.fd), .lit (.int .i64 m0.fh.fW), .mp 6, .lit (.int .i64 m0.fp), .lit (.int .i64 m0.fm)]]) }
def gY.fin (x0 : Tu) (r : Option Tf × Int) (σ : St) : Prop := finK (gY.out x0 r) [] σ.M (resA Try.ty σ.A σ.M Try.f19.results.toList)
theorem gY.can (x0 : Tu) (r : Option Tf × Int) (hr : gY x0 = some r) : CallOk Try.prog 19 [.agg [.lit (.int .i64 x0.fo.fk), .lit (.int .i64 x0.fo.fq), .lit (.bool x0.fD.fu), .lit (.int .i64 x0.fD.fv), .lit (.int .i64 x0.fD.fj), .lit (.int .i64 x0.fD.fq)]] [] (gY.out x0 r) := by
 unfold gY at hr
 have hΓ := (gamL_cons gae.ok (gamL_cons gaa.ok (gamL_nil)) : GamOk Try.prog _)
 refine Lf Try.tyOk Try.func19 rfl (by kernel_rfl) rfl rfl (by simp) ?_
 intro _ _ _
 refine AWp.then ⟨[⟨1, none, .ptr 0 0⟩], [.blk x0.enc]⟩ (AWp.reg Try.tyOk hΓ [1] [0] (by kernel_rfl) rfl (by simp)) ?_
 obtain ⟨r1, h13, hr⟩ := Lc hr
 cases h14 : r1.1 with
 | none =>
  have hr := optC_n h14 hr
  refine AWp.thenA [⟨4, none, .lit (.pointer none)⟩, ⟨5, none, .n r1.2⟩, ⟨1, none, .ptr 0 0⟩] (AWp.reg Try.tyOk hΓ [4, 5] [] (by kernel_rfl) rfl (by simp [h13, h14])) ?_
  refine AWp.seq ?_
  refine AWp.then ⟨[⟨14, none, .b (neI r1.2 0)⟩, ⟨4, none, .lit (.pointer none)⟩, ⟨5, none, .n r1.2⟩, ⟨1, none, .ptr 0 0⟩], [.blk x0.enc]⟩ (AWp.reg Try.tyOk hΓ [14] [] (by kernel_rfl) rfl (by simp)) ?_
  refine AWp.cond (b := (neI r1.2 0)) (by simp) (fun h15 => ?_) (fun h15 => ?_)
  ·have hr := Lj h15 hr
   refine AWp.thenA [⟨2, none, .lit (.pointer none)⟩, ⟨3, none, .n r1.2⟩] (AWp.reg Try.tyOk hΓ [2, 3] [14, 4, 5, 1] (by kernel_rfl) rfl (by simp [h15])) ?_
   refine AWp.ret ?_
   obtain rfl := La hr
   refine Lg ?_
   simp
  ·have hr := Lk h15 hr
   refine AWp.skip ?_
   obtain ⟨r2, h16, hr⟩ := Lc hr
   cases h17 : r2.1 with
   | none =>
    have hr := optC_n h17 hr
    refine AWp.then ⟨[⟨6, none, .lit (.pointer none)⟩, ⟨5, none, .n r2.2⟩, ⟨4, none, .lit (.pointer none)⟩], [.blk x0.enc]⟩ (AWp.reg Try.tyOk hΓ [6, 5] [14, 1] (by kernel_rfl) rfl (by simp [h15, h16, h17])) ?_
    refine AWp.seq ?_
    refine AWp.then ⟨[⟨23, none, .b (neI r2.2 0)⟩, ⟨6, none, .lit (.pointer none)⟩, ⟨5, none, .n r2.2⟩, ⟨4, none, .lit (.pointer none)⟩], [.blk x0.enc]⟩ (AWp.reg Try.tyOk hΓ [23] [] (by kernel_rfl) rfl (by simp)) ?_
    refine AWp.cond (b := (neI r2.2 0)) (by simp) (fun h18 => ?_) (fun h18 => ?_)
    ·have hr := Lj h18 hr
     refine AWp.thenA [⟨2, none, .lit (.pointer none)⟩, ⟨3, none, .n r2.2⟩] (AWp.reg Try.tyOk hΓ [2, 3] [23, 6, 5, 4] (by kernel_rfl) rfl (by simp [h18])) ?_
     refine AWp.ret ?_
     obtain rfl := La hr
     refine Lg ?_
     simp
    ·have hr := Lk h18 hr
     refine AWp.skip ?_
     refine AWp.then ⟨[⟨2, none, .ptr 2 0⟩, ⟨3, none, .n 0⟩], [.blk x0.enc, .mapo ([]), .blk [.lit (.pointer none), .lit (.pointer none), .b false, .n 0, .lit (.int .u16 0), .n 0, .n 0, .b false, .n 0, .mp 1, .n 0, .n 0]]⟩ (AWp.reg Try.tyOk hΓ [2, 3] [23, 6, 5, 4] (by kernel_rfl) rfl (by simp [h18])) ?_
     cases hr
   | some o2 =>
    have hr := optC_s h17 hr
    refine AWp.then ⟨[⟨6, none, .ptr 2 0⟩, ⟨5, none, .n r2.2⟩, ⟨4, none, .lit (.pointer none)⟩], [.blk x0.enc, .dead, .blk o2.enc]⟩ (AWp.reg Try.tyOk hΓ [6, 5] [14, 1] (by kernel_rfl) rfl (by simp [h15, h16, h17])) ?_
    refine AWp.seq ?_
    refine AWp.then ⟨[⟨23, none, .b (neI r2.2 0)⟩, ⟨6, none, .ptr 2 0⟩, ⟨5, none, .n r2.2⟩, ⟨4, none, .lit (.pointer none)⟩], [.blk x0.enc, .dead, .blk o2.enc]⟩ (AWp.reg Try.tyOk hΓ [23] [] (by kernel_rfl) rfl (by simp)) ?_
    refine AWp.cond (b := (neI r2.2 0)) (by simp) (fun h19 => ?_) (fun h19 => ?_)
    ·have hr := Lj h19 hr
     refine AWp.thenA [⟨2, none, .lit (.pointer none)⟩, ⟨3, none, .n r2.2⟩] (AWp.reg Try.tyOk hΓ [2, 3] [23, 6, 5, 4] (by kernel_rfl) rfl (by simp [h19])) ?_
     refine AWp.ret ?_
     obtain rfl := La hr
     refine Lg ?_
     simp
    ·have hr := Lk h19 hr
     refine AWp.skip ?_
     refine AWp.then ⟨[⟨2, none, .ptr 4 0⟩, ⟨3, none, .n 0⟩], [.blk x0.enc, .dead, .blk o2.enc, .mapo ([]), .blk [.lit (.pointer none), .ptr 2 0, .b false, .n 0, .lit (.int .u16 0), .n 0, .n 0, .b false, .n 0, .mp 3, .n 0, .n 0]]⟩ (AWp.reg Try.tyOk hΓ [2, 3] [23, 6, 5, 4] (by kernel_rfl) rfl (by simp [h19])) ?_
     cases hr
 | some o1 =>
  have hr := optC_s h14 hr
  refine AWp.then ⟨[⟨4, none, .ptr 3 0⟩, ⟨5, none, .n r1.2⟩, ⟨1, none, .ptr 0 0⟩], [.blk x0.enc, .dead, .mapo (encM (kI .i64) (vA Ta.enc) o1.fOf), .blk (o1.fb.enc ++ [.b o1.fd, .n o1.fg, .mp 2, .n o1.fe])]⟩ (AWp.reg Try.tyOk hΓ [4, 5] [] (by kernel_rfl) rfl (by simp [h13, h14])) ?_
  refine AWp.seq ?_
  refine AWp.then ⟨[⟨14, none, .b (neI r1.2 0)⟩, ⟨4, none, .ptr 3 0⟩, ⟨5, none, .n r1.2⟩, ⟨1, none, .ptr 0 0⟩], [.blk x0.enc, .dead, .mapo (encM (kI .i64) (vA Ta.enc) o1.fOf), .blk (o1.fb.enc ++ [.b o1.fd, .n o1.fg, .mp 2, .n o1.fe])]⟩ (AWp.reg Try.tyOk hΓ [14] [] (by kernel_rfl) rfl (by simp)) ?_
  refine AWp.cond (b := (neI r1.2 0)) (by simp) (fun h20 => ?_) (fun h20 => ?_)
  ·have hr := Lj h20 hr
   refine AWp.thenA [⟨2, none, .lit (.pointer none)⟩, ⟨3, none, .n r1.2⟩] (AWp.reg Try.tyOk hΓ [2, 3] [14, 4, 5, 1] (by kernel_rfl) rfl (by simp [h20])) ?_
   refine AWp.ret ?_
   obtain rfl := La hr
   refine Lg ?_
   simp
  ·have hr := Lk h20 hr
   refine AWp.skip ?_
   obtain ⟨r2, h21, hr⟩ := Lc hr
   cases h22 : r2.1 with
   | none =>
    have hr := optC_n h22 hr
    refine AWp.then ⟨[⟨6, none, .lit (.pointer none)⟩, ⟨5, none, .n r2.2⟩, ⟨4, none, .ptr 3 0⟩], [.blk x0.enc, .dead, .mapo (encM (kI .i64) (vA Ta.enc) o1.fOf), .blk (o1.fb.enc ++ [.b o1.fd, .n o1.fg, .mp 2, .n o1.fe])]⟩ (AWp.reg Try.tyOk hΓ [6, 5] [14, 1] (by kernel_rfl) rfl (by simp [h20, h21, h22])) ?_
    refine AWp.seq ?_
    refine AWp.then ⟨[⟨23, none, .b (neI r2.2 0)⟩, ⟨6, none, .lit (.pointer none)⟩, ⟨5, none, .n r2.2⟩, ⟨4, none, .ptr 3 0⟩], [.blk x0.enc, .dead, .mapo (encM (kI .i64) (vA Ta.enc) o1.fOf), .blk (o1.fb.enc ++ [.b o1.fd, .n o1.fg, .mp 2, .n o1.fe])]⟩ (AWp.reg Try.tyOk hΓ [23] [] (by kernel_rfl) rfl (by simp)) ?_
    refine AWp.cond (b := (neI r2.2 0)) (by simp) (fun h23 => ?_) (fun h23 => ?_)
    ·have hr := Lj h23 hr
     refine AWp.thenA [⟨2, none, .lit (.pointer none)⟩, ⟨3, none, .n r2.2⟩] (AWp.reg Try.tyOk hΓ [2, 3] [23, 6, 5, 4] (by kernel_rfl) rfl (by simp [h23])) ?_
     refine AWp.ret ?_
     obtain rfl := La hr
     refine Lg ?_
     simp
    ·have hr := Lk h23 hr
     refine AWp.skip ?_
     refine AWp.then ⟨[⟨2, none, .ptr 5 0⟩, ⟨3, none, .n 0⟩], [.blk x0.enc, .dead, .mapo (encM (kI .i64) (vA Ta.enc) o1.fOf), .blk (o1.fb.enc ++ [.b o1.fd, .n o1.fg, .mp 2, .n o1.fe]), .mapo ([]), .blk [.ptr 3 0, .lit (.pointer none), .b false, .n 0, .lit (.int .u16 0), .n 0, .n 0, .b false, .n 0, .mp 4, .n 0, .n 0]]⟩ (AWp.reg Try.tyOk hΓ [2, 3] [23, 6, 5, 4] (by kernel_rfl) rfl (by simp [h23])) ?_
     cases hr
   | some o2 =>
    have hr := optC_s h22 hr
    refine AWp.then ⟨[⟨6, none, .ptr 5 0⟩, ⟨5, none, .n r2.2⟩, ⟨4, none, .ptr 3 0⟩], [.blk x0.enc, .dead, .mapo (encM (kI .i64) (vA Ta.enc) o1.fOf), .blk (o1.fb.enc ++ [.b o1.fd, .n o1.fg, .mp 2, .n o1.fe]), .dead, .blk o2.enc]⟩ (AWp.reg Try.tyOk hΓ [6, 5] [14, 1] (by kernel_rfl) rfl (by simp [h20, h21, h22])) ?_
    refine AWp.seq ?_
    refine AWp.then ⟨[⟨23, none, .b (neI r2.2 0)⟩, ⟨6, none, .ptr 5 0⟩, ⟨5, none, .n r2.2⟩, ⟨4, none, .ptr 3 0⟩], [.blk x0.enc, .dead, .mapo (encM (kI .i64) (vA Ta.enc) o1.fOf), .blk (o1.fb.enc ++ [.b o1.fd, .n o1.fg, .mp 2, .n o1.fe]), .dead, .blk o2.enc]⟩ (AWp.reg Try.tyOk hΓ [23] [] (by kernel_rfl) rfl (by simp)) ?_
    refine AWp.cond (b := (neI r2.2 0)) (by simp) (fun h24 => ?_) (fun h24 => ?_)
    ·have hr := Lj h24 hr
     refine AWp.thenA [⟨2, none, .lit (.pointer none)⟩, ⟨3, none, .n r2.2⟩] (AWp.reg Try.tyOk hΓ [2, 3] [23, 6, 5, 4] (by kernel_rfl) rfl (by simp [h24])) ?_
     refine AWp.ret ?_
     obtain rfl := La hr
     refine Lg ?_
     simp
    ·have hr := Lk h24 hr
     refine AWp.skip ?_
     refine AWp.then ⟨[⟨2, none, .ptr 7 0⟩, ⟨3, none, .n 0⟩], [.blk x0.enc, .dead, .mapo (encM (kI .i64) (vA Ta.enc) o1.fOf), .blk (o1.fb.enc ++ [.b o1.fd, .n o1.fg, .mp 2, .n o1.fe]), .dead, .blk o2.enc, .mapo ([]), .blk [.ptr 3 0, .ptr 5 0, .b false, .n 0, .lit (.int .u16 0), .n 0, .n 0, .b false, .n 0, .mp 6, .n 0, .n 0]]⟩ (AWp.reg Try.tyOk hΓ [2, 3] [23, 6, 5, 4] (by kernel_rfl) rfl (by simp [h24])) ?_
     refine AWp.ret ?_
     obtain rfl := La hr
     refine Lg ?_
     simp

@[simp] noncomputable def gY.S : Sp
 | [.agg e0], M => some { av := .tup [(optC (((gY (Tu.dec e0)).getD dflt).1) (.lit (.pointer none)) fun _ => .ptr (M.length + 7) 0), .lit (.int .i64 (((gY (Tu.dec e0)).getD dflt).2))], M := some (optC (((gY (Tu.dec e0)).getD dflt).1) M fun m0 => M ++ [.dead, .dead, .mapo (encM (kI .i64) (vA Ta.enc) m0.fa.fOf), .blk [.lit (.int .i64 m0.fa.fb.fk), .lit (.int .i64 m0.fa.fb.fq), .lit (.bool m0.fa.fd), .lit (.int .i64 m0.fa.fg), .mp (M.length + 2), .lit (.int .i64 m0.fa.fe)], .dead, .blk [.lit (.bool m0.fc.fb.fu), .lit (.int .i64 m0.fc.fb.fv), .lit (.int .i64 m0.fc.fb.fj), .lit (.int .i64 m0.fc.fb.fq), .sl (m0.fc.fw.fj.map Tc.enc) .no, .lit (.int .i64 m0.fc.fz), .lit (.int .i64 m0.fc.fe)], .mapo (encM (kI .i64) (vA Tb.enc) m0.fOf), .blk [.ptr (M.length + 3) 0, .ptr (M.length + 5) 0, .lit (.bool m0.ff.fd), .lit (.int .i64 m0.ff.fk), .lit (.int .u16 m0.ff.fV), .lit (.int .i64 m0.ff.fM), .lit (.int .i64 m0.ff.fC), .lit (.bool m0.fh.fd), .lit (.int .i64 m0.fh.fW), .mp (M.length + 6), .lit (.int .i64 m0.fp), .lit (.int .i64 m0.fm)]]), obl := WeakL e0 (Tu.enc (Tu.dec e0)) ∧ (gY (Tu.dec e0)).isSome = true }
 | _, _ => none

theorem gY.ok : SpecOk Try.prog 19 gY.S := by
 intro l M out h
 unfold gY.S at h
 split at h
 ·rename_i e0
  cases h
  refine callOk_of fun ho => ?_
  obtain ⟨ox0, hs⟩ := ho
  generalize (Tu.dec e0) = x0 at *
  obtain ⟨r, hr⟩ := Option.isSome_iff_exists.1 hs
  simp only [hr, Option.getD_some]
  have q := Lh (M := M) [] (gY.can x0 r hr) (by simp) rfl (by intro k i hk; simp at hk)
  cases hc : r.1 with
  | none => exact callOk_conv q trivial (by simp; exact ox0) (by simp [hc, frameOut, gY.out]) (by simp [hc, frameOut, gY.out])
  | some m0 => exact callOk_conv q trivial (by simp; exact ox0) (by simp [hc, frameOut, gY.out, into]) (by simp [hc, frameOut, gY.out, into])
 ·cases h

@[simp] def gA.out (_x0 : Tf) (r : Int) : Out := { av := .lit (.int .i64 r), M := none }
def gA.fin (x0 : Tf) (r : Int) (σ : St) : Prop := finK (gA.out x0 r) [.blk ([.ptr 1 0, .ptr 3 0] ++ x0.ff.enc ++ x0.fh.enc ++ [.mp 4, .lit (.int .i64 x0.fp), .lit (.int .i64 x0.fm)]), .blk (x0.fa.fb.enc ++ [.lit (.bool x0.fa.fd), .lit (.int .i64 x0.fa.fg), .mp 2, .lit (.int .i64 x0.fa.fe)]), .mapo (encM (kI .i64) (vA Ta.enc) x0.fa.fOf), .blk x0.fc.enc, .mapo (encM (kI .i64) (vA Tb.enc) x0.fOf)] σ.M (resA Try.ty σ.A σ.M Try.f18.results.toList)
theorem gA.can (x0 : Tf) (r : Int) (hr : gA x0 = some r) : CallOk Try.prog 18 [.ptr 0 0] [.blk ([.ptr 1 0, .ptr 3 0] ++ x0.ff.enc ++ x0.fh.enc ++ [.mp 4, .lit (.int .i64 x0.fp), .lit (.int .i64 x0.fm)]), .blk (x0.fa.fb.enc ++ [.lit (.bool x0.fa.fd), .lit (.int .i64 x0.fa.fg), .mp 2, .lit (.int .i64 x0.fa.fe)]), .mapo (encM (kI .i64) (vA Ta.enc) x0.fa.fOf), .blk x0.fc.enc, .mapo (encM (kI .i64) (vA Tb.enc) x0.fOf)] (gA.out x0 r) := by
 unfold gA at hr
 have hΓ := gamL_nil (P := Try.prog)
 refine Lf Try.tyOk Try.func18 rfl (by kernel_rfl) rfl rfl (by simp) ?_
 intro _ _ _
 refine AWp.then ⟨[⟨0, none, .ptr 0 0⟩], [.blk ([.ptr 1 0, .ptr 3 0] ++ x0.ff.enc ++ x0.fh.enc ++ [.mp 4, .n x0.fp, .n x0.fm]), .blk (x0.fa.fb.enc ++ [.b x0.fa.fd, .n x0.fa.fg, .mp 2, .n x0.fa.fe]), .mapo (encM (kI .i64) (vA Ta.enc) x0.fa.fOf), .blk x0.fc.enc, .mapo (encM (kI .i64) (vA Tb.enc) x0.fOf)]⟩ (AWp.reg Try.tyOk hΓ [] [] (by kernel_rfl) rfl (by simp)) ?_
 refine AWp.thenA [⟨2, none, .n x0.fp⟩] (AWp.reg Try.tyOk hΓ [2] [0] (by kernel_rfl) rfl (by simp)) ?_
 refine AWp.ret ?_
 obtain rfl := La hr
 refine Lg ?_
 simp

@[simp] noncomputable def gA.S : Sp
 | [.ptr i0 0], M => match M[i0]? with
  | some (.blk c0) => (match nthE c0 0 with
  | some (.ptr i1 0) => (match M[i1]? with
  | some (.blk c1) => (match nthE c1 4 with
  | some (.mp i2) => (match M[i2]? with
  | some (.mapo c2) => (match nthE c0 1 with
  | some (.ptr i3 0) => (match M[i3]? with
  | some (.blk c3) => (match nthE c0 9 with
  | some (.mp i4) => (match M[i4]? with
  | some (.mapo c4) => (fun (y0 : Tf) => some { av := .lit (.int .i64 ((gA y0).getD dflt)), M := none, obl := c0 = Tf.enc y0 i1 i3 i4 ∧ c1 = Tg.enc (y0.fa) i2 ∧ c2 = encM (kI .i64) (vA Ta.enc) (y0.fa.fOf) ∧ c3 = Th.enc (y0.fc) ∧ c4 = encM (kI .i64) (vA Tb.enc) (y0.fOf) ∧ (gA y0).isSome = true ∧ i0 ≠ i1 ∧ i0 ≠ i2 ∧ i0 ≠ i3 ∧ i0 ≠ i4 ∧ i1 ≠ i2 ∧ i1 ≠ i3 ∧ i1 ≠ i4 ∧ i2 ≠ i3 ∧ i2 ≠ i4 ∧ i3 ≠ i4 }) (Tf.dec c0 (Tg.dec c1 (decM dkI (dvA Ta.dec) c2)) (Th.dec c3) (decM dkI (dvA Tb.dec) c4))
  | _ => none)
  | _ => none)
  | _ => none)
  | _ => none)
  | _ => none)
  | _ => none)
  | _ => none)
  | _ => none)
  | _ => none
 | _, _ => none

theorem gA.ok : SpecOk Try.prog 18 gA.S := by
 intro l M out h
 unfold gA.S at h
 split at h
 ·rename_i i0
  split at h
  case h_2 => cases h
  rename_i c0 hM0
  split at h
  case h_2 => cases h
  rename_i i1 he1
  split at h
  case h_2 => cases h
  rename_i c1 hM1
  split at h
  case h_2 => cases h
  rename_i i2 he2
  split at h
  case h_2 => cases h
  rename_i c2 hM2
  split at h
  case h_2 => cases h
  rename_i i3 he3
  split at h
  case h_2 => cases h
  rename_i c3 hM3
  split at h
  case h_2 => cases h
  rename_i i4 he4
  split at h
  case h_2 => cases h
  rename_i c4 hM4
  try dsimp only at h
  cases h
  refine callOk_of fun ho => ?_
  obtain ⟨oc0, oc1, oc2, oc3, oc4, hs, hne0, hne1, hne2, hne3, hne4, hne5, hne6, hne7, hne8, hne9⟩ := ho
  generalize (Tf.dec c0 (Tg.dec c1 (decM dkI (dvA Ta.dec) c2)) (Th.dec c3) (decM dkI (dvA Tb.dec) c4)) = y0 at *
  subst oc0
  subst oc1
  subst oc2
  subst oc3
  subst oc4
  obtain ⟨r, hr⟩ := Option.isSome_iff_exists.1 hs
  simp only [hr, Option.getD_some]
  have q := Lh (M := M) [i0, i1, i2, i3, i4] (gA.can y0 r hr) (by simp [hne0, hne1, hne2, hne3, hne4, hne5, hne6, hne7, hne8, hne9]) rfl (by intro k i hk; (cases k with | zero => (simp at hk; subst hk; simp [hM0, into]) | succ k => ((cases k with | zero => (simp at hk; subst hk; simp [hM1, into]) | succ k => ((cases k with | zero => (simp at hk; subst hk; simp [hM2]) | succ k => ((cases k with | zero => (simp at hk; subst hk; simp [hM3]) | succ k => ((cases k with | zero => (simp at hk; subst hk; simp [hM4]) | succ k => (simp at hk)))))))))))
  exact callOk_conv q trivial (by simp [into]) (by simp [frameOut, gA.out, into]) (by simp only [frameOut, gA.out, Option.getD_some, Option.getD_none]; simp [into, hM0, hM1, hM2, hM3, hM4, set_same])
 ·cases h

@[simp] def gv.out (_x0 : Tf) (r : Int × Int) : Out := { av := .tup [.lit (.int .i64 r.1), .lit (.int .i64 r.2)], M := none }
def gv.fin (x0 : Tf) (r : Int × Int) (σ : St) : Prop := finK (gv.out x0 r) [.blk ([.ptr 1 0, .ptr 3 0] ++ x0.ff.enc ++ x0.fh.enc ++ [.mp 4, .lit (.int .i64 x0.fp), .lit (.int .i64 x0.fm)]), .blk (x0.fa.fb.enc ++ [.lit (.bool x0.fa.fd), .lit (.int .i64 x0.fa.fg), .mp 2, .lit (.int .i64 x0.fa.fe)]), .mapo (encM (kI .i64) (vA Ta.enc) x0.fa.fOf), .blk x0.fc.enc, .mapo (encM (kI .i64) (vA Tb.enc) x0.fOf)] σ.M (resA Try.ty σ.A σ.M Try.f17.results.toList)
theorem gv.can (x0 : Tf) (r : Int × Int) (hr : gv x0 = some r) : CallOk Try.prog 17 [.ptr 0 0] [.blk ([.ptr 1 0, .ptr 3 0] ++ x0.ff.enc ++ x0.fh.enc ++ [.mp 4, .lit (.int .i64 x0.fp), .lit (.int .i64 x0.fm)]), .blk (x0.fa.fb.enc ++ [.lit (.bool x0.fa.fd), .lit (.int .i64 x0.fa.fg), .mp 2, .lit (.int .i64 x0.fa.fe)]), .mapo (encM (kI .i64) (vA Ta.enc) x0.fa.fOf), .blk x0.fc.enc, .mapo (encM (kI .i64) (vA Tb.enc) x0.fOf)] (gv.out x0 r) := by
 unfold gv at hr
 have hΓ := (gamL_cons gJ.ok (gamL_nil) : GamOk Try.prog _)
 refine Lf Try.tyOk Try.func17 rfl (by kernel_rfl) rfl rfl (by simp) ?_
 intro _ _ _
 refine AWp.then ⟨[⟨0, none, .ptr 0 0⟩], [.blk ([.ptr 1 0, .ptr 3 0] ++ x0.ff.enc ++ x0.fh.enc ++ [.mp 4, .n x0.fp, .n x0.fm]), .blk (x0.fa.fb.enc ++ [.b x0.fa.fd, .n x0.fa.fg, .mp 2, .n x0.fa.fe]), .mapo (encM (kI .i64) (vA Ta.enc) x0.fa.fOf), .blk x0.fc.enc, .mapo (encM (kI .i64) (vA Tb.enc) x0.fOf)]⟩ (AWp.reg Try.tyOk hΓ [] [] (by kernel_rfl) rfl (by simp)) ?_
 obtain ⟨r1, h2, hr⟩ := Lc hr
 refine AWp.thenA [⟨2, none, .n r1.1⟩, ⟨3, none, .n r1.2⟩] (AWp.reg Try.tyOk hΓ [2, 3] [0] (by kernel_rfl) rfl (by simp [h2])) ?_
 refine AWp.ret ?_
 obtain rfl := La hr
 refine Lg ?_
 simp

@[simp] noncomputable def gv.S : Sp
 | [.ptr i0 0], M => match M[i0]? with
  | some (.blk c0) => (match nthE c0 0 with
  | some (.ptr i1 0) => (match M[i1]? with
  | some (.blk c1) => (match nthE c1 4 with
  | some (.mp i2) => (match M[i2]? with
  | some (.mapo c2) => (match nthE c0 1 with
  | some (.ptr i3 0) => (match M[i3]? with
  | some (.blk c3) => (match nthE c0 9 with
  | some (.mp i4) => (match M[i4]? with
  | some (.mapo c4) => (fun (y0 : Tf) => (fun (r : Int × Int) => some { av := .tup [.lit (.int .i64 (r.1)), .lit (.int .i64 (r.2))], M := none, obl := c0 = Tf.enc y0 i1 i3 i4 ∧ c1 = Tg.enc (y0.fa) i2 ∧ c2 = encM (kI .i64) (vA Ta.enc) (y0.fa.fOf) ∧ c3 = Th.enc (y0.fc) ∧ c4 = encM (kI .i64) (vA Tb.enc) (y0.fOf) ∧ (gv y0).isSome = true ∧ i0 ≠ i1 ∧ i0 ≠ i2 ∧ i0 ≠ i3 ∧ i0 ≠ i4 ∧ i1 ≠ i2 ∧ i1 ≠ i3 ∧ i1 ≠ i4 ∧ i2 ≠ i3 ∧ i2 ≠ i4 ∧ i3 ≠ i4 }) ((gv y0).getD dflt)) (Tf.dec c0 (Tg.dec c1 (decM dkI (dvA Ta.dec) c2)) (Th.dec c3) (decM dkI (dvA Tb.dec) c4))
  | _ => none)
  | _ => none)
  | _ => none)
  | _ => none)
  | _ => none)
  | _ => none)
  | _ => none)
  | _ => none)
  | _ => none
 | _, _ => none

theorem gv.ok : SpecOk Try.prog 17 gv.S := by
 intro l M out h
 unfold gv.S at h
 split at h
 ·rename_i i0
  split at h
  case h_2 => cases h
  rename_i c0 hM0
  split at h
  case h_2 => cases h
  rename_i i1 he1
  split at h
  case h_2 => cases h
  rename_i c1 hM1
  split at h
  case h_2 => cases h
  rename_i i2 he2
  split at h
  case h_2 => cases h
  rename_i c2 hM2
  split at h
  case h_2 => cases h
  rename_i i3 he3
  split at h
  case h_2 => cases h
  rename_i c3 hM3
  split at h
  case h_2 => cases h
  rename_i i4 he4
  split at h
  case h_2 => cases h
  rename_i c4 hM4
  try dsimp only at h
  cases h
  refine callOk_of fun ho => ?_
  obtain ⟨oc0, oc1, oc2, oc3, oc4, hs, hne0, hne1, hne2, hne3, hne4, hne5, hne6, hne7, hne8, hne9⟩ := ho
  generalize (Tf.dec c0 (Tg.dec c1 (decM dkI (dvA Ta.dec) c2)) (Th.dec c3) (decM dkI (dvA Tb.dec) c4)) = y0 at *
  subst oc0
  subst oc1
  subst oc2
  subst oc3
  subst oc4
  obtain ⟨r, hr⟩ := Option.isSome_iff_exists.1 hs
  simp only [hr, Option.getD_some]
  have q := Lh (M := M) [i0, i1, i2, i3, i4] (gv.can y0 r hr) (by simp [hne0, hne1, hne2, hne3, hne4, hne5, hne6, hne7, hne8, hne9]) rfl (by intro k i hk; (cases k with | zero => (simp at hk; subst hk; simp [hM0, into]) | succ k => ((cases k with | zero => (simp at hk; subst hk; simp [hM1, into]) | succ k => ((cases k with | zero => (simp at hk; subst hk; simp [hM2]) | succ k => ((cases k with | zero => (simp at hk; subst hk; simp [hM3]) | succ k => ((cases k with | zero => (simp at hk; subst hk; simp [hM4]) | succ k => (simp at hk)))))))))))
  exact callOk_conv q trivial (by simp [into]) (by simp [frameOut, gv.out, into]) (by simp only [frameOut, gv.out, Option.getD_some, Option.getD_none]; simp [into, hM0, hM1, hM2, hM3, hM4, set_same])
 ·cases h

@[simp] def gE.out (_x0 : Tf) (_x1 : Ta) (r : Tc × Tf) : Out := { av := .agg [.lit (.int .i64 r.1.fAt), .lit (.int .i64 r.1.fQ), .lit (.bool r.1.fA), .lit (.bool r.1.fy), .lit (.bool r.1.fJ), .lit (.string r.1.fT), .lit (.int .i64 r.1.fO)], M := some [.blk [.ptr 1 0, .ptr 3 0, .lit (.bool r.2.ff.fd), .lit (.int .i64 r.2.ff.fk), .lit (.int .u16 r.2.ff.fV), .lit (.int .i64 r.2.ff.fM), .lit (.int .i64 r.2.ff.fC), .lit (.bool r.2.fh.fd), .lit (.int .i64 r.2.fh.fW), .mp 4, .lit (.int .i64 r.2.fp), .lit (.int .i64 r.2.fm)], .blk [.lit (.int .i64 r.2.fa.fb.fk), .lit (.int .i64 r.2.fa.fb.fq), .lit (.bool r.2.fa.fd), .lit (.int .i64 r.2.fa.fg), .mp 2, .lit (.int .i64 r.2.fa.fe)], .mapo (encM (kI .i64) (vA Ta.enc) r.2.fa.fOf), .blk [.lit (.bool r.2.fc.fb.fu), .lit (.int .i64 r.2.fc.fb.fv), .lit (.int .i64 r.2.fc.fb.fj), .lit (.int .i64 r.2.fc.fb.fq), .sl (r.2.fc.fw.fj.map Tc.enc) .no, .lit (.int .i64 r.2.fc.fz), .lit (.int .i64 r.2.fc.fe)], .mapo (encM (kI .i64) (vA Tb.enc) r.2.fOf)] }
def gE.fin (x0 : Tf) (x1 : Ta) (r : Tc × Tf) (σ : St) : Prop := finK (gE.out x0 x1 r) [.blk ([.ptr 1 0, .ptr 3 0] ++ x0.ff.enc ++ x0.fh.enc ++ [.mp 4, .lit (.int .i64 x0.fp), .lit (.int .i64 x0.fm)]), .blk (x0.fa.fb.enc ++ [.lit (.bool x0.fa.fd), .lit (.int .i64 x0.fa.fg), .mp 2, .lit (.int .i64 x0.fa.fe)]), .mapo (encM (kI .i64) (vA Ta.enc) x0.fa.fOf), .blk x0.fc.enc, .mapo (encM (kI .i64) (vA Tb.enc) x0.fOf)] σ.M (resA Try.ty σ.A σ.M Try.f44.results.toList)
theorem gE.can (x0 : Tf) (x1 : Ta) (r : Tc × Tf) (hr : gE x0 x1 = some r) : CallOk Try.prog 44 [.ptr 0 0, .agg [.lit (.int .i64 x1.fAt), .lit (.string x1.fT), .lit (.int .i64 x1.fO)]] [.blk ([.ptr 1 0, .ptr 3 0] ++ x0.ff.enc ++ x0.fh.enc ++ [.mp 4, .lit (.int .i64 x0.fp), .lit (.int .i64 x0.fm)]), .blk (x0.fa.fb.enc ++ [.lit (.bool x0.fa.fd), .lit (.int .i64 x0.fa.fg), .mp 2, .lit (.int .i64 x0.fa.fe)]), .mapo (encM (kI .i64) (vA Ta.enc) x0.fa.fOf), .blk x0.fc.enc, .mapo (encM (kI .i64) (vA Tb.enc) x0.fOf)] (gE.out x0 x1 r) := by
 unfold gE at hr
 have hΓ := (gamL_cons gf.ok (gamL_cons gaf.ok (gamL_cons gah.ok (gamL_nil))) : GamOk Try.prog _)
 refine Lf Try.tyOk Try.func44 rfl (by kernel_rfl) rfl rfl (by simp) ?_
 intro _ _ _
 refine AWp.then ⟨[⟨3, none, .ptr 5 0⟩, ⟨4, none, .ptr 6 0⟩, ⟨0, none, .ptr 0 0⟩], [.blk ([.ptr 1 0, .ptr 3 0] ++ x0.ff.enc ++ x0.fh.enc ++ [.mp 4, .n x0.fp, .n x0.fm]), .blk (x0.fa.fb.enc ++ [.b x0.fa.fd, .n x0.fa.fg, .mp 2, .n x0.fa.fe]), .mapo (encM (kI .i64) (vA Ta.enc) x0.fa.fOf), .blk x0.fc.enc, .mapo (encM (kI .i64) (vA Tb.enc) x0.fOf), .blk x1.enc, .blk [.n 0, .n 0, .b false, .b false, .b false, .s ⟨#[]⟩, .n 0]]⟩ (AWp.reg Try.tyOk hΓ [3, 4] [1] (by kernel_rfl) rfl (by simp)) ?_
 refine AWp.then ⟨[⟨5, none, .ptr 7 0⟩, ⟨3, none, .ptr 5 0⟩, ⟨4, none, .ptr 6 0⟩, ⟨0, none, .ptr 0 0⟩], [.blk ([.ptr 1 0, .ptr 3 0] ++ x0.ff.enc ++ x0.fh.enc ++ [.mp 4, .n x0.fp, .n x0.fm]), .blk (x0.fa.fb.enc ++ [.b x0.fa.fd, .n x0.fa.fg, .mp 2, .n x0.fa.fe]), .mapo (encM (kI .i64) (vA Ta.enc) x0.fa.fOf), .blk x0.fc.enc, .mapo (encM (kI .i64) (vA Tb.enc) x0.fOf), .blk x1.enc, .blk [.n 0, .n 0, .b false, .b false, .b false, .s ⟨#[]⟩, .n 0], .blk (getM eqI x1.fAt (Tb.mk false 0 0 0 0 [] false 0 ⟨⟨[]⟩⟩ ⟨⟨[]⟩⟩ 0) x0.fOf).enc]⟩ (AWp.regD Try.mixed Try.tyOk hΓ [5] [] [(0, 8), (1, 8), (2, 8), (3, 8), (4, 8), (5, 8), (6, 8)] [(false, []), (false, []), (false, []), (false, []), (false, []), (false, []), (false, []), (true, []), (true, [])] (by kernel_rfl) rfl (by simp)) ?_
 refine AWp.then ⟨[⟨5, none, .ptr 7 0⟩, ⟨3, none, .ptr 5 0⟩, ⟨4, none, .ptr 6 0⟩, ⟨0, none, .ptr 0 0⟩], [.blk ([.ptr 1 0, .ptr 3 0] ++ x0.ff.enc ++ x0.fh.enc ++ [.mp 4, .n x0.fp, .n x0.fm]), .blk (x0.fa.fb.enc ++ [.b x0.fa.fd, .n x0.fa.fg, .mp 2, .n x0.fa.fe]), .mapo (encM (kI .i64) (vA Ta.enc) x0.fa.fOf), .blk x0.fc.enc, .mapo (encM (kI .i64) (vA Tb.enc) (delM eqI x1.fAt x0.fOf)), .blk x1.enc, .blk [.n 0, .n 0, .b false, .b false, .b false, .s ⟨#[]⟩, .n 0], .blk (getM eqI x1.fAt (Tb.mk false 0 0 0 0 [] false 0 ⟨⟨[]⟩⟩ ⟨⟨[]⟩⟩ 0) x0.fOf).enc]⟩ (AWp.regD Try.mixed Try.tyOk hΓ [] [] [] [(false, []), (false, []), (false, []), (false, []), (false, []), (false, []), (true, [])] (by kernel_rfl) rfl (by simp)) ?_
 obtain ⟨r1, h5, hr⟩ := Lc hr
 refine AWp.then ⟨[⟨6, none, .ptr 8 0⟩, ⟨5, none, .ptr 7 0⟩, ⟨4, none, .ptr 6 0⟩, ⟨0, none, .ptr 0 0⟩], [.blk ([.ptr 1 0, .ptr 3 0] ++ r1.2.ff.enc ++ r1.2.fh.enc ++ [.mp 4, .n r1.2.fp, .n r1.2.fm]), .blk (r1.2.fa.fb.enc ++ [.b r1.2.fa.fd, .n r1.2.fa.fg, .mp 2, .n r1.2.fa.fe]), .mapo (encM (kI .i64) (vA Ta.enc) r1.2.fa.fOf), .blk r1.2.fc.enc, .mapo (encM (kI .i64) (vA Tb.enc) r1.2.fOf), .blk x1.enc, .blk [.n 0, .n 0, .b false, .b false, .b false, .s ⟨#[]⟩, .n 0], .blk (getM eqI x1.fAt (Tb.mk false 0 0 0 0 [] false 0 ⟨⟨[]⟩⟩ ⟨⟨[]⟩⟩ 0) x0.fOf).enc, .blk [.n x1.fAt, .n r1.1, .b ((getM eqI x1.fAt (Tb.mk false 0 0 0 0 [] false 0 ⟨⟨[]⟩⟩ ⟨⟨[]⟩⟩ 0) x0.fOf).fA), .b false, .b false, .s ((getM eqI x1.fAt (Tb.mk false 0 0 0 0 [] false 0 ⟨⟨[]⟩⟩ ⟨⟨[]⟩⟩ 0) x0.fOf).fF), .n x1.fO]]⟩ (AWp.regD Try.mixed Try.tyOk hΓ [6] [3] [(0, 8), (0, 16), (1, 8), (1, 16), (8, 0), (8, 16), (9, 0), (9, 16), (10, 0), (10, 16), (11, 0), (11, 16), (12, 0), (12, 16), (13, 0), (13, 16), (14, 16)] [(false, []), (false, []), (false, []), (false, []), (false, []), (false, []), (false, []), (true, []), (false, []), (false, []), (false, []), (false, []), (false, []), (false, []), (false, []), (true, []), (true, [])] (by kernel_rfl) rfl (by simp [h5])) ?_
 refine AWp.meetF (fun (v1 : Tc) (γ1 : Unit) => ⟨[⟨6, none, .ptr 8 0⟩, ⟨4, none, .ptr 6 0⟩], [.blk ([.ptr 1 0, .ptr 3 0] ++ r1.2.ff.enc ++ r1.2.fh.enc ++ [.mp 4, .n r1.2.fp, .n r1.2.fm]), .blk (r1.2.fa.fb.enc ++ [.b r1.2.fa.fd, .n r1.2.fa.fg, .mp 2, .n r1.2.fa.fe]), .mapo (encM (kI .i64) (vA Ta.enc) r1.2.fa.fOf), .blk r1.2.fc.enc, .mapo (encM (kI .i64) (vA Tb.enc) r1.2.fOf), .blk x1.enc, .blk [.n 0, .n 0, .b false, .b false, .b false, .s ⟨#[]⟩, .n 0], .blk (getM eqI x1.fAt (Tb.mk false 0 0 0 0 [] false 0 ⟨⟨[]⟩⟩ ⟨⟨[]⟩⟩ 0) x0.fOf).enc, .blk v1.enc]⟩) (gE.fin x0 x1) hr (fun f hr => ?_) (fun v1 γ1 hr => ?_) (fun _ h => h)
 ·obtain ⟨r2, h6, hr⟩ := Lc hr
  refine AWp.then ⟨[⟨7, none, .ptr 9 0⟩, ⟨8, none, .s r2.2.1⟩, ⟨9, none, .n r2.2.2⟩, ⟨6, none, .ptr 8 0⟩, ⟨4, none, .ptr 6 0⟩, ⟨0, none, .ptr 0 0⟩], [.blk ([.ptr 1 0, .ptr 3 0] ++ r1.2.ff.enc ++ r1.2.fh.enc ++ [.mp 4, .n r1.2.fp, .n r1.2.fm]), .blk (r1.2.fa.fb.enc ++ [.b r1.2.fa.fd, .n r1.2.fa.fg, .mp 2, .n r1.2.fa.fe]), .mapo (encM (kI .i64) (vA Ta.enc) r1.2.fa.fOf), .blk r1.2.fc.enc, .mapo (encM (kI .i64) (vA Tb.enc) r1.2.fOf), .blk x1.enc, .blk [.n 0, .n 0, .b false, .b false, .b false, .s ⟨#[]⟩, .n 0], .blk (getM eqI x1.fAt (Tb.mk false 0 0 0 0 [] false 0 ⟨⟨[]⟩⟩ ⟨⟨[]⟩⟩ 0) x0.fOf).enc, .blk [.n x1.fAt, .n r1.1, .b ((getM eqI x1.fAt (Tb.mk false 0 0 0 0 [] false 0 ⟨⟨[]⟩⟩ ⟨⟨[]⟩⟩ 0) x0.fOf).fA), .b false, .b false, .s ((getM eqI x1.fAt (Tb.mk false 0 0 0 0 [] false 0 ⟨⟨[]⟩⟩ ⟨⟨[]⟩⟩ 0) x0.fOf).fF), .n x1.fO], .blk r2.1.enc]⟩ (AWp.reg Try.tyOk hΓ [7, 8, 9] [5] (by kernel_rfl) rfl (by simp [h6])) ?_
  refine AWp.thenA [⟨56, none, .b (pickB r1.2.fc.fb.fu (eqI r2.2.2 0) false)⟩, ⟨7, none, .ptr 9 0⟩, ⟨8, none, .s r2.2.1⟩, ⟨6, none, .ptr 8 0⟩, ⟨4, none, .ptr 6 0⟩] (AWp.reg Try.tyOk hΓ [56] [9, 0] (by kernel_rfl) rfl (by simp)) ?_
  refine AWp.cond (b := (pickB r1.2.fc.fb.fu (eqI r2.2.2 0) false)) (by simp) (fun h7 => ?_) (fun h7 => ?_)
  ·have hr := Lj h7 hr
   refine AWp.then ⟨[⟨7, none, .ptr 9 0⟩, ⟨8, none, .s r2.2.1⟩, ⟨6, none, .ptr 8 0⟩, ⟨4, none, .ptr 6 0⟩], [.blk ([.ptr 1 0, .ptr 3 0] ++ r1.2.ff.enc ++ r1.2.fh.enc ++ [.mp 4, .n r1.2.fp, .n r1.2.fm]), .blk (r1.2.fa.fb.enc ++ [.b r1.2.fa.fd, .n r1.2.fa.fg, .mp 2, .n r1.2.fa.fe]), .mapo (encM (kI .i64) (vA Ta.enc) r1.2.fa.fOf), .blk r1.2.fc.enc, .mapo (encM (kI .i64) (vA Tb.enc) r1.2.fOf), .blk x1.enc, .blk [.n 0, .n 0, .b false, .b false, .b false, .s ⟨#[]⟩, .n 0], .blk (getM eqI x1.fAt (Tb.mk false 0 0 0 0 [] false 0 ⟨⟨[]⟩⟩ ⟨⟨[]⟩⟩ 0) x0.fOf).enc, .blk [.n x1.fAt, .n r1.1, .b ((getM eqI x1.fAt (Tb.mk false 0 0 0 0 [] false 0 ⟨⟨[]⟩⟩ ⟨⟨[]⟩⟩ 0) x0.fOf).fA), .b (pickB r2.1.fy (eqI r2.1.fG 0) false), .b false, .s ((getM eqI x1.fAt (Tb.mk false 0 0 0 0 [] false 0 ⟨⟨[]⟩⟩ ⟨⟨[]⟩⟩ 0) x0.fOf).fF), .n x1.fO], .blk r2.1.enc]⟩ (AWp.reg Try.tyOk hΓ [] [56] (by kernel_rfl) rfl (by simp [h7])) ?_
   obtain ⟨r3, h8, hr⟩ := Lc hr
   refine AWp.last ⟨[⟨6, none, .ptr 8 0⟩, ⟨4, none, .ptr 6 0⟩], [.blk ([.ptr 1 0, .ptr 3 0] ++ r1.2.ff.enc ++ r1.2.fh.enc ++ [.mp 4, .n r1.2.fp, .n r1.2.fm]), .blk (r1.2.fa.fb.enc ++ [.b r1.2.fa.fd, .n r1.2.fa.fg, .mp 2, .n r1.2.fa.fe]), .mapo (encM (kI .i64) (vA Ta.enc) r1.2.fa.fOf), .blk r1.2.fc.enc, .mapo (encM (kI .i64) (vA Tb.enc) r1.2.fOf), .blk x1.enc, .blk [.n 0, .n 0, .b false, .b false, .b false, .s ⟨#[]⟩, .n 0], .blk (getM eqI x1.fAt (Tb.mk false 0 0 0 0 [] false 0 ⟨⟨[]⟩⟩ ⟨⟨[]⟩⟩ 0) x0.fOf).enc, .blk [.n x1.fAt, .n r1.1, .b ((getM eqI x1.fAt (Tb.mk false 0 0 0 0 [] false 0 ⟨⟨[]⟩⟩ ⟨⟨[]⟩⟩ 0) x0.fOf).fA), .b (pickB r2.1.fy (eqI r2.1.fG 0) false), .b r3, .s ((getM eqI x1.fAt (Tb.mk false 0 0 0 0 [] false 0 ⟨⟨[]⟩⟩ ⟨⟨[]⟩⟩ 0) x0.fOf).fF), .n x1.fO], .blk r2.1.enc]⟩ (AWp.reg Try.tyOk hΓ [] [7, 8] (by kernel_rfl) rfl (by simp [h8])) ?_
   obtain rfl := La hr
   exact Lo () 9 (by first | (simp; done) | simp [h5, h6, h7, h8])
  ·have hr := Lk h7 hr
   refine AWp.skip ?_
   obtain rfl := La hr
   exact Lo () 9 (by first | (simp; done) | simp [h5, h6, h7])
 ·refine AWp.then ⟨[⟨4, none, .ptr 6 0⟩], [.blk ([.ptr 1 0, .ptr 3 0] ++ r1.2.ff.enc ++ r1.2.fh.enc ++ [.mp 4, .n r1.2.fp, .n r1.2.fm]), .blk (r1.2.fa.fb.enc ++ [.b r1.2.fa.fd, .n r1.2.fa.fg, .mp 2, .n r1.2.fa.fe]), .mapo (encM (kI .i64) (vA Ta.enc) r1.2.fa.fOf), .blk r1.2.fc.enc, .mapo (encM (kI .i64) (vA Tb.enc) r1.2.fOf), .blk x1.enc, .blk v1.enc, .blk (getM eqI x1.fAt (Tb.mk false 0 0 0 0 [] false 0 ⟨⟨[]⟩⟩ ⟨⟨[]⟩⟩ 0) x0.fOf).enc, .blk v1.enc]⟩ (AWp.reg Try.tyOk hΓ [] [6] (by kernel_rfl) rfl (by simp)) ?_
  refine AWp.ret ?_
  obtain rfl := La hr
  refine Lg ?_
  simp

@[simp] noncomputable def gE.S : Sp
 | [.ptr i0 0, .agg e1], M => match M[i0]? with
  | some (.blk c0) => (match nthE c0 0 with
  | some (.ptr i1 0) => (match M[i1]? with
  | some (.blk c1) => (match nthE c1 4 with
  | some (.mp i2) => (match M[i2]? with
  | some (.mapo c2) => (match nthE c0 1 with
  | some (.ptr i3 0) => (match M[i3]? with
  | some (.blk c3) => (match nthE c0 9 with
  | some (.mp i4) => (match M[i4]? with
  | some (.mapo c4) => (fun (y0 : Tf) => (fun (y1 : Ta) => (fun (r : Tc × Tf) => some { av := .agg [.lit (.int .i64 (r.1.fAt)), .lit (.int .i64 (r.1.fQ)), .lit (.bool (r.1.fA)), .lit (.bool (r.1.fy)), .lit (.bool (r.1.fJ)), .lit (.string (r.1.fT)), .lit (.int .i64 (r.1.fO))], M := some (((((M.set i0 (.blk [.ptr i1 0, .ptr i3 0, .lit (.bool (r.2.ff.fd)), .lit (.int .i64 (r.2.ff.fk)), .lit (.int .u16 (r.2.ff.fV)), .lit (.int .i64 (r.2.ff.fM)), .lit (.int .i64 (r.2.ff.fC)), .lit (.bool (r.2.fh.fd)), .lit (.int .i64 (r.2.fh.fW)), .mp i4, .lit (.int .i64 (r.2.fp)), .lit (.int .i64 (r.2.fm))])).set i1 (.blk [.lit (.int .i64 (r.2.fa.fb.fk)), .lit (.int .i64 (r.2.fa.fb.fq)), .lit (.bool (r.2.fa.fd)), .lit (.int .i64 (r.2.fa.fg)), .mp i2, .lit (.int .i64 (r.2.fa.fe))])).set i2 (.mapo (encM (kI .i64) (vA Ta.enc) (r.2.fa.fOf)))).set i3 (.blk [.lit (.bool (r.2.fc.fb.fu)), .lit (.int .i64 (r.2.fc.fb.fv)), .lit (.int .i64 (r.2.fc.fb.fj)), .lit (.int .i64 (r.2.fc.fb.fq)), .sl ((r.2.fc.fw.fj).map Tc.enc) .no, .lit (.int .i64 (r.2.fc.fz)), .lit (.int .i64 (r.2.fc.fe))])).set i4 (.mapo (encM (kI .i64) (vA Tb.enc) (r.2.fOf)))), obl := WeakL e1 (Ta.enc y1) ∧ c0 = Tf.enc y0 i1 i3 i4 ∧ c1 = Tg.enc (y0.fa) i2 ∧ c2 = encM (kI .i64) (vA Ta.enc) (y0.fa.fOf) ∧ c3 = Th.enc (y0.fc) ∧ c4 = encM (kI .i64) (vA Tb.enc) (y0.fOf) ∧ (gE y0 y1).isSome = true ∧ i0 ≠ i1 ∧ i0 ≠ i2 ∧ i0 ≠ i3 ∧ i0 ≠ i4 ∧ i1 ≠ i2 ∧ i1 ≠ i3 ∧ i1 ≠ i4 ∧ i2 ≠ i3 ∧ i2 ≠ i4 ∧ i3 ≠ i4 }) ((gE y0 y1).getD dflt)) (Ta.dec e1)) (Tf.dec c0 (Tg.dec c1 (decM dkI (dvA Ta.dec) c2)) (Th.dec c3) (decM dkI (dvA Tb.dec) c4))
  | _ => none)
  | _ => none)
  | _ => none)
  | _ => none)
  | _ => none)
  | _ => none)
  | _ => none)
  | _ => none)
  | _ => none
 | _, _ => none

theorem gE.ok : SpecOk Try.prog 44 gE.S := by
 intro l M out h
 unfold gE.S at h
 split at h
 ·rename_i i0 e1
  split at h
  case h_2 => cases h
  rename_i c0 hM0
  split at h
  case h_2 => cases h
  rename_i i1 he1
  split at h
  case h_2 => cases h
  rename_i c1 hM1
  split at h
  case h_2 => cases h
  rename_i i2 he2
  split at h
  case h_2 => cases h
  rename_i c2 hM2
  split at h
  case h_2 => cases h
  rename_i i3 he3
  split at h
  case h_2 => cases h
  rename_i c3 hM3
  split at h
  case h_2 => cases h
  rename_i i4 he4
  split at h
  case h_2 => cases h
  rename_i c4 hM4
  try dsimp only at h
  cases h
  refine callOk_of fun ho => ?_
  obtain ⟨ox1, oc0, oc1, oc2, oc3, oc4, hs, hne0, hne1, hne2, hne3, hne4, hne5, hne6, hne7, hne8, hne9⟩ := ho
  generalize (Tf.dec c0 (Tg.dec c1 (decM dkI (dvA Ta.dec) c2)) (Th.dec c3) (decM dkI (dvA Tb.dec) c4)) = y0 at *
  generalize (Ta.dec e1) = x1 at *
  subst oc0
  subst oc1
  subst oc2
  subst oc3
  subst oc4
  obtain ⟨r, hr⟩ := Option.isSome_iff_exists.1 hs
  simp only [hr, Option.getD_some]
  have q := Lh (M := M) [i0, i1, i2, i3, i4] (gE.can y0 x1 r hr) (by simp [hne0, hne1, hne2, hne3, hne4, hne5, hne6, hne7, hne8, hne9]) rfl (by intro k i hk; (cases k with | zero => (simp at hk; subst hk; simp [hM0, into]) | succ k => ((cases k with | zero => (simp at hk; subst hk; simp [hM1, into]) | succ k => ((cases k with | zero => (simp at hk; subst hk; simp [hM2]) | succ k => ((cases k with | zero => (simp at hk; subst hk; simp [hM3]) | succ k => ((cases k with | zero => (simp at hk; subst hk; simp [hM4]) | succ k => (simp at hk)))))))))))
  exact callOk_conv q trivial (by simp [into]; exact ox1) (by simp [frameOut, gE.out, into]) (by simp [frameOut, gE.out, into])
 ·cases h

@[simp] def ge.out (_x0 : Tf) (_x1 : List Ta) (r : List Tl × Tf) : Out := { av := .sl (r.1.map Tl.enc) .no, M := some [.blk [.ptr 1 0, .ptr 3 0, .lit (.bool r.2.ff.fd), .lit (.int .i64 r.2.ff.fk), .lit (.int .u16 r.2.ff.fV), .lit (.int .i64 r.2.ff.fM), .lit (.int .i64 r.2.ff.fC), .lit (.bool r.2.fh.fd), .lit (.int .i64 r.2.fh.fW), .mp 4, .lit (.int .i64 r.2.fp), .lit (.int .i64 r.2.fm)], .blk [.lit (.int .i64 r.2.fa.fb.fk), .lit (.int .i64 r.2.fa.fb.fq), .lit (.bool r.2.fa.fd), .lit (.int .i64 r.2.fa.fg), .mp 2, .lit (.int .i64 r.2.fa.fe)], .mapo (encM (kI .i64) (vA Ta.enc) r.2.fa.fOf), .blk [.lit (.bool r.2.fc.fb.fu), .lit (.int .i64 r.2.fc.fb.fv), .lit (.int .i64 r.2.fc.fb.fj), .lit (.int .i64 r.2.fc.fb.fq), .sl (r.2.fc.fw.fj.map Tc.enc) .no, .lit (.int .i64 r.2.fc.fz), .lit (.int .i64 r.2.fc.fe)], .mapo (encM (kI .i64) (vA Tb.enc) r.2.fOf)] }
def ge.fin (x0 : Tf) (x1 : List Ta) (r : List Tl × Tf) (σ : St) : Prop := finK (ge.out x0 x1 r) [.blk ([.ptr 1 0, .ptr 3 0] ++ x0.ff.enc ++ x0.fh.enc ++ [.mp 4, .lit (.int .i64 x0.fp), .lit (.int .i64 x0.fm)]), .blk (x0.fa.fb.enc ++ [.lit (.bool x0.fa.fd), .lit (.int .i64 x0.fa.fg), .mp 2, .lit (.int .i64 x0.fa.fe)]), .mapo (encM (kI .i64) (vA Ta.enc) x0.fa.fOf), .blk x0.fc.enc, .mapo (encM (kI .i64) (vA Tb.enc) x0.fOf)] σ.M (resA Try.ty σ.A σ.M Try.f28.results.toList)
theorem ge.can (x0 : Tf) (x1 : List Ta) (r : List Tl × Tf) (hr : ge x0 x1 = some r) : CallOk Try.prog 28 [.ptr 0 0, .sl (x1.map Ta.enc) .no] [.blk ([.ptr 1 0, .ptr 3 0] ++ x0.ff.enc ++ x0.fh.enc ++ [.mp 4, .lit (.int .i64 x0.fp), .lit (.int .i64 x0.fm)]), .blk (x0.fa.fb.enc ++ [.lit (.bool x0.fa.fd), .lit (.int .i64 x0.fa.fg), .mp 2, .lit (.int .i64 x0.fa.fe)]), .mapo (encM (kI .i64) (vA Ta.enc) x0.fa.fOf), .blk x0.fc.enc, .mapo (encM (kI .i64) (vA Tb.enc) x0.fOf)] (ge.out x0 x1 r) := by
 unfold ge at hr
 have hΓ := (gamL_cons gV.ok (gamL_cons gE.ok (gamL_cons gG.ok (gamL_nil))) : GamOk Try.prog _)
 refine Lf Try.tyOk Try.func28 rfl (by kernel_rfl) rfl rfl (by simp) ?_
 intro _ _ _
 refine AWp.then ⟨[⟨0, none, .ptr 0 0⟩, ⟨1, none, .sl (x1.map Ta.enc) .no⟩], [.blk ([.ptr 1 0, .ptr 3 0] ++ x0.ff.enc ++ x0.fh.enc ++ [.mp 4, .n x0.fp, .n x0.fm]), .blk (x0.fa.fb.enc ++ [.b x0.fa.fd, .n x0.fa.fg, .mp 2, .n x0.fa.fe]), .mapo (encM (kI .i64) (vA Ta.enc) x0.fa.fOf), .blk x0.fc.enc, .mapo (encM (kI .i64) (vA Tb.enc) x0.fOf)]⟩ (AWp.reg Try.tyOk hΓ [] [] (by kernel_rfl) rfl (by simp)) ?_
 refine AWp.thenA [⟨5, none, .sl [] .full⟩, ⟨0, none, .ptr 0 0⟩, ⟨1, none, .sl (x1.map Ta.enc) .no⟩] (AWp.reg Try.tyOk hΓ [5] [] (by kernel_rfl) rfl (by simp)) ?_
 refine AWp.seq ?_
 refine AWp.then ⟨[⟨10, none, .sl (x1.map Ta.enc) .no⟩, ⟨11, none, .n (lenL x1)⟩, ⟨12, none, .n 0⟩, ⟨5, none, .sl [] .full⟩, ⟨0, none, .ptr 0 0⟩], [.blk ([.ptr 1 0, .ptr 3 0] ++ x0.ff.enc ++ x0.fh.enc ++ [.mp 4, .n x0.fp, .n x0.fm]), .blk (x0.fa.fb.enc ++ [.b x0.fa.fd, .n x0.fa.fg, .mp 2, .n x0.fa.fe]), .mapo (encM (kI .i64) (vA Ta.enc) x0.fa.fOf), .blk x0.fc.enc, .mapo (encM (kI .i64) (vA Tb.enc) x0.fOf)]⟩ (AWp.reg Try.tyOk hΓ [10, 11, 12] [1] (by kernel_rfl) rfl (by simp)) ?_
 refine AWp.equip 5 1 (els := []) (by simp) (by simp) ?_
 refine AWp.loopE (fun (s1 : Int × Tv × Tt × Int × Int × Tk × Bool × Int × Int × (List (Int × Ta)) × Th × (List (Int × Tb)) × List Tl) (γ1 : Nat) => ⟨[⟨10, none, .sl (x1.map Ta.enc) .no⟩, ⟨11, none, .n (lenL x1)⟩, ⟨12, none, .n s1.1⟩, ⟨5, none, .sl (s1.2.2.2.2.2.2.2.2.2.2.2.2.map Tl.enc) (.own 5 (γ1) 1)⟩, ⟨0, none, .ptr 0 0⟩], [.blk ([.ptr 1 0, .ptr 3 0] ++ s1.2.1.enc ++ s1.2.2.1.enc ++ [.mp 4, .n s1.2.2.2.1, .n s1.2.2.2.2.1]), .blk (s1.2.2.2.2.2.1.enc ++ [.b s1.2.2.2.2.2.2.1, .n s1.2.2.2.2.2.2.2.1, .mp 2, .n s1.2.2.2.2.2.2.2.2.1]), .mapo (encM (kI .i64) (vA Ta.enc) s1.2.2.2.2.2.2.2.2.2.1), .blk s1.2.2.2.2.2.2.2.2.2.2.1.enc, .mapo (encM (kI .i64) (vA Tb.enc) s1.2.2.2.2.2.2.2.2.2.2.2.1), .room (γ1)]⟩) (fun (v1 : List Tl × Tv × Tt × Int × Int × Tk × Bool × Int × Int × (List (Int × Ta)) × Th × (List (Int × Tb))) (γ1a : Nat) => ⟨[⟨5, none, .sl (v1.1.map Tl.enc) (.own 5 (γ1a) 1)⟩], [.blk ([.ptr 1 0, .ptr 3 0] ++ v1.2.1.enc ++ v1.2.2.1.enc ++ [.mp 4, .n v1.2.2.2.1, .n v1.2.2.2.2.1]), .blk (v1.2.2.2.2.2.1.enc ++ [.b v1.2.2.2.2.2.2.1, .n v1.2.2.2.2.2.2.2.1, .mp 2, .n v1.2.2.2.2.2.2.2.2.1]), .mapo (encM (kI .i64) (vA Ta.enc) v1.2.2.2.2.2.2.2.2.2.1), .blk v1.2.2.2.2.2.2.2.2.2.2.1.enc, .mapo (encM (kI .i64) (vA Tb.enc) v1.2.2.2.2.2.2.2.2.2.2.2), .room (γ1a)]⟩) (ge.fin x0 x1) hr 0 6 (by simp) (fun s1 f γ1 hr => ?_) (fun v1 γ1a σ1 m1 hr hc => ?_) (fun _ h => h)
 ·unfold ge.loop1 at hr
  refine AWp.then ⟨[⟨13, none, .b (ltI s1.1 (lenL x1))⟩, ⟨10, none, .sl (x1.map Ta.enc) .no⟩, ⟨11, none, .n (lenL x1)⟩, ⟨12, none, .n s1.1⟩, ⟨5, none, .sl (s1.2.2.2.2.2.2.2.2.2.2.2.2.map Tl.enc) (.own 5 (γ1) 1)⟩, ⟨0, none, .ptr 0 0⟩], [.blk ([.ptr 1 0, .ptr 3 0] ++ s1.2.1.enc ++ s1.2.2.1.enc ++ [.mp 4, .n s1.2.2.2.1, .n s1.2.2.2.2.1]), .blk (s1.2.2.2.2.2.1.enc ++ [.b s1.2.2.2.2.2.2.1, .n s1.2.2.2.2.2.2.2.1, .mp 2, .n s1.2.2.2.2.2.2.2.2.1]), .mapo (encM (kI .i64) (vA Ta.enc) s1.2.2.2.2.2.2.2.2.2.1), .blk s1.2.2.2.2.2.2.2.2.2.2.1.enc, .mapo (encM (kI .i64) (vA Tb.enc) s1.2.2.2.2.2.2.2.2.2.2.2.1), .room (γ1)]⟩ (AWp.reg Try.tyOk hΓ [13] [] (by kernel_rfl) rfl (by simp)) ?_
  refine AWp.seq ?_
  refine AWp.cond (b := (ltI s1.1 (lenL x1))) (by simp) (fun h9 => ?_) (fun h9 => ?_)
  ·have hr := Lj h9 hr
   refine AWp.skip ?_
   refine AWp.seq ?_
   refine AWp.block ?_
   obtain ⟨h10, hr⟩ := Li hr
   refine AWp.then ⟨[⟨7, none, .ptr 6 0⟩, ⟨10, none, .sl (x1.map Ta.enc) .no⟩, ⟨11, none, .n (lenL x1)⟩, ⟨12, none, .n s1.1⟩, ⟨5, none, .sl (s1.2.2.2.2.2.2.2.2.2.2.2.2.map Tl.enc) (.own 5 (γ1) 1)⟩, ⟨0, none, .ptr 0 0⟩], [.blk ([.ptr 1 0, .ptr 3 0] ++ s1.2.1.enc ++ s1.2.2.1.enc ++ [.mp 4, .n s1.2.2.2.1, .n s1.2.2.2.2.1]), .blk (s1.2.2.2.2.2.1.enc ++ [.b s1.2.2.2.2.2.2.1, .n s1.2.2.2.2.2.2.2.1, .mp 2, .n s1.2.2.2.2.2.2.2.2.1]), .mapo (encM (kI .i64) (vA Ta.enc) s1.2.2.2.2.2.2.2.2.2.1), .blk s1.2.2.2.2.2.2.2.2.2.2.1.enc, .mapo (encM (kI .i64) (vA Tb.enc) s1.2.2.2.2.2.2.2.2.2.2.2.1), .room (γ1), .blk (nthI x1 s1.1).enc]⟩ (AWp.reg Try.tyOk hΓ [7] [13] (by kernel_rfl) rfl (by simp [h9, h10])) ?_
   obtain ⟨r1, h11, hr⟩ := Lc hr
   obtain ⟨r2, h12, hr⟩ := Lc hr
   refine AWp.then ⟨[⟨8, none, .ptr 7 0⟩, ⟨9, none, .b r2.2.1⟩, ⟨10, none, .sl (x1.map Ta.enc) .no⟩, ⟨11, none, .n (lenL x1)⟩, ⟨12, none, .n s1.1⟩, ⟨5, none, .sl (s1.2.2.2.2.2.2.2.2.2.2.2.2.map Tl.enc) (.own 5 (γ1) 1)⟩, ⟨0, none, .ptr 0 0⟩], [.blk ([.ptr 1 0, .ptr 3 0] ++ r1.2.ff.enc ++ r1.2.fh.enc ++ [.mp 4, .n r1.2.fp, .n r1.2.fm]), .blk (r1.2.fa.fb.enc ++ [.b r1.2.fa.fd, .n r1.2.fa.fg, .mp 2, .n r1.2.fa.fe]), .mapo (encM (kI .i64) (vA Ta.enc) r1.2.fa.fOf), .blk r2.2.2.enc, .mapo (encM (kI .i64) (vA Tb.enc) r1.2.fOf), .room (γ1), .blk (nthI x1 s1.1).enc, .blk [.sl (r2.1.fj.map Tc.enc) .no]]⟩ (AWp.regD Try.mixed Try.tyOk hΓ [8, 9] [7] [(0, 7), (1, 7), (2, 7), (3, 7), (8, 12), (9, 12), (10, 12), (10, 13)] [(false, []), (false, []), (false, []), (false, []), (false, []), (false, []), (true, []), (true, []), (false, []), (false, []), (false, []), (true, []), (true, []), (false, [])] (by kernel_rfl) rfl (by simp [h11, h12])) ?_
   refine AWp.seq ?_
   refine AWp.then ⟨[⟨28, none, .b (notB r2.2.1)⟩, ⟨8, none, .ptr 7 0⟩, ⟨10, none, .sl (x1.map Ta.enc) .no⟩, ⟨11, none, .n (lenL x1)⟩, ⟨12, none, .n s1.1⟩, ⟨5, none, .sl (s1.2.2.2.2.2.2.2.2.2.2.2.2.map Tl.enc) (.own 5 (γ1) 1)⟩, ⟨0, none, .ptr 0 0⟩], [.blk ([.ptr 1 0, .ptr 3 0] ++ r1.2.ff.enc ++ r1.2.fh.enc ++ [.mp 4, .n r1.2.fp, .n r1.2.fm]), .blk (r1.2.fa.fb.enc ++ [.b r1.2.fa.fd, .n r1.2.fa.fg, .mp 2, .n r1.2.fa.fe]), .mapo (encM (kI .i64) (vA Ta.enc) r1.2.fa.fOf), .blk r2.2.2.enc, .mapo (encM (kI .i64) (vA Tb.enc) r1.2.fOf), .room (γ1), .blk (nthI x1 s1.1).enc, .blk [.sl (r2.1.fj.map Tc.enc) .no]]⟩ (AWp.reg Try.tyOk hΓ [28] [9] (by kernel_rfl) rfl (by simp)) ?_
   refine AWp.cond (b := (notB r2.2.1)) (by simp) (fun h13 => ?_) (fun h13 => ?_)
   ·have hr := Lj h13 hr
    refine AWp.exit ?_
    refine blockS_same ?_
    refine AWp.last ⟨[⟨12, none, .n (addI .i64 s1.1 1)⟩, ⟨10, none, .sl (x1.map Ta.enc) .no⟩, ⟨11, none, .n (lenL x1)⟩, ⟨5, none, .sl (s1.2.2.2.2.2.2.2.2.2.2.2.2.map Tl.enc) (.own 5 (γ1) 1)⟩, ⟨0, none, .ptr 0 0⟩], [.blk ([.ptr 1 0, .ptr 3 0] ++ r1.2.ff.enc ++ r1.2.fh.enc ++ [.mp 4, .n r1.2.fp, .n r1.2.fm]), .blk (r1.2.fa.fb.enc ++ [.b r1.2.fa.fd, .n r1.2.fa.fg, .mp 2, .n r1.2.fa.fe]), .mapo (encM (kI .i64) (vA Ta.enc) r1.2.fa.fOf), .blk r2.2.2.enc, .mapo (encM (kI .i64) (vA Tb.enc) r1.2.fOf), .room (γ1), .blk (nthI x1 s1.1).enc, .blk [.sl (r2.1.fj.map Tc.enc) .no]]⟩ (AWp.reg Try.tyOk hΓ [12] [28, 8] (by kernel_rfl) rfl (by simp [h13])) ?_
    obtain rfl := La hr
    exact round_go (γ1) 6 (by first | (simp; done) | simp [h9, h10, h11, h12, h13])
   ·have hr := Lk h13 hr
    refine AWp.skip ?_
    refine AWp.meetF (fun (v2 : Int) (γ2 : Unit) => ⟨[⟨8, none, .ptr 7 0⟩, ⟨10, none, .sl (x1.map Ta.enc) .no⟩, ⟨11, none, .n (lenL x1)⟩, ⟨12, none, .n s1.1⟩, ⟨5, none, .sl (s1.2.2.2.2.2.2.2.2.2.2.2.2.map Tl.enc) (.own 5 (γ1) 1)⟩, ⟨0, none, .ptr 0 0⟩], [.blk ([.ptr 1 0, .ptr 3 0] ++ r1.2.ff.enc ++ r1.2.fh.enc ++ [.mp 4, .n r1.2.fp, .n v2]), .blk (r1.2.fa.fb.enc ++ [.b r1.2.fa.fd, .n r1.2.fa.fg, .mp 2, .n r1.2.fa.fe]), .mapo (encM (kI .i64) (vA Ta.enc) r1.2.fa.fOf), .blk r2.2.2.enc, .mapo (encM (kI .i64) (vA Tb.enc) r1.2.fOf), .room (γ1), .blk (nthI x1 s1.1).enc, .blk [.sl (r2.1.fj.map Tc.enc) .no]]⟩) (QRr (ge.fin x0 x1)) hr (fun f hr => ?_) (fun v2 γ2 hr => ?_) (fun _ h => QRr_ret h)
    ·obtain ⟨r3, h14, hr⟩ := Lc hr
     refine AWp.then ⟨[⟨30, none, .b r3⟩, ⟨8, none, .ptr 7 0⟩, ⟨10, none, .sl (x1.map Ta.enc) .no⟩, ⟨11, none, .n (lenL x1)⟩, ⟨12, none, .n s1.1⟩, ⟨5, none, .sl (s1.2.2.2.2.2.2.2.2.2.2.2.2.map Tl.enc) (.own 5 (γ1) 1)⟩, ⟨0, none, .ptr 0 0⟩], [.blk ([.ptr 1 0, .ptr 3 0] ++ r1.2.ff.enc ++ r1.2.fh.enc ++ [.mp 4, .n r1.2.fp, .n r1.2.fm]), .blk (r1.2.fa.fb.enc ++ [.b r1.2.fa.fd, .n r1.2.fa.fg, .mp 2, .n r1.2.fa.fe]), .mapo (encM (kI .i64) (vA Ta.enc) r1.2.fa.fOf), .blk r2.2.2.enc, .mapo (encM (kI .i64) (vA Tb.enc) r1.2.fOf), .room (γ1), .blk (nthI x1 s1.1).enc, .blk [.sl (r2.1.fj.map Tc.enc) .no]]⟩ (AWp.reg Try.tyOk hΓ [30] [28] (by kernel_rfl) rfl (by simp [h13, h14])) ?_
     refine AWp.cond (b := r3) (by simp) (fun h15 => ?_) (fun h15 => ?_)
     ·have hr := Lj h15 hr
      refine AWp.last ⟨[⟨8, none, .ptr 7 0⟩, ⟨10, none, .sl (x1.map Ta.enc) .no⟩, ⟨11, none, .n (lenL x1)⟩, ⟨12, none, .n s1.1⟩, ⟨5, none, .sl (s1.2.2.2.2.2.2.2.2.2.2.2.2.map Tl.enc) (.own 5 (γ1) 1)⟩, ⟨0, none, .ptr 0 0⟩], [.blk ([.ptr 1 0, .ptr 3 0] ++ r1.2.ff.enc ++ r1.2.fh.enc ++ [.mp 4, .n r1.2.fp, .n (addI .i64 r1.2.fm 1)]), .blk (r1.2.fa.fb.enc ++ [.b r1.2.fa.fd, .n r1.2.fa.fg, .mp 2, .n r1.2.fa.fe]), .mapo (encM (kI .i64) (vA Ta.enc) r1.2.fa.fOf), .blk r2.2.2.enc, .mapo (encM (kI .i64) (vA Tb.enc) r1.2.fOf), .room (γ1), .blk (nthI x1 s1.1).enc, .blk [.sl (r2.1.fj.map Tc.enc) .no]]⟩ (AWp.reg Try.tyOk hΓ [] [30] (by kernel_rfl) rfl (by simp [h15])) ?_
      obtain rfl := La hr
      exact Lo () 8 (by first | (simp; done) | simp [h9, h10, h11, h12, h13, h14, h15])
     ·have hr := Lk h15 hr
      refine AWp.skip ?_
      obtain rfl := La hr
      exact Lo () 8 (by first | (simp; done) | simp [h9, h10, h11, h12, h13, h14, h15])
    ·obtain ⟨h16, hr⟩ := Li hr
     refine AWp.last ⟨[⟨5, none, .sl ((appL s1.2.2.2.2.2.2.2.2.2.2.2.2 [r2.1]).map Tl.enc) (.own 5 (γ1 + 1) 1)⟩, ⟨10, none, .sl (x1.map Ta.enc) .no⟩, ⟨11, none, .n (lenL x1)⟩, ⟨12, none, .n s1.1⟩, ⟨0, none, .ptr 0 0⟩], [.blk ([.ptr 1 0, .ptr 3 0] ++ r1.2.ff.enc ++ r1.2.fh.enc ++ [.mp 4, .n r1.2.fp, .n v2]), .blk (r1.2.fa.fb.enc ++ [.b r1.2.fa.fd, .n r1.2.fa.fg, .mp 2, .n r1.2.fa.fe]), .mapo (encM (kI .i64) (vA Ta.enc) r1.2.fa.fOf), .blk r2.2.2.enc, .mapo (encM (kI .i64) (vA Tb.enc) r1.2.fOf), .room (γ1 + 1), .blk (nthI x1 s1.1).enc, .blk [.sl (r2.1.fj.map Tc.enc) .no]]⟩ (AWp.reg Try.tyOk hΓ [5] [8] (by kernel_rfl) rfl (by simp [h16])) ?_
     refine AWp.last ⟨[⟨12, none, .n (addI .i64 s1.1 1)⟩, ⟨5, none, .sl ((appL s1.2.2.2.2.2.2.2.2.2.2.2.2 [r2.1]).map Tl.enc) (.own 5 (γ1 + 1) 1)⟩, ⟨10, none, .sl (x1.map Ta.enc) .no⟩, ⟨11, none, .n (lenL x1)⟩, ⟨0, none, .ptr 0 0⟩], [.blk ([.ptr 1 0, .ptr 3 0] ++ r1.2.ff.enc ++ r1.2.fh.enc ++ [.mp 4, .n r1.2.fp, .n v2]), .blk (r1.2.fa.fb.enc ++ [.b r1.2.fa.fd, .n r1.2.fa.fg, .mp 2, .n r1.2.fa.fe]), .mapo (encM (kI .i64) (vA Ta.enc) r1.2.fa.fOf), .blk r2.2.2.enc, .mapo (encM (kI .i64) (vA Tb.enc) r1.2.fOf), .room (γ1 + 1), .blk (nthI x1 s1.1).enc, .blk [.sl (r2.1.fj.map Tc.enc) .no]]⟩ (AWp.reg Try.tyOk hΓ [12] [] (by kernel_rfl) rfl (by simp)) ?_
     obtain rfl := La hr
     exact round_go (γ1 + 1) 6 (by first | (simp; done) | simp [h9, h10, h11, h12, h13, h16])
  ·have hr := Lk h9 hr
   refine AWp.exit ?_
   obtain rfl := La hr
   exact round_out (γ1) 6 (by first | (simp; done) | simp [h9])
 ·refine AWp.conv hc ?_
  refine AWp.then ⟨[⟨4, none, .sl (v1.1.map Tl.enc) (.own 5 (γ1a) 1)⟩], [.blk ([.ptr 1 0, .ptr 3 0] ++ v1.2.1.enc ++ v1.2.2.1.enc ++ [.mp 4, .n v1.2.2.2.1, .n v1.2.2.2.2.1]), .blk (v1.2.2.2.2.2.1.enc ++ [.b v1.2.2.2.2.2.2.1, .n v1.2.2.2.2.2.2.2.1, .mp 2, .n v1.2.2.2.2.2.2.2.2.1]), .mapo (encM (kI .i64) (vA Ta.enc) v1.2.2.2.2.2.2.2.2.2.1), .blk v1.2.2.2.2.2.2.2.2.2.2.1.enc, .mapo (encM (kI .i64) (vA Tb.enc) v1.2.2.2.2.2.2.2.2.2.2.2), .room (γ1a)]⟩ (AWp.reg Try.tyOk hΓ [4] [5] (by kernel_rfl) rfl (by simp)) ?_
  refine AWp.ret ?_
  obtain rfl := La hr
  refine Lg ?_
  simp

@[simp] noncomputable def ge.S : Sp
 | [.ptr i0 0, .sl e1 _], M => match M[i0]? with
  | some (.blk c0) => (match nthE c0 0 with
  | some (.ptr i1 0) => (match M[i1]? with
  | some (.blk c1) => (match nthE c1 4 with
  | some (.mp i2) => (match M[i2]? with
  | some (.mapo c2) => (match nthE c0 1 with
  | some (.ptr i3 0) => (match M[i3]? with
  | some (.blk c3) => (match nthE c0 9 with
  | some (.mp i4) => (match M[i4]? with
  | some (.mapo c4) => (fun (y0 : Tf) => (fun (r : List Tl × Tf) => some { av := .sl ((r.1).map Tl.enc) .no, M := some (((((M.set i0 (.blk [.ptr i1 0, .ptr i3 0, .lit (.bool (r.2.ff.fd)), .lit (.int .i64 (r.2.ff.fk)), .lit (.int .u16 (r.2.ff.fV)), .lit (.int .i64 (r.2.ff.fM)), .lit (.int .i64 (r.2.ff.fC)), .lit (.bool (r.2.fh.fd)), .lit (.int .i64 (r.2.fh.fW)), .mp i4, .lit (.int .i64 (r.2.fp)), .lit (.int .i64 (r.2.fm))])).set i1 (.blk [.lit (.int .i64 (r.2.fa.fb.fk)), .lit (.int .i64 (r.2.fa.fb.fq)), .lit (.bool (r.2.fa.fd)), .lit (.int .i64 (r.2.fa.fg)), .mp i2, .lit (.int .i64 (r.2.fa.fe))])).set i2 (.mapo (encM (kI .i64) (vA Ta.enc) (r.2.fa.fOf)))).set i3 (.blk [.lit (.bool (r.2.fc.fb.fu)), .lit (.int .i64 (r.2.fc.fb.fv)), .lit (.int .i64 (r.2.fc.fb.fj)), .lit (.int .i64 (r.2.fc.fb.fq)), .sl ((r.2.fc.fw.fj).map Tc.enc) .no, .lit (.int .i64 (r.2.fc.fz)), .lit (.int .i64 (r.2.fc.fe))])).set i4 (.mapo (encM (kI .i64) (vA Tb.enc) (r.2.fOf)))), obl := e1 = (e1.map Ta.dec).map Ta.enc ∧ c0 = Tf.enc y0 i1 i3 i4 ∧ c1 = Tg.enc (y0.fa) i2 ∧ c2 = encM (kI .i64) (vA Ta.enc) (y0.fa.fOf) ∧ c3 = Th.enc (y0.fc) ∧ c4 = encM (kI .i64) (vA Tb.enc) (y0.fOf) ∧ (ge y0 (e1.map Ta.dec)).isSome = true ∧ i0 ≠ i1 ∧ i0 ≠ i2 ∧ i0 ≠ i3 ∧ i0 ≠ i4 ∧ i1 ≠ i2 ∧ i1 ≠ i3 ∧ i1 ≠ i4 ∧ i2 ≠ i3 ∧ i2 ≠ i4 ∧ i3 ≠ i4 }) ((ge y0 (e1.map Ta.dec)).getD dflt)) (Tf.dec c0 (Tg.dec c1 (decM dkI (dvA Ta.dec) c2)) (Th.dec c3) (decM dkI (dvA Tb.dec) c4))
  | _ => none)
  | _ => none)
  | _ => none)
  | _ => none)
  | _ => none)
  | _ => none)
  | _ => none)
  | _ => none)
  | _ => none
 | _, _ => none

theorem ge.ok : SpecOk Try.prog 28 ge.S := by
 intro l M out h
 unfold ge.S at h
 split at h
 ·rename_i i0 e1 k1
  split at h
  case h_2 => cases h
  rename_i c0 hM0
  split at h
  case h_2 => cases h
  rename_i i1 he1
  split at h
  case h_2 => cases h
  rename_i c1 hM1
  split at h
  case h_2 => cases h
  rename_i i2 he2
  split at h
  case h_2 => cases h
  rename_i c2 hM2
  split at h
  case h_2 => cases h
  rename_i i3 he3
  split at h
  case h_2 => cases h
  rename_i c3 hM3
  split at h
  case h_2 => cases h
  rename_i i4 he4
  split at h
  case h_2 => cases h
  rename_i c4 hM4
  try dsimp only at h
  cases h
  refine callOk_of fun ho => ?_
  obtain ⟨ox1, oc0, oc1, oc2, oc3, oc4, hs, hne0, hne1, hne2, hne3, hne4, hne5, hne6, hne7, hne8, hne9⟩ := ho
  generalize (Tf.dec c0 (Tg.dec c1 (decM dkI (dvA Ta.dec) c2)) (Th.dec c3) (decM dkI (dvA Tb.dec) c4)) = y0 at *
  generalize (e1.map Ta.dec) = x1 at *
  subst ox1
  subst oc0
  subst oc1
  subst oc2
  subst oc3
  subst oc4
  obtain ⟨r, hr⟩ := Option.isSome_iff_exists.1 hs
  simp only [hr, Option.getD_some]
  have q := Lh (M := M) [i0, i1, i2, i3, i4] (ge.can y0 x1 r hr) (by simp [hne0, hne1, hne2, hne3, hne4, hne5, hne6, hne7, hne8, hne9]) rfl (by intro k i hk; (cases k with | zero => (simp at hk; subst hk; simp [hM0, into]) | succ k => ((cases k with | zero => (simp at hk; subst hk; simp [hM1, into]) | succ k => ((cases k with | zero => (simp at hk; subst hk; simp [hM2]) | succ k => ((cases k with | zero => (simp at hk; subst hk; simp [hM3]) | succ k => ((cases k with | zero => (simp at hk; subst hk; simp [hM4]) | succ k => (simp at hk)))))))))))
  exact callOk_conv q trivial (by simp [into]) (by simp [frameOut, ge.out, into]) (by simp [frameOut, ge.out, into])
 ·cases h

@[simp] def gl.out (_x0 : Tf) (_x1 : Tb) (_x2 : Int) (r : List Tl × Int × Tf) : Out := { av := .tup [.sl (r.1.map Tl.enc) .no, .lit (.int .i64 r.2.1)], M := some [.blk [.ptr 1 0, .ptr 3 0, .lit (.bool r.2.2.ff.fd), .lit (.int .i64 r.2.2.ff.fk), .lit (.int .u16 r.2.2.ff.fV), .lit (.int .i64 r.2.2.ff.fM), .lit (.int .i64 r.2.2.ff.fC), .lit (.bool r.2.2.fh.fd), .lit (.int .i64 r.2.2.fh.fW), .mp 4, .lit (.int .i64 r.2.2.fp), .lit (.int .i64 r.2.2.fm)], .blk [.lit (.int .i64 r.2.2.fa.fb.fk), .lit (.int .i64 r.2.2.fa.fb.fq), .lit (.bool r.2.2.fa.fd), .lit (.int .i64 r.2.2.fa.fg), .mp 2, .lit (.int .i64 r.2.2.fa.fe)], .mapo (encM (kI .i64) (vA Ta.enc) r.2.2.fa.fOf), .blk [.lit (.bool r.2.2.fc.fb.fu), .lit (.int .i64 r.2.2.fc.fb.fv), .lit (.int .i64 r.2.2.fc.fb.fj), .lit (.int .i64 r.2.2.fc.fb.fq), .sl (r.2.2.fc.fw.fj.map Tc.enc) .no, .lit (.int .i64 r.2.2.fc.fz), .lit (.int .i64 r.2.2.fc.fe)], .mapo (encM (kI .i64) (vA Tb.enc) r.2.2.fOf)] }
def gl.fin (x0 : Tf) (x1 : Tb) (x2 : Int) (r : List Tl × Int × Tf) (σ : St) : Prop := finK (gl.out x0 x1 x2 r) [.blk ([.ptr 1 0, .ptr 3 0] ++ x0.ff.enc ++ x0.fh.enc ++ [.mp 4, .lit (.int .i64 x0.fp), .lit (.int .i64 x0.fm)]), .blk (x0.fa.fb.enc ++ [.lit (.bool x0.fa.fd), .lit (.int .i64 x0.fa.fg), .mp 2, .lit (.int .i64 x0.fa.fe)]), .mapo (encM (kI .i64) (vA Ta.enc) x0.fa.fOf), .blk x0.fc.enc, .mapo (encM (kI .i64) (vA Tb.enc) x0.fOf)] σ.M (resA Try.ty σ.A σ.M Try.f11.results.toList)
theorem gl.can (x0 : Tf) (x1 : Tb) (x2 : Int) (r : List Tl × Int × Tf) (hr : gl x0 x1 x2 = some r) : CallOk Try.prog 11 [.ptr 0 0, .agg [.lit (.bool x1.fA), .lit (.int .u8 x1.fab), .lit (.int .u16 x1.ff), .lit (.int .u32 x1.fQ), .lit (.int .u32 x1.fac), .sl (x1.faa.map (eNum .u32)) .no, .lit (.bool x1.fae), .lit (.int .u16 x1.fY), .lit (.string x1.fad), .lit (.string x1.fF), .lit (.int .i64 x1.fZ)], .lit (.int .i64 x2)] [.blk ([.ptr 1 0, .ptr 3 0] ++ x0.ff.enc ++ x0.fh.enc ++ [.mp 4, .lit (.int .i64 x0.fp), .lit (.int .i64 x0.fm)]), .blk (x0.fa.fb.enc ++ [.lit (.bool x0.fa.fd), .lit (.int .i64 x0.fa.fg), .mp 2, .lit (.int .i64 x0.fa.fe)]), .mapo (encM (kI .i64) (vA Ta.enc) x0.fa.fOf), .blk x0.fc.enc, .mapo (encM (kI .i64) (vA Tb.enc) x0.fOf)] (gl.out x0 x1 x2 r) := by
 unfold gl at hr
 have hΓ := (gamL_cons gg.ok (gamL_cons ge.ok (gamL_cons gm.ok (gamL_nil))) : GamOk Try.prog _)
 refine Lf Try.tyOk Try.func11 rfl (by kernel_rfl) rfl rfl (by simp) ?_
 intro _ _ _
 refine AWp.then ⟨[⟨4, none, .ptr 5 0⟩, ⟨0, none, .ptr 0 0⟩, ⟨2, none, .n x2⟩], [.blk ([.ptr 1 0, .ptr 3 0] ++ x0.ff.enc ++ x0.fh.enc ++ [.mp 4, .n x0.fp, .n x0.fm]), .blk (x0.fa.fb.enc ++ [.b x0.fa.fd, .n x0.fa.fg, .mp 2, .n x0.fa.fe]), .mapo (encM (kI .i64) (vA Ta.enc) x0.fa.fOf), .blk x0.fc.enc, .mapo (encM (kI .i64) (vA Tb.enc) x0.fOf), .blk x1.enc]⟩ (AWp.reg Try.tyOk hΓ [4] [1] (by kernel_rfl) rfl (by simp)) ?_
 obtain ⟨r1, h9, hr⟩ := Lc hr
 refine AWp.then ⟨[⟨8, none, .n r1.1⟩, ⟨9, none, .b r1.2.1⟩, ⟨4, none, .ptr 5 0⟩, ⟨0, none, .ptr 0 0⟩, ⟨2, none, .n x2⟩], [.blk ([.ptr 1 0, .ptr 3 0] ++ r1.2.2.ff.enc ++ r1.2.2.fh.enc ++ [.mp 4, .n r1.2.2.fp, .n r1.2.2.fm]), .blk (r1.2.2.fa.fb.enc ++ [.b r1.2.2.fa.fd, .n r1.2.2.fa.fg, .mp 2, .n r1.2.2.fa.fe]), .mapo (encM (kI .i64) (vA Ta.enc) r1.2.2.fa.fOf), .blk r1.2.2.fc.enc, .mapo (encM (kI .i64) (vA Tb.enc) r1.2.2.fOf), .blk x1.enc]⟩ (AWp.regD Try.mixed Try.tyOk hΓ [8, 9] [] [] [(false, []), (false, []), (false, []), (false, []), (false, []), (true, []), (false, []), (false, []), (false, []), (false, []), (false, [])] (by kernel_rfl) rfl (by simp [h9])) ?_
 refine AWp.seq ?_
 refine AWp.then ⟨[⟨24, none, .b (notB r1.2.1)⟩, ⟨8, none, .n r1.1⟩, ⟨4, none, .ptr 5 0⟩, ⟨0, none, .ptr 0 0⟩, ⟨2, none, .n x2⟩], [.blk ([.ptr 1 0, .ptr 3 0] ++ r1.2.2.ff.enc ++ r1.2.2.fh.enc ++ [.mp 4, .n r1.2.2.fp, .n r1.2.2.fm]), .blk (r1.2.2.fa.fb.enc ++ [.b r1.2.2.fa.fd, .n r1.2.2.fa.fg, .mp 2, .n r1.2.2.fa.fe]), .mapo (encM (kI .i64) (vA Ta.enc) r1.2.2.fa.fOf), .blk r1.2.2.fc.enc, .mapo (encM (kI .i64) (vA Tb.enc) r1.2.2.fOf), .blk x1.enc]⟩ (AWp.reg Try.tyOk hΓ [24] [9] (by kernel_rfl) rfl (by simp)) ?_
 refine AWp.cond (b := (notB r1.2.1)) (by simp) (fun h10 => ?_) (fun h10 => ?_)
 ·have hr := Lj h10 hr
  refine AWp.then ⟨[], [.blk ([.ptr 1 0, .ptr 3 0] ++ r1.2.2.ff.enc ++ r1.2.2.fh.enc ++ [.mp 4, .n (addI .i64 r1.2.2.fp 1), .n r1.2.2.fm]), .blk (r1.2.2.fa.fb.enc ++ [.b r1.2.2.fa.fd, .n r1.2.2.fa.fg, .mp 2, .n r1.2.2.fa.fe]), .mapo (encM (kI .i64) (vA Ta.enc) r1.2.2.fa.fOf), .blk r1.2.2.fc.enc, .mapo (encM (kI .i64) (vA Tb.enc) r1.2.2.fOf), .blk x1.enc]⟩ (AWp.reg Try.tyOk hΓ [] [24, 8, 4, 0, 2] (by kernel_rfl) rfl (by simp [h10])) ?_
  refine AWp.thenA [⟨6, none, .sl [] .full⟩, ⟨7, none, .n 13⟩] (AWp.reg Try.tyOk hΓ [6, 7] [] (by kernel_rfl) rfl (by simp)) ?_
  refine AWp.ret ?_
  obtain rfl := La hr
  refine Lg ?_
  simp
 ·have hr := Lk h10 hr
  refine AWp.skip ?_
  refine AWp.meetF (fun (v1 : Tb) (γ1 : Unit) => ⟨[⟨8, none, .n r1.1⟩, ⟨4, none, .ptr 5 0⟩, ⟨0, none, .ptr 0 0⟩, ⟨2, none, .n x2⟩], [.blk ([.ptr 1 0, .ptr 3 0] ++ r1.2.2.ff.enc ++ r1.2.2.fh.enc ++ [.mp 4, .n r1.2.2.fp, .n r1.2.2.fm]), .blk (r1.2.2.fa.fb.enc ++ [.b r1.2.2.fa.fd, .n r1.2.2.fa.fg, .mp 2, .n r1.2.2.fa.fe]), .mapo (encM (kI .i64) (vA Ta.enc) r1.2.2.fa.fOf), .blk r1.2.2.fc.enc, .mapo (encM (kI .i64) (vA Tb.enc) r1.2.2.fOf), .blk v1.enc]⟩) (gl.fin x0 x1 x2) hr (fun f hr => ?_) (fun v1 γ1 hr => ?_) (fun _ h => h)
  ·refine AWp.then ⟨[⟨34, none, .b (eqS x1.fF ⟨#[]⟩)⟩, ⟨8, none, .n r1.1⟩, ⟨4, none, .ptr 5 0⟩, ⟨0, none, .ptr 0 0⟩, ⟨2, none, .n x2⟩], [.blk ([.ptr 1 0, .ptr 3 0] ++ r1.2.2.ff.enc ++ r1.2.2.fh.enc ++ [.mp 4, .n r1.2.2.fp, .n r1.2.2.fm]), .blk (r1.2.2.fa.fb.enc ++ [.b r1.2.2.fa.fd, .n r1.2.2.fa.fg, .mp 2, .n r1.2.2.fa.fe]), .mapo (encM (kI .i64) (vA Ta.enc) r1.2.2.fa.fOf), .blk r1.2.2.fc.enc, .mapo (encM (kI .i64) (vA Tb.enc) r1.2.2.fOf), .blk x1.enc]⟩ (AWp.reg Try.tyOk hΓ [34] [24] (by kernel_rfl) rfl (by simp [h10])) ?_
   refine AWp.cond (b := (eqS x1.fF ⟨#[]⟩)) (by simp) (fun h11 => ?_) (fun h11 => ?_)
   ·have hr := Lj h11 hr
    refine AWp.last ⟨[⟨8, none, .n r1.1⟩, ⟨4, none, .ptr 5 0⟩, ⟨0, none, .ptr 0 0⟩, ⟨2, none, .n x2⟩], [.blk ([.ptr 1 0, .ptr 3 0] ++ r1.2.2.ff.enc ++ r1.2.2.fh.enc ++ [.mp 4, .n r1.2.2.fp, .n r1.2.2.fm]), .blk (r1.2.2.fa.fb.enc ++ [.b r1.2.2.fa.fd, .n r1.2.2.fa.fg, .mp 2, .n r1.2.2.fa.fe]), .mapo (encM (kI .i64) (vA Ta.enc) r1.2.2.fa.fOf), .blk r1.2.2.fc.enc, .mapo (encM (kI .i64) (vA Tb.enc) r1.2.2.fOf), .blk [.b false, .lit (.int .u8 x1.fab), .lit (.int .u16 x1.ff), .lit (.int .u32 x1.fQ), .lit (.int .u32 x1.fac), .sl (x1.faa.map (eNum .u32)) .no, .b x1.fae, .lit (.int .u16 x1.fY), .s x1.fad, .s x1.fF, .n x1.fZ]]⟩ (AWp.reg Try.tyOk hΓ [] [34] (by kernel_rfl) rfl (by simp [h11])) ?_
    obtain rfl := La hr
    exact Lo () 6 (by first | (simp; done) | simp [h9, h10, h11])
   ·have hr := Lk h11 hr
    refine AWp.skip ?_
    obtain rfl := La hr
    exact Lo () 6 (by first | (simp; done) | simp [h9, h10, h11])
  ·refine AWp.meetF (fun (v2 : (List (Int × Tb))) (γ2 : Unit) => ⟨[⟨8, none, .n r1.1⟩, ⟨0, none, .ptr 0 0⟩, ⟨2, none, .n x2⟩], [.blk ([.ptr 1 0, .ptr 3 0] ++ r1.2.2.ff.enc ++ r1.2.2.fh.enc ++ [.mp 4, .n r1.2.2.fp, .n r1.2.2.fm]), .blk (r1.2.2.fa.fb.enc ++ [.b r1.2.2.fa.fd, .n r1.2.2.fa.fg, .mp 2, .n r1.2.2.fa.fe]), .mapo (encM (kI .i64) (vA Ta.enc) r1.2.2.fa.fOf), .blk r1.2.2.fc.enc, .mapo (encM (kI .i64) (vA Tb.enc) v2), .blk v1.enc]⟩) (gl.fin x0 x1 x2) hr (fun f hr => ?_) (fun v2 γ2 hr => ?_) (fun _ h => h)
   ·refine AWp.then ⟨[⟨11, none, .b (hasM eqI r1.1 r1.2.2.fOf)⟩, ⟨8, none, .n r1.1⟩, ⟨4, none, .ptr 5 0⟩, ⟨0, none, .ptr 0 0⟩, ⟨2, none, .n x2⟩], [.blk ([.ptr 1 0, .ptr 3 0] ++ r1.2.2.ff.enc ++ r1.2.2.fh.enc ++ [.mp 4, .n r1.2.2.fp, .n r1.2.2.fm]), .blk (r1.2.2.fa.fb.enc ++ [.b r1.2.2.fa.fd, .n r1.2.2.fa.fg, .mp 2, .n r1.2.2.fa.fe]), .mapo (encM (kI .i64) (vA Ta.enc) r1.2.2.fa.fOf), .blk r1.2.2.fc.enc, .mapo (encM (kI .i64) (vA Tb.enc) r1.2.2.fOf), .blk v1.enc, .blk (getM eqI r1.1 (Tb.mk false 0 0 0 0 [] false 0 ⟨⟨[]⟩⟩ ⟨⟨[]⟩⟩ 0) r1.2.2.fOf).enc]⟩ (AWp.reg Try.tyOk hΓ [11] [] (by kernel_rfl) rfl (by simp)) ?_
    refine AWp.thenA [⟨46, none, .b (notB (hasM eqI r1.1 r1.2.2.fOf))⟩, ⟨8, none, .n r1.1⟩, ⟨4, none, .ptr 5 0⟩, ⟨0, none, .ptr 0 0⟩, ⟨2, none, .n x2⟩] (AWp.reg Try.tyOk hΓ [46] [11] (by kernel_rfl) rfl (by simp)) ?_
    refine AWp.cond (b := (notB (hasM eqI r1.1 r1.2.2.fOf))) (by simp) (fun h12 => ?_) (fun h12 => ?_)
    ·have hr := Lj h12 hr
     refine AWp.last ⟨[⟨8, none, .n r1.1⟩, ⟨0, none, .ptr 0 0⟩, ⟨2, none, .n x2⟩], [.blk ([.ptr 1 0, .ptr 3 0] ++ r1.2.2.ff.enc ++ r1.2.2.fh.enc ++ [.mp 4, .n r1.2.2.fp, .n r1.2.2.fm]), .blk (r1.2.2.fa.fb.enc ++ [.b r1.2.2.fa.fd, .n r1.2.2.fa.fg, .mp 2, .n r1.2.2.fa.fe]), .mapo (encM (kI .i64) (vA Ta.enc) r1.2.2.fa.fOf), .blk r1.2.2.fc.enc, .mapo (encM (kI .i64) (vA Tb.enc) (setM eqI r1.1 v1 r1.2.2.fOf)), .blk v1.enc, .blk (getM eqI r1.1 (Tb.mk false 0 0 0 0 [] false 0 ⟨⟨[]⟩⟩ ⟨⟨[]⟩⟩ 0) r1.2.2.fOf).enc]⟩ (AWp.regD Try.mixed Try.tyOk hΓ [] [46, 4] [] [(false, []), (false, []), (false, []), (false, []), (false, []), (false, []), (true, [])] (by kernel_rfl) rfl (by simp [h12])) ?_
     obtain rfl := La hr
     exact Lo () 6 (by first | (simp; done) | simp [h9, h10, h12])
    ·have hr := Lk h12 hr
     refine AWp.skip ?_
     obtain rfl := La hr
     exact Lo () 6 (by first | (simp; done) | simp [h9, h10, h12])
   ·obtain ⟨r2, h13, hr⟩ := Lc hr
    refine AWp.then ⟨[⟨12, none, .sl (r2.1.map Ta.enc) .no⟩, ⟨13, none, .n r2.2.1⟩, ⟨8, none, .n r1.1⟩, ⟨0, none, .ptr 0 0⟩], [.blk ([.ptr 1 0, .ptr 3 0] ++ r1.2.2.ff.enc ++ r1.2.2.fh.enc ++ [.mp 4, .n r1.2.2.fp, .n r1.2.2.fm]), .blk (r2.2.2.fb.enc ++ [.b r2.2.2.fd, .n r2.2.2.fg, .mp 2, .n r2.2.2.fe]), .mapo (encM (kI .i64) (vA Ta.enc) r2.2.2.fOf), .blk r1.2.2.fc.enc, .mapo (encM (kI .i64) (vA Tb.enc) v2), .blk v1.enc]⟩ (AWp.reg Try.tyOk hΓ [12, 13] [2] (by kernel_rfl) rfl (by simp [h13])) ?_
    refine AWp.seq ?_
    refine AWp.then ⟨[⟨65, none, .b (neI r2.2.1 0)⟩, ⟨12, none, .sl (r2.1.map Ta.enc) .no⟩, ⟨13, none, .n r2.2.1⟩, ⟨8, none, .n r1.1⟩, ⟨0, none, .ptr 0 0⟩], [.blk ([.ptr 1 0, .ptr 3 0] ++ r1.2.2.ff.enc ++ r1.2.2.fh.enc ++ [.mp 4, .n r1.2.2.fp, .n r1.2.2.fm]), .blk (r2.2.2.fb.enc ++ [.b r2.2.2.fd, .n r2.2.2.fg, .mp 2, .n r2.2.2.fe]), .mapo (encM (kI .i64) (vA Ta.enc) r2.2.2.fOf), .blk r1.2.2.fc.enc, .mapo (encM (kI .i64) (vA Tb.enc) v2), .blk v1.enc]⟩ (AWp.reg Try.tyOk hΓ [65] [] (by kernel_rfl) rfl (by simp)) ?_
    refine AWp.cond (b := (neI r2.2.1 0)) (by simp) (fun h14 => ?_) (fun h14 => ?_)
    ·have hr := Lj h14 hr
     refine AWp.then ⟨[⟨13, none, .n r2.2.1⟩, ⟨8, none, .n r1.1⟩, ⟨0, none, .ptr 0 0⟩], [.blk ([.ptr 1 0, .ptr 3 0] ++ r1.2.2.ff.enc ++ r1.2.2.fh.enc ++ [.mp 4, .n (addI .i64 r1.2.2.fp 1), .n r1.2.2.fm]), .blk (r2.2.2.fb.enc ++ [.b r2.2.2.fd, .n r2.2.2.fg, .mp 2, .n r2.2.2.fe]), .mapo (encM (kI .i64) (vA Ta.enc) r2.2.2.fOf), .blk r1.2.2.fc.enc, .mapo (encM (kI .i64) (vA Tb.enc) v2), .blk v1.enc]⟩ (AWp.reg Try.tyOk hΓ [] [65, 12] (by kernel_rfl) rfl (by simp [h14])) ?_
     refine AWp.meetF (fun (v3 : (List (Int × Tb))) (γ3 : Unit) => ⟨[⟨13, none, .n r2.2.1⟩], [.blk ([.ptr 1 0, .ptr 3 0] ++ r1.2.2.ff.enc ++ r1.2.2.fh.enc ++ [.mp 4, .n (addI .i64 r1.2.2.fp 1), .n r1.2.2.fm]), .blk (r2.2.2.fb.enc ++ [.b r2.2.2.fd, .n r2.2.2.fg, .mp 2, .n r2.2.2.fe]), .mapo (encM (kI .i64) (vA Ta.enc) r2.2.2.fOf), .blk r1.2.2.fc.enc, .mapo (encM (kI .i64) (vA Tb.enc) v3), .blk v1.enc]⟩) (gl.fin x0 x1 x2) hr (fun f hr => ?_) (fun v3 γ3 hr => ?_) (fun _ h => h)
     ·refine AWp.then ⟨[⟨74, none, .b (eqI r2.2.1 13)⟩, ⟨13, none, .n r2.2.1⟩, ⟨8, none, .n r1.1⟩, ⟨0, none, .ptr 0 0⟩], [.blk ([.ptr 1 0, .ptr 3 0] ++ r1.2.2.ff.enc ++ r1.2.2.fh.enc ++ [.mp 4, .n (addI .i64 r1.2.2.fp 1), .n r1.2.2.fm]), .blk (r2.2.2.fb.enc ++ [.b r2.2.2.fd, .n r2.2.2.fg, .mp 2, .n r2.2.2.fe]), .mapo (encM (kI .i64) (vA Ta.enc) r2.2.2.fOf), .blk r1.2.2.fc.enc, .mapo (encM (kI .i64) (vA Tb.enc) v2), .blk v1.enc]⟩ (AWp.reg Try.tyOk hΓ [74] [] (by kernel_rfl) rfl (by simp)) ?_
      refine AWp.cond (b := (eqI r2.2.1 13)) (by simp) (fun h15 => ?_) (fun h15 => ?_)
      ·have hr := Lj h15 hr
       refine AWp.last ⟨[⟨13, none, .n r2.2.1⟩], [.blk ([.ptr 1 0, .ptr 3 0] ++ r1.2.2.ff.enc ++ r1.2.2.fh.enc ++ [.mp 4, .n (addI .i64 r1.2.2.fp 1), .n r1.2.2.fm]), .blk (r2.2.2.fb.enc ++ [.b r2.2.2.fd, .n r2.2.2.fg, .mp 2, .n r2.2.2.fe]), .mapo (encM (kI .i64) (vA Ta.enc) r2.2.2.fOf), .blk r1.2.2.fc.enc, .mapo (encM (kI .i64) (vA Tb.enc) (delM eqI r1.1 v2)), .blk v1.enc]⟩ (AWp.reg Try.tyOk hΓ [] [74, 8, 0] (by kernel_rfl) rfl (by simp [h15])) ?_
       obtain rfl := La hr
       exact Lo () 6 (by first | (simp; done) | simp [h9, h10, h13, h14, h15])
      ·have hr := Lk h15 hr
       refine AWp.skip ?_
       obtain rfl := La hr
       exact Lo () 6 (by first | (simp; done) | simp [h9, h10, h13, h14, h15])
     ·refine AWp.then ⟨[⟨6, none, .sl [] .full⟩, ⟨7, none, .n r2.2.1⟩], [.blk ([.ptr 1 0, .ptr 3 0] ++ r1.2.2.ff.enc ++ r1.2.2.fh.enc ++ [.mp 4, .n (addI .i64 r1.2.2.fp 1), .n r1.2.2.fm]), .blk (r2.2.2.fb.enc ++ [.b r2.2.2.fd, .n r2.2.2.fg, .mp 2, .n r2.2.2.fe]), .mapo (encM (kI .i64) (vA Ta.enc) r2.2.2.fOf), .blk r1.2.2.fc.enc, .mapo (encM (kI .i64) (vA Tb.enc) v3), .blk v1.enc]⟩ (AWp.reg Try.tyOk hΓ [6, 7] [13] (by kernel_rfl) rfl (by simp)) ?_
      refine AWp.ret ?_
      obtain rfl := La hr
      refine Lg ?_
      simp
    ·have hr := Lk h14 hr
     refine AWp.skip ?_
     obtain ⟨r3, h16, hr⟩ := Lc hr
     refine AWp.then ⟨[⟨6, none, .sl (r3.1.map Tl.enc) .no⟩, ⟨7, none, .n 0⟩], [.blk ([.ptr 1 0, .ptr 3 0] ++ r3.2.ff.enc ++ r3.2.fh.enc ++ [.mp 4, .n r3.2.fp, .n r3.2.fm]), .blk (r3.2.fa.fb.enc ++ [.b r3.2.fa.fd, .n r3.2.fa.fg, .mp 2, .n r3.2.fa.fe]), .mapo (encM (kI .i64) (vA Ta.enc) r3.2.fa.fOf), .blk r3.2.fc.enc, .mapo (encM (kI .i64) (vA Tb.enc) r3.2.fOf), .blk v1.enc]⟩ (AWp.reg Try.tyOk hΓ [6, 7] [65, 12, 13, 8, 0] (by kernel_rfl) rfl (by simp [h14, h16])) ?_
     refine AWp.ret ?_
     obtain rfl := La hr
     refine Lg ?_
     simp

@[simp] noncomputable def gl.S : Sp
 | [.ptr i0 0, .agg e1, .lit (.int .i64 x2)], M => match M[i0]? with
  | some (.blk c0) => (match nthE c0 0 with
  | some (.ptr i1 0) => (match M[i1]? with
  | some (.blk c1) => (match nthE c1 4 with
  | some (.mp i2) => (match M[i2]? with
  | some (.mapo c2) => (match nthE c0 1 with
  | some (.ptr i3 0) => (match M[i3]? with
  | some (.blk c3) => (match nthE c0 9 with
  | some (.mp i4) => (match M[i4]? with
  | some (.mapo c4) => (fun (y0 : Tf) => (fun (y1 : Tb) => (fun (r : List Tl × Int × Tf) => some { av := .tup [.sl ((r.1).map Tl.enc) .no, .lit (.int .i64 (r.2.1))], M := some (((((M.set i0 (.blk [.ptr i1 0, .ptr i3 0, .lit (.bool (r.2.2.ff.fd)), .lit (.int .i64 (r.2.2.ff.fk)), .lit (.int .u16 (r.2.2.ff.fV)), .lit (.int .i64 (r.2.2.ff.fM)), .lit (.int .i64 (r.2.2.ff.fC)), .lit (.bool (r.2.2.fh.fd)), .lit (.int .i64 (r.2.2.fh.fW)), .mp i4, .lit (.int .i64 (r.2.2.fp)), .lit (.int .i64 (r.2.2.fm))])).set i1 (.blk [.lit (.int .i64 (r.2.2.fa.fb.fk)), .lit (.int .i64 (r.2.2.fa.fb.fq)), .lit (.bool (r.2.2.fa.fd)), .lit (.int .i64 (r.2.2.fa.fg)), .mp i2, .lit (.int .i64 (r.2.2.fa.fe))])).set i2 (.mapo (encM (kI .i64) (vA Ta.enc) (r.2.2.fa.fOf)))).set i3 (.blk [.lit (.bool (r.2.2.fc.fb.fu)), .lit (.int .i64 (r.2.2.fc.fb.fv)), .lit (.int .i64 (r.2.2.fc.fb.fj)), .lit (.int .i64 (r.2.2.fc.fb.fq)), .sl ((r.2.2.fc.fw.fj).map Tc.enc) .no, .lit (.int .i64 (r.2.2.fc.fz)), .lit (.int .i64 (r.2.2.fc.fe))])).set i4 (.mapo (encM (kI .i64) (vA Tb.enc) (r.2.2.fOf)))), obl := WeakL e1 (Tb.enc y1) ∧ c0 = Tf.enc y0 i1 i3 i4 ∧ c1 = Tg.enc (y0.fa) i2 ∧ c2 = encM (kI .i64) (vA Ta.enc) (y0.fa.fOf) ∧ c3 = Th.enc (y0.fc) ∧ c4 = encM (kI .i64) (vA Tb.enc) (y0.fOf) ∧ (gl y0 y1 x2).isSome = true ∧ i0 ≠ i1 ∧ i0 ≠ i2 ∧ i0 ≠ i3 ∧ i0 ≠ i4 ∧ i1 ≠ i2 ∧ i1 ≠ i3 ∧ i1 ≠ i4 ∧ i2 ≠ i3 ∧ i2 ≠ i4 ∧ i3 ≠ i4 }) ((gl y0 y1 x2).getD dflt)) (Tb.dec e1)) (Tf.dec c0 (Tg.dec c1 (decM dkI (dvA Ta.dec) c2)) (Th.dec c3) (decM dkI (dvA Tb.dec) c4))
  | _ => none)
  | _ => none)
  | _ => none)
  | _ => none)
  | _ => none)
  | _ => none)
  | _ => none)
  | _ => none)
  | _ => none
 | _, _ => none

theorem gl.ok : SpecOk Try.prog 11 gl.S := by
 intro l M out h
 unfold gl.S at h
 split at h
 ·rename_i i0 e1 x2
  split at h
  case h_2 => cases h
  rename_i c0 hM0
  split at h
  case h_2 => cases h
  rename_i i1 he1
  split at h
  case h_2 => cases h
  rename_i c1 hM1
  split at h
  case h_2 => cases h
  rename_i i2 he2
  split at h
  case h_2 => cases h
  rename_i c2 hM2
  split at h
  case h_2 => cases h
  rename_i i3 he3
  split at h
  case h_2 => cases h
  rename_i c3 hM3
  split at h
  case h_2 => cases h
  rename_i i4 he4
  split at h
  case h_2 => cases h
  rename_i c4 hM4
  try dsimp only at h
  cases h
  refine callOk_of fun ho => ?_
  obtain ⟨ox1, oc0, oc1, oc2, oc3, oc4, hs, hne0, hne1, hne2, hne3, hne4, hne5, hne6, hne7, hne8, hne9⟩ := ho
  generalize (Tf.dec c0 (Tg.dec c1 (decM dkI (dvA Ta.dec) c2)) (Th.dec c3) (decM dkI (dvA Tb.dec) c4)) = y0 at *
  generalize (Tb.dec e1) = x1 at *
  subst oc0
  subst oc1
  subst oc2
  subst oc3
  subst oc4
  obtain ⟨r, hr⟩ := Option.isSome_iff_exists.1 hs
  simp only [hr, Option.getD_some]
  have q := Lh (M := M) [i0, i1, i2, i3, i4] (gl.can y0 x1 x2 r hr) (by simp [hne0, hne1, hne2, hne3, hne4, hne5, hne6, hne7, hne8, hne9]) rfl (by intro k i hk; (cases k with | zero => (simp at hk; subst hk; simp [hM0, into]) | succ k => ((cases k with | zero => (simp at hk; subst hk; simp [hM1, into]) | succ k => ((cases k with | zero => (simp at hk; subst hk; simp [hM2]) | succ k => ((cases k with | zero => (simp at hk; subst hk; simp [hM3]) | succ k => ((cases k with | zero => (simp at hk; subst hk; simp [hM4]) | succ k => (simp at hk)))))))))))
  exact callOk_conv q trivial (by simp [into]; exact ox1) (by simp [frameOut, gl.out, into]) (by simp [frameOut, gl.out, into])
 ·cases h

@[simp] def gD.out (_x0 : Tf) (_x1 : Int) (r : List Tl × Tf) : Out := { av := .sl (r.1.map Tl.enc) .no, M := some [.blk [.ptr 1 0, .ptr 3 0, .lit (.bool r.2.ff.fd), .lit (.int .i64 r.2.ff.fk), .lit (.int .u16 r.2.ff.fV), .lit (.int .i64 r.2.ff.fM), .lit (.int .i64 r.2.ff.fC), .lit (.bool r.2.fh.fd), .lit (.int .i64 r.2.fh.fW), .mp 4, .lit (.int .i64 r.2.fp), .lit (.int .i64 r.2.fm)], .blk [.lit (.int .i64 r.2.fa.fb.fk), .lit (.int .i64 r.2.fa.fb.fq), .lit (.bool r.2.fa.fd), .lit (.int .i64 r.2.fa.fg), .mp 2, .lit (.int .i64 r.2.fa.fe)], .mapo (encM (kI .i64) (vA Ta.enc) r.2.fa.fOf), .blk [.lit (.bool r.2.fc.fb.fu), .lit (.int .i64 r.2.fc.fb.fv), .lit (.int .i64 r.2.fc.fb.fj), .lit (.int .i64 r.2.fc.fb.fq), .sl (r.2.fc.fw.fj.map Tc.enc) .no, .lit (.int .i64 r.2.fc.fz), .lit (.int .i64 r.2.fc.fe)], .mapo (encM (kI .i64) (vA Tb.enc) r.2.fOf)] }
def gD.fin (x0 : Tf) (x1 : Int) (r : List Tl × Tf) (σ : St) : Prop := finK (gD.out x0 x1 r) [.blk ([.ptr 1 0, .ptr 3 0] ++ x0.ff.enc ++ x0.fh.enc ++ [.mp 4, .lit (.int .i64 x0.fp), .lit (.int .i64 x0.fm)]), .blk (x0.fa.fb.enc ++ [.lit (.bool x0.fa.fd), .lit (.int .i64 x0.fa.fg), .mp 2, .lit (.int .i64 x0.fa.fe)]), .mapo (encM (kI .i64) (vA Ta.enc) x0.fa.fOf), .blk x0.fc.enc, .mapo (encM (kI .i64) (vA Tb.enc) x0.fOf)] σ.M (resA Try.ty σ.A σ.M Try.f23.results.toList)
theorem gD.can (x0 : Tf) (x1 : Int) (r : List Tl × Tf) (hr : gD x0 x1 = some r) : CallOk Try.prog 23 [.ptr 0 0, .lit (.int .i64 x1)] [.blk ([.ptr 1 0, .ptr 3 0] ++ x0.ff.enc ++ x0.fh.enc ++ [.mp 4, .lit (.int .i64 x0.fp), .lit (.int .i64 x0.fm)]), .blk (x0.fa.fb.enc ++ [.lit (.bool x0.fa.fd), .lit (.int .i64 x0.fa.fg), .mp 2, .lit (.int .i64 x0.fa.fe)]), .mapo (encM (kI .i64) (vA Ta.enc) x0.fa.fOf), .blk x0.fc.enc, .mapo (encM (kI .i64) (vA Tb.enc) x0.fOf)] (gD.out x0 x1 r) := by
 unfold gD at hr
 have hΓ := (gamL_cons gP.ok (gamL_cons ge.ok (gamL_cons gk.ok (gamL_nil))) : GamOk Try.prog _)
 refine Lf Try.tyOk Try.func23 rfl (by kernel_rfl) rfl rfl (by simp) ?_
 intro _ _ _
 refine AWp.then ⟨[⟨0, none, .ptr 0 0⟩, ⟨1, none, .n x1⟩], [.blk ([.ptr 1 0, .ptr 3 0] ++ x0.ff.enc ++ x0.fh.enc ++ [.mp 4, .n x0.fp, .n x0.fm]), .blk (x0.fa.fb.enc ++ [.b x0.fa.fd, .n x0.fa.fg, .mp 2, .n x0.fa.fe]), .mapo (encM (kI .i64) (vA Ta.enc) x0.fa.fOf), .blk x0.fc.enc, .mapo (encM (kI .i64) (vA Tb.enc) x0.fOf)]⟩ (AWp.reg Try.tyOk hΓ [] [] (by kernel_rfl) rfl (by simp)) ?_
 obtain ⟨r1, h4, hr⟩ := Lc hr
 obtain ⟨r2, h5, hr⟩ := Lc hr
 refine AWp.then ⟨[⟨5, none, .sl (r2.1.map Tl.enc) .no⟩, ⟨0, none, .ptr 0 0⟩, ⟨1, none, .n x1⟩], [.blk ([.ptr 1 0, .ptr 3 0] ++ r2.2.ff.enc ++ r2.2.fh.enc ++ [.mp 4, .n r2.2.fp, .n r2.2.fm]), .blk (r2.2.fa.fb.enc ++ [.b r2.2.fa.fd, .n r2.2.fa.fg, .mp 2, .n r2.2.fa.fe]), .mapo (encM (kI .i64) (vA Ta.enc) r2.2.fa.fOf), .blk r2.2.fc.enc, .mapo (encM (kI .i64) (vA Tb.enc) r2.2.fOf)]⟩ (AWp.reg Try.tyOk hΓ [5] [] (by kernel_rfl) rfl (by simp [h4, h5])) ?_
 obtain ⟨r3, h6, hr⟩ := Lc hr
 refine AWp.then ⟨[⟨5, none, .sl (r2.1.map Tl.enc) .no⟩], [.blk ([.ptr 1 0, .ptr 3 0] ++ r2.2.ff.enc ++ r2.2.fh.enc ++ [.mp 4, .n r2.2.fp, .n r2.2.fm]), .blk (r2.2.fa.fb.enc ++ [.b r2.2.fa.fd, .n r2.2.fa.fg, .mp 2, .n r2.2.fa.fe]), .mapo (encM (kI .i64) (vA Ta.enc) r2.2.fa.fOf), .blk r3.2.enc, .mapo (encM (kI .i64) (vA Tb.enc) r2.2.fOf)]⟩ (AWp.reg Try.tyOk hΓ [] [0, 1] (by kernel_rfl) rfl (by simp [h6])) ?_
 refine AWp.thenA [⟨4, none, .sl (r2.1.map Tl.enc) .no⟩] (AWp.reg Try.tyOk hΓ [4] [5] (by kernel_rfl) rfl (by simp)) ?_
 refine AWp.ret ?_
 obtain rfl := La hr
 refine Lg ?_
 simp

@[simp] noncomputable def gD.S : Sp
 | [.ptr i0 0, .lit (.int .i64 x1)], M => match M[i0]? with
  | some (.blk c0) => (match nthE c0 0 with
  | some (.ptr i1 0) => (match M[i1]? with
  | some (.blk c1) => (match nthE c1 4 with
  | some (.mp i2) => (match M[i2]? with
  | some (.mapo c2) => (match nthE c0 1 with
  | some (.ptr i3 0) => (match M[i3]? with
  | some (.blk c3) => (match nthE c0 9 with
  | some (.mp i4) => (match M[i4]? with
  | some (.mapo c4) => (fun (y0 : Tf) => (fun (r : List Tl × Tf) => some { av := .sl ((r.1).map Tl.enc) .no, M := some (((((M.set i0 (.blk [.ptr i1 0, .ptr i3 0, .lit (.bool (r.2.ff.fd)), .lit (.int .i64 (r.2.ff.fk)), .lit (.int .u16 (r.2.ff.fV)), .lit (.int .i64 (r.2.ff.fM)), .lit (.int .i64 (r.2.ff.fC)), .lit (.bool (r.2.fh.fd)), .lit (.int .i64 (r.2.fh.fW)), .mp i4, .lit (.int .i64 (r.2.fp)), .lit (.int .i64 (r.2.fm))])).set i1 (.blk [.lit (.int .i64 (r.2.fa.fb.fk)), .lit (.int .i64 (r.2.fa.fb.fq)), .lit (.bool (r.2.fa.fd)), .lit (.int .i64 (r.2.fa.fg)), .mp i2, .lit (.int .i64 (r.2.fa.fe))])).set i2 (.mapo (encM (kI .i64) (vA Ta.enc) (r.2.fa.fOf)))).set i3 (.blk [.lit (.bool (r.2.fc.fb.fu)), .lit (.int .i64 (r.2.fc.fb.fv)), .lit (.int .i64 (r.2.fc.fb.fj)), .lit (.int .i64 (r.2.fc.fb.fq)), .sl ((r.2.fc.fw.fj).map Tc.enc) .no, .lit (.int .i64 (r.2.fc.fz)), .lit (.int .i64 (r.2.fc.fe))])).set i4 (.mapo (encM (kI .i64) (vA Tb.enc) (r.2.fOf)))), obl := c0 = Tf.enc y0 i1 i3 i4 ∧ c1 = Tg.enc (y0.fa) i2 ∧ c2 = encM (kI .i64) (vA Ta.enc) (y0.fa.fOf) ∧ c3 = Th.enc (y0.fc) ∧ c4 = encM (kI .i64) (vA Tb.enc) (y0.fOf) ∧ (gD y0 x1).isSome = true ∧ i0 ≠ i1 ∧ i0 ≠ i2 ∧ i0 ≠ i3 ∧ i0 ≠ i4 ∧ i1 ≠ i2 ∧ i1 ≠ i3 ∧ i1 ≠ i4 ∧ i2 ≠ i3 ∧ i2 ≠ i4 ∧ i3 ≠ i4 }) ((gD y0 x1).getD dflt)) (Tf.dec c0 (Tg.dec c1 (decM dkI (dvA Ta.dec) c2)) (Th.dec c3) (decM dkI (dvA Tb.dec) c4))
  | _ => none)
  | _ => none)
  | _ => none)
  | _ => none)
  | _ => none)
  | _ => none)
  | _ => none)
  | _ => none)
  | _ => none
 | _, _ => none

theorem gD.ok : SpecOk Try.prog 23 gD.S := by
 intro l M out h
 unfold gD.S at h
 split at h
 ·rename_i i0 x1
  split at h
  case h_2 => cases h
  rename_i c0 hM0
  split at h
  case h_2 => cases h
  rename_i i1 he1
  split at h
  case h_2 => cases h
  rename_i c1 hM1
  split at h
  case h_2 => cases h
  rename_i i2 he2
  split at h
  case h_2 => cases h
  rename_i c2 hM2
  split at h
  case h_2 => cases h
  rename_i i3 he3
  split at h
  case h_2 => cases h
  rename_i c3 hM3
  split at h
  case h_2 => cases h
  rename_i i4 he4
  split at h
  case h_2 => cases h
  rename_i c4 hM4
  try dsimp only at h
  cases h
  refine callOk_of fun ho => ?_
  obtain ⟨oc0, oc1, oc2, oc3, oc4, hs, hne0, hne1, hne2, hne3, hne4, hne5, hne6, hne7, hne8, hne9⟩ := ho
  generalize (Tf.dec c0 (Tg.dec c1 (decM dkI (dvA Ta.dec) c2)) (Th.dec c3) (decM dkI (dvA Tb.dec) c4)) = y0 at *
  subst oc0
  subst oc1
  subst oc2
  subst oc3
  subst oc4
  obtain ⟨r, hr⟩ := Option.isSome_iff_exists.1 hs
  simp only [hr, Option.getD_some]
  have q := Lh (M := M) [i0, i1, i2, i3, i4] (gD.can y0 x1 r hr) (by simp [hne0, hne1, hne2, hne3, hne4, hne5, hne6, hne7, hne8, hne9]) rfl (by intro k i hk; (cases k with | zero => (simp at hk; subst hk; simp [hM0, into]) | succ k => ((cases k with | zero => (simp at hk; subst hk; simp [hM1, into]) | succ k => ((cases k with | zero => (simp at hk; subst hk; simp [hM2]) | succ k => ((cases k with | zero => (simp at hk; subst hk; simp [hM3]) | succ k => ((cases k with | zero => (simp at hk; subst hk; simp [hM4]) | succ k => (simp at hk)))))))))))
  exact callOk_conv q trivial (by simp [into]) (by simp [frameOut, gD.out, into]) (by simp [frameOut, gD.out, into])
 ·cases h
end Go.Proofs

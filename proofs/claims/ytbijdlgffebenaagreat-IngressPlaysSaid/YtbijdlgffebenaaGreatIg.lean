/- That these functions compute what their plain functions do. No condition. -/
import Derived.Test.YtbijdlgffebenaaGreatM05
import Derived.Test.YtbijdlgffebenaaGreatTy
import Derived.Test.YtbijdlgffebenaaGreatFr
import Derived.Test.YtbijdlgffebenaaGreatRo
import Derived.Test.YtbijdlgffebenaaGreatEx
import Derived.Test.YtbijdlgffebenaaGreatOx
import Derived.Test.YtbijdlgffebenaaGreatRr
set_option maxRecDepth 100000
set_option maxHeartbeats 4000000
namespace Go.Proofs
open Go.Ab
@[simp] def gy.out (_x0 : List Int) (r : List Int) : Out := { av := .sl (r.map (eNum .u16)) .no, M := none }
theorem gy.can (x0 : List Int) (r : List Int) (hr : gy x0 = some r) : CallOk Tryz.prog 36 [.sl (x0.map (eNum .u16)) .no] [] (gy.out x0 r) := by
 unfold gy at hr
 have hΓ := gamL_nil (P := Tryz.prog)
 refine Le Tryz.tyOk Tryz.func36 rfl (by kernel_rfl) rfl rfl (by simp) ?_
 intro _ _ _
 refine AWp.then ⟨[⟨0, none, .sl (x0.map (eNum .u16)) .no⟩], []⟩ (AWp.reg Tryz.tyOk hΓ [] [] (by kernel_rfl) rfl (by simp)) ?_
 obtain ⟨h2, hr⟩ := Lc hr
 refine AWp.thenA [⟨2, none, .sl ((cutL x0 0 (lenL x0)).map (eNum .u16)) .full⟩] (AWp.reg Tryz.tyOk hΓ [2] [0] (by kernel_rfl) rfl (by simp [h2])) ?_
 refine AWp.ret ?_
 obtain rfl := La hr
 refine Lf ?_
 simp

@[simp] noncomputable def gy.S : Sp
 | [.sl e0 _], _ => some { av := .sl (((gy (e0.map decI)).getD dflt).map (eNum .u16)) .no, M := none, obl := e0 = (e0.map decI).map (eNum .u16) ∧ (gy (e0.map decI)).isSome = true }
 | _, _ => none

theorem gy.ok : SpecOk Tryz.prog 36 gy.S := by
 intro l M out h
 unfold gy.S at h
 split at h
 ·rename_i e0 k0
  cases h
  refine callOk_of fun ho => ?_
  obtain ⟨ox0, hs⟩ := ho
  generalize (e0.map decI) = x0 at *
  subst ox0
  obtain ⟨r, hr⟩ := Option.isSome_iff_exists.1 hs
  simp only [hr, Option.getD_some]
  have q := Lg (M := M) [] (gy.can x0 r hr) (by simp) rfl (by intro k i hk; simp at hk)
  exact callOk_conv q trivial (by simp) (by simp [frameOut, gy.out]) (by simp [frameOut, gy.out])
 ·cases h

@[simp] def gan.out (_x0 : Ty) (r : Option Tf × Int) : Out := { av := .tup [(optC r.1 (.lit (.pointer none)) fun _ => .ptr 7 0), .lit (.int .i64 r.2)], M := some (optC r.1 [] fun m0 => [.dead, .dead, .mapo (encM (kI .i64) (vA Ta.enc) m0.fa.fOf), .blk [.lit (.int .i64 m0.fa.fb.fk), .lit (.int .i64 m0.fa.fb.fp), .lit (.bool m0.fa.fd), .lit (.int .i64 m0.fa.fg), .mp 2, .lit (.int .i64 m0.fa.fe)], .dead, .blk [.lit (.bool m0.fc.fb.fu), .lit (.int .i64 m0.fc.fb.fw), .lit (.int .i64 m0.fc.fb.fj), .lit (.int .i64 m0.fc.fb.fp), .sl (m0.fc.fv.fj.map Tc.enc) .no, .lit (.int .i64 m0.fc.fy), .lit (.int .i64 m0.fc.fe)], .mapo (encM (kI .i64) (vA Tb.enc) m0.fOf), .blk [.ptr 3 0, .ptr 5 0, .lit (.bool m0.ff.fd), .lit (.int .i64 m0.ff.fk), .lit (.int .u16 m0.ff.fW), .lit (.int .i64 m0.ff.fK), .lit (.int .i64 m0.ff.fA), .lit (.bool m0.fh.fd), .lit (.int .i64 m0.fh.fX), .mp 6, .lit (.int .i64 m0.fq), .lit (.int .i64 m0.fo)]]) }
theorem gan.can (x0 : Ty) (r : Option Tf × Int) (hr : gan x0 = some r) : CallOk Tryz.prog 20 [.agg [.lit (.int .i64 x0.fm.fk), .lit (.int .i64 x0.fm.fp), .lit (.bool x0.fM.fu), .lit (.int .i64 x0.fM.fw), .lit (.int .i64 x0.fM.fj), .lit (.int .i64 x0.fM.fp)]] [] (gan.out x0 r) := by
 unfold gan at hr
 have hΓ := (gamL_cons gaA.ok (gamL_cons gaq.ok (gamL_nil)) : GamOk Tryz.prog _)
 refine Le Tryz.tyOk Tryz.func20 rfl (by kernel_rfl) rfl rfl (by simp) ?_
 intro _ _ _
 refine AWp.then ⟨[⟨1, none, .ptr 0 0⟩], [.blk x0.enc]⟩ (AWp.reg Tryz.tyOk hΓ [1] [0] (by kernel_rfl) rfl (by simp)) ?_
 obtain ⟨r1, h13, hr⟩ := Lb hr
 cases h14 : r1.1 with
 | none =>
  have hr := optC_n h14 hr
  refine AWp.thenA [⟨4, none, .lit (.pointer none)⟩, ⟨5, none, .n r1.2⟩, ⟨1, none, .ptr 0 0⟩] (AWp.reg Tryz.tyOk hΓ [4, 5] [] (by kernel_rfl) rfl (by simp [h13, h14])) ?_
  refine AWp.seq ?_
  refine AWp.then ⟨[⟨14, none, .b (neI r1.2 0)⟩, ⟨4, none, .lit (.pointer none)⟩, ⟨5, none, .n r1.2⟩, ⟨1, none, .ptr 0 0⟩], [.blk x0.enc]⟩ (AWp.reg Tryz.tyOk hΓ [14] [] (by kernel_rfl) rfl (by simp)) ?_
  refine AWp.cond (b := (neI r1.2 0)) (by simp) (fun h15 => ?_) (fun h15 => ?_)
  ·have hr := Li h15 hr
   refine AWp.thenA [⟨2, none, .lit (.pointer none)⟩, ⟨3, none, .n r1.2⟩] (AWp.reg Tryz.tyOk hΓ [2, 3] [14, 4, 5, 1] (by kernel_rfl) rfl (by simp [h15])) ?_
   refine AWp.ret ?_
   obtain rfl := La hr
   refine Lf ?_
   simp
  ·have hr := Lj h15 hr
   refine AWp.skip ?_
   obtain ⟨r2, h16, hr⟩ := Lb hr
   cases h17 : r2.1 with
   | none =>
    have hr := optC_n h17 hr
    refine AWp.then ⟨[⟨6, none, .lit (.pointer none)⟩, ⟨5, none, .n r2.2⟩, ⟨4, none, .lit (.pointer none)⟩], [.blk x0.enc]⟩ (AWp.reg Tryz.tyOk hΓ [6, 5] [14, 1] (by kernel_rfl) rfl (by simp [h15, h16, h17])) ?_
    refine AWp.seq ?_
    refine AWp.then ⟨[⟨23, none, .b (neI r2.2 0)⟩, ⟨6, none, .lit (.pointer none)⟩, ⟨5, none, .n r2.2⟩, ⟨4, none, .lit (.pointer none)⟩], [.blk x0.enc]⟩ (AWp.reg Tryz.tyOk hΓ [23] [] (by kernel_rfl) rfl (by simp)) ?_
    refine AWp.cond (b := (neI r2.2 0)) (by simp) (fun h18 => ?_) (fun h18 => ?_)
    ·have hr := Li h18 hr
     refine AWp.thenA [⟨2, none, .lit (.pointer none)⟩, ⟨3, none, .n r2.2⟩] (AWp.reg Tryz.tyOk hΓ [2, 3] [23, 6, 5, 4] (by kernel_rfl) rfl (by simp [h18])) ?_
     refine AWp.ret ?_
     obtain rfl := La hr
     refine Lf ?_
     simp
    ·have hr := Lj h18 hr
     refine AWp.skip ?_
     refine AWp.then ⟨[⟨2, none, .ptr 2 0⟩, ⟨3, none, .n 0⟩], [.blk x0.enc, .mapo ([]), .blk [.lit (.pointer none), .lit (.pointer none), .b false, .n 0, .lit (.int .u16 0), .n 0, .n 0, .b false, .n 0, .mp 1, .n 0, .n 0]]⟩ (AWp.reg Tryz.tyOk hΓ [2, 3] [23, 6, 5, 4] (by kernel_rfl) rfl (by simp [h18])) ?_
     cases hr
   | some o2 =>
    have hr := optC_s h17 hr
    refine AWp.then ⟨[⟨6, none, .ptr 2 0⟩, ⟨5, none, .n r2.2⟩, ⟨4, none, .lit (.pointer none)⟩], [.blk x0.enc, .dead, .blk o2.enc]⟩ (AWp.reg Tryz.tyOk hΓ [6, 5] [14, 1] (by kernel_rfl) rfl (by simp [h15, h16, h17])) ?_
    refine AWp.seq ?_
    refine AWp.then ⟨[⟨23, none, .b (neI r2.2 0)⟩, ⟨6, none, .ptr 2 0⟩, ⟨5, none, .n r2.2⟩, ⟨4, none, .lit (.pointer none)⟩], [.blk x0.enc, .dead, .blk o2.enc]⟩ (AWp.reg Tryz.tyOk hΓ [23] [] (by kernel_rfl) rfl (by simp)) ?_
    refine AWp.cond (b := (neI r2.2 0)) (by simp) (fun h19 => ?_) (fun h19 => ?_)
    ·have hr := Li h19 hr
     refine AWp.thenA [⟨2, none, .lit (.pointer none)⟩, ⟨3, none, .n r2.2⟩] (AWp.reg Tryz.tyOk hΓ [2, 3] [23, 6, 5, 4] (by kernel_rfl) rfl (by simp [h19])) ?_
     refine AWp.ret ?_
     obtain rfl := La hr
     refine Lf ?_
     simp
    ·have hr := Lj h19 hr
     refine AWp.skip ?_
     refine AWp.then ⟨[⟨2, none, .ptr 4 0⟩, ⟨3, none, .n 0⟩], [.blk x0.enc, .dead, .blk o2.enc, .mapo ([]), .blk [.lit (.pointer none), .ptr 2 0, .b false, .n 0, .lit (.int .u16 0), .n 0, .n 0, .b false, .n 0, .mp 3, .n 0, .n 0]]⟩ (AWp.reg Tryz.tyOk hΓ [2, 3] [23, 6, 5, 4] (by kernel_rfl) rfl (by simp [h19])) ?_
     cases hr
 | some o1 =>
  have hr := optC_s h14 hr
  refine AWp.then ⟨[⟨4, none, .ptr 3 0⟩, ⟨5, none, .n r1.2⟩, ⟨1, none, .ptr 0 0⟩], [.blk x0.enc, .dead, .mapo (encM (kI .i64) (vA Ta.enc) o1.fOf), .blk (o1.fb.enc ++ [.b o1.fd, .n o1.fg, .mp 2, .n o1.fe])]⟩ (AWp.reg Tryz.tyOk hΓ [4, 5] [] (by kernel_rfl) rfl (by simp [h13, h14])) ?_
  refine AWp.seq ?_
  refine AWp.then ⟨[⟨14, none, .b (neI r1.2 0)⟩, ⟨4, none, .ptr 3 0⟩, ⟨5, none, .n r1.2⟩, ⟨1, none, .ptr 0 0⟩], [.blk x0.enc, .dead, .mapo (encM (kI .i64) (vA Ta.enc) o1.fOf), .blk (o1.fb.enc ++ [.b o1.fd, .n o1.fg, .mp 2, .n o1.fe])]⟩ (AWp.reg Tryz.tyOk hΓ [14] [] (by kernel_rfl) rfl (by simp)) ?_
  refine AWp.cond (b := (neI r1.2 0)) (by simp) (fun h20 => ?_) (fun h20 => ?_)
  ·have hr := Li h20 hr
   refine AWp.thenA [⟨2, none, .lit (.pointer none)⟩, ⟨3, none, .n r1.2⟩] (AWp.reg Tryz.tyOk hΓ [2, 3] [14, 4, 5, 1] (by kernel_rfl) rfl (by simp [h20])) ?_
   refine AWp.ret ?_
   obtain rfl := La hr
   refine Lf ?_
   simp
  ·have hr := Lj h20 hr
   refine AWp.skip ?_
   obtain ⟨r2, h21, hr⟩ := Lb hr
   cases h22 : r2.1 with
   | none =>
    have hr := optC_n h22 hr
    refine AWp.then ⟨[⟨6, none, .lit (.pointer none)⟩, ⟨5, none, .n r2.2⟩, ⟨4, none, .ptr 3 0⟩], [.blk x0.enc, .dead, .mapo (encM (kI .i64) (vA Ta.enc) o1.fOf), .blk (o1.fb.enc ++ [.b o1.fd, .n o1.fg, .mp 2, .n o1.fe])]⟩ (AWp.reg Tryz.tyOk hΓ [6, 5] [14, 1] (by kernel_rfl) rfl (by simp [h20, h21, h22])) ?_
    refine AWp.seq ?_
    refine AWp.then ⟨[⟨23, none, .b (neI r2.2 0)⟩, ⟨6, none, .lit (.pointer none)⟩, ⟨5, none, .n r2.2⟩, ⟨4, none, .ptr 3 0⟩], [.blk x0.enc, .dead, .mapo (encM (kI .i64) (vA Ta.enc) o1.fOf), .blk (o1.fb.enc ++ [.b o1.fd, .n o1.fg, .mp 2, .n o1.fe])]⟩ (AWp.reg Tryz.tyOk hΓ [23] [] (by kernel_rfl) rfl (by simp)) ?_
    refine AWp.cond (b := (neI r2.2 0)) (by simp) (fun h23 => ?_) (fun h23 => ?_)
    ·have hr := Li h23 hr
     refine AWp.thenA [⟨2, none, .lit (.pointer none)⟩, ⟨3, none, .n r2.2⟩] (AWp.reg Tryz.tyOk hΓ [2, 3] [23, 6, 5, 4] (by kernel_rfl) rfl (by simp [h23])) ?_
     refine AWp.ret ?_
     obtain rfl := La hr
     refine Lf ?_
     simp
    ·have hr := Lj h23 hr
     refine AWp.skip ?_
     refine AWp.then ⟨[⟨2, none, .ptr 5 0⟩, ⟨3, none, .n 0⟩], [.blk x0.enc, .dead, .mapo (encM (kI .i64) (vA Ta.enc) o1.fOf), .blk (o1.fb.enc ++ [.b o1.fd, .n o1.fg, .mp 2, .n o1.fe]), .mapo ([]), .blk [.ptr 3 0, .lit (.pointer none), .b false, .n 0, .lit (.int .u16 0), .n 0, .n 0, .b false, .n 0, .mp 4, .n 0, .n 0]]⟩ (AWp.reg Tryz.tyOk hΓ [2, 3] [23, 6, 5, 4] (by kernel_rfl) rfl (by simp [h23])) ?_
     cases hr
   | some o2 =>
    have hr := optC_s h22 hr
    refine AWp.then ⟨[⟨6, none, .ptr 5 0⟩, ⟨5, none, .n r2.2⟩, ⟨4, none, .ptr 3 0⟩], [.blk x0.enc, .dead, .mapo (encM (kI .i64) (vA Ta.enc) o1.fOf), .blk (o1.fb.enc ++ [.b o1.fd, .n o1.fg, .mp 2, .n o1.fe]), .dead, .blk o2.enc]⟩ (AWp.reg Tryz.tyOk hΓ [6, 5] [14, 1] (by kernel_rfl) rfl (by simp [h20, h21, h22])) ?_
    refine AWp.seq ?_
    refine AWp.then ⟨[⟨23, none, .b (neI r2.2 0)⟩, ⟨6, none, .ptr 5 0⟩, ⟨5, none, .n r2.2⟩, ⟨4, none, .ptr 3 0⟩], [.blk x0.enc, .dead, .mapo (encM (kI .i64) (vA Ta.enc) o1.fOf), .blk (o1.fb.enc ++ [.b o1.fd, .n o1.fg, .mp 2, .n o1.fe]), .dead, .blk o2.enc]⟩ (AWp.reg Tryz.tyOk hΓ [23] [] (by kernel_rfl) rfl (by simp)) ?_
    refine AWp.cond (b := (neI r2.2 0)) (by simp) (fun h24 => ?_) (fun h24 => ?_)
    ·have hr := Li h24 hr
     refine AWp.thenA [⟨2, none, .lit (.pointer none)⟩, ⟨3, none, .n r2.2⟩] (AWp.reg Tryz.tyOk hΓ [2, 3] [23, 6, 5, 4] (by kernel_rfl) rfl (by simp [h24])) ?_
     refine AWp.ret ?_
     obtain rfl := La hr
     refine Lf ?_
     simp
    ·have hr := Lj h24 hr
     refine AWp.skip ?_
     refine AWp.then ⟨[⟨2, none, .ptr 7 0⟩, ⟨3, none, .n 0⟩], [.blk x0.enc, .dead, .mapo (encM (kI .i64) (vA Ta.enc) o1.fOf), .blk (o1.fb.enc ++ [.b o1.fd, .n o1.fg, .mp 2, .n o1.fe]), .dead, .blk o2.enc, .mapo ([]), .blk [.ptr 3 0, .ptr 5 0, .b false, .n 0, .lit (.int .u16 0), .n 0, .n 0, .b false, .n 0, .mp 6, .n 0, .n 0]]⟩ (AWp.reg Tryz.tyOk hΓ [2, 3] [23, 6, 5, 4] (by kernel_rfl) rfl (by simp [h24])) ?_
     refine AWp.ret ?_
     obtain rfl := La hr
     refine Lf ?_
     simp

@[simp] noncomputable def gan.S : Sp
 | [.agg e0], M => some { av := .tup [(optC (((gan (Ty.dec e0)).getD dflt).1) (.lit (.pointer none)) fun _ => .ptr (M.length + 7) 0), .lit (.int .i64 (((gan (Ty.dec e0)).getD dflt).2))], M := some (optC (((gan (Ty.dec e0)).getD dflt).1) M fun m0 => M ++ [.dead, .dead, .mapo (encM (kI .i64) (vA Ta.enc) m0.fa.fOf), .blk [.lit (.int .i64 m0.fa.fb.fk), .lit (.int .i64 m0.fa.fb.fp), .lit (.bool m0.fa.fd), .lit (.int .i64 m0.fa.fg), .mp (M.length + 2), .lit (.int .i64 m0.fa.fe)], .dead, .blk [.lit (.bool m0.fc.fb.fu), .lit (.int .i64 m0.fc.fb.fw), .lit (.int .i64 m0.fc.fb.fj), .lit (.int .i64 m0.fc.fb.fp), .sl (m0.fc.fv.fj.map Tc.enc) .no, .lit (.int .i64 m0.fc.fy), .lit (.int .i64 m0.fc.fe)], .mapo (encM (kI .i64) (vA Tb.enc) m0.fOf), .blk [.ptr (M.length + 3) 0, .ptr (M.length + 5) 0, .lit (.bool m0.ff.fd), .lit (.int .i64 m0.ff.fk), .lit (.int .u16 m0.ff.fW), .lit (.int .i64 m0.ff.fK), .lit (.int .i64 m0.ff.fA), .lit (.bool m0.fh.fd), .lit (.int .i64 m0.fh.fX), .mp (M.length + 6), .lit (.int .i64 m0.fq), .lit (.int .i64 m0.fo)]]), obl := WeakL e0 (Ty.enc (Ty.dec e0)) ∧ (gan (Ty.dec e0)).isSome = true }
 | _, _ => none

theorem gan.ok : SpecOk Tryz.prog 20 gan.S := by
 intro l M out h
 unfold gan.S at h
 split at h
 ·rename_i e0
  cases h
  refine callOk_of fun ho => ?_
  obtain ⟨ox0, hs⟩ := ho
  generalize (Ty.dec e0) = x0 at *
  obtain ⟨r, hr⟩ := Option.isSome_iff_exists.1 hs
  simp only [hr, Option.getD_some]
  have q := Lg (M := M) [] (gan.can x0 r hr) (by simp) rfl (by intro k i hk; simp at hk)
  cases hc : r.1 with
  | none => exact callOk_conv q trivial (by simp; exact ox0) (by simp [hc, frameOut, gan.out]) (by simp [hc, frameOut, gan.out])
  | some m0 => exact callOk_conv q trivial (by simp; exact ox0) (by simp [hc, frameOut, gan.out, into]) (by simp [hc, frameOut, gan.out, into])
 ·cases h

@[simp] def gv.out (_x0 : Tf) (r : Int) : Out := { av := .lit (.int .i64 r), M := none }
theorem gv.can (x0 : Tf) (r : Int) (hr : gv x0 = some r) : CallOk Tryz.prog 17 [.ptr 0 0] [.blk ([.ptr 1 0, .ptr 3 0] ++ x0.ff.enc ++ x0.fh.enc ++ [.mp 4, .lit (.int .i64 x0.fq), .lit (.int .i64 x0.fo)]), .blk (x0.fa.fb.enc ++ [.lit (.bool x0.fa.fd), .lit (.int .i64 x0.fa.fg), .mp 2, .lit (.int .i64 x0.fa.fe)]), .mapo (encM (kI .i64) (vA Ta.enc) x0.fa.fOf), .blk x0.fc.enc, .mapo (encM (kI .i64) (vA Tb.enc) x0.fOf)] (gv.out x0 r) := by
 unfold gv at hr
 have hΓ := gamL_nil (P := Tryz.prog)
 refine Le Tryz.tyOk Tryz.func17 rfl (by kernel_rfl) rfl rfl (by simp) ?_
 intro _ _ _
 refine AWp.then ⟨[⟨0, none, .ptr 0 0⟩], [.blk ([.ptr 1 0, .ptr 3 0] ++ x0.ff.enc ++ x0.fh.enc ++ [.mp 4, .n x0.fq, .n x0.fo]), .blk (x0.fa.fb.enc ++ [.b x0.fa.fd, .n x0.fa.fg, .mp 2, .n x0.fa.fe]), .mapo (encM (kI .i64) (vA Ta.enc) x0.fa.fOf), .blk x0.fc.enc, .mapo (encM (kI .i64) (vA Tb.enc) x0.fOf)]⟩ (AWp.reg Tryz.tyOk hΓ [] [] (by kernel_rfl) rfl (by simp)) ?_
 refine AWp.thenA [⟨2, none, .n x0.fq⟩] (AWp.reg Tryz.tyOk hΓ [2] [0] (by kernel_rfl) rfl (by simp)) ?_
 refine AWp.ret ?_
 obtain rfl := La hr
 refine Lf ?_
 simp

@[simp] noncomputable def gv.S : Sp
 | [.ptr i0 0], M => match M[i0]? with
  | some (.blk c0) => (match nthE c0 0 with
  | some (.ptr i1 0) => (match M[i1]? with
  | some (.blk c1) => (match nthE c1 4 with
  | some (.mp i2) => (match M[i2]? with
  | some (.mapo c2) => (match nthE c0 1 with
  | some (.ptr i3 0) => (match M[i3]? with
  | some (.blk c3) => (match nthE c0 9 with
  | some (.mp i4) => (match M[i4]? with
  | some (.mapo c4) => (fun (y0 : Tf) => some { av := .lit (.int .i64 ((gv y0).getD dflt)), M := none, obl := c0 = Tf.enc y0 i1 i3 i4 ∧ c1 = Th.enc (y0.fa) i2 ∧ c2 = encM (kI .i64) (vA Ta.enc) (y0.fa.fOf) ∧ c3 = Tn.enc (y0.fc) ∧ c4 = encM (kI .i64) (vA Tb.enc) (y0.fOf) ∧ (gv y0).isSome = true ∧ i0 ≠ i1 ∧ i0 ≠ i2 ∧ i0 ≠ i3 ∧ i0 ≠ i4 ∧ i1 ≠ i2 ∧ i1 ≠ i3 ∧ i1 ≠ i4 ∧ i2 ≠ i3 ∧ i2 ≠ i4 ∧ i3 ≠ i4 }) (Tf.dec c0 (Th.dec c1 (decM dkI (dvA Ta.dec) c2)) (Tn.dec c3) (decM dkI (dvA Tb.dec) c4))
  | _ => none)
  | _ => none)
  | _ => none)
  | _ => none)
  | _ => none)
  | _ => none)
  | _ => none)
  | _ => none)
  | _ => none
 | _, _ => none

theorem gv.ok : SpecOk Tryz.prog 17 gv.S := by
 intro l M out h
 unfold gv.S at h
 split at h
 ·rename_i i0
  split at h
  case h_2 => cases h
  rename_i c0 hM0
  split at h
  case h_2 => cases h
  rename_i i1 he1
  split at h
  case h_2 => cases h
  rename_i c1 hM1
  split at h
  case h_2 => cases h
  rename_i i2 he2
  split at h
  case h_2 => cases h
  rename_i c2 hM2
  split at h
  case h_2 => cases h
  rename_i i3 he3
  split at h
  case h_2 => cases h
  rename_i c3 hM3
  split at h
  case h_2 => cases h
  rename_i i4 he4
  split at h
  case h_2 => cases h
  rename_i c4 hM4
  try dsimp only at h
  cases h
  refine callOk_of fun ho => ?_
  obtain ⟨oc0, oc1, oc2, oc3, oc4, hs, hne0, hne1, hne2, hne3, hne4, hne5, hne6, hne7, hne8, hne9⟩ := ho
  generalize (Tf.dec c0 (Th.dec c1 (decM dkI (dvA Ta.dec) c2)) (Tn.dec c3) (decM dkI (dvA Tb.dec) c4)) = y0 at *
  subst oc0
  subst oc1
  subst oc2
  subst oc3
  subst oc4
  obtain ⟨r, hr⟩ := Option.isSome_iff_exists.1 hs
  simp only [hr, Option.getD_some]
  have q := Lg (M := M) [i0, i1, i2, i3, i4] (gv.can y0 r hr) (by simp [hne0, hne1, hne2, hne3, hne4, hne5, hne6, hne7, hne8, hne9]) rfl (by intro k i hk; (cases k with | zero => (simp at hk; subst hk; simp [hM0, into]) | succ k => ((cases k with | zero => (simp at hk; subst hk; simp [hM1, into]) | succ k => ((cases k with | zero => (simp at hk; subst hk; simp [hM2]) | succ k => ((cases k with | zero => (simp at hk; subst hk; simp [hM3]) | succ k => ((cases k with | zero => (simp at hk; subst hk; simp [hM4]) | succ k => (simp at hk)))))))))))
  exact callOk_conv q trivial (by simp [into]) (by simp [frameOut, gv.out, into]) (by simp only [frameOut, gv.out, Option.getD_some, Option.getD_none]; simp [into, hM0, hM1, hM2, hM3, hM4, set_same])
 ·cases h

@[simp] def gC.out (_x0 : Tf) (r : Int × Int) : Out := { av := .tup [.lit (.int .i64 r.1), .lit (.int .i64 r.2)], M := none }
theorem gC.can (x0 : Tf) (r : Int × Int) (hr : gC x0 = some r) : CallOk Tryz.prog 14 [.ptr 0 0] [.blk ([.ptr 1 0, .ptr 3 0] ++ x0.ff.enc ++ x0.fh.enc ++ [.mp 4, .lit (.int .i64 x0.fq), .lit (.int .i64 x0.fo)]), .blk (x0.fa.fb.enc ++ [.lit (.bool x0.fa.fd), .lit (.int .i64 x0.fa.fg), .mp 2, .lit (.int .i64 x0.fa.fe)]), .mapo (encM (kI .i64) (vA Ta.enc) x0.fa.fOf), .blk x0.fc.enc, .mapo (encM (kI .i64) (vA Tb.enc) x0.fOf)] (gC.out x0 r) := by
 unfold gC at hr
 have hΓ := (gamL_cons gad.ok (gamL_nil) : GamOk Tryz.prog _)
 refine Le Tryz.tyOk Tryz.func14 rfl (by kernel_rfl) rfl rfl (by simp) ?_
 intro _ _ _
 refine AWp.then ⟨[⟨0, none, .ptr 0 0⟩], [.blk ([.ptr 1 0, .ptr 3 0] ++ x0.ff.enc ++ x0.fh.enc ++ [.mp 4, .n x0.fq, .n x0.fo]), .blk (x0.fa.fb.enc ++ [.b x0.fa.fd, .n x0.fa.fg, .mp 2, .n x0.fa.fe]), .mapo (encM (kI .i64) (vA Ta.enc) x0.fa.fOf), .blk x0.fc.enc, .mapo (encM (kI .i64) (vA Tb.enc) x0.fOf)]⟩ (AWp.reg Tryz.tyOk hΓ [] [] (by kernel_rfl) rfl (by simp)) ?_
 obtain ⟨r1, h2, hr⟩ := Lb hr
 refine AWp.thenA [⟨2, none, .n r1.1⟩, ⟨3, none, .n r1.2⟩] (AWp.reg Tryz.tyOk hΓ [2, 3] [0] (by kernel_rfl) rfl (by simp [h2])) ?_
 refine AWp.ret ?_
 obtain rfl := La hr
 refine Lf ?_
 simp

@[simp] noncomputable def gC.S : Sp
 | [.ptr i0 0], M => match M[i0]? with
  | some (.blk c0) => (match nthE c0 0 with
  | some (.ptr i1 0) => (match M[i1]? with
  | some (.blk c1) => (match nthE c1 4 with
  | some (.mp i2) => (match M[i2]? with
  | some (.mapo c2) => (match nthE c0 1 with
  | some (.ptr i3 0) => (match M[i3]? with
  | some (.blk c3) => (match nthE c0 9 with
  | some (.mp i4) => (match M[i4]? with
  | some (.mapo c4) => (fun (y0 : Tf) => (fun (r : Int × Int) => some { av := .tup [.lit (.int .i64 (r.1)), .lit (.int .i64 (r.2))], M := none, obl := c0 = Tf.enc y0 i1 i3 i4 ∧ c1 = Th.enc (y0.fa) i2 ∧ c2 = encM (kI .i64) (vA Ta.enc) (y0.fa.fOf) ∧ c3 = Tn.enc (y0.fc) ∧ c4 = encM (kI .i64) (vA Tb.enc) (y0.fOf) ∧ (gC y0).isSome = true ∧ i0 ≠ i1 ∧ i0 ≠ i2 ∧ i0 ≠ i3 ∧ i0 ≠ i4 ∧ i1 ≠ i2 ∧ i1 ≠ i3 ∧ i1 ≠ i4 ∧ i2 ≠ i3 ∧ i2 ≠ i4 ∧ i3 ≠ i4 }) ((gC y0).getD dflt)) (Tf.dec c0 (Th.dec c1 (decM dkI (dvA Ta.dec) c2)) (Tn.dec c3) (decM dkI (dvA Tb.dec) c4))
  | _ => none)
  | _ => none)
  | _ => none)
  | _ => none)
  | _ => none)
  | _ => none)
  | _ => none)
  | _ => none)
  | _ => none
 | _, _ => none

theorem gC.ok : SpecOk Tryz.prog 14 gC.S := by
 intro l M out h
 unfold gC.S at h
 split at h
 ·rename_i i0
  split at h
  case h_2 => cases h
  rename_i c0 hM0
  split at h
  case h_2 => cases h
  rename_i i1 he1
  split at h
  case h_2 => cases h
  rename_i c1 hM1
  split at h
  case h_2 => cases h
  rename_i i2 he2
  split at h
  case h_2 => cases h
  rename_i c2 hM2
  split at h
  case h_2 => cases h
  rename_i i3 he3
  split at h
  case h_2 => cases h
  rename_i c3 hM3
  split at h
  case h_2 => cases h
  rename_i i4 he4
  split at h
  case h_2 => cases h
  rename_i c4 hM4
  try dsimp only at h
  cases h
  refine callOk_of fun ho => ?_
  obtain ⟨oc0, oc1, oc2, oc3, oc4, hs, hne0, hne1, hne2, hne3, hne4, hne5, hne6, hne7, hne8, hne9⟩ := ho
  generalize (Tf.dec c0 (Th.dec c1 (decM dkI (dvA Ta.dec) c2)) (Tn.dec c3) (decM dkI (dvA Tb.dec) c4)) = y0 at *
  subst oc0
  subst oc1
  subst oc2
  subst oc3
  subst oc4
  obtain ⟨r, hr⟩ := Option.isSome_iff_exists.1 hs
  simp only [hr, Option.getD_some]
  have q := Lg (M := M) [i0, i1, i2, i3, i4] (gC.can y0 r hr) (by simp [hne0, hne1, hne2, hne3, hne4, hne5, hne6, hne7, hne8, hne9]) rfl (by intro k i hk; (cases k with | zero => (simp at hk; subst hk; simp [hM0, into]) | succ k => ((cases k with | zero => (simp at hk; subst hk; simp [hM1, into]) | succ k => ((cases k with | zero => (simp at hk; subst hk; simp [hM2]) | succ k => ((cases k with | zero => (simp at hk; subst hk; simp [hM3]) | succ k => ((cases k with | zero => (simp at hk; subst hk; simp [hM4]) | succ k => (simp at hk)))))))))))
  exact callOk_conv q trivial (by simp [into]) (by simp [frameOut, gC.out, into]) (by simp only [frameOut, gC.out, Option.getD_some, Option.getD_none]; simp [into, hM0, hM1, hM2, hM3, hM4, set_same])
 ·cases h

@[simp] def gu.out (_x0 : Tf) (r : Int) : Out := { av := .lit (.int .i64 r), M := none }
theorem gu.can (x0 : Tf) (r : Int) (hr : gu x0 = some r) : CallOk Tryz.prog 18 [.ptr 0 0] [.blk ([.ptr 1 0, .ptr 3 0] ++ x0.ff.enc ++ x0.fh.enc ++ [.mp 4, .lit (.int .i64 x0.fq), .lit (.int .i64 x0.fo)]), .blk (x0.fa.fb.enc ++ [.lit (.bool x0.fa.fd), .lit (.int .i64 x0.fa.fg), .mp 2, .lit (.int .i64 x0.fa.fe)]), .mapo (encM (kI .i64) (vA Ta.enc) x0.fa.fOf), .blk x0.fc.enc, .mapo (encM (kI .i64) (vA Tb.enc) x0.fOf)] (gu.out x0 r) := by
 unfold gu at hr
 have hΓ := gamL_nil (P := Tryz.prog)
 refine Le Tryz.tyOk Tryz.func18 rfl (by kernel_rfl) rfl rfl (by simp) ?_
 intro _ _ _
 refine AWp.then ⟨[⟨0, none, .ptr 0 0⟩], [.blk ([.ptr 1 0, .ptr 3 0] ++ x0.ff.enc ++ x0.fh.enc ++ [.mp 4, .n x0.fq, .n x0.fo]), .blk (x0.fa.fb.enc ++ [.b x0.fa.fd, .n x0.fa.fg, .mp 2, .n x0.fa.fe]), .mapo (encM (kI .i64) (vA Ta.enc) x0.fa.fOf), .blk x0.fc.enc, .mapo (encM (kI .i64) (vA Tb.enc) x0.fOf)]⟩ (AWp.reg Tryz.tyOk hΓ [] [] (by kernel_rfl) rfl (by simp)) ?_
 refine AWp.thenA [⟨2, none, .n x0.fo⟩] (AWp.reg Tryz.tyOk hΓ [2] [0] (by kernel_rfl) rfl (by simp)) ?_
 refine AWp.ret ?_
 obtain rfl := La hr
 refine Lf ?_
 simp

@[simp] noncomputable def gu.S : Sp
 | [.ptr i0 0], M => match M[i0]? with
  | some (.blk c0) => (match nthE c0 0 with
  | some (.ptr i1 0) => (match M[i1]? with
  | some (.blk c1) => (match nthE c1 4 with
  | some (.mp i2) => (match M[i2]? with
  | some (.mapo c2) => (match nthE c0 1 with
  | some (.ptr i3 0) => (match M[i3]? with
  | some (.blk c3) => (match nthE c0 9 with
  | some (.mp i4) => (match M[i4]? with
  | some (.mapo c4) => (fun (y0 : Tf) => some { av := .lit (.int .i64 ((gu y0).getD dflt)), M := none, obl := c0 = Tf.enc y0 i1 i3 i4 ∧ c1 = Th.enc (y0.fa) i2 ∧ c2 = encM (kI .i64) (vA Ta.enc) (y0.fa.fOf) ∧ c3 = Tn.enc (y0.fc) ∧ c4 = encM (kI .i64) (vA Tb.enc) (y0.fOf) ∧ (gu y0).isSome = true ∧ i0 ≠ i1 ∧ i0 ≠ i2 ∧ i0 ≠ i3 ∧ i0 ≠ i4 ∧ i1 ≠ i2 ∧ i1 ≠ i3 ∧ i1 ≠ i4 ∧ i2 ≠ i3 ∧ i2 ≠ i4 ∧ i3 ≠ i4 }) (Tf.dec c0 (Th.dec c1 (decM dkI (dvA Ta.dec) c2)) (Tn.dec c3) (decM dkI (dvA Tb.dec) c4))
  | _ => none)
  | _ => none)
  | _ => none)
  | _ => none)
  | _ => none)
  | _ => none)
  | _ => none)
  | _ => none)
  | _ => none
 | _, _ => none

theorem gu.ok : SpecOk Tryz.prog 18 gu.S := by
 intro l M out h
 unfold gu.S at h
 split at h
 ·rename_i i0
  split at h
  case h_2 => cases h
  rename_i c0 hM0
  split at h
  case h_2 => cases h
  rename_i i1 he1
  split at h
  case h_2 => cases h
  rename_i c1 hM1
  split at h
  case h_2 => cases h
  rename_i i2 he2
  split at h
  case h_2 => cases h
  rename_i c2 hM2
  split at h
  case h_2 => cases h
  rename_i i3 he3
  split at h
  case h_2 => cases h
  rename_i c3 hM3
  split at h
  case h_2 => cases h
  rename_i i4 he4
  split at h
  case h_2 => cases h
  rename_i c4 hM4
  try dsimp only at h
  cases h
  refine callOk_of fun ho => ?_
  obtain ⟨oc0, oc1, oc2, oc3, oc4, hs, hne0, hne1, hne2, hne3, hne4, hne5, hne6, hne7, hne8, hne9⟩ := ho
  generalize (Tf.dec c0 (Th.dec c1 (decM dkI (dvA Ta.dec) c2)) (Tn.dec c3) (decM dkI (dvA Tb.dec) c4)) = y0 at *
  subst oc0
  subst oc1
  subst oc2
  subst oc3
  subst oc4
  obtain ⟨r, hr⟩ := Option.isSome_iff_exists.1 hs
  simp only [hr, Option.getD_some]
  have q := Lg (M := M) [i0, i1, i2, i3, i4] (gu.can y0 r hr) (by simp [hne0, hne1, hne2, hne3, hne4, hne5, hne6, hne7, hne8, hne9]) rfl (by intro k i hk; (cases k with | zero => (simp at hk; subst hk; simp [hM0, into]) | succ k => ((cases k with | zero => (simp at hk; subst hk; simp [hM1, into]) | succ k => ((cases k with | zero => (simp at hk; subst hk; simp [hM2]) | succ k => ((cases k with | zero => (simp at hk; subst hk; simp [hM3]) | succ k => ((cases k with | zero => (simp at hk; subst hk; simp [hM4]) | succ k => (simp at hk)))))))))))
  exact callOk_conv q trivial (by simp [into]) (by simp [frameOut, gu.out, into]) (by simp only [frameOut, gu.out, Option.getD_some, Option.getD_none]; simp [into, hM0, hM1, hM2, hM3, hM4, set_same])
 ·cases h

@[simp] def gF.out (_x0 : Tf) (_x1 : Ta) (r : Tc × Tf) : Out := { av := .agg [.lit (.int .i64 r.1.fAt), .lit (.int .i64 r.1.fT), .lit (.bool r.1.fC), .lit (.bool r.1.fz), .lit (.bool r.1.fJ), .lit (.string r.1.fU), .lit (.int .i64 r.1.fO)], M := some [.blk [.ptr 1 0, .ptr 3 0, .lit (.bool r.2.ff.fd), .lit (.int .i64 r.2.ff.fk), .lit (.int .u16 r.2.ff.fW), .lit (.int .i64 r.2.ff.fK), .lit (.int .i64 r.2.ff.fA), .lit (.bool r.2.fh.fd), .lit (.int .i64 r.2.fh.fX), .mp 4, .lit (.int .i64 r.2.fq), .lit (.int .i64 r.2.fo)], .blk [.lit (.int .i64 r.2.fa.fb.fk), .lit (.int .i64 r.2.fa.fb.fp), .lit (.bool r.2.fa.fd), .lit (.int .i64 r.2.fa.fg), .mp 2, .lit (.int .i64 r.2.fa.fe)], .mapo (encM (kI .i64) (vA Ta.enc) r.2.fa.fOf), .blk [.lit (.bool r.2.fc.fb.fu), .lit (.int .i64 r.2.fc.fb.fw), .lit (.int .i64 r.2.fc.fb.fj), .lit (.int .i64 r.2.fc.fb.fp), .sl (r.2.fc.fv.fj.map Tc.enc) .no, .lit (.int .i64 r.2.fc.fy), .lit (.int .i64 r.2.fc.fe)], .mapo (encM (kI .i64) (vA Tb.enc) r.2.fOf)] }
def gF.fin (x0 : Tf) (x1 : Ta) (r : Tc × Tf) (σ : St) : Prop := finK (gF.out x0 x1 r) [.blk ([.ptr 1 0, .ptr 3 0] ++ x0.ff.enc ++ x0.fh.enc ++ [.mp 4, .lit (.int .i64 x0.fq), .lit (.int .i64 x0.fo)]), .blk (x0.fa.fb.enc ++ [.lit (.bool x0.fa.fd), .lit (.int .i64 x0.fa.fg), .mp 2, .lit (.int .i64 x0.fa.fe)]), .mapo (encM (kI .i64) (vA Ta.enc) x0.fa.fOf), .blk x0.fc.enc, .mapo (encM (kI .i64) (vA Tb.enc) x0.fOf)] σ.M (resA Tryz.ty σ.A σ.M Tryz.f49.results.toList)
theorem gF.can (x0 : Tf) (x1 : Ta) (r : Tc × Tf) (hr : gF x0 x1 = some r) : CallOk Tryz.prog 49 [.ptr 0 0, .agg [.lit (.int .i64 x1.fAt), .lit (.string x1.fU), .lit (.int .i64 x1.fO)]] [.blk ([.ptr 1 0, .ptr 3 0] ++ x0.ff.enc ++ x0.fh.enc ++ [.mp 4, .lit (.int .i64 x0.fq), .lit (.int .i64 x0.fo)]), .blk (x0.fa.fb.enc ++ [.lit (.bool x0.fa.fd), .lit (.int .i64 x0.fa.fg), .mp 2, .lit (.int .i64 x0.fa.fe)]), .mapo (encM (kI .i64) (vA Ta.enc) x0.fa.fOf), .blk x0.fc.enc, .mapo (encM (kI .i64) (vA Tb.enc) x0.fOf)] (gF.out x0 x1 r) := by
 unfold gF at hr
 have hΓ := (gamL_cons gi.ok (gamL_cons gav.ok (gamL_cons gas.ok (gamL_nil))) : GamOk Tryz.prog _)
 refine Le Tryz.tyOk Tryz.func49 rfl (by kernel_rfl) rfl rfl (by simp) ?_
 intro _ _ _
 refine AWp.then ⟨[⟨3, none, .ptr 5 0⟩, ⟨4, none, .ptr 6 0⟩, ⟨0, none, .ptr 0 0⟩], [.blk ([.ptr 1 0, .ptr 3 0] ++ x0.ff.enc ++ x0.fh.enc ++ [.mp 4, .n x0.fq, .n x0.fo]), .blk (x0.fa.fb.enc ++ [.b x0.fa.fd, .n x0.fa.fg, .mp 2, .n x0.fa.fe]), .mapo (encM (kI .i64) (vA Ta.enc) x0.fa.fOf), .blk x0.fc.enc, .mapo (encM (kI .i64) (vA Tb.enc) x0.fOf), .blk x1.enc, .blk [.n 0, .n 0, .b false, .b false, .b false, .s ⟨#[]⟩, .n 0]]⟩ (AWp.reg Tryz.tyOk hΓ [3, 4] [1] (by kernel_rfl) rfl (by simp)) ?_
 refine AWp.then ⟨[⟨5, none, .ptr 7 0⟩, ⟨3, none, .ptr 5 0⟩, ⟨4, none, .ptr 6 0⟩, ⟨0, none, .ptr 0 0⟩], [.blk ([.ptr 1 0, .ptr 3 0] ++ x0.ff.enc ++ x0.fh.enc ++ [.mp 4, .n x0.fq, .n x0.fo]), .blk (x0.fa.fb.enc ++ [.b x0.fa.fd, .n x0.fa.fg, .mp 2, .n x0.fa.fe]), .mapo (encM (kI .i64) (vA Ta.enc) x0.fa.fOf), .blk x0.fc.enc, .mapo (encM (kI .i64) (vA Tb.enc) x0.fOf), .blk x1.enc, .blk [.n 0, .n 0, .b false, .b false, .b false, .s ⟨#[]⟩, .n 0], .blk (getM eqI x1.fAt (Tb.mk false 0 0 0 0 [] false 0 ⟨⟨[]⟩⟩ ⟨⟨[]⟩⟩ 0) x0.fOf).enc]⟩ (AWp.regD Tryz.mixed Tryz.tyOk hΓ [5] [] [(0, 8), (1, 8), (2, 8), (3, 8), (4, 8), (5, 8), (6, 8)] [(false, []), (false, []), (false, []), (false, []), (false, []), (false, []), (false, []), (true, []), (true, [])] (by kernel_rfl) rfl (by simp)) ?_
 refine AWp.then ⟨[⟨5, none, .ptr 7 0⟩, ⟨3, none, .ptr 5 0⟩, ⟨4, none, .ptr 6 0⟩, ⟨0, none, .ptr 0 0⟩], [.blk ([.ptr 1 0, .ptr 3 0] ++ x0.ff.enc ++ x0.fh.enc ++ [.mp 4, .n x0.fq, .n x0.fo]), .blk (x0.fa.fb.enc ++ [.b x0.fa.fd, .n x0.fa.fg, .mp 2, .n x0.fa.fe]), .mapo (encM (kI .i64) (vA Ta.enc) x0.fa.fOf), .blk x0.fc.enc, .mapo (encM (kI .i64) (vA Tb.enc) (delM eqI x1.fAt x0.fOf)), .blk x1.enc, .blk [.n 0, .n 0, .b false, .b false, .b false, .s ⟨#[]⟩, .n 0], .blk (getM eqI x1.fAt (Tb.mk false 0 0 0 0 [] false 0 ⟨⟨[]⟩⟩ ⟨⟨[]⟩⟩ 0) x0.fOf).enc]⟩ (AWp.regD Tryz.mixed Tryz.tyOk hΓ [] [] [] [(false, []), (false, []), (false, []), (false, []), (false, []), (false, []), (true, [])] (by kernel_rfl) rfl (by simp)) ?_
 obtain ⟨r1, h5, hr⟩ := Lb hr
 refine AWp.then ⟨[⟨6, none, .ptr 8 0⟩, ⟨5, none, .ptr 7 0⟩, ⟨4, none, .ptr 6 0⟩, ⟨0, none, .ptr 0 0⟩], [.blk ([.ptr 1 0, .ptr 3 0] ++ r1.2.ff.enc ++ r1.2.fh.enc ++ [.mp 4, .n r1.2.fq, .n r1.2.fo]), .blk (r1.2.fa.fb.enc ++ [.b r1.2.fa.fd, .n r1.2.fa.fg, .mp 2, .n r1.2.fa.fe]), .mapo (encM (kI .i64) (vA Ta.enc) r1.2.fa.fOf), .blk r1.2.fc.enc, .mapo (encM (kI .i64) (vA Tb.enc) r1.2.fOf), .blk x1.enc, .blk [.n 0, .n 0, .b false, .b false, .b false, .s ⟨#[]⟩, .n 0], .blk (getM eqI x1.fAt (Tb.mk false 0 0 0 0 [] false 0 ⟨⟨[]⟩⟩ ⟨⟨[]⟩⟩ 0) x0.fOf).enc, .blk [.n x1.fAt, .n r1.1, .b ((getM eqI x1.fAt (Tb.mk false 0 0 0 0 [] false 0 ⟨⟨[]⟩⟩ ⟨⟨[]⟩⟩ 0) x0.fOf).fC), .b false, .b false, .s ((getM eqI x1.fAt (Tb.mk false 0 0 0 0 [] false 0 ⟨⟨[]⟩⟩ ⟨⟨[]⟩⟩ 0) x0.fOf).fF), .n x1.fO]]⟩ (AWp.regD Tryz.mixed Tryz.tyOk hΓ [6] [3] [(0, 8), (0, 16), (1, 8), (1, 16), (8, 0), (8, 16), (9, 0), (9, 16), (10, 0), (10, 16), (11, 0), (11, 16), (12, 0), (12, 16), (13, 0), (13, 16), (14, 16)] [(false, []), (false, []), (false, []), (false, []), (false, []), (false, []), (false, []), (true, []), (false, []), (false, []), (false, []), (false, []), (false, []), (false, []), (false, []), (true, []), (true, [])] (by kernel_rfl) rfl (by simp [h5])) ?_
 refine AWp.meetF (fun (v1 : Tc) (γ1 : Unit) => ⟨[⟨6, none, .ptr 8 0⟩, ⟨4, none, .ptr 6 0⟩], [.blk ([.ptr 1 0, .ptr 3 0] ++ r1.2.ff.enc ++ r1.2.fh.enc ++ [.mp 4, .n r1.2.fq, .n r1.2.fo]), .blk (r1.2.fa.fb.enc ++ [.b r1.2.fa.fd, .n r1.2.fa.fg, .mp 2, .n r1.2.fa.fe]), .mapo (encM (kI .i64) (vA Ta.enc) r1.2.fa.fOf), .blk r1.2.fc.enc, .mapo (encM (kI .i64) (vA Tb.enc) r1.2.fOf), .blk x1.enc, .blk [.n 0, .n 0, .b false, .b false, .b false, .s ⟨#[]⟩, .n 0], .blk (getM eqI x1.fAt (Tb.mk false 0 0 0 0 [] false 0 ⟨⟨[]⟩⟩ ⟨⟨[]⟩⟩ 0) x0.fOf).enc, .blk v1.enc]⟩) (gF.fin x0 x1) hr (fun f hr => ?_) (fun v1 γ1 hr => ?_) (fun _ h => h)
 ·obtain ⟨r2, h6, hr⟩ := Lb hr
  refine AWp.then ⟨[⟨7, none, .ptr 9 0⟩, ⟨8, none, .s r2.2.1⟩, ⟨9, none, .n r2.2.2⟩, ⟨6, none, .ptr 8 0⟩, ⟨4, none, .ptr 6 0⟩, ⟨0, none, .ptr 0 0⟩], [.blk ([.ptr 1 0, .ptr 3 0] ++ r1.2.ff.enc ++ r1.2.fh.enc ++ [.mp 4, .n r1.2.fq, .n r1.2.fo]), .blk (r1.2.fa.fb.enc ++ [.b r1.2.fa.fd, .n r1.2.fa.fg, .mp 2, .n r1.2.fa.fe]), .mapo (encM (kI .i64) (vA Ta.enc) r1.2.fa.fOf), .blk r1.2.fc.enc, .mapo (encM (kI .i64) (vA Tb.enc) r1.2.fOf), .blk x1.enc, .blk [.n 0, .n 0, .b false, .b false, .b false, .s ⟨#[]⟩, .n 0], .blk (getM eqI x1.fAt (Tb.mk false 0 0 0 0 [] false 0 ⟨⟨[]⟩⟩ ⟨⟨[]⟩⟩ 0) x0.fOf).enc, .blk [.n x1.fAt, .n r1.1, .b ((getM eqI x1.fAt (Tb.mk false 0 0 0 0 [] false 0 ⟨⟨[]⟩⟩ ⟨⟨[]⟩⟩ 0) x0.fOf).fC), .b false, .b false, .s ((getM eqI x1.fAt (Tb.mk false 0 0 0 0 [] false 0 ⟨⟨[]⟩⟩ ⟨⟨[]⟩⟩ 0) x0.fOf).fF), .n x1.fO], .blk r2.1.enc]⟩ (AWp.reg Tryz.tyOk hΓ [7, 8, 9] [5] (by kernel_rfl) rfl (by simp [h6])) ?_
  refine AWp.thenA [⟨56, none, .b (pickB r1.2.fc.fb.fu (eqI r2.2.2 0) false)⟩, ⟨7, none, .ptr 9 0⟩, ⟨8, none, .s r2.2.1⟩, ⟨6, none, .ptr 8 0⟩, ⟨4, none, .ptr 6 0⟩] (AWp.reg Tryz.tyOk hΓ [56] [9, 0] (by kernel_rfl) rfl (by simp)) ?_
  refine AWp.cond (b := (pickB r1.2.fc.fb.fu (eqI r2.2.2 0) false)) (by simp) (fun h7 => ?_) (fun h7 => ?_)
  ·have hr := Li h7 hr
   refine AWp.then ⟨[⟨7, none, .ptr 9 0⟩, ⟨8, none, .s r2.2.1⟩, ⟨6, none, .ptr 8 0⟩, ⟨4, none, .ptr 6 0⟩], [.blk ([.ptr 1 0, .ptr 3 0] ++ r1.2.ff.enc ++ r1.2.fh.enc ++ [.mp 4, .n r1.2.fq, .n r1.2.fo]), .blk (r1.2.fa.fb.enc ++ [.b r1.2.fa.fd, .n r1.2.fa.fg, .mp 2, .n r1.2.fa.fe]), .mapo (encM (kI .i64) (vA Ta.enc) r1.2.fa.fOf), .blk r1.2.fc.enc, .mapo (encM (kI .i64) (vA Tb.enc) r1.2.fOf), .blk x1.enc, .blk [.n 0, .n 0, .b false, .b false, .b false, .s ⟨#[]⟩, .n 0], .blk (getM eqI x1.fAt (Tb.mk false 0 0 0 0 [] false 0 ⟨⟨[]⟩⟩ ⟨⟨[]⟩⟩ 0) x0.fOf).enc, .blk [.n x1.fAt, .n r1.1, .b ((getM eqI x1.fAt (Tb.mk false 0 0 0 0 [] false 0 ⟨⟨[]⟩⟩ ⟨⟨[]⟩⟩ 0) x0.fOf).fC), .b (pickB r2.1.fz (eqI r2.1.fD 0) false), .b false, .s ((getM eqI x1.fAt (Tb.mk false 0 0 0 0 [] false 0 ⟨⟨[]⟩⟩ ⟨⟨[]⟩⟩ 0) x0.fOf).fF), .n x1.fO], .blk r2.1.enc]⟩ (AWp.reg Tryz.tyOk hΓ [] [56] (by kernel_rfl) rfl (by simp [h7])) ?_
   obtain ⟨r3, h8, hr⟩ := Lb hr
   refine AWp.last ⟨[⟨6, none, .ptr 8 0⟩, ⟨4, none, .ptr 6 0⟩], [.blk ([.ptr 1 0, .ptr 3 0] ++ r1.2.ff.enc ++ r1.2.fh.enc ++ [.mp 4, .n r1.2.fq, .n r1.2.fo]), .blk (r1.2.fa.fb.enc ++ [.b r1.2.fa.fd, .n r1.2.fa.fg, .mp 2, .n r1.2.fa.fe]), .mapo (encM (kI .i64) (vA Ta.enc) r1.2.fa.fOf), .blk r1.2.fc.enc, .mapo (encM (kI .i64) (vA Tb.enc) r1.2.fOf), .blk x1.enc, .blk [.n 0, .n 0, .b false, .b false, .b false, .s ⟨#[]⟩, .n 0], .blk (getM eqI x1.fAt (Tb.mk false 0 0 0 0 [] false 0 ⟨⟨[]⟩⟩ ⟨⟨[]⟩⟩ 0) x0.fOf).enc, .blk [.n x1.fAt, .n r1.1, .b ((getM eqI x1.fAt (Tb.mk false 0 0 0 0 [] false 0 ⟨⟨[]⟩⟩ ⟨⟨[]⟩⟩ 0) x0.fOf).fC), .b (pickB r2.1.fz (eqI r2.1.fD 0) false), .b r3, .s ((getM eqI x1.fAt (Tb.mk false 0 0 0 0 [] false 0 ⟨⟨[]⟩⟩ ⟨⟨[]⟩⟩ 0) x0.fOf).fF), .n x1.fO], .blk r2.1.enc]⟩ (AWp.reg Tryz.tyOk hΓ [] [7, 8] (by kernel_rfl) rfl (by simp [h8])) ?_
   obtain rfl := La hr
   exact Ll () 9 (by first | (simp; done) | simp [h5, h6, h7, h8])
  ·have hr := Lj h7 hr
   refine AWp.skip ?_
   obtain rfl := La hr
   exact Ll () 9 (by first | (simp; done) | simp [h5, h6, h7])
 ·refine AWp.then ⟨[⟨4, none, .ptr 6 0⟩], [.blk ([.ptr 1 0, .ptr 3 0] ++ r1.2.ff.enc ++ r1.2.fh.enc ++ [.mp 4, .n r1.2.fq, .n r1.2.fo]), .blk (r1.2.fa.fb.enc ++ [.b r1.2.fa.fd, .n r1.2.fa.fg, .mp 2, .n r1.2.fa.fe]), .mapo (encM (kI .i64) (vA Ta.enc) r1.2.fa.fOf), .blk r1.2.fc.enc, .mapo (encM (kI .i64) (vA Tb.enc) r1.2.fOf), .blk x1.enc, .blk v1.enc, .blk (getM eqI x1.fAt (Tb.mk false 0 0 0 0 [] false 0 ⟨⟨[]⟩⟩ ⟨⟨[]⟩⟩ 0) x0.fOf).enc, .blk v1.enc]⟩ (AWp.reg Tryz.tyOk hΓ [] [6] (by kernel_rfl) rfl (by simp)) ?_
  refine AWp.ret ?_
  obtain rfl := La hr
  refine Lf ?_
  simp

@[simp] noncomputable def gF.S : Sp
 | [.ptr i0 0, .agg e1], M => match M[i0]? with
  | some (.blk c0) => (match nthE c0 0 with
  | some (.ptr i1 0) => (match M[i1]? with
  | some (.blk c1) => (match nthE c1 4 with
  | some (.mp i2) => (match M[i2]? with
  | some (.mapo c2) => (match nthE c0 1 with
  | some (.ptr i3 0) => (match M[i3]? with
  | some (.blk c3) => (match nthE c0 9 with
  | some (.mp i4) => (match M[i4]? with
  | some (.mapo c4) => (fun (y0 : Tf) => (fun (y1 : Ta) => (fun (r : Tc × Tf) => some { av := .agg [.lit (.int .i64 (r.1.fAt)), .lit (.int .i64 (r.1.fT)), .lit (.bool (r.1.fC)), .lit (.bool (r.1.fz)), .lit (.bool (r.1.fJ)), .lit (.string (r.1.fU)), .lit (.int .i64 (r.1.fO))], M := some (((((M.set i0 (.blk [.ptr i1 0, .ptr i3 0, .lit (.bool (r.2.ff.fd)), .lit (.int .i64 (r.2.ff.fk)), .lit (.int .u16 (r.2.ff.fW)), .lit (.int .i64 (r.2.ff.fK)), .lit (.int .i64 (r.2.ff.fA)), .lit (.bool (r.2.fh.fd)), .lit (.int .i64 (r.2.fh.fX)), .mp i4, .lit (.int .i64 (r.2.fq)), .lit (.int .i64 (r.2.fo))])).set i1 (.blk [.lit (.int .i64 (r.2.fa.fb.fk)), .lit (.int .i64 (r.2.fa.fb.fp)), .lit (.bool (r.2.fa.fd)), .lit (.int .i64 (r.2.fa.fg)), .mp i2, .lit (.int .i64 (r.2.fa.fe))])).set i2 (.mapo (encM (kI .i64) (vA Ta.enc) (r.2.fa.fOf)))).set i3 (.blk [.lit (.bool (r.2.fc.fb.fu)), .lit (.int .i64 (r.2.fc.fb.fw)), .lit (.int .i64 (r.2.fc.fb.fj)), .lit (.int .i64 (r.2.fc.fb.fp)), .sl ((r.2.fc.fv.fj).map Tc.enc) .no, .lit (.int .i64 (r.2.fc.fy)), .lit (.int .i64 (r.2.fc.fe))])).set i4 (.mapo (encM (kI .i64) (vA Tb.enc) (r.2.fOf)))), obl := WeakL e1 (Ta.enc y1) ∧ c0 = Tf.enc y0 i1 i3 i4 ∧ c1 = Th.enc (y0.fa) i2 ∧ c2 = encM (kI .i64) (vA Ta.enc) (y0.fa.fOf) ∧ c3 = Tn.enc (y0.fc) ∧ c4 = encM (kI .i64) (vA Tb.enc) (y0.fOf) ∧ (gF y0 y1).isSome = true ∧ i0 ≠ i1 ∧ i0 ≠ i2 ∧ i0 ≠ i3 ∧ i0 ≠ i4 ∧ i1 ≠ i2 ∧ i1 ≠ i3 ∧ i1 ≠ i4 ∧ i2 ≠ i3 ∧ i2 ≠ i4 ∧ i3 ≠ i4 }) ((gF y0 y1).getD dflt)) (Ta.dec e1)) (Tf.dec c0 (Th.dec c1 (decM dkI (dvA Ta.dec) c2)) (Tn.dec c3) (decM dkI (dvA Tb.dec) c4))
  | _ => none)
  | _ => none)
  | _ => none)
  | _ => none)
  | _ => none)
  | _ => none)
  | _ => none)
  | _ => none)
  | _ => none
 | _, _ => none

theorem gF.ok : SpecOk Tryz.prog 49 gF.S := by
 intro l M out h
 unfold gF.S at h
 split at h
 ·rename_i i0 e1
  split at h
  case h_2 => cases h
  rename_i c0 hM0
  split at h
  case h_2 => cases h
  rename_i i1 he1
  split at h
  case h_2 => cases h
  rename_i c1 hM1
  split at h
  case h_2 => cases h
  rename_i i2 he2
  split at h
  case h_2 => cases h
  rename_i c2 hM2
  split at h
  case h_2 => cases h
  rename_i i3 he3
  split at h
  case h_2 => cases h
  rename_i c3 hM3
  split at h
  case h_2 => cases h
  rename_i i4 he4
  split at h
  case h_2 => cases h
  rename_i c4 hM4
  try dsimp only at h
  cases h
  refine callOk_of fun ho => ?_
  obtain ⟨ox1, oc0, oc1, oc2, oc3, oc4, hs, hne0, hne1, hne2, hne3, hne4, hne5, hne6, hne7, hne8, hne9⟩ := ho
  generalize (Tf.dec c0 (Th.dec c1 (decM dkI (dvA Ta.dec) c2)) (Tn.dec c3) (decM dkI (dvA Tb.dec) c4)) = y0 at *
  generalize (Ta.dec e1) = x1 at *
  subst oc0
  subst oc1
  subst oc2
  subst oc3
  subst oc4
  obtain ⟨r, hr⟩ := Option.isSome_iff_exists.1 hs
  simp only [hr, Option.getD_some]
  have q := Lg (M := M) [i0, i1, i2, i3, i4] (gF.can y0 x1 r hr) (by simp [hne0, hne1, hne2, hne3, hne4, hne5, hne6, hne7, hne8, hne9]) rfl (by intro k i hk; (cases k with | zero => (simp at hk; subst hk; simp [hM0, into]) | succ k => ((cases k with | zero => (simp at hk; subst hk; simp [hM1, into]) | succ k => ((cases k with | zero => (simp at hk; subst hk; simp [hM2]) | succ k => ((cases k with | zero => (simp at hk; subst hk; simp [hM3]) | succ k => ((cases k with | zero => (simp at hk; subst hk; simp [hM4]) | succ k => (simp at hk)))))))))))
  exact callOk_conv q trivial (by simp [into]; exact ox1) (by simp [frameOut, gF.out, into]) (by simp [frameOut, gF.out, into])
 ·cases h

@[simp] def gc.out (_x0 : Tf) (_x1 : List Ta) (r : List Tl × Tf) : Out := { av := .sl (r.1.map Tl.enc) .no, M := some [.blk [.ptr 1 0, .ptr 3 0, .lit (.bool r.2.ff.fd), .lit (.int .i64 r.2.ff.fk), .lit (.int .u16 r.2.ff.fW), .lit (.int .i64 r.2.ff.fK), .lit (.int .i64 r.2.ff.fA), .lit (.bool r.2.fh.fd), .lit (.int .i64 r.2.fh.fX), .mp 4, .lit (.int .i64 r.2.fq), .lit (.int .i64 r.2.fo)], .blk [.lit (.int .i64 r.2.fa.fb.fk), .lit (.int .i64 r.2.fa.fb.fp), .lit (.bool r.2.fa.fd), .lit (.int .i64 r.2.fa.fg), .mp 2, .lit (.int .i64 r.2.fa.fe)], .mapo (encM (kI .i64) (vA Ta.enc) r.2.fa.fOf), .blk [.lit (.bool r.2.fc.fb.fu), .lit (.int .i64 r.2.fc.fb.fw), .lit (.int .i64 r.2.fc.fb.fj), .lit (.int .i64 r.2.fc.fb.fp), .sl (r.2.fc.fv.fj.map Tc.enc) .no, .lit (.int .i64 r.2.fc.fy), .lit (.int .i64 r.2.fc.fe)], .mapo (encM (kI .i64) (vA Tb.enc) r.2.fOf)] }
def gc.fin (x0 : Tf) (x1 : List Ta) (r : List Tl × Tf) (σ : St) : Prop := finK (gc.out x0 x1 r) [.blk ([.ptr 1 0, .ptr 3 0] ++ x0.ff.enc ++ x0.fh.enc ++ [.mp 4, .lit (.int .i64 x0.fq), .lit (.int .i64 x0.fo)]), .blk (x0.fa.fb.enc ++ [.lit (.bool x0.fa.fd), .lit (.int .i64 x0.fa.fg), .mp 2, .lit (.int .i64 x0.fa.fe)]), .mapo (encM (kI .i64) (vA Ta.enc) x0.fa.fOf), .blk x0.fc.enc, .mapo (encM (kI .i64) (vA Tb.enc) x0.fOf)] σ.M (resA Tryz.ty σ.A σ.M Tryz.f26.results.toList)
theorem gc.can (x0 : Tf) (x1 : List Ta) (r : List Tl × Tf) (hr : gc x0 x1 = some r) : CallOk Tryz.prog 26 [.ptr 0 0, .sl (x1.map Ta.enc) .no] [.blk ([.ptr 1 0, .ptr 3 0] ++ x0.ff.enc ++ x0.fh.enc ++ [.mp 4, .lit (.int .i64 x0.fq), .lit (.int .i64 x0.fo)]), .blk (x0.fa.fb.enc ++ [.lit (.bool x0.fa.fd), .lit (.int .i64 x0.fa.fg), .mp 2, .lit (.int .i64 x0.fa.fe)]), .mapo (encM (kI .i64) (vA Ta.enc) x0.fa.fOf), .blk x0.fc.enc, .mapo (encM (kI .i64) (vA Tb.enc) x0.fOf)] (gc.out x0 x1 r) := by
 unfold gc at hr
 have hΓ := (gamL_cons gac.ok (gamL_cons gF.ok (gamL_cons gJ.ok (gamL_nil))) : GamOk Tryz.prog _)
 refine Le Tryz.tyOk Tryz.func26 rfl (by kernel_rfl) rfl rfl (by simp) ?_
 intro _ _ _
 refine AWp.then ⟨[⟨0, none, .ptr 0 0⟩, ⟨1, none, .sl (x1.map Ta.enc) .no⟩], [.blk ([.ptr 1 0, .ptr 3 0] ++ x0.ff.enc ++ x0.fh.enc ++ [.mp 4, .n x0.fq, .n x0.fo]), .blk (x0.fa.fb.enc ++ [.b x0.fa.fd, .n x0.fa.fg, .mp 2, .n x0.fa.fe]), .mapo (encM (kI .i64) (vA Ta.enc) x0.fa.fOf), .blk x0.fc.enc, .mapo (encM (kI .i64) (vA Tb.enc) x0.fOf)]⟩ (AWp.reg Tryz.tyOk hΓ [] [] (by kernel_rfl) rfl (by simp)) ?_
 refine AWp.thenA [⟨5, none, .sl [] .full⟩, ⟨0, none, .ptr 0 0⟩, ⟨1, none, .sl (x1.map Ta.enc) .no⟩] (AWp.reg Tryz.tyOk hΓ [5] [] (by kernel_rfl) rfl (by simp)) ?_
 refine AWp.seq ?_
 refine AWp.then ⟨[⟨10, none, .sl (x1.map Ta.enc) .no⟩, ⟨11, none, .n (lenL x1)⟩, ⟨12, none, .n 0⟩, ⟨5, none, .sl [] .full⟩, ⟨0, none, .ptr 0 0⟩], [.blk ([.ptr 1 0, .ptr 3 0] ++ x0.ff.enc ++ x0.fh.enc ++ [.mp 4, .n x0.fq, .n x0.fo]), .blk (x0.fa.fb.enc ++ [.b x0.fa.fd, .n x0.fa.fg, .mp 2, .n x0.fa.fe]), .mapo (encM (kI .i64) (vA Ta.enc) x0.fa.fOf), .blk x0.fc.enc, .mapo (encM (kI .i64) (vA Tb.enc) x0.fOf)]⟩ (AWp.reg Tryz.tyOk hΓ [10, 11, 12] [1] (by kernel_rfl) rfl (by simp)) ?_
 refine AWp.equip 5 1 (els := []) (by simp) (by simp) ?_
 refine AWp.loopE (fun (s1 : Int × Tx × Tw × Int × Int × Tt × Bool × Int × Int × (List (Int × Ta)) × Tn × (List (Int × Tb)) × List Tl) (γ1 : Nat) => ⟨[⟨10, none, .sl (x1.map Ta.enc) .no⟩, ⟨11, none, .n (lenL x1)⟩, ⟨12, none, .n s1.1⟩, ⟨5, none, .sl (s1.2.2.2.2.2.2.2.2.2.2.2.2.map Tl.enc) (.own 5 (γ1) 1)⟩, ⟨0, none, .ptr 0 0⟩], [.blk ([.ptr 1 0, .ptr 3 0] ++ s1.2.1.enc ++ s1.2.2.1.enc ++ [.mp 4, .n s1.2.2.2.1, .n s1.2.2.2.2.1]), .blk (s1.2.2.2.2.2.1.enc ++ [.b s1.2.2.2.2.2.2.1, .n s1.2.2.2.2.2.2.2.1, .mp 2, .n s1.2.2.2.2.2.2.2.2.1]), .mapo (encM (kI .i64) (vA Ta.enc) s1.2.2.2.2.2.2.2.2.2.1), .blk s1.2.2.2.2.2.2.2.2.2.2.1.enc, .mapo (encM (kI .i64) (vA Tb.enc) s1.2.2.2.2.2.2.2.2.2.2.2.1), .room (γ1)]⟩) (fun (v1 : List Tl × Tx × Tw × Int × Int × Tt × Bool × Int × Int × (List (Int × Ta)) × Tn × (List (Int × Tb))) (γ1a : Nat) => ⟨[⟨5, none, .sl (v1.1.map Tl.enc) (.own 5 (γ1a) 1)⟩], [.blk ([.ptr 1 0, .ptr 3 0] ++ v1.2.1.enc ++ v1.2.2.1.enc ++ [.mp 4, .n v1.2.2.2.1, .n v1.2.2.2.2.1]), .blk (v1.2.2.2.2.2.1.enc ++ [.b v1.2.2.2.2.2.2.1, .n v1.2.2.2.2.2.2.2.1, .mp 2, .n v1.2.2.2.2.2.2.2.2.1]), .mapo (encM (kI .i64) (vA Ta.enc) v1.2.2.2.2.2.2.2.2.2.1), .blk v1.2.2.2.2.2.2.2.2.2.2.1.enc, .mapo (encM (kI .i64) (vA Tb.enc) v1.2.2.2.2.2.2.2.2.2.2.2), .room (γ1a)]⟩) (gc.fin x0 x1) hr 0 6 (by simp) (fun s1 f γ1 hr => ?_) (fun v1 γ1a σ1 m1 hr hc => ?_) (fun _ h => h)
 ·unfold gc.loop1 at hr
  refine AWp.then ⟨[⟨13, none, .b (ltI s1.1 (lenL x1))⟩, ⟨10, none, .sl (x1.map Ta.enc) .no⟩, ⟨11, none, .n (lenL x1)⟩, ⟨12, none, .n s1.1⟩, ⟨5, none, .sl (s1.2.2.2.2.2.2.2.2.2.2.2.2.map Tl.enc) (.own 5 (γ1) 1)⟩, ⟨0, none, .ptr 0 0⟩], [.blk ([.ptr 1 0, .ptr 3 0] ++ s1.2.1.enc ++ s1.2.2.1.enc ++ [.mp 4, .n s1.2.2.2.1, .n s1.2.2.2.2.1]), .blk (s1.2.2.2.2.2.1.enc ++ [.b s1.2.2.2.2.2.2.1, .n s1.2.2.2.2.2.2.2.1, .mp 2, .n s1.2.2.2.2.2.2.2.2.1]), .mapo (encM (kI .i64) (vA Ta.enc) s1.2.2.2.2.2.2.2.2.2.1), .blk s1.2.2.2.2.2.2.2.2.2.2.1.enc, .mapo (encM (kI .i64) (vA Tb.enc) s1.2.2.2.2.2.2.2.2.2.2.2.1), .room (γ1)]⟩ (AWp.reg Tryz.tyOk hΓ [13] [] (by kernel_rfl) rfl (by simp)) ?_
  refine AWp.seq ?_
  refine AWp.cond (b := (ltI s1.1 (lenL x1))) (by simp) (fun h9 => ?_) (fun h9 => ?_)
  ·have hr := Li h9 hr
   refine AWp.skip ?_
   refine AWp.seq ?_
   refine AWp.block ?_
   obtain ⟨h10, hr⟩ := Lc hr
   refine AWp.then ⟨[⟨7, none, .ptr 6 0⟩, ⟨10, none, .sl (x1.map Ta.enc) .no⟩, ⟨11, none, .n (lenL x1)⟩, ⟨12, none, .n s1.1⟩, ⟨5, none, .sl (s1.2.2.2.2.2.2.2.2.2.2.2.2.map Tl.enc) (.own 5 (γ1) 1)⟩, ⟨0, none, .ptr 0 0⟩], [.blk ([.ptr 1 0, .ptr 3 0] ++ s1.2.1.enc ++ s1.2.2.1.enc ++ [.mp 4, .n s1.2.2.2.1, .n s1.2.2.2.2.1]), .blk (s1.2.2.2.2.2.1.enc ++ [.b s1.2.2.2.2.2.2.1, .n s1.2.2.2.2.2.2.2.1, .mp 2, .n s1.2.2.2.2.2.2.2.2.1]), .mapo (encM (kI .i64) (vA Ta.enc) s1.2.2.2.2.2.2.2.2.2.1), .blk s1.2.2.2.2.2.2.2.2.2.2.1.enc, .mapo (encM (kI .i64) (vA Tb.enc) s1.2.2.2.2.2.2.2.2.2.2.2.1), .room (γ1), .blk (nthI x1 s1.1).enc]⟩ (AWp.reg Tryz.tyOk hΓ [7] [13] (by kernel_rfl) rfl (by simp [h9, h10])) ?_
   obtain ⟨r1, h11, hr⟩ := Lb hr
   obtain ⟨r2, h12, hr⟩ := Lb hr
   refine AWp.then ⟨[⟨8, none, .ptr 7 0⟩, ⟨9, none, .b r2.2.1⟩, ⟨10, none, .sl (x1.map Ta.enc) .no⟩, ⟨11, none, .n (lenL x1)⟩, ⟨12, none, .n s1.1⟩, ⟨5, none, .sl (s1.2.2.2.2.2.2.2.2.2.2.2.2.map Tl.enc) (.own 5 (γ1) 1)⟩, ⟨0, none, .ptr 0 0⟩], [.blk ([.ptr 1 0, .ptr 3 0] ++ r1.2.ff.enc ++ r1.2.fh.enc ++ [.mp 4, .n r1.2.fq, .n r1.2.fo]), .blk (r1.2.fa.fb.enc ++ [.b r1.2.fa.fd, .n r1.2.fa.fg, .mp 2, .n r1.2.fa.fe]), .mapo (encM (kI .i64) (vA Ta.enc) r1.2.fa.fOf), .blk r2.2.2.enc, .mapo (encM (kI .i64) (vA Tb.enc) r1.2.fOf), .room (γ1), .blk (nthI x1 s1.1).enc, .blk [.sl (r2.1.fj.map Tc.enc) .no]]⟩ (AWp.regD Tryz.mixed Tryz.tyOk hΓ [8, 9] [7] [(0, 7), (1, 7), (2, 7), (3, 7), (8, 12), (9, 12), (10, 12), (10, 13)] [(false, []), (false, []), (false, []), (false, []), (false, []), (false, []), (true, []), (true, []), (false, []), (false, []), (false, []), (true, []), (true, []), (false, [])] (by kernel_rfl) rfl (by simp [h11, h12])) ?_
   refine AWp.seq ?_
   refine AWp.then ⟨[⟨28, none, .b (notB r2.2.1)⟩, ⟨8, none, .ptr 7 0⟩, ⟨10, none, .sl (x1.map Ta.enc) .no⟩, ⟨11, none, .n (lenL x1)⟩, ⟨12, none, .n s1.1⟩, ⟨5, none, .sl (s1.2.2.2.2.2.2.2.2.2.2.2.2.map Tl.enc) (.own 5 (γ1) 1)⟩, ⟨0, none, .ptr 0 0⟩], [.blk ([.ptr 1 0, .ptr 3 0] ++ r1.2.ff.enc ++ r1.2.fh.enc ++ [.mp 4, .n r1.2.fq, .n r1.2.fo]), .blk (r1.2.fa.fb.enc ++ [.b r1.2.fa.fd, .n r1.2.fa.fg, .mp 2, .n r1.2.fa.fe]), .mapo (encM (kI .i64) (vA Ta.enc) r1.2.fa.fOf), .blk r2.2.2.enc, .mapo (encM (kI .i64) (vA Tb.enc) r1.2.fOf), .room (γ1), .blk (nthI x1 s1.1).enc, .blk [.sl (r2.1.fj.map Tc.enc) .no]]⟩ (AWp.reg Tryz.tyOk hΓ [28] [9] (by kernel_rfl) rfl (by simp)) ?_
   refine AWp.cond (b := (notB r2.2.1)) (by simp) (fun h13 => ?_) (fun h13 => ?_)
   ·have hr := Li h13 hr
    refine AWp.exit ?_
    refine blockS_same ?_
    refine AWp.last ⟨[⟨12, none, .n (addI .i64 s1.1 1)⟩, ⟨10, none, .sl (x1.map Ta.enc) .no⟩, ⟨11, none, .n (lenL x1)⟩, ⟨5, none, .sl (s1.2.2.2.2.2.2.2.2.2.2.2.2.map Tl.enc) (.own 5 (γ1) 1)⟩, ⟨0, none, .ptr 0 0⟩], [.blk ([.ptr 1 0, .ptr 3 0] ++ r1.2.ff.enc ++ r1.2.fh.enc ++ [.mp 4, .n r1.2.fq, .n r1.2.fo]), .blk (r1.2.fa.fb.enc ++ [.b r1.2.fa.fd, .n r1.2.fa.fg, .mp 2, .n r1.2.fa.fe]), .mapo (encM (kI .i64) (vA Ta.enc) r1.2.fa.fOf), .blk r2.2.2.enc, .mapo (encM (kI .i64) (vA Tb.enc) r1.2.fOf), .room (γ1), .blk (nthI x1 s1.1).enc, .blk [.sl (r2.1.fj.map Tc.enc) .no]]⟩ (AWp.reg Tryz.tyOk hΓ [12] [28, 8] (by kernel_rfl) rfl (by simp [h13])) ?_
    obtain rfl := La hr
    exact Lq (γ1) 6 (by first | (simp; done) | simp [h9, h10, h11, h12, h13])
   ·have hr := Lj h13 hr
    refine AWp.skip ?_
    refine AWp.meetF (fun (v2 : Int) (γ2 : Unit) => ⟨[⟨8, none, .ptr 7 0⟩, ⟨10, none, .sl (x1.map Ta.enc) .no⟩, ⟨11, none, .n (lenL x1)⟩, ⟨12, none, .n s1.1⟩, ⟨5, none, .sl (s1.2.2.2.2.2.2.2.2.2.2.2.2.map Tl.enc) (.own 5 (γ1) 1)⟩, ⟨0, none, .ptr 0 0⟩], [.blk ([.ptr 1 0, .ptr 3 0] ++ r1.2.ff.enc ++ r1.2.fh.enc ++ [.mp 4, .n r1.2.fq, .n v2]), .blk (r1.2.fa.fb.enc ++ [.b r1.2.fa.fd, .n r1.2.fa.fg, .mp 2, .n r1.2.fa.fe]), .mapo (encM (kI .i64) (vA Ta.enc) r1.2.fa.fOf), .blk r2.2.2.enc, .mapo (encM (kI .i64) (vA Tb.enc) r1.2.fOf), .room (γ1), .blk (nthI x1 s1.1).enc, .blk [.sl (r2.1.fj.map Tc.enc) .no]]⟩) (QRr (gc.fin x0 x1)) hr (fun f hr => ?_) (fun v2 γ2 hr => ?_) (fun _ h => QRr_ret h)
    ·obtain ⟨r3, h14, hr⟩ := Lb hr
     refine AWp.then ⟨[⟨30, none, .b r3⟩, ⟨8, none, .ptr 7 0⟩, ⟨10, none, .sl (x1.map Ta.enc) .no⟩, ⟨11, none, .n (lenL x1)⟩, ⟨12, none, .n s1.1⟩, ⟨5, none, .sl (s1.2.2.2.2.2.2.2.2.2.2.2.2.map Tl.enc) (.own 5 (γ1) 1)⟩, ⟨0, none, .ptr 0 0⟩], [.blk ([.ptr 1 0, .ptr 3 0] ++ r1.2.ff.enc ++ r1.2.fh.enc ++ [.mp 4, .n r1.2.fq, .n r1.2.fo]), .blk (r1.2.fa.fb.enc ++ [.b r1.2.fa.fd, .n r1.2.fa.fg, .mp 2, .n r1.2.fa.fe]), .mapo (encM (kI .i64) (vA Ta.enc) r1.2.fa.fOf), .blk r2.2.2.enc, .mapo (encM (kI .i64) (vA Tb.enc) r1.2.fOf), .room (γ1), .blk (nthI x1 s1.1).enc, .blk [.sl (r2.1.fj.map Tc.enc) .no]]⟩ (AWp.reg Tryz.tyOk hΓ [30] [28] (by kernel_rfl) rfl (by simp [h13, h14])) ?_
     refine AWp.cond (b := r3) (by simp) (fun h15 => ?_) (fun h15 => ?_)
     ·have hr := Li h15 hr
      refine AWp.last ⟨[⟨8, none, .ptr 7 0⟩, ⟨10, none, .sl (x1.map Ta.enc) .no⟩, ⟨11, none, .n (lenL x1)⟩, ⟨12, none, .n s1.1⟩, ⟨5, none, .sl (s1.2.2.2.2.2.2.2.2.2.2.2.2.map Tl.enc) (.own 5 (γ1) 1)⟩, ⟨0, none, .ptr 0 0⟩], [.blk ([.ptr 1 0, .ptr 3 0] ++ r1.2.ff.enc ++ r1.2.fh.enc ++ [.mp 4, .n r1.2.fq, .n (addI .i64 r1.2.fo 1)]), .blk (r1.2.fa.fb.enc ++ [.b r1.2.fa.fd, .n r1.2.fa.fg, .mp 2, .n r1.2.fa.fe]), .mapo (encM (kI .i64) (vA Ta.enc) r1.2.fa.fOf), .blk r2.2.2.enc, .mapo (encM (kI .i64) (vA Tb.enc) r1.2.fOf), .room (γ1), .blk (nthI x1 s1.1).enc, .blk [.sl (r2.1.fj.map Tc.enc) .no]]⟩ (AWp.reg Tryz.tyOk hΓ [] [30] (by kernel_rfl) rfl (by simp [h15])) ?_
      obtain rfl := La hr
      exact Ll () 8 (by first | (simp; done) | simp [h9, h10, h11, h12, h13, h14, h15])
     ·have hr := Lj h15 hr
      refine AWp.skip ?_
      obtain rfl := La hr
      exact Ll () 8 (by first | (simp; done) | simp [h9, h10, h11, h12, h13, h14, h15])
    ·obtain ⟨h16, hr⟩ := Lc hr
     refine AWp.last ⟨[⟨5, none, .sl ((appL s1.2.2.2.2.2.2.2.2.2.2.2.2 [r2.1]).map Tl.enc) (.own 5 (γ1 + 1) 1)⟩, ⟨10, none, .sl (x1.map Ta.enc) .no⟩, ⟨11, none, .n (lenL x1)⟩, ⟨12, none, .n s1.1⟩, ⟨0, none, .ptr 0 0⟩], [.blk ([.ptr 1 0, .ptr 3 0] ++ r1.2.ff.enc ++ r1.2.fh.enc ++ [.mp 4, .n r1.2.fq, .n v2]), .blk (r1.2.fa.fb.enc ++ [.b r1.2.fa.fd, .n r1.2.fa.fg, .mp 2, .n r1.2.fa.fe]), .mapo (encM (kI .i64) (vA Ta.enc) r1.2.fa.fOf), .blk r2.2.2.enc, .mapo (encM (kI .i64) (vA Tb.enc) r1.2.fOf), .room (γ1 + 1), .blk (nthI x1 s1.1).enc, .blk [.sl (r2.1.fj.map Tc.enc) .no]]⟩ (AWp.reg Tryz.tyOk hΓ [5] [8] (by kernel_rfl) rfl (by simp [h16])) ?_
     refine AWp.last ⟨[⟨12, none, .n (addI .i64 s1.1 1)⟩, ⟨5, none, .sl ((appL s1.2.2.2.2.2.2.2.2.2.2.2.2 [r2.1]).map Tl.enc) (.own 5 (γ1 + 1) 1)⟩, ⟨10, none, .sl (x1.map Ta.enc) .no⟩, ⟨11, none, .n (lenL x1)⟩, ⟨0, none, .ptr 0 0⟩], [.blk ([.ptr 1 0, .ptr 3 0] ++ r1.2.ff.enc ++ r1.2.fh.enc ++ [.mp 4, .n r1.2.fq, .n v2]), .blk (r1.2.fa.fb.enc ++ [.b r1.2.fa.fd, .n r1.2.fa.fg, .mp 2, .n r1.2.fa.fe]), .mapo (encM (kI .i64) (vA Ta.enc) r1.2.fa.fOf), .blk r2.2.2.enc, .mapo (encM (kI .i64) (vA Tb.enc) r1.2.fOf), .room (γ1 + 1), .blk (nthI x1 s1.1).enc, .blk [.sl (r2.1.fj.map Tc.enc) .no]]⟩ (AWp.reg Tryz.tyOk hΓ [12] [] (by kernel_rfl) rfl (by simp)) ?_
     obtain rfl := La hr
     exact Lq (γ1 + 1) 6 (by first | (simp; done) | simp [h9, h10, h11, h12, h13, h16])
  ·have hr := Lj h9 hr
   refine AWp.exit ?_
   obtain rfl := La hr
   exact Lo (γ1) 6 (by first | (simp; done) | simp [h9])
 ·refine AWp.conv hc ?_
  refine AWp.then ⟨[⟨4, none, .sl (v1.1.map Tl.enc) (.own 5 (γ1a) 1)⟩], [.blk ([.ptr 1 0, .ptr 3 0] ++ v1.2.1.enc ++ v1.2.2.1.enc ++ [.mp 4, .n v1.2.2.2.1, .n v1.2.2.2.2.1]), .blk (v1.2.2.2.2.2.1.enc ++ [.b v1.2.2.2.2.2.2.1, .n v1.2.2.2.2.2.2.2.1, .mp 2, .n v1.2.2.2.2.2.2.2.2.1]), .mapo (encM (kI .i64) (vA Ta.enc) v1.2.2.2.2.2.2.2.2.2.1), .blk v1.2.2.2.2.2.2.2.2.2.2.1.enc, .mapo (encM (kI .i64) (vA Tb.enc) v1.2.2.2.2.2.2.2.2.2.2.2), .room (γ1a)]⟩ (AWp.reg Tryz.tyOk hΓ [4] [5] (by kernel_rfl) rfl (by simp)) ?_
  refine AWp.ret ?_
  obtain rfl := La hr
  refine Lf ?_
  simp

@[simp] noncomputable def gc.S : Sp
 | [.ptr i0 0, .sl e1 _], M => match M[i0]? with
  | some (.blk c0) => (match nthE c0 0 with
  | some (.ptr i1 0) => (match M[i1]? with
  | some (.blk c1) => (match nthE c1 4 with
  | some (.mp i2) => (match M[i2]? with
  | some (.mapo c2) => (match nthE c0 1 with
  | some (.ptr i3 0) => (match M[i3]? with
  | some (.blk c3) => (match nthE c0 9 with
  | some (.mp i4) => (match M[i4]? with
  | some (.mapo c4) => (fun (y0 : Tf) => (fun (r : List Tl × Tf) => some { av := .sl ((r.1).map Tl.enc) .no, M := some (((((M.set i0 (.blk [.ptr i1 0, .ptr i3 0, .lit (.bool (r.2.ff.fd)), .lit (.int .i64 (r.2.ff.fk)), .lit (.int .u16 (r.2.ff.fW)), .lit (.int .i64 (r.2.ff.fK)), .lit (.int .i64 (r.2.ff.fA)), .lit (.bool (r.2.fh.fd)), .lit (.int .i64 (r.2.fh.fX)), .mp i4, .lit (.int .i64 (r.2.fq)), .lit (.int .i64 (r.2.fo))])).set i1 (.blk [.lit (.int .i64 (r.2.fa.fb.fk)), .lit (.int .i64 (r.2.fa.fb.fp)), .lit (.bool (r.2.fa.fd)), .lit (.int .i64 (r.2.fa.fg)), .mp i2, .lit (.int .i64 (r.2.fa.fe))])).set i2 (.mapo (encM (kI .i64) (vA Ta.enc) (r.2.fa.fOf)))).set i3 (.blk [.lit (.bool (r.2.fc.fb.fu)), .lit (.int .i64 (r.2.fc.fb.fw)), .lit (.int .i64 (r.2.fc.fb.fj)), .lit (.int .i64 (r.2.fc.fb.fp)), .sl ((r.2.fc.fv.fj).map Tc.enc) .no, .lit (.int .i64 (r.2.fc.fy)), .lit (.int .i64 (r.2.fc.fe))])).set i4 (.mapo (encM (kI .i64) (vA Tb.enc) (r.2.fOf)))), obl := e1 = (e1.map Ta.dec).map Ta.enc ∧ c0 = Tf.enc y0 i1 i3 i4 ∧ c1 = Th.enc (y0.fa) i2 ∧ c2 = encM (kI .i64) (vA Ta.enc) (y0.fa.fOf) ∧ c3 = Tn.enc (y0.fc) ∧ c4 = encM (kI .i64) (vA Tb.enc) (y0.fOf) ∧ (gc y0 (e1.map Ta.dec)).isSome = true ∧ i0 ≠ i1 ∧ i0 ≠ i2 ∧ i0 ≠ i3 ∧ i0 ≠ i4 ∧ i1 ≠ i2 ∧ i1 ≠ i3 ∧ i1 ≠ i4 ∧ i2 ≠ i3 ∧ i2 ≠ i4 ∧ i3 ≠ i4 }) ((gc y0 (e1.map Ta.dec)).getD dflt)) (Tf.dec c0 (Th.dec c1 (decM dkI (dvA Ta.dec) c2)) (Tn.dec c3) (decM dkI (dvA Tb.dec) c4))
  | _ => none)
  | _ => none)
  | _ => none)
  | _ => none)
  | _ => none)
  | _ => none)
  | _ => none)
  | _ => none)
  | _ => none
 | _, _ => none

theorem gc.ok : SpecOk Tryz.prog 26 gc.S := by
 intro l M out h
 unfold gc.S at h
 split at h
 ·rename_i i0 e1 k1
  split at h
  case h_2 => cases h
  rename_i c0 hM0
  split at h
  case h_2 => cases h
  rename_i i1 he1
  split at h
  case h_2 => cases h
  rename_i c1 hM1
  split at h
  case h_2 => cases h
  rename_i i2 he2
  split at h
  case h_2 => cases h
  rename_i c2 hM2
  split at h
  case h_2 => cases h
  rename_i i3 he3
  split at h
  case h_2 => cases h
  rename_i c3 hM3
  split at h
  case h_2 => cases h
  rename_i i4 he4
  split at h
  case h_2 => cases h
  rename_i c4 hM4
  try dsimp only at h
  cases h
  refine callOk_of fun ho => ?_
  obtain ⟨ox1, oc0, oc1, oc2, oc3, oc4, hs, hne0, hne1, hne2, hne3, hne4, hne5, hne6, hne7, hne8, hne9⟩ := ho
  generalize (Tf.dec c0 (Th.dec c1 (decM dkI (dvA Ta.dec) c2)) (Tn.dec c3) (decM dkI (dvA Tb.dec) c4)) = y0 at *
  generalize (e1.map Ta.dec) = x1 at *
  subst ox1
  subst oc0
  subst oc1
  subst oc2
  subst oc3
  subst oc4
  obtain ⟨r, hr⟩ := Option.isSome_iff_exists.1 hs
  simp only [hr, Option.getD_some]
  have q := Lg (M := M) [i0, i1, i2, i3, i4] (gc.can y0 x1 r hr) (by simp [hne0, hne1, hne2, hne3, hne4, hne5, hne6, hne7, hne8, hne9]) rfl (by intro k i hk; (cases k with | zero => (simp at hk; subst hk; simp [hM0, into]) | succ k => ((cases k with | zero => (simp at hk; subst hk; simp [hM1, into]) | succ k => ((cases k with | zero => (simp at hk; subst hk; simp [hM2]) | succ k => ((cases k with | zero => (simp at hk; subst hk; simp [hM3]) | succ k => ((cases k with | zero => (simp at hk; subst hk; simp [hM4]) | succ k => (simp at hk)))))))))))
  exact callOk_conv q trivial (by simp [into]) (by simp [frameOut, gc.out, into]) (by simp [frameOut, gc.out, into])
 ·cases h

@[simp] def gr.out (_x0 : Tf) (_x1 : Tb) (_x2 : Int) (r : List Tl × Int × Tf) : Out := { av := .tup [.sl (r.1.map Tl.enc) .no, .lit (.int .i64 r.2.1)], M := some [.blk [.ptr 1 0, .ptr 3 0, .lit (.bool r.2.2.ff.fd), .lit (.int .i64 r.2.2.ff.fk), .lit (.int .u16 r.2.2.ff.fW), .lit (.int .i64 r.2.2.ff.fK), .lit (.int .i64 r.2.2.ff.fA), .lit (.bool r.2.2.fh.fd), .lit (.int .i64 r.2.2.fh.fX), .mp 4, .lit (.int .i64 r.2.2.fq), .lit (.int .i64 r.2.2.fo)], .blk [.lit (.int .i64 r.2.2.fa.fb.fk), .lit (.int .i64 r.2.2.fa.fb.fp), .lit (.bool r.2.2.fa.fd), .lit (.int .i64 r.2.2.fa.fg), .mp 2, .lit (.int .i64 r.2.2.fa.fe)], .mapo (encM (kI .i64) (vA Ta.enc) r.2.2.fa.fOf), .blk [.lit (.bool r.2.2.fc.fb.fu), .lit (.int .i64 r.2.2.fc.fb.fw), .lit (.int .i64 r.2.2.fc.fb.fj), .lit (.int .i64 r.2.2.fc.fb.fp), .sl (r.2.2.fc.fv.fj.map Tc.enc) .no, .lit (.int .i64 r.2.2.fc.fy), .lit (.int .i64 r.2.2.fc.fe)], .mapo (encM (kI .i64) (vA Tb.enc) r.2.2.fOf)] }
def gr.fin (x0 : Tf) (x1 : Tb) (x2 : Int) (r : List Tl × Int × Tf) (σ : St) : Prop := finK (gr.out x0 x1 x2 r) [.blk ([.ptr 1 0, .ptr 3 0] ++ x0.ff.enc ++ x0.fh.enc ++ [.mp 4, .lit (.int .i64 x0.fq), .lit (.int .i64 x0.fo)]), .blk (x0.fa.fb.enc ++ [.lit (.bool x0.fa.fd), .lit (.int .i64 x0.fa.fg), .mp 2, .lit (.int .i64 x0.fa.fe)]), .mapo (encM (kI .i64) (vA Ta.enc) x0.fa.fOf), .blk x0.fc.enc, .mapo (encM (kI .i64) (vA Tb.enc) x0.fOf)] σ.M (resA Tryz.ty σ.A σ.M Tryz.f9.results.toList)
theorem gr.can (x0 : Tf) (x1 : Tb) (x2 : Int) (r : List Tl × Int × Tf) (hr : gr x0 x1 x2 = some r) : CallOk Tryz.prog 9 [.ptr 0 0, .agg [.lit (.bool x1.fC), .lit (.int .u8 x1.fac), .lit (.int .u16 x1.ff), .lit (.int .u32 x1.fT), .lit (.int .u32 x1.fad), .sl (x1.fab.map (eNum .u32)) .no, .lit (.bool x1.faf), .lit (.int .u16 x1.fZ), .lit (.string x1.fae), .lit (.string x1.fF), .lit (.int .i64 x1.faa)], .lit (.int .i64 x2)] [.blk ([.ptr 1 0, .ptr 3 0] ++ x0.ff.enc ++ x0.fh.enc ++ [.mp 4, .lit (.int .i64 x0.fq), .lit (.int .i64 x0.fo)]), .blk (x0.fa.fb.enc ++ [.lit (.bool x0.fa.fd), .lit (.int .i64 x0.fa.fg), .mp 2, .lit (.int .i64 x0.fa.fe)]), .mapo (encM (kI .i64) (vA Ta.enc) x0.fa.fOf), .blk x0.fc.enc, .mapo (encM (kI .i64) (vA Tb.enc) x0.fOf)] (gr.out x0 x1 x2 r) := by
 unfold gr at hr
 have hΓ := (gamL_cons ge.ok (gamL_cons gc.ok (gamL_cons gp.ok (gamL_nil))) : GamOk Tryz.prog _)
 refine Le Tryz.tyOk Tryz.func9 rfl (by kernel_rfl) rfl rfl (by simp) ?_
 intro _ _ _
 refine AWp.then ⟨[⟨4, none, .ptr 5 0⟩, ⟨0, none, .ptr 0 0⟩, ⟨2, none, .n x2⟩], [.blk ([.ptr 1 0, .ptr 3 0] ++ x0.ff.enc ++ x0.fh.enc ++ [.mp 4, .n x0.fq, .n x0.fo]), .blk (x0.fa.fb.enc ++ [.b x0.fa.fd, .n x0.fa.fg, .mp 2, .n x0.fa.fe]), .mapo (encM (kI .i64) (vA Ta.enc) x0.fa.fOf), .blk x0.fc.enc, .mapo (encM (kI .i64) (vA Tb.enc) x0.fOf), .blk x1.enc]⟩ (AWp.reg Tryz.tyOk hΓ [4] [1] (by kernel_rfl) rfl (by simp)) ?_
 obtain ⟨r1, h9, hr⟩ := Lb hr
 refine AWp.then ⟨[⟨8, none, .n r1.1⟩, ⟨9, none, .b r1.2.1⟩, ⟨4, none, .ptr 5 0⟩, ⟨0, none, .ptr 0 0⟩, ⟨2, none, .n x2⟩], [.blk ([.ptr 1 0, .ptr 3 0] ++ r1.2.2.ff.enc ++ r1.2.2.fh.enc ++ [.mp 4, .n r1.2.2.fq, .n r1.2.2.fo]), .blk (r1.2.2.fa.fb.enc ++ [.b r1.2.2.fa.fd, .n r1.2.2.fa.fg, .mp 2, .n r1.2.2.fa.fe]), .mapo (encM (kI .i64) (vA Ta.enc) r1.2.2.fa.fOf), .blk r1.2.2.fc.enc, .mapo (encM (kI .i64) (vA Tb.enc) r1.2.2.fOf), .blk x1.enc]⟩ (AWp.regD Tryz.mixed Tryz.tyOk hΓ [8, 9] [] [] [(false, []), (false, []), (false, []), (false, []), (false, []), (true, []), (false, []), (false, []), (false, []), (false, []), (false, [])] (by kernel_rfl) rfl (by simp [h9])) ?_
 refine AWp.seq ?_
 refine AWp.then ⟨[⟨24, none, .b (notB r1.2.1)⟩, ⟨8, none, .n r1.1⟩, ⟨4, none, .ptr 5 0⟩, ⟨0, none, .ptr 0 0⟩, ⟨2, none, .n x2⟩], [.blk ([.ptr 1 0, .ptr 3 0] ++ r1.2.2.ff.enc ++ r1.2.2.fh.enc ++ [.mp 4, .n r1.2.2.fq, .n r1.2.2.fo]), .blk (r1.2.2.fa.fb.enc ++ [.b r1.2.2.fa.fd, .n r1.2.2.fa.fg, .mp 2, .n r1.2.2.fa.fe]), .mapo (encM (kI .i64) (vA Ta.enc) r1.2.2.fa.fOf), .blk r1.2.2.fc.enc, .mapo (encM (kI .i64) (vA Tb.enc) r1.2.2.fOf), .blk x1.enc]⟩ (AWp.reg Tryz.tyOk hΓ [24] [9] (by kernel_rfl) rfl (by simp)) ?_
 refine AWp.cond (b := (notB r1.2.1)) (by simp) (fun h10 => ?_) (fun h10 => ?_)
 ·have hr := Li h10 hr
  refine AWp.then ⟨[], [.blk ([.ptr 1 0, .ptr 3 0] ++ r1.2.2.ff.enc ++ r1.2.2.fh.enc ++ [.mp 4, .n (addI .i64 r1.2.2.fq 1), .n r1.2.2.fo]), .blk (r1.2.2.fa.fb.enc ++ [.b r1.2.2.fa.fd, .n r1.2.2.fa.fg, .mp 2, .n r1.2.2.fa.fe]), .mapo (encM (kI .i64) (vA Ta.enc) r1.2.2.fa.fOf), .blk r1.2.2.fc.enc, .mapo (encM (kI .i64) (vA Tb.enc) r1.2.2.fOf), .blk x1.enc]⟩ (AWp.reg Tryz.tyOk hΓ [] [24, 8, 4, 0, 2] (by kernel_rfl) rfl (by simp [h10])) ?_
  refine AWp.thenA [⟨6, none, .sl [] .full⟩, ⟨7, none, .n 13⟩] (AWp.reg Tryz.tyOk hΓ [6, 7] [] (by kernel_rfl) rfl (by simp)) ?_
  refine AWp.ret ?_
  obtain rfl := La hr
  refine Lf ?_
  simp
 ·have hr := Lj h10 hr
  refine AWp.skip ?_
  refine AWp.meetF (fun (v1 : Tb) (γ1 : Unit) => ⟨[⟨8, none, .n r1.1⟩, ⟨4, none, .ptr 5 0⟩, ⟨0, none, .ptr 0 0⟩, ⟨2, none, .n x2⟩], [.blk ([.ptr 1 0, .ptr 3 0] ++ r1.2.2.ff.enc ++ r1.2.2.fh.enc ++ [.mp 4, .n r1.2.2.fq, .n r1.2.2.fo]), .blk (r1.2.2.fa.fb.enc ++ [.b r1.2.2.fa.fd, .n r1.2.2.fa.fg, .mp 2, .n r1.2.2.fa.fe]), .mapo (encM (kI .i64) (vA Ta.enc) r1.2.2.fa.fOf), .blk r1.2.2.fc.enc, .mapo (encM (kI .i64) (vA Tb.enc) r1.2.2.fOf), .blk v1.enc]⟩) (gr.fin x0 x1 x2) hr (fun f hr => ?_) (fun v1 γ1 hr => ?_) (fun _ h => h)
  ·refine AWp.then ⟨[⟨34, none, .b (eqS x1.fF ⟨#[]⟩)⟩, ⟨8, none, .n r1.1⟩, ⟨4, none, .ptr 5 0⟩, ⟨0, none, .ptr 0 0⟩, ⟨2, none, .n x2⟩], [.blk ([.ptr 1 0, .ptr 3 0] ++ r1.2.2.ff.enc ++ r1.2.2.fh.enc ++ [.mp 4, .n r1.2.2.fq, .n r1.2.2.fo]), .blk (r1.2.2.fa.fb.enc ++ [.b r1.2.2.fa.fd, .n r1.2.2.fa.fg, .mp 2, .n r1.2.2.fa.fe]), .mapo (encM (kI .i64) (vA Ta.enc) r1.2.2.fa.fOf), .blk r1.2.2.fc.enc, .mapo (encM (kI .i64) (vA Tb.enc) r1.2.2.fOf), .blk x1.enc]⟩ (AWp.reg Tryz.tyOk hΓ [34] [24] (by kernel_rfl) rfl (by simp [h10])) ?_
   refine AWp.cond (b := (eqS x1.fF ⟨#[]⟩)) (by simp) (fun h11 => ?_) (fun h11 => ?_)
   ·have hr := Li h11 hr
    refine AWp.last ⟨[⟨8, none, .n r1.1⟩, ⟨4, none, .ptr 5 0⟩, ⟨0, none, .ptr 0 0⟩, ⟨2, none, .n x2⟩], [.blk ([.ptr 1 0, .ptr 3 0] ++ r1.2.2.ff.enc ++ r1.2.2.fh.enc ++ [.mp 4, .n r1.2.2.fq, .n r1.2.2.fo]), .blk (r1.2.2.fa.fb.enc ++ [.b r1.2.2.fa.fd, .n r1.2.2.fa.fg, .mp 2, .n r1.2.2.fa.fe]), .mapo (encM (kI .i64) (vA Ta.enc) r1.2.2.fa.fOf), .blk r1.2.2.fc.enc, .mapo (encM (kI .i64) (vA Tb.enc) r1.2.2.fOf), .blk [.b false, .lit (.int .u8 x1.fac), .lit (.int .u16 x1.ff), .lit (.int .u32 x1.fT), .lit (.int .u32 x1.fad), .sl (x1.fab.map (eNum .u32)) .no, .b x1.faf, .lit (.int .u16 x1.fZ), .s x1.fae, .s x1.fF, .n x1.faa]]⟩ (AWp.reg Tryz.tyOk hΓ [] [34] (by kernel_rfl) rfl (by simp [h11])) ?_
    obtain rfl := La hr
    exact Ll () 6 (by first | (simp; done) | simp [h9, h10, h11])
   ·have hr := Lj h11 hr
    refine AWp.skip ?_
    obtain rfl := La hr
    exact Ll () 6 (by first | (simp; done) | simp [h9, h10, h11])
  ·refine AWp.meetF (fun (v2 : (List (Int × Tb))) (γ2 : Unit) => ⟨[⟨8, none, .n r1.1⟩, ⟨0, none, .ptr 0 0⟩, ⟨2, none, .n x2⟩], [.blk ([.ptr 1 0, .ptr 3 0] ++ r1.2.2.ff.enc ++ r1.2.2.fh.enc ++ [.mp 4, .n r1.2.2.fq, .n r1.2.2.fo]), .blk (r1.2.2.fa.fb.enc ++ [.b r1.2.2.fa.fd, .n r1.2.2.fa.fg, .mp 2, .n r1.2.2.fa.fe]), .mapo (encM (kI .i64) (vA Ta.enc) r1.2.2.fa.fOf), .blk r1.2.2.fc.enc, .mapo (encM (kI .i64) (vA Tb.enc) v2), .blk v1.enc]⟩) (gr.fin x0 x1 x2) hr (fun f hr => ?_) (fun v2 γ2 hr => ?_) (fun _ h => h)
   ·refine AWp.then ⟨[⟨11, none, .b (hasM eqI r1.1 r1.2.2.fOf)⟩, ⟨8, none, .n r1.1⟩, ⟨4, none, .ptr 5 0⟩, ⟨0, none, .ptr 0 0⟩, ⟨2, none, .n x2⟩], [.blk ([.ptr 1 0, .ptr 3 0] ++ r1.2.2.ff.enc ++ r1.2.2.fh.enc ++ [.mp 4, .n r1.2.2.fq, .n r1.2.2.fo]), .blk (r1.2.2.fa.fb.enc ++ [.b r1.2.2.fa.fd, .n r1.2.2.fa.fg, .mp 2, .n r1.2.2.fa.fe]), .mapo (encM (kI .i64) (vA Ta.enc) r1.2.2.fa.fOf), .blk r1.2.2.fc.enc, .mapo (encM (kI .i64) (vA Tb.enc) r1.2.2.fOf), .blk v1.enc, .blk (getM eqI r1.1 (Tb.mk false 0 0 0 0 [] false 0 ⟨⟨[]⟩⟩ ⟨⟨[]⟩⟩ 0) r1.2.2.fOf).enc]⟩ (AWp.reg Tryz.tyOk hΓ [11] [] (by kernel_rfl) rfl (by simp)) ?_
    refine AWp.thenA [⟨46, none, .b (notB (hasM eqI r1.1 r1.2.2.fOf))⟩, ⟨8, none, .n r1.1⟩, ⟨4, none, .ptr 5 0⟩, ⟨0, none, .ptr 0 0⟩, ⟨2, none, .n x2⟩] (AWp.reg Tryz.tyOk hΓ [46] [11] (by kernel_rfl) rfl (by simp)) ?_
    refine AWp.cond (b := (notB (hasM eqI r1.1 r1.2.2.fOf))) (by simp) (fun h12 => ?_) (fun h12 => ?_)
    ·have hr := Li h12 hr
     refine AWp.last ⟨[⟨8, none, .n r1.1⟩, ⟨0, none, .ptr 0 0⟩, ⟨2, none, .n x2⟩], [.blk ([.ptr 1 0, .ptr 3 0] ++ r1.2.2.ff.enc ++ r1.2.2.fh.enc ++ [.mp 4, .n r1.2.2.fq, .n r1.2.2.fo]), .blk (r1.2.2.fa.fb.enc ++ [.b r1.2.2.fa.fd, .n r1.2.2.fa.fg, .mp 2, .n r1.2.2.fa.fe]), .mapo (encM (kI .i64) (vA Ta.enc) r1.2.2.fa.fOf), .blk r1.2.2.fc.enc, .mapo (encM (kI .i64) (vA Tb.enc) (setM eqI r1.1 v1 r1.2.2.fOf)), .blk v1.enc, .blk (getM eqI r1.1 (Tb.mk false 0 0 0 0 [] false 0 ⟨⟨[]⟩⟩ ⟨⟨[]⟩⟩ 0) r1.2.2.fOf).enc]⟩ (AWp.regD Tryz.mixed Tryz.tyOk hΓ [] [46, 4] [] [(false, []), (false, []), (false, []), (false, []), (false, []), (false, []), (true, [])] (by kernel_rfl) rfl (by simp [h12])) ?_
     obtain rfl := La hr
     exact Ll () 6 (by first | (simp; done) | simp [h9, h10, h12])
    ·have hr := Lj h12 hr
     refine AWp.skip ?_
     obtain rfl := La hr
     exact Ll () 6 (by first | (simp; done) | simp [h9, h10, h12])
   ·obtain ⟨r2, h13, hr⟩ := Lb hr
    refine AWp.then ⟨[⟨12, none, .sl (r2.1.map Ta.enc) .no⟩, ⟨13, none, .n r2.2.1⟩, ⟨8, none, .n r1.1⟩, ⟨0, none, .ptr 0 0⟩], [.blk ([.ptr 1 0, .ptr 3 0] ++ r1.2.2.ff.enc ++ r1.2.2.fh.enc ++ [.mp 4, .n r1.2.2.fq, .n r1.2.2.fo]), .blk (r2.2.2.fb.enc ++ [.b r2.2.2.fd, .n r2.2.2.fg, .mp 2, .n r2.2.2.fe]), .mapo (encM (kI .i64) (vA Ta.enc) r2.2.2.fOf), .blk r1.2.2.fc.enc, .mapo (encM (kI .i64) (vA Tb.enc) v2), .blk v1.enc]⟩ (AWp.reg Tryz.tyOk hΓ [12, 13] [2] (by kernel_rfl) rfl (by simp [h13])) ?_
    refine AWp.seq ?_
    refine AWp.then ⟨[⟨65, none, .b (neI r2.2.1 0)⟩, ⟨12, none, .sl (r2.1.map Ta.enc) .no⟩, ⟨13, none, .n r2.2.1⟩, ⟨8, none, .n r1.1⟩, ⟨0, none, .ptr 0 0⟩], [.blk ([.ptr 1 0, .ptr 3 0] ++ r1.2.2.ff.enc ++ r1.2.2.fh.enc ++ [.mp 4, .n r1.2.2.fq, .n r1.2.2.fo]), .blk (r2.2.2.fb.enc ++ [.b r2.2.2.fd, .n r2.2.2.fg, .mp 2, .n r2.2.2.fe]), .mapo (encM (kI .i64) (vA Ta.enc) r2.2.2.fOf), .blk r1.2.2.fc.enc, .mapo (encM (kI .i64) (vA Tb.enc) v2), .blk v1.enc]⟩ (AWp.reg Tryz.tyOk hΓ [65] [] (by kernel_rfl) rfl (by simp)) ?_
    refine AWp.cond (b := (neI r2.2.1 0)) (by simp) (fun h14 => ?_) (fun h14 => ?_)
    ·have hr := Li h14 hr
     refine AWp.then ⟨[⟨13, none, .n r2.2.1⟩, ⟨8, none, .n r1.1⟩, ⟨0, none, .ptr 0 0⟩], [.blk ([.ptr 1 0, .ptr 3 0] ++ r1.2.2.ff.enc ++ r1.2.2.fh.enc ++ [.mp 4, .n (addI .i64 r1.2.2.fq 1), .n r1.2.2.fo]), .blk (r2.2.2.fb.enc ++ [.b r2.2.2.fd, .n r2.2.2.fg, .mp 2, .n r2.2.2.fe]), .mapo (encM (kI .i64) (vA Ta.enc) r2.2.2.fOf), .blk r1.2.2.fc.enc, .mapo (encM (kI .i64) (vA Tb.enc) v2), .blk v1.enc]⟩ (AWp.reg Tryz.tyOk hΓ [] [65, 12] (by kernel_rfl) rfl (by simp [h14])) ?_
     refine AWp.meetF (fun (v3 : (List (Int × Tb))) (γ3 : Unit) => ⟨[⟨13, none, .n r2.2.1⟩], [.blk ([.ptr 1 0, .ptr 3 0] ++ r1.2.2.ff.enc ++ r1.2.2.fh.enc ++ [.mp 4, .n (addI .i64 r1.2.2.fq 1), .n r1.2.2.fo]), .blk (r2.2.2.fb.enc ++ [.b r2.2.2.fd, .n r2.2.2.fg, .mp 2, .n r2.2.2.fe]), .mapo (encM (kI .i64) (vA Ta.enc) r2.2.2.fOf), .blk r1.2.2.fc.enc, .mapo (encM (kI .i64) (vA Tb.enc) v3), .blk v1.enc]⟩) (gr.fin x0 x1 x2) hr (fun f hr => ?_) (fun v3 γ3 hr => ?_) (fun _ h => h)
     ·refine AWp.then ⟨[⟨74, none, .b (eqI r2.2.1 13)⟩, ⟨13, none, .n r2.2.1⟩, ⟨8, none, .n r1.1⟩, ⟨0, none, .ptr 0 0⟩], [.blk ([.ptr 1 0, .ptr 3 0] ++ r1.2.2.ff.enc ++ r1.2.2.fh.enc ++ [.mp 4, .n (addI .i64 r1.2.2.fq 1), .n r1.2.2.fo]), .blk (r2.2.2.fb.enc ++ [.b r2.2.2.fd, .n r2.2.2.fg, .mp 2, .n r2.2.2.fe]), .mapo (encM (kI .i64) (vA Ta.enc) r2.2.2.fOf), .blk r1.2.2.fc.enc, .mapo (encM (kI .i64) (vA Tb.enc) v2), .blk v1.enc]⟩ (AWp.reg Tryz.tyOk hΓ [74] [] (by kernel_rfl) rfl (by simp)) ?_
      refine AWp.cond (b := (eqI r2.2.1 13)) (by simp) (fun h15 => ?_) (fun h15 => ?_)
      ·have hr := Li h15 hr
       refine AWp.last ⟨[⟨13, none, .n r2.2.1⟩], [.blk ([.ptr 1 0, .ptr 3 0] ++ r1.2.2.ff.enc ++ r1.2.2.fh.enc ++ [.mp 4, .n (addI .i64 r1.2.2.fq 1), .n r1.2.2.fo]), .blk (r2.2.2.fb.enc ++ [.b r2.2.2.fd, .n r2.2.2.fg, .mp 2, .n r2.2.2.fe]), .mapo (encM (kI .i64) (vA Ta.enc) r2.2.2.fOf), .blk r1.2.2.fc.enc, .mapo (encM (kI .i64) (vA Tb.enc) (delM eqI r1.1 v2)), .blk v1.enc]⟩ (AWp.reg Tryz.tyOk hΓ [] [74, 8, 0] (by kernel_rfl) rfl (by simp [h15])) ?_
       obtain rfl := La hr
       exact Ll () 6 (by first | (simp; done) | simp [h9, h10, h13, h14, h15])
      ·have hr := Lj h15 hr
       refine AWp.skip ?_
       obtain rfl := La hr
       exact Ll () 6 (by first | (simp; done) | simp [h9, h10, h13, h14, h15])
     ·refine AWp.then ⟨[⟨6, none, .sl [] .full⟩, ⟨7, none, .n r2.2.1⟩], [.blk ([.ptr 1 0, .ptr 3 0] ++ r1.2.2.ff.enc ++ r1.2.2.fh.enc ++ [.mp 4, .n (addI .i64 r1.2.2.fq 1), .n r1.2.2.fo]), .blk (r2.2.2.fb.enc ++ [.b r2.2.2.fd, .n r2.2.2.fg, .mp 2, .n r2.2.2.fe]), .mapo (encM (kI .i64) (vA Ta.enc) r2.2.2.fOf), .blk r1.2.2.fc.enc, .mapo (encM (kI .i64) (vA Tb.enc) v3), .blk v1.enc]⟩ (AWp.reg Tryz.tyOk hΓ [6, 7] [13] (by kernel_rfl) rfl (by simp)) ?_
      refine AWp.ret ?_
      obtain rfl := La hr
      refine Lf ?_
      simp
    ·have hr := Lj h14 hr
     refine AWp.skip ?_
     obtain ⟨r3, h16, hr⟩ := Lb hr
     refine AWp.then ⟨[⟨6, none, .sl (r3.1.map Tl.enc) .no⟩, ⟨7, none, .n 0⟩], [.blk ([.ptr 1 0, .ptr 3 0] ++ r3.2.ff.enc ++ r3.2.fh.enc ++ [.mp 4, .n r3.2.fq, .n r3.2.fo]), .blk (r3.2.fa.fb.enc ++ [.b r3.2.fa.fd, .n r3.2.fa.fg, .mp 2, .n r3.2.fa.fe]), .mapo (encM (kI .i64) (vA Ta.enc) r3.2.fa.fOf), .blk r3.2.fc.enc, .mapo (encM (kI .i64) (vA Tb.enc) r3.2.fOf), .blk v1.enc]⟩ (AWp.reg Tryz.tyOk hΓ [6, 7] [65, 12, 13, 8, 0] (by kernel_rfl) rfl (by simp [h14, h16])) ?_
     refine AWp.ret ?_
     obtain rfl := La hr
     refine Lf ?_
     simp

@[simp] noncomputable def gr.S : Sp
 | [.ptr i0 0, .agg e1, .lit (.int .i64 x2)], M => match M[i0]? with
  | some (.blk c0) => (match nthE c0 0 with
  | some (.ptr i1 0) => (match M[i1]? with
  | some (.blk c1) => (match nthE c1 4 with
  | some (.mp i2) => (match M[i2]? with
  | some (.mapo c2) => (match nthE c0 1 with
  | some (.ptr i3 0) => (match M[i3]? with
  | some (.blk c3) => (match nthE c0 9 with
  | some (.mp i4) => (match M[i4]? with
  | some (.mapo c4) => (fun (y0 : Tf) => (fun (y1 : Tb) => (fun (r : List Tl × Int × Tf) => some { av := .tup [.sl ((r.1).map Tl.enc) .no, .lit (.int .i64 (r.2.1))], M := some (((((M.set i0 (.blk [.ptr i1 0, .ptr i3 0, .lit (.bool (r.2.2.ff.fd)), .lit (.int .i64 (r.2.2.ff.fk)), .lit (.int .u16 (r.2.2.ff.fW)), .lit (.int .i64 (r.2.2.ff.fK)), .lit (.int .i64 (r.2.2.ff.fA)), .lit (.bool (r.2.2.fh.fd)), .lit (.int .i64 (r.2.2.fh.fX)), .mp i4, .lit (.int .i64 (r.2.2.fq)), .lit (.int .i64 (r.2.2.fo))])).set i1 (.blk [.lit (.int .i64 (r.2.2.fa.fb.fk)), .lit (.int .i64 (r.2.2.fa.fb.fp)), .lit (.bool (r.2.2.fa.fd)), .lit (.int .i64 (r.2.2.fa.fg)), .mp i2, .lit (.int .i64 (r.2.2.fa.fe))])).set i2 (.mapo (encM (kI .i64) (vA Ta.enc) (r.2.2.fa.fOf)))).set i3 (.blk [.lit (.bool (r.2.2.fc.fb.fu)), .lit (.int .i64 (r.2.2.fc.fb.fw)), .lit (.int .i64 (r.2.2.fc.fb.fj)), .lit (.int .i64 (r.2.2.fc.fb.fp)), .sl ((r.2.2.fc.fv.fj).map Tc.enc) .no, .lit (.int .i64 (r.2.2.fc.fy)), .lit (.int .i64 (r.2.2.fc.fe))])).set i4 (.mapo (encM (kI .i64) (vA Tb.enc) (r.2.2.fOf)))), obl := WeakL e1 (Tb.enc y1) ∧ c0 = Tf.enc y0 i1 i3 i4 ∧ c1 = Th.enc (y0.fa) i2 ∧ c2 = encM (kI .i64) (vA Ta.enc) (y0.fa.fOf) ∧ c3 = Tn.enc (y0.fc) ∧ c4 = encM (kI .i64) (vA Tb.enc) (y0.fOf) ∧ (gr y0 y1 x2).isSome = true ∧ i0 ≠ i1 ∧ i0 ≠ i2 ∧ i0 ≠ i3 ∧ i0 ≠ i4 ∧ i1 ≠ i2 ∧ i1 ≠ i3 ∧ i1 ≠ i4 ∧ i2 ≠ i3 ∧ i2 ≠ i4 ∧ i3 ≠ i4 }) ((gr y0 y1 x2).getD dflt)) (Tb.dec e1)) (Tf.dec c0 (Th.dec c1 (decM dkI (dvA Ta.dec) c2)) (Tn.dec c3) (decM dkI (dvA Tb.dec) c4))
  | _ => none)
  | _ => none)
  | _ => none)
  | _ => none)
  | _ => none)
  | _ => none)
  | _ => none)
  | _ => none)
  | _ => none
 | _, _ => none

theorem gr.ok : SpecOk Tryz.prog 9 gr.S := by
 intro l M out h
 unfold gr.S at h
 split at h
 ·rename_i i0 e1 x2
  split at h
  case h_2 => cases h
  rename_i c0 hM0
  split at h
  case h_2 => cases h
  rename_i i1 he1
  split at h
  case h_2 => cases h
  rename_i c1 hM1
  split at h
  case h_2 => cases h
  rename_i i2 he2
  split at h
  case h_2 => cases h
  rename_i c2 hM2
  split at h
  case h_2 => cases h
  rename_i i3 he3
  split at h
  case h_2 => cases h
  rename_i c3 hM3
  split at h
  case h_2 => cases h
  rename_i i4 he4
  split at h
  case h_2 => cases h
  rename_i c4 hM4
  try dsimp only at h
  cases h
  refine callOk_of fun ho => ?_
  obtain ⟨ox1, oc0, oc1, oc2, oc3, oc4, hs, hne0, hne1, hne2, hne3, hne4, hne5, hne6, hne7, hne8, hne9⟩ := ho
  generalize (Tf.dec c0 (Th.dec c1 (decM dkI (dvA Ta.dec) c2)) (Tn.dec c3) (decM dkI (dvA Tb.dec) c4)) = y0 at *
  generalize (Tb.dec e1) = x1 at *
  subst oc0
  subst oc1
  subst oc2
  subst oc3
  subst oc4
  obtain ⟨r, hr⟩ := Option.isSome_iff_exists.1 hs
  simp only [hr, Option.getD_some]
  have q := Lg (M := M) [i0, i1, i2, i3, i4] (gr.can y0 x1 x2 r hr) (by simp [hne0, hne1, hne2, hne3, hne4, hne5, hne6, hne7, hne8, hne9]) rfl (by intro k i hk; (cases k with | zero => (simp at hk; subst hk; simp [hM0, into]) | succ k => ((cases k with | zero => (simp at hk; subst hk; simp [hM1, into]) | succ k => ((cases k with | zero => (simp at hk; subst hk; simp [hM2]) | succ k => ((cases k with | zero => (simp at hk; subst hk; simp [hM3]) | succ k => ((cases k with | zero => (simp at hk; subst hk; simp [hM4]) | succ k => (simp at hk)))))))))))
  exact callOk_conv q trivial (by simp [into]; exact ox1) (by simp [frameOut, gr.out, into]) (by simp [frameOut, gr.out, into])
 ·cases h

@[simp] def gL.out (_x0 : Tf) (_x1 : Int) (r : List Tl × Tf) : Out := { av := .sl (r.1.map Tl.enc) .no, M := some [.blk [.ptr 1 0, .ptr 3 0, .lit (.bool r.2.ff.fd), .lit (.int .i64 r.2.ff.fk), .lit (.int .u16 r.2.ff.fW), .lit (.int .i64 r.2.ff.fK), .lit (.int .i64 r.2.ff.fA), .lit (.bool r.2.fh.fd), .lit (.int .i64 r.2.fh.fX), .mp 4, .lit (.int .i64 r.2.fq), .lit (.int .i64 r.2.fo)], .blk [.lit (.int .i64 r.2.fa.fb.fk), .lit (.int .i64 r.2.fa.fb.fp), .lit (.bool r.2.fa.fd), .lit (.int .i64 r.2.fa.fg), .mp 2, .lit (.int .i64 r.2.fa.fe)], .mapo (encM (kI .i64) (vA Ta.enc) r.2.fa.fOf), .blk [.lit (.bool r.2.fc.fb.fu), .lit (.int .i64 r.2.fc.fb.fw), .lit (.int .i64 r.2.fc.fb.fj), .lit (.int .i64 r.2.fc.fb.fp), .sl (r.2.fc.fv.fj.map Tc.enc) .no, .lit (.int .i64 r.2.fc.fy), .lit (.int .i64 r.2.fc.fe)], .mapo (encM (kI .i64) (vA Tb.enc) r.2.fOf)] }
theorem gL.can (x0 : Tf) (x1 : Int) (r : List Tl × Tf) (hr : gL x0 x1 = some r) : CallOk Tryz.prog 12 [.ptr 0 0, .lit (.int .i64 x1)] [.blk ([.ptr 1 0, .ptr 3 0] ++ x0.ff.enc ++ x0.fh.enc ++ [.mp 4, .lit (.int .i64 x0.fq), .lit (.int .i64 x0.fo)]), .blk (x0.fa.fb.enc ++ [.lit (.bool x0.fa.fd), .lit (.int .i64 x0.fa.fg), .mp 2, .lit (.int .i64 x0.fa.fe)]), .mapo (encM (kI .i64) (vA Ta.enc) x0.fa.fOf), .blk x0.fc.enc, .mapo (encM (kI .i64) (vA Tb.enc) x0.fOf)] (gL.out x0 x1 r) := by
 unfold gL at hr
 have hΓ := (gamL_cons gY.ok (gamL_cons gc.ok (gamL_cons gm.ok (gamL_nil))) : GamOk Tryz.prog _)
 refine Le Tryz.tyOk Tryz.func12 rfl (by kernel_rfl) rfl rfl (by simp) ?_
 intro _ _ _
 refine AWp.then ⟨[⟨0, none, .ptr 0 0⟩, ⟨1, none, .n x1⟩], [.blk ([.ptr 1 0, .ptr 3 0] ++ x0.ff.enc ++ x0.fh.enc ++ [.mp 4, .n x0.fq, .n x0.fo]), .blk (x0.fa.fb.enc ++ [.b x0.fa.fd, .n x0.fa.fg, .mp 2, .n x0.fa.fe]), .mapo (encM (kI .i64) (vA Ta.enc) x0.fa.fOf), .blk x0.fc.enc, .mapo (encM (kI .i64) (vA Tb.enc) x0.fOf)]⟩ (AWp.reg Tryz.tyOk hΓ [] [] (by kernel_rfl) rfl (by simp)) ?_
 obtain ⟨r1, h4, hr⟩ := Lb hr
 obtain ⟨r2, h5, hr⟩ := Lb hr
 refine AWp.then ⟨[⟨5, none, .sl (r2.1.map Tl.enc) .no⟩, ⟨0, none, .ptr 0 0⟩, ⟨1, none, .n x1⟩], [.blk ([.ptr 1 0, .ptr 3 0] ++ r2.2.ff.enc ++ r2.2.fh.enc ++ [.mp 4, .n r2.2.fq, .n r2.2.fo]), .blk (r2.2.fa.fb.enc ++ [.b r2.2.fa.fd, .n r2.2.fa.fg, .mp 2, .n r2.2.fa.fe]), .mapo (encM (kI .i64) (vA Ta.enc) r2.2.fa.fOf), .blk r2.2.fc.enc, .mapo (encM (kI .i64) (vA Tb.enc) r2.2.fOf)]⟩ (AWp.reg Tryz.tyOk hΓ [5] [] (by kernel_rfl) rfl (by simp [h4, h5])) ?_
 obtain ⟨r3, h6, hr⟩ := Lb hr
 refine AWp.then ⟨[⟨5, none, .sl (r2.1.map Tl.enc) .no⟩], [.blk ([.ptr 1 0, .ptr 3 0] ++ r2.2.ff.enc ++ r2.2.fh.enc ++ [.mp 4, .n r2.2.fq, .n r2.2.fo]), .blk (r2.2.fa.fb.enc ++ [.b r2.2.fa.fd, .n r2.2.fa.fg, .mp 2, .n r2.2.fa.fe]), .mapo (encM (kI .i64) (vA Ta.enc) r2.2.fa.fOf), .blk r3.2.enc, .mapo (encM (kI .i64) (vA Tb.enc) r2.2.fOf)]⟩ (AWp.reg Tryz.tyOk hΓ [] [0, 1] (by kernel_rfl) rfl (by simp [h6])) ?_
 refine AWp.thenA [⟨4, none, .sl (r2.1.map Tl.enc) .no⟩] (AWp.reg Tryz.tyOk hΓ [4] [5] (by kernel_rfl) rfl (by simp)) ?_
 refine AWp.ret ?_
 obtain rfl := La hr
 refine Lf ?_
 simp

@[simp] noncomputable def gL.S : Sp
 | [.ptr i0 0, .lit (.int .i64 x1)], M => match M[i0]? with
  | some (.blk c0) => (match nthE c0 0 with
  | some (.ptr i1 0) => (match M[i1]? with
  | some (.blk c1) => (match nthE c1 4 with
  | some (.mp i2) => (match M[i2]? with
  | some (.mapo c2) => (match nthE c0 1 with
  | some (.ptr i3 0) => (match M[i3]? with
  | some (.blk c3) => (match nthE c0 9 with
  | some (.mp i4) => (match M[i4]? with
  | some (.mapo c4) => (fun (y0 : Tf) => (fun (r : List Tl × Tf) => some { av := .sl ((r.1).map Tl.enc) .no, M := some (((((M.set i0 (.blk [.ptr i1 0, .ptr i3 0, .lit (.bool (r.2.ff.fd)), .lit (.int .i64 (r.2.ff.fk)), .lit (.int .u16 (r.2.ff.fW)), .lit (.int .i64 (r.2.ff.fK)), .lit (.int .i64 (r.2.ff.fA)), .lit (.bool (r.2.fh.fd)), .lit (.int .i64 (r.2.fh.fX)), .mp i4, .lit (.int .i64 (r.2.fq)), .lit (.int .i64 (r.2.fo))])).set i1 (.blk [.lit (.int .i64 (r.2.fa.fb.fk)), .lit (.int .i64 (r.2.fa.fb.fp)), .lit (.bool (r.2.fa.fd)), .lit (.int .i64 (r.2.fa.fg)), .mp i2, .lit (.int .i64 (r.2.fa.fe))])).set i2 (.mapo (encM (kI .i64) (vA Ta.enc) (r.2.fa.fOf)))).set i3 (.blk [.lit (.bool (r.2.fc.fb.fu)), .lit (.int .i64 (r.2.fc.fb.fw)), .lit (.int .i64 (r.2.fc.fb.fj)), .lit (.int .i64 (r.2.fc.fb.fp)), .sl ((r.2.fc.fv.fj).map Tc.enc) .no, .lit (.int .i64 (r.2.fc.fy)), .lit (.int .i64 (r.2.fc.fe))])).set i4 (.mapo (encM (kI .i64) (vA Tb.enc) (r.2.fOf)))), obl := c0 = Tf.enc y0 i1 i3 i4 ∧ c1 = Th.enc (y0.fa) i2 ∧ c2 = encM (kI .i64) (vA Ta.enc) (y0.fa.fOf) ∧ c3 = Tn.enc (y0.fc) ∧ c4 = encM (kI .i64) (vA Tb.enc) (y0.fOf) ∧ (gL y0 x1).isSome = true ∧ i0 ≠ i1 ∧ i0 ≠ i2 ∧ i0 ≠ i3 ∧ i0 ≠ i4 ∧ i1 ≠ i2 ∧ i1 ≠ i3 ∧ i1 ≠ i4 ∧ i2 ≠ i3 ∧ i2 ≠ i4 ∧ i3 ≠ i4 }) ((gL y0 x1).getD dflt)) (Tf.dec c0 (Th.dec c1 (decM dkI (dvA Ta.dec) c2)) (Tn.dec c3) (decM dkI (dvA Tb.dec) c4))
  | _ => none)
  | _ => none)
  | _ => none)
  | _ => none)
  | _ => none)
  | _ => none)
  | _ => none)
  | _ => none)
  | _ => none
 | _, _ => none

theorem gL.ok : SpecOk Tryz.prog 12 gL.S := by
 intro l M out h
 unfold gL.S at h
 split at h
 ·rename_i i0 x1
  split at h
  case h_2 => cases h
  rename_i c0 hM0
  split at h
  case h_2 => cases h
  rename_i i1 he1
  split at h
  case h_2 => cases h
  rename_i c1 hM1
  split at h
  case h_2 => cases h
  rename_i i2 he2
  split at h
  case h_2 => cases h
  rename_i c2 hM2
  split at h
  case h_2 => cases h
  rename_i i3 he3
  split at h
  case h_2 => cases h
  rename_i c3 hM3
  split at h
  case h_2 => cases h
  rename_i i4 he4
  split at h
  case h_2 => cases h
  rename_i c4 hM4
  try dsimp only at h
  cases h
  refine callOk_of fun ho => ?_
  obtain ⟨oc0, oc1, oc2, oc3, oc4, hs, hne0, hne1, hne2, hne3, hne4, hne5, hne6, hne7, hne8, hne9⟩ := ho
  generalize (Tf.dec c0 (Th.dec c1 (decM dkI (dvA Ta.dec) c2)) (Tn.dec c3) (decM dkI (dvA Tb.dec) c4)) = y0 at *
  subst oc0
  subst oc1
  subst oc2
  subst oc3
  subst oc4
  obtain ⟨r, hr⟩ := Option.isSome_iff_exists.1 hs
  simp only [hr, Option.getD_some]
  have q := Lg (M := M) [i0, i1, i2, i3, i4] (gL.can y0 x1 r hr) (by simp [hne0, hne1, hne2, hne3, hne4, hne5, hne6, hne7, hne8, hne9]) rfl (by intro k i hk; (cases k with | zero => (simp at hk; subst hk; simp [hM0, into]) | succ k => ((cases k with | zero => (simp at hk; subst hk; simp [hM1, into]) | succ k => ((cases k with | zero => (simp at hk; subst hk; simp [hM2]) | succ k => ((cases k with | zero => (simp at hk; subst hk; simp [hM3]) | succ k => ((cases k with | zero => (simp at hk; subst hk; simp [hM4]) | succ k => (simp at hk)))))))))))
  exact callOk_conv q trivial (by simp [into]) (by simp [frameOut, gL.out, into]) (by simp [frameOut, gL.out, into])
 ·cases h

@[simp] def gj.out (_x0 : Tf) (_x1 : Int) (r : List Int) : Out := { av := .sl (r.map (eNum .u16)) .no, M := none }
def gj.fin (x0 : Tf) (x1 : Int) (r : List Int) (σ : St) : Prop := finK (gj.out x0 x1 r) [.blk ([.ptr 1 0, .ptr 3 0] ++ x0.ff.enc ++ x0.fh.enc ++ [.mp 4, .lit (.int .i64 x0.fq), .lit (.int .i64 x0.fo)]), .blk (x0.fa.fb.enc ++ [.lit (.bool x0.fa.fd), .lit (.int .i64 x0.fa.fg), .mp 2, .lit (.int .i64 x0.fa.fe)]), .mapo (encM (kI .i64) (vA Ta.enc) x0.fa.fOf), .blk x0.fc.enc, .mapo (encM (kI .i64) (vA Tb.enc) x0.fOf)] σ.M (resA Tryz.ty σ.A σ.M Tryz.f15.results.toList)
theorem gj.can (x0 : Tf) (x1 : Int) (r : List Int) (hr : gj x0 x1 = some r) : CallOk Tryz.prog 15 [.ptr 0 0, .lit (.int .i64 x1)] [.blk ([.ptr 1 0, .ptr 3 0] ++ x0.ff.enc ++ x0.fh.enc ++ [.mp 4, .lit (.int .i64 x0.fq), .lit (.int .i64 x0.fo)]), .blk (x0.fa.fb.enc ++ [.lit (.bool x0.fa.fd), .lit (.int .i64 x0.fa.fg), .mp 2, .lit (.int .i64 x0.fa.fe)]), .mapo (encM (kI .i64) (vA Ta.enc) x0.fa.fOf), .blk x0.fc.enc, .mapo (encM (kI .i64) (vA Tb.enc) x0.fOf)] (gj.out x0 x1 r) := by
 unfold gj at hr
 have hΓ := (gamL_cons ga.ok (gamL_cons gy.ok (gamL_nil)) : GamOk Tryz.prog _)
 refine Le Tryz.tyOk Tryz.func15 rfl (by kernel_rfl) rfl rfl (by simp) ?_
 intro _ _ _
 refine AWp.then ⟨[⟨0, none, .ptr 0 0⟩, ⟨1, none, .n x1⟩], [.blk ([.ptr 1 0, .ptr 3 0] ++ x0.ff.enc ++ x0.fh.enc ++ [.mp 4, .n x0.fq, .n x0.fo]), .blk (x0.fa.fb.enc ++ [.b x0.fa.fd, .n x0.fa.fg, .mp 2, .n x0.fa.fe]), .mapo (encM (kI .i64) (vA Ta.enc) x0.fa.fOf), .blk x0.fc.enc, .mapo (encM (kI .i64) (vA Tb.enc) x0.fOf)]⟩ (AWp.reg Tryz.tyOk hΓ [] [] (by kernel_rfl) rfl (by simp)) ?_
 refine AWp.thenA [⟨5, none, .sl [] .full⟩, ⟨0, none, .ptr 0 0⟩, ⟨1, none, .n x1⟩] (AWp.reg Tryz.tyOk hΓ [5] [] (by kernel_rfl) rfl (by simp)) ?_
 refine AWp.seq ?_
 obtain ⟨r1, h6, hr⟩ := Lb hr
 refine AWp.then ⟨[⟨13, none, .sl (r1.map (eNum .i64)) .no⟩, ⟨14, none, .n (lenL r1)⟩, ⟨15, none, .n 0⟩, ⟨5, none, .sl [] .full⟩], [.blk ([.ptr 1 0, .ptr 3 0] ++ x0.ff.enc ++ x0.fh.enc ++ [.mp 4, .n x0.fq, .n x0.fo]), .blk (x0.fa.fb.enc ++ [.b x0.fa.fd, .n x0.fa.fg, .mp 2, .n x0.fa.fe]), .mapo (encM (kI .i64) (vA Ta.enc) x0.fa.fOf), .blk x0.fc.enc, .mapo (encM (kI .i64) (vA Tb.enc) x0.fOf)]⟩ (AWp.reg Tryz.tyOk hΓ [13, 14, 15] [0, 1] (by kernel_rfl) rfl (by simp [h6])) ?_
 refine AWp.equip 5 1 (els := []) (by simp) (by simp) ?_
 refine AWp.loopE (fun (s1 : Int × List Int) (γ1 : Nat) => ⟨[⟨13, none, .sl (r1.map (eNum .i64)) .no⟩, ⟨14, none, .n (lenL r1)⟩, ⟨15, none, .n s1.1⟩, ⟨5, none, .sl (s1.2.map (eNum .u16)) (.own 5 (γ1) 1)⟩], [.blk ([.ptr 1 0, .ptr 3 0] ++ x0.ff.enc ++ x0.fh.enc ++ [.mp 4, .n x0.fq, .n x0.fo]), .blk (x0.fa.fb.enc ++ [.b x0.fa.fd, .n x0.fa.fg, .mp 2, .n x0.fa.fe]), .mapo (encM (kI .i64) (vA Ta.enc) x0.fa.fOf), .blk x0.fc.enc, .mapo (encM (kI .i64) (vA Tb.enc) x0.fOf), .room (γ1)]⟩) (fun (v1 : List Int) (γ1a : Nat) => ⟨[⟨5, none, .sl (v1.map (eNum .u16)) (.own 5 (γ1a) 1)⟩], [.blk ([.ptr 1 0, .ptr 3 0] ++ x0.ff.enc ++ x0.fh.enc ++ [.mp 4, .n x0.fq, .n x0.fo]), .blk (x0.fa.fb.enc ++ [.b x0.fa.fd, .n x0.fa.fg, .mp 2, .n x0.fa.fe]), .mapo (encM (kI .i64) (vA Ta.enc) x0.fa.fOf), .blk x0.fc.enc, .mapo (encM (kI .i64) (vA Tb.enc) x0.fOf), .room (γ1a)]⟩) (gj.fin x0 x1) hr 0 6 (by simp) (fun s1 f γ1 hr => ?_) (fun v1 γ1a σ1 m1 hr hc => ?_) (fun _ h => h)
 ·unfold gj.loop1 at hr
  refine AWp.then ⟨[⟨16, none, .b (ltI s1.1 (lenL r1))⟩, ⟨13, none, .sl (r1.map (eNum .i64)) .no⟩, ⟨14, none, .n (lenL r1)⟩, ⟨15, none, .n s1.1⟩, ⟨5, none, .sl (s1.2.map (eNum .u16)) (.own 5 (γ1) 1)⟩], [.blk ([.ptr 1 0, .ptr 3 0] ++ x0.ff.enc ++ x0.fh.enc ++ [.mp 4, .n x0.fq, .n x0.fo]), .blk (x0.fa.fb.enc ++ [.b x0.fa.fd, .n x0.fa.fg, .mp 2, .n x0.fa.fe]), .mapo (encM (kI .i64) (vA Ta.enc) x0.fa.fOf), .blk x0.fc.enc, .mapo (encM (kI .i64) (vA Tb.enc) x0.fOf), .room (γ1)]⟩ (AWp.reg Tryz.tyOk hΓ [16] [] (by kernel_rfl) rfl (by simp)) ?_
  refine AWp.seq ?_
  refine AWp.cond (b := (ltI s1.1 (lenL r1))) (by simp) (fun h7 => ?_) (fun h7 => ?_)
  ·have hr := Li h7 hr
   refine AWp.skip ?_
   refine AWp.seq ?_
   refine AWp.block ?_
   obtain ⟨h8, hr⟩ := Lc hr
   refine AWp.then ⟨[⟨7, none, .n (nthI r1 s1.1)⟩, ⟨13, none, .sl (r1.map (eNum .i64)) .no⟩, ⟨14, none, .n (lenL r1)⟩, ⟨15, none, .n s1.1⟩, ⟨5, none, .sl (s1.2.map (eNum .u16)) (.own 5 (γ1) 1)⟩], [.blk ([.ptr 1 0, .ptr 3 0] ++ x0.ff.enc ++ x0.fh.enc ++ [.mp 4, .n x0.fq, .n x0.fo]), .blk (x0.fa.fb.enc ++ [.b x0.fa.fd, .n x0.fa.fg, .mp 2, .n x0.fa.fe]), .mapo (encM (kI .i64) (vA Ta.enc) x0.fa.fOf), .blk x0.fc.enc, .mapo (encM (kI .i64) (vA Tb.enc) x0.fOf), .room (γ1)]⟩ (AWp.reg Tryz.tyOk hΓ [7] [16] (by kernel_rfl) rfl (by simp [h7, h8])) ?_
   obtain ⟨h9, hr⟩ := Lc hr
   refine AWp.last ⟨[⟨5, none, .sl ((appL s1.2 [(cvtI .u16 (nthI r1 s1.1))]).map (eNum .u16)) (.own 5 (γ1 + 1) 1)⟩, ⟨13, none, .sl (r1.map (eNum .i64)) .no⟩, ⟨14, none, .n (lenL r1)⟩, ⟨15, none, .n s1.1⟩], [.blk ([.ptr 1 0, .ptr 3 0] ++ x0.ff.enc ++ x0.fh.enc ++ [.mp 4, .n x0.fq, .n x0.fo]), .blk (x0.fa.fb.enc ++ [.b x0.fa.fd, .n x0.fa.fg, .mp 2, .n x0.fa.fe]), .mapo (encM (kI .i64) (vA Ta.enc) x0.fa.fOf), .blk x0.fc.enc, .mapo (encM (kI .i64) (vA Tb.enc) x0.fOf), .room (γ1 + 1)]⟩ (AWp.reg Tryz.tyOk hΓ [5] [7] (by kernel_rfl) rfl (by simp [h9])) ?_
   refine AWp.last ⟨[⟨15, none, .n (addI .i64 s1.1 1)⟩, ⟨5, none, .sl ((appL s1.2 [(cvtI .u16 (nthI r1 s1.1))]).map (eNum .u16)) (.own 5 (γ1 + 1) 1)⟩, ⟨13, none, .sl (r1.map (eNum .i64)) .no⟩, ⟨14, none, .n (lenL r1)⟩], [.blk ([.ptr 1 0, .ptr 3 0] ++ x0.ff.enc ++ x0.fh.enc ++ [.mp 4, .n x0.fq, .n x0.fo]), .blk (x0.fa.fb.enc ++ [.b x0.fa.fd, .n x0.fa.fg, .mp 2, .n x0.fa.fe]), .mapo (encM (kI .i64) (vA Ta.enc) x0.fa.fOf), .blk x0.fc.enc, .mapo (encM (kI .i64) (vA Tb.enc) x0.fOf), .room (γ1 + 1)]⟩ (AWp.reg Tryz.tyOk hΓ [15] [] (by kernel_rfl) rfl (by simp)) ?_
   obtain rfl := La hr
   exact Lq (γ1 + 1) 6 (by first | (simp; done) | simp [h6, h7, h8, h9])
  ·have hr := Lj h7 hr
   refine AWp.exit ?_
   obtain rfl := La hr
   exact Lo (γ1) 6 (by first | (simp; done) | simp [h6, h7])
 ·refine AWp.conv hc ?_
  obtain ⟨r2, h10, hr⟩ := Lb hr
  refine AWp.then ⟨[⟨4, none, .sl (r2.map (eNum .u16)) .no⟩], [.blk ([.ptr 1 0, .ptr 3 0] ++ x0.ff.enc ++ x0.fh.enc ++ [.mp 4, .n x0.fq, .n x0.fo]), .blk (x0.fa.fb.enc ++ [.b x0.fa.fd, .n x0.fa.fg, .mp 2, .n x0.fa.fe]), .mapo (encM (kI .i64) (vA Ta.enc) x0.fa.fOf), .blk x0.fc.enc, .mapo (encM (kI .i64) (vA Tb.enc) x0.fOf), .room (γ1a)]⟩ (AWp.reg Tryz.tyOk hΓ [4] [5] (by kernel_rfl) rfl (by simp [h10])) ?_
  refine AWp.ret ?_
  obtain rfl := La hr
  refine Lf ?_
  simp

@[simp] noncomputable def gj.S : Sp
 | [.ptr i0 0, .lit (.int .i64 x1)], M => match M[i0]? with
  | some (.blk c0) => (match nthE c0 0 with
  | some (.ptr i1 0) => (match M[i1]? with
  | some (.blk c1) => (match nthE c1 4 with
  | some (.mp i2) => (match M[i2]? with
  | some (.mapo c2) => (match nthE c0 1 with
  | some (.ptr i3 0) => (match M[i3]? with
  | some (.blk c3) => (match nthE c0 9 with
  | some (.mp i4) => (match M[i4]? with
  | some (.mapo c4) => (fun (y0 : Tf) => some { av := .sl (((gj y0 x1).getD dflt).map (eNum .u16)) .no, M := none, obl := c0 = Tf.enc y0 i1 i3 i4 ∧ c1 = Th.enc (y0.fa) i2 ∧ c2 = encM (kI .i64) (vA Ta.enc) (y0.fa.fOf) ∧ c3 = Tn.enc (y0.fc) ∧ c4 = encM (kI .i64) (vA Tb.enc) (y0.fOf) ∧ (gj y0 x1).isSome = true ∧ i0 ≠ i1 ∧ i0 ≠ i2 ∧ i0 ≠ i3 ∧ i0 ≠ i4 ∧ i1 ≠ i2 ∧ i1 ≠ i3 ∧ i1 ≠ i4 ∧ i2 ≠ i3 ∧ i2 ≠ i4 ∧ i3 ≠ i4 }) (Tf.dec c0 (Th.dec c1 (decM dkI (dvA Ta.dec) c2)) (Tn.dec c3) (decM dkI (dvA Tb.dec) c4))
  | _ => none)
  | _ => none)
  | _ => none)
  | _ => none)
  | _ => none)
  | _ => none)
  | _ => none)
  | _ => none)
  | _ => none
 | _, _ => none

theorem gj.ok : SpecOk Tryz.prog 15 gj.S := by
 intro l M out h
 unfold gj.S at h
 split at h
 ·rename_i i0 x1
  split at h
  case h_2 => cases h
  rename_i c0 hM0
  split at h
  case h_2 => cases h
  rename_i i1 he1
  split at h
  case h_2 => cases h
  rename_i c1 hM1
  split at h
  case h_2 => cases h
  rename_i i2 he2
  split at h
  case h_2 => cases h
  rename_i c2 hM2
  split at h
  case h_2 => cases h
  rename_i i3 he3
  split at h
  case h_2 => cases h
  rename_i c3 hM3
  split at h
  case h_2 => cases h
  rename_i i4 he4
  split at h
  case h_2 => cases h
  rename_i c4 hM4
  try dsimp only at h
  cases h
  refine callOk_of fun ho => ?_
  obtain ⟨oc0, oc1, oc2, oc3, oc4, hs, hne0, hne1, hne2, hne3, hne4, hne5, hne6, hne7, hne8, hne9⟩ := ho
  generalize (Tf.dec c0 (Th.dec c1 (decM dkI (dvA Ta.dec) c2)) (Tn.dec c3) (decM dkI (dvA Tb.dec) c4)) = y0 at *
  subst oc0
  subst oc1
  subst oc2
  subst oc3
  subst oc4
  obtain ⟨r, hr⟩ := Option.isSome_iff_exists.1 hs
  simp only [hr, Option.getD_some]
  have q := Lg (M := M) [i0, i1, i2, i3, i4] (gj.can y0 x1 r hr) (by simp [hne0, hne1, hne2, hne3, hne4, hne5, hne6, hne7, hne8, hne9]) rfl (by intro k i hk; (cases k with | zero => (simp at hk; subst hk; simp [hM0, into]) | succ k => ((cases k with | zero => (simp at hk; subst hk; simp [hM1, into]) | succ k => ((cases k with | zero => (simp at hk; subst hk; simp [hM2]) | succ k => ((cases k with | zero => (simp at hk; subst hk; simp [hM3]) | succ k => ((cases k with | zero => (simp at hk; subst hk; simp [hM4]) | succ k => (simp at hk)))))))))))
  exact callOk_conv q trivial (by simp [into]) (by simp [frameOut, gj.out, into]) (by simp only [frameOut, gj.out, Option.getD_some, Option.getD_none]; simp [into, hM0, hM1, hM2, hM3, hM4, set_same])
 ·cases h
end Go.Proofs

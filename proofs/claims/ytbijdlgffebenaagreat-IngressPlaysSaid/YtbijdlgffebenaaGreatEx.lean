/- That these functions compute what their plain functions do. No condition. -/
import Derived.Test.YtbijdlgffebenaaGreatM09
import Derived.Test.YtbijdlgffebenaaGreatTy
set_option maxRecDepth 100000
set_option maxHeartbeats 4000000
namespace Go.Proofs
open Go.Ab
@[simp] def gR.out  (r : Int) : Out := { av := .lit (.int .u16 r), M := none }
theorem gR.can  (r : Int) (hr : gR = some r) : CallOk Tryz.prog 87 [] [] (gR.out  r) := by
 unfold gR at hr
 have hΓ := gamL_nil (P := Tryz.prog)
 refine Le Tryz.tyOk Tryz.func87 rfl (by kernel_rfl) rfl rfl (by simp) ?_
 intro _ _ _
 refine AWp.then ⟨[], []⟩ (AWp.reg Tryz.tyOk hΓ [] [] (by kernel_rfl) rfl (by simp)) ?_
 refine AWp.thenA [⟨1, none, .lit (.int .u16 0)⟩] (AWp.reg Tryz.tyOk hΓ [1] [] (by kernel_rfl) rfl (by simp)) ?_
 obtain ⟨h2, hr⟩ := Lc hr
 refine AWp.thenA [⟨0, none, .lit (.int .u16 (addI .u16 (shrI .u16 (subI .u16 0 1) 1) 1))⟩] (AWp.reg Tryz.tyOk hΓ [0] [1] (by kernel_rfl) rfl (by simp [h2])) ?_
 refine AWp.ret ?_
 obtain rfl := La hr
 refine Lf ?_
 simp

@[simp] noncomputable def gR.S : Sp
 | [], _ => some { av := .lit (.int .u16 (gR.getD dflt)), M := none, obl := gR.isSome = true }
 | _, _ => none

theorem gR.ok : SpecOk Tryz.prog 87 gR.S := by
 intro l M out h
 unfold gR.S at h
 split at h
 ·cases h
  refine callOk_of fun ho => ?_
  have hs := ho
  obtain ⟨r, hr⟩ := Option.isSome_iff_exists.1 hs
  simp only [hr, Option.getD_some]
  have q := Lg (M := M) [] (gR.can r hr) (by simp) rfl (by intro k i hk; simp at hk)
  exact callOk_conv q trivial (by simp) (by simp [frameOut, gR.out]) (by simp [frameOut, gR.out])
 ·cases h

@[simp] def gS.out  (r : Int) : Out := { av := .lit (.int .u32 r), M := none }
theorem gS.can  (r : Int) (hr : gS = some r) : CallOk Tryz.prog 118 [] [] (gS.out  r) := by
 unfold gS at hr
 have hΓ := gamL_nil (P := Tryz.prog)
 refine Le Tryz.tyOk Tryz.func118 rfl (by kernel_rfl) rfl rfl (by simp) ?_
 intro _ _ _
 refine AWp.then ⟨[], []⟩ (AWp.reg Tryz.tyOk hΓ [] [] (by kernel_rfl) rfl (by simp)) ?_
 refine AWp.thenA [⟨1, none, .lit (.int .u32 0)⟩] (AWp.reg Tryz.tyOk hΓ [1] [] (by kernel_rfl) rfl (by simp)) ?_
 obtain ⟨h2, hr⟩ := Lc hr
 refine AWp.thenA [⟨0, none, .lit (.int .u32 (addI .u32 (shrI .u32 (subI .u32 0 1) 1) 1))⟩] (AWp.reg Tryz.tyOk hΓ [0] [1] (by kernel_rfl) rfl (by simp [h2])) ?_
 refine AWp.ret ?_
 obtain rfl := La hr
 refine Lf ?_
 simp

@[simp] noncomputable def gS.S : Sp
 | [], _ => some { av := .lit (.int .u32 (gS.getD dflt)), M := none, obl := gS.isSome = true }
 | _, _ => none

theorem gS.ok : SpecOk Tryz.prog 118 gS.S := by
 intro l M out h
 unfold gS.S at h
 split at h
 ·cases h
  refine callOk_of fun ho => ?_
  have hs := ho
  obtain ⟨r, hr⟩ := Option.isSome_iff_exists.1 hs
  simp only [hr, Option.getD_some]
  have q := Lg (M := M) [] (gS.can r hr) (by simp) rfl (by intro k i hk; simp at hk)
  exact callOk_conv q trivial (by simp) (by simp [frameOut, gS.out]) (by simp [frameOut, gS.out])
 ·cases h

@[simp] def gae.out (_x0 : Int) (_x1 : Int) (r : Int) : Out := { av := .lit (.int .i64 r), M := none }
theorem gae.can (x0 : Int) (x1 : Int) (r : Int) (hr : gae x0 x1 = some r) : CallOk Tryz.prog 67 [.lit (.int .u16 x0), .lit (.int .u16 x1)] [] (gae.out x0 x1 r) := by
 unfold gae at hr
 have hΓ := (gamL_cons gR.ok (gamL_nil) : GamOk Tryz.prog _)
 refine Le Tryz.tyOk Tryz.func67 rfl (by kernel_rfl) rfl rfl (by simp) ?_
 intro _ _ _
 refine AWp.then ⟨[⟨0, none, .lit (.int .u16 x0)⟩, ⟨1, none, .lit (.int .u16 x1)⟩], []⟩ (AWp.reg Tryz.tyOk hΓ [] [] (by kernel_rfl) rfl (by simp)) ?_
 refine AWp.thenA [⟨5, none, .lit (.int .u16 (subI .u16 x0 x1))⟩, ⟨0, none, .lit (.int .u16 x0)⟩, ⟨1, none, .lit (.int .u16 x1)⟩] (AWp.reg Tryz.tyOk hΓ [5] [] (by kernel_rfl) rfl (by simp)) ?_
 refine AWp.seq ?_
 obtain ⟨r1, h3, hr⟩ := Lb hr
 refine AWp.then ⟨[⟨11, none, .b (ltI (subI .u16 x0 x1) r1)⟩, ⟨5, none, .lit (.int .u16 (subI .u16 x0 x1))⟩, ⟨0, none, .lit (.int .u16 x0)⟩, ⟨1, none, .lit (.int .u16 x1)⟩], []⟩ (AWp.reg Tryz.tyOk hΓ [11] [] (by kernel_rfl) rfl (by simp [h3])) ?_
 refine AWp.cond (b := (ltI (subI .u16 x0 x1) r1)) (by simp) (fun h4 => ?_) (fun h4 => ?_)
 ·have hr := Li h4 hr
  refine AWp.thenA [⟨4, none, .n (cvtI .i64 (subI .u16 x0 x1))⟩] (AWp.reg Tryz.tyOk hΓ [4] [11, 5, 0, 1] (by kernel_rfl) rfl (by simp [h4])) ?_
  refine AWp.ret ?_
  obtain rfl := La hr
  refine Lf ?_
  simp
 ·have hr := Lj h4 hr
  refine AWp.skip ?_
  refine AWp.then ⟨[⟨4, none, .n (negI .i64 (cvtI .i64 (subI .u16 x1 x0)))⟩], []⟩ (AWp.reg Tryz.tyOk hΓ [4] [11, 5, 0, 1] (by kernel_rfl) rfl (by simp [h4])) ?_
  refine AWp.ret ?_
  obtain rfl := La hr
  refine Lf ?_
  simp

@[simp] noncomputable def gae.S : Sp
 | [.lit (.int .u16 x0), .lit (.int .u16 x1)], _ => some { av := .lit (.int .i64 ((gae x0 x1).getD dflt)), M := none, obl := (gae x0 x1).isSome = true }
 | _, _ => none

theorem gae.ok : SpecOk Tryz.prog 67 gae.S := by
 intro l M out h
 unfold gae.S at h
 split at h
 ·rename_i x0 x1
  cases h
  refine callOk_of fun ho => ?_
  have hs := ho
  obtain ⟨r, hr⟩ := Option.isSome_iff_exists.1 hs
  simp only [hr, Option.getD_some]
  have q := Lg (M := M) [] (gae.can x0 x1 r hr) (by simp) rfl (by intro k i hk; simp at hk)
  exact callOk_conv q trivial (by simp) (by simp [frameOut, gae.out]) (by simp [frameOut, gae.out])
 ·cases h

@[simp] def gaf.out (_x0 : Int) (_x1 : Int) (r : Int) : Out := { av := .lit (.int .i64 r), M := none }
theorem gaf.can (x0 : Int) (x1 : Int) (r : Int) (hr : gaf x0 x1 = some r) : CallOk Tryz.prog 100 [.lit (.int .u32 x0), .lit (.int .u32 x1)] [] (gaf.out x0 x1 r) := by
 unfold gaf at hr
 have hΓ := (gamL_cons gS.ok (gamL_nil) : GamOk Tryz.prog _)
 refine Le Tryz.tyOk Tryz.func100 rfl (by kernel_rfl) rfl rfl (by simp) ?_
 intro _ _ _
 refine AWp.then ⟨[⟨0, none, .lit (.int .u32 x0)⟩, ⟨1, none, .lit (.int .u32 x1)⟩], []⟩ (AWp.reg Tryz.tyOk hΓ [] [] (by kernel_rfl) rfl (by simp)) ?_
 refine AWp.thenA [⟨5, none, .lit (.int .u32 (subI .u32 x0 x1))⟩, ⟨0, none, .lit (.int .u32 x0)⟩, ⟨1, none, .lit (.int .u32 x1)⟩] (AWp.reg Tryz.tyOk hΓ [5] [] (by kernel_rfl) rfl (by simp)) ?_
 refine AWp.seq ?_
 obtain ⟨r1, h3, hr⟩ := Lb hr
 refine AWp.then ⟨[⟨11, none, .b (ltI (subI .u32 x0 x1) r1)⟩, ⟨5, none, .lit (.int .u32 (subI .u32 x0 x1))⟩, ⟨0, none, .lit (.int .u32 x0)⟩, ⟨1, none, .lit (.int .u32 x1)⟩], []⟩ (AWp.reg Tryz.tyOk hΓ [11] [] (by kernel_rfl) rfl (by simp [h3])) ?_
 refine AWp.cond (b := (ltI (subI .u32 x0 x1) r1)) (by simp) (fun h4 => ?_) (fun h4 => ?_)
 ·have hr := Li h4 hr
  refine AWp.thenA [⟨4, none, .n (cvtI .i64 (subI .u32 x0 x1))⟩] (AWp.reg Tryz.tyOk hΓ [4] [11, 5, 0, 1] (by kernel_rfl) rfl (by simp [h4])) ?_
  refine AWp.ret ?_
  obtain rfl := La hr
  refine Lf ?_
  simp
 ·have hr := Lj h4 hr
  refine AWp.skip ?_
  refine AWp.then ⟨[⟨4, none, .n (negI .i64 (cvtI .i64 (subI .u32 x1 x0)))⟩], []⟩ (AWp.reg Tryz.tyOk hΓ [4] [11, 5, 0, 1] (by kernel_rfl) rfl (by simp [h4])) ?_
  refine AWp.ret ?_
  obtain rfl := La hr
  refine Lf ?_
  simp

@[simp] noncomputable def gaf.S : Sp
 | [.lit (.int .u32 x0), .lit (.int .u32 x1)], _ => some { av := .lit (.int .i64 ((gaf x0 x1).getD dflt)), M := none, obl := (gaf x0 x1).isSome = true }
 | _, _ => none

theorem gaf.ok : SpecOk Tryz.prog 100 gaf.S := by
 intro l M out h
 unfold gaf.S at h
 split at h
 ·rename_i x0 x1
  cases h
  refine callOk_of fun ho => ?_
  have hs := ho
  obtain ⟨r, hr⟩ := Option.isSome_iff_exists.1 hs
  simp only [hr, Option.getD_some]
  have q := Lg (M := M) [] (gaf.can x0 x1 r hr) (by simp) rfl (by intro k i hk; simp at hk)
  exact callOk_conv q trivial (by simp) (by simp [frameOut, gaf.out]) (by simp [frameOut, gaf.out])
 ·cases h

@[simp] def gT.out (_x0 : Int) (_x1 : Int) (r : Int) : Out := { av := .lit (.int .i64 r), M := none }
theorem gT.can (x0 : Int) (x1 : Int) (r : Int) (hr : gT x0 x1 = some r) : CallOk Tryz.prog 44 [.lit (.int .i64 x0), .lit (.int .u16 x1)] [] (gT.out x0 x1 r) := by
 unfold gT at hr
 have hΓ := (gamL_cons gae.ok (gamL_nil) : GamOk Tryz.prog _)
 refine Le Tryz.tyOk Tryz.func44 rfl (by kernel_rfl) rfl rfl (by simp) ?_
 intro _ _ _
 refine AWp.then ⟨[⟨0, none, .n x0⟩, ⟨1, none, .lit (.int .u16 x1)⟩], []⟩ (AWp.reg Tryz.tyOk hΓ [] [] (by kernel_rfl) rfl (by simp)) ?_
 obtain ⟨r1, h2, hr⟩ := Lb hr
 refine AWp.thenA [⟨4, none, .n (addI .i64 x0 r1)⟩] (AWp.reg Tryz.tyOk hΓ [4] [0, 1] (by kernel_rfl) rfl (by simp [h2])) ?_
 refine AWp.ret ?_
 obtain rfl := La hr
 refine Lf ?_
 simp

@[simp] noncomputable def gT.S : Sp
 | [.lit (.int .i64 x0), .lit (.int .u16 x1)], _ => some { av := .lit (.int .i64 ((gT x0 x1).getD dflt)), M := none, obl := (gT x0 x1).isSome = true }
 | _, _ => none

theorem gT.ok : SpecOk Tryz.prog 44 gT.S := by
 intro l M out h
 unfold gT.S at h
 split at h
 ·rename_i x0 x1
  cases h
  refine callOk_of fun ho => ?_
  have hs := ho
  obtain ⟨r, hr⟩ := Option.isSome_iff_exists.1 hs
  simp only [hr, Option.getD_some]
  have q := Lg (M := M) [] (gT.can x0 x1 r hr) (by simp) rfl (by intro k i hk; simp at hk)
  exact callOk_conv q trivial (by simp) (by simp [frameOut, gT.out]) (by simp [frameOut, gT.out])
 ·cases h

@[simp] def gU.out (_x0 : Int) (_x1 : Int) (r : Int) : Out := { av := .lit (.int .i64 r), M := none }
theorem gU.can (x0 : Int) (x1 : Int) (r : Int) (hr : gU x0 x1 = some r) : CallOk Tryz.prog 88 [.lit (.int .i64 x0), .lit (.int .u32 x1)] [] (gU.out x0 x1 r) := by
 unfold gU at hr
 have hΓ := (gamL_cons gaf.ok (gamL_nil) : GamOk Tryz.prog _)
 refine Le Tryz.tyOk Tryz.func88 rfl (by kernel_rfl) rfl rfl (by simp) ?_
 intro _ _ _
 refine AWp.then ⟨[⟨0, none, .n x0⟩, ⟨1, none, .lit (.int .u32 x1)⟩], []⟩ (AWp.reg Tryz.tyOk hΓ [] [] (by kernel_rfl) rfl (by simp)) ?_
 obtain ⟨r1, h2, hr⟩ := Lb hr
 refine AWp.thenA [⟨4, none, .n (addI .i64 x0 r1)⟩] (AWp.reg Tryz.tyOk hΓ [4] [0, 1] (by kernel_rfl) rfl (by simp [h2])) ?_
 refine AWp.ret ?_
 obtain rfl := La hr
 refine Lf ?_
 simp

@[simp] noncomputable def gU.S : Sp
 | [.lit (.int .i64 x0), .lit (.int .u32 x1)], _ => some { av := .lit (.int .i64 ((gU x0 x1).getD dflt)), M := none, obl := (gU x0 x1).isSome = true }
 | _, _ => none

theorem gU.ok : SpecOk Tryz.prog 88 gU.S := by
 intro l M out h
 unfold gU.S at h
 split at h
 ·rename_i x0 x1
  cases h
  refine callOk_of fun ho => ?_
  have hs := ho
  obtain ⟨r, hr⟩ := Option.isSome_iff_exists.1 hs
  simp only [hr, Option.getD_some]
  have q := Lg (M := M) [] (gU.can x0 x1 r hr) (by simp) rfl (by intro k i hk; simp at hk)
  exact callOk_conv q trivial (by simp) (by simp [frameOut, gU.out]) (by simp [frameOut, gU.out])
 ·cases h

@[simp] def gg.out (_x0 : Tf) (_x1 : Int) (r : Int × Tf) : Out := { av := .lit (.int .i64 r.1), M := some [.blk [.ptr 1 0, .ptr 3 0, .lit (.bool r.2.ff.fd), .lit (.int .i64 r.2.ff.fk), .lit (.int .u16 r.2.ff.fW), .lit (.int .i64 r.2.ff.fK), .lit (.int .i64 r.2.ff.fA), .lit (.bool r.2.fh.fd), .lit (.int .i64 r.2.fh.fX), .mp 4, .lit (.int .i64 r.2.fq), .lit (.int .i64 r.2.fo)], .blk [.lit (.int .i64 r.2.fa.fb.fk), .lit (.int .i64 r.2.fa.fb.fp), .lit (.bool r.2.fa.fd), .lit (.int .i64 r.2.fa.fg), .mp 2, .lit (.int .i64 r.2.fa.fe)], .mapo (encM (kI .i64) (vA Ta.enc) r.2.fa.fOf), .blk [.lit (.bool r.2.fc.fb.fu), .lit (.int .i64 r.2.fc.fb.fw), .lit (.int .i64 r.2.fc.fb.fj), .lit (.int .i64 r.2.fc.fb.fp), .sl (r.2.fc.fv.fj.map Tc.enc) .no, .lit (.int .i64 r.2.fc.fy), .lit (.int .i64 r.2.fc.fe)], .mapo (encM (kI .i64) (vA Tb.enc) r.2.fOf)] }
theorem gg.can (x0 : Tf) (x1 : Int) (r : Int × Tf) (hr : gg x0 x1 = some r) : CallOk Tryz.prog 45 [.ptr 0 2, .lit (.int .u16 x1)] [.blk ([.ptr 1 0, .ptr 3 0] ++ x0.ff.enc ++ x0.fh.enc ++ [.mp 4, .lit (.int .i64 x0.fq), .lit (.int .i64 x0.fo)]), .blk (x0.fa.fb.enc ++ [.lit (.bool x0.fa.fd), .lit (.int .i64 x0.fa.fg), .mp 2, .lit (.int .i64 x0.fa.fe)]), .mapo (encM (kI .i64) (vA Ta.enc) x0.fa.fOf), .blk x0.fc.enc, .mapo (encM (kI .i64) (vA Tb.enc) x0.fOf)] (gg.out x0 x1 r) := by
 unfold gg at hr
 have hΓ := gamL_nil (P := Tryz.prog)
 refine Le Tryz.tyOk Tryz.func45 rfl (by kernel_rfl) rfl rfl (by simp) ?_
 intro _ _ _
 refine AWp.then ⟨[⟨0, none, .ptr 0 2⟩, ⟨1, none, .lit (.int .u16 x1)⟩], [.blk ([.ptr 1 0, .ptr 3 0] ++ x0.ff.enc ++ x0.fh.enc ++ [.mp 4, .n x0.fq, .n x0.fo]), .blk (x0.fa.fb.enc ++ [.b x0.fa.fd, .n x0.fa.fg, .mp 2, .n x0.fa.fe]), .mapo (encM (kI .i64) (vA Ta.enc) x0.fa.fOf), .blk x0.fc.enc, .mapo (encM (kI .i64) (vA Tb.enc) x0.fOf)]⟩ (AWp.reg Tryz.tyOk hΓ [] [] (by kernel_rfl) rfl (by simp)) ?_
 obtain ⟨h3, hr⟩ := Lc hr
 obtain ⟨h4, hr⟩ := Lc hr
 refine AWp.then ⟨[⟨0, none, .ptr 0 2⟩], [.blk ([.ptr 1 0, .ptr 3 0, .b x0.ff.fd, .n (bitsOp .or .i64 (shlI .i64 (addI .i64 (shrI .i64 x0.ff.fk 16) 2) 16) (cvtI .i64 x1)), .lit (.int .u16 x0.ff.fW), .n x0.ff.fK, .n x0.ff.fA] ++ x0.fh.enc ++ [.mp 4, .n x0.fq, .n x0.fo]), .blk (x0.fa.fb.enc ++ [.b x0.fa.fd, .n x0.fa.fg, .mp 2, .n x0.fa.fe]), .mapo (encM (kI .i64) (vA Ta.enc) x0.fa.fOf), .blk x0.fc.enc, .mapo (encM (kI .i64) (vA Tb.enc) x0.fOf)]⟩ (AWp.reg Tryz.tyOk hΓ [] [1] (by kernel_rfl) rfl (by simp [h3])) ?_
 refine AWp.then ⟨[⟨0, none, .ptr 0 2⟩], [.blk ([.ptr 1 0, .ptr 3 0, .b x0.ff.fd, .n (bitsOp .or .i64 (shlI .i64 (addI .i64 (shrI .i64 x0.ff.fk 16) 2) 16) (cvtI .i64 x1)), .lit (.int .u16 x0.ff.fW), .n x0.ff.fK, .n (addI .i64 x0.ff.fA 1)] ++ x0.fh.enc ++ [.mp 4, .n x0.fq, .n x0.fo]), .blk (x0.fa.fb.enc ++ [.b x0.fa.fd, .n x0.fa.fg, .mp 2, .n x0.fa.fe]), .mapo (encM (kI .i64) (vA Ta.enc) x0.fa.fOf), .blk x0.fc.enc, .mapo (encM (kI .i64) (vA Tb.enc) x0.fOf)]⟩ (AWp.reg Tryz.tyOk hΓ [] [] (by kernel_rfl) rfl (by simp)) ?_
 refine AWp.then ⟨[⟨0, none, .ptr 0 2⟩], [.blk ([.ptr 1 0, .ptr 3 0, .b x0.ff.fd, .n (bitsOp .or .i64 (shlI .i64 (addI .i64 (shrI .i64 x0.ff.fk 16) 2) 16) (cvtI .i64 x1)), .lit (.int .u16 x0.ff.fW), .n 0, .n (addI .i64 x0.ff.fA 1)] ++ x0.fh.enc ++ [.mp 4, .n x0.fq, .n x0.fo]), .blk (x0.fa.fb.enc ++ [.b x0.fa.fd, .n x0.fa.fg, .mp 2, .n x0.fa.fe]), .mapo (encM (kI .i64) (vA Ta.enc) x0.fa.fOf), .blk x0.fc.enc, .mapo (encM (kI .i64) (vA Tb.enc) x0.fOf)]⟩ (AWp.reg Tryz.tyOk hΓ [] [] (by kernel_rfl) rfl (by simp)) ?_
 refine AWp.thenA [⟨4, none, .n (bitsOp .or .i64 (shlI .i64 (addI .i64 (shrI .i64 x0.ff.fk 16) 2) 16) (cvtI .i64 x1))⟩] (AWp.reg Tryz.tyOk hΓ [4] [0] (by kernel_rfl) rfl (by simp)) ?_
 refine AWp.ret ?_
 obtain rfl := La hr
 refine Lf ?_
 simp

@[simp] noncomputable def gg.S : Sp
 | [.ptr i0 2, .lit (.int .u16 x1)], M => match M[i0]? with
  | some (.blk c0) => (match nthE c0 0 with
  | some (.ptr i1 0) => (match M[i1]? with
  | some (.blk c1) => (match nthE c1 4 with
  | some (.mp i2) => (match M[i2]? with
  | some (.mapo c2) => (match nthE c0 1 with
  | some (.ptr i3 0) => (match M[i3]? with
  | some (.blk c3) => (match nthE c0 9 with
  | some (.mp i4) => (match M[i4]? with
  | some (.mapo c4) => (fun (y0 : Tf) => (fun (r : Int × Tf) => some { av := .lit (.int .i64 (r.1)), M := some (((((M.set i0 (.blk [.ptr i1 0, .ptr i3 0, .lit (.bool (r.2.ff.fd)), .lit (.int .i64 (r.2.ff.fk)), .lit (.int .u16 (r.2.ff.fW)), .lit (.int .i64 (r.2.ff.fK)), .lit (.int .i64 (r.2.ff.fA)), .lit (.bool (r.2.fh.fd)), .lit (.int .i64 (r.2.fh.fX)), .mp i4, .lit (.int .i64 (r.2.fq)), .lit (.int .i64 (r.2.fo))])).set i1 (.blk [.lit (.int .i64 (r.2.fa.fb.fk)), .lit (.int .i64 (r.2.fa.fb.fp)), .lit (.bool (r.2.fa.fd)), .lit (.int .i64 (r.2.fa.fg)), .mp i2, .lit (.int .i64 (r.2.fa.fe))])).set i2 (.mapo (encM (kI .i64) (vA Ta.enc) (r.2.fa.fOf)))).set i3 (.blk [.lit (.bool (r.2.fc.fb.fu)), .lit (.int .i64 (r.2.fc.fb.fw)), .lit (.int .i64 (r.2.fc.fb.fj)), .lit (.int .i64 (r.2.fc.fb.fp)), .sl ((r.2.fc.fv.fj).map Tc.enc) .no, .lit (.int .i64 (r.2.fc.fy)), .lit (.int .i64 (r.2.fc.fe))])).set i4 (.mapo (encM (kI .i64) (vA Tb.enc) (r.2.fOf)))), obl := c0 = Tf.enc y0 i1 i3 i4 ∧ c1 = Th.enc (y0.fa) i2 ∧ c2 = encM (kI .i64) (vA Ta.enc) (y0.fa.fOf) ∧ c3 = Tn.enc (y0.fc) ∧ c4 = encM (kI .i64) (vA Tb.enc) (y0.fOf) ∧ (gg y0 x1).isSome = true ∧ i0 ≠ i1 ∧ i0 ≠ i2 ∧ i0 ≠ i3 ∧ i0 ≠ i4 ∧ i1 ≠ i2 ∧ i1 ≠ i3 ∧ i1 ≠ i4 ∧ i2 ≠ i3 ∧ i2 ≠ i4 ∧ i3 ≠ i4 }) ((gg y0 x1).getD dflt)) (Tf.dec c0 (Th.dec c1 (decM dkI (dvA Ta.dec) c2)) (Tn.dec c3) (decM dkI (dvA Tb.dec) c4))
  | _ => none)
  | _ => none)
  | _ => none)
  | _ => none)
  | _ => none)
  | _ => none)
  | _ => none)
  | _ => none)
  | _ => none
 | _, _ => none

theorem gg.ok : SpecOk Tryz.prog 45 gg.S := by
 intro l M out h
 unfold gg.S at h
 split at h
 ·rename_i i0 x1
  split at h
  case h_2 => cases h
  rename_i c0 hM0
  split at h
  case h_2 => cases h
  rename_i i1 he1
  split at h
  case h_2 => cases h
  rename_i c1 hM1
  split at h
  case h_2 => cases h
  rename_i i2 he2
  split at h
  case h_2 => cases h
  rename_i c2 hM2
  split at h
  case h_2 => cases h
  rename_i i3 he3
  split at h
  case h_2 => cases h
  rename_i c3 hM3
  split at h
  case h_2 => cases h
  rename_i i4 he4
  split at h
  case h_2 => cases h
  rename_i c4 hM4
  try dsimp only at h
  cases h
  refine callOk_of fun ho => ?_
  obtain ⟨oc0, oc1, oc2, oc3, oc4, hs, hne0, hne1, hne2, hne3, hne4, hne5, hne6, hne7, hne8, hne9⟩ := ho
  generalize (Tf.dec c0 (Th.dec c1 (decM dkI (dvA Ta.dec) c2)) (Tn.dec c3) (decM dkI (dvA Tb.dec) c4)) = y0 at *
  subst oc0
  subst oc1
  subst oc2
  subst oc3
  subst oc4
  obtain ⟨r, hr⟩ := Option.isSome_iff_exists.1 hs
  simp only [hr, Option.getD_some]
  have q := Lg (M := M) [i0, i1, i2, i3, i4] (gg.can y0 x1 r hr) (by simp [hne0, hne1, hne2, hne3, hne4, hne5, hne6, hne7, hne8, hne9]) rfl (by intro k i hk; (cases k with | zero => (simp at hk; subst hk; simp [hM0, into]) | succ k => ((cases k with | zero => (simp at hk; subst hk; simp [hM1, into]) | succ k => ((cases k with | zero => (simp at hk; subst hk; simp [hM2]) | succ k => ((cases k with | zero => (simp at hk; subst hk; simp [hM3]) | succ k => ((cases k with | zero => (simp at hk; subst hk; simp [hM4]) | succ k => (simp at hk)))))))))))
  exact callOk_conv q trivial (by simp [into]) (by simp [frameOut, gg.out, into]) (by simp [frameOut, gg.out, into])
 ·cases h

@[simp] def ge.out (_x0 : Tf) (_x1 : Int) (r : Int × Bool × Tf) : Out := { av := .tup [.lit (.int .i64 r.1), .lit (.bool r.2.1)], M := some [.blk [.ptr 1 0, .ptr 3 0, .lit (.bool r.2.2.ff.fd), .lit (.int .i64 r.2.2.ff.fk), .lit (.int .u16 r.2.2.ff.fW), .lit (.int .i64 r.2.2.ff.fK), .lit (.int .i64 r.2.2.ff.fA), .lit (.bool r.2.2.fh.fd), .lit (.int .i64 r.2.2.fh.fX), .mp 4, .lit (.int .i64 r.2.2.fq), .lit (.int .i64 r.2.2.fo)], .blk [.lit (.int .i64 r.2.2.fa.fb.fk), .lit (.int .i64 r.2.2.fa.fb.fp), .lit (.bool r.2.2.fa.fd), .lit (.int .i64 r.2.2.fa.fg), .mp 2, .lit (.int .i64 r.2.2.fa.fe)], .mapo (encM (kI .i64) (vA Ta.enc) r.2.2.fa.fOf), .blk [.lit (.bool r.2.2.fc.fb.fu), .lit (.int .i64 r.2.2.fc.fb.fw), .lit (.int .i64 r.2.2.fc.fb.fj), .lit (.int .i64 r.2.2.fc.fb.fp), .sl (r.2.2.fc.fv.fj.map Tc.enc) .no, .lit (.int .i64 r.2.2.fc.fy), .lit (.int .i64 r.2.2.fc.fe)], .mapo (encM (kI .i64) (vA Tb.enc) r.2.2.fOf)] }
def ge.fin (x0 : Tf) (x1 : Int) (r : Int × Bool × Tf) (σ : St) : Prop := finK (ge.out x0 x1 r) [.blk ([.ptr 1 0, .ptr 3 0] ++ x0.ff.enc ++ x0.fh.enc ++ [.mp 4, .lit (.int .i64 x0.fq), .lit (.int .i64 x0.fo)]), .blk (x0.fa.fb.enc ++ [.lit (.bool x0.fa.fd), .lit (.int .i64 x0.fa.fg), .mp 2, .lit (.int .i64 x0.fa.fe)]), .mapo (encM (kI .i64) (vA Ta.enc) x0.fa.fOf), .blk x0.fc.enc, .mapo (encM (kI .i64) (vA Tb.enc) x0.fOf)] σ.M (resA Tryz.ty σ.A σ.M Tryz.f24.results.toList)
theorem ge.can (x0 : Tf) (x1 : Int) (r : Int × Bool × Tf) (hr : ge x0 x1 = some r) : CallOk Tryz.prog 24 [.ptr 0 2, .lit (.int .u16 x1)] [.blk ([.ptr 1 0, .ptr 3 0] ++ x0.ff.enc ++ x0.fh.enc ++ [.mp 4, .lit (.int .i64 x0.fq), .lit (.int .i64 x0.fo)]), .blk (x0.fa.fb.enc ++ [.lit (.bool x0.fa.fd), .lit (.int .i64 x0.fa.fg), .mp 2, .lit (.int .i64 x0.fa.fe)]), .mapo (encM (kI .i64) (vA Ta.enc) x0.fa.fOf), .blk x0.fc.enc, .mapo (encM (kI .i64) (vA Tb.enc) x0.fOf)] (ge.out x0 x1 r) := by
 unfold ge at hr
 have hΓ := (gamL_cons gg.ok (gamL_cons gT.ok (gamL_nil)) : GamOk Tryz.prog _)
 refine Le Tryz.tyOk Tryz.func24 rfl (by kernel_rfl) rfl rfl (by simp) ?_
 intro _ _ _
 refine AWp.then ⟨[⟨0, none, .ptr 0 2⟩, ⟨1, none, .lit (.int .u16 x1)⟩], [.blk ([.ptr 1 0, .ptr 3 0] ++ x0.ff.enc ++ x0.fh.enc ++ [.mp 4, .n x0.fq, .n x0.fo]), .blk (x0.fa.fb.enc ++ [.b x0.fa.fd, .n x0.fa.fg, .mp 2, .n x0.fa.fe]), .mapo (encM (kI .i64) (vA Ta.enc) x0.fa.fOf), .blk x0.fc.enc, .mapo (encM (kI .i64) (vA Tb.enc) x0.fOf)]⟩ (AWp.reg Tryz.tyOk hΓ [] [] (by kernel_rfl) rfl (by simp)) ?_
 refine AWp.seq ?_
 refine AWp.then ⟨[⟨12, none, .b (notB x0.ff.fd)⟩, ⟨0, none, .ptr 0 2⟩, ⟨1, none, .lit (.int .u16 x1)⟩], [.blk ([.ptr 1 0, .ptr 3 0] ++ x0.ff.enc ++ x0.fh.enc ++ [.mp 4, .n x0.fq, .n x0.fo]), .blk (x0.fa.fb.enc ++ [.b x0.fa.fd, .n x0.fa.fg, .mp 2, .n x0.fa.fe]), .mapo (encM (kI .i64) (vA Ta.enc) x0.fa.fOf), .blk x0.fc.enc, .mapo (encM (kI .i64) (vA Tb.enc) x0.fOf)]⟩ (AWp.reg Tryz.tyOk hΓ [12] [] (by kernel_rfl) rfl (by simp)) ?_
 refine AWp.cond (b := (notB x0.ff.fd)) (by simp) (fun h7 => ?_) (fun h7 => ?_)
 ·have hr := Li h7 hr
  refine AWp.then ⟨[⟨0, none, .ptr 0 2⟩], [.blk ([.ptr 1 0, .ptr 3 0, .b true, .n (addI .i64 1048576 (cvtI .i64 x1)), .lit (.int .u16 x0.ff.fW), .n x0.ff.fK, .n x0.ff.fA] ++ x0.fh.enc ++ [.mp 4, .n x0.fq, .n x0.fo]), .blk (x0.fa.fb.enc ++ [.b x0.fa.fd, .n x0.fa.fg, .mp 2, .n x0.fa.fe]), .mapo (encM (kI .i64) (vA Ta.enc) x0.fa.fOf), .blk x0.fc.enc, .mapo (encM (kI .i64) (vA Tb.enc) x0.fOf)]⟩ (AWp.reg Tryz.tyOk hΓ [] [12, 1] (by kernel_rfl) rfl (by simp [h7])) ?_
  refine AWp.thenA [⟨4, none, .n (addI .i64 1048576 (cvtI .i64 x1))⟩, ⟨5, none, .b true⟩] (AWp.reg Tryz.tyOk hΓ [4, 5] [0] (by kernel_rfl) rfl (by simp)) ?_
  refine AWp.ret ?_
  obtain rfl := La hr
  refine Lf ?_
  simp
 ·have hr := Lj h7 hr
  refine AWp.skip ?_
  obtain ⟨r1, h8, hr⟩ := Lb hr
  refine AWp.then ⟨[⟨6, none, .n r1⟩, ⟨0, none, .ptr 0 2⟩, ⟨1, none, .lit (.int .u16 x1)⟩], [.blk ([.ptr 1 0, .ptr 3 0] ++ x0.ff.enc ++ x0.fh.enc ++ [.mp 4, .n x0.fq, .n x0.fo]), .blk (x0.fa.fb.enc ++ [.b x0.fa.fd, .n x0.fa.fg, .mp 2, .n x0.fa.fe]), .mapo (encM (kI .i64) (vA Ta.enc) x0.fa.fOf), .blk x0.fc.enc, .mapo (encM (kI .i64) (vA Tb.enc) x0.fOf)]⟩ (AWp.reg Tryz.tyOk hΓ [6] [12] (by kernel_rfl) rfl (by simp [h7, h8])) ?_
  refine AWp.seq ?_
  refine AWp.then ⟨[⟨7, none, .n (subI .i64 r1 x0.ff.fk)⟩, ⟨6, none, .n r1⟩, ⟨0, none, .ptr 0 2⟩, ⟨1, none, .lit (.int .u16 x1)⟩], [.blk ([.ptr 1 0, .ptr 3 0] ++ x0.ff.enc ++ x0.fh.enc ++ [.mp 4, .n x0.fq, .n x0.fo]), .blk (x0.fa.fb.enc ++ [.b x0.fa.fd, .n x0.fa.fg, .mp 2, .n x0.fa.fe]), .mapo (encM (kI .i64) (vA Ta.enc) x0.fa.fOf), .blk x0.fc.enc, .mapo (encM (kI .i64) (vA Tb.enc) x0.fOf)]⟩ (AWp.reg Tryz.tyOk hΓ [7] [] (by kernel_rfl) rfl (by simp)) ?_
  refine AWp.thenA [⟨43, none, .b (pickB (leqI (subI .i64 r1 x0.ff.fk) 3000) (leqI (-3000) (subI .i64 r1 x0.ff.fk)) false)⟩, ⟨6, none, .n r1⟩, ⟨0, none, .ptr 0 2⟩, ⟨1, none, .lit (.int .u16 x1)⟩] (AWp.reg Tryz.tyOk hΓ [43] [7] (by kernel_rfl) rfl (by simp)) ?_
  refine AWp.cond (b := (pickB (leqI (subI .i64 r1 x0.ff.fk) 3000) (leqI (-3000) (subI .i64 r1 x0.ff.fk)) false)) (by simp) (fun h9 => ?_) (fun h9 => ?_)
  ·have hr := Li h9 hr
   refine AWp.then ⟨[⟨6, none, .n r1⟩, ⟨0, none, .ptr 0 2⟩], [.blk ([.ptr 1 0, .ptr 3 0, .b x0.ff.fd, .n (maxI x0.ff.fk r1), .lit (.int .u16 x0.ff.fW), .n x0.ff.fK, .n x0.ff.fA] ++ x0.fh.enc ++ [.mp 4, .n x0.fq, .n x0.fo]), .blk (x0.fa.fb.enc ++ [.b x0.fa.fd, .n x0.fa.fg, .mp 2, .n x0.fa.fe]), .mapo (encM (kI .i64) (vA Ta.enc) x0.fa.fOf), .blk x0.fc.enc, .mapo (encM (kI .i64) (vA Tb.enc) x0.fOf)]⟩ (AWp.reg Tryz.tyOk hΓ [] [43, 1] (by kernel_rfl) rfl (by simp [h9])) ?_
   refine AWp.then ⟨[⟨6, none, .n r1⟩], [.blk ([.ptr 1 0, .ptr 3 0, .b x0.ff.fd, .n (maxI x0.ff.fk r1), .lit (.int .u16 x0.ff.fW), .n 0, .n x0.ff.fA] ++ x0.fh.enc ++ [.mp 4, .n x0.fq, .n x0.fo]), .blk (x0.fa.fb.enc ++ [.b x0.fa.fd, .n x0.fa.fg, .mp 2, .n x0.fa.fe]), .mapo (encM (kI .i64) (vA Ta.enc) x0.fa.fOf), .blk x0.fc.enc, .mapo (encM (kI .i64) (vA Tb.enc) x0.fOf)]⟩ (AWp.reg Tryz.tyOk hΓ [] [0] (by kernel_rfl) rfl (by simp)) ?_
   refine AWp.thenA [⟨4, none, .n r1⟩, ⟨5, none, .b true⟩] (AWp.reg Tryz.tyOk hΓ [4, 5] [6] (by kernel_rfl) rfl (by simp)) ?_
   refine AWp.ret ?_
   obtain rfl := La hr
   refine Lf ?_
   simp
  ·have hr := Lj h9 hr
   refine AWp.skip ?_
   refine AWp.meetF (fun (v1 : Tx) (γ1 : Unit) => ⟨[⟨0, none, .ptr 0 2⟩, ⟨1, none, .lit (.int .u16 x1)⟩], [.blk ([.ptr 1 0, .ptr 3 0] ++ v1.enc ++ x0.fh.enc ++ [.mp 4, .n x0.fq, .n x0.fo]), .blk (x0.fa.fb.enc ++ [.b x0.fa.fd, .n x0.fa.fg, .mp 2, .n x0.fa.fe]), .mapo (encM (kI .i64) (vA Ta.enc) x0.fa.fOf), .blk x0.fc.enc, .mapo (encM (kI .i64) (vA Tb.enc) x0.fOf)]⟩) (ge.fin x0 x1) hr (fun f hr => ?_) (fun v1 γ1 hr => ?_) (fun _ h => h)
   ·refine AWp.then ⟨[⟨69, none, .b (pickB (ltI 0 x0.ff.fK) (eqI x1 x0.ff.fW) false)⟩, ⟨0, none, .ptr 0 2⟩, ⟨1, none, .lit (.int .u16 x1)⟩], [.blk ([.ptr 1 0, .ptr 3 0] ++ x0.ff.enc ++ x0.fh.enc ++ [.mp 4, .n x0.fq, .n x0.fo]), .blk (x0.fa.fb.enc ++ [.b x0.fa.fd, .n x0.fa.fg, .mp 2, .n x0.fa.fe]), .mapo (encM (kI .i64) (vA Ta.enc) x0.fa.fOf), .blk x0.fc.enc, .mapo (encM (kI .i64) (vA Tb.enc) x0.fOf)]⟩ (AWp.reg Tryz.tyOk hΓ [69] [43, 6] (by kernel_rfl) rfl (by simp [h9])) ?_
    refine AWp.cond (b := (pickB (ltI 0 x0.ff.fK) (eqI x1 x0.ff.fW) false)) (by simp) (fun h10 => ?_) (fun h10 => ?_)
    ·have hr := Li h10 hr
     refine AWp.last ⟨[⟨0, none, .ptr 0 2⟩, ⟨1, none, .lit (.int .u16 x1)⟩], [.blk ([.ptr 1 0, .ptr 3 0, .b x0.ff.fd, .n x0.ff.fk, .lit (.int .u16 x0.ff.fW), .n (addI .i64 x0.ff.fK 1), .n x0.ff.fA] ++ x0.fh.enc ++ [.mp 4, .n x0.fq, .n x0.fo]), .blk (x0.fa.fb.enc ++ [.b x0.fa.fd, .n x0.fa.fg, .mp 2, .n x0.fa.fe]), .mapo (encM (kI .i64) (vA Ta.enc) x0.fa.fOf), .blk x0.fc.enc, .mapo (encM (kI .i64) (vA Tb.enc) x0.fOf)]⟩ (AWp.reg Tryz.tyOk hΓ [] [69] (by kernel_rfl) rfl (by simp [h10])) ?_
     obtain rfl := La hr
     exact Ll () 5 (by first | (simp; done) | simp [h7, h8, h9, h10])
    ·have hr := Lj h10 hr
     refine AWp.last ⟨[⟨0, none, .ptr 0 2⟩, ⟨1, none, .lit (.int .u16 x1)⟩], [.blk ([.ptr 1 0, .ptr 3 0, .b x0.ff.fd, .n x0.ff.fk, .lit (.int .u16 x0.ff.fW), .n 1, .n x0.ff.fA] ++ x0.fh.enc ++ [.mp 4, .n x0.fq, .n x0.fo]), .blk (x0.fa.fb.enc ++ [.b x0.fa.fd, .n x0.fa.fg, .mp 2, .n x0.fa.fe]), .mapo (encM (kI .i64) (vA Ta.enc) x0.fa.fOf), .blk x0.fc.enc, .mapo (encM (kI .i64) (vA Tb.enc) x0.fOf)]⟩ (AWp.reg Tryz.tyOk hΓ [] [69] (by kernel_rfl) rfl (by simp [h10])) ?_
     obtain rfl := La hr
     exact Ll () 5 (by first | (simp; done) | simp [h7, h8, h9, h10])
   ·refine AWp.then ⟨[⟨0, none, .ptr 0 2⟩, ⟨1, none, .lit (.int .u16 x1)⟩], [.blk ([.ptr 1 0, .ptr 3 0, .b v1.fd, .n v1.fk, .lit (.int .u16 (addI .u16 x1 1)), .n v1.fK, .n v1.fA] ++ x0.fh.enc ++ [.mp 4, .n x0.fq, .n x0.fo]), .blk (x0.fa.fb.enc ++ [.b x0.fa.fd, .n x0.fa.fg, .mp 2, .n x0.fa.fe]), .mapo (encM (kI .i64) (vA Ta.enc) x0.fa.fOf), .blk x0.fc.enc, .mapo (encM (kI .i64) (vA Tb.enc) x0.fOf)]⟩ (AWp.reg Tryz.tyOk hΓ [] [] (by kernel_rfl) rfl (by simp)) ?_
    refine AWp.seq ?_
    refine AWp.then ⟨[⟨89, none, .b (leqI 2 v1.fK)⟩, ⟨0, none, .ptr 0 2⟩, ⟨1, none, .lit (.int .u16 x1)⟩], [.blk ([.ptr 1 0, .ptr 3 0, .b v1.fd, .n v1.fk, .lit (.int .u16 (addI .u16 x1 1)), .n v1.fK, .n v1.fA] ++ x0.fh.enc ++ [.mp 4, .n x0.fq, .n x0.fo]), .blk (x0.fa.fb.enc ++ [.b x0.fa.fd, .n x0.fa.fg, .mp 2, .n x0.fa.fe]), .mapo (encM (kI .i64) (vA Ta.enc) x0.fa.fOf), .blk x0.fc.enc, .mapo (encM (kI .i64) (vA Tb.enc) x0.fOf)]⟩ (AWp.reg Tryz.tyOk hΓ [89] [] (by kernel_rfl) rfl (by simp)) ?_
    refine AWp.cond (b := (leqI 2 v1.fK)) (by simp) (fun h11 => ?_) (fun h11 => ?_)
    ·have hr := Li h11 hr
     obtain ⟨r2, h12, hr⟩ := Lb hr
     refine AWp.then ⟨[⟨4, none, .n r2.1⟩, ⟨5, none, .b true⟩], [.blk ([.ptr 1 0, .ptr 3 0] ++ r2.2.ff.enc ++ r2.2.fh.enc ++ [.mp 4, .n r2.2.fq, .n r2.2.fo]), .blk (r2.2.fa.fb.enc ++ [.b r2.2.fa.fd, .n r2.2.fa.fg, .mp 2, .n r2.2.fa.fe]), .mapo (encM (kI .i64) (vA Ta.enc) r2.2.fa.fOf), .blk r2.2.fc.enc, .mapo (encM (kI .i64) (vA Tb.enc) r2.2.fOf)]⟩ (AWp.reg Tryz.tyOk hΓ [4, 5] [89, 0, 1] (by kernel_rfl) rfl (by simp [h11, h12])) ?_
     refine AWp.ret ?_
     obtain rfl := La hr
     refine Lf ?_
     simp
    ·have hr := Lj h11 hr
     refine AWp.skip ?_
     refine AWp.then ⟨[⟨4, none, .n 0⟩, ⟨5, none, .b false⟩], [.blk ([.ptr 1 0, .ptr 3 0, .b v1.fd, .n v1.fk, .lit (.int .u16 (addI .u16 x1 1)), .n v1.fK, .n v1.fA] ++ x0.fh.enc ++ [.mp 4, .n x0.fq, .n x0.fo]), .blk (x0.fa.fb.enc ++ [.b x0.fa.fd, .n x0.fa.fg, .mp 2, .n x0.fa.fe]), .mapo (encM (kI .i64) (vA Ta.enc) x0.fa.fOf), .blk x0.fc.enc, .mapo (encM (kI .i64) (vA Tb.enc) x0.fOf)]⟩ (AWp.reg Tryz.tyOk hΓ [4, 5] [89, 0, 1] (by kernel_rfl) rfl (by simp [h11])) ?_
     refine AWp.ret ?_
     obtain rfl := La hr
     refine Lf ?_
     simp

@[simp] noncomputable def ge.S : Sp
 | [.ptr i0 2, .lit (.int .u16 x1)], M => match M[i0]? with
  | some (.blk c0) => (match nthE c0 0 with
  | some (.ptr i1 0) => (match M[i1]? with
  | some (.blk c1) => (match nthE c1 4 with
  | some (.mp i2) => (match M[i2]? with
  | some (.mapo c2) => (match nthE c0 1 with
  | some (.ptr i3 0) => (match M[i3]? with
  | some (.blk c3) => (match nthE c0 9 with
  | some (.mp i4) => (match M[i4]? with
  | some (.mapo c4) => (fun (y0 : Tf) => (fun (r : Int × Bool × Tf) => some { av := .tup [.lit (.int .i64 (r.1)), .lit (.bool (r.2.1))], M := some (((((M.set i0 (.blk [.ptr i1 0, .ptr i3 0, .lit (.bool (r.2.2.ff.fd)), .lit (.int .i64 (r.2.2.ff.fk)), .lit (.int .u16 (r.2.2.ff.fW)), .lit (.int .i64 (r.2.2.ff.fK)), .lit (.int .i64 (r.2.2.ff.fA)), .lit (.bool (r.2.2.fh.fd)), .lit (.int .i64 (r.2.2.fh.fX)), .mp i4, .lit (.int .i64 (r.2.2.fq)), .lit (.int .i64 (r.2.2.fo))])).set i1 (.blk [.lit (.int .i64 (r.2.2.fa.fb.fk)), .lit (.int .i64 (r.2.2.fa.fb.fp)), .lit (.bool (r.2.2.fa.fd)), .lit (.int .i64 (r.2.2.fa.fg)), .mp i2, .lit (.int .i64 (r.2.2.fa.fe))])).set i2 (.mapo (encM (kI .i64) (vA Ta.enc) (r.2.2.fa.fOf)))).set i3 (.blk [.lit (.bool (r.2.2.fc.fb.fu)), .lit (.int .i64 (r.2.2.fc.fb.fw)), .lit (.int .i64 (r.2.2.fc.fb.fj)), .lit (.int .i64 (r.2.2.fc.fb.fp)), .sl ((r.2.2.fc.fv.fj).map Tc.enc) .no, .lit (.int .i64 (r.2.2.fc.fy)), .lit (.int .i64 (r.2.2.fc.fe))])).set i4 (.mapo (encM (kI .i64) (vA Tb.enc) (r.2.2.fOf)))), obl := c0 = Tf.enc y0 i1 i3 i4 ∧ c1 = Th.enc (y0.fa) i2 ∧ c2 = encM (kI .i64) (vA Ta.enc) (y0.fa.fOf) ∧ c3 = Tn.enc (y0.fc) ∧ c4 = encM (kI .i64) (vA Tb.enc) (y0.fOf) ∧ (ge y0 x1).isSome = true ∧ i0 ≠ i1 ∧ i0 ≠ i2 ∧ i0 ≠ i3 ∧ i0 ≠ i4 ∧ i1 ≠ i2 ∧ i1 ≠ i3 ∧ i1 ≠ i4 ∧ i2 ≠ i3 ∧ i2 ≠ i4 ∧ i3 ≠ i4 }) ((ge y0 x1).getD dflt)) (Tf.dec c0 (Th.dec c1 (decM dkI (dvA Ta.dec) c2)) (Tn.dec c3) (decM dkI (dvA Tb.dec) c4))
  | _ => none)
  | _ => none)
  | _ => none)
  | _ => none)
  | _ => none)
  | _ => none)
  | _ => none)
  | _ => none)
  | _ => none
 | _, _ => none

theorem ge.ok : SpecOk Tryz.prog 24 ge.S := by
 intro l M out h
 unfold ge.S at h
 split at h
 ·rename_i i0 x1
  split at h
  case h_2 => cases h
  rename_i c0 hM0
  split at h
  case h_2 => cases h
  rename_i i1 he1
  split at h
  case h_2 => cases h
  rename_i c1 hM1
  split at h
  case h_2 => cases h
  rename_i i2 he2
  split at h
  case h_2 => cases h
  rename_i c2 hM2
  split at h
  case h_2 => cases h
  rename_i i3 he3
  split at h
  case h_2 => cases h
  rename_i c3 hM3
  split at h
  case h_2 => cases h
  rename_i i4 he4
  split at h
  case h_2 => cases h
  rename_i c4 hM4
  try dsimp only at h
  cases h
  refine callOk_of fun ho => ?_
  obtain ⟨oc0, oc1, oc2, oc3, oc4, hs, hne0, hne1, hne2, hne3, hne4, hne5, hne6, hne7, hne8, hne9⟩ := ho
  generalize (Tf.dec c0 (Th.dec c1 (decM dkI (dvA Ta.dec) c2)) (Tn.dec c3) (decM dkI (dvA Tb.dec) c4)) = y0 at *
  subst oc0
  subst oc1
  subst oc2
  subst oc3
  subst oc4
  obtain ⟨r, hr⟩ := Option.isSome_iff_exists.1 hs
  simp only [hr, Option.getD_some]
  have q := Lg (M := M) [i0, i1, i2, i3, i4] (ge.can y0 x1 r hr) (by simp [hne0, hne1, hne2, hne3, hne4, hne5, hne6, hne7, hne8, hne9]) rfl (by intro k i hk; (cases k with | zero => (simp at hk; subst hk; simp [hM0, into]) | succ k => ((cases k with | zero => (simp at hk; subst hk; simp [hM1, into]) | succ k => ((cases k with | zero => (simp at hk; subst hk; simp [hM2]) | succ k => ((cases k with | zero => (simp at hk; subst hk; simp [hM3]) | succ k => ((cases k with | zero => (simp at hk; subst hk; simp [hM4]) | succ k => (simp at hk)))))))))))
  exact callOk_conv q trivial (by simp [into]) (by simp [frameOut, ge.out, into]) (by simp [frameOut, ge.out, into])
 ·cases h

@[simp] def gi.out (_x0 : Tf) (_x1 : Int) (r : Int × Tf) : Out := { av := .lit (.int .i64 r.1), M := some [.blk [.ptr 1 0, .ptr 3 0, .lit (.bool r.2.ff.fd), .lit (.int .i64 r.2.ff.fk), .lit (.int .u16 r.2.ff.fW), .lit (.int .i64 r.2.ff.fK), .lit (.int .i64 r.2.ff.fA), .lit (.bool r.2.fh.fd), .lit (.int .i64 r.2.fh.fX), .mp 4, .lit (.int .i64 r.2.fq), .lit (.int .i64 r.2.fo)], .blk [.lit (.int .i64 r.2.fa.fb.fk), .lit (.int .i64 r.2.fa.fb.fp), .lit (.bool r.2.fa.fd), .lit (.int .i64 r.2.fa.fg), .mp 2, .lit (.int .i64 r.2.fa.fe)], .mapo (encM (kI .i64) (vA Ta.enc) r.2.fa.fOf), .blk [.lit (.bool r.2.fc.fb.fu), .lit (.int .i64 r.2.fc.fb.fw), .lit (.int .i64 r.2.fc.fb.fj), .lit (.int .i64 r.2.fc.fb.fp), .sl (r.2.fc.fv.fj.map Tc.enc) .no, .lit (.int .i64 r.2.fc.fy), .lit (.int .i64 r.2.fc.fe)], .mapo (encM (kI .i64) (vA Tb.enc) r.2.fOf)] }
theorem gi.can (x0 : Tf) (x1 : Int) (r : Int × Tf) (hr : gi x0 x1 = some r) : CallOk Tryz.prog 71 [.ptr 0 7, .lit (.int .u32 x1)] [.blk ([.ptr 1 0, .ptr 3 0] ++ x0.ff.enc ++ x0.fh.enc ++ [.mp 4, .lit (.int .i64 x0.fq), .lit (.int .i64 x0.fo)]), .blk (x0.fa.fb.enc ++ [.lit (.bool x0.fa.fd), .lit (.int .i64 x0.fa.fg), .mp 2, .lit (.int .i64 x0.fa.fe)]), .mapo (encM (kI .i64) (vA Ta.enc) x0.fa.fOf), .blk x0.fc.enc, .mapo (encM (kI .i64) (vA Tb.enc) x0.fOf)] (gi.out x0 x1 r) := by
 unfold gi at hr
 have hΓ := (gamL_cons gU.ok (gamL_nil) : GamOk Tryz.prog _)
 refine Le Tryz.tyOk Tryz.func71 rfl (by kernel_rfl) rfl rfl (by simp) ?_
 intro _ _ _
 refine AWp.then ⟨[⟨0, none, .ptr 0 7⟩, ⟨1, none, .lit (.int .u32 x1)⟩], [.blk ([.ptr 1 0, .ptr 3 0] ++ x0.ff.enc ++ x0.fh.enc ++ [.mp 4, .n x0.fq, .n x0.fo]), .blk (x0.fa.fb.enc ++ [.b x0.fa.fd, .n x0.fa.fg, .mp 2, .n x0.fa.fe]), .mapo (encM (kI .i64) (vA Ta.enc) x0.fa.fOf), .blk x0.fc.enc, .mapo (encM (kI .i64) (vA Tb.enc) x0.fOf)]⟩ (AWp.reg Tryz.tyOk hΓ [] [] (by kernel_rfl) rfl (by simp)) ?_
 refine AWp.seq ?_
 refine AWp.then ⟨[⟨10, none, .b (notB x0.fh.fd)⟩, ⟨0, none, .ptr 0 7⟩, ⟨1, none, .lit (.int .u32 x1)⟩], [.blk ([.ptr 1 0, .ptr 3 0] ++ x0.ff.enc ++ x0.fh.enc ++ [.mp 4, .n x0.fq, .n x0.fo]), .blk (x0.fa.fb.enc ++ [.b x0.fa.fd, .n x0.fa.fg, .mp 2, .n x0.fa.fe]), .mapo (encM (kI .i64) (vA Ta.enc) x0.fa.fOf), .blk x0.fc.enc, .mapo (encM (kI .i64) (vA Tb.enc) x0.fOf)]⟩ (AWp.reg Tryz.tyOk hΓ [10] [] (by kernel_rfl) rfl (by simp)) ?_
 refine AWp.cond (b := (notB x0.fh.fd)) (by simp) (fun h3 => ?_) (fun h3 => ?_)
 ·have hr := Li h3 hr
  refine AWp.then ⟨[⟨0, none, .ptr 0 7⟩], [.blk ([.ptr 1 0, .ptr 3 0] ++ x0.ff.enc ++ [.b true, .n (addI .i64 68719476736 (cvtI .i64 x1)), .mp 4, .n x0.fq, .n x0.fo]), .blk (x0.fa.fb.enc ++ [.b x0.fa.fd, .n x0.fa.fg, .mp 2, .n x0.fa.fe]), .mapo (encM (kI .i64) (vA Ta.enc) x0.fa.fOf), .blk x0.fc.enc, .mapo (encM (kI .i64) (vA Tb.enc) x0.fOf)]⟩ (AWp.reg Tryz.tyOk hΓ [] [10, 1] (by kernel_rfl) rfl (by simp [h3])) ?_
  refine AWp.thenA [⟨4, none, .n (addI .i64 68719476736 (cvtI .i64 x1))⟩] (AWp.reg Tryz.tyOk hΓ [4] [0] (by kernel_rfl) rfl (by simp)) ?_
  refine AWp.ret ?_
  obtain rfl := La hr
  refine Lf ?_
  simp
 ·have hr := Lj h3 hr
  refine AWp.skip ?_
  obtain ⟨r1, h4, hr⟩ := Lb hr
  refine AWp.then ⟨[⟨5, none, .n r1⟩, ⟨0, none, .ptr 0 7⟩], [.blk ([.ptr 1 0, .ptr 3 0] ++ x0.ff.enc ++ x0.fh.enc ++ [.mp 4, .n x0.fq, .n x0.fo]), .blk (x0.fa.fb.enc ++ [.b x0.fa.fd, .n x0.fa.fg, .mp 2, .n x0.fa.fe]), .mapo (encM (kI .i64) (vA Ta.enc) x0.fa.fOf), .blk x0.fc.enc, .mapo (encM (kI .i64) (vA Tb.enc) x0.fOf)]⟩ (AWp.reg Tryz.tyOk hΓ [5] [10, 1] (by kernel_rfl) rfl (by simp [h3, h4])) ?_
  refine AWp.then ⟨[⟨5, none, .n r1⟩], [.blk ([.ptr 1 0, .ptr 3 0] ++ x0.ff.enc ++ [.b x0.fh.fd, .n (maxI x0.fh.fX r1), .mp 4, .n x0.fq, .n x0.fo]), .blk (x0.fa.fb.enc ++ [.b x0.fa.fd, .n x0.fa.fg, .mp 2, .n x0.fa.fe]), .mapo (encM (kI .i64) (vA Ta.enc) x0.fa.fOf), .blk x0.fc.enc, .mapo (encM (kI .i64) (vA Tb.enc) x0.fOf)]⟩ (AWp.reg Tryz.tyOk hΓ [] [0] (by kernel_rfl) rfl (by simp)) ?_
  refine AWp.thenA [⟨4, none, .n r1⟩] (AWp.reg Tryz.tyOk hΓ [4] [5] (by kernel_rfl) rfl (by simp)) ?_
  refine AWp.ret ?_
  obtain rfl := La hr
  refine Lf ?_
  simp

@[simp] noncomputable def gi.S : Sp
 | [.ptr i0 7, .lit (.int .u32 x1)], M => match M[i0]? with
  | some (.blk c0) => (match nthE c0 0 with
  | some (.ptr i1 0) => (match M[i1]? with
  | some (.blk c1) => (match nthE c1 4 with
  | some (.mp i2) => (match M[i2]? with
  | some (.mapo c2) => (match nthE c0 1 with
  | some (.ptr i3 0) => (match M[i3]? with
  | some (.blk c3) => (match nthE c0 9 with
  | some (.mp i4) => (match M[i4]? with
  | some (.mapo c4) => (fun (y0 : Tf) => (fun (r : Int × Tf) => some { av := .lit (.int .i64 (r.1)), M := some (((((M.set i0 (.blk [.ptr i1 0, .ptr i3 0, .lit (.bool (r.2.ff.fd)), .lit (.int .i64 (r.2.ff.fk)), .lit (.int .u16 (r.2.ff.fW)), .lit (.int .i64 (r.2.ff.fK)), .lit (.int .i64 (r.2.ff.fA)), .lit (.bool (r.2.fh.fd)), .lit (.int .i64 (r.2.fh.fX)), .mp i4, .lit (.int .i64 (r.2.fq)), .lit (.int .i64 (r.2.fo))])).set i1 (.blk [.lit (.int .i64 (r.2.fa.fb.fk)), .lit (.int .i64 (r.2.fa.fb.fp)), .lit (.bool (r.2.fa.fd)), .lit (.int .i64 (r.2.fa.fg)), .mp i2, .lit (.int .i64 (r.2.fa.fe))])).set i2 (.mapo (encM (kI .i64) (vA Ta.enc) (r.2.fa.fOf)))).set i3 (.blk [.lit (.bool (r.2.fc.fb.fu)), .lit (.int .i64 (r.2.fc.fb.fw)), .lit (.int .i64 (r.2.fc.fb.fj)), .lit (.int .i64 (r.2.fc.fb.fp)), .sl ((r.2.fc.fv.fj).map Tc.enc) .no, .lit (.int .i64 (r.2.fc.fy)), .lit (.int .i64 (r.2.fc.fe))])).set i4 (.mapo (encM (kI .i64) (vA Tb.enc) (r.2.fOf)))), obl := c0 = Tf.enc y0 i1 i3 i4 ∧ c1 = Th.enc (y0.fa) i2 ∧ c2 = encM (kI .i64) (vA Ta.enc) (y0.fa.fOf) ∧ c3 = Tn.enc (y0.fc) ∧ c4 = encM (kI .i64) (vA Tb.enc) (y0.fOf) ∧ (gi y0 x1).isSome = true ∧ i0 ≠ i1 ∧ i0 ≠ i2 ∧ i0 ≠ i3 ∧ i0 ≠ i4 ∧ i1 ≠ i2 ∧ i1 ≠ i3 ∧ i1 ≠ i4 ∧ i2 ≠ i3 ∧ i2 ≠ i4 ∧ i3 ≠ i4 }) ((gi y0 x1).getD dflt)) (Tf.dec c0 (Th.dec c1 (decM dkI (dvA Ta.dec) c2)) (Tn.dec c3) (decM dkI (dvA Tb.dec) c4))
  | _ => none)
  | _ => none)
  | _ => none)
  | _ => none)
  | _ => none)
  | _ => none)
  | _ => none)
  | _ => none)
  | _ => none
 | _, _ => none

theorem gi.ok : SpecOk Tryz.prog 71 gi.S := by
 intro l M out h
 unfold gi.S at h
 split at h
 ·rename_i i0 x1
  split at h
  case h_2 => cases h
  rename_i c0 hM0
  split at h
  case h_2 => cases h
  rename_i i1 he1
  split at h
  case h_2 => cases h
  rename_i c1 hM1
  split at h
  case h_2 => cases h
  rename_i i2 he2
  split at h
  case h_2 => cases h
  rename_i c2 hM2
  split at h
  case h_2 => cases h
  rename_i i3 he3
  split at h
  case h_2 => cases h
  rename_i c3 hM3
  split at h
  case h_2 => cases h
  rename_i i4 he4
  split at h
  case h_2 => cases h
  rename_i c4 hM4
  try dsimp only at h
  cases h
  refine callOk_of fun ho => ?_
  obtain ⟨oc0, oc1, oc2, oc3, oc4, hs, hne0, hne1, hne2, hne3, hne4, hne5, hne6, hne7, hne8, hne9⟩ := ho
  generalize (Tf.dec c0 (Th.dec c1 (decM dkI (dvA Ta.dec) c2)) (Tn.dec c3) (decM dkI (dvA Tb.dec) c4)) = y0 at *
  subst oc0
  subst oc1
  subst oc2
  subst oc3
  subst oc4
  obtain ⟨r, hr⟩ := Option.isSome_iff_exists.1 hs
  simp only [hr, Option.getD_some]
  have q := Lg (M := M) [i0, i1, i2, i3, i4] (gi.can y0 x1 r hr) (by simp [hne0, hne1, hne2, hne3, hne4, hne5, hne6, hne7, hne8, hne9]) rfl (by intro k i hk; (cases k with | zero => (simp at hk; subst hk; simp [hM0, into]) | succ k => ((cases k with | zero => (simp at hk; subst hk; simp [hM1, into]) | succ k => ((cases k with | zero => (simp at hk; subst hk; simp [hM2]) | succ k => ((cases k with | zero => (simp at hk; subst hk; simp [hM3]) | succ k => ((cases k with | zero => (simp at hk; subst hk; simp [hM4]) | succ k => (simp at hk)))))))))))
  exact callOk_conv q trivial (by simp [into]) (by simp [frameOut, gi.out, into]) (by simp [frameOut, gi.out, into])
 ·cases h
end Go.Proofs

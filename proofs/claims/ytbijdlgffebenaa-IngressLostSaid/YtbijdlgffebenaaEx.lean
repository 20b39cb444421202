/- That these functions compute what their plain functions do. No condition. -/
import Derived.Test.YtbijdlgffebenaaQ05
import Derived.Test.YtbijdlgffebenaaTy
set_option maxRecDepth 100000
set_option maxHeartbeats 4000000
namespace Go.Proofs
open Go.Ab
@[simp] def gK.out  (r : Int) : Out := { av := .lit (.int .u16 r), M := none }
def gK.fin  (r : Int) (σ : St) : Prop := finK (gK.out  r) [] σ.M (resA Try.ty σ.A σ.M Try.f63.results.toList)
theorem gK.can  (r : Int) (hr : gK = some r) : CallOk Try.prog 63 [] [] (gK.out  r) := by
 unfold gK at hr
 have hΓ := gamL_nil (P := Try.prog)
 refine Lf Try.tyOk Try.func63 rfl (by kernel_rfl) rfl rfl (by simp) ?_
 intro _ _ _
 refine AWp.then ⟨[], []⟩ (AWp.reg Try.tyOk hΓ [] [] (by kernel_rfl) rfl (by simp)) ?_
 refine AWp.thenA [⟨1, none, .lit (.int .u16 0)⟩] (AWp.reg Try.tyOk hΓ [1] [] (by kernel_rfl) rfl (by simp)) ?_
 obtain ⟨h2, hr⟩ := Li hr
 refine AWp.thenA [⟨0, none, .lit (.int .u16 (addI .u16 (shrI .u16 (subI .u16 0 1) 1) 1))⟩] (AWp.reg Try.tyOk hΓ [0] [1] (by kernel_rfl) rfl (by simp [h2])) ?_
 refine AWp.ret ?_
 obtain rfl := La hr
 refine Lg ?_
 simp

@[simp] noncomputable def gK.S : Sp
 | [], _ => some { av := .lit (.int .u16 (gK.getD dflt)), M := none, obl := gK.isSome = true }
 | _, _ => none

theorem gK.ok : SpecOk Try.prog 63 gK.S := by
 intro l M out h
 unfold gK.S at h
 split at h
 ·cases h
  refine callOk_of fun ho => ?_
  have hs := ho
  obtain ⟨r, hr⟩ := Option.isSome_iff_exists.1 hs
  simp only [hr, Option.getD_some]
  have q := Lh (M := M) [] (gK.can r hr) (by simp) rfl (by intro k i hk; simp at hk)
  exact callOk_conv q trivial (by simp) (by simp [frameOut, gK.out]) (by simp [frameOut, gK.out])
 ·cases h

@[simp] def gL.out  (r : Int) : Out := { av := .lit (.int .u32 r), M := none }
def gL.fin  (r : Int) (σ : St) : Prop := finK (gL.out  r) [] σ.M (resA Try.ty σ.A σ.M Try.f77.results.toList)
theorem gL.can  (r : Int) (hr : gL = some r) : CallOk Try.prog 77 [] [] (gL.out  r) := by
 unfold gL at hr
 have hΓ := gamL_nil (P := Try.prog)
 refine Lf Try.tyOk Try.func77 rfl (by kernel_rfl) rfl rfl (by simp) ?_
 intro _ _ _
 refine AWp.then ⟨[], []⟩ (AWp.reg Try.tyOk hΓ [] [] (by kernel_rfl) rfl (by simp)) ?_
 refine AWp.thenA [⟨1, none, .lit (.int .u32 0)⟩] (AWp.reg Try.tyOk hΓ [1] [] (by kernel_rfl) rfl (by simp)) ?_
 obtain ⟨h2, hr⟩ := Li hr
 refine AWp.thenA [⟨0, none, .lit (.int .u32 (addI .u32 (shrI .u32 (subI .u32 0 1) 1) 1))⟩] (AWp.reg Try.tyOk hΓ [0] [1] (by kernel_rfl) rfl (by simp [h2])) ?_
 refine AWp.ret ?_
 obtain rfl := La hr
 refine Lg ?_
 simp

@[simp] noncomputable def gL.S : Sp
 | [], _ => some { av := .lit (.int .u32 (gL.getD dflt)), M := none, obl := gL.isSome = true }
 | _, _ => none

theorem gL.ok : SpecOk Try.prog 77 gL.S := by
 intro l M out h
 unfold gL.S at h
 split at h
 ·cases h
  refine callOk_of fun ho => ?_
  have hs := ho
  obtain ⟨r, hr⟩ := Option.isSome_iff_exists.1 hs
  simp only [hr, Option.getD_some]
  have q := Lh (M := M) [] (gL.can r hr) (by simp) rfl (by intro k i hk; simp at hk)
  exact callOk_conv q trivial (by simp) (by simp [frameOut, gL.out]) (by simp [frameOut, gL.out])
 ·cases h

@[simp] def gR.out (_x0 : Int) (_x1 : Int) (r : Int) : Out := { av := .lit (.int .i64 r), M := none }
def gR.fin (x0 : Int) (x1 : Int) (r : Int) (σ : St) : Prop := finK (gR.out x0 x1 r) [] σ.M (resA Try.ty σ.A σ.M Try.f51.results.toList)
theorem gR.can (x0 : Int) (x1 : Int) (r : Int) (hr : gR x0 x1 = some r) : CallOk Try.prog 51 [.lit (.int .u16 x0), .lit (.int .u16 x1)] [] (gR.out x0 x1 r) := by
 unfold gR at hr
 have hΓ := (gamL_cons gK.ok (gamL_nil) : GamOk Try.prog _)
 refine Lf Try.tyOk Try.func51 rfl (by kernel_rfl) rfl rfl (by simp) ?_
 intro _ _ _
 refine AWp.then ⟨[⟨0, none, .lit (.int .u16 x0)⟩, ⟨1, none, .lit (.int .u16 x1)⟩], []⟩ (AWp.reg Try.tyOk hΓ [] [] (by kernel_rfl) rfl (by simp)) ?_
 refine AWp.thenA [⟨5, none, .lit (.int .u16 (subI .u16 x0 x1))⟩, ⟨0, none, .lit (.int .u16 x0)⟩, ⟨1, none, .lit (.int .u16 x1)⟩] (AWp.reg Try.tyOk hΓ [5] [] (by kernel_rfl) rfl (by simp)) ?_
 refine AWp.seq ?_
 obtain ⟨r1, h3, hr⟩ := Lc hr
 refine AWp.then ⟨[⟨11, none, .b (ltI (subI .u16 x0 x1) r1)⟩, ⟨5, none, .lit (.int .u16 (subI .u16 x0 x1))⟩, ⟨0, none, .lit (.int .u16 x0)⟩, ⟨1, none, .lit (.int .u16 x1)⟩], []⟩ (AWp.reg Try.tyOk hΓ [11] [] (by kernel_rfl) rfl (by simp [h3])) ?_
 refine AWp.cond (b := (ltI (subI .u16 x0 x1) r1)) (by simp) (fun h4 => ?_) (fun h4 => ?_)
 ·have hr := Lj h4 hr
  refine AWp.thenA [⟨4, none, .n (cvtI .i64 (subI .u16 x0 x1))⟩] (AWp.reg Try.tyOk hΓ [4] [11, 5, 0, 1] (by kernel_rfl) rfl (by simp [h4])) ?_
  refine AWp.ret ?_
  obtain rfl := La hr
  refine Lg ?_
  simp
 ·have hr := Lk h4 hr
  refine AWp.skip ?_
  refine AWp.then ⟨[⟨4, none, .n (negI .i64 (cvtI .i64 (subI .u16 x1 x0)))⟩], []⟩ (AWp.reg Try.tyOk hΓ [4] [11, 5, 0, 1] (by kernel_rfl) rfl (by simp [h4])) ?_
  refine AWp.ret ?_
  obtain rfl := La hr
  refine Lg ?_
  simp

@[simp] noncomputable def gR.S : Sp
 | [.lit (.int .u16 x0), .lit (.int .u16 x1)], _ => some { av := .lit (.int .i64 ((gR x0 x1).getD dflt)), M := none, obl := (gR x0 x1).isSome = true }
 | _, _ => none

theorem gR.ok : SpecOk Try.prog 51 gR.S := by
 intro l M out h
 unfold gR.S at h
 split at h
 ·rename_i x0 x1
  cases h
  refine callOk_of fun ho => ?_
  have hs := ho
  obtain ⟨r, hr⟩ := Option.isSome_iff_exists.1 hs
  simp only [hr, Option.getD_some]
  have q := Lh (M := M) [] (gR.can x0 x1 r hr) (by simp) rfl (by intro k i hk; simp at hk)
  exact callOk_conv q trivial (by simp) (by simp [frameOut, gR.out]) (by simp [frameOut, gR.out])
 ·cases h

@[simp] def gS.out (_x0 : Int) (_x1 : Int) (r : Int) : Out := { av := .lit (.int .i64 r), M := none }
def gS.fin (x0 : Int) (x1 : Int) (r : Int) (σ : St) : Prop := finK (gS.out x0 x1 r) [] σ.M (resA Try.ty σ.A σ.M Try.f73.results.toList)
theorem gS.can (x0 : Int) (x1 : Int) (r : Int) (hr : gS x0 x1 = some r) : CallOk Try.prog 73 [.lit (.int .u32 x0), .lit (.int .u32 x1)] [] (gS.out x0 x1 r) := by
 unfold gS at hr
 have hΓ := (gamL_cons gL.ok (gamL_nil) : GamOk Try.prog _)
 refine Lf Try.tyOk Try.func73 rfl (by kernel_rfl) rfl rfl (by simp) ?_
 intro _ _ _
 refine AWp.then ⟨[⟨0, none, .lit (.int .u32 x0)⟩, ⟨1, none, .lit (.int .u32 x1)⟩], []⟩ (AWp.reg Try.tyOk hΓ [] [] (by kernel_rfl) rfl (by simp)) ?_
 refine AWp.thenA [⟨5, none, .lit (.int .u32 (subI .u32 x0 x1))⟩, ⟨0, none, .lit (.int .u32 x0)⟩, ⟨1, none, .lit (.int .u32 x1)⟩] (AWp.reg Try.tyOk hΓ [5] [] (by kernel_rfl) rfl (by simp)) ?_
 refine AWp.seq ?_
 obtain ⟨r1, h3, hr⟩ := Lc hr
 refine AWp.then ⟨[⟨11, none, .b (ltI (subI .u32 x0 x1) r1)⟩, ⟨5, none, .lit (.int .u32 (subI .u32 x0 x1))⟩, ⟨0, none, .lit (.int .u32 x0)⟩, ⟨1, none, .lit (.int .u32 x1)⟩], []⟩ (AWp.reg Try.tyOk hΓ [11] [] (by kernel_rfl) rfl (by simp [h3])) ?_
 refine AWp.cond (b := (ltI (subI .u32 x0 x1) r1)) (by simp) (fun h4 => ?_) (fun h4 => ?_)
 ·have hr := Lj h4 hr
  refine AWp.thenA [⟨4, none, .n (cvtI .i64 (subI .u32 x0 x1))⟩] (AWp.reg Try.tyOk hΓ [4] [11, 5, 0, 1] (by kernel_rfl) rfl (by simp [h4])) ?_
  refine AWp.ret ?_
  obtain rfl := La hr
  refine Lg ?_
  simp
 ·have hr := Lk h4 hr
  refine AWp.skip ?_
  refine AWp.then ⟨[⟨4, none, .n (negI .i64 (cvtI .i64 (subI .u32 x1 x0)))⟩], []⟩ (AWp.reg Try.tyOk hΓ [4] [11, 5, 0, 1] (by kernel_rfl) rfl (by simp [h4])) ?_
  refine AWp.ret ?_
  obtain rfl := La hr
  refine Lg ?_
  simp

@[simp] noncomputable def gS.S : Sp
 | [.lit (.int .u32 x0), .lit (.int .u32 x1)], _ => some { av := .lit (.int .i64 ((gS x0 x1).getD dflt)), M := none, obl := (gS x0 x1).isSome = true }
 | _, _ => none

theorem gS.ok : SpecOk Try.prog 73 gS.S := by
 intro l M out h
 unfold gS.S at h
 split at h
 ·rename_i x0 x1
  cases h
  refine callOk_of fun ho => ?_
  have hs := ho
  obtain ⟨r, hr⟩ := Option.isSome_iff_exists.1 hs
  simp only [hr, Option.getD_some]
  have q := Lh (M := M) [] (gS.can x0 x1 r hr) (by simp) rfl (by intro k i hk; simp at hk)
  exact callOk_conv q trivial (by simp) (by simp [frameOut, gS.out]) (by simp [frameOut, gS.out])
 ·cases h

@[simp] def gM.out (_x0 : Int) (_x1 : Int) (r : Int) : Out := { av := .lit (.int .i64 r), M := none }
def gM.fin (x0 : Int) (x1 : Int) (r : Int) (σ : St) : Prop := finK (gM.out x0 x1 r) [] σ.M (resA Try.ty σ.A σ.M Try.f39.results.toList)
theorem gM.can (x0 : Int) (x1 : Int) (r : Int) (hr : gM x0 x1 = some r) : CallOk Try.prog 39 [.lit (.int .i64 x0), .lit (.int .u16 x1)] [] (gM.out x0 x1 r) := by
 unfold gM at hr
 have hΓ := (gamL_cons gR.ok (gamL_nil) : GamOk Try.prog _)
 refine Lf Try.tyOk Try.func39 rfl (by kernel_rfl) rfl rfl (by simp) ?_
 intro _ _ _
 refine AWp.then ⟨[⟨0, none, .n x0⟩, ⟨1, none, .lit (.int .u16 x1)⟩], []⟩ (AWp.reg Try.tyOk hΓ [] [] (by kernel_rfl) rfl (by simp)) ?_
 obtain ⟨r1, h2, hr⟩ := Lc hr
 refine AWp.thenA [⟨4, none, .n (addI .i64 x0 r1)⟩] (AWp.reg Try.tyOk hΓ [4] [0, 1] (by kernel_rfl) rfl (by simp [h2])) ?_
 refine AWp.ret ?_
 obtain rfl := La hr
 refine Lg ?_
 simp

@[simp] noncomputable def gM.S : Sp
 | [.lit (.int .i64 x0), .lit (.int .u16 x1)], _ => some { av := .lit (.int .i64 ((gM x0 x1).getD dflt)), M := none, obl := (gM x0 x1).isSome = true }
 | _, _ => none

theorem gM.ok : SpecOk Try.prog 39 gM.S := by
 intro l M out h
 unfold gM.S at h
 split at h
 ·rename_i x0 x1
  cases h
  refine callOk_of fun ho => ?_
  have hs := ho
  obtain ⟨r, hr⟩ := Option.isSome_iff_exists.1 hs
  simp only [hr, Option.getD_some]
  have q := Lh (M := M) [] (gM.can x0 x1 r hr) (by simp) rfl (by intro k i hk; simp at hk)
  exact callOk_conv q trivial (by simp) (by simp [frameOut, gM.out]) (by simp [frameOut, gM.out])
 ·cases h

@[simp] def gN.out (_x0 : Int) (_x1 : Int) (r : Int) : Out := { av := .lit (.int .i64 r), M := none }
def gN.fin (x0 : Int) (x1 : Int) (r : Int) (σ : St) : Prop := finK (gN.out x0 x1 r) [] σ.M (resA Try.ty σ.A σ.M Try.f64.results.toList)
theorem gN.can (x0 : Int) (x1 : Int) (r : Int) (hr : gN x0 x1 = some r) : CallOk Try.prog 64 [.lit (.int .i64 x0), .lit (.int .u32 x1)] [] (gN.out x0 x1 r) := by
 unfold gN at hr
 have hΓ := (gamL_cons gS.ok (gamL_nil) : GamOk Try.prog _)
 refine Lf Try.tyOk Try.func64 rfl (by kernel_rfl) rfl rfl (by simp) ?_
 intro _ _ _
 refine AWp.then ⟨[⟨0, none, .n x0⟩, ⟨1, none, .lit (.int .u32 x1)⟩], []⟩ (AWp.reg Try.tyOk hΓ [] [] (by kernel_rfl) rfl (by simp)) ?_
 obtain ⟨r1, h2, hr⟩ := Lc hr
 refine AWp.thenA [⟨4, none, .n (addI .i64 x0 r1)⟩] (AWp.reg Try.tyOk hΓ [4] [0, 1] (by kernel_rfl) rfl (by simp [h2])) ?_
 refine AWp.ret ?_
 obtain rfl := La hr
 refine Lg ?_
 simp

@[simp] noncomputable def gN.S : Sp
 | [.lit (.int .i64 x0), .lit (.int .u32 x1)], _ => some { av := .lit (.int .i64 ((gN x0 x1).getD dflt)), M := none, obl := (gN x0 x1).isSome = true }
 | _, _ => none

theorem gN.ok : SpecOk Try.prog 64 gN.S := by
 intro l M out h
 unfold gN.S at h
 split at h
 ·rename_i x0 x1
  cases h
  refine callOk_of fun ho => ?_
  have hs := ho
  obtain ⟨r, hr⟩ := Option.isSome_iff_exists.1 hs
  simp only [hr, Option.getD_some]
  have q := Lh (M := M) [] (gN.can x0 x1 r hr) (by simp) rfl (by intro k i hk; simp at hk)
  exact callOk_conv q trivial (by simp) (by simp [frameOut, gN.out]) (by simp [frameOut, gN.out])
 ·cases h

@[simp] def gc.out (_x0 : Tf) (_x1 : Int) (r : Int × Tf) : Out := { av := .lit (.int .i64 r.1), M := some [.blk [.ptr 1 0, .ptr 3 0, .lit (.bool r.2.ff.fd), .lit (.int .i64 r.2.ff.fk), .lit (.int .u16 r.2.ff.fV), .lit (.int .i64 r.2.ff.fM), .lit (.int .i64 r.2.ff.fC), .lit (.bool r.2.fh.fd), .lit (.int .i64 r.2.fh.fW), .mp 4, .lit (.int .i64 r.2.fp), .lit (.int .i64 r.2.fm)], .blk [.lit (.int .i64 r.2.fa.fb.fk), .lit (.int .i64 r.2.fa.fb.fq), .lit (.bool r.2.fa.fd), .lit (.int .i64 r.2.fa.fg), .mp 2, .lit (.int .i64 r.2.fa.fe)], .mapo (encM (kI .i64) (vA Ta.enc) r.2.fa.fOf), .blk [.lit (.bool r.2.fc.fb.fu), .lit (.int .i64 r.2.fc.fb.fv), .lit (.int .i64 r.2.fc.fb.fj), .lit (.int .i64 r.2.fc.fb.fq), .sl (r.2.fc.fw.fj.map Tc.enc) .no, .lit (.int .i64 r.2.fc.fz), .lit (.int .i64 r.2.fc.fe)], .mapo (encM (kI .i64) (vA Tb.enc) r.2.fOf)] }
def gc.fin (x0 : Tf) (x1 : Int) (r : Int × Tf) (σ : St) : Prop := finK (gc.out x0 x1 r) [.blk ([.ptr 1 0, .ptr 3 0] ++ x0.ff.enc ++ x0.fh.enc ++ [.mp 4, .lit (.int .i64 x0.fp), .lit (.int .i64 x0.fm)]), .blk (x0.fa.fb.enc ++ [.lit (.bool x0.fa.fd), .lit (.int .i64 x0.fa.fg), .mp 2, .lit (.int .i64 x0.fa.fe)]), .mapo (encM (kI .i64) (vA Ta.enc) x0.fa.fOf), .blk x0.fc.enc, .mapo (encM (kI .i64) (vA Tb.enc) x0.fOf)] σ.M (resA Try.ty σ.A σ.M Try.f40.results.toList)
theorem gc.can (x0 : Tf) (x1 : Int) (r : Int × Tf) (hr : gc x0 x1 = some r) : CallOk Try.prog 40 [.ptr 0 2, .lit (.int .u16 x1)] [.blk ([.ptr 1 0, .ptr 3 0] ++ x0.ff.enc ++ x0.fh.enc ++ [.mp 4, .lit (.int .i64 x0.fp), .lit (.int .i64 x0.fm)]), .blk (x0.fa.fb.enc ++ [.lit (.bool x0.fa.fd), .lit (.int .i64 x0.fa.fg), .mp 2, .lit (.int .i64 x0.fa.fe)]), .mapo (encM (kI .i64) (vA Ta.enc) x0.fa.fOf), .blk x0.fc.enc, .mapo (encM (kI .i64) (vA Tb.enc) x0.fOf)] (gc.out x0 x1 r) := by
 unfold gc at hr
 have hΓ := gamL_nil (P := Try.prog)
 refine Lf Try.tyOk Try.func40 rfl (by kernel_rfl) rfl rfl (by simp) ?_
 intro _ _ _
 refine AWp.then ⟨[⟨0, none, .ptr 0 2⟩, ⟨1, none, .lit (.int .u16 x1)⟩], [.blk ([.ptr 1 0, .ptr 3 0] ++ x0.ff.enc ++ x0.fh.enc ++ [.mp 4, .n x0.fp, .n x0.fm]), .blk (x0.fa.fb.enc ++ [.b x0.fa.fd, .n x0.fa.fg, .mp 2, .n x0.fa.fe]), .mapo (encM (kI .i64) (vA Ta.enc) x0.fa.fOf), .blk x0.fc.enc, .mapo (encM (kI .i64) (vA Tb.enc) x0.fOf)]⟩ (AWp.reg Try.tyOk hΓ [] [] (by kernel_rfl) rfl (by simp)) ?_
 obtain ⟨h3, hr⟩ := Li hr
 obtain ⟨h4, hr⟩ := Li hr
 refine AWp.then ⟨[⟨0, none, .ptr 0 2⟩], [.blk ([.ptr 1 0, .ptr 3 0, .b x0.ff.fd, .n (bitsOp .or .i64 (shlI .i64 (addI .i64 (shrI .i64 x0.ff.fk 16) 2) 16) (cvtI .i64 x1)), .lit (.int .u16 x0.ff.fV), .n x0.ff.fM, .n x0.ff.fC] ++ x0.fh.enc ++ [.mp 4, .n x0.fp, .n x0.fm]), .blk (x0.fa.fb.enc ++ [.b x0.fa.fd, .n x0.fa.fg, .mp 2, .n x0.fa.fe]), .mapo (encM (kI .i64) (vA Ta.enc) x0.fa.fOf), .blk x0.fc.enc, .mapo (encM (kI .i64) (vA Tb.enc) x0.fOf)]⟩ (AWp.reg Try.tyOk hΓ [] [1] (by kernel_rfl) rfl (by simp [h3])) ?_
 refine AWp.then ⟨[⟨0, none, .ptr 0 2⟩], [.blk ([.ptr 1 0, .ptr 3 0, .b x0.ff.fd, .n (bitsOp .or .i64 (shlI .i64 (addI .i64 (shrI .i64 x0.ff.fk 16) 2) 16) (cvtI .i64 x1)), .lit (.int .u16 x0.ff.fV), .n x0.ff.fM, .n (addI .i64 x0.ff.fC 1)] ++ x0.fh.enc ++ [.mp 4, .n x0.fp, .n x0.fm]), .blk (x0.fa.fb.enc ++ [.b x0.fa.fd, .n x0.fa.fg, .mp 2, .n x0.fa.fe]), .mapo (encM (kI .i64) (vA Ta.enc) x0.fa.fOf), .blk x0.fc.enc, .mapo (encM (kI .i64) (vA Tb.enc) x0.fOf)]⟩ (AWp.reg Try.tyOk hΓ [] [] (by kernel_rfl) rfl (by simp)) ?_
 refine AWp.then ⟨[⟨0, none, .ptr 0 2⟩], [.blk ([.ptr 1 0, .ptr 3 0, .b x0.ff.fd, .n (bitsOp .or .i64 (shlI .i64 (addI .i64 (shrI .i64 x0.ff.fk 16) 2) 16) (cvtI .i64 x1)), .lit (.int .u16 x0.ff.fV), .n 0, .n (addI .i64 x0.ff.fC 1)] ++ x0.fh.enc ++ [.mp 4, .n x0.fp, .n x0.fm]), .blk (x0.fa.fb.enc ++ [.b x0.fa.fd, .n x0.fa.fg, .mp 2, .n x0.fa.fe]), .mapo (encM (kI .i64) (vA Ta.enc) x0.fa.fOf), .blk x0.fc.enc, .mapo (encM (kI .i64) (vA Tb.enc) x0.fOf)]⟩ (AWp.reg Try.tyOk hΓ [] [] (by kernel_rfl) rfl (by simp)) ?_
 refine AWp.thenA [⟨4, none, .n (bitsOp .or .i64 (shlI .i64 (addI .i64 (shrI .i64 x0.ff.fk 16) 2) 16) (cvtI .i64 x1))⟩] (AWp.reg Try.tyOk hΓ [4] [0] (by kernel_rfl) rfl (by simp)) ?_
 refine AWp.ret ?_
 obtain rfl := La hr
 refine Lg ?_
 simp

@[simp] noncomputable def gc.S : Sp
 | [.ptr i0 2, .lit (.int .u16 x1)], M => match M[i0]? with
  | some (.blk c0) => (match nthE c0 0 with
  | some (.ptr i1 0) => (match M[i1]? with
  | some (.blk c1) => (match nthE c1 4 with
  | some (.mp i2) => (match M[i2]? with
  | some (.mapo c2) => (match nthE c0 1 with
  | some (.ptr i3 0) => (match M[i3]? with
  | some (.blk c3) => (match nthE c0 9 with
  | some (.mp i4) => (match M[i4]? with
  | some (.mapo c4) => (fun (y0 : Tf) => (fun (r : Int × Tf) => some { av := .lit (.int .i64 (r.1)), M := some (((((M.set i0 (.blk [.ptr i1 0, .ptr i3 0, .lit (.bool (r.2.ff.fd)), .lit (.int .i64 (r.2.ff.fk)), .lit (.int .u16 (r.2.ff.fV)), .lit (.int .i64 (r.2.ff.fM)), .lit (.int .i64 (r.2.ff.fC)), .lit (.bool (r.2.fh.fd)), .lit (.int .i64 (r.2.fh.fW)), .mp i4, .lit (.int .i64 (r.2.fp)), .lit (.int .i64 (r.2.fm))])).set i1 (.blk [.lit (.int .i64 (r.2.fa.fb.fk)), .lit (.int .i64 (r.2.fa.fb.fq)), .lit (.bool (r.2.fa.fd)), .lit (.int .i64 (r.2.fa.fg)), .mp i2, .lit (.int .i64 (r.2.fa.fe))])).set i2 (.mapo (encM (kI .i64) (vA Ta.enc) (r.2.fa.fOf)))).set i3 (.blk [.lit (.bool (r.2.fc.fb.fu)), .lit (.int .i64 (r.2.fc.fb.fv)), .lit (.int .i64 (r.2.fc.fb.fj)), .lit (.int .i64 (r.2.fc.fb.fq)), .sl ((r.2.fc.fw.fj).map Tc.enc) .no, .lit (.int .i64 (r.2.fc.fz)), .lit (.int .i64 (r.2.fc.fe))])).set i4 (.mapo (encM (kI .i64) (vA Tb.enc) (r.2.fOf)))), obl := c0 = Tf.enc y0 i1 i3 i4 ∧ c1 = Tg.enc (y0.fa) i2 ∧ c2 = encM (kI .i64) (vA Ta.enc) (y0.fa.fOf) ∧ c3 = Th.enc (y0.fc) ∧ c4 = encM (kI .i64) (vA Tb.enc) (y0.fOf) ∧ (gc y0 x1).isSome = true ∧ i0 ≠ i1 ∧ i0 ≠ i2 ∧ i0 ≠ i3 ∧ i0 ≠ i4 ∧ i1 ≠ i2 ∧ i1 ≠ i3 ∧ i1 ≠ i4 ∧ i2 ≠ i3 ∧ i2 ≠ i4 ∧ i3 ≠ i4 }) ((gc y0 x1).getD dflt)) (Tf.dec c0 (Tg.dec c1 (decM dkI (dvA Ta.dec) c2)) (Th.dec c3) (decM dkI (dvA Tb.dec) c4))
  | _ => none)
  | _ => none)
  | _ => none)
  | _ => none)
  | _ => none)
  | _ => none)
  | _ => none)
  | _ => none)
  | _ => none
 | _, _ => none

theorem gc.ok : SpecOk Try.prog 40 gc.S := by
 intro l M out h
 unfold gc.S at h
 split at h
 ·rename_i i0 x1
  split at h
  case h_2 => cases h
  rename_i c0 hM0
  split at h
  case h_2 => cases h
  rename_i i1 he1
  split at h
  case h_2 => cases h
  rename_i c1 hM1
  split at h
  case h_2 => cases h
  rename_i i2 he2
  split at h
  case h_2 => cases h
  rename_i c2 hM2
  split at h
  case h_2 => cases h
  rename_i i3 he3
  split at h
  case h_2 => cases h
  rename_i c3 hM3
  split at h
  case h_2 => cases h
  rename_i i4 he4
  split at h
  case h_2 => cases h
  rename_i c4 hM4
  try dsimp only at h
  cases h
  refine callOk_of fun ho => ?_
  obtain ⟨oc0, oc1, oc2, oc3, oc4, hs, hne0, hne1, hne2, hne3, hne4, hne5, hne6, hne7, hne8, hne9⟩ := ho
  generalize (Tf.dec c0 (Tg.dec c1 (decM dkI (dvA Ta.dec) c2)) (Th.dec c3) (decM dkI (dvA Tb.dec) c4)) = y0 at *
  subst oc0
  subst oc1
  subst oc2
  subst oc3
  subst oc4
  obtain ⟨r, hr⟩ := Option.isSome_iff_exists.1 hs
  simp only [hr, Option.getD_some]
  have q := Lh (M := M) [i0, i1, i2, i3, i4] (gc.can y0 x1 r hr) (by simp [hne0, hne1, hne2, hne3, hne4, hne5, hne6, hne7, hne8, hne9]) rfl (by intro k i hk; (cases k with | zero => (simp at hk; subst hk; simp [hM0, into]) | succ k => ((cases k with | zero => (simp at hk; subst hk; simp [hM1, into]) | succ k => ((cases k with | zero => (simp at hk; subst hk; simp [hM2]) | succ k => ((cases k with | zero => (simp at hk; subst hk; simp [hM3]) | succ k => ((cases k with | zero => (simp at hk; subst hk; simp [hM4]) | succ k => (simp at hk)))))))))))
  exact callOk_conv q trivial (by simp [into]) (by simp [frameOut, gc.out, into]) (by simp [frameOut, gc.out, into])
 ·cases h

@[simp] def gg.out (_x0 : Tf) (_x1 : Int) (r : Int × Bool × Tf) : Out := { av := .tup [.lit (.int .i64 r.1), .lit (.bool r.2.1)], M := some [.blk [.ptr 1 0, .ptr 3 0, .lit (.bool r.2.2.ff.fd), .lit (.int .i64 r.2.2.ff.fk), .lit (.int .u16 r.2.2.ff.fV), .lit (.int .i64 r.2.2.ff.fM), .lit (.int .i64 r.2.2.ff.fC), .lit (.bool r.2.2.fh.fd), .lit (.int .i64 r.2.2.fh.fW), .mp 4, .lit (.int .i64 r.2.2.fp), .lit (.int .i64 r.2.2.fm)], .blk [.lit (.int .i64 r.2.2.fa.fb.fk), .lit (.int .i64 r.2.2.fa.fb.fq), .lit (.bool r.2.2.fa.fd), .lit (.int .i64 r.2.2.fa.fg), .mp 2, .lit (.int .i64 r.2.2.fa.fe)], .mapo (encM (kI .i64) (vA Ta.enc) r.2.2.fa.fOf), .blk [.lit (.bool r.2.2.fc.fb.fu), .lit (.int .i64 r.2.2.fc.fb.fv), .lit (.int .i64 r.2.2.fc.fb.fj), .lit (.int .i64 r.2.2.fc.fb.fq), .sl (r.2.2.fc.fw.fj.map Tc.enc) .no, .lit (.int .i64 r.2.2.fc.fz), .lit (.int .i64 r.2.2.fc.fe)], .mapo (encM (kI .i64) (vA Tb.enc) r.2.2.fOf)] }
def gg.fin (x0 : Tf) (x1 : Int) (r : Int × Bool × Tf) (σ : St) : Prop := finK (gg.out x0 x1 r) [.blk ([.ptr 1 0, .ptr 3 0] ++ x0.ff.enc ++ x0.fh.enc ++ [.mp 4, .lit (.int .i64 x0.fp), .lit (.int .i64 x0.fm)]), .blk (x0.fa.fb.enc ++ [.lit (.bool x0.fa.fd), .lit (.int .i64 x0.fa.fg), .mp 2, .lit (.int .i64 x0.fa.fe)]), .mapo (encM (kI .i64) (vA Ta.enc) x0.fa.fOf), .blk x0.fc.enc, .mapo (encM (kI .i64) (vA Tb.enc) x0.fOf)] σ.M (resA Try.ty σ.A σ.M Try.f26.results.toList)
theorem gg.can (x0 : Tf) (x1 : Int) (r : Int × Bool × Tf) (hr : gg x0 x1 = some r) : CallOk Try.prog 26 [.ptr 0 2, .lit (.int .u16 x1)] [.blk ([.ptr 1 0, .ptr 3 0] ++ x0.ff.enc ++ x0.fh.enc ++ [.mp 4, .lit (.int .i64 x0.fp), .lit (.int .i64 x0.fm)]), .blk (x0.fa.fb.enc ++ [.lit (.bool x0.fa.fd), .lit (.int .i64 x0.fa.fg), .mp 2, .lit (.int .i64 x0.fa.fe)]), .mapo (encM (kI .i64) (vA Ta.enc) x0.fa.fOf), .blk x0.fc.enc, .mapo (encM (kI .i64) (vA Tb.enc) x0.fOf)] (gg.out x0 x1 r) := by
 unfold gg at hr
 have hΓ := (gamL_cons gc.ok (gamL_cons gM.ok (gamL_nil)) : GamOk Try.prog _)
 refine Lf Try.tyOk Try.func26 rfl (by kernel_rfl) rfl rfl (by simp) ?_
 intro _ _ _
 refine AWp.then ⟨[⟨0, none, .ptr 0 2⟩, ⟨1, none, .lit (.int .u16 x1)⟩], [.blk ([.ptr 1 0, .ptr 3 0] ++ x0.ff.enc ++ x0.fh.enc ++ [.mp 4, .n x0.fp, .n x0.fm]), .blk (x0.fa.fb.enc ++ [.b x0.fa.fd, .n x0.fa.fg, .mp 2, .n x0.fa.fe]), .mapo (encM (kI .i64) (vA Ta.enc) x0.fa.fOf), .blk x0.fc.enc, .mapo (encM (kI .i64) (vA Tb.enc) x0.fOf)]⟩ (AWp.reg Try.tyOk hΓ [] [] (by kernel_rfl) rfl (by simp)) ?_
 refine AWp.seq ?_
 refine AWp.then ⟨[⟨12, none, .b (notB x0.ff.fd)⟩, ⟨0, none, .ptr 0 2⟩, ⟨1, none, .lit (.int .u16 x1)⟩], [.blk ([.ptr 1 0, .ptr 3 0] ++ x0.ff.enc ++ x0.fh.enc ++ [.mp 4, .n x0.fp, .n x0.fm]), .blk (x0.fa.fb.enc ++ [.b x0.fa.fd, .n x0.fa.fg, .mp 2, .n x0.fa.fe]), .mapo (encM (kI .i64) (vA Ta.enc) x0.fa.fOf), .blk x0.fc.enc, .mapo (encM (kI .i64) (vA Tb.enc) x0.fOf)]⟩ (AWp.reg Try.tyOk hΓ [12] [] (by kernel_rfl) rfl (by simp)) ?_
 refine AWp.cond (b := (notB x0.ff.fd)) (by simp) (fun h7 => ?_) (fun h7 => ?_)
 ·have hr := Lj h7 hr
  refine AWp.then ⟨[⟨0, none, .ptr 0 2⟩], [.blk ([.ptr 1 0, .ptr 3 0, .b true, .n (addI .i64 1048576 (cvtI .i64 x1)), .lit (.int .u16 x0.ff.fV), .n x0.ff.fM, .n x0.ff.fC] ++ x0.fh.enc ++ [.mp 4, .n x0.fp, .n x0.fm]), .blk (x0.fa.fb.enc ++ [.b x0.fa.fd, .n x0.fa.fg, .mp 2, .n x0.fa.fe]), .mapo (encM (kI .i64) (vA Ta.enc) x0.fa.fOf), .blk x0.fc.enc, .mapo (encM (kI .i64) (vA Tb.enc) x0.fOf)]⟩ (AWp.reg Try.tyOk hΓ [] [12, 1] (by kernel_rfl) rfl (by simp [h7])) ?_
  refine AWp.thenA [⟨4, none, .n (addI .i64 1048576 (cvtI .i64 x1))⟩, ⟨5, none, .b true⟩] (AWp.reg Try.tyOk hΓ [4, 5] [0] (by kernel_rfl) rfl (by simp)) ?_
  refine AWp.ret ?_
  obtain rfl := La hr
  refine Lg ?_
  simp
 ·have hr := Lk h7 hr
  refine AWp.skip ?_
  obtain ⟨r1, h8, hr⟩ := Lc hr
  refine AWp.then ⟨[⟨6, none, .n r1⟩, ⟨0, none, .ptr 0 2⟩, ⟨1, none, .lit (.int .u16 x1)⟩], [.blk ([.ptr 1 0, .ptr 3 0] ++ x0.ff.enc ++ x0.fh.enc ++ [.mp 4, .n x0.fp, .n x0.fm]), .blk (x0.fa.fb.enc ++ [.b x0.fa.fd, .n x0.fa.fg, .mp 2, .n x0.fa.fe]), .mapo (encM (kI .i64) (vA Ta.enc) x0.fa.fOf), .blk x0.fc.enc, .mapo (encM (kI .i64) (vA Tb.enc) x0.fOf)]⟩ (AWp.reg Try.tyOk hΓ [6] [12] (by kernel_rfl) rfl (by simp [h7, h8])) ?_
  refine AWp.seq ?_
  refine AWp.then ⟨[⟨7, none, .n (subI .i64 r1 x0.ff.fk)⟩, ⟨6, none, .n r1⟩, ⟨0, none, .ptr 0 2⟩, ⟨1, none, .lit (.int .u16 x1)⟩], [.blk ([.ptr 1 0, .ptr 3 0] ++ x0.ff.enc ++ x0.fh.enc ++ [.mp 4, .n x0.fp, .n x0.fm]), .blk (x0.fa.fb.enc ++ [.b x0.fa.fd, .n x0.fa.fg, .mp 2, .n x0.fa.fe]), .mapo (encM (kI .i64) (vA Ta.enc) x0.fa.fOf), .blk x0.fc.enc, .mapo (encM (kI .i64) (vA Tb.enc) x0.fOf)]⟩ (AWp.reg Try.tyOk hΓ [7] [] (by kernel_rfl) rfl (by simp)) ?_
  refine AWp.thenA [⟨43, none, .b (pickB (leqI (subI .i64 r1 x0.ff.fk) 3000) (leqI (-3000) (subI .i64 r1 x0.ff.fk)) false)⟩, ⟨6, none, .n r1⟩, ⟨0, none, .ptr 0 2⟩, ⟨1, none, .lit (.int .u16 x1)⟩] (AWp.reg Try.tyOk hΓ [43] [7] (by kernel_rfl) rfl (by simp)) ?_
  refine AWp.cond (b := (pickB (leqI (subI .i64 r1 x0.ff.fk) 3000) (leqI (-3000) (subI .i64 r1 x0.ff.fk)) false)) (by simp) (fun h9 => ?_) (fun h9 => ?_)
  ·have hr := Lj h9 hr
   refine AWp.then ⟨[⟨6, none, .n r1⟩, ⟨0, none, .ptr 0 2⟩], [.blk ([.ptr 1 0, .ptr 3 0, .b x0.ff.fd, .n (maxI x0.ff.fk r1), .lit (.int .u16 x0.ff.fV), .n x0.ff.fM, .n x0.ff.fC] ++ x0.fh.enc ++ [.mp 4, .n x0.fp, .n x0.fm]), .blk (x0.fa.fb.enc ++ [.b x0.fa.fd, .n x0.fa.fg, .mp 2, .n x0.fa.fe]), .mapo (encM (kI .i64) (vA Ta.enc) x0.fa.fOf), .blk x0.fc.enc, .mapo (encM (kI .i64) (vA Tb.enc) x0.fOf)]⟩ (AWp.reg Try.tyOk hΓ [] [43, 1] (by kernel_rfl) rfl (by simp [h9])) ?_
   refine AWp.then ⟨[⟨6, none, .n r1⟩], [.blk ([.ptr 1 0, .ptr 3 0, .b x0.ff.fd, .n (maxI x0.ff.fk r1), .lit (.int .u16 x0.ff.fV), .n 0, .n x0.ff.fC] ++ x0.fh.enc ++ [.mp 4, .n x0.fp, .n x0.fm]), .blk (x0.fa.fb.enc ++ [.b x0.fa.fd, .n x0.fa.fg, .mp 2, .n x0.fa.fe]), .mapo (encM (kI .i64) (vA Ta.enc) x0.fa.fOf), .blk x0.fc.enc, .mapo (encM (kI .i64) (vA Tb.enc) x0.fOf)]⟩ (AWp.reg Try.tyOk hΓ [] [0] (by kernel_rfl) rfl (by simp)) ?_
   refine AWp.thenA [⟨4, none, .n r1⟩, ⟨5, none, .b true⟩] (AWp.reg Try.tyOk hΓ [4, 5] [6] (by kernel_rfl) rfl (by simp)) ?_
   refine AWp.ret ?_
   obtain rfl := La hr
   refine Lg ?_
   simp
  ·have hr := Lk h9 hr
   refine AWp.skip ?_
   refine AWp.meetF (fun (v1 : Tv) (γ1 : Unit) => ⟨[⟨0, none, .ptr 0 2⟩, ⟨1, none, .lit (.int .u16 x1)⟩], [.blk ([.ptr 1 0, .ptr 3 0] ++ v1.enc ++ x0.fh.enc ++ [.mp 4, .n x0.fp, .n x0.fm]), .blk (x0.fa.fb.enc ++ [.b x0.fa.fd, .n x0.fa.fg, .mp 2, .n x0.fa.fe]), .mapo (encM (kI .i64) (vA Ta.enc) x0.fa.fOf), .blk x0.fc.enc, .mapo (encM (kI .i64) (vA Tb.enc) x0.fOf)]⟩) (gg.fin x0 x1) hr (fun f hr => ?_) (fun v1 γ1 hr => ?_) (fun _ h => h)
   ·refine AWp.then ⟨[⟨69, none, .b (pickB (ltI 0 x0.ff.fM) (eqI x1 x0.ff.fV) false)⟩, ⟨0, none, .ptr 0 2⟩, ⟨1, none, .lit (.int .u16 x1)⟩], [.blk ([.ptr 1 0, .ptr 3 0] ++ x0.ff.enc ++ x0.fh.enc ++ [.mp 4, .n x0.fp, .n x0.fm]), .blk (x0.fa.fb.enc ++ [.b x0.fa.fd, .n x0.fa.fg, .mp 2, .n x0.fa.fe]), .mapo (encM (kI .i64) (vA Ta.enc) x0.fa.fOf), .blk x0.fc.enc, .mapo (encM (kI .i64) (vA Tb.enc) x0.fOf)]⟩ (AWp.reg Try.tyOk hΓ [69] [43, 6] (by kernel_rfl) rfl (by simp [h9])) ?_
    refine AWp.cond (b := (pickB (ltI 0 x0.ff.fM) (eqI x1 x0.ff.fV) false)) (by simp) (fun h10 => ?_) (fun h10 => ?_)
    ·have hr := Lj h10 hr
     refine AWp.last ⟨[⟨0, none, .ptr 0 2⟩, ⟨1, none, .lit (.int .u16 x1)⟩], [.blk ([.ptr 1 0, .ptr 3 0, .b x0.ff.fd, .n x0.ff.fk, .lit (.int .u16 x0.ff.fV), .n (addI .i64 x0.ff.fM 1), .n x0.ff.fC] ++ x0.fh.enc ++ [.mp 4, .n x0.fp, .n x0.fm]), .blk (x0.fa.fb.enc ++ [.b x0.fa.fd, .n x0.fa.fg, .mp 2, .n x0.fa.fe]), .mapo (encM (kI .i64) (vA Ta.enc) x0.fa.fOf), .blk x0.fc.enc, .mapo (encM (kI .i64) (vA Tb.enc) x0.fOf)]⟩ (AWp.reg Try.tyOk hΓ [] [69] (by kernel_rfl) rfl (by simp [h10])) ?_
     obtain rfl := La hr
     exact Lo () 5 (by first | (simp; done) | simp [h7, h8, h9, h10])
    ·have hr := Lk h10 hr
     refine AWp.last ⟨[⟨0, none, .ptr 0 2⟩, ⟨1, none, .lit (.int .u16 x1)⟩], [.blk ([.ptr 1 0, .ptr 3 0, .b x0.ff.fd, .n x0.ff.fk, .lit (.int .u16 x0.ff.fV), .n 1, .n x0.ff.fC] ++ x0.fh.enc ++ [.mp 4, .n x0.fp, .n x0.fm]), .blk (x0.fa.fb.enc ++ [.b x0.fa.fd, .n x0.fa.fg, .mp 2, .n x0.fa.fe]), .mapo (encM (kI .i64) (vA Ta.enc) x0.fa.fOf), .blk x0.fc.enc, .mapo (encM (kI .i64) (vA Tb.enc) x0.fOf)]⟩ (AWp.reg Try.tyOk hΓ [] [69] (by kernel_rfl) rfl (by simp [h10])) ?_
     obtain rfl := La hr
     exact Lo () 5 (by first | (simp; done) | simp [h7, h8, h9, h10])
   ·refine AWp.then ⟨[⟨0, none, .ptr 0 2⟩, ⟨1, none, .lit (.int .u16 x1)⟩], [.blk ([.ptr 1 0, .ptr 3 0, .b v1.fd, .n v1.fk, .lit (.int .u16 (addI .u16 x1 1)), .n v1.fM, .n v1.fC] ++ x0.fh.enc ++ [.mp 4, .n x0.fp, .n x0.fm]), .blk (x0.fa.fb.enc ++ [.b x0.fa.fd, .n x0.fa.fg, .mp 2, .n x0.fa.fe]), .mapo (encM (kI .i64) (vA Ta.enc) x0.fa.fOf), .blk x0.fc.enc, .mapo (encM (kI .i64) (vA Tb.enc) x0.fOf)]⟩ (AWp.reg Try.tyOk hΓ [] [] (by kernel_rfl) rfl (by simp)) ?_
    refine AWp.seq ?_
    refine AWp.then ⟨[⟨89, none, .b (leqI 2 v1.fM)⟩, ⟨0, none, .ptr 0 2⟩, ⟨1, none, .lit (.int .u16 x1)⟩], [.blk ([.ptr 1 0, .ptr 3 0, .b v1.fd, .n v1.fk, .lit (.int .u16 (addI .u16 x1 1)), .n v1.fM, .n v1.fC] ++ x0.fh.enc ++ [.mp 4, .n x0.fp, .n x0.fm]), .blk (x0.fa.fb.enc ++ [.b x0.fa.fd, .n x0.fa.fg, .mp 2, .n x0.fa.fe]), .mapo (encM (kI .i64) (vA Ta.enc) x0.fa.fOf), .blk x0.fc.enc, .mapo (encM (kI .i64) (vA Tb.enc) x0.fOf)]⟩ (AWp.reg Try.tyOk hΓ [89] [] (by kernel_rfl) rfl (by simp)) ?_
    refine AWp.cond (b := (leqI 2 v1.fM)) (by simp) (fun h11 => ?_) (fun h11 => ?_)
    ·have hr := Lj h11 hr
     obtain ⟨r2, h12, hr⟩ := Lc hr
     refine AWp.then ⟨[⟨4, none, .n r2.1⟩, ⟨5, none, .b true⟩], [.blk ([.ptr 1 0, .ptr 3 0] ++ r2.2.ff.enc ++ r2.2.fh.enc ++ [.mp 4, .n r2.2.fp, .n r2.2.fm]), .blk (r2.2.fa.fb.enc ++ [.b r2.2.fa.fd, .n r2.2.fa.fg, .mp 2, .n r2.2.fa.fe]), .mapo (encM (kI .i64) (vA Ta.enc) r2.2.fa.fOf), .blk r2.2.fc.enc, .mapo (encM (kI .i64) (vA Tb.enc) r2.2.fOf)]⟩ (AWp.reg Try.tyOk hΓ [4, 5] [89, 0, 1] (by kernel_rfl) rfl (by simp [h11, h12])) ?_
     refine AWp.ret ?_
     obtain rfl := La hr
     refine Lg ?_
     simp
    ·have hr := Lk h11 hr
     refine AWp.skip ?_
     refine AWp.then ⟨[⟨4, none, .n 0⟩, ⟨5, none, .b false⟩], [.blk ([.ptr 1 0, .ptr 3 0, .b v1.fd, .n v1.fk, .lit (.int .u16 (addI .u16 x1 1)), .n v1.fM, .n v1.fC] ++ x0.fh.enc ++ [.mp 4, .n x0.fp, .n x0.fm]), .blk (x0.fa.fb.enc ++ [.b x0.fa.fd, .n x0.fa.fg, .mp 2, .n x0.fa.fe]), .mapo (encM (kI .i64) (vA Ta.enc) x0.fa.fOf), .blk x0.fc.enc, .mapo (encM (kI .i64) (vA Tb.enc) x0.fOf)]⟩ (AWp.reg Try.tyOk hΓ [4, 5] [89, 0, 1] (by kernel_rfl) rfl (by simp [h11])) ?_
     refine AWp.ret ?_
     obtain rfl := La hr
     refine Lg ?_
     simp

@[simp] noncomputable def gg.S : Sp
 | [.ptr i0 2, .lit (.int .u16 x1)], M => match M[i0]? with
  | some (.blk c0) => (match nthE c0 0 with
  | some (.ptr i1 0) => (match M[i1]? with
  | some (.blk c1) => (match nthE c1 4 with
  | some (.mp i2) => (match M[i2]? with
  | some (.mapo c2) => (match nthE c0 1 with
  | some (.ptr i3 0) => (match M[i3]? with
  | some (.blk c3) => (match nthE c0 9 with
  | some (.mp i4) => (match M[i4]? with
  | some (.mapo c4) => (fun (y0 : Tf) => (fun (r : Int × Bool × Tf) => some { av := .tup [.lit (.int .i64 (r.1)), .lit (.bool (r.2.1))], M := some (((((M.set i0 (.blk [.ptr i1 0, .ptr i3 0, .lit (.bool (r.2.2.ff.fd)), .lit (.int .i64 (r.2.2.ff.fk)), .lit (.int .u16 (r.2.2.ff.fV)), .lit (.int .i64 (r.2.2.ff.fM)), .lit (.int .i64 (r.2.2.ff.fC)), .lit (.bool (r.2.2.fh.fd)), .lit (.int .i64 (r.2.2.fh.fW)), .mp i4, .lit (.int .i64 (r.2.2.fp)), .lit (.int .i64 (r.2.2.fm))])).set i1 (.blk [.lit (.int .i64 (r.2.2.fa.fb.fk)), .lit (.int .i64 (r.2.2.fa.fb.fq)), .lit (.bool (r.2.2.fa.fd)), .lit (.int .i64 (r.2.2.fa.fg)), .mp i2, .lit (.int .i64 (r.2.2.fa.fe))])).set i2 (.mapo (encM (kI .i64) (vA Ta.enc) (r.2.2.fa.fOf)))).set i3 (.blk [.lit (.bool (r.2.2.fc.fb.fu)), .lit (.int .i64 (r.2.2.fc.fb.fv)), .lit (.int .i64 (r.2.2.fc.fb.fj)), .lit (.int .i64 (r.2.2.fc.fb.fq)), .sl ((r.2.2.fc.fw.fj).map Tc.enc) .no, .lit (.int .i64 (r.2.2.fc.fz)), .lit (.int .i64 (r.2.2.fc.fe))])).set i4 (.mapo (encM (kI .i64) (vA Tb.enc) (r.2.2.fOf)))), obl := c0 = Tf.enc y0 i1 i3 i4 ∧ c1 = Tg.enc (y0.fa) i2 ∧ c2 = encM (kI .i64) (vA Ta.enc) (y0.fa.fOf) ∧ c3 = Th.enc (y0.fc) ∧ c4 = encM (kI .i64) (vA Tb.enc) (y0.fOf) ∧ (gg y0 x1).isSome = true ∧ i0 ≠ i1 ∧ i0 ≠ i2 ∧ i0 ≠ i3 ∧ i0 ≠ i4 ∧ i1 ≠ i2 ∧ i1 ≠ i3 ∧ i1 ≠ i4 ∧ i2 ≠ i3 ∧ i2 ≠ i4 ∧ i3 ≠ i4 }) ((gg y0 x1).getD dflt)) (Tf.dec c0 (Tg.dec c1 (decM dkI (dvA Ta.dec) c2)) (Th.dec c3) (decM dkI (dvA Tb.dec) c4))
  | _ => none)
  | _ => none)
  | _ => none)
  | _ => none)
  | _ => none)
  | _ => none)
  | _ => none)
  | _ => none)
  | _ => none
 | _, _ => none

theorem gg.ok : SpecOk Try.prog 26 gg.S := by
 intro l M out h
 unfold gg.S at h
 split at h
 ·rename_i i0 x1
  split at h
  case h_2 => cases h
  rename_i c0 hM0
  split at h
  case h_2 => cases h
  rename_i i1 he1
  split at h
  case h_2 => cases h
  rename_i c1 hM1
  split at h
  case h_2 => cases h
  rename_i i2 he2
  split at h
  case h_2 => cases h
  rename_i c2 hM2
  split at h
  case h_2 => cases h
  rename_i i3 he3
  split at h
  case h_2 => cases h
  rename_i c3 hM3
  split at h
  case h_2 => cases h
  rename_i i4 he4
  split at h
  case h_2 => cases h
  rename_i c4 hM4
  try dsimp only at h
  cases h
  refine callOk_of fun ho => ?_
  obtain ⟨oc0, oc1, oc2, oc3, oc4, hs, hne0, hne1, hne2, hne3, hne4, hne5, hne6, hne7, hne8, hne9⟩ := ho
  generalize (Tf.dec c0 (Tg.dec c1 (decM dkI (dvA Ta.dec) c2)) (Th.dec c3) (decM dkI (dvA Tb.dec) c4)) = y0 at *
  subst oc0
  subst oc1
  subst oc2
  subst oc3
  subst oc4
  obtain ⟨r, hr⟩ := Option.isSome_iff_exists.1 hs
  simp only [hr, Option.getD_some]
  have q := Lh (M := M) [i0, i1, i2, i3, i4] (gg.can y0 x1 r hr) (by simp [hne0, hne1, hne2, hne3, hne4, hne5, hne6, hne7, hne8, hne9]) rfl (by intro k i hk; (cases k with | zero => (simp at hk; subst hk; simp [hM0, into]) | succ k => ((cases k with | zero => (simp at hk; subst hk; simp [hM1, into]) | succ k => ((cases k with | zero => (simp at hk; subst hk; simp [hM2]) | succ k => ((cases k with | zero => (simp at hk; subst hk; simp [hM3]) | succ k => ((cases k with | zero => (simp at hk; subst hk; simp [hM4]) | succ k => (simp at hk)))))))))))
  exact callOk_conv q trivial (by simp [into]) (by simp [frameOut, gg.out, into]) (by simp [frameOut, gg.out, into])
 ·cases h

@[simp] def gf.out (_x0 : Tf) (_x1 : Int) (r : Int × Tf) : Out := { av := .lit (.int .i64 r.1), M := some [.blk [.ptr 1 0, .ptr 3 0, .lit (.bool r.2.ff.fd), .lit (.int .i64 r.2.ff.fk), .lit (.int .u16 r.2.ff.fV), .lit (.int .i64 r.2.ff.fM), .lit (.int .i64 r.2.ff.fC), .lit (.bool r.2.fh.fd), .lit (.int .i64 r.2.fh.fW), .mp 4, .lit (.int .i64 r.2.fp), .lit (.int .i64 r.2.fm)], .blk [.lit (.int .i64 r.2.fa.fb.fk), .lit (.int .i64 r.2.fa.fb.fq), .lit (.bool r.2.fa.fd), .lit (.int .i64 r.2.fa.fg), .mp 2, .lit (.int .i64 r.2.fa.fe)], .mapo (encM (kI .i64) (vA Ta.enc) r.2.fa.fOf), .blk [.lit (.bool r.2.fc.fb.fu), .lit (.int .i64 r.2.fc.fb.fv), .lit (.int .i64 r.2.fc.fb.fj), .lit (.int .i64 r.2.fc.fb.fq), .sl (r.2.fc.fw.fj.map Tc.enc) .no, .lit (.int .i64 r.2.fc.fz), .lit (.int .i64 r.2.fc.fe)], .mapo (encM (kI .i64) (vA Tb.enc) r.2.fOf)] }
def gf.fin (x0 : Tf) (x1 : Int) (r : Int × Tf) (σ : St) : Prop := finK (gf.out x0 x1 r) [.blk ([.ptr 1 0, .ptr 3 0] ++ x0.ff.enc ++ x0.fh.enc ++ [.mp 4, .lit (.int .i64 x0.fp), .lit (.int .i64 x0.fm)]), .blk (x0.fa.fb.enc ++ [.lit (.bool x0.fa.fd), .lit (.int .i64 x0.fa.fg), .mp 2, .lit (.int .i64 x0.fa.fe)]), .mapo (encM (kI .i64) (vA Ta.enc) x0.fa.fOf), .blk x0.fc.enc, .mapo (encM (kI .i64) (vA Tb.enc) x0.fOf)] σ.M (resA Try.ty σ.A σ.M Try.f55.results.toList)
theorem gf.can (x0 : Tf) (x1 : Int) (r : Int × Tf) (hr : gf x0 x1 = some r) : CallOk Try.prog 55 [.ptr 0 7, .lit (.int .u32 x1)] [.blk ([.ptr 1 0, .ptr 3 0] ++ x0.ff.enc ++ x0.fh.enc ++ [.mp 4, .lit (.int .i64 x0.fp), .lit (.int .i64 x0.fm)]), .blk (x0.fa.fb.enc ++ [.lit (.bool x0.fa.fd), .lit (.int .i64 x0.fa.fg), .mp 2, .lit (.int .i64 x0.fa.fe)]), .mapo (encM (kI .i64) (vA Ta.enc) x0.fa.fOf), .blk x0.fc.enc, .mapo (encM (kI .i64) (vA Tb.enc) x0.fOf)] (gf.out x0 x1 r) := by
 unfold gf at hr
 have hΓ := (gamL_cons gN.ok (gamL_nil) : GamOk Try.prog _)
 refine Lf Try.tyOk Try.func55 rfl (by kernel_rfl) rfl rfl (by simp) ?_
 intro _ _ _
 refine AWp.then ⟨[⟨0, none, .ptr 0 7⟩, ⟨1, none, .lit (.int .u32 x1)⟩], [.blk ([.ptr 1 0, .ptr 3 0] ++ x0.ff.enc ++ x0.fh.enc ++ [.mp 4, .n x0.fp, .n x0.fm]), .blk (x0.fa.fb.enc ++ [.b x0.fa.fd, .n x0.fa.fg, .mp 2, .n x0.fa.fe]), .mapo (encM (kI .i64) (vA Ta.enc) x0.fa.fOf), .blk x0.fc.enc, .mapo (encM (kI .i64) (vA Tb.enc) x0.fOf)]⟩ (AWp.reg Try.tyOk hΓ [] [] (by kernel_rfl) rfl (by simp)) ?_
 refine AWp.seq ?_
 refine AWp.then ⟨[⟨10, none, .b (notB x0.fh.fd)⟩, ⟨0, none, .ptr 0 7⟩, ⟨1, none, .lit (.int .u32 x1)⟩], [.blk ([.ptr 1 0, .ptr 3 0] ++ x0.ff.enc ++ x0.fh.enc ++ [.mp 4, .n x0.fp, .n x0.fm]), .blk (x0.fa.fb.enc ++ [.b x0.fa.fd, .n x0.fa.fg, .mp 2, .n x0.fa.fe]), .mapo (encM (kI .i64) (vA Ta.enc) x0.fa.fOf), .blk x0.fc.enc, .mapo (encM (kI .i64) (vA Tb.enc) x0.fOf)]⟩ (AWp.reg Try.tyOk hΓ [10] [] (by kernel_rfl) rfl (by simp)) ?_
 refine AWp.cond (b := (notB x0.fh.fd)) (by simp) (fun h3 => ?_) (fun h3 => ?_)
 ·have hr := Lj h3 hr
  refine AWp.then ⟨[⟨0, none, .ptr 0 7⟩], [.blk ([.ptr 1 0, .ptr 3 0] ++ x0.ff.enc ++ [.b true, .n (addI .i64 68719476736 (cvtI .i64 x1)), .mp 4, .n x0.fp, .n x0.fm]), .blk (x0.fa.fb.enc ++ [.b x0.fa.fd, .n x0.fa.fg, .mp 2, .n x0.fa.fe]), .mapo (encM (kI .i64) (vA Ta.enc) x0.fa.fOf), .blk x0.fc.enc, .mapo (encM (kI .i64) (vA Tb.enc) x0.fOf)]⟩ (AWp.reg Try.tyOk hΓ [] [10, 1] (by kernel_rfl) rfl (by simp [h3])) ?_
  refine AWp.thenA [⟨4, none, .n (addI .i64 68719476736 (cvtI .i64 x1))⟩] (AWp.reg Try.tyOk hΓ [4] [0] (by kernel_rfl) rfl (by simp)) ?_
  refine AWp.ret ?_
  obtain rfl := La hr
  refine Lg ?_
  simp
 ·have hr := Lk h3 hr
  refine AWp.skip ?_
  obtain ⟨r1, h4, hr⟩ := Lc hr
  refine AWp.then ⟨[⟨5, none, .n r1⟩, ⟨0, none, .ptr 0 7⟩], [.blk ([.ptr 1 0, .ptr 3 0] ++ x0.ff.enc ++ x0.fh.enc ++ [.mp 4, .n x0.fp, .n x0.fm]), .blk (x0.fa.fb.enc ++ [.b x0.fa.fd, .n x0.fa.fg, .mp 2, .n x0.fa.fe]), .mapo (encM (kI .i64) (vA Ta.enc) x0.fa.fOf), .blk x0.fc.enc, .mapo (encM (kI .i64) (vA Tb.enc) x0.fOf)]⟩ (AWp.reg Try.tyOk hΓ [5] [10, 1] (by kernel_rfl) rfl (by simp [h3, h4])) ?_
  refine AWp.then ⟨[⟨5, none, .n r1⟩], [.blk ([.ptr 1 0, .ptr 3 0] ++ x0.ff.enc ++ [.b x0.fh.fd, .n (maxI x0.fh.fW r1), .mp 4, .n x0.fp, .n x0.fm]), .blk (x0.fa.fb.enc ++ [.b x0.fa.fd, .n x0.fa.fg, .mp 2, .n x0.fa.fe]), .mapo (encM (kI .i64) (vA Ta.enc) x0.fa.fOf), .blk x0.fc.enc, .mapo (encM (kI .i64) (vA Tb.enc) x0.fOf)]⟩ (AWp.reg Try.tyOk hΓ [] [0] (by kernel_rfl) rfl (by simp)) ?_
  refine AWp.thenA [⟨4, none, .n r1⟩] (AWp.reg Try.tyOk hΓ [4] [5] (by kernel_rfl) rfl (by simp)) ?_
  refine AWp.ret ?_
  obtain rfl := La hr
  refine Lg ?_
  simp

@[simp] noncomputable def gf.S : Sp
 | [.ptr i0 7, .lit (.int .u32 x1)], M => match M[i0]? with
  | some (.blk c0) => (match nthE c0 0 with
  | some (.ptr i1 0) => (match M[i1]? with
  | some (.blk c1) => (match nthE c1 4 with
  | some (.mp i2) => (match M[i2]? with
  | some (.mapo c2) => (match nthE c0 1 with
  | some (.ptr i3 0) => (match M[i3]? with
  | some (.blk c3) => (match nthE c0 9 with
  | some (.mp i4) => (match M[i4]? with
  | some (.mapo c4) => (fun (y0 : Tf) => (fun (r : Int × Tf) => some { av := .lit (.int .i64 (r.1)), M := some (((((M.set i0 (.blk [.ptr i1 0, .ptr i3 0, .lit (.bool (r.2.ff.fd)), .lit (.int .i64 (r.2.ff.fk)), .lit (.int .u16 (r.2.ff.fV)), .lit (.int .i64 (r.2.ff.fM)), .lit (.int .i64 (r.2.ff.fC)), .lit (.bool (r.2.fh.fd)), .lit (.int .i64 (r.2.fh.fW)), .mp i4, .lit (.int .i64 (r.2.fp)), .lit (.int .i64 (r.2.fm))])).set i1 (.blk [.lit (.int .i64 (r.2.fa.fb.fk)), .lit (.int .i64 (r.2.fa.fb.fq)), .lit (.bool (r.2.fa.fd)), .lit (.int .i64 (r.2.fa.fg)), .mp i2, .lit (.int .i64 (r.2.fa.fe))])).set i2 (.mapo (encM (kI .i64) (vA Ta.enc) (r.2.fa.fOf)))).set i3 (.blk [.lit (.bool (r.2.fc.fb.fu)), .lit (.int .i64 (r.2.fc.fb.fv)), .lit (.int .i64 (r.2.fc.fb.fj)), .lit (.int .i64 (r.2.fc.fb.fq)), .sl ((r.2.fc.fw.fj).map Tc.enc) .no, .lit (.int .i64 (r.2.fc.fz)), .lit (.int .i64 (r.2.fc.fe))])).set i4 (.mapo (encM (kI .i64) (vA Tb.enc) (r.2.fOf)))), obl := c0 = Tf.enc y0 i1 i3 i4 ∧ c1 = Tg.enc (y0.fa) i2 ∧ c2 = encM (kI .i64) (vA Ta.enc) (y0.fa.fOf) ∧ c3 = Th.enc (y0.fc) ∧ c4 = encM (kI .i64) (vA Tb.enc) (y0.fOf) ∧ (gf y0 x1).isSome = true ∧ i0 ≠ i1 ∧ i0 ≠ i2 ∧ i0 ≠ i3 ∧ i0 ≠ i4 ∧ i1 ≠ i2 ∧ i1 ≠ i3 ∧ i1 ≠ i4 ∧ i2 ≠ i3 ∧ i2 ≠ i4 ∧ i3 ≠ i4 }) ((gf y0 x1).getD dflt)) (Tf.dec c0 (Tg.dec c1 (decM dkI (dvA Ta.dec) c2)) (Th.dec c3) (decM dkI (dvA Tb.dec) c4))
  | _ => none)
  | _ => none)
  | _ => none)
  | _ => none)
  | _ => none)
  | _ => none)
  | _ => none)
  | _ => none)
  | _ => none
 | _, _ => none

theorem gf.ok : SpecOk Try.prog 55 gf.S := by
 intro l M out h
 unfold gf.S at h
 split at h
 ·rename_i i0 x1
  split at h
  case h_2 => cases h
  rename_i c0 hM0
  split at h
  case h_2 => cases h
  rename_i i1 he1
  split at h
  case h_2 => cases h
  rename_i c1 hM1
  split at h
  case h_2 => cases h
  rename_i i2 he2
  split at h
  case h_2 => cases h
  rename_i c2 hM2
  split at h
  case h_2 => cases h
  rename_i i3 he3
  split at h
  case h_2 => cases h
  rename_i c3 hM3
  split at h
  case h_2 => cases h
  rename_i i4 he4
  split at h
  case h_2 => cases h
  rename_i c4 hM4
  try dsimp only at h
  cases h
  refine callOk_of fun ho => ?_
  obtain ⟨oc0, oc1, oc2, oc3, oc4, hs, hne0, hne1, hne2, hne3, hne4, hne5, hne6, hne7, hne8, hne9⟩ := ho
  generalize (Tf.dec c0 (Tg.dec c1 (decM dkI (dvA Ta.dec) c2)) (Th.dec c3) (decM dkI (dvA Tb.dec) c4)) = y0 at *
  subst oc0
  subst oc1
  subst oc2
  subst oc3
  subst oc4
  obtain ⟨r, hr⟩ := Option.isSome_iff_exists.1 hs
  simp only [hr, Option.getD_some]
  have q := Lh (M := M) [i0, i1, i2, i3, i4] (gf.can y0 x1 r hr) (by simp [hne0, hne1, hne2, hne3, hne4, hne5, hne6, hne7, hne8, hne9]) rfl (by intro k i hk; (cases k with | zero => (simp at hk; subst hk; simp [hM0, into]) | succ k => ((cases k with | zero => (simp at hk; subst hk; simp [hM1, into]) | succ k => ((cases k with | zero => (simp at hk; subst hk; simp [hM2]) | succ k => ((cases k with | zero => (simp at hk; subst hk; simp [hM3]) | succ k => ((cases k with | zero => (simp at hk; subst hk; simp [hM4]) | succ k => (simp at hk)))))))))))
  exact callOk_conv q trivial (by simp [into]) (by simp [frameOut, gf.out, into]) (by simp [frameOut, gf.out, into])
 ·cases h
end Go.Proofs

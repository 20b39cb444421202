/- That these functions compute what their plain functions do. No condition. -/
import Derived.Test.YtbijdlgffebenaaGreatM07
import Derived.Test.YtbijdlgffebenaaGreatTy
set_option maxRecDepth 100000
set_option maxHeartbeats 4000000
namespace Go.Proofs
open Go.Ab
@[simp] def gaB.out (_x0 : Int) (_x1 : Int) (r : Int) : Out := { av := .lit (.int .i64 r), M := none }
def gaB.fin (x0 : Int) (x1 : Int) (r : Int) (σ : St) : Prop := finK (gaB.out x0 x1 r) [] σ.M (resA Tryz.ty σ.A σ.M Tryz.f75.results.toList)
theorem gaB.can (x0 : Int) (x1 : Int) (r : Int) (hr : gaB x0 x1 = some r) : CallOk Tryz.prog 75 [.lit (.int .i64 x0), .lit (.int .i64 x1)] [] (gaB.out x0 x1 r) := by
 unfold gaB at hr
 have hΓ := gamL_nil (P := Tryz.prog)
 refine Le Tryz.tyOk Tryz.func75 rfl (by kernel_rfl) rfl rfl (by simp) ?_
 intro _ _ _
 refine AWp.then ⟨[⟨0, none, .n x0⟩, ⟨1, none, .n x1⟩], []⟩ (AWp.reg Tryz.tyOk hΓ [] [] (by kernel_rfl) rfl (by simp)) ?_
 obtain ⟨h3, hr⟩ := Lc hr
 refine AWp.thenA [⟨0, none, .n (remI x0 x1)⟩, ⟨1, none, .n x1⟩] (AWp.reg Tryz.tyOk hΓ [0] [] (by kernel_rfl) rfl (by simp [h3])) ?_
 refine AWp.meetF (fun (v1 : Int) (γ1 : Unit) => ⟨[⟨0, none, .n v1⟩], []⟩) (gaB.fin x0 x1) hr (fun f hr => ?_) (fun v1 γ1 hr => ?_) (fun _ h => h)
 ·refine AWp.then ⟨[⟨9, none, .b (ltI (remI x0 x1) 0)⟩, ⟨0, none, .n (remI x0 x1)⟩, ⟨1, none, .n x1⟩], []⟩ (AWp.reg Tryz.tyOk hΓ [9] [] (by kernel_rfl) rfl (by simp)) ?_
  refine AWp.cond (b := (ltI (remI x0 x1) 0)) (by simp) (fun h4 => ?_) (fun h4 => ?_)
  ·have hr := Li h4 hr
   refine AWp.last ⟨[⟨0, none, .n (addI .i64 (remI x0 x1) x1)⟩], []⟩ (AWp.reg Tryz.tyOk hΓ [0] [9, 1] (by kernel_rfl) rfl (by simp [h4])) ?_
   obtain rfl := La hr
   exact Ll () 0 (by first | (simp; done) | simp [h3, h4])
  ·have hr := Lj h4 hr
   refine AWp.skip ?_
   obtain rfl := La hr
   exact Ll () 0 (by first | (simp; done) | simp [h3, h4])
 ·refine AWp.then ⟨[⟨4, none, .n v1⟩], []⟩ (AWp.reg Tryz.tyOk hΓ [4] [0] (by kernel_rfl) rfl (by simp)) ?_
  refine AWp.ret ?_
  obtain rfl := La hr
  refine Lf ?_
  simp

@[simp] noncomputable def gaB.S : Sp
 | [.lit (.int .i64 x0), .lit (.int .i64 x1)], _ => some { av := .lit (.int .i64 ((gaB x0 x1).getD dflt)), M := none, obl := (gaB x0 x1).isSome = true }
 | _, _ => none

theorem gaB.ok : SpecOk Tryz.prog 75 gaB.S := by
 intro l M out h
 unfold gaB.S at h
 split at h
 ·rename_i x0 x1
  cases h
  refine callOk_of fun ho => ?_
  have hs := ho
  obtain ⟨r, hr⟩ := Option.isSome_iff_exists.1 hs
  simp only [hr, Option.getD_some]
  have q := Lg (M := M) [] (gaB.can x0 x1 r hr) (by simp) rfl (by intro k i hk; simp at hk)
  exact callOk_conv q trivial (by simp) (by simp [frameOut, gaB.out]) (by simp [frameOut, gaB.out])
 ·cases h

@[simp] def gaL.out (_x0 : Int) (_x1 : Int) (_x2 : Int) (r : Int) : Out := { av := .lit (.int .i64 r), M := none }
theorem gaL.can (x0 : Int) (x1 : Int) (x2 : Int) (r : Int) (hr : gaL x0 x1 x2 = some r) : CallOk Tryz.prog 74 [.lit (.int .i64 x0), .lit (.int .i64 x1), .lit (.int .i64 x2)] [] (gaL.out x0 x1 x2 r) := by
 unfold gaL at hr
 have hΓ := (gamL_cons gaB.ok (gamL_nil) : GamOk Tryz.prog _)
 refine Le Tryz.tyOk Tryz.func74 rfl (by kernel_rfl) rfl rfl (by simp) ?_
 intro _ _ _
 refine AWp.then ⟨[⟨0, none, .n x0⟩, ⟨1, none, .n x1⟩, ⟨2, none, .n x2⟩], []⟩ (AWp.reg Tryz.tyOk hΓ [] [] (by kernel_rfl) rfl (by simp)) ?_
 obtain ⟨r1, h4, hr⟩ := Lb hr
 refine AWp.thenA [⟨7, none, .n r1⟩, ⟨2, none, .n x2⟩] (AWp.reg Tryz.tyOk hΓ [7] [0, 1] (by kernel_rfl) rfl (by simp [h4])) ?_
 refine AWp.seq ?_
 obtain ⟨h5, hr⟩ := Lc hr
 refine AWp.then ⟨[⟨16, none, .b (ltI r1 (quoI .i64 x2 2))⟩, ⟨7, none, .n r1⟩, ⟨2, none, .n x2⟩], []⟩ (AWp.reg Tryz.tyOk hΓ [16] [] (by kernel_rfl) rfl (by simp [h5])) ?_
 refine AWp.cond (b := (ltI r1 (quoI .i64 x2 2))) (by simp) (fun h6 => ?_) (fun h6 => ?_)
 ·have hr := Li h6 hr
  refine AWp.thenA [⟨6, none, .n r1⟩] (AWp.reg Tryz.tyOk hΓ [6] [16, 7, 2] (by kernel_rfl) rfl (by simp [h6])) ?_
  refine AWp.ret ?_
  obtain rfl := La hr
  refine Lf ?_
  simp
 ·have hr := Lj h6 hr
  refine AWp.skip ?_
  refine AWp.then ⟨[⟨6, none, .n (subI .i64 r1 x2)⟩], []⟩ (AWp.reg Tryz.tyOk hΓ [6] [16, 7, 2] (by kernel_rfl) rfl (by simp [h6])) ?_
  refine AWp.ret ?_
  obtain rfl := La hr
  refine Lf ?_
  simp

@[simp] noncomputable def gaL.S : Sp
 | [.lit (.int .i64 x0), .lit (.int .i64 x1), .lit (.int .i64 x2)], _ => some { av := .lit (.int .i64 ((gaL x0 x1 x2).getD dflt)), M := none, obl := (gaL x0 x1 x2).isSome = true }
 | _, _ => none

theorem gaL.ok : SpecOk Tryz.prog 74 gaL.S := by
 intro l M out h
 unfold gaL.S at h
 split at h
 ·rename_i x0 x1 x2
  cases h
  refine callOk_of fun ho => ?_
  have hs := ho
  obtain ⟨r, hr⟩ := Option.isSome_iff_exists.1 hs
  simp only [hr, Option.getD_some]
  have q := Lg (M := M) [] (gaL.can x0 x1 x2 r hr) (by simp) rfl (by intro k i hk; simp at hk)
  exact callOk_conv q trivial (by simp) (by simp [frameOut, gaL.out]) (by simp [frameOut, gaL.out])
 ·cases h

@[simp] def gaC.out (_x0 : Int) (_x1 : Int) (_x2 : Int) (r : Int) : Out := { av := .lit (.int .i64 r), M := none }
theorem gaC.can (x0 : Int) (x1 : Int) (x2 : Int) (r : Int) (hr : gaC x0 x1 x2 = some r) : CallOk Tryz.prog 50 [.lit (.int .i64 x0), .lit (.int .i64 x1), .lit (.int .i64 x2)] [] (gaC.out x0 x1 x2 r) := by
 unfold gaC at hr
 have hΓ := (gamL_cons gaL.ok (gamL_cons gaB.ok (gamL_nil)) : GamOk Tryz.prog _)
 refine Le Tryz.tyOk Tryz.func50 rfl (by kernel_rfl) rfl rfl (by simp) ?_
 intro _ _ _
 refine AWp.then ⟨[⟨0, none, .n x0⟩, ⟨1, none, .n x1⟩, ⟨2, none, .n x2⟩], []⟩ (AWp.reg Tryz.tyOk hΓ [] [] (by kernel_rfl) rfl (by simp)) ?_
 obtain ⟨r1, h3, hr⟩ := Lb hr
 obtain ⟨r2, h4, hr⟩ := Lb hr
 refine AWp.thenA [⟨6, none, .n (addI .i64 x0 r2)⟩] (AWp.reg Tryz.tyOk hΓ [6] [0, 1, 2] (by kernel_rfl) rfl (by simp [h3, h4])) ?_
 refine AWp.ret ?_
 obtain rfl := La hr
 refine Lf ?_
 simp

@[simp] noncomputable def gaC.S : Sp
 | [.lit (.int .i64 x0), .lit (.int .i64 x1), .lit (.int .i64 x2)], _ => some { av := .lit (.int .i64 ((gaC x0 x1 x2).getD dflt)), M := none, obl := (gaC x0 x1 x2).isSome = true }
 | _, _ => none

theorem gaC.ok : SpecOk Tryz.prog 50 gaC.S := by
 intro l M out h
 unfold gaC.S at h
 split at h
 ·rename_i x0 x1 x2
  cases h
  refine callOk_of fun ho => ?_
  have hs := ho
  obtain ⟨r, hr⟩ := Option.isSome_iff_exists.1 hs
  simp only [hr, Option.getD_some]
  have q := Lg (M := M) [] (gaC.can x0 x1 x2 r hr) (by simp) rfl (by intro k i hk; simp at hk)
  exact callOk_conv q trivial (by simp) (by simp [frameOut, gaC.out]) (by simp [frameOut, gaC.out])
 ·cases h

@[simp] def gaI.out (_x0 : Tv) (_x1 : Int) (r : Tv × Int × Bool) : Out := { av := .tup [.agg [.lit (.bool r.1.fd), .lit (.int .i64 r.1.fk), .lit (.int .i64 r.1.fV), .lit (.int .i64 r.1.fK), .lit (.int .i64 r.1.fA)], .lit (.int .i64 r.2.1), .lit (.bool r.2.2)], M := none }
def gaI.fin (x0 : Tv) (x1 : Int) (r : Tv × Int × Bool) (σ : St) : Prop := finK (gaI.out x0 x1 r) [] σ.M (resA Tryz.ty σ.A σ.M Tryz.f27.results.toList)
theorem gaI.can (x0 : Tv) (x1 : Int) (r : Tv × Int × Bool) (hr : gaI x0 x1 = some r) : CallOk Tryz.prog 27 [.agg [.lit (.bool x0.fd), .lit (.int .i64 x0.fk), .lit (.int .i64 x0.fV), .lit (.int .i64 x0.fK), .lit (.int .i64 x0.fA)], .lit (.int .i64 x1)] [] (gaI.out x0 x1 r) := by
 unfold gaI at hr
 have hΓ := (gamL_cons gaC.ok (gamL_nil) : GamOk Tryz.prog _)
 refine Le Tryz.tyOk Tryz.func27 rfl (by kernel_rfl) rfl rfl (by simp) ?_
 intro _ _ _
 refine AWp.then ⟨[⟨2, none, .ptr 0 0⟩, ⟨4, none, .ptr 1 0⟩, ⟨1, none, .n x1⟩], [.blk x0.enc, .blk [.b false, .n 0, .n 0, .n 0, .n 0]]⟩ (AWp.reg Tryz.tyOk hΓ [2, 4] [0] (by kernel_rfl) rfl (by simp)) ?_
 refine AWp.seq ?_
 refine AWp.then ⟨[⟨10, none, .b (notB x0.fd)⟩, ⟨2, none, .ptr 0 0⟩, ⟨4, none, .ptr 1 0⟩, ⟨1, none, .n x1⟩], [.blk x0.enc, .blk [.b false, .n 0, .n 0, .n 0, .n 0]]⟩ (AWp.reg Tryz.tyOk hΓ [10] [] (by kernel_rfl) rfl (by simp)) ?_
 refine AWp.cond (b := (notB x0.fd)) (by simp) (fun h8 => ?_) (fun h8 => ?_)
 ·have hr := Li h8 hr
  refine AWp.then ⟨[⟨5, none, .n (addI .i64 1048576 x1)⟩, ⟨6, none, .b true⟩, ⟨4, none, .ptr 1 0⟩], [.blk x0.enc, .blk [.b true, .n (addI .i64 1048576 x1), .n (-1), .n 0, .n 0]]⟩ (AWp.reg Tryz.tyOk hΓ [5, 6] [10, 2, 1] (by kernel_rfl) rfl (by simp [h8])) ?_
  refine AWp.ret ?_
  obtain rfl := La hr
  refine Lf ?_
  simp
 ·have hr := Lj h8 hr
  refine AWp.skip ?_
  obtain ⟨r1, h9, hr⟩ := Lb hr
  refine AWp.then ⟨[⟨7, none, .n r1⟩, ⟨2, none, .ptr 0 0⟩, ⟨4, none, .ptr 1 0⟩, ⟨1, none, .n x1⟩], [.blk x0.enc, .blk [.b false, .n 0, .n 0, .n 0, .n 0]]⟩ (AWp.reg Tryz.tyOk hΓ [7] [10] (by kernel_rfl) rfl (by simp [h8, h9])) ?_
  refine AWp.seq ?_
  refine AWp.then ⟨[⟨31, none, .b (pickB (leqI r1 (addI .i64 x0.fk 3000)) (leqI (subI .i64 x0.fk 3000) r1) false)⟩, ⟨7, none, .n r1⟩, ⟨2, none, .ptr 0 0⟩, ⟨4, none, .ptr 1 0⟩, ⟨1, none, .n x1⟩], [.blk x0.enc, .blk [.b false, .n 0, .n 0, .n 0, .n 0]]⟩ (AWp.reg Tryz.tyOk hΓ [31] [] (by kernel_rfl) rfl (by simp)) ?_
  refine AWp.cond (b := (pickB (leqI r1 (addI .i64 x0.fk 3000)) (leqI (subI .i64 x0.fk 3000) r1) false)) (by simp) (fun h10 => ?_) (fun h10 => ?_)
  ·have hr := Li h10 hr
   refine AWp.then ⟨[⟨7, none, .n r1⟩, ⟨2, none, .ptr 0 0⟩, ⟨4, none, .ptr 1 0⟩], [.blk [.b x0.fd, .n (maxI x0.fk r1), .n x0.fV, .n x0.fK, .n x0.fA], .blk [.b false, .n 0, .n 0, .n 0, .n 0]]⟩ (AWp.reg Tryz.tyOk hΓ [] [31, 1] (by kernel_rfl) rfl (by simp [h10])) ?_
   refine AWp.then ⟨[⟨7, none, .n r1⟩, ⟨2, none, .ptr 0 0⟩, ⟨4, none, .ptr 1 0⟩], [.blk [.b x0.fd, .n (maxI x0.fk r1), .n (-1), .n x0.fK, .n x0.fA], .blk [.b false, .n 0, .n 0, .n 0, .n 0]]⟩ (AWp.reg Tryz.tyOk hΓ [] [] (by kernel_rfl) rfl (by simp)) ?_
   refine AWp.then ⟨[⟨7, none, .n r1⟩, ⟨2, none, .ptr 0 0⟩, ⟨4, none, .ptr 1 0⟩], [.blk [.b x0.fd, .n (maxI x0.fk r1), .n (-1), .n 0, .n x0.fA], .blk [.b false, .n 0, .n 0, .n 0, .n 0]]⟩ (AWp.reg Tryz.tyOk hΓ [] [] (by kernel_rfl) rfl (by simp)) ?_
   refine AWp.then ⟨[⟨5, none, .n r1⟩, ⟨6, none, .b true⟩, ⟨4, none, .ptr 1 0⟩], [.blk [.b x0.fd, .n (maxI x0.fk r1), .n (-1), .n 0, .n x0.fA], .blk [.b x0.fd, .n (maxI x0.fk r1), .n (-1), .n 0, .n x0.fA]]⟩ (AWp.reg Tryz.tyOk hΓ [5, 6] [7, 2] (by kernel_rfl) rfl (by simp)) ?_
   refine AWp.ret ?_
   obtain rfl := La hr
   refine Lf ?_
   simp
  ·have hr := Lj h10 hr
   refine AWp.skip ?_
   refine AWp.meetF (fun (v1 : Tv) (γ1 : Unit) => ⟨[⟨2, none, .ptr 0 0⟩, ⟨4, none, .ptr 1 0⟩, ⟨1, none, .n x1⟩], [.blk v1.enc, .blk [.b false, .n 0, .n 0, .n 0, .n 0]]⟩) (gaI.fin x0 x1) hr (fun f hr => ?_) (fun v1 γ1 hr => ?_) (fun _ h => h)
   ·refine AWp.then ⟨[⟨44, none, .b (eqI x0.fV x1)⟩, ⟨2, none, .ptr 0 0⟩, ⟨4, none, .ptr 1 0⟩, ⟨1, none, .n x1⟩], [.blk x0.enc, .blk [.b false, .n 0, .n 0, .n 0, .n 0]]⟩ (AWp.reg Tryz.tyOk hΓ [44] [31, 7] (by kernel_rfl) rfl (by simp [h10])) ?_
    refine AWp.cond (b := (eqI x0.fV x1)) (by simp) (fun h11 => ?_) (fun h11 => ?_)
    ·have hr := Li h11 hr
     refine AWp.last ⟨[⟨2, none, .ptr 0 0⟩, ⟨4, none, .ptr 1 0⟩, ⟨1, none, .n x1⟩], [.blk [.b x0.fd, .n x0.fk, .n x0.fV, .n (addI .i64 x0.fK 1), .n x0.fA], .blk [.b false, .n 0, .n 0, .n 0, .n 0]]⟩ (AWp.reg Tryz.tyOk hΓ [] [44] (by kernel_rfl) rfl (by simp [h11])) ?_
     obtain rfl := La hr
     exact Ll () 2 (by first | (simp; done) | simp [h8, h9, h10, h11])
    ·have hr := Lj h11 hr
     refine AWp.last ⟨[⟨2, none, .ptr 0 0⟩, ⟨4, none, .ptr 1 0⟩, ⟨1, none, .n x1⟩], [.blk [.b x0.fd, .n x0.fk, .n x0.fV, .n 1, .n x0.fA], .blk [.b false, .n 0, .n 0, .n 0, .n 0]]⟩ (AWp.reg Tryz.tyOk hΓ [] [44] (by kernel_rfl) rfl (by simp [h11])) ?_
     obtain rfl := La hr
     exact Ll () 2 (by first | (simp; done) | simp [h8, h9, h10, h11])
   ·obtain ⟨h12, hr⟩ := Lc hr
    refine AWp.then ⟨[⟨2, none, .ptr 0 0⟩, ⟨4, none, .ptr 1 0⟩, ⟨1, none, .n x1⟩], [.blk [.b v1.fd, .n v1.fk, .n (remI (addI .i64 x1 1) 65536), .n v1.fK, .n v1.fA], .blk [.b false, .n 0, .n 0, .n 0, .n 0]]⟩ (AWp.reg Tryz.tyOk hΓ [] [] (by kernel_rfl) rfl (by simp [h12])) ?_
    refine AWp.seq ?_
    refine AWp.then ⟨[⟨56, none, .b (ltI v1.fK 2)⟩, ⟨2, none, .ptr 0 0⟩, ⟨4, none, .ptr 1 0⟩, ⟨1, none, .n x1⟩], [.blk [.b v1.fd, .n v1.fk, .n (remI (addI .i64 x1 1) 65536), .n v1.fK, .n v1.fA], .blk [.b false, .n 0, .n 0, .n 0, .n 0]]⟩ (AWp.reg Tryz.tyOk hΓ [56] [] (by kernel_rfl) rfl (by simp)) ?_
    refine AWp.cond (b := (ltI v1.fK 2)) (by simp) (fun h13 => ?_) (fun h13 => ?_)
    ·have hr := Li h13 hr
     refine AWp.then ⟨[⟨5, none, .n 0⟩, ⟨6, none, .b false⟩, ⟨4, none, .ptr 1 0⟩], [.blk [.b v1.fd, .n v1.fk, .n (remI (addI .i64 x1 1) 65536), .n v1.fK, .n v1.fA], .blk [.b v1.fd, .n v1.fk, .n (remI (addI .i64 x1 1) 65536), .n v1.fK, .n v1.fA]]⟩ (AWp.reg Tryz.tyOk hΓ [5, 6] [56, 2, 1] (by kernel_rfl) rfl (by simp [h13])) ?_
     refine AWp.ret ?_
     obtain rfl := La hr
     refine Lf ?_
     simp
    ·have hr := Lj h13 hr
     refine AWp.skip ?_
     obtain ⟨h14, hr⟩ := Lc hr
     refine AWp.then ⟨[⟨2, none, .ptr 0 0⟩, ⟨4, none, .ptr 1 0⟩], [.blk [.b v1.fd, .n (addI .i64 (mulI .i64 (addI .i64 (quoI .i64 v1.fk 65536) 2) 65536) x1), .n (remI (addI .i64 x1 1) 65536), .n v1.fK, .n v1.fA], .blk [.b false, .n 0, .n 0, .n 0, .n 0]]⟩ (AWp.reg Tryz.tyOk hΓ [] [56, 1] (by kernel_rfl) rfl (by simp [h12, h13])) ?_
     refine AWp.then ⟨[⟨2, none, .ptr 0 0⟩, ⟨4, none, .ptr 1 0⟩], [.blk [.b v1.fd, .n (addI .i64 (mulI .i64 (addI .i64 (quoI .i64 v1.fk 65536) 2) 65536) x1), .n (remI (addI .i64 x1 1) 65536), .n v1.fK, .n (addI .i64 v1.fA 1)], .blk [.b false, .n 0, .n 0, .n 0, .n 0]]⟩ (AWp.reg Tryz.tyOk hΓ [] [] (by kernel_rfl) rfl (by simp)) ?_
     refine AWp.then ⟨[⟨2, none, .ptr 0 0⟩, ⟨4, none, .ptr 1 0⟩], [.blk [.b v1.fd, .n (addI .i64 (mulI .i64 (addI .i64 (quoI .i64 v1.fk 65536) 2) 65536) x1), .n (remI (addI .i64 x1 1) 65536), .n 0, .n (addI .i64 v1.fA 1)], .blk [.b false, .n 0, .n 0, .n 0, .n 0]]⟩ (AWp.reg Tryz.tyOk hΓ [] [] (by kernel_rfl) rfl (by simp)) ?_
     refine AWp.then ⟨[⟨2, none, .ptr 0 0⟩, ⟨4, none, .ptr 1 0⟩], [.blk [.b v1.fd, .n (addI .i64 (mulI .i64 (addI .i64 (quoI .i64 v1.fk 65536) 2) 65536) x1), .n (-1), .n 0, .n (addI .i64 v1.fA 1)], .blk [.b false, .n 0, .n 0, .n 0, .n 0]]⟩ (AWp.reg Tryz.tyOk hΓ [] [] (by kernel_rfl) rfl (by simp)) ?_
     refine AWp.then ⟨[⟨5, none, .n (addI .i64 (mulI .i64 (addI .i64 (quoI .i64 v1.fk 65536) 2) 65536) x1)⟩, ⟨6, none, .b true⟩, ⟨4, none, .ptr 1 0⟩], [.blk [.b v1.fd, .n (addI .i64 (mulI .i64 (addI .i64 (quoI .i64 v1.fk 65536) 2) 65536) x1), .n (-1), .n 0, .n (addI .i64 v1.fA 1)], .blk [.b v1.fd, .n (addI .i64 (mulI .i64 (addI .i64 (quoI .i64 v1.fk 65536) 2) 65536) x1), .n (-1), .n 0, .n (addI .i64 v1.fA 1)]]⟩ (AWp.regD Tryz.mixed Tryz.tyOk hΓ [5, 6] [2] [(1, 4), (2, 4)] [(false, []), (false, []), (false, []), (true, []), (false, []), (false, [])] (by kernel_rfl) rfl (by simp)) ?_
     refine AWp.ret ?_
     obtain rfl := La hr
     refine Lf ?_
     simp

@[simp] noncomputable def gaI.S : Sp
 | [.agg e0, .lit (.int .i64 x1)], _ => (fun (y0 : Tv) => (fun (r : Tv × Int × Bool) => some { av := .tup [.agg [.lit (.bool (r.1.fd)), .lit (.int .i64 (r.1.fk)), .lit (.int .i64 (r.1.fV)), .lit (.int .i64 (r.1.fK)), .lit (.int .i64 (r.1.fA))], .lit (.int .i64 (r.2.1)), .lit (.bool (r.2.2))], M := none, obl := WeakL e0 (Tv.enc y0) ∧ (gaI y0 x1).isSome = true }) ((gaI y0 x1).getD dflt)) (Tv.dec e0)
 | _, _ => none

theorem gaI.ok : SpecOk Tryz.prog 27 gaI.S := by
 intro l M out h
 unfold gaI.S at h
 split at h
 ·rename_i e0 x1
  try dsimp only at h
  cases h
  refine callOk_of fun ho => ?_
  obtain ⟨ox0, hs⟩ := ho
  generalize (Tv.dec e0) = x0 at *
  obtain ⟨r, hr⟩ := Option.isSome_iff_exists.1 hs
  simp only [hr, Option.getD_some]
  have q := Lg (M := M) [] (gaI.can x0 x1 r hr) (by simp) rfl (by intro k i hk; simp at hk)
  exact callOk_conv q trivial (by simp; exact ox0) (by simp [frameOut, gaI.out]) (by simp [frameOut, gaI.out])
 ·cases h

@[simp] def gaG.out (_x0 : Int) (_x1 : Int) (r : Int × Int) : Out := { av := .tup [.lit (.int .i64 r.1), .lit (.int .i64 r.2)], M := none }
theorem gaG.can (x0 : Int) (x1 : Int) (r : Int × Int) (hr : gaG x0 x1 = some r) : CallOk Tryz.prog 77 [.lit (.int .i64 x0), .lit (.int .i64 x1)] [] (gaG.out x0 x1 r) := by
 unfold gaG at hr
 have hΓ := (gamL_cons gaC.ok (gamL_nil) : GamOk Tryz.prog _)
 refine Le Tryz.tyOk Tryz.func77 rfl (by kernel_rfl) rfl rfl (by simp) ?_
 intro _ _ _
 refine AWp.then ⟨[⟨0, none, .n x0⟩, ⟨1, none, .n x1⟩], []⟩ (AWp.reg Tryz.tyOk hΓ [] [] (by kernel_rfl) rfl (by simp)) ?_
 refine AWp.seq ?_
 refine AWp.then ⟨[⟨8, none, .b (ltI x0 0)⟩, ⟨0, none, .n x0⟩, ⟨1, none, .n x1⟩], []⟩ (AWp.reg Tryz.tyOk hΓ [8] [] (by kernel_rfl) rfl (by simp)) ?_
 refine AWp.cond (b := (ltI x0 0)) (by simp) (fun h3 => ?_) (fun h3 => ?_)
 ·have hr := Li h3 hr
  refine AWp.thenA [⟨4, none, .n (addI .i64 68719476736 x1)⟩, ⟨5, none, .n (addI .i64 68719476736 x1)⟩] (AWp.reg Tryz.tyOk hΓ [4, 5] [8, 0, 1] (by kernel_rfl) rfl (by simp [h3])) ?_
  refine AWp.ret ?_
  obtain rfl := La hr
  refine Lf ?_
  simp
 ·have hr := Lj h3 hr
  refine AWp.skip ?_
  obtain ⟨r1, h4, hr⟩ := Lb hr
  refine AWp.then ⟨[⟨6, none, .n r1⟩, ⟨0, none, .n x0⟩], []⟩ (AWp.reg Tryz.tyOk hΓ [6] [8, 1] (by kernel_rfl) rfl (by simp [h3, h4])) ?_
  refine AWp.thenA [⟨4, none, .n (maxI x0 r1)⟩, ⟨5, none, .n r1⟩] (AWp.reg Tryz.tyOk hΓ [4, 5] [6, 0] (by kernel_rfl) rfl (by simp)) ?_
  refine AWp.ret ?_
  obtain rfl := La hr
  refine Lf ?_
  simp

@[simp] noncomputable def gaG.S : Sp
 | [.lit (.int .i64 x0), .lit (.int .i64 x1)], _ => some { av := .tup [.lit (.int .i64 (((gaG x0 x1).getD dflt).1)), .lit (.int .i64 (((gaG x0 x1).getD dflt).2))], M := none, obl := (gaG x0 x1).isSome = true }
 | _, _ => none

theorem gaG.ok : SpecOk Tryz.prog 77 gaG.S := by
 intro l M out h
 unfold gaG.S at h
 split at h
 ·rename_i x0 x1
  cases h
  refine callOk_of fun ho => ?_
  have hs := ho
  obtain ⟨r, hr⟩ := Option.isSome_iff_exists.1 hs
  simp only [hr, Option.getD_some]
  have q := Lg (M := M) [] (gaG.can x0 x1 r hr) (by simp) rfl (by intro k i hk; simp at hk)
  exact callOk_conv q trivial (by simp) (by simp [frameOut, gaG.out]) (by simp [frameOut, gaG.out])
 ·cases h
end Go.Proofs

/- That these functions compute what their plain functions do. No condition. -/
import Derived.Test.YtbijdlgffebenaaGreatM06
import Derived.Test.YtbijdlgffebenaaGreatTy
set_option maxRecDepth 100000
set_option maxHeartbeats 4000000
namespace Go.Proofs
open Go.Ab
@[simp] def gaw.out (_x0 : Tk) (_x1 : Int) (r : Tk × ByteArray) : Out := { av := .tup [.agg [.lit (.string r.1.fS), .lit (.int .i64 r.1.fE)], .lit (.string r.2)], M := none }
theorem gaw.can (x0 : Tk) (x1 : Int) (r : Tk × ByteArray) (hr : gaw x0 x1 = some r) : CallOk Tryz.prog 104 [.agg [.lit (.string x0.fS), .lit (.int .i64 x0.fE)], .lit (.int .i64 x1)] [] (gaw.out x0 x1 r) := by
 unfold gaw at hr
 have hΓ := gamL_nil (P := Tryz.prog)
 refine Le Tryz.tyOk Tryz.func104 rfl (by kernel_rfl) rfl rfl (by simp) ?_
 intro _ _ _
 refine AWp.then ⟨[⟨2, none, .ptr 0 0⟩, ⟨4, none, .ptr 1 0⟩, ⟨1, none, .n x1⟩], [.blk x0.enc, .blk [.s ⟨#[]⟩, .n 0]]⟩ (AWp.reg Tryz.tyOk hΓ [2, 4] [0] (by kernel_rfl) rfl (by simp)) ?_
 refine AWp.seq ?_
 refine AWp.then ⟨[⟨8, none, .b (neI x0.fE 0)⟩, ⟨2, none, .ptr 0 0⟩, ⟨4, none, .ptr 1 0⟩, ⟨1, none, .n x1⟩], [.blk x0.enc, .blk [.s ⟨#[]⟩, .n 0]]⟩ (AWp.reg Tryz.tyOk hΓ [8] [] (by kernel_rfl) rfl (by simp)) ?_
 refine AWp.cond (b := (neI x0.fE 0)) (by simp) (fun h6 => ?_) (fun h6 => ?_)
 ·have hr := Li h6 hr
  refine AWp.then ⟨[⟨5, none, .s ⟨#[]⟩⟩, ⟨4, none, .ptr 1 0⟩], [.blk x0.enc, .blk x0.enc]⟩ (AWp.reg Tryz.tyOk hΓ [5] [8, 2, 1] (by kernel_rfl) rfl (by simp [h6])) ?_
  refine AWp.ret ?_
  obtain rfl := La hr
  refine Lf ?_
  simp
 ·have hr := Lj h6 hr
  refine AWp.skip ?_
  refine AWp.seq ?_
  refine AWp.then ⟨[⟨11, none, .b (ltI x1 0)⟩, ⟨2, none, .ptr 0 0⟩, ⟨4, none, .ptr 1 0⟩, ⟨1, none, .n x1⟩], [.blk x0.enc, .blk [.s ⟨#[]⟩, .n 0]]⟩ (AWp.reg Tryz.tyOk hΓ [11] [8] (by kernel_rfl) rfl (by simp [h6])) ?_
  refine AWp.cond (b := (ltI x1 0)) (by simp) (fun h7 => ?_) (fun h7 => ?_)
  ·have hr := Li h7 hr
   refine AWp.then ⟨[⟨5, none, .s ⟨#[]⟩⟩, ⟨4, none, .ptr 1 0⟩], [.blk x0.enc, .blk [.s ⟨#[]⟩, .n 5]]⟩ (AWp.reg Tryz.tyOk hΓ [5] [11, 2, 1] (by kernel_rfl) rfl (by simp [h7])) ?_
   refine AWp.ret ?_
   obtain rfl := La hr
   refine Lf ?_
   simp
  ·have hr := Lj h7 hr
   refine AWp.skip ?_
   refine AWp.seq ?_
   refine AWp.then ⟨[⟨17, none, .b (ltI (lenS x0.fS) x1)⟩, ⟨2, none, .ptr 0 0⟩, ⟨4, none, .ptr 1 0⟩, ⟨1, none, .n x1⟩], [.blk x0.enc, .blk [.s ⟨#[]⟩, .n 0]]⟩ (AWp.reg Tryz.tyOk hΓ [17] [11] (by kernel_rfl) rfl (by simp [h7])) ?_
   refine AWp.cond (b := (ltI (lenS x0.fS) x1)) (by simp) (fun h8 => ?_) (fun h8 => ?_)
   ·have hr := Li h8 hr
    refine AWp.then ⟨[⟨5, none, .s ⟨#[]⟩⟩, ⟨4, none, .ptr 1 0⟩], [.blk x0.enc, .blk [.s ⟨#[]⟩, .n 1]]⟩ (AWp.reg Tryz.tyOk hΓ [5] [17, 2, 1] (by kernel_rfl) rfl (by simp [h8])) ?_
    refine AWp.ret ?_
    obtain rfl := La hr
    refine Lf ?_
    simp
   ·have hr := Lj h8 hr
    refine AWp.skip ?_
    obtain ⟨h9, hr⟩ := Lc hr
    obtain ⟨h10, hr⟩ := Lc hr
    refine AWp.then ⟨[⟨5, none, .s (cutS x0.fS 0 x1)⟩, ⟨4, none, .ptr 1 0⟩], [.blk x0.enc, .blk [.s (cutS x0.fS x1 (lenS x0.fS)), .n 0]]⟩ (AWp.regD Tryz.mixed Tryz.tyOk hΓ [5] [17, 2, 1] [(5, 10), (6, 10), (7, 10), (8, 10)] [(false, []), (false, []), (false, []), (false, []), (false, []), (false, []), (false, []), (false, []), (false, []), (true, []), (false, [])] (by kernel_rfl) rfl (by simp [h8, h9, h10])) ?_
    refine AWp.ret ?_
    obtain rfl := La hr
    refine Lf ?_
    simp

@[simp] noncomputable def gaw.S : Sp
 | [.agg e0, .lit (.int .i64 x1)], _ => some { av := .tup [.agg [.lit (.string (((gaw (Tk.dec e0) x1).getD dflt).1.fS)), .lit (.int .i64 (((gaw (Tk.dec e0) x1).getD dflt).1.fE))], .lit (.string (((gaw (Tk.dec e0) x1).getD dflt).2))], M := none, obl := WeakL e0 (Tk.enc (Tk.dec e0)) ∧ (gaw (Tk.dec e0) x1).isSome = true }
 | _, _ => none

theorem gaw.ok : SpecOk Tryz.prog 104 gaw.S := by
 intro l M out h
 unfold gaw.S at h
 split at h
 ·rename_i e0 x1
  cases h
  refine callOk_of fun ho => ?_
  obtain ⟨ox0, hs⟩ := ho
  generalize (Tk.dec e0) = x0 at *
  obtain ⟨r, hr⟩ := Option.isSome_iff_exists.1 hs
  simp only [hr, Option.getD_some]
  have q := Lg (M := M) [] (gaw.can x0 x1 r hr) (by simp) rfl (by intro k i hk; simp at hk)
  exact callOk_conv q trivial (by simp; exact ox0) (by simp [frameOut, gaw.out]) (by simp [frameOut, gaw.out])
 ·cases h

@[simp] def gP.out (_x0 : ByteArray) (r : Int) : Out := { av := .lit (.int .u64 r), M := none }
def gP.fin (x0 : ByteArray) (r : Int) (σ : St) : Prop := finK (gP.out x0 r) [] σ.M (resA Tryz.ty σ.A σ.M Tryz.f105.results.toList)
theorem gP.can (x0 : ByteArray) (r : Int) (hr : gP x0 = some r) : CallOk Tryz.prog 105 [.lit (.string x0)] [] (gP.out x0 r) := by
 unfold gP at hr
 have hΓ := gamL_nil (P := Tryz.prog)
 refine Le Tryz.tyOk Tryz.func105 rfl (by kernel_rfl) rfl rfl (by simp) ?_
 intro _ _ _
 refine AWp.then ⟨[⟨0, none, .s x0⟩], []⟩ (AWp.reg Tryz.tyOk hΓ [] [] (by kernel_rfl) rfl (by simp)) ?_
 refine AWp.thenA [⟨3, none, .lit (.int .u64 0)⟩, ⟨0, none, .s x0⟩] (AWp.reg Tryz.tyOk hΓ [3] [] (by kernel_rfl) rfl (by simp)) ?_
 refine AWp.seq ?_
 refine AWp.then ⟨[⟨4, none, .n 0⟩, ⟨3, none, .lit (.int .u64 0)⟩, ⟨0, none, .s x0⟩], []⟩ (AWp.reg Tryz.tyOk hΓ [4] [] (by kernel_rfl) rfl (by simp)) ?_
 refine AWp.loopE (fun (s1 : Int × Int) (γ1 : Unit) => ⟨[⟨4, none, .n s1.1⟩, ⟨3, none, .lit (.int .u64 s1.2)⟩, ⟨0, none, .s x0⟩], []⟩) (fun (v1 : Int) (γ1a : Unit) => ⟨[⟨3, none, .lit (.int .u64 v1)⟩], []⟩) (gP.fin x0) hr () 0 (by simp) (fun s1 f γ1 hr => ?_) (fun v1 γ1a σ1 m1 hr hc => ?_) (fun _ h => h)
 ·unfold gP.loop1 at hr
  refine AWp.seq ?_
  refine AWp.then ⟨[⟨8, none, .b (ltI s1.1 (lenS x0))⟩, ⟨4, none, .n s1.1⟩, ⟨3, none, .lit (.int .u64 s1.2)⟩, ⟨0, none, .s x0⟩], []⟩ (AWp.reg Tryz.tyOk hΓ [8] [] (by kernel_rfl) rfl (by simp)) ?_
  refine AWp.cond (b := (ltI s1.1 (lenS x0))) (by simp) (fun h3 => ?_) (fun h3 => ?_)
  ·have hr := Li h3 hr
   refine AWp.skip ?_
   refine AWp.seq ?_
   refine AWp.block ?_
   obtain ⟨h4, hr⟩ := Lc hr
   refine AWp.last ⟨[⟨3, none, .lit (.int .u64 (addI .u64 (mulI .u64 s1.2 256) (cvtI .u64 (idxS x0 s1.1))))⟩, ⟨4, none, .n s1.1⟩, ⟨0, none, .s x0⟩], []⟩ (AWp.reg Tryz.tyOk hΓ [3] [8] (by kernel_rfl) rfl (by simp [h3, h4])) ?_
   refine AWp.last ⟨[⟨4, none, .n (addI .i64 s1.1 1)⟩, ⟨3, none, .lit (.int .u64 (addI .u64 (mulI .u64 s1.2 256) (cvtI .u64 (idxS x0 s1.1))))⟩, ⟨0, none, .s x0⟩], []⟩ (AWp.reg Tryz.tyOk hΓ [4] [] (by kernel_rfl) rfl (by simp)) ?_
   obtain rfl := La hr
   exact Lq () 0 (by first | (simp; done) | simp [h3, h4])
  ·have hr := Lj h3 hr
   refine AWp.exit ?_
   obtain rfl := La hr
   exact Lo () 0 (by first | (simp; done) | simp [h3])
 ·refine AWp.conv hc ?_
  refine AWp.then ⟨[⟨2, none, .lit (.int .u64 v1)⟩], []⟩ (AWp.reg Tryz.tyOk hΓ [2] [3] (by kernel_rfl) rfl (by simp)) ?_
  refine AWp.ret ?_
  obtain rfl := La hr
  refine Lf ?_
  simp

@[simp] noncomputable def gP.S : Sp
 | [.lit (.string x0)], _ => some { av := .lit (.int .u64 ((gP x0).getD dflt)), M := none, obl := (gP x0).isSome = true }
 | _, _ => none

theorem gP.ok : SpecOk Tryz.prog 105 gP.S := by
 intro l M out h
 unfold gP.S at h
 split at h
 ·rename_i x0
  cases h
  refine callOk_of fun ho => ?_
  have hs := ho
  obtain ⟨r, hr⟩ := Option.isSome_iff_exists.1 hs
  simp only [hr, Option.getD_some]
  have q := Lg (M := M) [] (gP.can x0 r hr) (by simp) rfl (by intro k i hk; simp at hk)
  exact callOk_conv q trivial (by simp) (by simp [frameOut, gP.out]) (by simp [frameOut, gP.out])
 ·cases h

@[simp] def gal.out (_x0 : Tk) (_x1 : Int) (r : Tk × Int) : Out := { av := .tup [.agg [.lit (.string r.1.fS), .lit (.int .i64 r.1.fE)], .lit (.int .u64 r.2)], M := none }
theorem gal.can (x0 : Tk) (x1 : Int) (r : Tk × Int) (hr : gal x0 x1 = some r) : CallOk Tryz.prog 94 [.agg [.lit (.string x0.fS), .lit (.int .i64 x0.fE)], .lit (.int .i64 x1)] [] (gal.out x0 x1 r) := by
 unfold gal at hr
 have hΓ := (gamL_cons gaw.ok (gamL_cons gP.ok (gamL_nil)) : GamOk Tryz.prog _)
 refine Le Tryz.tyOk Tryz.func94 rfl (by kernel_rfl) rfl rfl (by simp) ?_
 intro _ _ _
 refine AWp.then ⟨[⟨2, none, .ptr 0 0⟩, ⟨4, none, .ptr 1 0⟩, ⟨1, none, .n x1⟩], [.blk x0.enc, .blk [.s ⟨#[]⟩, .n 0]]⟩ (AWp.reg Tryz.tyOk hΓ [2, 4] [0] (by kernel_rfl) rfl (by simp)) ?_
 obtain ⟨r1, h3, hr⟩ := Lb hr
 refine AWp.then ⟨[⟨6, none, .s r1.2⟩, ⟨2, none, .ptr 0 0⟩, ⟨4, none, .ptr 1 0⟩], [.blk r1.1.enc, .blk [.s ⟨#[]⟩, .n 0]]⟩ (AWp.reg Tryz.tyOk hΓ [6] [1] (by kernel_rfl) rfl (by simp [h3])) ?_
 obtain ⟨r2, h4, hr⟩ := Lb hr
 refine AWp.then ⟨[⟨5, none, .lit (.int .u64 r2)⟩, ⟨4, none, .ptr 1 0⟩], [.blk r1.1.enc, .blk r1.1.enc]⟩ (AWp.regD Tryz.mixed Tryz.tyOk hΓ [5] [6, 2] [] [(false, []), (false, []), (false, []), (true, []), (false, [])] (by kernel_rfl) rfl (by simp [h4])) ?_
 refine AWp.ret ?_
 obtain rfl := La hr
 refine Lf ?_
 simp

@[simp] noncomputable def gal.S : Sp
 | [.agg e0, .lit (.int .i64 x1)], _ => some { av := .tup [.agg [.lit (.string (((gal (Tk.dec e0) x1).getD dflt).1.fS)), .lit (.int .i64 (((gal (Tk.dec e0) x1).getD dflt).1.fE))], .lit (.int .u64 (((gal (Tk.dec e0) x1).getD dflt).2))], M := none, obl := WeakL e0 (Tk.enc (Tk.dec e0)) ∧ (gal (Tk.dec e0) x1).isSome = true }
 | _, _ => none

theorem gal.ok : SpecOk Tryz.prog 94 gal.S := by
 intro l M out h
 unfold gal.S at h
 split at h
 ·rename_i e0 x1
  cases h
  refine callOk_of fun ho => ?_
  obtain ⟨ox0, hs⟩ := ho
  generalize (Tk.dec e0) = x0 at *
  obtain ⟨r, hr⟩ := Option.isSome_iff_exists.1 hs
  simp only [hr, Option.getD_some]
  have q := Lg (M := M) [] (gal.can x0 x1 r hr) (by simp) rfl (by intro k i hk; simp at hk)
  exact callOk_conv q trivial (by simp; exact ox0) (by simp [frameOut, gal.out]) (by simp [frameOut, gal.out])
 ·cases h

@[simp] def gaa.out (_x0 : Tk) (_x1 : Te) (_x2 : Int) (r : Tk × Te) : Out := { av := .tup [.agg [.lit (.string r.1.fS), .lit (.int .i64 r.1.fE)], .agg [.lit (.bool r.2.fI), .lit (.bool r.2.fz), .lit (.int .i64 r.2.fD), .lit (.int .i64 r.2.fB), .lit (.bool r.2.fR), .lit (.int .i64 r.2.fG), .lit (.int .i64 r.2.fH), .lit (.bool r.2.fQ), .lit (.int .i64 r.2.fJ)]], M := none }
def gaa.fin (x0 : Tk) (x1 : Te) (x2 : Int) (r : Tk × Te) (σ : St) : Prop := finK (gaa.out x0 x1 x2 r) [] σ.M (resA Tryz.ty σ.A σ.M Tryz.f106.results.toList)
theorem gaa.can (x0 : Tk) (x1 : Te) (x2 : Int) (r : Tk × Te) (hr : gaa x0 x1 x2 = some r) : CallOk Tryz.prog 106 [.agg [.lit (.string x0.fS), .lit (.int .i64 x0.fE)], .agg [.lit (.bool x1.fI), .lit (.bool x1.fz), .lit (.int .i64 x1.fD), .lit (.int .i64 x1.fB), .lit (.bool x1.fR), .lit (.int .i64 x1.fG), .lit (.int .i64 x1.fH), .lit (.bool x1.fQ), .lit (.int .i64 x1.fJ)], .lit (.int .i64 x2)] [] (gaa.out x0 x1 x2 r) := by
 unfold gaa at hr
 have hΓ := (gamL_cons gal.ok (gamL_nil) : GamOk Tryz.prog _)
 refine Le Tryz.tyOk Tryz.func106 rfl (by kernel_rfl) rfl rfl (by simp) ?_
 intro _ _ _
 refine AWp.then ⟨[⟨3, none, .ptr 0 0⟩, ⟨4, none, .ptr 1 0⟩, ⟨6, none, .ptr 2 0⟩, ⟨7, none, .ptr 3 0⟩, ⟨2, none, .n x2⟩], [.blk x0.enc, .blk x1.enc, .blk [.s ⟨#[]⟩, .n 0], .blk [.b false, .b false, .n 0, .n 0, .b false, .n 0, .n 0, .b false, .n 0]]⟩ (AWp.reg Tryz.tyOk hΓ [3, 4, 6, 7] [0, 1] (by kernel_rfl) rfl (by simp)) ?_
 refine AWp.meetF (fun (v1 : Tk × Te) (γ1 : Unit) => ⟨[⟨3, none, .ptr 0 0⟩, ⟨4, none, .ptr 1 0⟩, ⟨6, none, .ptr 2 0⟩, ⟨7, none, .ptr 3 0⟩, ⟨2, none, .n x2⟩], [.blk v1.1.enc, .blk v1.2.enc, .blk [.s ⟨#[]⟩, .n 0], .blk [.b false, .b false, .n 0, .n 0, .b false, .n 0, .n 0, .b false, .n 0]]⟩) (gaa.fin x0 x1 x2) hr (fun f hr => ?_) (fun v1 γ1 hr => ?_) (fun _ h => h)
 ·obtain ⟨h10, hr⟩ := Lc hr
  refine AWp.then ⟨[⟨16, none, .b (eqI (quoI .i64 x2 128) 1)⟩, ⟨3, none, .ptr 0 0⟩, ⟨4, none, .ptr 1 0⟩, ⟨6, none, .ptr 2 0⟩, ⟨7, none, .ptr 3 0⟩, ⟨2, none, .n x2⟩], [.blk x0.enc, .blk x1.enc, .blk [.s ⟨#[]⟩, .n 0], .blk [.b false, .b false, .n 0, .n 0, .b false, .n 0, .n 0, .b false, .n 0]]⟩ (AWp.reg Tryz.tyOk hΓ [16] [] (by kernel_rfl) rfl (by simp [h10])) ?_
  refine AWp.cond (b := (eqI (quoI .i64 x2 128) 1)) (by simp) (fun h11 => ?_) (fun h11 => ?_)
  ·have hr := Li h11 hr
   obtain ⟨r1, h12, hr⟩ := Lb hr
   refine AWp.then ⟨[⟨8, none, .ptr 4 0⟩, ⟨9, none, .lit (.int .u64 r1.2)⟩, ⟨3, none, .ptr 0 0⟩, ⟨4, none, .ptr 1 0⟩, ⟨6, none, .ptr 2 0⟩, ⟨7, none, .ptr 3 0⟩, ⟨2, none, .n x2⟩], [.blk x0.enc, .blk x1.enc, .blk [.s ⟨#[]⟩, .n 0], .blk [.b false, .b false, .n 0, .n 0, .b false, .n 0, .n 0, .b false, .n 0], .blk r1.1.enc]⟩ (AWp.reg Tryz.tyOk hΓ [8, 9] [16] (by kernel_rfl) rfl (by simp [h11, h12])) ?_
   refine AWp.then ⟨[⟨9, none, .lit (.int .u64 r1.2)⟩, ⟨3, none, .ptr 0 0⟩, ⟨4, none, .ptr 1 0⟩, ⟨6, none, .ptr 2 0⟩, ⟨7, none, .ptr 3 0⟩, ⟨2, none, .n x2⟩], [.blk r1.1.enc, .blk x1.enc, .blk [.s ⟨#[]⟩, .n 0], .blk [.b false, .b false, .n 0, .n 0, .b false, .n 0, .n 0, .b false, .n 0], .blk r1.1.enc]⟩ (AWp.reg Tryz.tyOk hΓ [] [8] (by kernel_rfl) rfl (by simp)) ?_
   refine AWp.then ⟨[⟨9, none, .lit (.int .u64 r1.2)⟩, ⟨3, none, .ptr 0 0⟩, ⟨4, none, .ptr 1 0⟩, ⟨6, none, .ptr 2 0⟩, ⟨7, none, .ptr 3 0⟩, ⟨2, none, .n x2⟩], [.blk r1.1.enc, .blk [.b x1.fI, .b x1.fz, .n x1.fD, .n (cvtI .i64 r1.2), .b x1.fR, .n x1.fG, .n x1.fH, .b x1.fQ, .n x1.fJ], .blk [.s ⟨#[]⟩, .n 0], .blk [.b false, .b false, .n 0, .n 0, .b false, .n 0, .n 0, .b false, .n 0], .blk r1.1.enc]⟩ (AWp.reg Tryz.tyOk hΓ [] [] (by kernel_rfl) rfl (by simp)) ?_
   refine AWp.thenA [⟨27, none, .b (ltI 127 r1.2)⟩, ⟨9, none, .lit (.int .u64 r1.2)⟩, ⟨3, none, .ptr 0 0⟩, ⟨4, none, .ptr 1 0⟩, ⟨6, none, .ptr 2 0⟩, ⟨7, none, .ptr 3 0⟩, ⟨2, none, .n x2⟩] (AWp.reg Tryz.tyOk hΓ [27] [] (by kernel_rfl) rfl (by simp)) ?_
   refine AWp.cond (b := (ltI 127 r1.2)) (by simp) (fun h13 => ?_) (fun h13 => ?_)
   ·have hr := Li h13 hr
    obtain ⟨r2, h14, hr⟩ := Lb hr
    refine AWp.then ⟨[⟨10, none, .ptr 5 0⟩, ⟨11, none, .lit (.int .u64 r2.2)⟩, ⟨9, none, .lit (.int .u64 r1.2)⟩, ⟨3, none, .ptr 0 0⟩, ⟨4, none, .ptr 1 0⟩, ⟨6, none, .ptr 2 0⟩, ⟨7, none, .ptr 3 0⟩, ⟨2, none, .n x2⟩], [.blk r1.1.enc, .blk [.b x1.fI, .b x1.fz, .n x1.fD, .n (cvtI .i64 r1.2), .b x1.fR, .n x1.fG, .n x1.fH, .b x1.fQ, .n x1.fJ], .blk [.s ⟨#[]⟩, .n 0], .blk [.b false, .b false, .n 0, .n 0, .b false, .n 0, .n 0, .b false, .n 0], .blk r1.1.enc, .blk r2.1.enc]⟩ (AWp.reg Tryz.tyOk hΓ [10, 11] [27] (by kernel_rfl) rfl (by simp [h13, h14])) ?_
    refine AWp.then ⟨[⟨11, none, .lit (.int .u64 r2.2)⟩, ⟨9, none, .lit (.int .u64 r1.2)⟩, ⟨3, none, .ptr 0 0⟩, ⟨4, none, .ptr 1 0⟩, ⟨6, none, .ptr 2 0⟩, ⟨7, none, .ptr 3 0⟩, ⟨2, none, .n x2⟩], [.blk r2.1.enc, .blk [.b x1.fI, .b x1.fz, .n x1.fD, .n (cvtI .i64 r1.2), .b x1.fR, .n x1.fG, .n x1.fH, .b x1.fQ, .n x1.fJ], .blk [.s ⟨#[]⟩, .n 0], .blk [.b false, .b false, .n 0, .n 0, .b false, .n 0, .n 0, .b false, .n 0], .blk r1.1.enc, .blk r2.1.enc]⟩ (AWp.reg Tryz.tyOk hΓ [] [10] (by kernel_rfl) rfl (by simp)) ?_
    refine AWp.then ⟨[⟨3, none, .ptr 0 0⟩, ⟨4, none, .ptr 1 0⟩, ⟨6, none, .ptr 2 0⟩, ⟨7, none, .ptr 3 0⟩, ⟨2, none, .n x2⟩], [.blk r2.1.enc, .blk [.b x1.fI, .b x1.fz, .n x1.fD, .n (addI .i64 (mulI .i64 (cvtI .i64 (subI .u64 r1.2 128)) 256) (cvtI .i64 r2.2)), .b x1.fR, .n x1.fG, .n x1.fH, .b x1.fQ, .n x1.fJ], .blk [.s ⟨#[]⟩, .n 0], .blk [.b false, .b false, .n 0, .n 0, .b false, .n 0, .n 0, .b false, .n 0], .blk r1.1.enc, .blk r2.1.enc]⟩ (AWp.reg Tryz.tyOk hΓ [] [11, 9] (by kernel_rfl) rfl (by simp)) ?_
    refine AWp.last ⟨[⟨3, none, .ptr 0 0⟩, ⟨4, none, .ptr 1 0⟩, ⟨6, none, .ptr 2 0⟩, ⟨7, none, .ptr 3 0⟩, ⟨2, none, .n x2⟩], [.blk r2.1.enc, .blk [.b x1.fI, .b x1.fz, .n x1.fD, .n (addI .i64 (mulI .i64 (cvtI .i64 (subI .u64 r1.2 128)) 256) (cvtI .i64 r2.2)), .b true, .n x1.fG, .n x1.fH, .b x1.fQ, .n x1.fJ], .blk [.s ⟨#[]⟩, .n 0], .blk [.b false, .b false, .n 0, .n 0, .b false, .n 0, .n 0, .b false, .n 0], .blk r1.1.enc, .blk r2.1.enc]⟩ (AWp.reg Tryz.tyOk hΓ [] [] (by kernel_rfl) rfl (by simp)) ?_
    obtain rfl := La hr
    exact Ll () 4 (by first | (simp; done) | simp [h10, h11, h12, h13, h14])
   ·have hr := Lj h13 hr
    refine AWp.skip ?_
    obtain rfl := La hr
    exact Ll () 4 (by first | (simp; done) | simp [h10, h11, h12, h13])
  ·have hr := Lj h11 hr
   refine AWp.skip ?_
   obtain rfl := La hr
   exact Ll () 4 (by first | (simp; done) | simp [h10, h11])
 ·refine AWp.meetF (fun (v2 : Tk × Te) (γ2 : Unit) => ⟨[⟨3, none, .ptr 0 0⟩, ⟨4, none, .ptr 1 0⟩, ⟨6, none, .ptr 2 0⟩, ⟨7, none, .ptr 3 0⟩], [.blk v2.1.enc, .blk v2.2.enc, .blk [.s ⟨#[]⟩, .n 0], .blk [.b false, .b false, .n 0, .n 0, .b false, .n 0, .n 0, .b false, .n 0]]⟩) (gaa.fin x0 x1 x2) hr (fun f hr => ?_) (fun v2 γ2 hr => ?_) (fun _ h => h)
  ·obtain ⟨h15, hr⟩ := Lc hr
   obtain ⟨h16, hr⟩ := Lc hr
   refine AWp.then ⟨[⟨46, none, .b (eqI (remI (quoI .i64 x2 64) 2) 1)⟩, ⟨3, none, .ptr 0 0⟩, ⟨4, none, .ptr 1 0⟩, ⟨6, none, .ptr 2 0⟩, ⟨7, none, .ptr 3 0⟩], [.blk v1.1.enc, .blk v1.2.enc, .blk [.s ⟨#[]⟩, .n 0], .blk [.b false, .b false, .n 0, .n 0, .b false, .n 0, .n 0, .b false, .n 0]]⟩ (AWp.reg Tryz.tyOk hΓ [46] [2] (by kernel_rfl) rfl (by simp [h15, h16])) ?_
   refine AWp.cond (b := (eqI (remI (quoI .i64 x2 64) 2) 1)) (by simp) (fun h17 => ?_) (fun h17 => ?_)
   ·have hr := Li h17 hr
    obtain ⟨r3, h18, hr⟩ := Lb hr
    refine AWp.then ⟨[⟨12, none, .ptr 4 0⟩, ⟨13, none, .lit (.int .u64 r3.2)⟩, ⟨3, none, .ptr 0 0⟩, ⟨4, none, .ptr 1 0⟩, ⟨6, none, .ptr 2 0⟩, ⟨7, none, .ptr 3 0⟩], [.blk v1.1.enc, .blk v1.2.enc, .blk [.s ⟨#[]⟩, .n 0], .blk [.b false, .b false, .n 0, .n 0, .b false, .n 0, .n 0, .b false, .n 0], .blk r3.1.enc]⟩ (AWp.reg Tryz.tyOk hΓ [12, 13] [46] (by kernel_rfl) rfl (by simp [h17, h18])) ?_
    refine AWp.then ⟨[⟨13, none, .lit (.int .u64 r3.2)⟩, ⟨3, none, .ptr 0 0⟩, ⟨4, none, .ptr 1 0⟩, ⟨6, none, .ptr 2 0⟩, ⟨7, none, .ptr 3 0⟩], [.blk r3.1.enc, .blk v1.2.enc, .blk [.s ⟨#[]⟩, .n 0], .blk [.b false, .b false, .n 0, .n 0, .b false, .n 0, .n 0, .b false, .n 0], .blk r3.1.enc]⟩ (AWp.reg Tryz.tyOk hΓ [] [12] (by kernel_rfl) rfl (by simp)) ?_
    refine AWp.last ⟨[⟨3, none, .ptr 0 0⟩, ⟨4, none, .ptr 1 0⟩, ⟨6, none, .ptr 2 0⟩, ⟨7, none, .ptr 3 0⟩], [.blk r3.1.enc, .blk [.b v1.2.fI, .b v1.2.fz, .n v1.2.fD, .n v1.2.fB, .b v1.2.fR, .n (cvtI .i64 r3.2), .n v1.2.fH, .b v1.2.fQ, .n v1.2.fJ], .blk [.s ⟨#[]⟩, .n 0], .blk [.b false, .b false, .n 0, .n 0, .b false, .n 0, .n 0, .b false, .n 0], .blk r3.1.enc]⟩ (AWp.reg Tryz.tyOk hΓ [] [13] (by kernel_rfl) rfl (by simp)) ?_
    obtain rfl := La hr
    exact Ll () 4 (by first | (simp; done) | simp [h15, h16, h17, h18])
   ·have hr := Lj h17 hr
    refine AWp.skip ?_
    obtain rfl := La hr
    exact Ll () 4 (by first | (simp; done) | simp [h15, h16, h17])
  ·refine AWp.then ⟨[⟨6, none, .ptr 2 0⟩, ⟨7, none, .ptr 3 0⟩], [.blk v2.1.enc, .blk v2.2.enc, .blk v2.1.enc, .blk v2.2.enc]⟩ (AWp.regD Tryz.mixed Tryz.tyOk hΓ [] [3, 4] [(1, 3)] [(false, []), (false, []), (true, []), (true, [])] (by kernel_rfl) rfl (by simp)) ?_
   refine AWp.ret ?_
   obtain rfl := La hr
   refine Lf ?_
   simp

@[simp] noncomputable def gaa.S : Sp
 | [.agg e0, .agg e1, .lit (.int .i64 x2)], _ => (fun (y0 : Tk) => (fun (y1 : Te) => (fun (r : Tk × Te) => some { av := .tup [.agg [.lit (.string (r.1.fS)), .lit (.int .i64 (r.1.fE))], .agg [.lit (.bool (r.2.fI)), .lit (.bool (r.2.fz)), .lit (.int .i64 (r.2.fD)), .lit (.int .i64 (r.2.fB)), .lit (.bool (r.2.fR)), .lit (.int .i64 (r.2.fG)), .lit (.int .i64 (r.2.fH)), .lit (.bool (r.2.fQ)), .lit (.int .i64 (r.2.fJ))]], M := none, obl := WeakL e0 (Tk.enc y0) ∧ WeakL e1 (Te.enc y1) ∧ (gaa y0 y1 x2).isSome = true }) ((gaa y0 y1 x2).getD dflt)) (Te.dec e1)) (Tk.dec e0)
 | _, _ => none

theorem gaa.ok : SpecOk Tryz.prog 106 gaa.S := by
 intro l M out h
 unfold gaa.S at h
 split at h
 ·rename_i e0 e1 x2
  try dsimp only at h
  cases h
  refine callOk_of fun ho => ?_
  obtain ⟨ox0, ox1, hs⟩ := ho
  generalize (Tk.dec e0) = x0 at *
  generalize (Te.dec e1) = x1 at *
  obtain ⟨r, hr⟩ := Option.isSome_iff_exists.1 hs
  simp only [hr, Option.getD_some]
  have q := Lg (M := M) [] (gaa.can x0 x1 x2 r hr) (by simp) rfl (by intro k i hk; simp at hk)
  exact callOk_conv q trivial (by simp; exact ⟨ox0, ox1⟩) (by simp [frameOut, gaa.out]) (by simp [frameOut, gaa.out])
 ·cases h

@[simp] def gar.out (_x0 : Tk) (_x1 : Te) (_x2 : Int) (r : Tk × Te) : Out := { av := .tup [.agg [.lit (.string r.1.fS), .lit (.int .i64 r.1.fE)], .agg [.lit (.bool r.2.fI), .lit (.bool r.2.fz), .lit (.int .i64 r.2.fD), .lit (.int .i64 r.2.fB), .lit (.bool r.2.fR), .lit (.int .i64 r.2.fG), .lit (.int .i64 r.2.fH), .lit (.bool r.2.fQ), .lit (.int .i64 r.2.fJ)]], M := none }
def gar.fin (x0 : Tk) (x1 : Te) (x2 : Int) (r : Tk × Te) (σ : St) : Prop := finK (gar.out x0 x1 x2 r) [] σ.M (resA Tryz.ty σ.A σ.M Tryz.f95.results.toList)
theorem gar.can (x0 : Tk) (x1 : Te) (x2 : Int) (r : Tk × Te) (hr : gar x0 x1 x2 = some r) : CallOk Tryz.prog 95 [.agg [.lit (.string x0.fS), .lit (.int .i64 x0.fE)], .agg [.lit (.bool x1.fI), .lit (.bool x1.fz), .lit (.int .i64 x1.fD), .lit (.int .i64 x1.fB), .lit (.bool x1.fR), .lit (.int .i64 x1.fG), .lit (.int .i64 x1.fH), .lit (.bool x1.fQ), .lit (.int .i64 x1.fJ)], .lit (.int .i64 x2)] [] (gar.out x0 x1 x2 r) := by
 unfold gar at hr
 have hΓ := (gamL_cons gal.ok (gamL_cons gaa.ok (gamL_nil)) : GamOk Tryz.prog _)
 refine Le Tryz.tyOk Tryz.func95 rfl (by kernel_rfl) rfl rfl (by simp) ?_
 intro _ _ _
 refine AWp.then ⟨[⟨3, none, .ptr 0 0⟩, ⟨4, none, .ptr 1 0⟩, ⟨6, none, .ptr 2 0⟩, ⟨7, none, .ptr 3 0⟩, ⟨2, none, .n x2⟩], [.blk x0.enc, .blk x1.enc, .blk [.s ⟨#[]⟩, .n 0], .blk [.b false, .b false, .n 0, .n 0, .b false, .n 0, .n 0, .b false, .n 0]]⟩ (AWp.reg Tryz.tyOk hΓ [3, 4, 6, 7] [0, 1] (by kernel_rfl) rfl (by simp)) ?_
 obtain ⟨r1, h16, hr⟩ := Lb hr
 refine AWp.then ⟨[⟨8, none, .ptr 4 0⟩, ⟨9, none, .ptr 5 0⟩, ⟨6, none, .ptr 2 0⟩, ⟨7, none, .ptr 3 0⟩, ⟨2, none, .n x2⟩], [.blk x0.enc, .blk x1.enc, .blk [.s ⟨#[]⟩, .n 0], .blk [.b false, .b false, .n 0, .n 0, .b false, .n 0, .n 0, .b false, .n 0], .blk r1.1.enc, .blk r1.2.enc]⟩ (AWp.reg Tryz.tyOk hΓ [8, 9] [3, 4] (by kernel_rfl) rfl (by simp [h16])) ?_
 refine AWp.meetF (fun (v1 : Tk × Te) (γ1 : Unit) => ⟨[⟨8, none, .ptr 4 0⟩, ⟨9, none, .ptr 5 0⟩, ⟨6, none, .ptr 2 0⟩, ⟨7, none, .ptr 3 0⟩], [.blk x0.enc, .blk x1.enc, .blk [.s ⟨#[]⟩, .n 0], .blk [.b false, .b false, .n 0, .n 0, .b false, .n 0, .n 0, .b false, .n 0], .blk v1.1.enc, .blk v1.2.enc]⟩) (gar.fin x0 x1 x2) hr (fun f hr => ?_) (fun v1 γ1 hr => ?_) (fun _ h => h)
 ·obtain ⟨h17, hr⟩ := Lc hr
  obtain ⟨h18, hr⟩ := Lc hr
  refine AWp.then ⟨[⟨22, none, .b (ltI 0 (remI (quoI .i64 x2 16) 4))⟩, ⟨8, none, .ptr 4 0⟩, ⟨9, none, .ptr 5 0⟩, ⟨6, none, .ptr 2 0⟩, ⟨7, none, .ptr 3 0⟩, ⟨2, none, .n x2⟩], [.blk x0.enc, .blk x1.enc, .blk [.s ⟨#[]⟩, .n 0], .blk [.b false, .b false, .n 0, .n 0, .b false, .n 0, .n 0, .b false, .n 0], .blk r1.1.enc, .blk r1.2.enc]⟩ (AWp.reg Tryz.tyOk hΓ [22] [] (by kernel_rfl) rfl (by simp [h17, h18])) ?_
  refine AWp.cond (b := (ltI 0 (remI (quoI .i64 x2 16) 4))) (by simp) (fun h19 => ?_) (fun h19 => ?_)
  ·have hr := Li h19 hr
   obtain ⟨r2, h20, hr⟩ := Lb hr
   refine AWp.then ⟨[⟨10, none, .ptr 6 0⟩, ⟨11, none, .lit (.int .u64 r2.2)⟩, ⟨8, none, .ptr 4 0⟩, ⟨9, none, .ptr 5 0⟩, ⟨6, none, .ptr 2 0⟩, ⟨7, none, .ptr 3 0⟩, ⟨2, none, .n x2⟩], [.blk x0.enc, .blk x1.enc, .blk [.s ⟨#[]⟩, .n 0], .blk [.b false, .b false, .n 0, .n 0, .b false, .n 0, .n 0, .b false, .n 0], .blk r1.1.enc, .blk r1.2.enc, .blk r2.1.enc]⟩ (AWp.reg Tryz.tyOk hΓ [10, 11] [22] (by kernel_rfl) rfl (by simp [h19, h20])) ?_
   refine AWp.then ⟨[⟨11, none, .lit (.int .u64 r2.2)⟩, ⟨8, none, .ptr 4 0⟩, ⟨9, none, .ptr 5 0⟩, ⟨6, none, .ptr 2 0⟩, ⟨7, none, .ptr 3 0⟩, ⟨2, none, .n x2⟩], [.blk x0.enc, .blk x1.enc, .blk [.s ⟨#[]⟩, .n 0], .blk [.b false, .b false, .n 0, .n 0, .b false, .n 0, .n 0, .b false, .n 0], .blk r2.1.enc, .blk r1.2.enc, .blk r2.1.enc]⟩ (AWp.reg Tryz.tyOk hΓ [] [10] (by kernel_rfl) rfl (by simp)) ?_
   refine AWp.meetF (fun (v2 : Te) (γ2 : Unit) => ⟨[⟨11, none, .lit (.int .u64 r2.2)⟩, ⟨8, none, .ptr 4 0⟩, ⟨9, none, .ptr 5 0⟩, ⟨6, none, .ptr 2 0⟩, ⟨7, none, .ptr 3 0⟩, ⟨2, none, .n x2⟩], [.blk x0.enc, .blk x1.enc, .blk [.s ⟨#[]⟩, .n 0], .blk [.b false, .b false, .n 0, .n 0, .b false, .n 0, .n 0, .b false, .n 0], .blk r2.1.enc, .blk v2.enc, .blk r2.1.enc]⟩) (QRm (gar.fin x0 x1 x2)) hr (fun f hr => ?_) (fun v2 γ2 hr => ?_) (fun _ h => QRm_ret h)
   ·obtain ⟨h21, hr⟩ := Lc hr
    obtain ⟨h22, hr⟩ := Lc hr
    refine AWp.then ⟨[⟨32, none, .b (eqI (remI (quoI .i64 x2 32) 2) 1)⟩, ⟨11, none, .lit (.int .u64 r2.2)⟩, ⟨8, none, .ptr 4 0⟩, ⟨9, none, .ptr 5 0⟩, ⟨6, none, .ptr 2 0⟩, ⟨7, none, .ptr 3 0⟩, ⟨2, none, .n x2⟩], [.blk x0.enc, .blk x1.enc, .blk [.s ⟨#[]⟩, .n 0], .blk [.b false, .b false, .n 0, .n 0, .b false, .n 0, .n 0, .b false, .n 0], .blk r2.1.enc, .blk r1.2.enc, .blk r2.1.enc]⟩ (AWp.reg Tryz.tyOk hΓ [32] [] (by kernel_rfl) rfl (by simp [h21, h22])) ?_
    refine AWp.cond (b := (eqI (remI (quoI .i64 x2 32) 2) 1)) (by simp) (fun h23 => ?_) (fun h23 => ?_)
    ·have hr := Li h23 hr
     obtain ⟨h24, hr⟩ := Lc hr
     refine AWp.then ⟨[⟨11, none, .lit (.int .u64 r2.2)⟩, ⟨8, none, .ptr 4 0⟩, ⟨9, none, .ptr 5 0⟩, ⟨6, none, .ptr 2 0⟩, ⟨7, none, .ptr 3 0⟩, ⟨2, none, .n x2⟩], [.blk x0.enc, .blk x1.enc, .blk [.s ⟨#[]⟩, .n 0], .blk [.b false, .b false, .n 0, .n 0, .b false, .n 0, .n 0, .b false, .n 0], .blk r2.1.enc, .blk [.b r1.2.fI, .b r1.2.fz, .n r1.2.fD, .n r1.2.fB, .b r1.2.fR, .n r1.2.fG, .n (cvtI .i64 (quoI .u64 r2.2 64)), .b r1.2.fQ, .n r1.2.fJ], .blk r2.1.enc]⟩ (AWp.reg Tryz.tyOk hΓ [] [32] (by kernel_rfl) rfl (by simp [h23, h24])) ?_
     obtain ⟨h25, hr⟩ := Lc hr
     obtain ⟨h26, hr⟩ := Lc hr
     refine AWp.last ⟨[⟨11, none, .lit (.int .u64 r2.2)⟩, ⟨8, none, .ptr 4 0⟩, ⟨9, none, .ptr 5 0⟩, ⟨6, none, .ptr 2 0⟩, ⟨7, none, .ptr 3 0⟩, ⟨2, none, .n x2⟩], [.blk x0.enc, .blk x1.enc, .blk [.s ⟨#[]⟩, .n 0], .blk [.b false, .b false, .n 0, .n 0, .b false, .n 0, .n 0, .b false, .n 0], .blk r2.1.enc, .blk [.b r1.2.fI, .b r1.2.fz, .n r1.2.fD, .n r1.2.fB, .b r1.2.fR, .n r1.2.fG, .n (cvtI .i64 (quoI .u64 r2.2 64)), .b (eqI (remI (quoI .u64 r2.2 32) 2) 1), .n r1.2.fJ], .blk r2.1.enc]⟩ (AWp.reg Tryz.tyOk hΓ [] [] (by kernel_rfl) rfl (by simp [h21, h22])) ?_
     obtain rfl := La hr
     exact Ll () 7 (by first | (simp; done) | simp [h16, h17, h18, h19, h20, h21, h22, h23, h24, h25, h26])
    ·have hr := Lj h23 hr
     refine AWp.skip ?_
     obtain rfl := La hr
     exact Ll () 7 (by first | (simp; done) | simp [h16, h17, h18, h19, h20, h21, h22, h23])
   ·obtain ⟨h27, hr⟩ := Lc hr
    obtain ⟨h28, hr⟩ := Lc hr
    refine AWp.then ⟨[⟨45, none, .b (eqI (remI (quoI .i64 x2 16) 2) 1)⟩, ⟨11, none, .lit (.int .u64 r2.2)⟩, ⟨8, none, .ptr 4 0⟩, ⟨9, none, .ptr 5 0⟩, ⟨6, none, .ptr 2 0⟩, ⟨7, none, .ptr 3 0⟩], [.blk x0.enc, .blk x1.enc, .blk [.s ⟨#[]⟩, .n 0], .blk [.b false, .b false, .n 0, .n 0, .b false, .n 0, .n 0, .b false, .n 0], .blk r2.1.enc, .blk v2.enc, .blk r2.1.enc]⟩ (AWp.reg Tryz.tyOk hΓ [45] [2] (by kernel_rfl) rfl (by simp [h17, h28])) ?_
    refine AWp.cond (b := (eqI (remI (quoI .i64 x2 16) 2) 1)) (by simp) (fun h29 => ?_) (fun h29 => ?_)
    ·have hr := Li h29 hr
     obtain ⟨h30, hr⟩ := Lc hr
     refine AWp.last ⟨[⟨8, none, .ptr 4 0⟩, ⟨9, none, .ptr 5 0⟩, ⟨6, none, .ptr 2 0⟩, ⟨7, none, .ptr 3 0⟩], [.blk x0.enc, .blk x1.enc, .blk [.s ⟨#[]⟩, .n 0], .blk [.b false, .b false, .n 0, .n 0, .b false, .n 0, .n 0, .b false, .n 0], .blk r2.1.enc, .blk [.b v2.fI, .b v2.fz, .n v2.fD, .n v2.fB, .b v2.fR, .n v2.fG, .n v2.fH, .b v2.fQ, .n (cvtI .i64 (remI r2.2 32))], .blk r2.1.enc]⟩ (AWp.reg Tryz.tyOk hΓ [] [45, 11] (by kernel_rfl) rfl (by simp [h29, h30])) ?_
     obtain rfl := La hr
     exact Ll () 6 (by first | (simp; done) | simp [h16, h17, h18, h19, h20, h27, h28, h29, h30])
    ·have hr := Lj h29 hr
     refine AWp.skip ?_
     obtain rfl := La hr
     exact Ll () 6 (by first | (simp; done) | simp [h16, h17, h18, h19, h20, h27, h28, h29])
  ·have hr := Lj h19 hr
   refine AWp.skip ?_
   obtain rfl := La hr
   exact Ll () 6 (by first | (simp; done) | simp [h16, h17, h18, h19])
 ·refine AWp.then ⟨[⟨6, none, .ptr 2 0⟩, ⟨7, none, .ptr 3 0⟩], [.blk x0.enc, .blk x1.enc, .blk v1.1.enc, .blk v1.2.enc, .blk v1.1.enc, .blk v1.2.enc]⟩ (AWp.regD Tryz.mixed Tryz.tyOk hΓ [] [8, 9] [(1, 3)] [(false, []), (false, []), (true, []), (true, [])] (by kernel_rfl) rfl (by simp)) ?_
  refine AWp.ret ?_
  obtain rfl := La hr
  refine Lf ?_
  simp

@[simp] noncomputable def gar.S : Sp
 | [.agg e0, .agg e1, .lit (.int .i64 x2)], _ => (fun (y0 : Tk) => (fun (y1 : Te) => (fun (r : Tk × Te) => some { av := .tup [.agg [.lit (.string (r.1.fS)), .lit (.int .i64 (r.1.fE))], .agg [.lit (.bool (r.2.fI)), .lit (.bool (r.2.fz)), .lit (.int .i64 (r.2.fD)), .lit (.int .i64 (r.2.fB)), .lit (.bool (r.2.fR)), .lit (.int .i64 (r.2.fG)), .lit (.int .i64 (r.2.fH)), .lit (.bool (r.2.fQ)), .lit (.int .i64 (r.2.fJ))]], M := none, obl := WeakL e0 (Tk.enc y0) ∧ WeakL e1 (Te.enc y1) ∧ (gar y0 y1 x2).isSome = true }) ((gar y0 y1 x2).getD dflt)) (Te.dec e1)) (Tk.dec e0)
 | _, _ => none

theorem gar.ok : SpecOk Tryz.prog 95 gar.S := by
 intro l M out h
 unfold gar.S at h
 split at h
 ·rename_i e0 e1 x2
  try dsimp only at h
  cases h
  refine callOk_of fun ho => ?_
  obtain ⟨ox0, ox1, hs⟩ := ho
  generalize (Tk.dec e0) = x0 at *
  generalize (Te.dec e1) = x1 at *
  obtain ⟨r, hr⟩ := Option.isSome_iff_exists.1 hs
  simp only [hr, Option.getD_some]
  have q := Lg (M := M) [] (gar.can x0 x1 x2 r hr) (by simp) rfl (by intro k i hk; simp at hk)
  exact callOk_conv q trivial (by simp; exact ⟨ox0, ox1⟩) (by simp [frameOut, gar.out]) (by simp [frameOut, gar.out])
 ·cases h

@[simp] def gaj.out (_x0 : ByteArray) (r : Te × ByteArray × Int) : Out := { av := .tup [.agg [.lit (.bool r.1.fI), .lit (.bool r.1.fz), .lit (.int .i64 r.1.fD), .lit (.int .i64 r.1.fB), .lit (.bool r.1.fR), .lit (.int .i64 r.1.fG), .lit (.int .i64 r.1.fH), .lit (.bool r.1.fQ), .lit (.int .i64 r.1.fJ)], .lit (.string r.2.1), .lit (.int .i64 r.2.2)], M := none }
def gaj.fin (x0 : ByteArray) (r : Te × ByteArray × Int) (σ : St) : Prop := finK (gaj.out x0 r) [] σ.M (resA Tryz.ty σ.A σ.M Tryz.f78.results.toList)
theorem gaj.can (x0 : ByteArray) (r : Te × ByteArray × Int) (hr : gaj x0 = some r) : CallOk Tryz.prog 78 [.lit (.string x0)] [] (gaj.out x0 r) := by
 unfold gaj at hr
 have hΓ := (gamL_cons gal.ok (gamL_cons gar.ok (gamL_nil)) : GamOk Tryz.prog _)
 refine Le Tryz.tyOk Tryz.func78 rfl (by kernel_rfl) rfl rfl (by simp) ?_
 intro _ _ _
 refine AWp.then ⟨[⟨2, none, .ptr 0 0⟩, ⟨0, none, .s x0⟩], [.blk [.b false, .b false, .n 0, .n 0, .b false, .n 0, .n 0, .b false, .n 0]]⟩ (AWp.reg Tryz.tyOk hΓ [2] [] (by kernel_rfl) rfl (by simp)) ?_
 obtain ⟨r1, h11, hr⟩ := Lb hr
 refine AWp.then ⟨[⟨5, none, .ptr 1 0⟩, ⟨6, none, .lit (.int .u64 r1.2)⟩, ⟨2, none, .ptr 0 0⟩], [.blk [.b false, .b false, .n 0, .n 0, .b false, .n 0, .n 0, .b false, .n 0], .blk r1.1.enc]⟩ (AWp.reg Tryz.tyOk hΓ [5, 6] [0] (by kernel_rfl) rfl (by simp [h11])) ?_
 obtain ⟨h12, hr⟩ := Lc hr
 obtain ⟨h13, hr⟩ := Lc hr
 obtain ⟨h14, hr⟩ := Lc hr
 obtain ⟨h15, hr⟩ := Lc hr
 obtain ⟨h16, hr⟩ := Lc hr
 refine AWp.then ⟨[⟨7, none, .ptr 2 0⟩, ⟨5, none, .ptr 1 0⟩, ⟨6, none, .lit (.int .u64 r1.2)⟩, ⟨2, none, .ptr 0 0⟩], [.blk [.b false, .b false, .n 0, .n 0, .b false, .n 0, .n 0, .b false, .n 0], .blk r1.1.enc, .blk [.b (eqI (remI (quoI .u64 r1.2 32) 2) 1), .b (eqI (remI (quoI .u64 r1.2 16) 2) 1), .n (cvtI .i64 (remI r1.2 8)), .n (-1), .b false, .n (-1), .n (-1), .b false, .n (-1)]]⟩ (AWp.reg Tryz.tyOk hΓ [7] [] (by kernel_rfl) rfl (by simp [h12, h13, h14, h16])) ?_
 refine AWp.thenA [⟨8, none, .n 0⟩, ⟨7, none, .ptr 2 0⟩, ⟨5, none, .ptr 1 0⟩, ⟨6, none, .lit (.int .u64 r1.2)⟩, ⟨2, none, .ptr 0 0⟩] (AWp.reg Tryz.tyOk hΓ [8] [] (by kernel_rfl) rfl (by simp)) ?_
 refine AWp.meetF (fun (v1 : Int × Tk) (γ1 : Unit) => ⟨[⟨8, none, .n v1.1⟩, ⟨7, none, .ptr 2 0⟩, ⟨5, none, .ptr 1 0⟩, ⟨2, none, .ptr 0 0⟩], [.blk [.b false, .b false, .n 0, .n 0, .b false, .n 0, .n 0, .b false, .n 0], .blk v1.2.enc, .blk [.b (eqI (remI (quoI .u64 r1.2 32) 2) 1), .b (eqI (remI (quoI .u64 r1.2 16) 2) 1), .n (cvtI .i64 (remI r1.2 8)), .n (-1), .b false, .n (-1), .n (-1), .b false, .n (-1)]]⟩) (gaj.fin x0) hr (fun f hr => ?_) (fun v1 γ1 hr => ?_) (fun _ h => h)
 ·refine AWp.then ⟨[⟨32, none, .b (ltI 127 r1.2)⟩, ⟨8, none, .n 0⟩, ⟨7, none, .ptr 2 0⟩, ⟨5, none, .ptr 1 0⟩, ⟨2, none, .ptr 0 0⟩], [.blk [.b false, .b false, .n 0, .n 0, .b false, .n 0, .n 0, .b false, .n 0], .blk r1.1.enc, .blk [.b (eqI (remI (quoI .u64 r1.2 32) 2) 1), .b (eqI (remI (quoI .u64 r1.2 16) 2) 1), .n (cvtI .i64 (remI r1.2 8)), .n (-1), .b false, .n (-1), .n (-1), .b false, .n (-1)]]⟩ (AWp.reg Tryz.tyOk hΓ [32] [6] (by kernel_rfl) rfl (by simp)) ?_
  refine AWp.cond (b := (ltI 127 r1.2)) (by simp) (fun h17 => ?_) (fun h17 => ?_)
  ·have hr := Li h17 hr
   obtain ⟨r2, h18, hr⟩ := Lb hr
   refine AWp.then ⟨[⟨9, none, .ptr 3 0⟩, ⟨10, none, .lit (.int .u64 r2.2)⟩, ⟨7, none, .ptr 2 0⟩, ⟨5, none, .ptr 1 0⟩, ⟨2, none, .ptr 0 0⟩], [.blk [.b false, .b false, .n 0, .n 0, .b false, .n 0, .n 0, .b false, .n 0], .blk r1.1.enc, .blk [.b (eqI (remI (quoI .u64 r1.2 32) 2) 1), .b (eqI (remI (quoI .u64 r1.2 16) 2) 1), .n (cvtI .i64 (remI r1.2 8)), .n (-1), .b false, .n (-1), .n (-1), .b false, .n (-1)], .blk r2.1.enc]⟩ (AWp.reg Tryz.tyOk hΓ [9, 10] [32, 8] (by kernel_rfl) rfl (by simp [h17, h18])) ?_
   refine AWp.then ⟨[⟨10, none, .lit (.int .u64 r2.2)⟩, ⟨7, none, .ptr 2 0⟩, ⟨5, none, .ptr 1 0⟩, ⟨2, none, .ptr 0 0⟩], [.blk [.b false, .b false, .n 0, .n 0, .b false, .n 0, .n 0, .b false, .n 0], .blk r2.1.enc, .blk [.b (eqI (remI (quoI .u64 r1.2 32) 2) 1), .b (eqI (remI (quoI .u64 r1.2 16) 2) 1), .n (cvtI .i64 (remI r1.2 8)), .n (-1), .b false, .n (-1), .n (-1), .b false, .n (-1)], .blk r2.1.enc]⟩ (AWp.reg Tryz.tyOk hΓ [] [9] (by kernel_rfl) rfl (by simp)) ?_
   refine AWp.last ⟨[⟨8, none, .n (cvtI .i64 r2.2)⟩, ⟨7, none, .ptr 2 0⟩, ⟨5, none, .ptr 1 0⟩, ⟨2, none, .ptr 0 0⟩], [.blk [.b false, .b false, .n 0, .n 0, .b false, .n 0, .n 0, .b false, .n 0], .blk r2.1.enc, .blk [.b (eqI (remI (quoI .u64 r1.2 32) 2) 1), .b (eqI (remI (quoI .u64 r1.2 16) 2) 1), .n (cvtI .i64 (remI r1.2 8)), .n (-1), .b false, .n (-1), .n (-1), .b false, .n (-1)], .blk r2.1.enc]⟩ (AWp.reg Tryz.tyOk hΓ [8] [10] (by kernel_rfl) rfl (by simp)) ?_
   obtain rfl := La hr
   exact Ll () 3 (by first | (simp; done) | simp [h11, h12, h13, h14, h15, h16, h17, h18])
  ·have hr := Lj h17 hr
   refine AWp.skip ?_
   obtain rfl := La hr
   exact Ll () 3 (by first | (simp; done) | simp [h11, h12, h13, h14, h15, h16, h17])
 ·obtain ⟨r3, h19, hr⟩ := Lb hr
  refine AWp.then ⟨[⟨11, none, .ptr 3 0⟩, ⟨12, none, .ptr 4 0⟩, ⟨2, none, .ptr 0 0⟩], [.blk [.b false, .b false, .n 0, .n 0, .b false, .n 0, .n 0, .b false, .n 0], .blk v1.2.enc, .blk [.b (eqI (remI (quoI .u64 r1.2 32) 2) 1), .b (eqI (remI (quoI .u64 r1.2 16) 2) 1), .n (cvtI .i64 (remI r1.2 8)), .n (-1), .b false, .n (-1), .n (-1), .b false, .n (-1)], .blk r3.1.enc, .blk r3.2.enc]⟩ (AWp.reg Tryz.tyOk hΓ [11, 12] [8, 7, 5] (by kernel_rfl) rfl (by simp [h19])) ?_
  refine AWp.seq ?_
  refine AWp.then ⟨[⟨50, none, .b (neI r3.1.fE 0)⟩, ⟨11, none, .ptr 3 0⟩, ⟨12, none, .ptr 4 0⟩, ⟨2, none, .ptr 0 0⟩], [.blk [.b false, .b false, .n 0, .n 0, .b false, .n 0, .n 0, .b false, .n 0], .blk v1.2.enc, .blk [.b (eqI (remI (quoI .u64 r1.2 32) 2) 1), .b (eqI (remI (quoI .u64 r1.2 16) 2) 1), .n (cvtI .i64 (remI r1.2 8)), .n (-1), .b false, .n (-1), .n (-1), .b false, .n (-1)], .blk r3.1.enc, .blk r3.2.enc]⟩ (AWp.reg Tryz.tyOk hΓ [50] [] (by kernel_rfl) rfl (by simp)) ?_
  refine AWp.cond (b := (neI r3.1.fE 0)) (by simp) (fun h20 => ?_) (fun h20 => ?_)
  ·have hr := Li h20 hr
   refine AWp.thenA [⟨3, none, .s ⟨#[]⟩⟩, ⟨4, none, .n r3.1.fE⟩, ⟨2, none, .ptr 0 0⟩] (AWp.regD Tryz.mixed Tryz.tyOk hΓ [3, 4] [50, 11, 12] [(1, 4), (2, 4)] [(false, []), (false, []), (false, []), (true, []), (false, []), (false, [])] (by kernel_rfl) rfl (by simp [h20])) ?_
   refine AWp.ret ?_
   obtain rfl := La hr
   refine Lf ?_
   simp
  ·have hr := Lj h20 hr
   refine AWp.skip ?_
   refine AWp.then ⟨[⟨3, none, .s r3.1.fS⟩, ⟨4, none, .n 0⟩, ⟨2, none, .ptr 0 0⟩], [.blk r3.2.enc, .blk v1.2.enc, .blk [.b (eqI (remI (quoI .u64 r1.2 32) 2) 1), .b (eqI (remI (quoI .u64 r1.2 16) 2) 1), .n (cvtI .i64 (remI r1.2 8)), .n (-1), .b false, .n (-1), .n (-1), .b false, .n (-1)], .blk r3.1.enc, .blk r3.2.enc]⟩ (AWp.regD Tryz.mixed Tryz.tyOk hΓ [3, 4] [50, 11, 12] [(1, 4), (2, 4)] [(false, []), (false, []), (false, []), (true, []), (false, []), (false, [])] (by kernel_rfl) rfl (by simp [h20])) ?_
   refine AWp.ret ?_
   obtain rfl := La hr
   refine Lf ?_
   simp

@[simp] noncomputable def gaj.S : Sp
 | [.lit (.string x0)], _ => (fun (r : Te × ByteArray × Int) => some { av := .tup [.agg [.lit (.bool (r.1.fI)), .lit (.bool (r.1.fz)), .lit (.int .i64 (r.1.fD)), .lit (.int .i64 (r.1.fB)), .lit (.bool (r.1.fR)), .lit (.int .i64 (r.1.fG)), .lit (.int .i64 (r.1.fH)), .lit (.bool (r.1.fQ)), .lit (.int .i64 (r.1.fJ))], .lit (.string (r.2.1)), .lit (.int .i64 (r.2.2))], M := none, obl := (gaj x0).isSome = true }) ((gaj x0).getD dflt)
 | _, _ => none

theorem gaj.ok : SpecOk Tryz.prog 78 gaj.S := by
 intro l M out h
 unfold gaj.S at h
 split at h
 ·rename_i x0
  try dsimp only at h
  cases h
  refine callOk_of fun ho => ?_
  have hs := ho
  obtain ⟨r, hr⟩ := Option.isSome_iff_exists.1 hs
  simp only [hr, Option.getD_some]
  have q := Lg (M := M) [] (gaj.can x0 r hr) (by simp) rfl (by intro k i hk; simp at hk)
  exact callOk_conv q trivial (by simp) (by simp [frameOut, gaj.out]) (by simp [frameOut, gaj.out])
 ·cases h
end Go.Proofs

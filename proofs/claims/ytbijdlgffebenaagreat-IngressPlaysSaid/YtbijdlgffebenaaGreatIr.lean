/- That these functions compute what their plain functions do. No condition. -/
import Derived.Test.YtbijdlgffebenaaGreatM07
import Derived.Test.YtbijdlgffebenaaGreatTy
import Derived.Test.YtbijdlgffebenaaGreatOy
import Derived.Test.YtbijdlgffebenaaGreatEy
import Derived.Test.YtbijdlgffebenaaGreatRf
import Derived.Test.YtbijdlgffebenaaGreatRp
set_option maxRecDepth 100000
set_option maxHeartbeats 4000000
namespace Go.Proofs
open Go.Ab
@[simp] def gaO.out (_x0 : Te) (_x1 : ByteArray) (r : Bool) : Out := { av := .lit (.bool r), M := none }
theorem gaO.can (x0 : Te) (x1 : ByteArray) (r : Bool) (hr : gaO x0 x1 = some r) : CallOk Tryz.prog 79 [.agg [.lit (.bool x0.fI), .lit (.bool x0.fz), .lit (.int .i64 x0.fD), .lit (.int .i64 x0.fB), .lit (.bool x0.fR), .lit (.int .i64 x0.fG), .lit (.int .i64 x0.fH), .lit (.bool x0.fQ), .lit (.int .i64 x0.fJ)], .lit (.string x1)] [] (gaO.out x0 x1 r) := by
 unfold gaO at hr
 have hΓ := gamL_nil (P := Tryz.prog)
 refine Le Tryz.tyOk Tryz.func79 rfl (by kernel_rfl) rfl rfl (by simp) ?_
 intro _ _ _
 refine AWp.then ⟨[⟨2, none, .ptr 0 0⟩, ⟨1, none, .s x1⟩], [.blk x0.enc]⟩ (AWp.reg Tryz.tyOk hΓ [2] [0] (by kernel_rfl) rfl (by simp)) ?_
 obtain ⟨h3, hr⟩ := Lc hr
 obtain ⟨h4, hr⟩ := Lc hr
 refine AWp.thenA [⟨4, none, .b (pickB (pickB (pickB x0.fz (eqI x0.fD 0) false) (ltI 0 (lenS x1)) false) (eqI (remI (idxS x1 0) 2) 0) false)⟩] (AWp.reg Tryz.tyOk hΓ [4] [2, 1] (by kernel_rfl) rfl (by simp [h3, h4])) ?_
 refine AWp.ret ?_
 obtain rfl := La hr
 refine Lf ?_
 simp

@[simp] noncomputable def gaO.S : Sp
 | [.agg e0, .lit (.string x1)], _ => some { av := .lit (.bool ((gaO (Te.dec e0) x1).getD dflt)), M := none, obl := WeakL e0 (Te.enc (Te.dec e0)) ∧ (gaO (Te.dec e0) x1).isSome = true }
 | _, _ => none

theorem gaO.ok : SpecOk Tryz.prog 79 gaO.S := by
 intro l M out h
 unfold gaO.S at h
 split at h
 ·rename_i e0 x1
  cases h
  refine callOk_of fun ho => ?_
  obtain ⟨ox0, hs⟩ := ho
  generalize (Te.dec e0) = x0 at *
  obtain ⟨r, hr⟩ := Option.isSome_iff_exists.1 hs
  simp only [hr, Option.getD_some]
  have q := Lg (M := M) [] (gaO.can x0 x1 r hr) (by simp) rfl (by intro k i hk; simp at hk)
  exact callOk_conv q trivial (by simp; exact ox0) (by simp [frameOut, gaO.out]) (by simp [frameOut, gaO.out])
 ·cases h

@[simp] def gab.out (_x0 : List Tj) (_x1 : Int) (r : Tb) : Out := { av := .agg [.lit (.bool r.fC), .lit (.int .u8 r.fac), .lit (.int .u16 r.ff), .lit (.int .u32 r.fT), .lit (.int .u32 r.fad), .sl (r.fab.map (eNum .u32)) .no, .lit (.bool r.faf), .lit (.int .u16 r.fZ), .lit (.string r.fae), .lit (.string r.fF), .lit (.int .i64 r.faa)], M := none }
def gab.fin (x0 : List Tj) (x1 : Int) (r : Tb) (σ : St) : Prop := finK (gab.out x0 x1 r) [] σ.M (resA Tryz.ty σ.A σ.M Tryz.f76.results.toList)
theorem gab.can (x0 : List Tj) (x1 : Int) (r : Tb) (hr : gab x0 x1 = some r) : CallOk Tryz.prog 76 [.sl (x0.map Tj.enc) .no, .lit (.int .i64 x1)] [] (gab.out x0 x1 r) := by
 unfold gab at hr
 have hΓ := gamL_nil (P := Tryz.prog)
 refine Le Tryz.tyOk Tryz.func76 rfl (by kernel_rfl) rfl rfl (by simp) ?_
 intro _ _ _
 refine AWp.then ⟨[⟨4, none, .ptr 0 0⟩, ⟨0, none, .sl (x0.map Tj.enc) .no⟩, ⟨1, none, .n x1⟩], [.blk [.b false, .lit (.int .u8 0), .lit (.int .u16 0), .lit (.int .u32 0), .lit (.int .u32 0), .sl [] .full, .b false, .lit (.int .u16 0), .s ⟨#[]⟩, .s ⟨#[]⟩, .n 0]]⟩ (AWp.reg Tryz.tyOk hΓ [4] [] (by kernel_rfl) rfl (by simp)) ?_
 refine AWp.seq ?_
 refine AWp.then ⟨[⟨7, none, .sl (x0.map Tj.enc) .no⟩, ⟨8, none, .n (lenL x0)⟩, ⟨9, none, .n 0⟩, ⟨4, none, .ptr 0 0⟩, ⟨1, none, .n x1⟩], [.blk [.b false, .lit (.int .u8 0), .lit (.int .u16 0), .lit (.int .u32 0), .lit (.int .u32 0), .sl [] .full, .b false, .lit (.int .u16 0), .s ⟨#[]⟩, .s ⟨#[]⟩, .n 0]]⟩ (AWp.reg Tryz.tyOk hΓ [7, 8, 9] [0] (by kernel_rfl) rfl (by simp)) ?_
 refine AWp.loopE (fun (s1 : Int) (γ1 : Unit) => ⟨[⟨7, none, .sl (x0.map Tj.enc) .no⟩, ⟨8, none, .n (lenL x0)⟩, ⟨9, none, .n s1⟩, ⟨4, none, .ptr 0 0⟩, ⟨1, none, .n x1⟩], [.blk [.b false, .lit (.int .u8 0), .lit (.int .u16 0), .lit (.int .u32 0), .lit (.int .u32 0), .sl [] .full, .b false, .lit (.int .u16 0), .s ⟨#[]⟩, .s ⟨#[]⟩, .n 0]]⟩) (fun (v1 : Unit) (γ1a : Unit) => ⟨[⟨4, none, .ptr 0 0⟩], [.blk [.b false, .lit (.int .u8 0), .lit (.int .u16 0), .lit (.int .u32 0), .lit (.int .u32 0), .sl [] .full, .b false, .lit (.int .u16 0), .s ⟨#[]⟩, .s ⟨#[]⟩, .n 0]]⟩) (gab.fin x0 x1) hr () 1 (by simp) (fun s1 f γ1 hr => ?_) (fun v1 γ1a σ1 m1 hr hc => ?_) (fun _ h => h)
 ·unfold gab.loop1 at hr
  refine AWp.then ⟨[⟨10, none, .b (ltI s1 (lenL x0))⟩, ⟨7, none, .sl (x0.map Tj.enc) .no⟩, ⟨8, none, .n (lenL x0)⟩, ⟨9, none, .n s1⟩, ⟨4, none, .ptr 0 0⟩, ⟨1, none, .n x1⟩], [.blk [.b false, .lit (.int .u8 0), .lit (.int .u16 0), .lit (.int .u32 0), .lit (.int .u32 0), .sl [] .full, .b false, .lit (.int .u16 0), .s ⟨#[]⟩, .s ⟨#[]⟩, .n 0]]⟩ (AWp.reg Tryz.tyOk hΓ [10] [] (by kernel_rfl) rfl (by simp)) ?_
  refine AWp.seq ?_
  refine AWp.cond (b := (ltI s1 (lenL x0))) (by simp) (fun h4 => ?_) (fun h4 => ?_)
  ·have hr := Li h4 hr
   refine AWp.skip ?_
   refine AWp.seq ?_
   refine AWp.block ?_
   obtain ⟨h5, hr⟩ := Lc hr
   refine AWp.then ⟨[⟨6, none, .ptr 1 0⟩, ⟨7, none, .sl (x0.map Tj.enc) .no⟩, ⟨8, none, .n (lenL x0)⟩, ⟨9, none, .n s1⟩, ⟨4, none, .ptr 0 0⟩, ⟨1, none, .n x1⟩], [.blk [.b false, .lit (.int .u8 0), .lit (.int .u16 0), .lit (.int .u32 0), .lit (.int .u32 0), .sl [] .full, .b false, .lit (.int .u16 0), .s ⟨#[]⟩, .s ⟨#[]⟩, .n 0], .blk (nthI x0 s1).enc]⟩ (AWp.reg Tryz.tyOk hΓ [6] [10] (by kernel_rfl) rfl (by simp [h4, h5])) ?_
   refine AWp.thenA [⟨16, none, .b (eqI ((nthI x0 s1).fAt) x1)⟩, ⟨6, none, .ptr 1 0⟩, ⟨7, none, .sl (x0.map Tj.enc) .no⟩, ⟨8, none, .n (lenL x0)⟩, ⟨9, none, .n s1⟩, ⟨4, none, .ptr 0 0⟩, ⟨1, none, .n x1⟩] (AWp.reg Tryz.tyOk hΓ [16] [] (by kernel_rfl) rfl (by simp)) ?_
   refine AWp.cond (b := (eqI ((nthI x0 s1).fAt) x1)) (by simp) (fun h6 => ?_) (fun h6 => ?_)
   ·have hr := Li h6 hr
    refine AWp.then ⟨[⟨4, none, .ptr 0 0⟩], [.blk ((nthI x0 s1).fP).enc, .blk (nthI x0 s1).enc]⟩ (AWp.reg Tryz.tyOk hΓ [] [16, 6, 7, 8, 9, 1] (by kernel_rfl) rfl (by simp [h6])) ?_
    refine AWp.ret ?_
    obtain rfl := La hr
    refine round_ret ?_
    refine Lf ?_
    simp
   ·have hr := Lj h6 hr
    refine AWp.skip ?_
    refine AWp.last ⟨[⟨9, none, .n (addI .i64 s1 1)⟩, ⟨7, none, .sl (x0.map Tj.enc) .no⟩, ⟨8, none, .n (lenL x0)⟩, ⟨4, none, .ptr 0 0⟩, ⟨1, none, .n x1⟩], [.blk [.b false, .lit (.int .u8 0), .lit (.int .u16 0), .lit (.int .u32 0), .lit (.int .u32 0), .sl [] .full, .b false, .lit (.int .u16 0), .s ⟨#[]⟩, .s ⟨#[]⟩, .n 0], .blk (nthI x0 s1).enc]⟩ (AWp.reg Tryz.tyOk hΓ [9] [16, 6] (by kernel_rfl) rfl (by simp [h6])) ?_
    obtain rfl := La hr
    exact Lq () 1 (by first | (simp; done) | simp [h4, h5, h6])
  ·have hr := Lj h4 hr
   refine AWp.exit ?_
   obtain rfl := La hr
   exact Lo () 1 (by first | (simp; done) | simp [h4])
 ·refine AWp.conv hc ?_
  refine AWp.then ⟨[⟨4, none, .ptr 0 0⟩], [.blk [.b false, .lit (.int .u8 0), .lit (.int .u16 0), .lit (.int .u32 0), .lit (.int .u32 0), .sl [] .no, .b false, .lit (.int .u16 0), .s ⟨#[]⟩, .s ⟨#[]⟩, .n 0]]⟩ (AWp.reg Tryz.tyOk hΓ [] [] (by kernel_rfl) rfl (by simp)) ?_
  refine AWp.ret ?_
  obtain rfl := La hr
  refine Lf ?_
  simp

@[simp] noncomputable def gab.S : Sp
 | [.sl e0 _, .lit (.int .i64 x1)], _ => (fun (r : Tb) => some { av := .agg [.lit (.bool (r.fC)), .lit (.int .u8 (r.fac)), .lit (.int .u16 (r.ff)), .lit (.int .u32 (r.fT)), .lit (.int .u32 (r.fad)), .sl ((r.fab).map (eNum .u32)) .no, .lit (.bool (r.faf)), .lit (.int .u16 (r.fZ)), .lit (.string (r.fae)), .lit (.string (r.fF)), .lit (.int .i64 (r.faa))], M := none, obl := e0 = (e0.map Tj.dec).map Tj.enc ∧ (gab (e0.map Tj.dec) x1).isSome = true }) ((gab (e0.map Tj.dec) x1).getD dflt)
 | _, _ => none

theorem gab.ok : SpecOk Tryz.prog 76 gab.S := by
 intro l M out h
 unfold gab.S at h
 split at h
 ·rename_i e0 k0 x1
  try dsimp only at h
  cases h
  refine callOk_of fun ho => ?_
  obtain ⟨ox0, hs⟩ := ho
  generalize (e0.map Tj.dec) = x0 at *
  subst ox0
  obtain ⟨r, hr⟩ := Option.isSome_iff_exists.1 hs
  simp only [hr, Option.getD_some]
  have q := Lg (M := M) [] (gab.can x0 x1 r hr) (by simp) rfl (by intro k i hk; simp at hk)
  exact callOk_conv q trivial (by simp) (by simp [frameOut, gab.out]) (by simp [frameOut, gab.out])
 ·cases h

@[simp] def gay.out (_x0 : Td) (_x1 : Ta) (r : Td × Tc) : Out := { av := .tup [.agg [.lit (.bool r.1.ff.fd), .lit (.int .i64 r.1.ff.fk), .lit (.int .i64 r.1.ff.fV), .lit (.int .i64 r.1.ff.fK), .lit (.int .i64 r.1.ff.fA), .lit (.int .i64 r.1.fh), .lit (.int .i64 r.1.fm.fk), .lit (.int .i64 r.1.fm.fp), .lit (.bool r.1.fm.fd), .lit (.int .i64 r.1.fm.fg), .sl (r.1.fm.fL.map Ta.enc) .no, .lit (.int .i64 r.1.fm.fe), .lit (.bool r.1.fc.fu), .lit (.int .i64 r.1.fc.fw), .lit (.int .i64 r.1.fc.fj), .lit (.int .i64 r.1.fc.fp), .sl (r.1.fc.fv.map Tc.enc) .no, .lit (.int .i64 r.1.fc.fy), .lit (.int .i64 r.1.fc.fe), .sl (r.1.fL.map Tj.enc) .no, .lit (.int .i64 r.1.fq), .lit (.int .i64 r.1.fo)], .agg [.lit (.int .i64 r.2.fAt), .lit (.int .i64 r.2.fT), .lit (.bool r.2.fC), .lit (.bool r.2.fz), .lit (.bool r.2.fJ), .lit (.string r.2.fU), .lit (.int .i64 r.2.fO)]], M := none }
def gay.fin (x0 : Td) (x1 : Ta) (r : Td × Tc) (σ : St) : Prop := finK (gay.out x0 x1 r) [] σ.M (resA Tryz.ty σ.A σ.M Tryz.f54.results.toList)
theorem gay.can (x0 : Td) (x1 : Ta) (r : Td × Tc) (hr : gay x0 x1 = some r) : CallOk Tryz.prog 54 [.agg [.lit (.bool x0.ff.fd), .lit (.int .i64 x0.ff.fk), .lit (.int .i64 x0.ff.fV), .lit (.int .i64 x0.ff.fK), .lit (.int .i64 x0.ff.fA), .lit (.int .i64 x0.fh), .lit (.int .i64 x0.fm.fk), .lit (.int .i64 x0.fm.fp), .lit (.bool x0.fm.fd), .lit (.int .i64 x0.fm.fg), .sl (x0.fm.fL.map Ta.enc) .no, .lit (.int .i64 x0.fm.fe), .lit (.bool x0.fc.fu), .lit (.int .i64 x0.fc.fw), .lit (.int .i64 x0.fc.fj), .lit (.int .i64 x0.fc.fp), .sl (x0.fc.fv.map Tc.enc) .no, .lit (.int .i64 x0.fc.fy), .lit (.int .i64 x0.fc.fe), .sl (x0.fL.map Tj.enc) .no, .lit (.int .i64 x0.fq), .lit (.int .i64 x0.fo)], .agg [.lit (.int .i64 x1.fAt), .lit (.string x1.fU), .lit (.int .i64 x1.fO)]] [] (gay.out x0 x1 r) := by
 unfold gay at hr
 have hΓ := (gamL_cons gaj.ok (gamL_cons gaG.ok (gamL_cons gaO.ok (gamL_cons gab.ok (gamL_nil)))) : GamOk Tryz.prog _)
 refine Le Tryz.tyOk Tryz.func54 rfl (by kernel_rfl) rfl rfl (by simp) ?_
 intro _ _ _
 refine AWp.then ⟨[⟨2, none, .ptr 0 0⟩, ⟨3, none, .ptr 1 0⟩, ⟨4, none, .ptr 2 0⟩, ⟨5, none, .ptr 3 0⟩], [.blk x0.enc, .blk x1.enc, .blk [.b false, .n 0, .n 0, .n 0, .n 0, .n 0, .n 0, .n 0, .b false, .n 0, .sl [] .full, .n 0, .b false, .n 0, .n 0, .n 0, .sl [] .full, .n 0, .n 0, .sl [] .full, .n 0, .n 0], .blk [.n 0, .n 0, .b false, .b false, .b false, .s ⟨#[]⟩, .n 0]]⟩ (AWp.reg Tryz.tyOk hΓ [2, 3, 4, 5] [0, 1] (by kernel_rfl) rfl (by simp)) ?_
 obtain ⟨r1, h6, hr⟩ := Lb hr
 refine AWp.then ⟨[⟨6, none, .ptr 4 0⟩, ⟨2, none, .ptr 0 0⟩, ⟨3, none, .ptr 1 0⟩, ⟨4, none, .ptr 2 0⟩, ⟨5, none, .ptr 3 0⟩], [.blk x0.enc, .blk x1.enc, .blk [.b false, .n 0, .n 0, .n 0, .n 0, .n 0, .n 0, .n 0, .b false, .n 0, .sl [] .full, .n 0, .b false, .n 0, .n 0, .n 0, .sl [] .full, .n 0, .n 0, .sl [] .full, .n 0, .n 0], .blk [.n 0, .n 0, .b false, .b false, .b false, .s ⟨#[]⟩, .n 0], .blk r1.enc]⟩ (AWp.reg Tryz.tyOk hΓ [6] [] (by kernel_rfl) rfl (by simp [h6])) ?_
 obtain ⟨r2, h7, hr⟩ := Lb hr
 refine AWp.thenA [⟨7, none, .n r2.1⟩, ⟨8, none, .n r2.2⟩, ⟨6, none, .ptr 4 0⟩, ⟨2, none, .ptr 0 0⟩, ⟨3, none, .ptr 1 0⟩, ⟨4, none, .ptr 2 0⟩, ⟨5, none, .ptr 3 0⟩] (AWp.reg Tryz.tyOk hΓ [7, 8] [] (by kernel_rfl) rfl (by simp [h7])) ?_
 refine AWp.then ⟨[⟨8, none, .n r2.2⟩, ⟨6, none, .ptr 4 0⟩, ⟨2, none, .ptr 0 0⟩, ⟨3, none, .ptr 1 0⟩, ⟨4, none, .ptr 2 0⟩, ⟨5, none, .ptr 3 0⟩], [.blk (x0.ff.enc ++ [.n r2.1] ++ x0.fm.enc ++ x0.fc.enc ++ [.sl (x0.fL.map Tj.enc) .no, .n x0.fq, .n x0.fo]), .blk x1.enc, .blk [.b false, .n 0, .n 0, .n 0, .n 0, .n 0, .n 0, .n 0, .b false, .n 0, .sl [] .full, .n 0, .b false, .n 0, .n 0, .n 0, .sl [] .full, .n 0, .n 0, .sl [] .full, .n 0, .n 0], .blk [.n 0, .n 0, .b false, .b false, .b false, .s ⟨#[]⟩, .n 0], .blk r1.enc]⟩ (AWp.reg Tryz.tyOk hΓ [] [7] (by kernel_rfl) rfl (by simp)) ?_
 refine AWp.then ⟨[⟨9, none, .ptr 5 0⟩, ⟨6, none, .ptr 4 0⟩, ⟨2, none, .ptr 0 0⟩, ⟨4, none, .ptr 2 0⟩, ⟨5, none, .ptr 3 0⟩], [.blk (x0.ff.enc ++ [.n r2.1] ++ x0.fm.enc ++ x0.fc.enc ++ [.sl (x0.fL.map Tj.enc) .no, .n x0.fq, .n x0.fo]), .blk x1.enc, .blk [.b false, .n 0, .n 0, .n 0, .n 0, .n 0, .n 0, .n 0, .b false, .n 0, .sl [] .full, .n 0, .b false, .n 0, .n 0, .n 0, .sl [] .full, .n 0, .n 0, .sl [] .full, .n 0, .n 0], .blk [.n 0, .n 0, .b false, .b false, .b false, .s ⟨#[]⟩, .n 0], .blk r1.enc, .blk [.n x1.fAt, .n r2.2, .b (pickB r1.fC (neS r1.fF ⟨#[]⟩) false), .b false, .b false, .s r1.fF, .n x1.fO]]⟩ (AWp.reg Tryz.tyOk hΓ [9] [8, 3] (by kernel_rfl) rfl (by simp)) ?_
 obtain ⟨r3, h8, hr⟩ := Lb hr
 refine AWp.then ⟨[⟨10, none, .ptr 6 0⟩, ⟨11, none, .s r3.2.1⟩, ⟨12, none, .n r3.2.2⟩, ⟨9, none, .ptr 5 0⟩, ⟨2, none, .ptr 0 0⟩, ⟨4, none, .ptr 2 0⟩, ⟨5, none, .ptr 3 0⟩], [.blk (x0.ff.enc ++ [.n r2.1] ++ x0.fm.enc ++ x0.fc.enc ++ [.sl (x0.fL.map Tj.enc) .no, .n x0.fq, .n x0.fo]), .blk x1.enc, .blk [.b false, .n 0, .n 0, .n 0, .n 0, .n 0, .n 0, .n 0, .b false, .n 0, .sl [] .full, .n 0, .b false, .n 0, .n 0, .n 0, .sl [] .full, .n 0, .n 0, .sl [] .full, .n 0, .n 0], .blk [.n 0, .n 0, .b false, .b false, .b false, .s ⟨#[]⟩, .n 0], .blk r1.enc, .blk [.n x1.fAt, .n r2.2, .b (pickB r1.fC (neS r1.fF ⟨#[]⟩) false), .b false, .b false, .s r1.fF, .n x1.fO], .blk r3.1.enc]⟩ (AWp.reg Tryz.tyOk hΓ [10, 11, 12] [6] (by kernel_rfl) rfl (by simp [h8])) ?_
 refine AWp.meetF (fun (v1 : Tc) (γ1 : Unit) => ⟨[⟨9, none, .ptr 5 0⟩, ⟨2, none, .ptr 0 0⟩, ⟨4, none, .ptr 2 0⟩, ⟨5, none, .ptr 3 0⟩], [.blk (x0.ff.enc ++ [.n r2.1] ++ x0.fm.enc ++ x0.fc.enc ++ [.sl (x0.fL.map Tj.enc) .no, .n x0.fq, .n x0.fo]), .blk x1.enc, .blk [.b false, .n 0, .n 0, .n 0, .n 0, .n 0, .n 0, .n 0, .b false, .n 0, .sl [] .full, .n 0, .b false, .n 0, .n 0, .n 0, .sl [] .full, .n 0, .n 0, .sl [] .full, .n 0, .n 0], .blk [.n 0, .n 0, .b false, .b false, .b false, .s ⟨#[]⟩, .n 0], .blk r1.enc, .blk v1.enc, .blk r3.1.enc]⟩) (gay.fin x0 x1) hr (fun f hr => ?_) (fun v1 γ1 hr => ?_) (fun _ h => h)
 ·refine AWp.then ⟨[⟨57, none, .b (pickB x0.fc.fu (eqI r3.2.2 0) false)⟩, ⟨10, none, .ptr 6 0⟩, ⟨11, none, .s r3.2.1⟩, ⟨9, none, .ptr 5 0⟩, ⟨2, none, .ptr 0 0⟩, ⟨4, none, .ptr 2 0⟩, ⟨5, none, .ptr 3 0⟩], [.blk (x0.ff.enc ++ [.n r2.1] ++ x0.fm.enc ++ x0.fc.enc ++ [.sl (x0.fL.map Tj.enc) .no, .n x0.fq, .n x0.fo]), .blk x1.enc, .blk [.b false, .n 0, .n 0, .n 0, .n 0, .n 0, .n 0, .n 0, .b false, .n 0, .sl [] .full, .n 0, .b false, .n 0, .n 0, .n 0, .sl [] .full, .n 0, .n 0, .sl [] .full, .n 0, .n 0], .blk [.n 0, .n 0, .b false, .b false, .b false, .s ⟨#[]⟩, .n 0], .blk r1.enc, .blk [.n x1.fAt, .n r2.2, .b (pickB r1.fC (neS r1.fF ⟨#[]⟩) false), .b false, .b false, .s r1.fF, .n x1.fO], .blk r3.1.enc]⟩ (AWp.reg Tryz.tyOk hΓ [57] [12] (by kernel_rfl) rfl (by simp)) ?_
  refine AWp.cond (b := (pickB x0.fc.fu (eqI r3.2.2 0) false)) (by simp) (fun h9 => ?_) (fun h9 => ?_)
  ·have hr := Li h9 hr
   refine AWp.then ⟨[⟨10, none, .ptr 6 0⟩, ⟨11, none, .s r3.2.1⟩, ⟨9, none, .ptr 5 0⟩, ⟨2, none, .ptr 0 0⟩, ⟨4, none, .ptr 2 0⟩, ⟨5, none, .ptr 3 0⟩], [.blk (x0.ff.enc ++ [.n r2.1] ++ x0.fm.enc ++ x0.fc.enc ++ [.sl (x0.fL.map Tj.enc) .no, .n x0.fq, .n x0.fo]), .blk x1.enc, .blk [.b false, .n 0, .n 0, .n 0, .n 0, .n 0, .n 0, .n 0, .b false, .n 0, .sl [] .full, .n 0, .b false, .n 0, .n 0, .n 0, .sl [] .full, .n 0, .n 0, .sl [] .full, .n 0, .n 0], .blk [.n 0, .n 0, .b false, .b false, .b false, .s ⟨#[]⟩, .n 0], .blk r1.enc, .blk [.n x1.fAt, .n r2.2, .b (pickB r1.fC (neS r1.fF ⟨#[]⟩) false), .b (pickB r3.1.fz (eqI r3.1.fD 0) false), .b false, .s r1.fF, .n x1.fO], .blk r3.1.enc]⟩ (AWp.reg Tryz.tyOk hΓ [] [57] (by kernel_rfl) rfl (by simp [h9])) ?_
   obtain ⟨r4, h10, hr⟩ := Lb hr
   refine AWp.last ⟨[⟨9, none, .ptr 5 0⟩, ⟨2, none, .ptr 0 0⟩, ⟨4, none, .ptr 2 0⟩, ⟨5, none, .ptr 3 0⟩], [.blk (x0.ff.enc ++ [.n r2.1] ++ x0.fm.enc ++ x0.fc.enc ++ [.sl (x0.fL.map Tj.enc) .no, .n x0.fq, .n x0.fo]), .blk x1.enc, .blk [.b false, .n 0, .n 0, .n 0, .n 0, .n 0, .n 0, .n 0, .b false, .n 0, .sl [] .full, .n 0, .b false, .n 0, .n 0, .n 0, .sl [] .full, .n 0, .n 0, .sl [] .full, .n 0, .n 0], .blk [.n 0, .n 0, .b false, .b false, .b false, .s ⟨#[]⟩, .n 0], .blk r1.enc, .blk [.n x1.fAt, .n r2.2, .b (pickB r1.fC (neS r1.fF ⟨#[]⟩) false), .b (pickB r3.1.fz (eqI r3.1.fD 0) false), .b r4, .s r1.fF, .n x1.fO], .blk r3.1.enc]⟩ (AWp.reg Tryz.tyOk hΓ [] [10, 11] (by kernel_rfl) rfl (by simp [h10])) ?_
   obtain rfl := La hr
   exact Ll () 7 (by first | (simp; done) | simp [h6, h7, h8, h9, h10])
  ·have hr := Lj h9 hr
   refine AWp.skip ?_
   obtain rfl := La hr
   exact Ll () 7 (by first | (simp; done) | simp [h6, h7, h8, h9])
 ·refine AWp.then ⟨[⟨4, none, .ptr 2 0⟩, ⟨5, none, .ptr 3 0⟩], [.blk (x0.ff.enc ++ [.n r2.1] ++ x0.fm.enc ++ x0.fc.enc ++ [.sl (x0.fL.map Tj.enc) .no, .n x0.fq, .n x0.fo]), .blk x1.enc, .blk (x0.ff.enc ++ [.n r2.1] ++ x0.fm.enc ++ x0.fc.enc ++ [.sl (x0.fL.map Tj.enc) .no, .n x0.fq, .n x0.fo]), .blk v1.enc, .blk r1.enc, .blk v1.enc, .blk r3.1.enc]⟩ (AWp.regD Tryz.mixed Tryz.tyOk hΓ [] [9, 2] [(1, 3)] [(false, []), (false, []), (true, []), (true, [])] (by kernel_rfl) rfl (by simp)) ?_
  refine AWp.ret ?_
  obtain rfl := La hr
  refine Lf ?_
  simp

@[simp] noncomputable def gay.S : Sp
 | [.agg e0, .agg e1], _ => (fun (y0 : Td) => (fun (y1 : Ta) => (fun (r : Td × Tc) => some { av := .tup [.agg [.lit (.bool (r.1.ff.fd)), .lit (.int .i64 (r.1.ff.fk)), .lit (.int .i64 (r.1.ff.fV)), .lit (.int .i64 (r.1.ff.fK)), .lit (.int .i64 (r.1.ff.fA)), .lit (.int .i64 (r.1.fh)), .lit (.int .i64 (r.1.fm.fk)), .lit (.int .i64 (r.1.fm.fp)), .lit (.bool (r.1.fm.fd)), .lit (.int .i64 (r.1.fm.fg)), .sl ((r.1.fm.fL).map Ta.enc) .no, .lit (.int .i64 (r.1.fm.fe)), .lit (.bool (r.1.fc.fu)), .lit (.int .i64 (r.1.fc.fw)), .lit (.int .i64 (r.1.fc.fj)), .lit (.int .i64 (r.1.fc.fp)), .sl ((r.1.fc.fv).map Tc.enc) .no, .lit (.int .i64 (r.1.fc.fy)), .lit (.int .i64 (r.1.fc.fe)), .sl ((r.1.fL).map Tj.enc) .no, .lit (.int .i64 (r.1.fq)), .lit (.int .i64 (r.1.fo))], .agg [.lit (.int .i64 (r.2.fAt)), .lit (.int .i64 (r.2.fT)), .lit (.bool (r.2.fC)), .lit (.bool (r.2.fz)), .lit (.bool (r.2.fJ)), .lit (.string (r.2.fU)), .lit (.int .i64 (r.2.fO))]], M := none, obl := WeakL e0 (Td.enc y0) ∧ WeakL e1 (Ta.enc y1) ∧ (gay y0 y1).isSome = true }) ((gay y0 y1).getD dflt)) (Ta.dec e1)) (Td.dec e0)
 | _, _ => none

theorem gay.ok : SpecOk Tryz.prog 54 gay.S := by
 intro l M out h
 unfold gay.S at h
 split at h
 ·rename_i e0 e1
  try dsimp only at h
  cases h
  refine callOk_of fun ho => ?_
  obtain ⟨ox0, ox1, hs⟩ := ho
  generalize (Td.dec e0) = x0 at *
  generalize (Ta.dec e1) = x1 at *
  obtain ⟨r, hr⟩ := Option.isSome_iff_exists.1 hs
  simp only [hr, Option.getD_some]
  have q := Lg (M := M) [] (gay.can x0 x1 r hr) (by simp) rfl (by intro k i hk; simp at hk)
  exact callOk_conv q trivial (by simp; exact ⟨ox0, ox1⟩) (by simp [frameOut, gay.out]) (by simp [frameOut, gay.out])
 ·cases h

@[simp] def gG.out (_x0 : Td) (_x1 : List Ta) (r : Td × List (List Tc)) : Out := { av := .tup [.agg [.lit (.bool r.1.ff.fd), .lit (.int .i64 r.1.ff.fk), .lit (.int .i64 r.1.ff.fV), .lit (.int .i64 r.1.ff.fK), .lit (.int .i64 r.1.ff.fA), .lit (.int .i64 r.1.fh), .lit (.int .i64 r.1.fm.fk), .lit (.int .i64 r.1.fm.fp), .lit (.bool r.1.fm.fd), .lit (.int .i64 r.1.fm.fg), .sl (r.1.fm.fL.map Ta.enc) .no, .lit (.int .i64 r.1.fm.fe), .lit (.bool r.1.fc.fu), .lit (.int .i64 r.1.fc.fw), .lit (.int .i64 r.1.fc.fj), .lit (.int .i64 r.1.fc.fp), .sl (r.1.fc.fv.map Tc.enc) .no, .lit (.int .i64 r.1.fc.fy), .lit (.int .i64 r.1.fc.fe), .sl (r.1.fL.map Tj.enc) .no, .lit (.int .i64 r.1.fq), .lit (.int .i64 r.1.fo)], .sl (r.2.map (encL Tc.enc)) .no], M := none }
def gG.fin (x0 : Td) (x1 : List Ta) (r : Td × List (List Tc)) (σ : St) : Prop := finK (gG.out x0 x1 r) [] σ.M (resA Tryz.ty σ.A σ.M Tryz.f29.results.toList)
theorem gG.can (x0 : Td) (x1 : List Ta) (r : Td × List (List Tc)) (hr : gG x0 x1 = some r) : CallOk Tryz.prog 29 [.agg [.lit (.bool x0.ff.fd), .lit (.int .i64 x0.ff.fk), .lit (.int .i64 x0.ff.fV), .lit (.int .i64 x0.ff.fK), .lit (.int .i64 x0.ff.fA), .lit (.int .i64 x0.fh), .lit (.int .i64 x0.fm.fk), .lit (.int .i64 x0.fm.fp), .lit (.bool x0.fm.fd), .lit (.int .i64 x0.fm.fg), .sl (x0.fm.fL.map Ta.enc) .no, .lit (.int .i64 x0.fm.fe), .lit (.bool x0.fc.fu), .lit (.int .i64 x0.fc.fw), .lit (.int .i64 x0.fc.fj), .lit (.int .i64 x0.fc.fp), .sl (x0.fc.fv.map Tc.enc) .no, .lit (.int .i64 x0.fc.fy), .lit (.int .i64 x0.fc.fe), .sl (x0.fL.map Tj.enc) .no, .lit (.int .i64 x0.fq), .lit (.int .i64 x0.fo)], .sl (x1.map Ta.enc) .no] [] (gG.out x0 x1 r) := by
 unfold gG at hr
 have hΓ := (gamL_cons gaF.ok (gamL_cons gay.ok (gamL_nil)) : GamOk Tryz.prog _)
 refine Le Tryz.tyOk Tryz.func29 rfl (by kernel_rfl) rfl rfl (by simp) ?_
 intro _ _ _
 refine AWp.then ⟨[⟨2, none, .ptr 0 0⟩, ⟨4, none, .ptr 1 0⟩, ⟨1, none, .sl (x1.map Ta.enc) .no⟩], [.blk x0.enc, .blk [.b false, .n 0, .n 0, .n 0, .n 0, .n 0, .n 0, .n 0, .b false, .n 0, .sl [] .full, .n 0, .b false, .n 0, .n 0, .n 0, .sl [] .full, .n 0, .n 0, .sl [] .full, .n 0, .n 0]]⟩ (AWp.reg Tryz.tyOk hΓ [2, 4] [0] (by kernel_rfl) rfl (by simp)) ?_
 refine AWp.thenA [⟨6, none, .sl [] .full⟩, ⟨2, none, .ptr 0 0⟩, ⟨4, none, .ptr 1 0⟩, ⟨1, none, .sl (x1.map Ta.enc) .no⟩] (AWp.reg Tryz.tyOk hΓ [6] [] (by kernel_rfl) rfl (by simp)) ?_
 refine AWp.seq ?_
 refine AWp.then ⟨[⟨14, none, .sl (x1.map Ta.enc) .no⟩, ⟨15, none, .n (lenL x1)⟩, ⟨16, none, .n 0⟩, ⟨6, none, .sl [] .full⟩, ⟨2, none, .ptr 0 0⟩, ⟨4, none, .ptr 1 0⟩], [.blk x0.enc, .blk [.b false, .n 0, .n 0, .n 0, .n 0, .n 0, .n 0, .n 0, .b false, .n 0, .sl [] .full, .n 0, .b false, .n 0, .n 0, .n 0, .sl [] .full, .n 0, .n 0, .sl [] .full, .n 0, .n 0]]⟩ (AWp.reg Tryz.tyOk hΓ [14, 15, 16] [1] (by kernel_rfl) rfl (by simp)) ?_
 refine AWp.equip 6 1 (els := []) (by simp) (by simp) ?_
 refine AWp.loopE (fun (s1 : Int × List (List Tc) × Td) (γ1 : Nat) => ⟨[⟨14, none, .sl (x1.map Ta.enc) .no⟩, ⟨15, none, .n (lenL x1)⟩, ⟨16, none, .n s1.1⟩, ⟨6, none, .sl (s1.2.1.map (encL Tc.enc)) (.own 2 (γ1) 1)⟩, ⟨2, none, .ptr 0 0⟩, ⟨4, none, .ptr 1 0⟩], [.blk s1.2.2.enc, .blk [.b false, .n 0, .n 0, .n 0, .n 0, .n 0, .n 0, .n 0, .b false, .n 0, .sl [] .full, .n 0, .b false, .n 0, .n 0, .n 0, .sl [] .full, .n 0, .n 0, .sl [] .full, .n 0, .n 0], .room (γ1)]⟩) (fun (v1 : List (List Tc) × Td) (γ1a : Nat) => ⟨[⟨6, none, .sl (v1.1.map (encL Tc.enc)) (.own 2 (γ1a) 1)⟩, ⟨2, none, .ptr 0 0⟩, ⟨4, none, .ptr 1 0⟩], [.blk v1.2.enc, .blk [.b false, .n 0, .n 0, .n 0, .n 0, .n 0, .n 0, .n 0, .b false, .n 0, .sl [] .full, .n 0, .b false, .n 0, .n 0, .n 0, .sl [] .full, .n 0, .n 0, .sl [] .full, .n 0, .n 0], .room (γ1a)]⟩) (gG.fin x0 x1) hr 0 3 (by simp) (fun s1 f γ1 hr => ?_) (fun v1 γ1a σ1 m1 hr hc => ?_) (fun _ h => h)
 ·unfold gG.loop1 at hr
  refine AWp.then ⟨[⟨17, none, .b (ltI s1.1 (lenL x1))⟩, ⟨14, none, .sl (x1.map Ta.enc) .no⟩, ⟨15, none, .n (lenL x1)⟩, ⟨16, none, .n s1.1⟩, ⟨6, none, .sl (s1.2.1.map (encL Tc.enc)) (.own 2 (γ1) 1)⟩, ⟨2, none, .ptr 0 0⟩, ⟨4, none, .ptr 1 0⟩], [.blk s1.2.2.enc, .blk [.b false, .n 0, .n 0, .n 0, .n 0, .n 0, .n 0, .n 0, .b false, .n 0, .sl [] .full, .n 0, .b false, .n 0, .n 0, .n 0, .sl [] .full, .n 0, .n 0, .sl [] .full, .n 0, .n 0], .room (γ1)]⟩ (AWp.reg Tryz.tyOk hΓ [17] [] (by kernel_rfl) rfl (by simp)) ?_
  refine AWp.seq ?_
  refine AWp.cond (b := (ltI s1.1 (lenL x1))) (by simp) (fun h9 => ?_) (fun h9 => ?_)
  ·have hr := Li h9 hr
   refine AWp.skip ?_
   refine AWp.seq ?_
   refine AWp.block ?_
   obtain ⟨h10, hr⟩ := Lc hr
   refine AWp.then ⟨[⟨8, none, .ptr 3 0⟩, ⟨14, none, .sl (x1.map Ta.enc) .no⟩, ⟨15, none, .n (lenL x1)⟩, ⟨16, none, .n s1.1⟩, ⟨6, none, .sl (s1.2.1.map (encL Tc.enc)) (.own 2 (γ1) 1)⟩, ⟨2, none, .ptr 0 0⟩, ⟨4, none, .ptr 1 0⟩], [.blk s1.2.2.enc, .blk [.b false, .n 0, .n 0, .n 0, .n 0, .n 0, .n 0, .n 0, .b false, .n 0, .sl [] .full, .n 0, .b false, .n 0, .n 0, .n 0, .sl [] .full, .n 0, .n 0, .sl [] .full, .n 0, .n 0], .room (γ1), .blk (nthI x1 s1.1).enc]⟩ (AWp.reg Tryz.tyOk hΓ [8] [17] (by kernel_rfl) rfl (by simp [h9, h10])) ?_
   obtain ⟨r1, h11, hr⟩ := Lb hr
   refine AWp.then ⟨[⟨9, none, .ptr 4 0⟩, ⟨10, none, .ptr 5 0⟩, ⟨14, none, .sl (x1.map Ta.enc) .no⟩, ⟨15, none, .n (lenL x1)⟩, ⟨16, none, .n s1.1⟩, ⟨6, none, .sl (s1.2.1.map (encL Tc.enc)) (.own 2 (γ1) 1)⟩, ⟨2, none, .ptr 0 0⟩, ⟨4, none, .ptr 1 0⟩], [.blk s1.2.2.enc, .blk [.b false, .n 0, .n 0, .n 0, .n 0, .n 0, .n 0, .n 0, .b false, .n 0, .sl [] .full, .n 0, .b false, .n 0, .n 0, .n 0, .sl [] .full, .n 0, .n 0, .sl [] .full, .n 0, .n 0], .room (γ1), .blk (nthI x1 s1.1).enc, .blk r1.1.enc, .blk r1.2.enc]⟩ (AWp.reg Tryz.tyOk hΓ [9, 10] [8] (by kernel_rfl) rfl (by simp [h11])) ?_
   obtain ⟨r2, h12, hr⟩ := Lb hr
   refine AWp.then ⟨[⟨11, none, .ptr 6 0⟩, ⟨12, none, .sl (r2.2.map Tc.enc) .no⟩, ⟨9, none, .ptr 4 0⟩, ⟨14, none, .sl (x1.map Ta.enc) .no⟩, ⟨15, none, .n (lenL x1)⟩, ⟨16, none, .n s1.1⟩, ⟨6, none, .sl (s1.2.1.map (encL Tc.enc)) (.own 2 (γ1) 1)⟩, ⟨2, none, .ptr 0 0⟩, ⟨4, none, .ptr 1 0⟩], [.blk s1.2.2.enc, .blk [.b false, .n 0, .n 0, .n 0, .n 0, .n 0, .n 0, .n 0, .b false, .n 0, .sl [] .full, .n 0, .b false, .n 0, .n 0, .n 0, .sl [] .full, .n 0, .n 0, .sl [] .full, .n 0, .n 0], .room (γ1), .blk (nthI x1 s1.1).enc, .blk r1.1.enc, .blk r1.2.enc, .blk r2.1.enc]⟩ (AWp.reg Tryz.tyOk hΓ [11, 12] [10] (by kernel_rfl) rfl (by simp [h12])) ?_
   refine AWp.then ⟨[⟨12, none, .sl (r2.2.map Tc.enc) .no⟩, ⟨9, none, .ptr 4 0⟩, ⟨14, none, .sl (x1.map Ta.enc) .no⟩, ⟨15, none, .n (lenL x1)⟩, ⟨16, none, .n s1.1⟩, ⟨6, none, .sl (s1.2.1.map (encL Tc.enc)) (.own 2 (γ1) 1)⟩, ⟨2, none, .ptr 0 0⟩, ⟨4, none, .ptr 1 0⟩], [.blk s1.2.2.enc, .blk [.b false, .n 0, .n 0, .n 0, .n 0, .n 0, .n 0, .n 0, .b false, .n 0, .sl [] .full, .n 0, .b false, .n 0, .n 0, .n 0, .sl [] .full, .n 0, .n 0, .sl [] .full, .n 0, .n 0], .room (γ1), .blk (nthI x1 s1.1).enc, .blk (r1.1.ff.enc ++ [.n r1.1.fh] ++ r1.1.fm.enc ++ r2.1.enc ++ [.sl (r1.1.fL.map Tj.enc) .no, .n r1.1.fq, .n r1.1.fo]), .blk r1.2.enc, .blk r2.1.enc]⟩ (AWp.reg Tryz.tyOk hΓ [] [11] (by kernel_rfl) rfl (by simp)) ?_
   refine AWp.then ⟨[⟨12, none, .sl (r2.2.map Tc.enc) .no⟩, ⟨14, none, .sl (x1.map Ta.enc) .no⟩, ⟨15, none, .n (lenL x1)⟩, ⟨16, none, .n s1.1⟩, ⟨6, none, .sl (s1.2.1.map (encL Tc.enc)) (.own 2 (γ1) 1)⟩, ⟨2, none, .ptr 0 0⟩, ⟨4, none, .ptr 1 0⟩], [.blk (r1.1.ff.enc ++ [.n r1.1.fh] ++ r1.1.fm.enc ++ r2.1.enc ++ [.sl (r1.1.fL.map Tj.enc) .no, .n r1.1.fq, .n r1.1.fo]), .blk [.b false, .n 0, .n 0, .n 0, .n 0, .n 0, .n 0, .n 0, .b false, .n 0, .sl [] .full, .n 0, .b false, .n 0, .n 0, .n 0, .sl [] .full, .n 0, .n 0, .sl [] .full, .n 0, .n 0], .room (γ1), .blk (nthI x1 s1.1).enc, .blk (r1.1.ff.enc ++ [.n r1.1.fh] ++ r1.1.fm.enc ++ r2.1.enc ++ [.sl (r1.1.fL.map Tj.enc) .no, .n r1.1.fq, .n r1.1.fo]), .blk r1.2.enc, .blk r2.1.enc]⟩ (AWp.reg Tryz.tyOk hΓ [] [9] (by kernel_rfl) rfl (by simp)) ?_
   refine AWp.thenA [⟨38, none, .b (ltI 0 (lenL r2.2))⟩, ⟨12, none, .sl (r2.2.map Tc.enc) .no⟩, ⟨14, none, .sl (x1.map Ta.enc) .no⟩, ⟨15, none, .n (lenL x1)⟩, ⟨16, none, .n s1.1⟩, ⟨6, none, .sl (s1.2.1.map (encL Tc.enc)) (.own 2 (γ1) 1)⟩, ⟨2, none, .ptr 0 0⟩, ⟨4, none, .ptr 1 0⟩] (AWp.reg Tryz.tyOk hΓ [38] [] (by kernel_rfl) rfl (by simp)) ?_
   refine AWp.cond (b := (ltI 0 (lenL r2.2))) (by simp) (fun h13 => ?_) (fun h13 => ?_)
   ·have hr := Li h13 hr
    obtain ⟨h14, hr⟩ := Lc hr
    refine AWp.then ⟨[⟨6, none, .sl ((appL s1.2.1 [r2.2]).map (encL Tc.enc)) (.own 2 (γ1 + 1) 1)⟩, ⟨12, none, .sl (r2.2.map Tc.enc) .no⟩, ⟨14, none, .sl (x1.map Ta.enc) .no⟩, ⟨15, none, .n (lenL x1)⟩, ⟨16, none, .n s1.1⟩, ⟨2, none, .ptr 0 0⟩, ⟨4, none, .ptr 1 0⟩], [.blk (r1.1.ff.enc ++ [.n r1.1.fh] ++ r1.1.fm.enc ++ r2.1.enc ++ [.sl (r1.1.fL.map Tj.enc) .no, .n r1.1.fq, .n r1.1.fo]), .blk [.b false, .n 0, .n 0, .n 0, .n 0, .n 0, .n 0, .n 0, .b false, .n 0, .sl [] .full, .n 0, .b false, .n 0, .n 0, .n 0, .sl [] .full, .n 0, .n 0, .sl [] .full, .n 0, .n 0], .room (γ1 + 1), .blk (nthI x1 s1.1).enc, .blk (r1.1.ff.enc ++ [.n r1.1.fh] ++ r1.1.fm.enc ++ r2.1.enc ++ [.sl (r1.1.fL.map Tj.enc) .no, .n r1.1.fq, .n r1.1.fo]), .blk r1.2.enc, .blk r2.1.enc]⟩ (AWp.reg Tryz.tyOk hΓ [6] [38] (by kernel_rfl) rfl (by simp [h13, h14])) ?_
    obtain ⟨h15, hr⟩ := Lc hr
    refine AWp.thenA [⟨46, none, .b ((nthI r2.2 0).fJ)⟩, ⟨6, none, .sl ((appL s1.2.1 [r2.2]).map (encL Tc.enc)) (.own 2 (γ1 + 1) 1)⟩, ⟨14, none, .sl (x1.map Ta.enc) .no⟩, ⟨15, none, .n (lenL x1)⟩, ⟨16, none, .n s1.1⟩, ⟨2, none, .ptr 0 0⟩, ⟨4, none, .ptr 1 0⟩] (AWp.reg Tryz.tyOk hΓ [46] [12] (by kernel_rfl) rfl (by simp [h15])) ?_
    refine AWp.cond (b := (nthI r2.2 0).fJ) (by simp) (fun h16 => ?_) (fun h16 => ?_)
    ·have hr := Li h16 hr
     refine AWp.last ⟨[⟨6, none, .sl ((appL s1.2.1 [r2.2]).map (encL Tc.enc)) (.own 2 (γ1 + 1) 1)⟩, ⟨14, none, .sl (x1.map Ta.enc) .no⟩, ⟨15, none, .n (lenL x1)⟩, ⟨16, none, .n s1.1⟩, ⟨2, none, .ptr 0 0⟩, ⟨4, none, .ptr 1 0⟩], [.blk (r1.1.ff.enc ++ [.n r1.1.fh] ++ r1.1.fm.enc ++ r2.1.enc ++ [.sl (r1.1.fL.map Tj.enc) .no, .n r1.1.fq, .n (addI .i64 r1.1.fo 1)]), .blk [.b false, .n 0, .n 0, .n 0, .n 0, .n 0, .n 0, .n 0, .b false, .n 0, .sl [] .full, .n 0, .b false, .n 0, .n 0, .n 0, .sl [] .full, .n 0, .n 0, .sl [] .full, .n 0, .n 0], .room (γ1 + 1), .blk (nthI x1 s1.1).enc, .blk (r1.1.ff.enc ++ [.n r1.1.fh] ++ r1.1.fm.enc ++ r2.1.enc ++ [.sl (r1.1.fL.map Tj.enc) .no, .n r1.1.fq, .n r1.1.fo]), .blk r1.2.enc, .blk r2.1.enc]⟩ (AWp.reg Tryz.tyOk hΓ [] [46] (by kernel_rfl) rfl (by simp [h16])) ?_
     refine AWp.last ⟨[⟨16, none, .n (addI .i64 s1.1 1)⟩, ⟨6, none, .sl ((appL s1.2.1 [r2.2]).map (encL Tc.enc)) (.own 2 (γ1 + 1) 1)⟩, ⟨14, none, .sl (x1.map Ta.enc) .no⟩, ⟨15, none, .n (lenL x1)⟩, ⟨2, none, .ptr 0 0⟩, ⟨4, none, .ptr 1 0⟩], [.blk (r1.1.ff.enc ++ [.n r1.1.fh] ++ r1.1.fm.enc ++ r2.1.enc ++ [.sl (r1.1.fL.map Tj.enc) .no, .n r1.1.fq, .n (addI .i64 r1.1.fo 1)]), .blk [.b false, .n 0, .n 0, .n 0, .n 0, .n 0, .n 0, .n 0, .b false, .n 0, .sl [] .full, .n 0, .b false, .n 0, .n 0, .n 0, .sl [] .full, .n 0, .n 0, .sl [] .full, .n 0, .n 0], .room (γ1 + 1), .blk (nthI x1 s1.1).enc, .blk (r1.1.ff.enc ++ [.n r1.1.fh] ++ r1.1.fm.enc ++ r2.1.enc ++ [.sl (r1.1.fL.map Tj.enc) .no, .n r1.1.fq, .n r1.1.fo]), .blk r1.2.enc, .blk r2.1.enc]⟩ (AWp.reg Tryz.tyOk hΓ [16] [] (by kernel_rfl) rfl (by simp)) ?_
     obtain rfl := La hr
     exact Lq (γ1 + 1) 3 (by first | (simp; done) | simp [h9, h10, h11, h12, h13, h14, h15, h16])
    ·have hr := Lj h16 hr
     refine AWp.skip ?_
     refine AWp.last ⟨[⟨16, none, .n (addI .i64 s1.1 1)⟩, ⟨6, none, .sl ((appL s1.2.1 [r2.2]).map (encL Tc.enc)) (.own 2 (γ1 + 1) 1)⟩, ⟨14, none, .sl (x1.map Ta.enc) .no⟩, ⟨15, none, .n (lenL x1)⟩, ⟨2, none, .ptr 0 0⟩, ⟨4, none, .ptr 1 0⟩], [.blk (r1.1.ff.enc ++ [.n r1.1.fh] ++ r1.1.fm.enc ++ r2.1.enc ++ [.sl (r1.1.fL.map Tj.enc) .no, .n r1.1.fq, .n r1.1.fo]), .blk [.b false, .n 0, .n 0, .n 0, .n 0, .n 0, .n 0, .n 0, .b false, .n 0, .sl [] .full, .n 0, .b false, .n 0, .n 0, .n 0, .sl [] .full, .n 0, .n 0, .sl [] .full, .n 0, .n 0], .room (γ1 + 1), .blk (nthI x1 s1.1).enc, .blk (r1.1.ff.enc ++ [.n r1.1.fh] ++ r1.1.fm.enc ++ r2.1.enc ++ [.sl (r1.1.fL.map Tj.enc) .no, .n r1.1.fq, .n r1.1.fo]), .blk r1.2.enc, .blk r2.1.enc]⟩ (AWp.reg Tryz.tyOk hΓ [16] [46] (by kernel_rfl) rfl (by simp [h16])) ?_
     obtain rfl := La hr
     exact Lq (γ1 + 1) 3 (by first | (simp; done) | simp [h9, h10, h11, h12, h13, h14, h15, h16])
   ·have hr := Lj h13 hr
    refine AWp.skip ?_
    refine AWp.last ⟨[⟨16, none, .n (addI .i64 s1.1 1)⟩, ⟨14, none, .sl (x1.map Ta.enc) .no⟩, ⟨15, none, .n (lenL x1)⟩, ⟨6, none, .sl (s1.2.1.map (encL Tc.enc)) (.own 2 (γ1) 1)⟩, ⟨2, none, .ptr 0 0⟩, ⟨4, none, .ptr 1 0⟩], [.blk (r1.1.ff.enc ++ [.n r1.1.fh] ++ r1.1.fm.enc ++ r2.1.enc ++ [.sl (r1.1.fL.map Tj.enc) .no, .n r1.1.fq, .n r1.1.fo]), .blk [.b false, .n 0, .n 0, .n 0, .n 0, .n 0, .n 0, .n 0, .b false, .n 0, .sl [] .full, .n 0, .b false, .n 0, .n 0, .n 0, .sl [] .full, .n 0, .n 0, .sl [] .full, .n 0, .n 0], .room (γ1), .blk (nthI x1 s1.1).enc, .blk (r1.1.ff.enc ++ [.n r1.1.fh] ++ r1.1.fm.enc ++ r2.1.enc ++ [.sl (r1.1.fL.map Tj.enc) .no, .n r1.1.fq, .n r1.1.fo]), .blk r1.2.enc, .blk r2.1.enc]⟩ (AWp.reg Tryz.tyOk hΓ [16] [38, 12] (by kernel_rfl) rfl (by simp [h13])) ?_
    obtain rfl := La hr
    exact Lq (γ1) 3 (by first | (simp; done) | simp [h9, h10, h11, h12, h13])
  ·have hr := Lj h9 hr
   refine AWp.exit ?_
   obtain rfl := La hr
   exact Lo (γ1) 3 (by first | (simp; done) | simp [h9])
 ·refine AWp.conv hc ?_
  refine AWp.then ⟨[⟨5, none, .sl (v1.1.map (encL Tc.enc)) (.own 2 (γ1a) 1)⟩, ⟨4, none, .ptr 1 0⟩], [.blk v1.2.enc, .blk v1.2.enc, .room (γ1a)]⟩ (AWp.reg Tryz.tyOk hΓ [5] [6, 2] (by kernel_rfl) rfl (by simp)) ?_
  refine AWp.ret ?_
  obtain rfl := La hr
  refine Lf ?_
  simp

@[simp] noncomputable def gG.S : Sp
 | [.agg e0, .sl e1 _], _ => (fun (y0 : Td) => (fun (r : Td × List (List Tc)) => some { av := .tup [.agg [.lit (.bool (r.1.ff.fd)), .lit (.int .i64 (r.1.ff.fk)), .lit (.int .i64 (r.1.ff.fV)), .lit (.int .i64 (r.1.ff.fK)), .lit (.int .i64 (r.1.ff.fA)), .lit (.int .i64 (r.1.fh)), .lit (.int .i64 (r.1.fm.fk)), .lit (.int .i64 (r.1.fm.fp)), .lit (.bool (r.1.fm.fd)), .lit (.int .i64 (r.1.fm.fg)), .sl ((r.1.fm.fL).map Ta.enc) .no, .lit (.int .i64 (r.1.fm.fe)), .lit (.bool (r.1.fc.fu)), .lit (.int .i64 (r.1.fc.fw)), .lit (.int .i64 (r.1.fc.fj)), .lit (.int .i64 (r.1.fc.fp)), .sl ((r.1.fc.fv).map Tc.enc) .no, .lit (.int .i64 (r.1.fc.fy)), .lit (.int .i64 (r.1.fc.fe)), .sl ((r.1.fL).map Tj.enc) .no, .lit (.int .i64 (r.1.fq)), .lit (.int .i64 (r.1.fo))], .sl ((r.2).map (encL Tc.enc)) .no], M := none, obl := WeakL e0 (Td.enc y0) ∧ e1 = (e1.map Ta.dec).map Ta.enc ∧ (gG y0 (e1.map Ta.dec)).isSome = true }) ((gG y0 (e1.map Ta.dec)).getD dflt)) (Td.dec e0)
 | _, _ => none

theorem gG.ok : SpecOk Tryz.prog 29 gG.S := by
 intro l M out h
 unfold gG.S at h
 split at h
 ·rename_i e0 e1 k1
  try dsimp only at h
  cases h
  refine callOk_of fun ho => ?_
  obtain ⟨ox0, ox1, hs⟩ := ho
  generalize (Td.dec e0) = x0 at *
  generalize (e1.map Ta.dec) = x1 at *
  subst ox1
  obtain ⟨r, hr⟩ := Option.isSome_iff_exists.1 hs
  simp only [hr, Option.getD_some]
  have q := Lg (M := M) [] (gG.can x0 x1 r hr) (by simp) rfl (by intro k i hk; simp at hk)
  exact callOk_conv q trivial (by simp; exact ox0) (by simp [frameOut, gG.out]) (by simp [frameOut, gG.out])
 ·cases h

@[simp] def gaN.out (_x0 : Td) (_x1 : Tb) (_x2 : Int) (r : Td × List (List Tc) × Int) : Out := { av := .tup [.agg [.lit (.bool r.1.ff.fd), .lit (.int .i64 r.1.ff.fk), .lit (.int .i64 r.1.ff.fV), .lit (.int .i64 r.1.ff.fK), .lit (.int .i64 r.1.ff.fA), .lit (.int .i64 r.1.fh), .lit (.int .i64 r.1.fm.fk), .lit (.int .i64 r.1.fm.fp), .lit (.bool r.1.fm.fd), .lit (.int .i64 r.1.fm.fg), .sl (r.1.fm.fL.map Ta.enc) .no, .lit (.int .i64 r.1.fm.fe), .lit (.bool r.1.fc.fu), .lit (.int .i64 r.1.fc.fw), .lit (.int .i64 r.1.fc.fj), .lit (.int .i64 r.1.fc.fp), .sl (r.1.fc.fv.map Tc.enc) .no, .lit (.int .i64 r.1.fc.fy), .lit (.int .i64 r.1.fc.fe), .sl (r.1.fL.map Tj.enc) .no, .lit (.int .i64 r.1.fq), .lit (.int .i64 r.1.fo)], .sl (r.2.1.map (encL Tc.enc)) .no, .lit (.int .i64 r.2.2)], M := none }
theorem gaN.can (x0 : Td) (x1 : Tb) (x2 : Int) (r : Td × List (List Tc) × Int) (hr : gaN x0 x1 x2 = some r) : CallOk Tryz.prog 10 [.agg [.lit (.bool x0.ff.fd), .lit (.int .i64 x0.ff.fk), .lit (.int .i64 x0.ff.fV), .lit (.int .i64 x0.ff.fK), .lit (.int .i64 x0.ff.fA), .lit (.int .i64 x0.fh), .lit (.int .i64 x0.fm.fk), .lit (.int .i64 x0.fm.fp), .lit (.bool x0.fm.fd), .lit (.int .i64 x0.fm.fg), .sl (x0.fm.fL.map Ta.enc) .no, .lit (.int .i64 x0.fm.fe), .lit (.bool x0.fc.fu), .lit (.int .i64 x0.fc.fw), .lit (.int .i64 x0.fc.fj), .lit (.int .i64 x0.fc.fp), .sl (x0.fc.fv.map Tc.enc) .no, .lit (.int .i64 x0.fc.fy), .lit (.int .i64 x0.fc.fe), .sl (x0.fL.map Tj.enc) .no, .lit (.int .i64 x0.fq), .lit (.int .i64 x0.fo)], .agg [.lit (.bool x1.fC), .lit (.int .u8 x1.fac), .lit (.int .u16 x1.ff), .lit (.int .u32 x1.fT), .lit (.int .u32 x1.fad), .sl (x1.fab.map (eNum .u32)) .no, .lit (.bool x1.faf), .lit (.int .u16 x1.fZ), .lit (.string x1.fae), .lit (.string x1.fF), .lit (.int .i64 x1.faa)], .lit (.int .i64 x2)] [] (gaN.out x0 x1 x2 r) := by
 unfold gaN at hr
 have hΓ := (gamL_cons gaI.ok (gamL_cons gB.ok (gamL_cons gG.ok (gamL_nil))) : GamOk Tryz.prog _)
 refine Le Tryz.tyOk Tryz.func10 rfl (by kernel_rfl) rfl rfl (by simp) ?_
 intro _ _ _
 refine AWp.then ⟨[⟨3, none, .ptr 0 0⟩, ⟨4, none, .ptr 1 0⟩, ⟨6, none, .ptr 2 0⟩, ⟨2, none, .n x2⟩], [.blk x0.enc, .blk x1.enc, .blk [.b false, .n 0, .n 0, .n 0, .n 0, .n 0, .n 0, .n 0, .b false, .n 0, .sl [] .full, .n 0, .b false, .n 0, .n 0, .n 0, .sl [] .full, .n 0, .n 0, .sl [] .full, .n 0, .n 0]]⟩ (AWp.reg Tryz.tyOk hΓ [3, 4, 6] [0, 1] (by kernel_rfl) rfl (by simp)) ?_
 obtain ⟨r1, h8, hr⟩ := Lb hr
 refine AWp.then ⟨[⟨9, none, .ptr 3 0⟩, ⟨10, none, .n r1.2.1⟩, ⟨11, none, .b r1.2.2⟩, ⟨3, none, .ptr 0 0⟩, ⟨4, none, .ptr 1 0⟩, ⟨6, none, .ptr 2 0⟩, ⟨2, none, .n x2⟩], [.blk x0.enc, .blk x1.enc, .blk [.b false, .n 0, .n 0, .n 0, .n 0, .n 0, .n 0, .n 0, .b false, .n 0, .sl [] .full, .n 0, .b false, .n 0, .n 0, .n 0, .sl [] .full, .n 0, .n 0, .sl [] .full, .n 0, .n 0], .blk r1.1.enc]⟩ (AWp.reg Tryz.tyOk hΓ [9, 10, 11] [] (by kernel_rfl) rfl (by simp [h8])) ?_
 refine AWp.then ⟨[⟨10, none, .n r1.2.1⟩, ⟨11, none, .b r1.2.2⟩, ⟨3, none, .ptr 0 0⟩, ⟨4, none, .ptr 1 0⟩, ⟨6, none, .ptr 2 0⟩, ⟨2, none, .n x2⟩], [.blk (r1.1.enc ++ [.n x0.fh] ++ x0.fm.enc ++ x0.fc.enc ++ [.sl (x0.fL.map Tj.enc) .no, .n x0.fq, .n x0.fo]), .blk x1.enc, .blk [.b false, .n 0, .n 0, .n 0, .n 0, .n 0, .n 0, .n 0, .b false, .n 0, .sl [] .full, .n 0, .b false, .n 0, .n 0, .n 0, .sl [] .full, .n 0, .n 0, .sl [] .full, .n 0, .n 0], .blk r1.1.enc]⟩ (AWp.reg Tryz.tyOk hΓ [] [9] (by kernel_rfl) rfl (by simp)) ?_
 refine AWp.seq ?_
 refine AWp.then ⟨[⟨30, none, .b (notB r1.2.2)⟩, ⟨10, none, .n r1.2.1⟩, ⟨3, none, .ptr 0 0⟩, ⟨4, none, .ptr 1 0⟩, ⟨6, none, .ptr 2 0⟩, ⟨2, none, .n x2⟩], [.blk (r1.1.enc ++ [.n x0.fh] ++ x0.fm.enc ++ x0.fc.enc ++ [.sl (x0.fL.map Tj.enc) .no, .n x0.fq, .n x0.fo]), .blk x1.enc, .blk [.b false, .n 0, .n 0, .n 0, .n 0, .n 0, .n 0, .n 0, .b false, .n 0, .sl [] .full, .n 0, .b false, .n 0, .n 0, .n 0, .sl [] .full, .n 0, .n 0, .sl [] .full, .n 0, .n 0], .blk r1.1.enc]⟩ (AWp.reg Tryz.tyOk hΓ [30] [11] (by kernel_rfl) rfl (by simp)) ?_
 refine AWp.cond (b := (notB r1.2.2)) (by simp) (fun h9 => ?_) (fun h9 => ?_)
 ·have hr := Li h9 hr
  refine AWp.then ⟨[⟨3, none, .ptr 0 0⟩, ⟨6, none, .ptr 2 0⟩], [.blk (r1.1.enc ++ [.n x0.fh] ++ x0.fm.enc ++ x0.fc.enc ++ [.sl (x0.fL.map Tj.enc) .no, .n (addI .i64 x0.fq 1), .n x0.fo]), .blk x1.enc, .blk [.b false, .n 0, .n 0, .n 0, .n 0, .n 0, .n 0, .n 0, .b false, .n 0, .sl [] .full, .n 0, .b false, .n 0, .n 0, .n 0, .sl [] .full, .n 0, .n 0, .sl [] .full, .n 0, .n 0], .blk r1.1.enc]⟩ (AWp.reg Tryz.tyOk hΓ [] [30, 10, 4, 2] (by kernel_rfl) rfl (by simp [h9])) ?_
  refine AWp.then ⟨[⟨7, none, .sl [] .full⟩, ⟨8, none, .n 13⟩, ⟨6, none, .ptr 2 0⟩], [.blk (r1.1.enc ++ [.n x0.fh] ++ x0.fm.enc ++ x0.fc.enc ++ [.sl (x0.fL.map Tj.enc) .no, .n (addI .i64 x0.fq 1), .n x0.fo]), .blk x1.enc, .blk (r1.1.enc ++ [.n x0.fh] ++ x0.fm.enc ++ x0.fc.enc ++ [.sl (x0.fL.map Tj.enc) .no, .n (addI .i64 x0.fq 1), .n x0.fo]), .blk r1.1.enc]⟩ (AWp.reg Tryz.tyOk hΓ [7, 8] [3] (by kernel_rfl) rfl (by simp)) ?_
  refine AWp.ret ?_
  obtain rfl := La hr
  refine Lf ?_
  simp
 ·have hr := Lj h9 hr
  refine AWp.skip ?_
  obtain ⟨r2, h10, hr⟩ := Lb hr
  refine AWp.then ⟨[⟨12, none, .ptr 4 0⟩, ⟨13, none, .sl (r2.2.1.map Ta.enc) .no⟩, ⟨14, none, .n r2.2.2⟩, ⟨10, none, .n r1.2.1⟩, ⟨3, none, .ptr 0 0⟩, ⟨4, none, .ptr 1 0⟩, ⟨6, none, .ptr 2 0⟩], [.blk (r1.1.enc ++ [.n x0.fh] ++ x0.fm.enc ++ x0.fc.enc ++ [.sl (x0.fL.map Tj.enc) .no, .n x0.fq, .n x0.fo]), .blk x1.enc, .blk [.b false, .n 0, .n 0, .n 0, .n 0, .n 0, .n 0, .n 0, .b false, .n 0, .sl [] .full, .n 0, .b false, .n 0, .n 0, .n 0, .sl [] .full, .n 0, .n 0, .sl [] .full, .n 0, .n 0], .blk r1.1.enc, .blk r2.1.enc]⟩ (AWp.reg Tryz.tyOk hΓ [12, 13, 14] [30, 2] (by kernel_rfl) rfl (by simp [h9, h10])) ?_
  refine AWp.then ⟨[⟨13, none, .sl (r2.2.1.map Ta.enc) .no⟩, ⟨14, none, .n r2.2.2⟩, ⟨10, none, .n r1.2.1⟩, ⟨3, none, .ptr 0 0⟩, ⟨4, none, .ptr 1 0⟩, ⟨6, none, .ptr 2 0⟩], [.blk (r1.1.enc ++ [.n x0.fh] ++ r2.1.enc ++ x0.fc.enc ++ [.sl (x0.fL.map Tj.enc) .no, .n x0.fq, .n x0.fo]), .blk x1.enc, .blk [.b false, .n 0, .n 0, .n 0, .n 0, .n 0, .n 0, .n 0, .b false, .n 0, .sl [] .full, .n 0, .b false, .n 0, .n 0, .n 0, .sl [] .full, .n 0, .n 0, .sl [] .full, .n 0, .n 0], .blk r1.1.enc, .blk r2.1.enc]⟩ (AWp.reg Tryz.tyOk hΓ [] [12] (by kernel_rfl) rfl (by simp)) ?_
  refine AWp.seq ?_
  refine AWp.then ⟨[⟨49, none, .b (neI r2.2.2 0)⟩, ⟨13, none, .sl (r2.2.1.map Ta.enc) .no⟩, ⟨14, none, .n r2.2.2⟩, ⟨10, none, .n r1.2.1⟩, ⟨3, none, .ptr 0 0⟩, ⟨4, none, .ptr 1 0⟩, ⟨6, none, .ptr 2 0⟩], [.blk (r1.1.enc ++ [.n x0.fh] ++ r2.1.enc ++ x0.fc.enc ++ [.sl (x0.fL.map Tj.enc) .no, .n x0.fq, .n x0.fo]), .blk x1.enc, .blk [.b false, .n 0, .n 0, .n 0, .n 0, .n 0, .n 0, .n 0, .b false, .n 0, .sl [] .full, .n 0, .b false, .n 0, .n 0, .n 0, .sl [] .full, .n 0, .n 0, .sl [] .full, .n 0, .n 0], .blk r1.1.enc, .blk r2.1.enc]⟩ (AWp.reg Tryz.tyOk hΓ [49] [] (by kernel_rfl) rfl (by simp)) ?_
  refine AWp.cond (b := (neI r2.2.2 0)) (by simp) (fun h11 => ?_) (fun h11 => ?_)
  ·have hr := Li h11 hr
   refine AWp.then ⟨[⟨14, none, .n r2.2.2⟩, ⟨3, none, .ptr 0 0⟩, ⟨6, none, .ptr 2 0⟩], [.blk (r1.1.enc ++ [.n x0.fh] ++ r2.1.enc ++ x0.fc.enc ++ [.sl (x0.fL.map Tj.enc) .no, .n (addI .i64 x0.fq 1), .n x0.fo]), .blk x1.enc, .blk [.b false, .n 0, .n 0, .n 0, .n 0, .n 0, .n 0, .n 0, .b false, .n 0, .sl [] .full, .n 0, .b false, .n 0, .n 0, .n 0, .sl [] .full, .n 0, .n 0, .sl [] .full, .n 0, .n 0], .blk r1.1.enc, .blk r2.1.enc]⟩ (AWp.reg Tryz.tyOk hΓ [] [49, 13, 10, 4] (by kernel_rfl) rfl (by simp [h11])) ?_
   refine AWp.then ⟨[⟨7, none, .sl [] .full⟩, ⟨8, none, .n r2.2.2⟩, ⟨6, none, .ptr 2 0⟩], [.blk (r1.1.enc ++ [.n x0.fh] ++ r2.1.enc ++ x0.fc.enc ++ [.sl (x0.fL.map Tj.enc) .no, .n (addI .i64 x0.fq 1), .n x0.fo]), .blk x1.enc, .blk (r1.1.enc ++ [.n x0.fh] ++ r2.1.enc ++ x0.fc.enc ++ [.sl (x0.fL.map Tj.enc) .no, .n (addI .i64 x0.fq 1), .n x0.fo]), .blk r1.1.enc, .blk r2.1.enc]⟩ (AWp.reg Tryz.tyOk hΓ [7, 8] [14, 3] (by kernel_rfl) rfl (by simp)) ?_
   refine AWp.ret ?_
   obtain rfl := La hr
   refine Lf ?_
   simp
  ·have hr := Lj h11 hr
   refine AWp.skip ?_
   obtain ⟨h12, hr⟩ := Lc hr
   obtain ⟨h13, hr⟩ := Lc hr
   refine AWp.then ⟨[⟨13, none, .sl (r2.2.1.map Ta.enc) .no⟩, ⟨3, none, .ptr 0 0⟩, ⟨6, none, .ptr 2 0⟩], [.blk (r1.1.enc ++ [.n x0.fh] ++ r2.1.enc ++ x0.fc.enc ++ [.sl ((appL (appL [] x0.fL) [(Tj.mk r1.2.1 x1)]).map Tj.enc) (.own 5 2 12), .n x0.fq, .n x0.fo]), .blk x1.enc, .blk [.b false, .n 0, .n 0, .n 0, .n 0, .n 0, .n 0, .n 0, .b false, .n 0, .sl [] .full, .n 0, .b false, .n 0, .n 0, .n 0, .sl [] .full, .n 0, .n 0, .sl [] .full, .n 0, .n 0], .blk r1.1.enc, .blk r2.1.enc, .room 2]⟩ (AWp.regD Tryz.mixed Tryz.tyOk hΓ [] [49, 14, 10, 4] [(4, 0), (5, 0), (6, 0), (7, 0)] [(false, []), (false, []), (false, []), (true, []), (false, []), (false, []), (false, []), (false, []), (true, []), (false, []), (true, [])] (by kernel_rfl) rfl (by simp [h11, h12, h13])) ?_
   obtain ⟨r3, h14, hr⟩ := Lb hr
   refine AWp.then ⟨[⟨15, none, .ptr 6 0⟩, ⟨16, none, .sl (r3.2.map (encL Tc.enc)) .no⟩, ⟨6, none, .ptr 2 0⟩], [.blk (r1.1.enc ++ [.n x0.fh] ++ r2.1.enc ++ x0.fc.enc ++ [.sl ((appL (appL [] x0.fL) [(Tj.mk r1.2.1 x1)]).map Tj.enc) (.own 5 2 12), .n x0.fq, .n x0.fo]), .blk x1.enc, .blk [.b false, .n 0, .n 0, .n 0, .n 0, .n 0, .n 0, .n 0, .b false, .n 0, .sl [] .full, .n 0, .b false, .n 0, .n 0, .n 0, .sl [] .full, .n 0, .n 0, .sl [] .full, .n 0, .n 0], .blk r1.1.enc, .blk r2.1.enc, .room 2, .blk r3.1.enc]⟩ (AWp.reg Tryz.tyOk hΓ [15, 16] [13, 3] (by kernel_rfl) rfl (by simp [h14])) ?_
   refine AWp.then ⟨[⟨7, none, .sl (r3.2.map (encL Tc.enc)) .no⟩, ⟨8, none, .n 0⟩, ⟨6, none, .ptr 2 0⟩], [.blk (r1.1.enc ++ [.n x0.fh] ++ r2.1.enc ++ x0.fc.enc ++ [.sl ((appL (appL [] x0.fL) [(Tj.mk r1.2.1 x1)]).map Tj.enc) (.own 5 2 12), .n x0.fq, .n x0.fo]), .blk x1.enc, .blk r3.1.enc, .blk r1.1.enc, .blk r2.1.enc, .room 2, .blk r3.1.enc]⟩ (AWp.reg Tryz.tyOk hΓ [7, 8] [15, 16] (by kernel_rfl) rfl (by simp)) ?_
   refine AWp.ret ?_
   obtain rfl := La hr
   refine Lf ?_
   simp

@[simp] noncomputable def gaN.S : Sp
 | [.agg e0, .agg e1, .lit (.int .i64 x2)], _ => (fun (y0 : Td) => (fun (y1 : Tb) => (fun (r : Td × List (List Tc) × Int) => some { av := .tup [.agg [.lit (.bool (r.1.ff.fd)), .lit (.int .i64 (r.1.ff.fk)), .lit (.int .i64 (r.1.ff.fV)), .lit (.int .i64 (r.1.ff.fK)), .lit (.int .i64 (r.1.ff.fA)), .lit (.int .i64 (r.1.fh)), .lit (.int .i64 (r.1.fm.fk)), .lit (.int .i64 (r.1.fm.fp)), .lit (.bool (r.1.fm.fd)), .lit (.int .i64 (r.1.fm.fg)), .sl ((r.1.fm.fL).map Ta.enc) .no, .lit (.int .i64 (r.1.fm.fe)), .lit (.bool (r.1.fc.fu)), .lit (.int .i64 (r.1.fc.fw)), .lit (.int .i64 (r.1.fc.fj)), .lit (.int .i64 (r.1.fc.fp)), .sl ((r.1.fc.fv).map Tc.enc) .no, .lit (.int .i64 (r.1.fc.fy)), .lit (.int .i64 (r.1.fc.fe)), .sl ((r.1.fL).map Tj.enc) .no, .lit (.int .i64 (r.1.fq)), .lit (.int .i64 (r.1.fo))], .sl ((r.2.1).map (encL Tc.enc)) .no, .lit (.int .i64 (r.2.2))], M := none, obl := WeakL e0 (Td.enc y0) ∧ WeakL e1 (Tb.enc y1) ∧ (gaN y0 y1 x2).isSome = true }) ((gaN y0 y1 x2).getD dflt)) (Tb.dec e1)) (Td.dec e0)
 | _, _ => none

theorem gaN.ok : SpecOk Tryz.prog 10 gaN.S := by
 intro l M out h
 unfold gaN.S at h
 split at h
 ·rename_i e0 e1 x2
  try dsimp only at h
  cases h
  refine callOk_of fun ho => ?_
  obtain ⟨ox0, ox1, hs⟩ := ho
  generalize (Td.dec e0) = x0 at *
  generalize (Tb.dec e1) = x1 at *
  obtain ⟨r, hr⟩ := Option.isSome_iff_exists.1 hs
  simp only [hr, Option.getD_some]
  have q := Lg (M := M) [] (gaN.can x0 x1 x2 r hr) (by simp) rfl (by intro k i hk; simp at hk)
  exact callOk_conv q trivial (by simp; exact ⟨ox0, ox1⟩) (by simp [frameOut, gaN.out]) (by simp [frameOut, gaN.out])
 ·cases h

@[simp] def gaD.out (_x0 : Td) (_x1 : Int) (r : Td × List (List Tc)) : Out := { av := .tup [.agg [.lit (.bool r.1.ff.fd), .lit (.int .i64 r.1.ff.fk), .lit (.int .i64 r.1.ff.fV), .lit (.int .i64 r.1.ff.fK), .lit (.int .i64 r.1.ff.fA), .lit (.int .i64 r.1.fh), .lit (.int .i64 r.1.fm.fk), .lit (.int .i64 r.1.fm.fp), .lit (.bool r.1.fm.fd), .lit (.int .i64 r.1.fm.fg), .sl (r.1.fm.fL.map Ta.enc) .no, .lit (.int .i64 r.1.fm.fe), .lit (.bool r.1.fc.fu), .lit (.int .i64 r.1.fc.fw), .lit (.int .i64 r.1.fc.fj), .lit (.int .i64 r.1.fc.fp), .sl (r.1.fc.fv.map Tc.enc) .no, .lit (.int .i64 r.1.fc.fy), .lit (.int .i64 r.1.fc.fe), .sl (r.1.fL.map Tj.enc) .no, .lit (.int .i64 r.1.fq), .lit (.int .i64 r.1.fo)], .sl (r.2.map (encL Tc.enc)) .no], M := none }
theorem gaD.can (x0 : Td) (x1 : Int) (r : Td × List (List Tc)) (hr : gaD x0 x1 = some r) : CallOk Tryz.prog 13 [.agg [.lit (.bool x0.ff.fd), .lit (.int .i64 x0.ff.fk), .lit (.int .i64 x0.ff.fV), .lit (.int .i64 x0.ff.fK), .lit (.int .i64 x0.ff.fA), .lit (.int .i64 x0.fh), .lit (.int .i64 x0.fm.fk), .lit (.int .i64 x0.fm.fp), .lit (.bool x0.fm.fd), .lit (.int .i64 x0.fm.fg), .sl (x0.fm.fL.map Ta.enc) .no, .lit (.int .i64 x0.fm.fe), .lit (.bool x0.fc.fu), .lit (.int .i64 x0.fc.fw), .lit (.int .i64 x0.fc.fj), .lit (.int .i64 x0.fc.fp), .sl (x0.fc.fv.map Tc.enc) .no, .lit (.int .i64 x0.fc.fy), .lit (.int .i64 x0.fc.fe), .sl (x0.fL.map Tj.enc) .no, .lit (.int .i64 x0.fq), .lit (.int .i64 x0.fo)], .lit (.int .i64 x1)] [] (gaD.out x0 x1 r) := by
 unfold gaD at hr
 have hΓ := (gamL_cons gag.ok (gamL_cons gaH.ok (gamL_cons gG.ok (gamL_nil))) : GamOk Tryz.prog _)
 refine Le Tryz.tyOk Tryz.func13 rfl (by kernel_rfl) rfl rfl (by simp) ?_
 intro _ _ _
 refine AWp.then ⟨[⟨2, none, .ptr 0 0⟩, ⟨4, none, .ptr 1 0⟩, ⟨1, none, .n x1⟩], [.blk x0.enc, .blk [.b false, .n 0, .n 0, .n 0, .n 0, .n 0, .n 0, .n 0, .b false, .n 0, .sl [] .full, .n 0, .b false, .n 0, .n 0, .n 0, .sl [] .full, .n 0, .n 0, .sl [] .full, .n 0, .n 0]]⟩ (AWp.reg Tryz.tyOk hΓ [2, 4] [0] (by kernel_rfl) rfl (by simp)) ?_
 obtain ⟨r1, h4, hr⟩ := Lb hr
 refine AWp.then ⟨[⟨6, none, .ptr 2 0⟩, ⟨7, none, .sl (r1.2.map Ta.enc) .no⟩, ⟨2, none, .ptr 0 0⟩, ⟨4, none, .ptr 1 0⟩, ⟨1, none, .n x1⟩], [.blk x0.enc, .blk [.b false, .n 0, .n 0, .n 0, .n 0, .n 0, .n 0, .n 0, .b false, .n 0, .sl [] .full, .n 0, .b false, .n 0, .n 0, .n 0, .sl [] .full, .n 0, .n 0, .sl [] .full, .n 0, .n 0], .blk r1.1.enc]⟩ (AWp.reg Tryz.tyOk hΓ [6, 7] [] (by kernel_rfl) rfl (by simp [h4])) ?_
 refine AWp.then ⟨[⟨7, none, .sl (r1.2.map Ta.enc) .no⟩, ⟨2, none, .ptr 0 0⟩, ⟨4, none, .ptr 1 0⟩, ⟨1, none, .n x1⟩], [.blk (x0.ff.enc ++ [.n x0.fh] ++ r1.1.enc ++ x0.fc.enc ++ [.sl (x0.fL.map Tj.enc) .no, .n x0.fq, .n x0.fo]), .blk [.b false, .n 0, .n 0, .n 0, .n 0, .n 0, .n 0, .n 0, .b false, .n 0, .sl [] .full, .n 0, .b false, .n 0, .n 0, .n 0, .sl [] .full, .n 0, .n 0, .sl [] .full, .n 0, .n 0], .blk r1.1.enc]⟩ (AWp.reg Tryz.tyOk hΓ [] [6] (by kernel_rfl) rfl (by simp)) ?_
 obtain ⟨r2, h5, hr⟩ := Lb hr
 refine AWp.then ⟨[⟨8, none, .ptr 3 0⟩, ⟨9, none, .sl (r2.2.map (encL Tc.enc)) .no⟩, ⟨4, none, .ptr 1 0⟩, ⟨1, none, .n x1⟩], [.blk (x0.ff.enc ++ [.n x0.fh] ++ r1.1.enc ++ x0.fc.enc ++ [.sl (x0.fL.map Tj.enc) .no, .n x0.fq, .n x0.fo]), .blk [.b false, .n 0, .n 0, .n 0, .n 0, .n 0, .n 0, .n 0, .b false, .n 0, .sl [] .full, .n 0, .b false, .n 0, .n 0, .n 0, .sl [] .full, .n 0, .n 0, .sl [] .full, .n 0, .n 0], .blk r1.1.enc, .blk r2.1.enc]⟩ (AWp.reg Tryz.tyOk hΓ [8, 9] [7, 2] (by kernel_rfl) rfl (by simp [h5])) ?_
 obtain ⟨r3, h6, hr⟩ := Lb hr
 refine AWp.then ⟨[⟨10, none, .ptr 4 0⟩, ⟨8, none, .ptr 3 0⟩, ⟨9, none, .sl (r2.2.map (encL Tc.enc)) .no⟩, ⟨4, none, .ptr 1 0⟩], [.blk (x0.ff.enc ++ [.n x0.fh] ++ r1.1.enc ++ x0.fc.enc ++ [.sl (x0.fL.map Tj.enc) .no, .n x0.fq, .n x0.fo]), .blk [.b false, .n 0, .n 0, .n 0, .n 0, .n 0, .n 0, .n 0, .b false, .n 0, .sl [] .full, .n 0, .b false, .n 0, .n 0, .n 0, .sl [] .full, .n 0, .n 0, .sl [] .full, .n 0, .n 0], .blk r1.1.enc, .blk r2.1.enc, .blk r3.1.enc]⟩ (AWp.reg Tryz.tyOk hΓ [10] [1] (by kernel_rfl) rfl (by simp [h6])) ?_
 refine AWp.then ⟨[⟨8, none, .ptr 3 0⟩, ⟨9, none, .sl (r2.2.map (encL Tc.enc)) .no⟩, ⟨4, none, .ptr 1 0⟩], [.blk (x0.ff.enc ++ [.n x0.fh] ++ r1.1.enc ++ x0.fc.enc ++ [.sl (x0.fL.map Tj.enc) .no, .n x0.fq, .n x0.fo]), .blk [.b false, .n 0, .n 0, .n 0, .n 0, .n 0, .n 0, .n 0, .b false, .n 0, .sl [] .full, .n 0, .b false, .n 0, .n 0, .n 0, .sl [] .full, .n 0, .n 0, .sl [] .full, .n 0, .n 0], .blk r1.1.enc, .blk (r2.1.ff.enc ++ [.n r2.1.fh] ++ r2.1.fm.enc ++ r3.1.enc ++ [.sl (r2.1.fL.map Tj.enc) .no, .n r2.1.fq, .n r2.1.fo]), .blk r3.1.enc]⟩ (AWp.reg Tryz.tyOk hΓ [] [10] (by kernel_rfl) rfl (by simp)) ?_
 refine AWp.then ⟨[⟨5, none, .sl (r2.2.map (encL Tc.enc)) .no⟩, ⟨4, none, .ptr 1 0⟩], [.blk (x0.ff.enc ++ [.n x0.fh] ++ r1.1.enc ++ x0.fc.enc ++ [.sl (x0.fL.map Tj.enc) .no, .n x0.fq, .n x0.fo]), .blk (r2.1.ff.enc ++ [.n r2.1.fh] ++ r2.1.fm.enc ++ r3.1.enc ++ [.sl (r2.1.fL.map Tj.enc) .no, .n r2.1.fq, .n r2.1.fo]), .blk r1.1.enc, .blk (r2.1.ff.enc ++ [.n r2.1.fh] ++ r2.1.fm.enc ++ r3.1.enc ++ [.sl (r2.1.fL.map Tj.enc) .no, .n r2.1.fq, .n r2.1.fo]), .blk r3.1.enc]⟩ (AWp.reg Tryz.tyOk hΓ [5] [8, 9] (by kernel_rfl) rfl (by simp)) ?_
 refine AWp.ret ?_
 obtain rfl := La hr
 refine Lf ?_
 simp

@[simp] noncomputable def gaD.S : Sp
 | [.agg e0, .lit (.int .i64 x1)], _ => (fun (y0 : Td) => (fun (r : Td × List (List Tc)) => some { av := .tup [.agg [.lit (.bool (r.1.ff.fd)), .lit (.int .i64 (r.1.ff.fk)), .lit (.int .i64 (r.1.ff.fV)), .lit (.int .i64 (r.1.ff.fK)), .lit (.int .i64 (r.1.ff.fA)), .lit (.int .i64 (r.1.fh)), .lit (.int .i64 (r.1.fm.fk)), .lit (.int .i64 (r.1.fm.fp)), .lit (.bool (r.1.fm.fd)), .lit (.int .i64 (r.1.fm.fg)), .sl ((r.1.fm.fL).map Ta.enc) .no, .lit (.int .i64 (r.1.fm.fe)), .lit (.bool (r.1.fc.fu)), .lit (.int .i64 (r.1.fc.fw)), .lit (.int .i64 (r.1.fc.fj)), .lit (.int .i64 (r.1.fc.fp)), .sl ((r.1.fc.fv).map Tc.enc) .no, .lit (.int .i64 (r.1.fc.fy)), .lit (.int .i64 (r.1.fc.fe)), .sl ((r.1.fL).map Tj.enc) .no, .lit (.int .i64 (r.1.fq)), .lit (.int .i64 (r.1.fo))], .sl ((r.2).map (encL Tc.enc)) .no], M := none, obl := WeakL e0 (Td.enc y0) ∧ (gaD y0 x1).isSome = true }) ((gaD y0 x1).getD dflt)) (Td.dec e0)
 | _, _ => none

theorem gaD.ok : SpecOk Tryz.prog 13 gaD.S := by
 intro l M out h
 unfold gaD.S at h
 split at h
 ·rename_i e0 x1
  try dsimp only at h
  cases h
  refine callOk_of fun ho => ?_
  obtain ⟨ox0, hs⟩ := ho
  generalize (Td.dec e0) = x0 at *
  obtain ⟨r, hr⟩ := Option.isSome_iff_exists.1 hs
  simp only [hr, Option.getD_some]
  have q := Lg (M := M) [] (gaD.can x0 x1 r hr) (by simp) rfl (by intro k i hk; simp at hk)
  exact callOk_conv q trivial (by simp; exact ox0) (by simp [frameOut, gaD.out]) (by simp [frameOut, gaD.out])
 ·cases h
end Go.Proofs

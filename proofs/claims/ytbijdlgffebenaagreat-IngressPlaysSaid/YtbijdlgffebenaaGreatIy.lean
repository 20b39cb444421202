/- That these functions compute what their plain functions do. No condition. -/
import Derived.Test.YtbijdlgffebenaaGreatIyD
import Derived.Test.YtbijdlgffebenaaGreatTy
import Derived.Test.YtbijdlgffebenaaGreatIg
import Derived.Test.YtbijdlgffebenaaGreatRo
import Derived.Test.YtbijdlgffebenaaGreatM07
import Derived.Test.YtbijdlgffebenaaGreatIa
import Derived.Test.YtbijdlgffebenaaGreatRp
import Derived.Test.YtbijdlgffebenaaGreatIr
namespace Go.Proofs
open Go.Ab
@[simp] def gf.out (_x0 : Bool) (_x1 : Int) (_x2 : Int) (_x3 : Int) (_x4 : Int) (_x5 : List Int) (_x6 : List Tp) (r : Bool) : Out := { av := .lit (.bool r), M := none }
def gf.fin (x0 : Bool) (x1 : Int) (x2 : Int) (x3 : Int) (x4 : Int) (x5 : List Int) (x6 : List Tp) (r : Bool) (σ : St) : Prop := finK (gf.out x0 x1 x2 x3 x4 x5 x6 r) [] σ.M (resA Tryz.ty σ.A σ.M Tryz.f3.results.toList)
set_option maxHeartbeats 4000000 in
set_option maxRecDepth 100000 in
theorem gf.can (x0 : Bool) (x1 : Int) (x2 : Int) (x3 : Int) (x4 : Int) (x5 : List Int) (x6 : List Tp) (r : Bool) (hr : gf x0 x1 x2 x3 x4 x5 x6 = some r) : CallOk Tryz.prog 3 [.lit (.bool x0), .lit (.int .i64 x1), .lit (.int .i64 x2), .lit (.int .i64 x3), .lit (.int .u16 x4), .sl (x5.map (eNum .i64)) .no, .sl (x6.map Tp.enc) .no] [] (gf.out x0 x1 x2 x3 x4 x5 x6 r) := by
 unfold gf at hr
 have hΓ := (gamL_cons gv.ok (gamL_cons gC.ok (gamL_cons gu.ok (gamL_cons gj.ok (gamL_cons gr.ok (gamL_cons gL.ok (gamL_cons gA.ok (gamL_cons gaM.ok (gamL_cons gat.ok (gamL_cons gam.ok (gamL_cons gD.ok (gamL_cons gn.ok (gamL_cons gaE.ok (gamL_cons gh.ok (gamL_cons gaN.ok (gamL_cons gaD.ok (gamL_nil)))))))))))))))) : GamOk Tryz.prog _)
 refine Le Tryz.tyOk Tryz.func3 rfl (by kernel_rfl) rfl rfl (by simp) ?_
 intro _ _ _
 refine AWp.then ⟨[⟨0, none, .b x0⟩, ⟨1, none, .n x1⟩, ⟨2, none, .n x2⟩, ⟨3, none, .n x3⟩, ⟨4, none, .lit (.int .u16 x4)⟩, ⟨5, none, .sl (x5.map (eNum .i64)) .no⟩, ⟨6, none, .sl (x6.map Tp.enc) .no⟩], []⟩ (AWp.reg Tryz.tyOk hΓ [] [] (by kernel_rfl) rfl (by simp)) ?_
 refine AWp.seq ?_
 obtain ⟨r1, h47, hr⟩ := Lb hr
 refine AWp.then ⟨[⟨37, none, .b (notB r1)⟩, ⟨0, none, .b x0⟩, ⟨1, none, .n x1⟩, ⟨2, none, .n x2⟩, ⟨3, none, .n x3⟩, ⟨4, none, .lit (.int .u16 x4)⟩, ⟨5, none, .sl (x5.map (eNum .i64)) .no⟩, ⟨6, none, .sl (x6.map Tp.enc) .no⟩], []⟩ (AWp.reg Tryz.tyOk hΓ [37] [] (by kernel_rfl) rfl (by simp [h47])) ?_
 refine AWp.cond (b := (notB r1)) (by simp) (fun h48 => ?_) (fun h48 => ?_)
 ·have hr := Li h48 hr
  refine AWp.thenA [⟨14, none, .b false⟩] (AWp.reg Tryz.tyOk hΓ [14] [37, 0, 1, 2, 3, 4, 5, 6] (by kernel_rfl) rfl (by simp [h48])) ?_
  refine AWp.ret ?_
  obtain rfl := La hr
  refine Lf ?_
  simp
 ·have hr := Lj h48 hr
  refine AWp.skip ?_
  obtain ⟨r2, h49, hr⟩ := Lb hr
  obtain ⟨r3, h50, hr⟩ := Lb hr
  cases h51 : r3.1 with
  | none =>
   have hr := optC_n h51 hr
   refine AWp.then ⟨[⟨16, none, .ptr 0 0⟩, ⟨15, none, .lit (.pointer none)⟩, ⟨17, none, .b r3.2.2⟩, ⟨4, none, .lit (.int .u16 x4)⟩, ⟨5, none, .sl (x5.map (eNum .i64)) .no⟩, ⟨6, none, .sl (x6.map Tp.enc) .no⟩], [.blk r3.2.1.enc]⟩ (AWp.reg Tryz.tyOk hΓ [16, 15, 17] [37, 0, 1, 2, 3] (by kernel_rfl) rfl (by simp [h48, h49, h50, h51])) ?_
   refine AWp.seq ?_
   refine AWp.then ⟨[⟨49, none, .b (notB r3.2.2)⟩, ⟨16, none, .ptr 0 0⟩, ⟨15, none, .lit (.pointer none)⟩, ⟨4, none, .lit (.int .u16 x4)⟩, ⟨5, none, .sl (x5.map (eNum .i64)) .no⟩, ⟨6, none, .sl (x6.map Tp.enc) .no⟩], [.blk r3.2.1.enc]⟩ (AWp.reg Tryz.tyOk hΓ [49] [17] (by kernel_rfl) rfl (by simp)) ?_
   refine AWp.cond (b := (notB r3.2.2)) (by simp) (fun h52 => ?_) (fun h52 => ?_)
   ·have hr := Li h52 hr
    refine AWp.thenA [⟨14, none, .b false⟩] (AWp.reg Tryz.tyOk hΓ [14] [49, 16, 15, 4, 5, 6] (by kernel_rfl) rfl (by simp [h52])) ?_
    refine AWp.ret ?_
    obtain rfl := La hr
    refine Lf ?_
    simp
   ·have hr := Lj h52 hr
    refine AWp.skip ?_
    obtain ⟨r4, h53, hr⟩ := Lb hr
    refine AWp.then ⟨[⟨18, none, .sl (r4.map Tb.enc) .no⟩, ⟨16, none, .ptr 0 0⟩, ⟨15, none, .lit (.pointer none)⟩, ⟨6, none, .sl (x6.map Tp.enc) .no⟩], [.blk r3.2.1.enc]⟩ (AWp.reg Tryz.tyOk hΓ [18] [49, 4, 5] (by kernel_rfl) rfl (by simp [h52, h53])) ?_
    refine AWp.thenA [⟨19, none, .n 0⟩, ⟨18, none, .sl (r4.map Tb.enc) .no⟩, ⟨16, none, .ptr 0 0⟩, ⟨15, none, .lit (.pointer none)⟩, ⟨6, none, .sl (x6.map Tp.enc) .no⟩] (AWp.reg Tryz.tyOk hΓ [19] [] (by kernel_rfl) rfl (by simp)) ?_
    refine AWp.seq ?_
    refine AWp.then ⟨[⟨20, none, .n 0⟩, ⟨19, none, .n 0⟩, ⟨18, none, .sl (r4.map Tb.enc) .no⟩, ⟨16, none, .ptr 0 0⟩, ⟨15, none, .lit (.pointer none)⟩, ⟨6, none, .sl (x6.map Tp.enc) .no⟩], [.blk r3.2.1.enc]⟩ (AWp.reg Tryz.tyOk hΓ [20] [] (by kernel_rfl) rfl (by simp)) ?_
    refine AWp.loopE (fun (s1 : Unit) (γ1 : Unit) => ⟨[⟨20, none, .n 0⟩, ⟨19, none, .n 0⟩, ⟨18, none, .sl (r4.map Tb.enc) .no⟩, ⟨16, none, .ptr 0 0⟩, ⟨15, none, .lit (.pointer none)⟩, ⟨6, none, .sl (x6.map Tp.enc) .no⟩], [.blk r3.2.1.enc]⟩) (fun (v1 : Unit) (γ1a : Unit) => ⟨[], [.blk r3.2.1.enc]⟩) (gf.fin x0 x1 x2 x3 x4 x5 x6) hr () 1 (by simp) (fun s1 f γ1 hr => ?_) (fun v1 γ1a σ1 m1 hr hc => ?_) (fun _ h => h)
    ·unfold gf.loop1 at hr
     refine AWp.seq ?_
     refine AWp.then ⟨[⟨60, none, .b (pickB (ltI 0 (lenL x6)) (ltI 0 120) false)⟩, ⟨20, none, .n 0⟩, ⟨19, none, .n 0⟩, ⟨18, none, .sl (r4.map Tb.enc) .no⟩, ⟨16, none, .ptr 0 0⟩, ⟨15, none, .lit (.pointer none)⟩, ⟨6, none, .sl (x6.map Tp.enc) .no⟩], [.blk r3.2.1.enc]⟩ (AWp.reg Tryz.tyOk hΓ [60] [] (by kernel_rfl) rfl (by simp)) ?_
     refine AWp.cond (b := (pickB (ltI 0 (lenL x6)) (ltI 0 120) false)) (by simp) (fun h54 => ?_) (fun h54 => ?_)
     ·have hr := Li h54 hr
      refine AWp.skip ?_
      refine AWp.seq ?_
      refine AWp.block ?_
      obtain ⟨h55, hr⟩ := Lc hr
      refine AWp.then ⟨[⟨21, none, .ptr 1 0⟩, ⟨20, none, .n 0⟩, ⟨19, none, .n 0⟩, ⟨18, none, .sl (r4.map Tb.enc) .no⟩, ⟨16, none, .ptr 0 0⟩, ⟨15, none, .lit (.pointer none)⟩, ⟨6, none, .sl (x6.map Tp.enc) .no⟩], [.blk r3.2.1.enc, .blk (nthI x6 0).enc]⟩ (AWp.reg Tryz.tyOk hΓ [21] [60] (by kernel_rfl) rfl (by simp [h54, h55])) ?_
      refine AWp.meetF (fun (v3 : Unit) (γ3 : Unit) => ⟨[⟨20, none, .n 0⟩, ⟨19, none, .n 0⟩, ⟨18, none, .sl (r4.map Tb.enc) .no⟩, ⟨16, none, .ptr 0 0⟩, ⟨15, none, .lit (.pointer none)⟩, ⟨6, none, .sl (x6.map Tp.enc) .no⟩], [.blk r3.2.1.enc, .blk (nthI x6 0).enc]⟩) (QRr (gf.fin x0 x1 x2 x3 x4 x5 x6)) hr (fun f hr => ?_) (fun v3 γ3 hr => ?_) (fun _ h => QRr_ret h)
      ·refine AWp.then ⟨[⟨68, none, .n ((nthI x6 0).fY)⟩, ⟨21, none, .ptr 1 0⟩, ⟨20, none, .n 0⟩, ⟨19, none, .n 0⟩, ⟨18, none, .sl (r4.map Tb.enc) .no⟩, ⟨16, none, .ptr 0 0⟩, ⟨15, none, .lit (.pointer none)⟩, ⟨6, none, .sl (x6.map Tp.enc) .no⟩], [.blk r3.2.1.enc, .blk (nthI x6 0).enc]⟩ (AWp.reg Tryz.tyOk hΓ [68] [] (by kernel_rfl) rfl (by simp)) ?_
       refine AWp.block ?_
       refine AWp.then ⟨[⟨69, none, .b (eqI ((nthI x6 0).fY) 1)⟩, ⟨68, none, .n ((nthI x6 0).fY)⟩, ⟨21, none, .ptr 1 0⟩, ⟨20, none, .n 0⟩, ⟨19, none, .n 0⟩, ⟨18, none, .sl (r4.map Tb.enc) .no⟩, ⟨16, none, .ptr 0 0⟩, ⟨15, none, .lit (.pointer none)⟩, ⟨6, none, .sl (x6.map Tp.enc) .no⟩], [.blk r3.2.1.enc, .blk (nthI x6 0).enc]⟩ (AWp.reg Tryz.tyOk hΓ [69] [] (by kernel_rfl) rfl (by simp)) ?_
       refine AWp.cond (b := (eqI ((nthI x6 0).fY) 1)) (by simp) (fun h56 => ?_) (fun h56 => ?_)
       ·have hr := Li h56 hr
        obtain ⟨r5, h57, hr⟩ := Lb hr
        refine AWp.then ⟨[⟨22, none, .ptr 2 0⟩, ⟨21, none, .ptr 1 0⟩, ⟨20, none, .n 0⟩, ⟨19, none, .n 0⟩, ⟨18, none, .sl (r4.map Tb.enc) .no⟩, ⟨16, none, .ptr 0 0⟩, ⟨15, none, .lit (.pointer none)⟩, ⟨6, none, .sl (x6.map Tp.enc) .no⟩], [.blk r3.2.1.enc, .blk (nthI x6 0).enc, .blk [.b true, .lit (.int .u8 0), .lit (.int .u16 (cvtI .u16 ((nthI x6 0).fN))), .lit (.int .u32 9), .lit (.int .u32 7), .sl [] .no, .b false, .lit (.int .u16 0), .s ⟨#[]⟩, .s r5, .n 0]]⟩ (AWp.regD Tryz.mixed Tryz.tyOk hΓ [22] [69, 68] [(0, 8), (1, 8), (2, 8), (3, 8), (4, 8), (5, 8), (6, 8)] [(false, []), (false, []), (false, []), (false, []), (false, []), (false, []), (false, []), (true, []), (true, [])] (by kernel_rfl) rfl (by simp [h56, h57])) ?_
        refine AWp.meetF (fun (v4 : Tb) (γ4 : Unit) => ⟨[⟨22, none, .ptr 2 0⟩, ⟨20, none, .n 0⟩, ⟨19, none, .n 0⟩, ⟨18, none, .sl (r4.map Tb.enc) .no⟩, ⟨16, none, .ptr 0 0⟩, ⟨15, none, .lit (.pointer none)⟩, ⟨6, none, .sl (x6.map Tp.enc) .no⟩], [.blk r3.2.1.enc, .blk (nthI x6 0).enc, .blk v4.enc]⟩) (QRm (QRr (gf.fin x0 x1 x2 x3 x4 x5 x6))) hr (fun f hr => ?_) (fun v4 γ4 hr => ?_) (fun _ h => QRm_ret h)
        ·refine AWp.then ⟨[⟨85, none, .b (pickB (eqS ((nthI x6 0).fS) ⟨#[]⟩) (ltI 0 (lenL r4)) false)⟩, ⟨22, none, .ptr 2 0⟩, ⟨21, none, .ptr 1 0⟩, ⟨20, none, .n 0⟩, ⟨19, none, .n 0⟩, ⟨18, none, .sl (r4.map Tb.enc) .no⟩, ⟨16, none, .ptr 0 0⟩, ⟨15, none, .lit (.pointer none)⟩, ⟨6, none, .sl (x6.map Tp.enc) .no⟩], [.blk r3.2.1.enc, .blk (nthI x6 0).enc, .blk [.b true, .lit (.int .u8 0), .lit (.int .u16 (cvtI .u16 ((nthI x6 0).fN))), .lit (.int .u32 9), .lit (.int .u32 7), .sl [] .no, .b false, .lit (.int .u16 0), .s ⟨#[]⟩, .s r5, .n 0]]⟩ (AWp.reg Tryz.tyOk hΓ [85] [] (by kernel_rfl) rfl (by simp)) ?_
         refine AWp.cond (b := (pickB (eqS ((nthI x6 0).fS) ⟨#[]⟩) (ltI 0 (lenL r4)) false)) (by simp) (fun h58 => ?_) (fun h58 => ?_)
         ·have hr := Li h58 hr
          obtain ⟨h59, hr⟩ := Lc hr
          obtain ⟨h60, hr⟩ := Lc hr
          obtain ⟨h61, hr⟩ := Lc hr
          refine AWp.last ⟨[⟨22, none, .ptr 2 0⟩, ⟨20, none, .n 0⟩, ⟨19, none, .n 0⟩, ⟨18, none, .sl (r4.map Tb.enc) .no⟩, ⟨16, none, .ptr 0 0⟩, ⟨15, none, .lit (.pointer none)⟩, ⟨6, none, .sl (x6.map Tp.enc) .no⟩], [.blk r3.2.1.enc, .blk (nthI x6 0).enc, .blk (nthI r4 (remI (addI .i64 (remI ((nthI x6 0).fN) (lenL r4)) (lenL r4)) (lenL r4))).enc]⟩ (AWp.reg Tryz.tyOk hΓ [] [85, 21] (by kernel_rfl) rfl (by simp [h58, h59, h61])) ?_
          obtain rfl := La hr
          exact Ll () 3 (by first | (simp; done) | simp [h47, h48, h49, h50, h51, h52, h53, h54, h55, h56, h57, h58, h59, h60, h61])
         ·have hr := Lj h58 hr
          refine AWp.skip ?_
          obtain rfl := La hr
          exact Ll () 3 (by first | (simp; done) | simp [h47, h48, h49, h50, h51, h52, h53, h54, h55, h56, h57, h58])
        ·refine AWp.seq ?_
         cases hr
       ·have hr := Lj h56 hr
        refine AWp.thenA [⟨125, none, .b (eqI ((nthI x6 0).fY) 2)⟩, ⟨21, none, .ptr 1 0⟩, ⟨20, none, .n 0⟩, ⟨19, none, .n 0⟩, ⟨18, none, .sl (r4.map Tb.enc) .no⟩, ⟨16, none, .ptr 0 0⟩, ⟨15, none, .lit (.pointer none)⟩, ⟨6, none, .sl (x6.map Tp.enc) .no⟩] (AWp.reg Tryz.tyOk hΓ [125] [69, 68] (by kernel_rfl) rfl (by simp [h56])) ?_
        refine AWp.cond (b := (eqI ((nthI x6 0).fY) 2)) (by simp) (fun h62 => ?_) (fun h62 => ?_)
        ·have hr := Li h62 hr
         refine AWp.thenA [⟨19, none, .n (addI .i64 0 (bitsOp .and .i64 ((nthI x6 0).fN) 31))⟩, ⟨20, none, .n 0⟩, ⟨18, none, .sl (r4.map Tb.enc) .no⟩, ⟨16, none, .ptr 0 0⟩, ⟨15, none, .lit (.pointer none)⟩, ⟨6, none, .sl (x6.map Tp.enc) .no⟩] (AWp.reg Tryz.tyOk hΓ [19] [125, 21] (by kernel_rfl) rfl (by simp [h62])) ?_
         refine AWp.seq ?_
         cases hr
        ·have hr := Lj h62 hr
         refine AWp.skip ?_
         obtain rfl := La hr
         exact Ll () 2 (by first | (simp; done) | simp [h47, h48, h49, h50, h51, h52, h53, h54, h55, h56, h62])
      ·refine AWp.seq ?_
       cases hr
     ·have hr := Lj h54 hr
      refine AWp.exit ?_
      obtain rfl := La hr
      exact Lo () 1 (by first | (simp; done) | simp [h47, h48, h49, h50, h51, h52, h53, h54])
    ·refine AWp.conv hc ?_
     refine AWp.then ⟨[⟨14, none, .b true⟩], [.blk r3.2.1.enc]⟩ (AWp.reg Tryz.tyOk hΓ [14] [] (by kernel_rfl) rfl (by simp)) ?_
     refine AWp.ret ?_
     obtain rfl := La hr
     refine Lf ?_
     simp
  | some o1 =>
   have hr := optC_s h51 hr
   refine AWp.then ⟨[⟨16, none, .ptr 10 0⟩, ⟨15, none, .ptr 9 0⟩, ⟨17, none, .b r3.2.2⟩, ⟨4, none, .lit (.int .u16 x4)⟩, ⟨5, none, .sl (x5.map (eNum .i64)) .no⟩, ⟨6, none, .sl (x6.map Tp.enc) .no⟩], [.dead, .dead, .dead, .dead, .mapo (encM (kI .i64) (vA Ta.enc) o1.fa.fOf), .blk (o1.fa.fb.enc ++ [.b o1.fa.fd, .n o1.fa.fg, .mp 4, .n o1.fa.fe]), .dead, .blk o1.fc.enc, .mapo (encM (kI .i64) (vA Tb.enc) o1.fOf), .blk ([.ptr 5 0, .ptr 7 0] ++ o1.ff.enc ++ o1.fh.enc ++ [.mp 8, .n o1.fq, .n o1.fo]), .blk r3.2.1.enc]⟩ (AWp.reg Tryz.tyOk hΓ [16, 15, 17] [37, 0, 1, 2, 3] (by kernel_rfl) rfl (by simp [h48, h49, h50, h51])) ?_
   refine AWp.seq ?_
   refine AWp.then ⟨[⟨49, none, .b (notB r3.2.2)⟩, ⟨16, none, .ptr 10 0⟩, ⟨15, none, .ptr 9 0⟩, ⟨4, none, .lit (.int .u16 x4)⟩, ⟨5, none, .sl (x5.map (eNum .i64)) .no⟩, ⟨6, none, .sl (x6.map Tp.enc) .no⟩], [.dead, .dead, .dead, .dead, .mapo (encM (kI .i64) (vA Ta.enc) o1.fa.fOf), .blk (o1.fa.fb.enc ++ [.b o1.fa.fd, .n o1.fa.fg, .mp 4, .n o1.fa.fe]), .dead, .blk o1.fc.enc, .mapo (encM (kI .i64) (vA Tb.enc) o1.fOf), .blk ([.ptr 5 0, .ptr 7 0] ++ o1.ff.enc ++ o1.fh.enc ++ [.mp 8, .n o1.fq, .n o1.fo]), .blk r3.2.1.enc]⟩ (AWp.reg Tryz.tyOk hΓ [49] [17] (by kernel_rfl) rfl (by simp)) ?_
   refine AWp.cond (b := (notB r3.2.2)) (by simp) (fun h63 => ?_) (fun h63 => ?_)
   ·have hr := Li h63 hr
    refine AWp.thenA [⟨14, none, .b false⟩] (AWp.reg Tryz.tyOk hΓ [14] [49, 16, 15, 4, 5, 6] (by kernel_rfl) rfl (by simp [h63])) ?_
    refine AWp.ret ?_
    obtain rfl := La hr
    refine Lf ?_
    simp
   ·have hr := Lj h63 hr
    refine AWp.skip ?_
    obtain ⟨r4, h64, hr⟩ := Lb hr
    refine AWp.then ⟨[⟨18, none, .sl (r4.map Tb.enc) .no⟩, ⟨16, none, .ptr 10 0⟩, ⟨15, none, .ptr 9 0⟩, ⟨6, none, .sl (x6.map Tp.enc) .no⟩], [.dead, .dead, .dead, .dead, .mapo (encM (kI .i64) (vA Ta.enc) o1.fa.fOf), .blk (o1.fa.fb.enc ++ [.b o1.fa.fd, .n o1.fa.fg, .mp 4, .n o1.fa.fe]), .dead, .blk o1.fc.enc, .mapo (encM (kI .i64) (vA Tb.enc) o1.fOf), .blk ([.ptr 5 0, .ptr 7 0] ++ o1.ff.enc ++ o1.fh.enc ++ [.mp 8, .n o1.fq, .n o1.fo]), .blk r3.2.1.enc]⟩ (AWp.reg Tryz.tyOk hΓ [18] [49, 4, 5] (by kernel_rfl) rfl (by simp [h63, h64])) ?_
    refine AWp.thenA [⟨19, none, .n 0⟩, ⟨18, none, .sl (r4.map Tb.enc) .no⟩, ⟨16, none, .ptr 10 0⟩, ⟨15, none, .ptr 9 0⟩, ⟨6, none, .sl (x6.map Tp.enc) .no⟩] (AWp.reg Tryz.tyOk hΓ [19] [] (by kernel_rfl) rfl (by simp)) ?_
    refine AWp.seq ?_
    refine AWp.then ⟨[⟨20, none, .n 0⟩, ⟨19, none, .n 0⟩, ⟨18, none, .sl (r4.map Tb.enc) .no⟩, ⟨16, none, .ptr 10 0⟩, ⟨15, none, .ptr 9 0⟩, ⟨6, none, .sl (x6.map Tp.enc) .no⟩], [.dead, .dead, .dead, .dead, .mapo (encM (kI .i64) (vA Ta.enc) o1.fa.fOf), .blk (o1.fa.fb.enc ++ [.b o1.fa.fd, .n o1.fa.fg, .mp 4, .n o1.fa.fe]), .dead, .blk o1.fc.enc, .mapo (encM (kI .i64) (vA Tb.enc) o1.fOf), .blk ([.ptr 5 0, .ptr 7 0] ++ o1.ff.enc ++ o1.fh.enc ++ [.mp 8, .n o1.fq, .n o1.fo]), .blk r3.2.1.enc]⟩ (AWp.reg Tryz.tyOk hΓ [20] [] (by kernel_rfl) rfl (by simp)) ?_
    refine AWp.loopE (fun (s5 : Int × Int × (List (Int × Ta)) × Tt × Bool × Int × Int × Tn × (List (Int × Tb)) × Tx × Tw × Int × Int × Td) (γ5 : Unit) => ⟨[⟨20, none, .n s5.1⟩, ⟨19, none, .n s5.2.1⟩, ⟨18, none, .sl (r4.map Tb.enc) .no⟩, ⟨16, none, .ptr 10 0⟩, ⟨15, none, .ptr 9 0⟩, ⟨6, none, .sl (x6.map Tp.enc) .no⟩], [.dead, .dead, .dead, .dead, .mapo (encM (kI .i64) (vA Ta.enc) s5.2.2.1), .blk (s5.2.2.2.1.enc ++ [.b s5.2.2.2.2.1, .n s5.2.2.2.2.2.1, .mp 4, .n s5.2.2.2.2.2.2.1]), .dead, .blk s5.2.2.2.2.2.2.2.1.enc, .mapo (encM (kI .i64) (vA Tb.enc) s5.2.2.2.2.2.2.2.2.1), .blk ([.ptr 5 0, .ptr 7 0] ++ s5.2.2.2.2.2.2.2.2.2.1.enc ++ s5.2.2.2.2.2.2.2.2.2.2.1.enc ++ [.mp 8, .n s5.2.2.2.2.2.2.2.2.2.2.2.1, .n s5.2.2.2.2.2.2.2.2.2.2.2.2.1]), .blk s5.2.2.2.2.2.2.2.2.2.2.2.2.2.enc]⟩) (fun (v5 : (List (Int × Ta)) × Tt × Bool × Int × Int × Tn × (List (Int × Tb)) × Tx × Tw × Int × Int × Td) (γ5a : Unit) => ⟨[], [.dead, .dead, .dead, .dead, .mapo (encM (kI .i64) (vA Ta.enc) v5.1), .blk (v5.2.1.enc ++ [.b v5.2.2.1, .n v5.2.2.2.1, .mp 4, .n v5.2.2.2.2.1]), .dead, .blk v5.2.2.2.2.2.1.enc, .mapo (encM (kI .i64) (vA Tb.enc) v5.2.2.2.2.2.2.1), .blk ([.ptr 5 0, .ptr 7 0] ++ v5.2.2.2.2.2.2.2.1.enc ++ v5.2.2.2.2.2.2.2.2.1.enc ++ [.mp 8, .n v5.2.2.2.2.2.2.2.2.2.1, .n v5.2.2.2.2.2.2.2.2.2.2.1]), .blk v5.2.2.2.2.2.2.2.2.2.2.2.enc]⟩) (gf.fin x0 x1 x2 x3 x4 x5 x6) hr () 11 (by simp) (fun s5 f γ5 hr => ?_) (fun v5 γ5a σ1 m1 hr hc => ?_) (fun _ h => h)
    ·unfold gf.loop5 at hr
     refine AWp.seq ?_
     refine AWp.then ⟨[⟨60, none, .b (pickB (ltI s5.1 (lenL x6)) (ltI s5.1 120) false)⟩, ⟨20, none, .n s5.1⟩, ⟨19, none, .n s5.2.1⟩, ⟨18, none, .sl (r4.map Tb.enc) .no⟩, ⟨16, none, .ptr 10 0⟩, ⟨15, none, .ptr 9 0⟩, ⟨6, none, .sl (x6.map Tp.enc) .no⟩], [.dead, .dead, .dead, .dead, .mapo (encM (kI .i64) (vA Ta.enc) s5.2.2.1), .blk (s5.2.2.2.1.enc ++ [.b s5.2.2.2.2.1, .n s5.2.2.2.2.2.1, .mp 4, .n s5.2.2.2.2.2.2.1]), .dead, .blk s5.2.2.2.2.2.2.2.1.enc, .mapo (encM (kI .i64) (vA Tb.enc) s5.2.2.2.2.2.2.2.2.1), .blk ([.ptr 5 0, .ptr 7 0] ++ s5.2.2.2.2.2.2.2.2.2.1.enc ++ s5.2.2.2.2.2.2.2.2.2.2.1.enc ++ [.mp 8, .n s5.2.2.2.2.2.2.2.2.2.2.2.1, .n s5.2.2.2.2.2.2.2.2.2.2.2.2.1]), .blk s5.2.2.2.2.2.2.2.2.2.2.2.2.2.enc]⟩ (AWp.reg Tryz.tyOk hΓ [60] [] (by kernel_rfl) rfl (by simp)) ?_
     refine AWp.cond (b := (pickB (ltI s5.1 (lenL x6)) (ltI s5.1 120) false)) (by simp) (fun h65 => ?_) (fun h65 => ?_)
     ·have hr := Li h65 hr
      refine AWp.skip ?_
      refine AWp.meetF (fun (v6 : Int × (List (Int × Ta)) × Tt × Bool × Int × Int × Tn × (List (Int × Tb)) × Tx × Tw × Int × Int × Td) (γ6 : Unit) => ⟨[⟨20, none, .n s5.1⟩, ⟨19, none, .n v6.1⟩, ⟨18, none, .sl (r4.map Tb.enc) .no⟩, ⟨16, none, .ptr 10 0⟩, ⟨15, none, .ptr 9 0⟩, ⟨6, none, .sl (x6.map Tp.enc) .no⟩], [.dead, .dead, .dead, .dead, .mapo (encM (kI .i64) (vA Ta.enc) v6.2.1), .blk (v6.2.2.1.enc ++ [.b v6.2.2.2.1, .n v6.2.2.2.2.1, .mp 4, .n v6.2.2.2.2.2.1]), .dead, .blk v6.2.2.2.2.2.2.1.enc, .mapo (encM (kI .i64) (vA Tb.enc) v6.2.2.2.2.2.2.2.1), .blk ([.ptr 5 0, .ptr 7 0] ++ v6.2.2.2.2.2.2.2.2.1.enc ++ v6.2.2.2.2.2.2.2.2.2.1.enc ++ [.mp 8, .n v6.2.2.2.2.2.2.2.2.2.2.1, .n v6.2.2.2.2.2.2.2.2.2.2.2.1]), .blk v6.2.2.2.2.2.2.2.2.2.2.2.2.enc]⟩) (QRr (gf.fin x0 x1 x2 x3 x4 x5 x6)) hr (fun f hr => ?_) (fun v6 γ6 hr => ?_) (fun _ h => QRr_ret h)
      ·refine AWp.block ?_
       obtain ⟨h66, hr⟩ := Lc hr
       refine AWp.then ⟨[⟨21, none, .ptr 11 0⟩, ⟨20, none, .n s5.1⟩, ⟨19, none, .n s5.2.1⟩, ⟨18, none, .sl (r4.map Tb.enc) .no⟩, ⟨16, none, .ptr 10 0⟩, ⟨15, none, .ptr 9 0⟩, ⟨6, none, .sl (x6.map Tp.enc) .no⟩], [.dead, .dead, .dead, .dead, .mapo (encM (kI .i64) (vA Ta.enc) s5.2.2.1), .blk (s5.2.2.2.1.enc ++ [.b s5.2.2.2.2.1, .n s5.2.2.2.2.2.1, .mp 4, .n s5.2.2.2.2.2.2.1]), .dead, .blk s5.2.2.2.2.2.2.2.1.enc, .mapo (encM (kI .i64) (vA Tb.enc) s5.2.2.2.2.2.2.2.2.1), .blk ([.ptr 5 0, .ptr 7 0] ++ s5.2.2.2.2.2.2.2.2.2.1.enc ++ s5.2.2.2.2.2.2.2.2.2.2.1.enc ++ [.mp 8, .n s5.2.2.2.2.2.2.2.2.2.2.2.1, .n s5.2.2.2.2.2.2.2.2.2.2.2.2.1]), .blk s5.2.2.2.2.2.2.2.2.2.2.2.2.2.enc, .blk (nthI x6 s5.1).enc]⟩ (AWp.reg Tryz.tyOk hΓ [21] [60] (by kernel_rfl) rfl (by simp [h65, h66])) ?_
       refine AWp.meetF (fun (v7 : (List (Int × Ta)) × Tt × Bool × Int × Int × Tn × (List (Int × Tb)) × Tx × Tw × Int × Int × Td × Int) (γ7 : Unit) => ⟨[⟨20, none, .n s5.1⟩, ⟨19, none, .n v7.2.2.2.2.2.2.2.2.2.2.2.2⟩, ⟨18, none, .sl (r4.map Tb.enc) .no⟩, ⟨16, none, .ptr 10 0⟩, ⟨15, none, .ptr 9 0⟩, ⟨6, none, .sl (x6.map Tp.enc) .no⟩], [.dead, .dead, .dead, .dead, .mapo (encM (kI .i64) (vA Ta.enc) v7.1), .blk (v7.2.1.enc ++ [.b v7.2.2.1, .n v7.2.2.2.1, .mp 4, .n v7.2.2.2.2.1]), .dead, .blk v7.2.2.2.2.2.1.enc, .mapo (encM (kI .i64) (vA Tb.enc) v7.2.2.2.2.2.2.1), .blk ([.ptr 5 0, .ptr 7 0] ++ v7.2.2.2.2.2.2.2.1.enc ++ v7.2.2.2.2.2.2.2.2.1.enc ++ [.mp 8, .n v7.2.2.2.2.2.2.2.2.2.1, .n v7.2.2.2.2.2.2.2.2.2.2.1]), .blk v7.2.2.2.2.2.2.2.2.2.2.2.1.enc, .blk (nthI x6 s5.1).enc]⟩) (QRm (QRr (gf.fin x0 x1 x2 x3 x4 x5 x6))) hr (fun f hr => ?_) (fun v7 γ7 hr => ?_) (fun _ h => QRm_ret h)
       ·refine AWp.then ⟨[⟨68, none, .n ((nthI x6 s5.1).fY)⟩, ⟨21, none, .ptr 11 0⟩, ⟨20, none, .n s5.1⟩, ⟨19, none, .n s5.2.1⟩, ⟨18, none, .sl (r4.map Tb.enc) .no⟩, ⟨16, none, .ptr 10 0⟩, ⟨15, none, .ptr 9 0⟩, ⟨6, none, .sl (x6.map Tp.enc) .no⟩], [.dead, .dead, .dead, .dead, .mapo (encM (kI .i64) (vA Ta.enc) s5.2.2.1), .blk (s5.2.2.2.1.enc ++ [.b s5.2.2.2.2.1, .n s5.2.2.2.2.2.1, .mp 4, .n s5.2.2.2.2.2.2.1]), .dead, .blk s5.2.2.2.2.2.2.2.1.enc, .mapo (encM (kI .i64) (vA Tb.enc) s5.2.2.2.2.2.2.2.2.1), .blk ([.ptr 5 0, .ptr 7 0] ++ s5.2.2.2.2.2.2.2.2.2.1.enc ++ s5.2.2.2.2.2.2.2.2.2.2.1.enc ++ [.mp 8, .n s5.2.2.2.2.2.2.2.2.2.2.2.1, .n s5.2.2.2.2.2.2.2.2.2.2.2.2.1]), .blk s5.2.2.2.2.2.2.2.2.2.2.2.2.2.enc, .blk (nthI x6 s5.1).enc]⟩ (AWp.reg Tryz.tyOk hΓ [68] [] (by kernel_rfl) rfl (by simp)) ?_
        refine AWp.block ?_
        refine AWp.then ⟨[⟨69, none, .b (eqI ((nthI x6 s5.1).fY) 1)⟩, ⟨68, none, .n ((nthI x6 s5.1).fY)⟩, ⟨21, none, .ptr 11 0⟩, ⟨20, none, .n s5.1⟩, ⟨19, none, .n s5.2.1⟩, ⟨18, none, .sl (r4.map Tb.enc) .no⟩, ⟨16, none, .ptr 10 0⟩, ⟨15, none, .ptr 9 0⟩, ⟨6, none, .sl (x6.map Tp.enc) .no⟩], [.dead, .dead, .dead, .dead, .mapo (encM (kI .i64) (vA Ta.enc) s5.2.2.1), .blk (s5.2.2.2.1.enc ++ [.b s5.2.2.2.2.1, .n s5.2.2.2.2.2.1, .mp 4, .n s5.2.2.2.2.2.2.1]), .dead, .blk s5.2.2.2.2.2.2.2.1.enc, .mapo (encM (kI .i64) (vA Tb.enc) s5.2.2.2.2.2.2.2.2.1), .blk ([.ptr 5 0, .ptr 7 0] ++ s5.2.2.2.2.2.2.2.2.2.1.enc ++ s5.2.2.2.2.2.2.2.2.2.2.1.enc ++ [.mp 8, .n s5.2.2.2.2.2.2.2.2.2.2.2.1, .n s5.2.2.2.2.2.2.2.2.2.2.2.2.1]), .blk s5.2.2.2.2.2.2.2.2.2.2.2.2.2.enc, .blk (nthI x6 s5.1).enc]⟩ (AWp.reg Tryz.tyOk hΓ [69] [] (by kernel_rfl) rfl (by simp)) ?_
        refine AWp.cond (b := (eqI ((nthI x6 s5.1).fY) 1)) (by simp) (fun h67 => ?_) (fun h67 => ?_)
        ·have hr := Li h67 hr
         obtain ⟨r5, h68, hr⟩ := Lb hr
         refine AWp.then ⟨[⟨22, none, .ptr 12 0⟩, ⟨21, none, .ptr 11 0⟩, ⟨20, none, .n s5.1⟩, ⟨19, none, .n s5.2.1⟩, ⟨18, none, .sl (r4.map Tb.enc) .no⟩, ⟨16, none, .ptr 10 0⟩, ⟨15, none, .ptr 9 0⟩, ⟨6, none, .sl (x6.map Tp.enc) .no⟩], [.dead, .dead, .dead, .dead, .mapo (encM (kI .i64) (vA Ta.enc) s5.2.2.1), .blk (s5.2.2.2.1.enc ++ [.b s5.2.2.2.2.1, .n s5.2.2.2.2.2.1, .mp 4, .n s5.2.2.2.2.2.2.1]), .dead, .blk s5.2.2.2.2.2.2.2.1.enc, .mapo (encM (kI .i64) (vA Tb.enc) s5.2.2.2.2.2.2.2.2.1), .blk ([.ptr 5 0, .ptr 7 0] ++ s5.2.2.2.2.2.2.2.2.2.1.enc ++ s5.2.2.2.2.2.2.2.2.2.2.1.enc ++ [.mp 8, .n s5.2.2.2.2.2.2.2.2.2.2.2.1, .n s5.2.2.2.2.2.2.2.2.2.2.2.2.1]), .blk s5.2.2.2.2.2.2.2.2.2.2.2.2.2.enc, .blk (nthI x6 s5.1).enc, .blk [.b true, .lit (.int .u8 0), .lit (.int .u16 (cvtI .u16 ((nthI x6 s5.1).fN))), .lit (.int .u32 9), .lit (.int .u32 7), .sl [] .no, .b false, .lit (.int .u16 0), .s ⟨#[]⟩, .s r5, .n 0]]⟩ (AWp.regD Tryz.mixed Tryz.tyOk hΓ [22] [69, 68] [(0, 8), (1, 8), (2, 8), (3, 8), (4, 8), (5, 8), (6, 8)] [(false, []), (false, []), (false, []), (false, []), (false, []), (false, []), (false, []), (true, []), (true, [])] (by kernel_rfl) rfl (by simp [h67, h68])) ?_
         refine AWp.meetF (fun (v8 : Tb) (γ8 : Unit) => ⟨[⟨22, none, .ptr 12 0⟩, ⟨20, none, .n s5.1⟩, ⟨19, none, .n s5.2.1⟩, ⟨18, none, .sl (r4.map Tb.enc) .no⟩, ⟨16, none, .ptr 10 0⟩, ⟨15, none, .ptr 9 0⟩, ⟨6, none, .sl (x6.map Tp.enc) .no⟩], [.dead, .dead, .dead, .dead, .mapo (encM (kI .i64) (vA Ta.enc) s5.2.2.1), .blk (s5.2.2.2.1.enc ++ [.b s5.2.2.2.2.1, .n s5.2.2.2.2.2.1, .mp 4, .n s5.2.2.2.2.2.2.1]), .dead, .blk s5.2.2.2.2.2.2.2.1.enc, .mapo (encM (kI .i64) (vA Tb.enc) s5.2.2.2.2.2.2.2.2.1), .blk ([.ptr 5 0, .ptr 7 0] ++ s5.2.2.2.2.2.2.2.2.2.1.enc ++ s5.2.2.2.2.2.2.2.2.2.2.1.enc ++ [.mp 8, .n s5.2.2.2.2.2.2.2.2.2.2.2.1, .n s5.2.2.2.2.2.2.2.2.2.2.2.2.1]), .blk s5.2.2.2.2.2.2.2.2.2.2.2.2.2.enc, .blk (nthI x6 s5.1).enc, .blk v8.enc]⟩) (QRm (QRm (QRr (gf.fin x0 x1 x2 x3 x4 x5 x6)))) hr (fun f hr => ?_) (fun v8 γ8 hr => ?_) (fun _ h => QRm_ret h)
         ·refine AWp.then ⟨[⟨85, none, .b (pickB (eqS ((nthI x6 s5.1).fS) ⟨#[]⟩) (ltI 0 (lenL r4)) false)⟩, ⟨22, none, .ptr 12 0⟩, ⟨21, none, .ptr 11 0⟩, ⟨20, none, .n s5.1⟩, ⟨19, none, .n s5.2.1⟩, ⟨18, none, .sl (r4.map Tb.enc) .no⟩, ⟨16, none, .ptr 10 0⟩, ⟨15, none, .ptr 9 0⟩, ⟨6, none, .sl (x6.map Tp.enc) .no⟩], [.dead, .dead, .dead, .dead, .mapo (encM (kI .i64) (vA Ta.enc) s5.2.2.1), .blk (s5.2.2.2.1.enc ++ [.b s5.2.2.2.2.1, .n s5.2.2.2.2.2.1, .mp 4, .n s5.2.2.2.2.2.2.1]), .dead, .blk s5.2.2.2.2.2.2.2.1.enc, .mapo (encM (kI .i64) (vA Tb.enc) s5.2.2.2.2.2.2.2.2.1), .blk ([.ptr 5 0, .ptr 7 0] ++ s5.2.2.2.2.2.2.2.2.2.1.enc ++ s5.2.2.2.2.2.2.2.2.2.2.1.enc ++ [.mp 8, .n s5.2.2.2.2.2.2.2.2.2.2.2.1, .n s5.2.2.2.2.2.2.2.2.2.2.2.2.1]), .blk s5.2.2.2.2.2.2.2.2.2.2.2.2.2.enc, .blk (nthI x6 s5.1).enc, .blk [.b true, .lit (.int .u8 0), .lit (.int .u16 (cvtI .u16 ((nthI x6 s5.1).fN))), .lit (.int .u32 9), .lit (.int .u32 7), .sl [] .no, .b false, .lit (.int .u16 0), .s ⟨#[]⟩, .s r5, .n 0]]⟩ (AWp.reg Tryz.tyOk hΓ [85] [] (by kernel_rfl) rfl (by simp)) ?_
          refine AWp.cond (b := (pickB (eqS ((nthI x6 s5.1).fS) ⟨#[]⟩) (ltI 0 (lenL r4)) false)) (by simp) (fun h69 => ?_) (fun h69 => ?_)
          ·have hr := Li h69 hr
           obtain ⟨h70, hr⟩ := Lc hr
           obtain ⟨h71, hr⟩ := Lc hr
           obtain ⟨h72, hr⟩ := Lc hr
           refine AWp.last ⟨[⟨22, none, .ptr 12 0⟩, ⟨20, none, .n s5.1⟩, ⟨19, none, .n s5.2.1⟩, ⟨18, none, .sl (r4.map Tb.enc) .no⟩, ⟨16, none, .ptr 10 0⟩, ⟨15, none, .ptr 9 0⟩, ⟨6, none, .sl (x6.map Tp.enc) .no⟩], [.dead, .dead, .dead, .dead, .mapo (encM (kI .i64) (vA Ta.enc) s5.2.2.1), .blk (s5.2.2.2.1.enc ++ [.b s5.2.2.2.2.1, .n s5.2.2.2.2.2.1, .mp 4, .n s5.2.2.2.2.2.2.1]), .dead, .blk s5.2.2.2.2.2.2.2.1.enc, .mapo (encM (kI .i64) (vA Tb.enc) s5.2.2.2.2.2.2.2.2.1), .blk ([.ptr 5 0, .ptr 7 0] ++ s5.2.2.2.2.2.2.2.2.2.1.enc ++ s5.2.2.2.2.2.2.2.2.2.2.1.enc ++ [.mp 8, .n s5.2.2.2.2.2.2.2.2.2.2.2.1, .n s5.2.2.2.2.2.2.2.2.2.2.2.2.1]), .blk s5.2.2.2.2.2.2.2.2.2.2.2.2.2.enc, .blk (nthI x6 s5.1).enc, .blk (nthI r4 (remI (addI .i64 (remI ((nthI x6 s5.1).fN) (lenL r4)) (lenL r4)) (lenL r4))).enc]⟩ (AWp.reg Tryz.tyOk hΓ [] [85, 21] (by kernel_rfl) rfl (by simp [h69, h70, h72])) ?_
           obtain rfl := La hr
           exact Ll () 13 (by first | (simp; done) | simp [h47, h48, h49, h50, h51, h63, h64, h65, h66, h67, h68, h69, h70, h71, h72])
          ·have hr := Lj h69 hr
           refine AWp.skip ?_
           obtain rfl := La hr
           exact Ll () 13 (by first | (simp; done) | simp [h47, h48, h49, h50, h51, h63, h64, h65, h66, h67, h68, h69])
         ·obtain ⟨r6, h73, hr⟩ := Lb hr
          refine AWp.then ⟨[⟨23, none, .sl (r6.1.map Tl.enc) .no⟩, ⟨24, none, .n r6.2.1⟩, ⟨22, none, .ptr 12 0⟩, ⟨20, none, .n s5.1⟩, ⟨19, none, .n s5.2.1⟩, ⟨18, none, .sl (r4.map Tb.enc) .no⟩, ⟨16, none, .ptr 10 0⟩, ⟨15, none, .ptr 9 0⟩, ⟨6, none, .sl (x6.map Tp.enc) .no⟩], [.dead, .dead, .dead, .dead, .mapo (encM (kI .i64) (vA Ta.enc) r6.2.2.fa.fOf), .blk (r6.2.2.fa.fb.enc ++ [.b r6.2.2.fa.fd, .n r6.2.2.fa.fg, .mp 4, .n r6.2.2.fa.fe]), .dead, .blk r6.2.2.fc.enc, .mapo (encM (kI .i64) (vA Tb.enc) r6.2.2.fOf), .blk ([.ptr 5 0, .ptr 7 0] ++ r6.2.2.ff.enc ++ r6.2.2.fh.enc ++ [.mp 8, .n r6.2.2.fq, .n r6.2.2.fo]), .blk s5.2.2.2.2.2.2.2.2.2.2.2.2.2.enc, .blk (nthI x6 s5.1).enc, .blk v8.enc]⟩ (AWp.reg Tryz.tyOk hΓ [23, 24] [] (by kernel_rfl) rfl (by simp [h73])) ?_
          obtain ⟨r7, h74, hr⟩ := Lb hr
          refine AWp.then ⟨[⟨25, none, .ptr 13 0⟩, ⟨26, none, .sl (r7.2.1.map (encL Tc.enc)) .no⟩, ⟨27, none, .n r7.2.2⟩, ⟨23, none, .sl (r6.1.map Tl.enc) .no⟩, ⟨24, none, .n r6.2.1⟩, ⟨20, none, .n s5.1⟩, ⟨19, none, .n s5.2.1⟩, ⟨18, none, .sl (r4.map Tb.enc) .no⟩, ⟨16, none, .ptr 10 0⟩, ⟨15, none, .ptr 9 0⟩, ⟨6, none, .sl (x6.map Tp.enc) .no⟩], [.dead, .dead, .dead, .dead, .mapo (encM (kI .i64) (vA Ta.enc) r6.2.2.fa.fOf), .blk (r6.2.2.fa.fb.enc ++ [.b r6.2.2.fa.fd, .n r6.2.2.fa.fg, .mp 4, .n r6.2.2.fa.fe]), .dead, .blk r6.2.2.fc.enc, .mapo (encM (kI .i64) (vA Tb.enc) r6.2.2.fOf), .blk ([.ptr 5 0, .ptr 7 0] ++ r6.2.2.ff.enc ++ r6.2.2.fh.enc ++ [.mp 8, .n r6.2.2.fq, .n r6.2.2.fo]), .blk s5.2.2.2.2.2.2.2.2.2.2.2.2.2.enc, .blk (nthI x6 s5.1).enc, .blk v8.enc, .blk r7.1.enc]⟩ (AWp.reg Tryz.tyOk hΓ [25, 26, 27] [22] (by kernel_rfl) rfl (by simp [h74])) ?_
          refine AWp.then ⟨[⟨26, none, .sl (r7.2.1.map (encL Tc.enc)) .no⟩, ⟨27, none, .n r7.2.2⟩, ⟨23, none, .sl (r6.1.map Tl.enc) .no⟩, ⟨24, none, .n r6.2.1⟩, ⟨20, none, .n s5.1⟩, ⟨19, none, .n s5.2.1⟩, ⟨18, none, .sl (r4.map Tb.enc) .no⟩, ⟨16, none, .ptr 10 0⟩, ⟨15, none, .ptr 9 0⟩, ⟨6, none, .sl (x6.map Tp.enc) .no⟩], [.dead, .dead, .dead, .dead, .mapo (encM (kI .i64) (vA Ta.enc) r6.2.2.fa.fOf), .blk (r6.2.2.fa.fb.enc ++ [.b r6.2.2.fa.fd, .n r6.2.2.fa.fg, .mp 4, .n r6.2.2.fa.fe]), .dead, .blk r6.2.2.fc.enc, .mapo (encM (kI .i64) (vA Tb.enc) r6.2.2.fOf), .blk ([.ptr 5 0, .ptr 7 0] ++ r6.2.2.ff.enc ++ r6.2.2.fh.enc ++ [.mp 8, .n r6.2.2.fq, .n r6.2.2.fo]), .blk r7.1.enc, .blk (nthI x6 s5.1).enc, .blk v8.enc, .blk r7.1.enc]⟩ (AWp.reg Tryz.tyOk hΓ [] [25] (by kernel_rfl) rfl (by simp)) ?_
          obtain ⟨h75, hr⟩ := Lc hr
          refine AWp.thenA [⟨124, none, .b (pickB (neI r6.2.1 r7.2.2) true (neI ((gD r6.1 r7.2.1).getD dflt) 0))⟩, ⟨20, none, .n s5.1⟩, ⟨19, none, .n s5.2.1⟩, ⟨18, none, .sl (r4.map Tb.enc) .no⟩, ⟨16, none, .ptr 10 0⟩, ⟨15, none, .ptr 9 0⟩, ⟨6, none, .sl (x6.map Tp.enc) .no⟩] (AWp.reg Tryz.tyOk hΓ [124] [26, 27, 23, 24] (by kernel_rfl) rfl (by simp [h75])) ?_
          refine AWp.cond (b := (pickB (neI r6.2.1 r7.2.2) true (neI ((gD r6.1 r7.2.1).getD dflt) 0))) (by simp) (fun h76 => ?_) (fun h76 => ?_)
          ·have hr := Li h76 hr
           refine AWp.thenA [⟨14, none, .b false⟩] (AWp.reg Tryz.tyOk hΓ [14] [124, 20, 19, 18, 16, 15, 6] (by kernel_rfl) rfl (by simp [h76])) ?_
           refine AWp.ret ?_
           obtain rfl := La hr
           refine meet_ret ?_
           refine ⟨_, rfl, ?_⟩
           refine ⟨_, rfl, ?_⟩
           refine Lf ?_
           simp
          ·have hr := Lj h76 hr
           refine AWp.skip ?_
           obtain rfl := La hr
           exact Ll () 12 (by first | (simp; done) | simp [h47, h48, h49, h50, h51, h63, h64, h65, h66, h67, h68, h73, h74, h75, h76])
        ·have hr := Lj h67 hr
         refine AWp.thenA [⟨125, none, .b (eqI ((nthI x6 s5.1).fY) 2)⟩, ⟨21, none, .ptr 11 0⟩, ⟨20, none, .n s5.1⟩, ⟨19, none, .n s5.2.1⟩, ⟨18, none, .sl (r4.map Tb.enc) .no⟩, ⟨16, none, .ptr 10 0⟩, ⟨15, none, .ptr 9 0⟩, ⟨6, none, .sl (x6.map Tp.enc) .no⟩] (AWp.reg Tryz.tyOk hΓ [125] [69, 68] (by kernel_rfl) rfl (by simp [h67])) ?_
         refine AWp.cond (b := (eqI ((nthI x6 s5.1).fY) 2)) (by simp) (fun h77 => ?_) (fun h77 => ?_)
         ·have hr := Li h77 hr
          refine AWp.thenA [⟨19, none, .n (addI .i64 s5.2.1 (bitsOp .and .i64 ((nthI x6 s5.1).fN) 31))⟩, ⟨20, none, .n s5.1⟩, ⟨18, none, .sl (r4.map Tb.enc) .no⟩, ⟨16, none, .ptr 10 0⟩, ⟨15, none, .ptr 9 0⟩, ⟨6, none, .sl (x6.map Tp.enc) .no⟩] (AWp.reg Tryz.tyOk hΓ [19] [125, 21] (by kernel_rfl) rfl (by simp [h77])) ?_
          obtain ⟨r8, h78, hr⟩ := Lb hr
          refine AWp.then ⟨[⟨28, none, .sl (r8.1.map Tl.enc) .no⟩, ⟨19, none, .n (addI .i64 s5.2.1 (bitsOp .and .i64 ((nthI x6 s5.1).fN) 31))⟩, ⟨20, none, .n s5.1⟩, ⟨18, none, .sl (r4.map Tb.enc) .no⟩, ⟨16, none, .ptr 10 0⟩, ⟨15, none, .ptr 9 0⟩, ⟨6, none, .sl (x6.map Tp.enc) .no⟩], [.dead, .dead, .dead, .dead, .mapo (encM (kI .i64) (vA Ta.enc) r8.2.fa.fOf), .blk (r8.2.fa.fb.enc ++ [.b r8.2.fa.fd, .n r8.2.fa.fg, .mp 4, .n r8.2.fa.fe]), .dead, .blk r8.2.fc.enc, .mapo (encM (kI .i64) (vA Tb.enc) r8.2.fOf), .blk ([.ptr 5 0, .ptr 7 0] ++ r8.2.ff.enc ++ r8.2.fh.enc ++ [.mp 8, .n r8.2.fq, .n r8.2.fo]), .blk s5.2.2.2.2.2.2.2.2.2.2.2.2.2.enc, .blk (nthI x6 s5.1).enc]⟩ (AWp.reg Tryz.tyOk hΓ [28] [] (by kernel_rfl) rfl (by simp [h78])) ?_
          obtain ⟨r9, h79, hr⟩ := Lb hr
          refine AWp.then ⟨[⟨29, none, .ptr 12 0⟩, ⟨30, none, .sl (r9.2.map (encL Tc.enc)) .no⟩, ⟨28, none, .sl (r8.1.map Tl.enc) .no⟩, ⟨19, none, .n (addI .i64 s5.2.1 (bitsOp .and .i64 ((nthI x6 s5.1).fN) 31))⟩, ⟨20, none, .n s5.1⟩, ⟨18, none, .sl (r4.map Tb.enc) .no⟩, ⟨16, none, .ptr 10 0⟩, ⟨15, none, .ptr 9 0⟩, ⟨6, none, .sl (x6.map Tp.enc) .no⟩], [.dead, .dead, .dead, .dead, .mapo (encM (kI .i64) (vA Ta.enc) r8.2.fa.fOf), .blk (r8.2.fa.fb.enc ++ [.b r8.2.fa.fd, .n r8.2.fa.fg, .mp 4, .n r8.2.fa.fe]), .dead, .blk r8.2.fc.enc, .mapo (encM (kI .i64) (vA Tb.enc) r8.2.fOf), .blk ([.ptr 5 0, .ptr 7 0] ++ r8.2.ff.enc ++ r8.2.fh.enc ++ [.mp 8, .n r8.2.fq, .n r8.2.fo]), .blk s5.2.2.2.2.2.2.2.2.2.2.2.2.2.enc, .blk (nthI x6 s5.1).enc, .blk r9.1.enc]⟩ (AWp.reg Tryz.tyOk hΓ [29, 30] [] (by kernel_rfl) rfl (by simp [h79])) ?_
          refine AWp.then ⟨[⟨30, none, .sl (r9.2.map (encL Tc.enc)) .no⟩, ⟨28, none, .sl (r8.1.map Tl.enc) .no⟩, ⟨19, none, .n (addI .i64 s5.2.1 (bitsOp .and .i64 ((nthI x6 s5.1).fN) 31))⟩, ⟨20, none, .n s5.1⟩, ⟨18, none, .sl (r4.map Tb.enc) .no⟩, ⟨16, none, .ptr 10 0⟩, ⟨15, none, .ptr 9 0⟩, ⟨6, none, .sl (x6.map Tp.enc) .no⟩], [.dead, .dead, .dead, .dead, .mapo (encM (kI .i64) (vA Ta.enc) r8.2.fa.fOf), .blk (r8.2.fa.fb.enc ++ [.b r8.2.fa.fd, .n r8.2.fa.fg, .mp 4, .n r8.2.fa.fe]), .dead, .blk r8.2.fc.enc, .mapo (encM (kI .i64) (vA Tb.enc) r8.2.fOf), .blk ([.ptr 5 0, .ptr 7 0] ++ r8.2.ff.enc ++ r8.2.fh.enc ++ [.mp 8, .n r8.2.fq, .n r8.2.fo]), .blk r9.1.enc, .blk (nthI x6 s5.1).enc, .blk r9.1.enc]⟩ (AWp.reg Tryz.tyOk hΓ [] [29] (by kernel_rfl) rfl (by simp)) ?_
          obtain ⟨r10, h80, hr⟩ := Lb hr
          refine AWp.thenA [⟨145, none, .b (neI r10 0)⟩, ⟨19, none, .n (addI .i64 s5.2.1 (bitsOp .and .i64 ((nthI x6 s5.1).fN) 31))⟩, ⟨20, none, .n s5.1⟩, ⟨18, none, .sl (r4.map Tb.enc) .no⟩, ⟨16, none, .ptr 10 0⟩, ⟨15, none, .ptr 9 0⟩, ⟨6, none, .sl (x6.map Tp.enc) .no⟩] (AWp.reg Tryz.tyOk hΓ [145] [30, 28] (by kernel_rfl) rfl (by simp [h80])) ?_
          refine AWp.cond (b := (neI r10 0)) (by simp) (fun h81 => ?_) (fun h81 => ?_)
          ·have hr := Li h81 hr
           refine AWp.thenA [⟨14, none, .b false⟩] (AWp.reg Tryz.tyOk hΓ [14] [145, 19, 20, 18, 16, 15, 6] (by kernel_rfl) rfl (by simp [h81])) ?_
           refine AWp.ret ?_
           obtain rfl := La hr
           refine meet_ret ?_
           refine ⟨_, rfl, ?_⟩
           refine ⟨_, rfl, ?_⟩
           refine Lf ?_
           simp
          ·have hr := Lj h81 hr
           refine AWp.skip ?_
           obtain rfl := La hr
           exact Ll () 12 (by first | (simp; done) | simp [h47, h48, h49, h50, h51, h63, h64, h65, h66, h67, h77, h78, h79, h80, h81])
         ·have hr := Lj h77 hr
          refine AWp.skip ?_
          obtain rfl := La hr
          exact Ll () 12 (by first | (simp; done) | simp [h47, h48, h49, h50, h51, h63, h64, h65, h66, h67, h77])
       ·obtain ⟨r11, h82, hr⟩ := Lb hr
        refine AWp.then ⟨[⟨31, none, .n r11.1⟩, ⟨32, none, .n r11.2⟩, ⟨20, none, .n s5.1⟩, ⟨19, none, .n v7.2.2.2.2.2.2.2.2.2.2.2.2⟩, ⟨18, none, .sl (r4.map Tb.enc) .no⟩, ⟨16, none, .ptr 10 0⟩, ⟨15, none, .ptr 9 0⟩, ⟨6, none, .sl (x6.map Tp.enc) .no⟩], [.dead, .dead, .dead, .dead, .mapo (encM (kI .i64) (vA Ta.enc) v7.1), .blk (v7.2.1.enc ++ [.b v7.2.2.1, .n v7.2.2.2.1, .mp 4, .n v7.2.2.2.2.1]), .dead, .blk v7.2.2.2.2.2.1.enc, .mapo (encM (kI .i64) (vA Tb.enc) v7.2.2.2.2.2.2.1), .blk ([.ptr 5 0, .ptr 7 0] ++ v7.2.2.2.2.2.2.2.1.enc ++ v7.2.2.2.2.2.2.2.2.1.enc ++ [.mp 8, .n v7.2.2.2.2.2.2.2.2.2.1, .n v7.2.2.2.2.2.2.2.2.2.2.1]), .blk v7.2.2.2.2.2.2.2.2.2.2.2.1.enc, .blk (nthI x6 s5.1).enc]⟩ (AWp.reg Tryz.tyOk hΓ [31, 32] [] (by kernel_rfl) rfl (by simp [h82])) ?_
        obtain ⟨r12, h83, hr⟩ := Lb hr
        obtain ⟨r13, h84, hr⟩ := Lb hr
        refine AWp.thenA [⟨33, none, .sl (r12.map (eNum .u16)) .no⟩, ⟨34, none, .sl (r13.map (eNum .i64)) .no⟩, ⟨31, none, .n r11.1⟩, ⟨32, none, .n r11.2⟩, ⟨20, none, .n s5.1⟩, ⟨19, none, .n v7.2.2.2.2.2.2.2.2.2.2.2.2⟩, ⟨18, none, .sl (r4.map Tb.enc) .no⟩, ⟨16, none, .ptr 10 0⟩, ⟨15, none, .ptr 9 0⟩, ⟨6, none, .sl (x6.map Tp.enc) .no⟩] (AWp.regD Tryz.mixed Tryz.tyOk hΓ [33, 34] [] [] [(false, []), (false, []), (false, []), (false, []), (false, []), (false, []), (false, [])] (by kernel_rfl) rfl (by simp [h83, h84])) ?_
        refine AWp.seq ?_
        obtain ⟨r14, h85, hr⟩ := Lb hr
        obtain ⟨h86, hr⟩ := Lc hr
        obtain ⟨h87, hr⟩ := Lc hr
        refine AWp.then ⟨[⟨200, none, .b (pickB (pickB (pickB (pickB (pickB (neI r14 v7.2.2.2.2.2.2.2.2.2.2.2.1.fq) true (neI r11.1 v7.2.2.2.2.2.2.2.2.2.2.2.1.fc.fy)) true (neI r11.2 v7.2.2.2.2.2.2.2.2.2.2.2.1.fc.fe)) true (neI ((gu (Tf.mk (Th.mk v7.2.1 v7.2.2.1 v7.2.2.2.1 v7.1 v7.2.2.2.2.1) v7.2.2.2.2.2.1 v7.2.2.2.2.2.2.2.1 v7.2.2.2.2.2.2.2.2.1 v7.2.2.2.2.2.2.1 v7.2.2.2.2.2.2.2.2.2.1 v7.2.2.2.2.2.2.2.2.2.2.1)).getD dflt) v7.2.2.2.2.2.2.2.2.2.2.2.1.fo)) true (neI ((gA (Th.mk v7.2.1 v7.2.2.1 v7.2.2.2.1 v7.1 v7.2.2.2.2.1)).getD dflt) (lenL v7.2.2.2.2.2.2.2.2.2.2.2.1.fm.fL))) true (neI (lenL r12) (lenL r13)))⟩, ⟨33, none, .sl (r12.map (eNum .u16)) .no⟩, ⟨34, none, .sl (r13.map (eNum .i64)) .no⟩, ⟨20, none, .n s5.1⟩, ⟨19, none, .n v7.2.2.2.2.2.2.2.2.2.2.2.2⟩, ⟨18, none, .sl (r4.map Tb.enc) .no⟩, ⟨16, none, .ptr 10 0⟩, ⟨15, none, .ptr 9 0⟩, ⟨6, none, .sl (x6.map Tp.enc) .no⟩], [.dead, .dead, .dead, .dead, .mapo (encM (kI .i64) (vA Ta.enc) v7.1), .blk (v7.2.1.enc ++ [.b v7.2.2.1, .n v7.2.2.2.1, .mp 4, .n v7.2.2.2.2.1]), .dead, .blk v7.2.2.2.2.2.1.enc, .mapo (encM (kI .i64) (vA Tb.enc) v7.2.2.2.2.2.2.1), .blk ([.ptr 5 0, .ptr 7 0] ++ v7.2.2.2.2.2.2.2.1.enc ++ v7.2.2.2.2.2.2.2.2.1.enc ++ [.mp 8, .n v7.2.2.2.2.2.2.2.2.2.1, .n v7.2.2.2.2.2.2.2.2.2.2.1]), .blk v7.2.2.2.2.2.2.2.2.2.2.2.1.enc, .blk (nthI x6 s5.1).enc]⟩ (AWp.regD Tryz.mixed Tryz.tyOk hΓ [200] [31, 32] [] [(false, []), (false, []), (false, []), (false, []), (false, []), (false, []), (false, [161]), (false, [161]), (false, [161]), (false, [161]), (false, [161]), (false, []), (false, []), (false, [168]), (false, [168]), (false, [168]), (false, [168]), (false, [168]), (false, []), (false, []), (false, [175]), (false, [175]), (false, [175]), (false, [175]), (false, [175]), (false, []), (false, []), (false, [182]), (false, [182]), (false, [182]), (false, [182]), (false, [182]), (false, [182]), (false, [182]), (false, [182]), (false, [182]), (false, [182]), (false, []), (false, []), (false, [194]), (false, [194]), (false, [194]), (false, [194]), (false, [194]), (false, [])] (by kernel_rfl) rfl (by simp [h85, h86, h87])) ?_
        refine AWp.cond (b := (pickB (pickB (pickB (pickB (pickB (neI r14 v7.2.2.2.2.2.2.2.2.2.2.2.1.fq) true (neI r11.1 v7.2.2.2.2.2.2.2.2.2.2.2.1.fc.fy)) true (neI r11.2 v7.2.2.2.2.2.2.2.2.2.2.2.1.fc.fe)) true (neI ((gu (Tf.mk (Th.mk v7.2.1 v7.2.2.1 v7.2.2.2.1 v7.1 v7.2.2.2.2.1) v7.2.2.2.2.2.1 v7.2.2.2.2.2.2.2.1 v7.2.2.2.2.2.2.2.2.1 v7.2.2.2.2.2.2.1 v7.2.2.2.2.2.2.2.2.2.1 v7.2.2.2.2.2.2.2.2.2.2.1)).getD dflt) v7.2.2.2.2.2.2.2.2.2.2.2.1.fo)) true (neI ((gA (Th.mk v7.2.1 v7.2.2.1 v7.2.2.2.1 v7.1 v7.2.2.2.2.1)).getD dflt) (lenL v7.2.2.2.2.2.2.2.2.2.2.2.1.fm.fL))) true (neI (lenL r12) (lenL r13)))) (by simp) (fun h88 => ?_) (fun h88 => ?_)
        ·have hr := Li h88 hr
         refine AWp.thenA [⟨14, none, .b false⟩] (AWp.reg Tryz.tyOk hΓ [14] [200, 33, 34, 20, 19, 18, 16, 15, 6] (by kernel_rfl) rfl (by simp [h88])) ?_
         refine AWp.ret ?_
         obtain rfl := La hr
         refine meet_ret ?_
         refine ⟨_, rfl, ?_⟩
         refine Lf ?_
         simp
        ·have hr := Lj h88 hr
         refine AWp.skip ?_
         refine AWp.then ⟨[⟨202, none, .n (lenL r13)⟩, ⟨203, none, .n 0⟩, ⟨33, none, .sl (r12.map (eNum .u16)) .no⟩, ⟨34, none, .sl (r13.map (eNum .i64)) .no⟩, ⟨20, none, .n s5.1⟩, ⟨19, none, .n v7.2.2.2.2.2.2.2.2.2.2.2.2⟩, ⟨18, none, .sl (r4.map Tb.enc) .no⟩, ⟨16, none, .ptr 10 0⟩, ⟨15, none, .ptr 9 0⟩, ⟨6, none, .sl (x6.map Tp.enc) .no⟩], [.dead, .dead, .dead, .dead, .mapo (encM (kI .i64) (vA Ta.enc) v7.1), .blk (v7.2.1.enc ++ [.b v7.2.2.1, .n v7.2.2.2.1, .mp 4, .n v7.2.2.2.2.1]), .dead, .blk v7.2.2.2.2.2.1.enc, .mapo (encM (kI .i64) (vA Tb.enc) v7.2.2.2.2.2.2.1), .blk ([.ptr 5 0, .ptr 7 0] ++ v7.2.2.2.2.2.2.2.1.enc ++ v7.2.2.2.2.2.2.2.2.1.enc ++ [.mp 8, .n v7.2.2.2.2.2.2.2.2.2.1, .n v7.2.2.2.2.2.2.2.2.2.2.1]), .blk v7.2.2.2.2.2.2.2.2.2.2.2.1.enc, .blk (nthI x6 s5.1).enc]⟩ (AWp.reg Tryz.tyOk hΓ [202, 203] [200] (by kernel_rfl) rfl (by simp [h88])) ?_
         refine AWp.loopE (fun (s9 : Int) (γ9 : Unit) => ⟨[⟨202, none, .n (lenL r13)⟩, ⟨203, none, .n s9⟩, ⟨33, none, .sl (r12.map (eNum .u16)) .no⟩, ⟨34, none, .sl (r13.map (eNum .i64)) .no⟩, ⟨20, none, .n s5.1⟩, ⟨19, none, .n v7.2.2.2.2.2.2.2.2.2.2.2.2⟩, ⟨18, none, .sl (r4.map Tb.enc) .no⟩, ⟨16, none, .ptr 10 0⟩, ⟨15, none, .ptr 9 0⟩, ⟨6, none, .sl (x6.map Tp.enc) .no⟩], [.dead, .dead, .dead, .dead, .mapo (encM (kI .i64) (vA Ta.enc) v7.1), .blk (v7.2.1.enc ++ [.b v7.2.2.1, .n v7.2.2.2.1, .mp 4, .n v7.2.2.2.2.1]), .dead, .blk v7.2.2.2.2.2.1.enc, .mapo (encM (kI .i64) (vA Tb.enc) v7.2.2.2.2.2.2.1), .blk ([.ptr 5 0, .ptr 7 0] ++ v7.2.2.2.2.2.2.2.1.enc ++ v7.2.2.2.2.2.2.2.2.1.enc ++ [.mp 8, .n v7.2.2.2.2.2.2.2.2.2.1, .n v7.2.2.2.2.2.2.2.2.2.2.1]), .blk v7.2.2.2.2.2.2.2.2.2.2.2.1.enc, .blk (nthI x6 s5.1).enc]⟩) (fun (v9 : Unit) (γ9a : Unit) => ⟨[⟨20, none, .n s5.1⟩, ⟨19, none, .n v7.2.2.2.2.2.2.2.2.2.2.2.2⟩, ⟨18, none, .sl (r4.map Tb.enc) .no⟩, ⟨16, none, .ptr 10 0⟩, ⟨15, none, .ptr 9 0⟩, ⟨6, none, .sl (x6.map Tp.enc) .no⟩], [.dead, .dead, .dead, .dead, .mapo (encM (kI .i64) (vA Ta.enc) v7.1), .blk (v7.2.1.enc ++ [.b v7.2.2.1, .n v7.2.2.2.1, .mp 4, .n v7.2.2.2.2.1]), .dead, .blk v7.2.2.2.2.2.1.enc, .mapo (encM (kI .i64) (vA Tb.enc) v7.2.2.2.2.2.2.1), .blk ([.ptr 5 0, .ptr 7 0] ++ v7.2.2.2.2.2.2.2.1.enc ++ v7.2.2.2.2.2.2.2.2.1.enc ++ [.mp 8, .n v7.2.2.2.2.2.2.2.2.2.1, .n v7.2.2.2.2.2.2.2.2.2.2.1]), .blk v7.2.2.2.2.2.2.2.2.2.2.2.1.enc, .blk (nthI x6 s5.1).enc]⟩) (QRm (QRr (gf.fin x0 x1 x2 x3 x4 x5 x6))) hr () 12 (by simp) (fun s9 f γ9 hr => ?_) (fun v9 γ9a σ1 m1 hr hc => ?_) (fun _ h => QRm_ret h)
         ·unfold gf.loop9 at hr
          refine AWp.then ⟨[⟨204, none, .b (ltI s9 (lenL r13))⟩, ⟨202, none, .n (lenL r13)⟩, ⟨203, none, .n s9⟩, ⟨33, none, .sl (r12.map (eNum .u16)) .no⟩, ⟨34, none, .sl (r13.map (eNum .i64)) .no⟩, ⟨20, none, .n s5.1⟩, ⟨19, none, .n v7.2.2.2.2.2.2.2.2.2.2.2.2⟩, ⟨18, none, .sl (r4.map Tb.enc) .no⟩, ⟨16, none, .ptr 10 0⟩, ⟨15, none, .ptr 9 0⟩, ⟨6, none, .sl (x6.map Tp.enc) .no⟩], [.dead, .dead, .dead, .dead, .mapo (encM (kI .i64) (vA Ta.enc) v7.1), .blk (v7.2.1.enc ++ [.b v7.2.2.1, .n v7.2.2.2.1, .mp 4, .n v7.2.2.2.2.1]), .dead, .blk v7.2.2.2.2.2.1.enc, .mapo (encM (kI .i64) (vA Tb.enc) v7.2.2.2.2.2.2.1), .blk ([.ptr 5 0, .ptr 7 0] ++ v7.2.2.2.2.2.2.2.1.enc ++ v7.2.2.2.2.2.2.2.2.1.enc ++ [.mp 8, .n v7.2.2.2.2.2.2.2.2.2.1, .n v7.2.2.2.2.2.2.2.2.2.2.1]), .blk v7.2.2.2.2.2.2.2.2.2.2.2.1.enc, .blk (nthI x6 s5.1).enc]⟩ (AWp.reg Tryz.tyOk hΓ [204] [] (by kernel_rfl) rfl (by simp)) ?_
          refine AWp.seq ?_
          refine AWp.cond (b := (ltI s9 (lenL r13))) (by simp) (fun h89 => ?_) (fun h89 => ?_)
          ·have hr := Li h89 hr
           refine AWp.skip ?_
           refine AWp.seq ?_
           refine AWp.block ?_
           refine AWp.then ⟨[⟨35, none, .n s9⟩, ⟨202, none, .n (lenL r13)⟩, ⟨203, none, .n s9⟩, ⟨33, none, .sl (r12.map (eNum .u16)) .no⟩, ⟨34, none, .sl (r13.map (eNum .i64)) .no⟩, ⟨20, none, .n s5.1⟩, ⟨19, none, .n v7.2.2.2.2.2.2.2.2.2.2.2.2⟩, ⟨18, none, .sl (r4.map Tb.enc) .no⟩, ⟨16, none, .ptr 10 0⟩, ⟨15, none, .ptr 9 0⟩, ⟨6, none, .sl (x6.map Tp.enc) .no⟩], [.dead, .dead, .dead, .dead, .mapo (encM (kI .i64) (vA Ta.enc) v7.1), .blk (v7.2.1.enc ++ [.b v7.2.2.1, .n v7.2.2.2.1, .mp 4, .n v7.2.2.2.2.1]), .dead, .blk v7.2.2.2.2.2.1.enc, .mapo (encM (kI .i64) (vA Tb.enc) v7.2.2.2.2.2.2.1), .blk ([.ptr 5 0, .ptr 7 0] ++ v7.2.2.2.2.2.2.2.1.enc ++ v7.2.2.2.2.2.2.2.2.1.enc ++ [.mp 8, .n v7.2.2.2.2.2.2.2.2.2.1, .n v7.2.2.2.2.2.2.2.2.2.2.1]), .blk v7.2.2.2.2.2.2.2.2.2.2.2.1.enc, .blk (nthI x6 s5.1).enc]⟩ (AWp.reg Tryz.tyOk hΓ [35] [204] (by kernel_rfl) rfl (by simp [h89])) ?_
           obtain ⟨h90, hr⟩ := Lc hr
           obtain ⟨h91, hr⟩ := Lc hr
           refine AWp.thenA [⟨215, none, .b (neI (nthI r12 s9) (cvtI .u16 (nthI r13 s9)))⟩, ⟨202, none, .n (lenL r13)⟩, ⟨203, none, .n s9⟩, ⟨33, none, .sl (r12.map (eNum .u16)) .no⟩, ⟨34, none, .sl (r13.map (eNum .i64)) .no⟩, ⟨20, none, .n s5.1⟩, ⟨19, none, .n v7.2.2.2.2.2.2.2.2.2.2.2.2⟩, ⟨18, none, .sl (r4.map Tb.enc) .no⟩, ⟨16, none, .ptr 10 0⟩, ⟨15, none, .ptr 9 0⟩, ⟨6, none, .sl (x6.map Tp.enc) .no⟩] (AWp.regD Tryz.mixed Tryz.tyOk hΓ [215] [35] [] [(false, []), (false, []), (false, []), (false, []), (false, []), (false, []), (false, []), (false, []), (false, []), (false, [])] (by kernel_rfl) rfl (by simp [h90, h91])) ?_
           refine AWp.cond (b := (neI (nthI r12 s9) (cvtI .u16 (nthI r13 s9)))) (by simp) (fun h92 => ?_) (fun h92 => ?_)
           ·have hr := Li h92 hr
            refine AWp.thenA [⟨14, none, .b false⟩] (AWp.reg Tryz.tyOk hΓ [14] [215, 202, 203, 33, 34, 20, 19, 18, 16, 15, 6] (by kernel_rfl) rfl (by simp [h92])) ?_
            refine AWp.ret ?_
            obtain rfl := La hr
            refine round_ret ?_
            refine ⟨_, rfl, ?_⟩
            refine ⟨_, rfl, ?_⟩
            refine Lf ?_
            simp
           ·have hr := Lj h92 hr
            refine AWp.skip ?_
            refine AWp.last ⟨[⟨203, none, .n (addI .i64 s9 1)⟩, ⟨202, none, .n (lenL r13)⟩, ⟨33, none, .sl (r12.map (eNum .u16)) .no⟩, ⟨34, none, .sl (r13.map (eNum .i64)) .no⟩, ⟨20, none, .n s5.1⟩, ⟨19, none, .n v7.2.2.2.2.2.2.2.2.2.2.2.2⟩, ⟨18, none, .sl (r4.map Tb.enc) .no⟩, ⟨16, none, .ptr 10 0⟩, ⟨15, none, .ptr 9 0⟩, ⟨6, none, .sl (x6.map Tp.enc) .no⟩], [.dead, .dead, .dead, .dead, .mapo (encM (kI .i64) (vA Ta.enc) v7.1), .blk (v7.2.1.enc ++ [.b v7.2.2.1, .n v7.2.2.2.1, .mp 4, .n v7.2.2.2.2.1]), .dead, .blk v7.2.2.2.2.2.1.enc, .mapo (encM (kI .i64) (vA Tb.enc) v7.2.2.2.2.2.2.1), .blk ([.ptr 5 0, .ptr 7 0] ++ v7.2.2.2.2.2.2.2.1.enc ++ v7.2.2.2.2.2.2.2.2.1.enc ++ [.mp 8, .n v7.2.2.2.2.2.2.2.2.2.1, .n v7.2.2.2.2.2.2.2.2.2.2.1]), .blk v7.2.2.2.2.2.2.2.2.2.2.2.1.enc, .blk (nthI x6 s5.1).enc]⟩ (AWp.reg Tryz.tyOk hΓ [203] [215] (by kernel_rfl) rfl (by simp [h92])) ?_
            obtain rfl := La hr
            exact Lq () 12 (by first | (simp; done) | simp [h47, h48, h49, h50, h51, h63, h64, h65, h66, h82, h83, h84, h85, h86, h87, h88, h89, h90, h91, h92])
          ·have hr := Lj h89 hr
           refine AWp.exit ?_
           obtain rfl := La hr
           exact Lo () 12 (by first | (simp; done) | simp [h47, h48, h49, h50, h51, h63, h64, h65, h66, h82, h83, h84, h85, h86, h87, h88, h89])
         ·obtain rfl := La hr
          exact Ll () 11 (Conv.trans hc (by first | (simp; done) | simp [h47, h48, h49, h50, h51, h63, h64, h65, h66, h82, h83, h84, h85, h86, h87, h88]))
      ·refine AWp.last ⟨[⟨20, none, .n (addI .i64 s5.1 1)⟩, ⟨19, none, .n v6.1⟩, ⟨18, none, .sl (r4.map Tb.enc) .no⟩, ⟨16, none, .ptr 10 0⟩, ⟨15, none, .ptr 9 0⟩, ⟨6, none, .sl (x6.map Tp.enc) .no⟩], [.dead, .dead, .dead, .dead, .mapo (encM (kI .i64) (vA Ta.enc) v6.2.1), .blk (v6.2.2.1.enc ++ [.b v6.2.2.2.1, .n v6.2.2.2.2.1, .mp 4, .n v6.2.2.2.2.2.1]), .dead, .blk v6.2.2.2.2.2.2.1.enc, .mapo (encM (kI .i64) (vA Tb.enc) v6.2.2.2.2.2.2.2.1), .blk ([.ptr 5 0, .ptr 7 0] ++ v6.2.2.2.2.2.2.2.2.1.enc ++ v6.2.2.2.2.2.2.2.2.2.1.enc ++ [.mp 8, .n v6.2.2.2.2.2.2.2.2.2.2.1, .n v6.2.2.2.2.2.2.2.2.2.2.2.1]), .blk v6.2.2.2.2.2.2.2.2.2.2.2.2.enc]⟩ (AWp.reg Tryz.tyOk hΓ [20] [] (by kernel_rfl) rfl (by simp)) ?_
       obtain rfl := La hr
       exact Lq () 11 (by first | (simp; done) | simp [h47, h48, h49, h50, h51, h63, h64, h65])
     ·have hr := Lj h65 hr
      refine AWp.exit ?_
      obtain rfl := La hr
      exact Lo () 11 (by first | (simp; done) | simp [h47, h48, h49, h50, h51, h63, h64, h65])
    ·refine AWp.conv hc ?_
     refine AWp.then ⟨[⟨14, none, .b true⟩], [.dead, .dead, .dead, .dead, .mapo (encM (kI .i64) (vA Ta.enc) v5.1), .blk (v5.2.1.enc ++ [.b v5.2.2.1, .n v5.2.2.2.1, .mp 4, .n v5.2.2.2.2.1]), .dead, .blk v5.2.2.2.2.2.1.enc, .mapo (encM (kI .i64) (vA Tb.enc) v5.2.2.2.2.2.2.1), .blk ([.ptr 5 0, .ptr 7 0] ++ v5.2.2.2.2.2.2.2.1.enc ++ v5.2.2.2.2.2.2.2.2.1.enc ++ [.mp 8, .n v5.2.2.2.2.2.2.2.2.2.1, .n v5.2.2.2.2.2.2.2.2.2.2.1]), .blk v5.2.2.2.2.2.2.2.2.2.2.2.enc]⟩ (AWp.reg Tryz.tyOk hΓ [14] [] (by kernel_rfl) rfl (by simp)) ?_
     refine AWp.ret ?_
     obtain rfl := La hr
     refine Lf ?_
     simp

end Go.Proofs

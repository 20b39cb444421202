/- That these functions compute what their plain functions do. No condition. -/
import Derived.Test.YtbijdlgffebenaaGreatM01
import Derived.Test.YtbijdlgffebenaaGreatTy
import Derived.Test.YtbijdlgffebenaaGreatM07
import Derived.Test.YtbijdlgffebenaaGreatOx
import Derived.Test.YtbijdlgffebenaaGreatIg
import Derived.Test.YtbijdlgffebenaaGreatFr
set_option maxRecDepth 100000
set_option maxHeartbeats 4000000
namespace Go.Proofs
open Go.Ab
@[simp] def gn.out (_x0 : Int) (_x1 : List Int) (r : List Tb) : Out := { av := .sl (r.map Tb.enc) .no, M := none }
def gn.fin (x0 : Int) (x1 : List Int) (r : List Tb) (σ : St) : Prop := finK (gn.out x0 x1 r) [] σ.M (resA Tryz.ty σ.A σ.M Tryz.f7.results.toList)
theorem gn.can (x0 : Int) (x1 : List Int) (r : List Tb) (hr : gn x0 x1 = some r) : CallOk Tryz.prog 7 [.lit (.int .u16 x0), .sl (x1.map (eNum .i64)) .no] [] (gn.out x0 x1 r) := by
 unfold gn at hr
 have hΓ := (gamL_cons gai.ok (gamL_cons gap.ok (gamL_nil)) : GamOk Tryz.prog _)
 refine Le Tryz.tyOk Tryz.func7 rfl (by kernel_rfl) rfl rfl (by simp) ?_
 intro _ _ _
 refine AWp.then ⟨[⟨0, none, .lit (.int .u16 x0)⟩, ⟨1, none, .sl (x1.map (eNum .i64)) .no⟩], []⟩ (AWp.reg Tryz.tyOk hΓ [] [] (by kernel_rfl) rfl (by simp)) ?_
 refine AWp.thenA [⟨5, none, .sl [] .full⟩, ⟨0, none, .lit (.int .u16 x0)⟩, ⟨1, none, .sl (x1.map (eNum .i64)) .no⟩] (AWp.reg Tryz.tyOk hΓ [5] [] (by kernel_rfl) rfl (by simp)) ?_
 refine AWp.seq ?_
 refine AWp.then ⟨[⟨6, none, .n 0⟩, ⟨5, none, .sl [] .full⟩, ⟨0, none, .lit (.int .u16 x0)⟩, ⟨1, none, .sl (x1.map (eNum .i64)) .no⟩], []⟩ (AWp.reg Tryz.tyOk hΓ [6] [] (by kernel_rfl) rfl (by simp)) ?_
 refine AWp.equip 5 11 (els := []) (by simp) (by simp) ?_
 refine AWp.loopE (fun (s1 : Int × List Tb) (γ1 : Nat) => ⟨[⟨6, none, .n s1.1⟩, ⟨5, none, .sl (s1.2.map Tb.enc) (.own 0 (γ1) 11)⟩, ⟨0, none, .lit (.int .u16 x0)⟩, ⟨1, none, .sl (x1.map (eNum .i64)) .no⟩], [.room (γ1)]⟩) (fun (v1 : List Tb) (γ1a : Nat) => ⟨[⟨5, none, .sl (v1.map Tb.enc) (.own 0 (γ1a) 11)⟩], [.room (γ1a)]⟩) (gn.fin x0 x1) hr 0 1 (by simp) (fun s1 f γ1 hr => ?_) (fun v1 γ1a σ1 m1 hr hc => ?_) (fun _ h => h)
 ·unfold gn.loop1 at hr
  refine AWp.seq ?_
  refine AWp.then ⟨[⟨20, none, .b (pickB (ltI s1.1 (lenL x1)) (ltI (lenL s1.2) 56) false)⟩, ⟨6, none, .n s1.1⟩, ⟨5, none, .sl (s1.2.map Tb.enc) (.own 0 (γ1) 11)⟩, ⟨0, none, .lit (.int .u16 x0)⟩, ⟨1, none, .sl (x1.map (eNum .i64)) .no⟩], [.room (γ1)]⟩ (AWp.reg Tryz.tyOk hΓ [20] [] (by kernel_rfl) rfl (by simp)) ?_
  refine AWp.cond (b := (pickB (ltI s1.1 (lenL x1)) (ltI (lenL s1.2) 56) false)) (by simp) (fun h10 => ?_) (fun h10 => ?_)
  ·have hr := Li h10 hr
   refine AWp.skip ?_
   refine AWp.seq ?_
   refine AWp.block ?_
   obtain ⟨h11, hr⟩ := Lc hr
   refine AWp.then ⟨[⟨7, none, .n (addI .i64 1 (bitsOp .and .i64 (nthI x1 s1.1) 3))⟩, ⟨6, none, .n s1.1⟩, ⟨5, none, .sl (s1.2.map Tb.enc) (.own 0 (γ1) 11)⟩, ⟨0, none, .lit (.int .u16 x0)⟩, ⟨1, none, .sl (x1.map (eNum .i64)) .no⟩], [.room (γ1)]⟩ (AWp.reg Tryz.tyOk hΓ [7] [20] (by kernel_rfl) rfl (by simp [h10, h11])) ?_
   refine AWp.thenA [⟨29, none, .n (addI .i64 1 (bitsOp .and .i64 (nthI x1 s1.1) 3))⟩, ⟨30, none, .n 0⟩, ⟨7, none, .n (addI .i64 1 (bitsOp .and .i64 (nthI x1 s1.1) 3))⟩, ⟨6, none, .n s1.1⟩, ⟨5, none, .sl (s1.2.map Tb.enc) (.own 0 (γ1) 11)⟩, ⟨0, none, .lit (.int .u16 x0)⟩, ⟨1, none, .sl (x1.map (eNum .i64)) .no⟩] (AWp.reg Tryz.tyOk hΓ [29, 30] [] (by kernel_rfl) rfl (by simp)) ?_
   refine AWp.loopE (fun (s2 : Int × List Tb) (γ2 : Nat) => ⟨[⟨29, none, .n (addI .i64 1 (bitsOp .and .i64 (nthI x1 s1.1) 3))⟩, ⟨30, none, .n s2.1⟩, ⟨7, none, .n (addI .i64 1 (bitsOp .and .i64 (nthI x1 s1.1) 3))⟩, ⟨6, none, .n s1.1⟩, ⟨5, none, .sl (s2.2.map Tb.enc) (.own 0 (γ2) 11)⟩, ⟨0, none, .lit (.int .u16 x0)⟩, ⟨1, none, .sl (x1.map (eNum .i64)) .no⟩], [.room (γ2)]⟩) (fun (v2 : List Tb) (γ2a : Nat) => ⟨[⟨6, none, .n s1.1⟩, ⟨5, none, .sl (v2.map Tb.enc) (.own 0 (γ2a) 11)⟩, ⟨0, none, .lit (.int .u16 x0)⟩, ⟨1, none, .sl (x1.map (eNum .i64)) .no⟩], [.room (γ2a)]⟩) (QRr (gn.fin x0 x1)) hr (γ1) 1 (by simp) (fun s2 f γ2 hr => ?_) (fun v2 γ2a σ1 m1 hr hc => ?_) (fun _ h => QRr_ret h)
   ·unfold gn.loop2 at hr
    refine AWp.then ⟨[⟨31, none, .b (ltI s2.1 (addI .i64 1 (bitsOp .and .i64 (nthI x1 s1.1) 3)))⟩, ⟨29, none, .n (addI .i64 1 (bitsOp .and .i64 (nthI x1 s1.1) 3))⟩, ⟨30, none, .n s2.1⟩, ⟨7, none, .n (addI .i64 1 (bitsOp .and .i64 (nthI x1 s1.1) 3))⟩, ⟨6, none, .n s1.1⟩, ⟨5, none, .sl (s2.2.map Tb.enc) (.own 0 (γ2) 11)⟩, ⟨0, none, .lit (.int .u16 x0)⟩, ⟨1, none, .sl (x1.map (eNum .i64)) .no⟩], [.room (γ2)]⟩ (AWp.reg Tryz.tyOk hΓ [31] [] (by kernel_rfl) rfl (by simp)) ?_
    refine AWp.seq ?_
    refine AWp.cond (b := (ltI s2.1 (addI .i64 1 (bitsOp .and .i64 (nthI x1 s1.1) 3)))) (by simp) (fun h12 => ?_) (fun h12 => ?_)
    ·have hr := Li h12 hr
     refine AWp.skip ?_
     refine AWp.seq ?_
     refine AWp.block ?_
     refine AWp.then ⟨[⟨8, none, .n s2.1⟩, ⟨29, none, .n (addI .i64 1 (bitsOp .and .i64 (nthI x1 s1.1) 3))⟩, ⟨30, none, .n s2.1⟩, ⟨7, none, .n (addI .i64 1 (bitsOp .and .i64 (nthI x1 s1.1) 3))⟩, ⟨6, none, .n s1.1⟩, ⟨5, none, .sl (s2.2.map Tb.enc) (.own 0 (γ2) 11)⟩, ⟨0, none, .lit (.int .u16 x0)⟩, ⟨1, none, .sl (x1.map (eNum .i64)) .no⟩], [.room (γ2)]⟩ (AWp.reg Tryz.tyOk hΓ [8] [31] (by kernel_rfl) rfl (by simp [h12])) ?_
     obtain ⟨r1, h13, hr⟩ := Lb hr
     refine AWp.then ⟨[⟨9, none, .ptr 1 0⟩, ⟨8, none, .n s2.1⟩, ⟨29, none, .n (addI .i64 1 (bitsOp .and .i64 (nthI x1 s1.1) 3))⟩, ⟨30, none, .n s2.1⟩, ⟨7, none, .n (addI .i64 1 (bitsOp .and .i64 (nthI x1 s1.1) 3))⟩, ⟨6, none, .n s1.1⟩, ⟨5, none, .sl (s2.2.map Tb.enc) (.own 0 (γ2) 11)⟩, ⟨0, none, .lit (.int .u16 x0)⟩, ⟨1, none, .sl (x1.map (eNum .i64)) .no⟩], [.room (γ2), .blk r1.enc]⟩ (AWp.reg Tryz.tyOk hΓ [9] [] (by kernel_rfl) rfl (by simp [h13])) ?_
     refine AWp.then ⟨[⟨9, none, .ptr 1 0⟩, ⟨8, none, .n s2.1⟩, ⟨29, none, .n (addI .i64 1 (bitsOp .and .i64 (nthI x1 s1.1) 3))⟩, ⟨30, none, .n s2.1⟩, ⟨7, none, .n (addI .i64 1 (bitsOp .and .i64 (nthI x1 s1.1) 3))⟩, ⟨6, none, .n s1.1⟩, ⟨5, none, .sl (s2.2.map Tb.enc) (.own 0 (γ2) 11)⟩, ⟨0, none, .lit (.int .u16 x0)⟩, ⟨1, none, .sl (x1.map (eNum .i64)) .no⟩], [.room (γ2), .blk [.b r1.fI, .b (eqI s2.1 0), .n r1.fD, .n r1.fB, .b r1.fR, .n r1.fG, .n r1.fH, .b r1.fQ, .n r1.fJ]]⟩ (AWp.reg Tryz.tyOk hΓ [] [] (by kernel_rfl) rfl (by simp)) ?_
     refine AWp.thenA [⟨10, none, .lit (.int .u8 1)⟩, ⟨9, none, .ptr 1 0⟩, ⟨8, none, .n s2.1⟩, ⟨29, none, .n (addI .i64 1 (bitsOp .and .i64 (nthI x1 s1.1) 3))⟩, ⟨30, none, .n s2.1⟩, ⟨7, none, .n (addI .i64 1 (bitsOp .and .i64 (nthI x1 s1.1) 3))⟩, ⟨6, none, .n s1.1⟩, ⟨5, none, .sl (s2.2.map Tb.enc) (.own 0 (γ2) 11)⟩, ⟨0, none, .lit (.int .u16 x0)⟩, ⟨1, none, .sl (x1.map (eNum .i64)) .no⟩] (AWp.reg Tryz.tyOk hΓ [10] [] (by kernel_rfl) rfl (by simp)) ?_
     refine AWp.meetF (fun (v3 : Int) (γ3 : Unit) => ⟨[⟨10, none, .lit (.int .u8 v3)⟩, ⟨9, none, .ptr 1 0⟩, ⟨8, none, .n s2.1⟩, ⟨29, none, .n (addI .i64 1 (bitsOp .and .i64 (nthI x1 s1.1) 3))⟩, ⟨30, none, .n s2.1⟩, ⟨7, none, .n (addI .i64 1 (bitsOp .and .i64 (nthI x1 s1.1) 3))⟩, ⟨6, none, .n s1.1⟩, ⟨5, none, .sl (s2.2.map Tb.enc) (.own 0 (γ2) 11)⟩, ⟨0, none, .lit (.int .u16 x0)⟩, ⟨1, none, .sl (x1.map (eNum .i64)) .no⟩], [.room (γ2), .blk [.b r1.fI, .b (eqI s2.1 0), .n r1.fD, .n r1.fB, .b r1.fR, .n r1.fG, .n r1.fH, .b r1.fQ, .n r1.fJ]]⟩) (QRr (QRr (gn.fin x0 x1))) hr (fun f hr => ?_) (fun v3 γ3 hr => ?_) (fun _ h => QRr_ret h)
     ·obtain ⟨h14, hr⟩ := Lc hr
      refine AWp.then ⟨[⟨39, none, .b (eqI (remI s1.1 3) 0)⟩, ⟨10, none, .lit (.int .u8 1)⟩, ⟨9, none, .ptr 1 0⟩, ⟨8, none, .n s2.1⟩, ⟨29, none, .n (addI .i64 1 (bitsOp .and .i64 (nthI x1 s1.1) 3))⟩, ⟨30, none, .n s2.1⟩, ⟨7, none, .n (addI .i64 1 (bitsOp .and .i64 (nthI x1 s1.1) 3))⟩, ⟨6, none, .n s1.1⟩, ⟨5, none, .sl (s2.2.map Tb.enc) (.own 0 (γ2) 11)⟩, ⟨0, none, .lit (.int .u16 x0)⟩, ⟨1, none, .sl (x1.map (eNum .i64)) .no⟩], [.room (γ2), .blk [.b r1.fI, .b (eqI s2.1 0), .n r1.fD, .n r1.fB, .b r1.fR, .n r1.fG, .n r1.fH, .b r1.fQ, .n r1.fJ]]⟩ (AWp.reg Tryz.tyOk hΓ [39] [] (by kernel_rfl) rfl (by simp [h14])) ?_
      refine AWp.cond (b := (eqI (remI s1.1 3) 0)) (by simp) (fun h15 => ?_) (fun h15 => ?_)
      ·have hr := Li h15 hr
       refine AWp.last ⟨[⟨10, none, .lit (.int .u8 0)⟩, ⟨9, none, .ptr 1 0⟩, ⟨8, none, .n s2.1⟩, ⟨29, none, .n (addI .i64 1 (bitsOp .and .i64 (nthI x1 s1.1) 3))⟩, ⟨30, none, .n s2.1⟩, ⟨7, none, .n (addI .i64 1 (bitsOp .and .i64 (nthI x1 s1.1) 3))⟩, ⟨6, none, .n s1.1⟩, ⟨5, none, .sl (s2.2.map Tb.enc) (.own 0 (γ2) 11)⟩, ⟨0, none, .lit (.int .u16 x0)⟩, ⟨1, none, .sl (x1.map (eNum .i64)) .no⟩], [.room (γ2), .blk [.b r1.fI, .b (eqI s2.1 0), .n r1.fD, .n r1.fB, .b r1.fR, .n r1.fG, .n r1.fH, .b r1.fQ, .n r1.fJ]]⟩ (AWp.reg Tryz.tyOk hΓ [10] [39] (by kernel_rfl) rfl (by simp [h15])) ?_
       obtain rfl := La hr
       exact Ll () 2 (by first | (simp; done) | simp [h10, h11, h12, h13, h14, h15])
      ·have hr := Lj h15 hr
       refine AWp.skip ?_
       obtain rfl := La hr
       exact Ll () 2 (by first | (simp; done) | simp [h10, h11, h12, h13, h14, h15])
     ·obtain ⟨r2, h16, hr⟩ := Lb hr
      obtain ⟨h17, hr⟩ := Lc hr
      obtain ⟨h18, hr⟩ := Lc hr
      refine AWp.last ⟨[⟨5, none, .sl ((appL s2.2 [(Tb.mk (eqI s2.1 (subI .i64 (addI .i64 1 (bitsOp .and .i64 (nthI x1 s1.1) 3)) 1)) 96 (addI .u16 x0 (cvtI .u16 (lenL s2.2))) (cvtI .u32 (mulI .i64 3000 s1.1)) 7 [] false 0 ⟨#[]⟩ (catS r2 (strOfNums [v3, (cvtI .u8 s1.1), (cvtI .u8 s2.1)])) 0)]).map Tb.enc) (.own 0 (γ2 + 1) 11)⟩, ⟨29, none, .n (addI .i64 1 (bitsOp .and .i64 (nthI x1 s1.1) 3))⟩, ⟨30, none, .n s2.1⟩, ⟨7, none, .n (addI .i64 1 (bitsOp .and .i64 (nthI x1 s1.1) 3))⟩, ⟨6, none, .n s1.1⟩, ⟨0, none, .lit (.int .u16 x0)⟩, ⟨1, none, .sl (x1.map (eNum .i64)) .no⟩], [.room (γ2 + 1), .blk [.b r1.fI, .b (eqI s2.1 0), .n r1.fD, .n r1.fB, .b r1.fR, .n r1.fG, .n r1.fH, .b r1.fQ, .n r1.fJ]]⟩ (AWp.regD Tryz.mixed Tryz.tyOk hΓ [5] [10, 9, 8] [] [(false, []), (false, []), (false, []), (false, []), (false, []), (false, []), (false, []), (false, []), (false, []), (false, []), (false, []), (false, []), (false, []), (false, []), (false, []), (false, []), (false, []), (false, []), (false, []), (false, []), (false, []), (false, []), (false, []), (false, []), (false, []), (true, []), (false, [])] (by kernel_rfl) rfl (by simp [h16, h17, h18])) ?_
      refine AWp.last ⟨[⟨30, none, .n (addI .i64 s2.1 1)⟩, ⟨5, none, .sl ((appL s2.2 [(Tb.mk (eqI s2.1 (subI .i64 (addI .i64 1 (bitsOp .and .i64 (nthI x1 s1.1) 3)) 1)) 96 (addI .u16 x0 (cvtI .u16 (lenL s2.2))) (cvtI .u32 (mulI .i64 3000 s1.1)) 7 [] false 0 ⟨#[]⟩ (catS r2 (strOfNums [v3, (cvtI .u8 s1.1), (cvtI .u8 s2.1)])) 0)]).map Tb.enc) (.own 0 (γ2 + 1) 11)⟩, ⟨29, none, .n (addI .i64 1 (bitsOp .and .i64 (nthI x1 s1.1) 3))⟩, ⟨7, none, .n (addI .i64 1 (bitsOp .and .i64 (nthI x1 s1.1) 3))⟩, ⟨6, none, .n s1.1⟩, ⟨0, none, .lit (.int .u16 x0)⟩, ⟨1, none, .sl (x1.map (eNum .i64)) .no⟩], [.room (γ2 + 1), .blk [.b r1.fI, .b (eqI s2.1 0), .n r1.fD, .n r1.fB, .b r1.fR, .n r1.fG, .n r1.fH, .b r1.fQ, .n r1.fJ]]⟩ (AWp.reg Tryz.tyOk hΓ [30] [] (by kernel_rfl) rfl (by simp)) ?_
      obtain rfl := La hr
      exact Lq (γ2 + 1) 1 (by first | (simp; done) | simp [h10, h11, h12, h13, h16, h17, h18])
    ·have hr := Lj h12 hr
     refine AWp.exit ?_
     obtain rfl := La hr
     exact Lo (γ2) 1 (by first | (simp; done) | simp [h10, h11, h12])
   ·refine AWp.conv hc ?_
    refine AWp.last ⟨[⟨6, none, .n (addI .i64 s1.1 1)⟩, ⟨5, none, .sl (v2.map Tb.enc) (.own 0 (γ2a) 11)⟩, ⟨0, none, .lit (.int .u16 x0)⟩, ⟨1, none, .sl (x1.map (eNum .i64)) .no⟩], [.room (γ2a)]⟩ (AWp.reg Tryz.tyOk hΓ [6] [] (by kernel_rfl) rfl (by simp)) ?_
    obtain rfl := La hr
    exact Lq (γ2a) 1 (by first | (simp; done) | simp [h10, h11])
  ·have hr := Lj h10 hr
   refine AWp.exit ?_
   obtain rfl := La hr
   exact Lo (γ1) 1 (by first | (simp; done) | simp [h10])
 ·refine AWp.conv hc ?_
  refine AWp.then ⟨[⟨4, none, .sl (v1.map Tb.enc) (.own 0 (γ1a) 11)⟩], [.room (γ1a)]⟩ (AWp.reg Tryz.tyOk hΓ [4] [5] (by kernel_rfl) rfl (by simp)) ?_
  refine AWp.ret ?_
  obtain rfl := La hr
  refine Lf ?_
  simp

@[simp] noncomputable def gn.S : Sp
 | [.lit (.int .u16 x0), .sl e1 _], _ => some { av := .sl (((gn x0 (e1.map decI)).getD dflt).map Tb.enc) .no, M := none, obl := e1 = (e1.map decI).map (eNum .i64) ∧ (gn x0 (e1.map decI)).isSome = true }
 | _, _ => none

theorem gn.ok : SpecOk Tryz.prog 7 gn.S := by
 intro l M out h
 unfold gn.S at h
 split at h
 ·rename_i x0 e1 k1
  cases h
  refine callOk_of fun ho => ?_
  obtain ⟨ox1, hs⟩ := ho
  generalize (e1.map decI) = x1 at *
  subst ox1
  obtain ⟨r, hr⟩ := Option.isSome_iff_exists.1 hs
  simp only [hr, Option.getD_some]
  have q := Lg (M := M) [] (gn.can x0 x1 r hr) (by simp) rfl (by intro k i hk; simp at hk)
  exact callOk_conv q trivial (by simp) (by simp [frameOut, gn.out]) (by simp [frameOut, gn.out])
 ·cases h

@[simp] def gam.out (_x0 : Bool) (_x1 : Int) (_x2 : Int) (_x3 : Int) (r : Ty) : Out := { av := .agg [.lit (.int .i64 r.fm.fk), .lit (.int .i64 r.fm.fp), .lit (.bool r.fM.fu), .lit (.int .i64 r.fM.fw), .lit (.int .i64 r.fM.fj), .lit (.int .i64 r.fM.fp)], M := none }
theorem gam.can (x0 : Bool) (x1 : Int) (x2 : Int) (x3 : Int) (r : Ty) (hr : gam x0 x1 x2 x3 = some r) : CallOk Tryz.prog 6 [.lit (.bool x0), .lit (.int .i64 x1), .lit (.int .i64 x2), .lit (.int .i64 x3)] [] (gam.out x0 x1 x2 x3 r) := by
 unfold gam at hr
 have hΓ := gamL_nil (P := Tryz.prog)
 refine Le Tryz.tyOk Tryz.func6 rfl (by kernel_rfl) rfl rfl (by simp) ?_
 intro _ _ _
 refine AWp.then ⟨[⟨8, none, .ptr 0 0⟩, ⟨0, none, .b x0⟩, ⟨1, none, .n x1⟩, ⟨2, none, .n x2⟩, ⟨3, none, .n x3⟩], [.blk [.n 0, .n 0, .b false, .n 0, .n 0, .n 0]]⟩ (AWp.reg Tryz.tyOk hΓ [8] [] (by kernel_rfl) rfl (by simp)) ?_
 obtain ⟨h2, hr⟩ := Lc hr
 refine AWp.then ⟨[⟨8, none, .ptr 0 0⟩], [.blk [.n (addI .i64 1 (remI (bitsOp .and .i64 x1 255) 40)), .n (bitsOp .and .i64 x2 31), .b x0, .n 400, .n (addI .i64 1 (bitsOp .and .i64 x3 7)), .n (bitsOp .and .i64 x2 31)]]⟩ (AWp.reg Tryz.tyOk hΓ [] [0, 1, 2, 3] (by kernel_rfl) rfl (by simp [h2])) ?_
 refine AWp.ret ?_
 obtain rfl := La hr
 refine Lf ?_
 simp

@[simp] noncomputable def gam.S : Sp
 | [.lit (.bool x0), .lit (.int .i64 x1), .lit (.int .i64 x2), .lit (.int .i64 x3)], _ => (fun (r : Ty) => some { av := .agg [.lit (.int .i64 (r.fm.fk)), .lit (.int .i64 (r.fm.fp)), .lit (.bool (r.fM.fu)), .lit (.int .i64 (r.fM.fw)), .lit (.int .i64 (r.fM.fj)), .lit (.int .i64 (r.fM.fp))], M := none, obl := (gam x0 x1 x2 x3).isSome = true }) ((gam x0 x1 x2 x3).getD dflt)
 | _, _ => none

theorem gam.ok : SpecOk Tryz.prog 6 gam.S := by
 intro l M out h
 unfold gam.S at h
 split at h
 ·rename_i x0 x1 x2 x3
  try dsimp only at h
  cases h
  refine callOk_of fun ho => ?_
  have hs := ho
  obtain ⟨r, hr⟩ := Option.isSome_iff_exists.1 hs
  simp only [hr, Option.getD_some]
  have q := Lg (M := M) [] (gam.can x0 x1 x2 x3 r hr) (by simp) rfl (by intro k i hk; simp at hk)
  exact callOk_conv q trivial (by simp) (by simp [frameOut, gam.out]) (by simp [frameOut, gam.out])
 ·cases h

@[simp] def gat.out (_x0 : Ty) (r : Option Tf × Td × Bool) : Out := { av := .tup [(optC r.1 (.lit (.pointer none)) fun _ => .ptr 9 0), .agg [.lit (.bool r.2.1.ff.fd), .lit (.int .i64 r.2.1.ff.fk), .lit (.int .i64 r.2.1.ff.fV), .lit (.int .i64 r.2.1.ff.fK), .lit (.int .i64 r.2.1.ff.fA), .lit (.int .i64 r.2.1.fh), .lit (.int .i64 r.2.1.fm.fk), .lit (.int .i64 r.2.1.fm.fp), .lit (.bool r.2.1.fm.fd), .lit (.int .i64 r.2.1.fm.fg), .sl (r.2.1.fm.fL.map Ta.enc) .no, .lit (.int .i64 r.2.1.fm.fe), .lit (.bool r.2.1.fc.fu), .lit (.int .i64 r.2.1.fc.fw), .lit (.int .i64 r.2.1.fc.fj), .lit (.int .i64 r.2.1.fc.fp), .sl (r.2.1.fc.fv.map Tc.enc) .no, .lit (.int .i64 r.2.1.fc.fy), .lit (.int .i64 r.2.1.fc.fe), .sl (r.2.1.fL.map Tj.enc) .no, .lit (.int .i64 r.2.1.fq), .lit (.int .i64 r.2.1.fo)], .lit (.bool r.2.2)], M := some (optC r.1 [] fun m0 => [.dead, .dead, .dead, .dead, .mapo (encM (kI .i64) (vA Ta.enc) m0.fa.fOf), .blk [.lit (.int .i64 m0.fa.fb.fk), .lit (.int .i64 m0.fa.fb.fp), .lit (.bool m0.fa.fd), .lit (.int .i64 m0.fa.fg), .mp 4, .lit (.int .i64 m0.fa.fe)], .dead, .blk [.lit (.bool m0.fc.fb.fu), .lit (.int .i64 m0.fc.fb.fw), .lit (.int .i64 m0.fc.fb.fj), .lit (.int .i64 m0.fc.fb.fp), .sl (m0.fc.fv.fj.map Tc.enc) .no, .lit (.int .i64 m0.fc.fy), .lit (.int .i64 m0.fc.fe)], .mapo (encM (kI .i64) (vA Tb.enc) m0.fOf), .blk [.ptr 5 0, .ptr 7 0, .lit (.bool m0.ff.fd), .lit (.int .i64 m0.ff.fk), .lit (.int .u16 m0.ff.fW), .lit (.int .i64 m0.ff.fK), .lit (.int .i64 m0.ff.fA), .lit (.bool m0.fh.fd), .lit (.int .i64 m0.fh.fX), .mp 8, .lit (.int .i64 m0.fq), .lit (.int .i64 m0.fo)]]) }
theorem gat.can (x0 : Ty) (r : Option Tf × Td × Bool) (hr : gat x0 = some r) : CallOk Tryz.prog 5 [.agg [.lit (.int .i64 x0.fm.fk), .lit (.int .i64 x0.fm.fp), .lit (.bool x0.fM.fu), .lit (.int .i64 x0.fM.fw), .lit (.int .i64 x0.fM.fj), .lit (.int .i64 x0.fM.fp)]] [] (gat.out x0 r) := by
 unfold gat at hr
 have hΓ := (gamL_cons gan.ok (gamL_nil) : GamOk Tryz.prog _)
 refine Le Tryz.tyOk Tryz.func5 rfl (by kernel_rfl) rfl rfl (by simp) ?_
 intro _ _ _
 refine AWp.then ⟨[⟨1, none, .ptr 0 0⟩, ⟨3, none, .ptr 1 0⟩], [.blk x0.enc, .blk [.b false, .n 0, .n 0, .n 0, .n 0, .n 0, .n 0, .n 0, .b false, .n 0, .sl [] .full, .n 0, .b false, .n 0, .n 0, .n 0, .sl [] .full, .n 0, .n 0, .sl [] .full, .n 0, .n 0]]⟩ (AWp.reg Tryz.tyOk hΓ [1, 3] [0] (by kernel_rfl) rfl (by simp)) ?_
 obtain ⟨r1, h3, hr⟩ := Lb hr
 cases h4 : r1.1 with
 | none =>
  have hr := optC_n h4 hr
  refine AWp.thenA [⟨5, none, .lit (.pointer none)⟩, ⟨6, none, .n r1.2⟩, ⟨1, none, .ptr 0 0⟩, ⟨3, none, .ptr 1 0⟩] (AWp.reg Tryz.tyOk hΓ [5, 6] [] (by kernel_rfl) rfl (by simp [h3, h4])) ?_
  refine AWp.then ⟨[⟨7, none, .ptr 2 0⟩, ⟨5, none, .lit (.pointer none)⟩, ⟨6, none, .n r1.2⟩, ⟨3, none, .ptr 1 0⟩], [.blk x0.enc, .blk [.b false, .n 0, .n 0, .n 0, .n 0, .n 0, .n 0, .n 0, .b false, .n 0, .sl [] .full, .n 0, .b false, .n 0, .n 0, .n 0, .sl [] .full, .n 0, .n 0, .sl [] .full, .n 0, .n 0], .blk [.b false, .n 0, .n (-1), .n 0, .n 0, .n (-1), .n x0.fm.fk, .n x0.fm.fp, .b false, .n 0, .sl [] .no, .n 0, .b x0.fM.fu, .n x0.fM.fw, .n x0.fM.fj, .n x0.fM.fp, .sl [] .no, .n 0, .n 0, .sl [] .no, .n 0, .n 0]]⟩ (AWp.reg Tryz.tyOk hΓ [7] [1] (by kernel_rfl) rfl (by simp)) ?_
  refine AWp.then ⟨[⟨2, none, .lit (.pointer none)⟩, ⟨4, none, .b (pickB (eqI r1.2 0) false false)⟩, ⟨3, none, .ptr 1 0⟩], [.blk x0.enc, .blk [.b false, .n 0, .n (-1), .n 0, .n 0, .n (-1), .n x0.fm.fk, .n x0.fm.fp, .b false, .n 0, .sl [] .no, .n 0, .b x0.fM.fu, .n x0.fM.fw, .n x0.fM.fj, .n x0.fM.fp, .sl [] .no, .n 0, .n 0, .sl [] .no, .n 0, .n 0], .blk [.b false, .n 0, .n (-1), .n 0, .n 0, .n (-1), .n x0.fm.fk, .n x0.fm.fp, .b false, .n 0, .sl [] .no, .n 0, .b x0.fM.fu, .n x0.fM.fw, .n x0.fM.fj, .n x0.fM.fp, .sl [] .no, .n 0, .n 0, .sl [] .no, .n 0, .n 0]]⟩ (AWp.regD Tryz.mixed Tryz.tyOk hΓ [2, 4] [7, 5, 6] [(5, 10), (6, 10), (7, 10)] [(false, []), (false, []), (false, []), (false, []), (false, []), (false, [39]), (false, [39]), (false, []), (false, []), (true, []), (false, [])] (by kernel_rfl) rfl (by simp)) ?_
  refine AWp.ret ?_
  obtain rfl := La hr
  refine Lf ?_
  simp
 | some o1 =>
  have hr := optC_s h4 hr
  refine AWp.then ⟨[⟨5, none, .ptr 9 0⟩, ⟨6, none, .n r1.2⟩, ⟨1, none, .ptr 0 0⟩, ⟨3, none, .ptr 1 0⟩], [.blk x0.enc, .blk [.b false, .n 0, .n 0, .n 0, .n 0, .n 0, .n 0, .n 0, .b false, .n 0, .sl [] .full, .n 0, .b false, .n 0, .n 0, .n 0, .sl [] .full, .n 0, .n 0, .sl [] .full, .n 0, .n 0], .dead, .dead, .mapo (encM (kI .i64) (vA Ta.enc) o1.fa.fOf), .blk (o1.fa.fb.enc ++ [.b o1.fa.fd, .n o1.fa.fg, .mp 4, .n o1.fa.fe]), .dead, .blk o1.fc.enc, .mapo (encM (kI .i64) (vA Tb.enc) o1.fOf), .blk ([.ptr 5 0, .ptr 7 0] ++ o1.ff.enc ++ o1.fh.enc ++ [.mp 8, .n o1.fq, .n o1.fo])]⟩ (AWp.reg Tryz.tyOk hΓ [5, 6] [] (by kernel_rfl) rfl (by simp [h3, h4])) ?_
  refine AWp.then ⟨[⟨7, none, .ptr 10 0⟩, ⟨5, none, .ptr 9 0⟩, ⟨6, none, .n r1.2⟩, ⟨3, none, .ptr 1 0⟩], [.blk x0.enc, .blk [.b false, .n 0, .n 0, .n 0, .n 0, .n 0, .n 0, .n 0, .b false, .n 0, .sl [] .full, .n 0, .b false, .n 0, .n 0, .n 0, .sl [] .full, .n 0, .n 0, .sl [] .full, .n 0, .n 0], .dead, .dead, .mapo (encM (kI .i64) (vA Ta.enc) o1.fa.fOf), .blk (o1.fa.fb.enc ++ [.b o1.fa.fd, .n o1.fa.fg, .mp 4, .n o1.fa.fe]), .dead, .blk o1.fc.enc, .mapo (encM (kI .i64) (vA Tb.enc) o1.fOf), .blk ([.ptr 5 0, .ptr 7 0] ++ o1.ff.enc ++ o1.fh.enc ++ [.mp 8, .n o1.fq, .n o1.fo]), .blk [.b false, .n 0, .n (-1), .n 0, .n 0, .n (-1), .n x0.fm.fk, .n x0.fm.fp, .b false, .n 0, .sl [] .no, .n 0, .b x0.fM.fu, .n x0.fM.fw, .n x0.fM.fj, .n x0.fM.fp, .sl [] .no, .n 0, .n 0, .sl [] .no, .n 0, .n 0]]⟩ (AWp.reg Tryz.tyOk hΓ [7] [1] (by kernel_rfl) rfl (by simp)) ?_
  refine AWp.then ⟨[⟨2, none, .ptr 9 0⟩, ⟨4, none, .b (pickB (eqI r1.2 0) true false)⟩, ⟨3, none, .ptr 1 0⟩], [.blk x0.enc, .blk [.b false, .n 0, .n (-1), .n 0, .n 0, .n (-1), .n x0.fm.fk, .n x0.fm.fp, .b false, .n 0, .sl [] .no, .n 0, .b x0.fM.fu, .n x0.fM.fw, .n x0.fM.fj, .n x0.fM.fp, .sl [] .no, .n 0, .n 0, .sl [] .no, .n 0, .n 0], .dead, .dead, .mapo (encM (kI .i64) (vA Ta.enc) o1.fa.fOf), .blk (o1.fa.fb.enc ++ [.b o1.fa.fd, .n o1.fa.fg, .mp 4, .n o1.fa.fe]), .dead, .blk o1.fc.enc, .mapo (encM (kI .i64) (vA Tb.enc) o1.fOf), .blk ([.ptr 5 0, .ptr 7 0] ++ o1.ff.enc ++ o1.fh.enc ++ [.mp 8, .n o1.fq, .n o1.fo]), .blk [.b false, .n 0, .n (-1), .n 0, .n 0, .n (-1), .n x0.fm.fk, .n x0.fm.fp, .b false, .n 0, .sl [] .no, .n 0, .b x0.fM.fu, .n x0.fM.fw, .n x0.fM.fj, .n x0.fM.fp, .sl [] .no, .n 0, .n 0, .sl [] .no, .n 0, .n 0]]⟩ (AWp.regD Tryz.mixed Tryz.tyOk hΓ [2, 4] [7, 5, 6] [(5, 10), (6, 10), (7, 10)] [(false, []), (false, []), (false, []), (false, []), (false, []), (false, [39]), (false, [39]), (false, []), (false, []), (true, []), (false, [])] (by kernel_rfl) rfl (by simp)) ?_
  refine AWp.ret ?_
  obtain rfl := La hr
  refine Lf ?_
  simp

@[simp] noncomputable def gat.S : Sp
 | [.agg e0], M => (fun (r : Option Tf × Td × Bool) => some { av := .tup [(optC (r.1) (.lit (.pointer none)) fun _ => .ptr (M.length + 9) 0), .agg [.lit (.bool (r.2.1.ff.fd)), .lit (.int .i64 (r.2.1.ff.fk)), .lit (.int .i64 (r.2.1.ff.fV)), .lit (.int .i64 (r.2.1.ff.fK)), .lit (.int .i64 (r.2.1.ff.fA)), .lit (.int .i64 (r.2.1.fh)), .lit (.int .i64 (r.2.1.fm.fk)), .lit (.int .i64 (r.2.1.fm.fp)), .lit (.bool (r.2.1.fm.fd)), .lit (.int .i64 (r.2.1.fm.fg)), .sl ((r.2.1.fm.fL).map Ta.enc) .no, .lit (.int .i64 (r.2.1.fm.fe)), .lit (.bool (r.2.1.fc.fu)), .lit (.int .i64 (r.2.1.fc.fw)), .lit (.int .i64 (r.2.1.fc.fj)), .lit (.int .i64 (r.2.1.fc.fp)), .sl ((r.2.1.fc.fv).map Tc.enc) .no, .lit (.int .i64 (r.2.1.fc.fy)), .lit (.int .i64 (r.2.1.fc.fe)), .sl ((r.2.1.fL).map Tj.enc) .no, .lit (.int .i64 (r.2.1.fq)), .lit (.int .i64 (r.2.1.fo))], .lit (.bool (r.2.2))], M := some (optC (r.1) M fun m0 => M ++ [.dead, .dead, .dead, .dead, .mapo (encM (kI .i64) (vA Ta.enc) m0.fa.fOf), .blk [.lit (.int .i64 m0.fa.fb.fk), .lit (.int .i64 m0.fa.fb.fp), .lit (.bool m0.fa.fd), .lit (.int .i64 m0.fa.fg), .mp (M.length + 4), .lit (.int .i64 m0.fa.fe)], .dead, .blk [.lit (.bool m0.fc.fb.fu), .lit (.int .i64 m0.fc.fb.fw), .lit (.int .i64 m0.fc.fb.fj), .lit (.int .i64 m0.fc.fb.fp), .sl (m0.fc.fv.fj.map Tc.enc) .no, .lit (.int .i64 m0.fc.fy), .lit (.int .i64 m0.fc.fe)], .mapo (encM (kI .i64) (vA Tb.enc) m0.fOf), .blk [.ptr (M.length + 5) 0, .ptr (M.length + 7) 0, .lit (.bool m0.ff.fd), .lit (.int .i64 m0.ff.fk), .lit (.int .u16 m0.ff.fW), .lit (.int .i64 m0.ff.fK), .lit (.int .i64 m0.ff.fA), .lit (.bool m0.fh.fd), .lit (.int .i64 m0.fh.fX), .mp (M.length + 8), .lit (.int .i64 m0.fq), .lit (.int .i64 m0.fo)]]), obl := WeakL e0 (Ty.enc (Ty.dec e0)) ∧ (gat (Ty.dec e0)).isSome = true }) ((gat (Ty.dec e0)).getD dflt)
 | _, _ => none

theorem gat.ok : SpecOk Tryz.prog 5 gat.S := by
 intro l M out h
 unfold gat.S at h
 split at h
 ·rename_i e0
  try dsimp only at h
  cases h
  refine callOk_of fun ho => ?_
  obtain ⟨ox0, hs⟩ := ho
  generalize (Ty.dec e0) = x0 at *
  obtain ⟨r, hr⟩ := Option.isSome_iff_exists.1 hs
  simp only [hr, Option.getD_some]
  have q := Lg (M := M) [] (gat.can x0 r hr) (by simp) rfl (by intro k i hk; simp at hk)
  cases hc : r.1 with
  | none => exact callOk_conv q trivial (by simp; exact ox0) (by simp [hc, frameOut, gat.out]) (by simp [hc, frameOut, gat.out])
  | some m0 => exact callOk_conv q trivial (by simp; exact ox0) (by simp [hc, frameOut, gat.out, into]) (by simp [hc, frameOut, gat.out, into])
 ·cases h

@[simp] def gD.out (_x0 : List Tl) (_x1 : List (List Tc)) (r : Int) : Out := { av := .lit (.int .i64 r), M := none }
def gD.fin (x0 : List Tl) (x1 : List (List Tc)) (r : Int) (σ : St) : Prop := finK (gD.out x0 x1 r) [] σ.M (resA Tryz.ty σ.A σ.M Tryz.f11.results.toList)
theorem gD.can (x0 : List Tl) (x1 : List (List Tc)) (r : Int) (hr : gD x0 x1 = some r) : CallOk Tryz.prog 11 [.sl (x0.map Tl.enc) .no, .sl (x1.map (encL Tc.enc)) .no] [] (gD.out x0 x1 r) := by
 unfold gD at hr
 have hΓ := gamL_nil (P := Tryz.prog)
 refine Le Tryz.tyOk Tryz.func11 rfl (by kernel_rfl) rfl rfl (by simp) ?_
 intro _ _ _
 refine AWp.then ⟨[⟨0, none, .sl (x0.map Tl.enc) .no⟩, ⟨1, none, .sl (x1.map (encL Tc.enc)) .no⟩], []⟩ (AWp.reg Tryz.tyOk hΓ [] [] (by kernel_rfl) rfl (by simp)) ?_
 refine AWp.seq ?_
 refine AWp.then ⟨[⟨11, none, .b (neI (lenL x0) (lenL x1))⟩, ⟨0, none, .sl (x0.map Tl.enc) .no⟩, ⟨1, none, .sl (x1.map (encL Tc.enc)) .no⟩], []⟩ (AWp.reg Tryz.tyOk hΓ [11] [] (by kernel_rfl) rfl (by simp)) ?_
 refine AWp.cond (b := (neI (lenL x0) (lenL x1))) (by simp) (fun h13 => ?_) (fun h13 => ?_)
 ·have hr := Li h13 hr
  refine AWp.thenA [⟨4, none, .n (-1)⟩] (AWp.reg Tryz.tyOk hΓ [4] [11, 0, 1] (by kernel_rfl) rfl (by simp [h13])) ?_
  refine AWp.ret ?_
  obtain rfl := La hr
  refine Lf ?_
  simp
 ·have hr := Lj h13 hr
  refine AWp.skip ?_
  refine AWp.seq ?_
  refine AWp.then ⟨[⟨13, none, .n (lenL x1)⟩, ⟨14, none, .n 0⟩, ⟨0, none, .sl (x0.map Tl.enc) .no⟩, ⟨1, none, .sl (x1.map (encL Tc.enc)) .no⟩], []⟩ (AWp.reg Tryz.tyOk hΓ [13, 14] [11] (by kernel_rfl) rfl (by simp [h13])) ?_
  refine AWp.loopE (fun (s1 : Int) (γ1 : Unit) => ⟨[⟨13, none, .n (lenL x1)⟩, ⟨14, none, .n s1⟩, ⟨0, none, .sl (x0.map Tl.enc) .no⟩, ⟨1, none, .sl (x1.map (encL Tc.enc)) .no⟩], []⟩) (fun (v1 : Unit) (γ1a : Unit) => ⟨[], []⟩) (gD.fin x0 x1) hr () 0 (by simp) (fun s1 f γ1 hr => ?_) (fun v1 γ1a σ1 m1 hr hc => ?_) (fun _ h => h)
  ·unfold gD.loop1 at hr
   refine AWp.then ⟨[⟨15, none, .b (ltI s1 (lenL x1))⟩, ⟨13, none, .n (lenL x1)⟩, ⟨14, none, .n s1⟩, ⟨0, none, .sl (x0.map Tl.enc) .no⟩, ⟨1, none, .sl (x1.map (encL Tc.enc)) .no⟩], []⟩ (AWp.reg Tryz.tyOk hΓ [15] [] (by kernel_rfl) rfl (by simp)) ?_
   refine AWp.seq ?_
   refine AWp.cond (b := (ltI s1 (lenL x1))) (by simp) (fun h14 => ?_) (fun h14 => ?_)
   ·have hr := Li h14 hr
    refine AWp.skip ?_
    refine AWp.seq ?_
    refine AWp.block ?_
    refine AWp.then ⟨[⟨5, none, .n s1⟩, ⟨13, none, .n (lenL x1)⟩, ⟨14, none, .n s1⟩, ⟨0, none, .sl (x0.map Tl.enc) .no⟩, ⟨1, none, .sl (x1.map (encL Tc.enc)) .no⟩], []⟩ (AWp.reg Tryz.tyOk hΓ [5] [15] (by kernel_rfl) rfl (by simp [h14])) ?_
    refine AWp.seq ?_
    obtain ⟨h15, hr⟩ := Lc hr
    obtain ⟨h16, hr⟩ := Lc hr
    refine AWp.then ⟨[⟨28, none, .b (neI (lenL ((nthI x0 s1).fj)) (lenL (nthI x1 s1)))⟩, ⟨5, none, .n s1⟩, ⟨13, none, .n (lenL x1)⟩, ⟨14, none, .n s1⟩, ⟨0, none, .sl (x0.map Tl.enc) .no⟩, ⟨1, none, .sl (x1.map (encL Tc.enc)) .no⟩], []⟩ (AWp.regD Tryz.mixed Tryz.tyOk hΓ [28] [] [] [(false, []), (false, []), (false, []), (false, []), (false, []), (false, []), (false, []), (false, []), (false, []), (false, []), (false, []), (false, [])] (by kernel_rfl) rfl (by simp [h15, h16])) ?_
    refine AWp.cond (b := (neI (lenL ((nthI x0 s1).fj)) (lenL (nthI x1 s1)))) (by simp) (fun h17 => ?_) (fun h17 => ?_)
    ·have hr := Li h17 hr
     refine AWp.thenA [⟨4, none, .n (-1)⟩] (AWp.reg Tryz.tyOk hΓ [4] [28, 5, 13, 14, 0, 1] (by kernel_rfl) rfl (by simp [h17])) ?_
     refine AWp.ret ?_
     obtain rfl := La hr
     refine round_ret ?_
     refine Lf ?_
     simp
    ·have hr := Lj h17 hr
     refine AWp.skip ?_
     obtain ⟨h18, hr⟩ := Lc hr
     refine AWp.then ⟨[⟨33, none, .n (lenL (nthI x1 s1))⟩, ⟨34, none, .n 0⟩, ⟨5, none, .n s1⟩, ⟨13, none, .n (lenL x1)⟩, ⟨14, none, .n s1⟩, ⟨0, none, .sl (x0.map Tl.enc) .no⟩, ⟨1, none, .sl (x1.map (encL Tc.enc)) .no⟩], []⟩ (AWp.reg Tryz.tyOk hΓ [33, 34] [28] (by kernel_rfl) rfl (by simp [h16, h17])) ?_
     refine AWp.loopE (fun (s2 : Int) (γ2 : Unit) => ⟨[⟨33, none, .n (lenL (nthI x1 s1))⟩, ⟨34, none, .n s2⟩, ⟨5, none, .n s1⟩, ⟨13, none, .n (lenL x1)⟩, ⟨14, none, .n s1⟩, ⟨0, none, .sl (x0.map Tl.enc) .no⟩, ⟨1, none, .sl (x1.map (encL Tc.enc)) .no⟩], []⟩) (fun (v2 : Unit) (γ2a : Unit) => ⟨[⟨13, none, .n (lenL x1)⟩, ⟨14, none, .n s1⟩, ⟨0, none, .sl (x0.map Tl.enc) .no⟩, ⟨1, none, .sl (x1.map (encL Tc.enc)) .no⟩], []⟩) (QRr (gD.fin x0 x1)) hr () 0 (by simp) (fun s2 f γ2 hr => ?_) (fun v2 γ2a σ1 m1 hr hc => ?_) (fun _ h => QRr_ret h)
     ·unfold gD.loop2 at hr
      refine AWp.then ⟨[⟨35, none, .b (ltI s2 (lenL (nthI x1 s1)))⟩, ⟨33, none, .n (lenL (nthI x1 s1))⟩, ⟨34, none, .n s2⟩, ⟨5, none, .n s1⟩, ⟨13, none, .n (lenL x1)⟩, ⟨14, none, .n s1⟩, ⟨0, none, .sl (x0.map Tl.enc) .no⟩, ⟨1, none, .sl (x1.map (encL Tc.enc)) .no⟩], []⟩ (AWp.reg Tryz.tyOk hΓ [35] [] (by kernel_rfl) rfl (by simp)) ?_
      refine AWp.seq ?_
      refine AWp.cond (b := (ltI s2 (lenL (nthI x1 s1)))) (by simp) (fun h19 => ?_) (fun h19 => ?_)
      ·have hr := Li h19 hr
       refine AWp.skip ?_
       refine AWp.seq ?_
       refine AWp.block ?_
       refine AWp.then ⟨[⟨6, none, .n s2⟩, ⟨33, none, .n (lenL (nthI x1 s1))⟩, ⟨34, none, .n s2⟩, ⟨5, none, .n s1⟩, ⟨13, none, .n (lenL x1)⟩, ⟨14, none, .n s1⟩, ⟨0, none, .sl (x0.map Tl.enc) .no⟩, ⟨1, none, .sl (x1.map (encL Tc.enc)) .no⟩], []⟩ (AWp.reg Tryz.tyOk hΓ [6] [35] (by kernel_rfl) rfl (by simp [h19])) ?_
       obtain ⟨h20, hr⟩ := Lc hr
       obtain ⟨h21, hr⟩ := Lc hr
       obtain ⟨h22, hr⟩ := Lc hr
       obtain ⟨h23, hr⟩ := Lc hr
       refine AWp.thenA [⟨52, none, .b (notB (pickB (eqI ((nthI ((nthI x0 s1).fj) s2).fAt) ((nthI (nthI x1 s1) s2).fAt)) (pickB (eqI ((nthI ((nthI x0 s1).fj) s2).fT) ((nthI (nthI x1 s1) s2).fT)) (pickB (eqB ((nthI ((nthI x0 s1).fj) s2).fC) ((nthI (nthI x1 s1) s2).fC)) (pickB (eqB ((nthI ((nthI x0 s1).fj) s2).fz) ((nthI (nthI x1 s1) s2).fz)) (pickB (eqB ((nthI ((nthI x0 s1).fj) s2).fJ) ((nthI (nthI x1 s1) s2).fJ)) (pickB (eqS ((nthI ((nthI x0 s1).fj) s2).fU) ((nthI (nthI x1 s1) s2).fU)) (eqI ((nthI ((nthI x0 s1).fj) s2).fO) ((nthI (nthI x1 s1) s2).fO)) false) false) false) false) false) false))⟩, ⟨33, none, .n (lenL (nthI x1 s1))⟩, ⟨34, none, .n s2⟩, ⟨5, none, .n s1⟩, ⟨13, none, .n (lenL x1)⟩, ⟨14, none, .n s1⟩, ⟨0, none, .sl (x0.map Tl.enc) .no⟩, ⟨1, none, .sl (x1.map (encL Tc.enc)) .no⟩] (AWp.regD Tryz.mixed Tryz.tyOk hΓ [52] [6] [] [(false, []), (false, []), (false, []), (false, []), (false, []), (false, []), (false, []), (false, []), (false, []), (false, []), (false, []), (false, []), (false, []), (false, []), (false, []), (false, [])] (by kernel_rfl) rfl (by simp [h15, h16, h21, h23])) ?_
       refine AWp.cond (b := (notB (pickB (eqI ((nthI ((nthI x0 s1).fj) s2).fAt) ((nthI (nthI x1 s1) s2).fAt)) (pickB (eqI ((nthI ((nthI x0 s1).fj) s2).fT) ((nthI (nthI x1 s1) s2).fT)) (pickB (eqB ((nthI ((nthI x0 s1).fj) s2).fC) ((nthI (nthI x1 s1) s2).fC)) (pickB (eqB ((nthI ((nthI x0 s1).fj) s2).fz) ((nthI (nthI x1 s1) s2).fz)) (pickB (eqB ((nthI ((nthI x0 s1).fj) s2).fJ) ((nthI (nthI x1 s1) s2).fJ)) (pickB (eqS ((nthI ((nthI x0 s1).fj) s2).fU) ((nthI (nthI x1 s1) s2).fU)) (eqI ((nthI ((nthI x0 s1).fj) s2).fO) ((nthI (nthI x1 s1) s2).fO)) false) false) false) false) false) false))) (by simp) (fun h24 => ?_) (fun h24 => ?_)
       ·have hr := Li h24 hr
        refine AWp.thenA [⟨4, none, .n (-1)⟩] (AWp.reg Tryz.tyOk hΓ [4] [52, 33, 34, 5, 13, 14, 0, 1] (by kernel_rfl) rfl (by simp [h24])) ?_
        refine AWp.ret ?_
        obtain rfl := La hr
        refine round_ret ?_
        refine ⟨_, rfl, ?_⟩
        refine Lf ?_
        simp
       ·have hr := Lj h24 hr
        refine AWp.skip ?_
        refine AWp.last ⟨[⟨34, none, .n (addI .i64 s2 1)⟩, ⟨33, none, .n (lenL (nthI x1 s1))⟩, ⟨5, none, .n s1⟩, ⟨13, none, .n (lenL x1)⟩, ⟨14, none, .n s1⟩, ⟨0, none, .sl (x0.map Tl.enc) .no⟩, ⟨1, none, .sl (x1.map (encL Tc.enc)) .no⟩], []⟩ (AWp.reg Tryz.tyOk hΓ [34] [52] (by kernel_rfl) rfl (by simp [h24])) ?_
        obtain rfl := La hr
        exact Lq () 0 (by first | (simp; done) | simp [h13, h14, h15, h16, h17, h18, h19, h20, h21, h22, h23, h24])
      ·have hr := Lj h19 hr
       refine AWp.exit ?_
       obtain rfl := La hr
       exact Lo () 0 (by first | (simp; done) | simp [h13, h14, h15, h16, h17, h18, h19])
     ·refine AWp.conv hc ?_
      refine AWp.last ⟨[⟨14, none, .n (addI .i64 s1 1)⟩, ⟨13, none, .n (lenL x1)⟩, ⟨0, none, .sl (x0.map Tl.enc) .no⟩, ⟨1, none, .sl (x1.map (encL Tc.enc)) .no⟩], []⟩ (AWp.reg Tryz.tyOk hΓ [14] [] (by kernel_rfl) rfl (by simp)) ?_
      obtain rfl := La hr
      exact Lq () 0 (by first | (simp; done) | simp [h13, h14, h15, h16, h17, h18])
   ·have hr := Lj h14 hr
    refine AWp.exit ?_
    obtain rfl := La hr
    exact Lo () 0 (by first | (simp; done) | simp [h13, h14])
  ·refine AWp.conv hc ?_
   refine AWp.then ⟨[⟨4, none, .n 0⟩], []⟩ (AWp.reg Tryz.tyOk hΓ [4] [] (by kernel_rfl) rfl (by simp)) ?_
   refine AWp.ret ?_
   obtain rfl := La hr
   refine Lf ?_
   simp

@[simp] noncomputable def gD.S : Sp
 | [.sl e0 _, .sl e1 _], _ => some { av := .lit (.int .i64 ((gD (e0.map Tl.dec) (e1.map (decL Tc.dec))).getD dflt)), M := none, obl := e0 = (e0.map Tl.dec).map Tl.enc ∧ e1 = (e1.map (decL Tc.dec)).map (encL Tc.enc) ∧ (gD (e0.map Tl.dec) (e1.map (decL Tc.dec))).isSome = true }
 | _, _ => none

theorem gD.ok : SpecOk Tryz.prog 11 gD.S := by
 intro l M out h
 unfold gD.S at h
 split at h
 ·rename_i e0 k0 e1 k1
  cases h
  refine callOk_of fun ho => ?_
  obtain ⟨ox0, ox1, hs⟩ := ho
  generalize (e0.map Tl.dec) = x0 at *
  generalize (e1.map (decL Tc.dec)) = x1 at *
  subst ox0
  subst ox1
  obtain ⟨r, hr⟩ := Option.isSome_iff_exists.1 hs
  simp only [hr, Option.getD_some]
  have q := Lg (M := M) [] (gD.can x0 x1 r hr) (by simp) rfl (by intro k i hk; simp at hk)
  exact callOk_conv q trivial (by simp) (by simp [frameOut, gD.out]) (by simp [frameOut, gD.out])
 ·cases h

@[simp] def gaE.out  (r : Bool) : Out := { av := .lit (.bool r), M := none }
theorem gaE.can  (r : Bool) (hr : gaE = some r) : CallOk Tryz.prog 4 [] [] (gaE.out  r) := by
 unfold gaE at hr
 have hΓ := (gamL_cons gv.ok (gamL_cons gr.ok (gamL_cons gJ.ok (gamL_cons gam.ok (gamL_cons gn.ok (gamL_cons gan.ok (gamL_nil)))))) : GamOk Tryz.prog _)
 refine Le Tryz.tyOk Tryz.func4 rfl (by kernel_rfl) rfl rfl (by simp) ?_
 intro _ _ _
 refine AWp.then ⟨[], []⟩ (AWp.reg Tryz.tyOk hΓ [] [] (by kernel_rfl) rfl (by simp)) ?_
 obtain ⟨r1, h17, hr⟩ := Lb hr
 obtain ⟨r2, h18, hr⟩ := Lb hr
 cases h19 : r2.1 with
 | none =>
  have hr := optC_n h19 hr
  refine AWp.thenA [⟨1, none, .lit (.pointer none)⟩, ⟨2, none, .n r2.2⟩] (AWp.reg Tryz.tyOk hΓ [1, 2] [] (by kernel_rfl) rfl (by simp [h17, h18, h19])) ?_
  refine AWp.seq ?_
  cases h20 : (pickB (neI r2.2 0) true true) with
  | true =>
   have hr := Li h20 hr
   refine AWp.then ⟨[⟨27, none, .b true⟩, ⟨1, none, .lit (.pointer none)⟩], []⟩ (AWp.regG Tryz.tyOk hΓ [(21, true)] (keep := [27]) (dead := [2]) (by kernel_rfl) rfl (by simp [h20])) ?_
   refine AWp.cond (b := true) (by simp) (fun hb => ?_) (fun hb => ?_)
   ·refine AWp.thenA [⟨0, none, .b false⟩] (AWp.reg Tryz.tyOk hΓ [0] [27, 1] (by kernel_rfl) rfl (by simp)) ?_
    refine AWp.ret ?_
    obtain rfl := La hr
    refine Lf ?_
    simp
   ·cases hb
  | false =>
   have hr := Lj h20 hr
   cases hr
 | some o1 =>
  have hr := optC_s h19 hr
  refine AWp.then ⟨[⟨1, none, .ptr 7 0⟩, ⟨2, none, .n r2.2⟩], [.dead, .dead, .mapo (encM (kI .i64) (vA Ta.enc) o1.fa.fOf), .blk (o1.fa.fb.enc ++ [.b o1.fa.fd, .n o1.fa.fg, .mp 2, .n o1.fa.fe]), .dead, .blk o1.fc.enc, .mapo (encM (kI .i64) (vA Tb.enc) o1.fOf), .blk ([.ptr 3 0, .ptr 5 0] ++ o1.ff.enc ++ o1.fh.enc ++ [.mp 6, .n o1.fq, .n o1.fo])]⟩ (AWp.reg Tryz.tyOk hΓ [1, 2] [] (by kernel_rfl) rfl (by simp [h17, h18, h19])) ?_
  refine AWp.seq ?_
  refine AWp.then ⟨[⟨27, none, .b (pickB (pickB (neI r2.2 0) true false) true false)⟩, ⟨1, none, .ptr 7 0⟩], [.dead, .dead, .mapo (encM (kI .i64) (vA Ta.enc) o1.fa.fOf), .blk (o1.fa.fb.enc ++ [.b o1.fa.fd, .n o1.fa.fg, .mp 2, .n o1.fa.fe]), .dead, .blk o1.fc.enc, .mapo (encM (kI .i64) (vA Tb.enc) o1.fOf), .blk ([.ptr 3 0, .ptr 5 0] ++ o1.ff.enc ++ o1.fh.enc ++ [.mp 6, .n o1.fq, .n o1.fo])]⟩ (AWp.reg Tryz.tyOk hΓ [27] [2] (by kernel_rfl) rfl (by simp)) ?_
  refine AWp.cond (b := (pickB (pickB (neI r2.2 0) true false) true false)) (by simp) (fun h21 => ?_) (fun h21 => ?_)
  ·have hr := Li h21 hr
   refine AWp.thenA [⟨0, none, .b false⟩] (AWp.reg Tryz.tyOk hΓ [0] [27, 1] (by kernel_rfl) rfl (by simp)) ?_
   refine AWp.ret ?_
   obtain rfl := La hr
   refine Lf ?_
   simp
  ·have hr := Lj h21 hr
   refine AWp.skip ?_
   obtain ⟨r3, h22, hr⟩ := Lb hr
   refine AWp.then ⟨[⟨3, none, .sl (r3.map Tb.enc) .no⟩, ⟨1, none, .ptr 7 0⟩], [.dead, .dead, .mapo (encM (kI .i64) (vA Ta.enc) o1.fa.fOf), .blk (o1.fa.fb.enc ++ [.b o1.fa.fd, .n o1.fa.fg, .mp 2, .n o1.fa.fe]), .dead, .blk o1.fc.enc, .mapo (encM (kI .i64) (vA Tb.enc) o1.fOf), .blk ([.ptr 3 0, .ptr 5 0] ++ o1.ff.enc ++ o1.fh.enc ++ [.mp 6, .n o1.fq, .n o1.fo])]⟩ (AWp.reg Tryz.tyOk hΓ [3] [27] (by kernel_rfl) rfl (by simp [h22])) ?_
   obtain ⟨h23, hr⟩ := Lc hr
   obtain ⟨r4, h24, hr⟩ := Lb hr
   refine AWp.then ⟨[⟨4, none, .sl (r4.1.map Tl.enc) .no⟩, ⟨5, none, .n r4.2.1⟩, ⟨3, none, .sl (r3.map Tb.enc) .no⟩, ⟨1, none, .ptr 7 0⟩], [.dead, .dead, .mapo (encM (kI .i64) (vA Ta.enc) r4.2.2.fa.fOf), .blk (r4.2.2.fa.fb.enc ++ [.b r4.2.2.fa.fd, .n r4.2.2.fa.fg, .mp 2, .n r4.2.2.fa.fe]), .dead, .blk r4.2.2.fc.enc, .mapo (encM (kI .i64) (vA Tb.enc) r4.2.2.fOf), .blk ([.ptr 3 0, .ptr 5 0] ++ r4.2.2.ff.enc ++ r4.2.2.fh.enc ++ [.mp 6, .n r4.2.2.fq, .n r4.2.2.fo])]⟩ (AWp.reg Tryz.tyOk hΓ [4, 5] [] (by kernel_rfl) rfl (by simp [h23, h24])) ?_
   obtain ⟨h25, hr⟩ := Lc hr
   obtain ⟨r5, h26, hr⟩ := Lb hr
   refine AWp.then ⟨[⟨6, none, .sl (r5.1.map Tl.enc) .no⟩, ⟨7, none, .n r5.2.1⟩, ⟨4, none, .sl (r4.1.map Tl.enc) .no⟩, ⟨5, none, .n r4.2.1⟩, ⟨3, none, .sl (r3.map Tb.enc) .no⟩, ⟨1, none, .ptr 7 0⟩], [.dead, .dead, .mapo (encM (kI .i64) (vA Ta.enc) r5.2.2.fa.fOf), .blk (r5.2.2.fa.fb.enc ++ [.b r5.2.2.fa.fd, .n r5.2.2.fa.fg, .mp 2, .n r5.2.2.fa.fe]), .dead, .blk r5.2.2.fc.enc, .mapo (encM (kI .i64) (vA Tb.enc) r5.2.2.fOf), .blk ([.ptr 3 0, .ptr 5 0] ++ r5.2.2.ff.enc ++ r5.2.2.fh.enc ++ [.mp 6, .n r5.2.2.fq, .n r5.2.2.fo])]⟩ (AWp.reg Tryz.tyOk hΓ [6, 7] [] (by kernel_rfl) rfl (by simp [h25, h26])) ?_
   obtain ⟨h27, hr⟩ := Lc hr
   obtain ⟨r6, h28, hr⟩ := Lb hr
   refine AWp.then ⟨[⟨9, none, .n r6.2.1⟩, ⟨6, none, .sl (r5.1.map Tl.enc) .no⟩, ⟨7, none, .n r5.2.1⟩, ⟨4, none, .sl (r4.1.map Tl.enc) .no⟩, ⟨5, none, .n r4.2.1⟩, ⟨1, none, .ptr 7 0⟩], [.dead, .dead, .mapo (encM (kI .i64) (vA Ta.enc) r6.2.2.fa.fOf), .blk (r6.2.2.fa.fb.enc ++ [.b r6.2.2.fa.fd, .n r6.2.2.fa.fg, .mp 2, .n r6.2.2.fa.fe]), .dead, .blk r6.2.2.fc.enc, .mapo (encM (kI .i64) (vA Tb.enc) r6.2.2.fOf), .blk ([.ptr 3 0, .ptr 5 0] ++ r6.2.2.ff.enc ++ r6.2.2.fh.enc ++ [.mp 6, .n r6.2.2.fq, .n r6.2.2.fo])]⟩ (AWp.reg Tryz.tyOk hΓ [9] [3] (by kernel_rfl) rfl (by simp [h23, h28])) ?_
   obtain ⟨h29, hr⟩ := Lc hr
   obtain ⟨h30, hr⟩ := Lc hr
   obtain ⟨h31, hr⟩ := Lc hr
   obtain ⟨h32, hr⟩ := Lc hr
   refine AWp.thenA [⟨0, none, .b (pickB (pickB (pickB (pickB (pickB (pickB (pickB (eqI (lenL r4.1) 0) (eqI r4.2.1 0) false) (eqI r5.2.1 0) false) (eqI (lenL r5.1) 1) false) ((gJ (nthI r5.1 0)).getD dflt) false) (eqI (lenL ((nthI r5.1 0).fj)) 2) false) (eqI r6.2.1 13) false) (eqI ((gv r6.2.2).getD dflt) 1) false)⟩] (AWp.reg Tryz.tyOk hΓ [0] [9, 6, 7, 4, 5, 1] (by kernel_rfl) rfl (by simp [h29, h30, h31, h32])) ?_
   refine AWp.ret ?_
   obtain rfl := La hr
   refine Lf ?_
   simp

@[simp] noncomputable def gaE.S : Sp
 | [], _ => some { av := .lit (.bool (gaE.getD dflt)), M := none, obl := gaE.isSome = true }
 | _, _ => none

theorem gaE.ok : SpecOk Tryz.prog 4 gaE.S := by
 intro l M out h
 unfold gaE.S at h
 split at h
 ·cases h
  refine callOk_of fun ho => ?_
  have hs := ho
  obtain ⟨r, hr⟩ := Option.isSome_iff_exists.1 hs
  simp only [hr, Option.getD_some]
  have q := Lg (M := M) [] (gaE.can r hr) (by simp) rfl (by intro k i hk; simp at hk)
  exact callOk_conv q trivial (by simp) (by simp [frameOut, gaE.out]) (by simp [frameOut, gaE.out])
 ·cases h
end Go.Proofs

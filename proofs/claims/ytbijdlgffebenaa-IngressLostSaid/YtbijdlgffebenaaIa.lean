/- That these functions compute what their plain functions do. No condition. -/
import Derived.Test.YtbijdlgffebenaaQ04
import Derived.Test.YtbijdlgffebenaaTy
import Derived.Test.YtbijdlgffebenaaOx
import Derived.Test.YtbijdlgffebenaaIg
import Derived.Test.YtbijdlgffebenaaFr
set_option maxRecDepth 100000
set_option maxHeartbeats 4000000
namespace Go.Proofs
open Go.Ab
@[simp] def gj.out (_x0 : Int) (_x1 : List Int) (r : List Tb) : Out := { av := .sl (r.map Tb.enc) .no, M := none }
def gj.fin (x0 : Int) (x1 : List Int) (r : List Tb) (σ : St) : Prop := finK (gj.out x0 x1 r) [] σ.M (resA Try.ty σ.A σ.M Try.f9.results.toList)
theorem gj.can (x0 : Int) (x1 : List Int) (r : List Tb) (hr : gj x0 x1 = some r) : CallOk Try.prog 9 [.lit (.int .u16 x0), .sl (x1.map (eNum .i64)) .no] [] (gj.out x0 x1 r) := by
 unfold gj at hr
 have hΓ := (gamL_cons gab.ok (gamL_cons gac.ok (gamL_nil)) : GamOk Try.prog _)
 refine Lf Try.tyOk Try.func9 rfl (by kernel_rfl) rfl rfl (by simp) ?_
 intro _ _ _
 refine AWp.then ⟨[⟨0, none, .lit (.int .u16 x0)⟩, ⟨1, none, .sl (x1.map (eNum .i64)) .no⟩], []⟩ (AWp.reg Try.tyOk hΓ [] [] (by kernel_rfl) rfl (by simp)) ?_
 refine AWp.thenA [⟨5, none, .sl [] .full⟩, ⟨0, none, .lit (.int .u16 x0)⟩, ⟨1, none, .sl (x1.map (eNum .i64)) .no⟩] (AWp.reg Try.tyOk hΓ [5] [] (by kernel_rfl) rfl (by simp)) ?_
 refine AWp.seq ?_
 refine AWp.then ⟨[⟨6, none, .n 0⟩, ⟨5, none, .sl [] .full⟩, ⟨0, none, .lit (.int .u16 x0)⟩, ⟨1, none, .sl (x1.map (eNum .i64)) .no⟩], []⟩ (AWp.reg Try.tyOk hΓ [6] [] (by kernel_rfl) rfl (by simp)) ?_
 refine AWp.equip 5 11 (els := []) (by simp) (by simp) ?_
 refine AWp.loopE (fun (s1 : Int × List Tb) (γ1 : Nat) => ⟨[⟨6, none, .n s1.1⟩, ⟨5, none, .sl (s1.2.map Tb.enc) (.own 0 (γ1) 11)⟩, ⟨0, none, .lit (.int .u16 x0)⟩, ⟨1, none, .sl (x1.map (eNum .i64)) .no⟩], [.room (γ1)]⟩) (fun (v1 : List Tb) (γ1a : Nat) => ⟨[⟨5, none, .sl (v1.map Tb.enc) (.own 0 (γ1a) 11)⟩], [.room (γ1a)]⟩) (gj.fin x0 x1) hr 0 1 (by simp) (fun s1 f γ1 hr => ?_) (fun v1 γ1a σ1 m1 hr hc => ?_) (fun _ h => h)
 ·unfold gj.loop1 at hr
  refine AWp.seq ?_
  refine AWp.then ⟨[⟨20, none, .b (pickB (ltI s1.1 (lenL x1)) (ltI (lenL s1.2) 56) false)⟩, ⟨6, none, .n s1.1⟩, ⟨5, none, .sl (s1.2.map Tb.enc) (.own 0 (γ1) 11)⟩, ⟨0, none, .lit (.int .u16 x0)⟩, ⟨1, none, .sl (x1.map (eNum .i64)) .no⟩], [.room (γ1)]⟩ (AWp.reg Try.tyOk hΓ [20] [] (by kernel_rfl) rfl (by simp)) ?_
  refine AWp.cond (b := (pickB (ltI s1.1 (lenL x1)) (ltI (lenL s1.2) 56) false)) (by simp) (fun h10 => ?_) (fun h10 => ?_)
  ·have hr := Lj h10 hr
   refine AWp.skip ?_
   refine AWp.seq ?_
   refine AWp.block ?_
   obtain ⟨h11, hr⟩ := Li hr
   refine AWp.then ⟨[⟨7, none, .n (addI .i64 1 (bitsOp .and .i64 (nthI x1 s1.1) 3))⟩, ⟨6, none, .n s1.1⟩, ⟨5, none, .sl (s1.2.map Tb.enc) (.own 0 (γ1) 11)⟩, ⟨0, none, .lit (.int .u16 x0)⟩, ⟨1, none, .sl (x1.map (eNum .i64)) .no⟩], [.room (γ1)]⟩ (AWp.reg Try.tyOk hΓ [7] [20] (by kernel_rfl) rfl (by simp [h10, h11])) ?_
   refine AWp.thenA [⟨29, none, .n (addI .i64 1 (bitsOp .and .i64 (nthI x1 s1.1) 3))⟩, ⟨30, none, .n 0⟩, ⟨7, none, .n (addI .i64 1 (bitsOp .and .i64 (nthI x1 s1.1) 3))⟩, ⟨6, none, .n s1.1⟩, ⟨5, none, .sl (s1.2.map Tb.enc) (.own 0 (γ1) 11)⟩, ⟨0, none, .lit (.int .u16 x0)⟩, ⟨1, none, .sl (x1.map (eNum .i64)) .no⟩] (AWp.reg Try.tyOk hΓ [29, 30] [] (by kernel_rfl) rfl (by simp)) ?_
   refine AWp.loopE (fun (s2 : Int × List Tb) (γ2 : Nat) => ⟨[⟨29, none, .n (addI .i64 1 (bitsOp .and .i64 (nthI x1 s1.1) 3))⟩, ⟨30, none, .n s2.1⟩, ⟨7, none, .n (addI .i64 1 (bitsOp .and .i64 (nthI x1 s1.1) 3))⟩, ⟨6, none, .n s1.1⟩, ⟨5, none, .sl (s2.2.map Tb.enc) (.own 0 (γ2) 11)⟩, ⟨0, none, .lit (.int .u16 x0)⟩, ⟨1, none, .sl (x1.map (eNum .i64)) .no⟩], [.room (γ2)]⟩) (fun (v2 : List Tb) (γ2a : Nat) => ⟨[⟨6, none, .n s1.1⟩, ⟨5, none, .sl (v2.map Tb.enc) (.own 0 (γ2a) 11)⟩, ⟨0, none, .lit (.int .u16 x0)⟩, ⟨1, none, .sl (x1.map (eNum .i64)) .no⟩], [.room (γ2a)]⟩) (QRr (gj.fin x0 x1)) hr (γ1) 1 (by simp) (fun s2 f γ2 hr => ?_) (fun v2 γ2a σ1 m1 hr hc => ?_) (fun _ h => QRr_ret h)
   ·unfold gj.loop2 at hr
    refine AWp.then ⟨[⟨31, none, .b (ltI s2.1 (addI .i64 1 (bitsOp .and .i64 (nthI x1 s1.1) 3)))⟩, ⟨29, none, .n (addI .i64 1 (bitsOp .and .i64 (nthI x1 s1.1) 3))⟩, ⟨30, none, .n s2.1⟩, ⟨7, none, .n (addI .i64 1 (bitsOp .and .i64 (nthI x1 s1.1) 3))⟩, ⟨6, none, .n s1.1⟩, ⟨5, none, .sl (s2.2.map Tb.enc) (.own 0 (γ2) 11)⟩, ⟨0, none, .lit (.int .u16 x0)⟩, ⟨1, none, .sl (x1.map (eNum .i64)) .no⟩], [.room (γ2)]⟩ (AWp.reg Try.tyOk hΓ [31] [] (by kernel_rfl) rfl (by simp)) ?_
    refine AWp.seq ?_
    refine AWp.cond (b := (ltI s2.1 (addI .i64 1 (bitsOp .and .i64 (nthI x1 s1.1) 3)))) (by simp) (fun h12 => ?_) (fun h12 => ?_)
    ·have hr := Lj h12 hr
     refine AWp.skip ?_
     refine AWp.seq ?_
     refine AWp.block ?_
     refine AWp.then ⟨[⟨8, none, .n s2.1⟩, ⟨29, none, .n (addI .i64 1 (bitsOp .and .i64 (nthI x1 s1.1) 3))⟩, ⟨30, none, .n s2.1⟩, ⟨7, none, .n (addI .i64 1 (bitsOp .and .i64 (nthI x1 s1.1) 3))⟩, ⟨6, none, .n s1.1⟩, ⟨5, none, .sl (s2.2.map Tb.enc) (.own 0 (γ2) 11)⟩, ⟨0, none, .lit (.int .u16 x0)⟩, ⟨1, none, .sl (x1.map (eNum .i64)) .no⟩], [.room (γ2)]⟩ (AWp.reg Try.tyOk hΓ [8] [31] (by kernel_rfl) rfl (by simp [h12])) ?_
     obtain ⟨r1, h13, hr⟩ := Lc hr
     refine AWp.then ⟨[⟨9, none, .ptr 1 0⟩, ⟨8, none, .n s2.1⟩, ⟨29, none, .n (addI .i64 1 (bitsOp .and .i64 (nthI x1 s1.1) 3))⟩, ⟨30, none, .n s2.1⟩, ⟨7, none, .n (addI .i64 1 (bitsOp .and .i64 (nthI x1 s1.1) 3))⟩, ⟨6, none, .n s1.1⟩, ⟨5, none, .sl (s2.2.map Tb.enc) (.own 0 (γ2) 11)⟩, ⟨0, none, .lit (.int .u16 x0)⟩, ⟨1, none, .sl (x1.map (eNum .i64)) .no⟩], [.room (γ2), .blk r1.enc]⟩ (AWp.reg Try.tyOk hΓ [9] [] (by kernel_rfl) rfl (by simp [h13])) ?_
     refine AWp.then ⟨[⟨9, none, .ptr 1 0⟩, ⟨8, none, .n s2.1⟩, ⟨29, none, .n (addI .i64 1 (bitsOp .and .i64 (nthI x1 s1.1) 3))⟩, ⟨30, none, .n s2.1⟩, ⟨7, none, .n (addI .i64 1 (bitsOp .and .i64 (nthI x1 s1.1) 3))⟩, ⟨6, none, .n s1.1⟩, ⟨5, none, .sl (s2.2.map Tb.enc) (.own 0 (γ2) 11)⟩, ⟨0, none, .lit (.int .u16 x0)⟩, ⟨1, none, .sl (x1.map (eNum .i64)) .no⟩], [.room (γ2), .blk [.b r1.fK, .b (eqI s2.1 0), .n r1.fG, .n r1.fB, .b r1.fU, .n r1.fH, .n r1.fI, .b r1.fR, .n r1.fJ]]⟩ (AWp.reg Try.tyOk hΓ [] [] (by kernel_rfl) rfl (by simp)) ?_
     refine AWp.thenA [⟨10, none, .lit (.int .u8 1)⟩, ⟨9, none, .ptr 1 0⟩, ⟨8, none, .n s2.1⟩, ⟨29, none, .n (addI .i64 1 (bitsOp .and .i64 (nthI x1 s1.1) 3))⟩, ⟨30, none, .n s2.1⟩, ⟨7, none, .n (addI .i64 1 (bitsOp .and .i64 (nthI x1 s1.1) 3))⟩, ⟨6, none, .n s1.1⟩, ⟨5, none, .sl (s2.2.map Tb.enc) (.own 0 (γ2) 11)⟩, ⟨0, none, .lit (.int .u16 x0)⟩, ⟨1, none, .sl (x1.map (eNum .i64)) .no⟩] (AWp.reg Try.tyOk hΓ [10] [] (by kernel_rfl) rfl (by simp)) ?_
     refine AWp.meetF (fun (v3 : Int) (γ3 : Unit) => ⟨[⟨10, none, .lit (.int .u8 v3)⟩, ⟨9, none, .ptr 1 0⟩, ⟨8, none, .n s2.1⟩, ⟨29, none, .n (addI .i64 1 (bitsOp .and .i64 (nthI x1 s1.1) 3))⟩, ⟨30, none, .n s2.1⟩, ⟨7, none, .n (addI .i64 1 (bitsOp .and .i64 (nthI x1 s1.1) 3))⟩, ⟨6, none, .n s1.1⟩, ⟨5, none, .sl (s2.2.map Tb.enc) (.own 0 (γ2) 11)⟩, ⟨0, none, .lit (.int .u16 x0)⟩, ⟨1, none, .sl (x1.map (eNum .i64)) .no⟩], [.room (γ2), .blk [.b r1.fK, .b (eqI s2.1 0), .n r1.fG, .n r1.fB, .b r1.fU, .n r1.fH, .n r1.fI, .b r1.fR, .n r1.fJ]]⟩) (QRr (QRr (gj.fin x0 x1))) hr (fun f hr => ?_) (fun v3 γ3 hr => ?_) (fun _ h => QRr_ret h)
     ·obtain ⟨h14, hr⟩ := Li hr
      refine AWp.then ⟨[⟨39, none, .b (eqI (remI s1.1 3) 0)⟩, ⟨10, none, .lit (.int .u8 1)⟩, ⟨9, none, .ptr 1 0⟩, ⟨8, none, .n s2.1⟩, ⟨29, none, .n (addI .i64 1 (bitsOp .and .i64 (nthI x1 s1.1) 3))⟩, ⟨30, none, .n s2.1⟩, ⟨7, none, .n (addI .i64 1 (bitsOp .and .i64 (nthI x1 s1.1) 3))⟩, ⟨6, none, .n s1.1⟩, ⟨5, none, .sl (s2.2.map Tb.enc) (.own 0 (γ2) 11)⟩, ⟨0, none, .lit (.int .u16 x0)⟩, ⟨1, none, .sl (x1.map (eNum .i64)) .no⟩], [.room (γ2), .blk [.b r1.fK, .b (eqI s2.1 0), .n r1.fG, .n r1.fB, .b r1.fU, .n r1.fH, .n r1.fI, .b r1.fR, .n r1.fJ]]⟩ (AWp.reg Try.tyOk hΓ [39] [] (by kernel_rfl) rfl (by simp [h14])) ?_
      refine AWp.cond (b := (eqI (remI s1.1 3) 0)) (by simp) (fun h15 => ?_) (fun h15 => ?_)
      ·have hr := Lj h15 hr
       refine AWp.last ⟨[⟨10, none, .lit (.int .u8 0)⟩, ⟨9, none, .ptr 1 0⟩, ⟨8, none, .n s2.1⟩, ⟨29, none, .n (addI .i64 1 (bitsOp .and .i64 (nthI x1 s1.1) 3))⟩, ⟨30, none, .n s2.1⟩, ⟨7, none, .n (addI .i64 1 (bitsOp .and .i64 (nthI x1 s1.1) 3))⟩, ⟨6, none, .n s1.1⟩, ⟨5, none, .sl (s2.2.map Tb.enc) (.own 0 (γ2) 11)⟩, ⟨0, none, .lit (.int .u16 x0)⟩, ⟨1, none, .sl (x1.map (eNum .i64)) .no⟩], [.room (γ2), .blk [.b r1.fK, .b (eqI s2.1 0), .n r1.fG, .n r1.fB, .b r1.fU, .n r1.fH, .n r1.fI, .b r1.fR, .n r1.fJ]]⟩ (AWp.reg Try.tyOk hΓ [10] [39] (by kernel_rfl) rfl (by simp [h15])) ?_
       obtain rfl := La hr
       exact Lo () 2 (by first | (simp; done) | simp [h10, h11, h12, h13, h14, h15])
      ·have hr := Lk h15 hr
       refine AWp.skip ?_
       obtain rfl := La hr
       exact Lo () 2 (by first | (simp; done) | simp [h10, h11, h12, h13, h14, h15])
     ·obtain ⟨r2, h16, hr⟩ := Lc hr
      obtain ⟨h17, hr⟩ := Li hr
      obtain ⟨h18, hr⟩ := Li hr
      refine AWp.last ⟨[⟨5, none, .sl ((appL s2.2 [(Tb.mk (eqI s2.1 (subI .i64 (addI .i64 1 (bitsOp .and .i64 (nthI x1 s1.1) 3)) 1)) 96 (addI .u16 x0 (cvtI .u16 (lenL s2.2))) (cvtI .u32 (mulI .i64 3000 s1.1)) 7 [] false 0 ⟨#[]⟩ (catS r2 (strOfNums [v3, (cvtI .u8 s1.1), (cvtI .u8 s2.1)])) 0)]).map Tb.enc) (.own 0 (γ2 + 1) 11)⟩, ⟨29, none, .n (addI .i64 1 (bitsOp .and .i64 (nthI x1 s1.1) 3))⟩, ⟨30, none, .n s2.1⟩, ⟨7, none, .n (addI .i64 1 (bitsOp .and .i64 (nthI x1 s1.1) 3))⟩, ⟨6, none, .n s1.1⟩, ⟨0, none, .lit (.int .u16 x0)⟩, ⟨1, none, .sl (x1.map (eNum .i64)) .no⟩], [.room (γ2 + 1), .blk [.b r1.fK, .b (eqI s2.1 0), .n r1.fG, .n r1.fB, .b r1.fU, .n r1.fH, .n r1.fI, .b r1.fR, .n r1.fJ]]⟩ (AWp.regD Try.mixed Try.tyOk hΓ [5] [10, 9, 8] [] [(false, []), (false, []), (false, []), (false, []), (false, []), (false, []), (false, []), (false, []), (false, []), (false, []), (false, []), (false, []), (false, []), (false, []), (false, []), (false, []), (false, []), (false, []), (false, []), (false, []), (false, []), (false, []), (false, []), (false, []), (false, []), (true, []), (false, [])] (by kernel_rfl) rfl (by simp [h16, h17, h18])) ?_
      refine AWp.last ⟨[⟨30, none, .n (addI .i64 s2.1 1)⟩, ⟨5, none, .sl ((appL s2.2 [(Tb.mk (eqI s2.1 (subI .i64 (addI .i64 1 (bitsOp .and .i64 (nthI x1 s1.1) 3)) 1)) 96 (addI .u16 x0 (cvtI .u16 (lenL s2.2))) (cvtI .u32 (mulI .i64 3000 s1.1)) 7 [] false 0 ⟨#[]⟩ (catS r2 (strOfNums [v3, (cvtI .u8 s1.1), (cvtI .u8 s2.1)])) 0)]).map Tb.enc) (.own 0 (γ2 + 1) 11)⟩, ⟨29, none, .n (addI .i64 1 (bitsOp .and .i64 (nthI x1 s1.1) 3))⟩, ⟨7, none, .n (addI .i64 1 (bitsOp .and .i64 (nthI x1 s1.1) 3))⟩, ⟨6, none, .n s1.1⟩, ⟨0, none, .lit (.int .u16 x0)⟩, ⟨1, none, .sl (x1.map (eNum .i64)) .no⟩], [.room (γ2 + 1), .blk [.b r1.fK, .b (eqI s2.1 0), .n r1.fG, .n r1.fB, .b r1.fU, .n r1.fH, .n r1.fI, .b r1.fR, .n r1.fJ]]⟩ (AWp.reg Try.tyOk hΓ [30] [] (by kernel_rfl) rfl (by simp)) ?_
      obtain rfl := La hr
      exact round_go (γ2 + 1) 1 (by first | (simp; done) | simp [h10, h11, h12, h13, h16, h17, h18])
    ·have hr := Lk h12 hr
     refine AWp.exit ?_
     obtain rfl := La hr
     exact round_out (γ2) 1 (by first | (simp; done) | simp [h10, h11, h12])
   ·refine AWp.conv hc ?_
    refine AWp.last ⟨[⟨6, none, .n (addI .i64 s1.1 1)⟩, ⟨5, none, .sl (v2.map Tb.enc) (.own 0 (γ2a) 11)⟩, ⟨0, none, .lit (.int .u16 x0)⟩, ⟨1, none, .sl (x1.map (eNum .i64)) .no⟩], [.room (γ2a)]⟩ (AWp.reg Try.tyOk hΓ [6] [] (by kernel_rfl) rfl (by simp)) ?_
    obtain rfl := La hr
    exact round_go (γ2a) 1 (by first | (simp; done) | simp [h10, h11])
  ·have hr := Lk h10 hr
   refine AWp.exit ?_
   obtain rfl := La hr
   exact round_out (γ1) 1 (by first | (simp; done) | simp [h10])
 ·refine AWp.conv hc ?_
  refine AWp.then ⟨[⟨4, none, .sl (v1.map Tb.enc) (.own 0 (γ1a) 11)⟩], [.room (γ1a)]⟩ (AWp.reg Try.tyOk hΓ [4] [5] (by kernel_rfl) rfl (by simp)) ?_
  refine AWp.ret ?_
  obtain rfl := La hr
  refine Lg ?_
  simp

@[simp] noncomputable def gj.S : Sp
 | [.lit (.int .u16 x0), .sl e1 _], _ => some { av := .sl (((gj x0 (e1.map decI)).getD dflt).map Tb.enc) .no, M := none, obl := e1 = (e1.map decI).map (eNum .i64) ∧ (gj x0 (e1.map decI)).isSome = true }
 | _, _ => none

theorem gj.ok : SpecOk Try.prog 9 gj.S := by
 intro l M out h
 unfold gj.S at h
 split at h
 ·rename_i x0 e1 k1
  cases h
  refine callOk_of fun ho => ?_
  obtain ⟨ox1, hs⟩ := ho
  generalize (e1.map decI) = x1 at *
  subst ox1
  obtain ⟨r, hr⟩ := Option.isSome_iff_exists.1 hs
  simp only [hr, Option.getD_some]
  have q := Lh (M := M) [] (gj.can x0 x1 r hr) (by simp) rfl (by intro k i hk; simp at hk)
  exact callOk_conv q trivial (by simp) (by simp [frameOut, gj.out]) (by simp [frameOut, gj.out])
 ·cases h

@[simp] def gU.out (_x0 : Bool) (_x1 : Int) (_x2 : Int) (_x3 : Int) (r : Tu) : Out := { av := .agg [.lit (.int .i64 r.fo.fk), .lit (.int .i64 r.fo.fq), .lit (.bool r.fD.fu), .lit (.int .i64 r.fD.fv), .lit (.int .i64 r.fD.fj), .lit (.int .i64 r.fD.fq)], M := none }
def gU.fin (x0 : Bool) (x1 : Int) (x2 : Int) (x3 : Int) (r : Tu) (σ : St) : Prop := finK (gU.out x0 x1 x2 x3 r) [] σ.M (resA Try.ty σ.A σ.M Try.f15.results.toList)
theorem gU.can (x0 : Bool) (x1 : Int) (x2 : Int) (x3 : Int) (r : Tu) (hr : gU x0 x1 x2 x3 = some r) : CallOk Try.prog 15 [.lit (.bool x0), .lit (.int .i64 x1), .lit (.int .i64 x2), .lit (.int .i64 x3)] [] (gU.out x0 x1 x2 x3 r) := by
 unfold gU at hr
 have hΓ := gamL_nil (P := Try.prog)
 refine Lf Try.tyOk Try.func15 rfl (by kernel_rfl) rfl rfl (by simp) ?_
 intro _ _ _
 refine AWp.then ⟨[⟨8, none, .ptr 0 0⟩, ⟨0, none, .b x0⟩, ⟨1, none, .n x1⟩, ⟨2, none, .n x2⟩, ⟨3, none, .n x3⟩], [.blk [.n 0, .n 0, .b false, .n 0, .n 0, .n 0]]⟩ (AWp.reg Try.tyOk hΓ [8] [] (by kernel_rfl) rfl (by simp)) ?_
 obtain ⟨h2, hr⟩ := Li hr
 refine AWp.then ⟨[⟨8, none, .ptr 0 0⟩], [.blk [.n (addI .i64 1 (remI (bitsOp .and .i64 x1 255) 40)), .n (bitsOp .and .i64 x2 31), .b x0, .n 400, .n (addI .i64 1 (bitsOp .and .i64 x3 7)), .n (bitsOp .and .i64 x2 31)]]⟩ (AWp.reg Try.tyOk hΓ [] [0, 1, 2, 3] (by kernel_rfl) rfl (by simp [h2])) ?_
 refine AWp.ret ?_
 obtain rfl := La hr
 refine Lg ?_
 simp

@[simp] noncomputable def gU.S : Sp
 | [.lit (.bool x0), .lit (.int .i64 x1), .lit (.int .i64 x2), .lit (.int .i64 x3)], _ => (fun (r : Tu) => some { av := .agg [.lit (.int .i64 (r.fo.fk)), .lit (.int .i64 (r.fo.fq)), .lit (.bool (r.fD.fu)), .lit (.int .i64 (r.fD.fv)), .lit (.int .i64 (r.fD.fj)), .lit (.int .i64 (r.fD.fq))], M := none, obl := (gU x0 x1 x2 x3).isSome = true }) ((gU x0 x1 x2 x3).getD dflt)
 | _, _ => none

theorem gU.ok : SpecOk Try.prog 15 gU.S := by
 intro l M out h
 unfold gU.S at h
 split at h
 ·rename_i x0 x1 x2 x3
  try dsimp only at h
  cases h
  refine callOk_of fun ho => ?_
  have hs := ho
  obtain ⟨r, hr⟩ := Option.isSome_iff_exists.1 hs
  simp only [hr, Option.getD_some]
  have q := Lh (M := M) [] (gU.can x0 x1 x2 x3 r hr) (by simp) rfl (by intro k i hk; simp at hk)
  exact callOk_conv q trivial (by simp) (by simp [frameOut, gU.out]) (by simp [frameOut, gU.out])
 ·cases h

@[simp] def gad.out (_x0 : Tu) (r : Option Tf × Te × Bool) : Out := { av := .tup [(optC r.1 (.lit (.pointer none)) fun _ => .ptr 9 0), .agg [.lit (.bool r.2.1.ff.fd), .lit (.int .i64 r.2.1.ff.fk), .lit (.int .i64 r.2.1.ff.fX), .lit (.int .i64 r.2.1.ff.fM), .lit (.int .i64 r.2.1.ff.fC), .lit (.int .i64 r.2.1.fh), .lit (.int .i64 r.2.1.fo.fk), .lit (.int .i64 r.2.1.fo.fq), .lit (.bool r.2.1.fo.fd), .lit (.int .i64 r.2.1.fo.fg), .sl (r.2.1.fo.fL.map Ta.enc) .no, .lit (.int .i64 r.2.1.fo.fe), .lit (.bool r.2.1.fc.fu), .lit (.int .i64 r.2.1.fc.fv), .lit (.int .i64 r.2.1.fc.fj), .lit (.int .i64 r.2.1.fc.fq), .sl (r.2.1.fc.fw.map Tc.enc) .no, .lit (.int .i64 r.2.1.fc.fz), .lit (.int .i64 r.2.1.fc.fe), .sl (r.2.1.fL.map Tx.enc) .no, .lit (.int .i64 r.2.1.fp), .lit (.int .i64 r.2.1.fm)], .lit (.bool r.2.2)], M := some (optC r.1 [] fun m0 => [.dead, .dead, .dead, .dead, .mapo (encM (kI .i64) (vA Ta.enc) m0.fa.fOf), .blk [.lit (.int .i64 m0.fa.fb.fk), .lit (.int .i64 m0.fa.fb.fq), .lit (.bool m0.fa.fd), .lit (.int .i64 m0.fa.fg), .mp 4, .lit (.int .i64 m0.fa.fe)], .dead, .blk [.lit (.bool m0.fc.fb.fu), .lit (.int .i64 m0.fc.fb.fv), .lit (.int .i64 m0.fc.fb.fj), .lit (.int .i64 m0.fc.fb.fq), .sl (m0.fc.fw.fj.map Tc.enc) .no, .lit (.int .i64 m0.fc.fz), .lit (.int .i64 m0.fc.fe)], .mapo (encM (kI .i64) (vA Tb.enc) m0.fOf), .blk [.ptr 5 0, .ptr 7 0, .lit (.bool m0.ff.fd), .lit (.int .i64 m0.ff.fk), .lit (.int .u16 m0.ff.fV), .lit (.int .i64 m0.ff.fM), .lit (.int .i64 m0.ff.fC), .lit (.bool m0.fh.fd), .lit (.int .i64 m0.fh.fW), .mp 8, .lit (.int .i64 m0.fp), .lit (.int .i64 m0.fm)]]) }
def gad.fin (x0 : Tu) (r : Option Tf × Te × Bool) (σ : St) : Prop := finK (gad.out x0 r) [] σ.M (resA Try.ty σ.A σ.M Try.f8.results.toList)
theorem gad.can (x0 : Tu) (r : Option Tf × Te × Bool) (hr : gad x0 = some r) : CallOk Try.prog 8 [.agg [.lit (.int .i64 x0.fo.fk), .lit (.int .i64 x0.fo.fq), .lit (.bool x0.fD.fu), .lit (.int .i64 x0.fD.fv), .lit (.int .i64 x0.fD.fj), .lit (.int .i64 x0.fD.fq)]] [] (gad.out x0 r) := by
 unfold gad at hr
 have hΓ := (gamL_cons gY.ok (gamL_nil) : GamOk Try.prog _)
 refine Lf Try.tyOk Try.func8 rfl (by kernel_rfl) rfl rfl (by simp) ?_
 intro _ _ _
 refine AWp.then ⟨[⟨1, none, .ptr 0 0⟩, ⟨3, none, .ptr 1 0⟩], [.blk x0.enc, .blk [.b false, .n 0, .n 0, .n 0, .n 0, .n 0, .n 0, .n 0, .b false, .n 0, .sl [] .full, .n 0, .b false, .n 0, .n 0, .n 0, .sl [] .full, .n 0, .n 0, .sl [] .full, .n 0, .n 0]]⟩ (AWp.reg Try.tyOk hΓ [1, 3] [0] (by kernel_rfl) rfl (by simp)) ?_
 obtain ⟨r1, h3, hr⟩ := Lc hr
 cases h4 : r1.1 with
 | none =>
  have hr := optC_n h4 hr
  refine AWp.thenA [⟨5, none, .lit (.pointer none)⟩, ⟨6, none, .n r1.2⟩, ⟨1, none, .ptr 0 0⟩, ⟨3, none, .ptr 1 0⟩] (AWp.reg Try.tyOk hΓ [5, 6] [] (by kernel_rfl) rfl (by simp [h3, h4])) ?_
  refine AWp.then ⟨[⟨7, none, .ptr 2 0⟩, ⟨5, none, .lit (.pointer none)⟩, ⟨6, none, .n r1.2⟩, ⟨3, none, .ptr 1 0⟩], [.blk x0.enc, .blk [.b false, .n 0, .n 0, .n 0, .n 0, .n 0, .n 0, .n 0, .b false, .n 0, .sl [] .full, .n 0, .b false, .n 0, .n 0, .n 0, .sl [] .full, .n 0, .n 0, .sl [] .full, .n 0, .n 0], .blk [.b false, .n 0, .n (-1), .n 0, .n 0, .n (-1), .n x0.fo.fk, .n x0.fo.fq, .b false, .n 0, .sl [] .no, .n 0, .b x0.fD.fu, .n x0.fD.fv, .n x0.fD.fj, .n x0.fD.fq, .sl [] .no, .n 0, .n 0, .sl [] .no, .n 0, .n 0]]⟩ (AWp.reg Try.tyOk hΓ [7] [1] (by kernel_rfl) rfl (by simp)) ?_
  refine AWp.then ⟨[⟨2, none, .lit (.pointer none)⟩, ⟨4, none, .b (pickB (eqI r1.2 0) false false)⟩, ⟨3, none, .ptr 1 0⟩], [.blk x0.enc, .blk [.b false, .n 0, .n (-1), .n 0, .n 0, .n (-1), .n x0.fo.fk, .n x0.fo.fq, .b false, .n 0, .sl [] .no, .n 0, .b x0.fD.fu, .n x0.fD.fv, .n x0.fD.fj, .n x0.fD.fq, .sl [] .no, .n 0, .n 0, .sl [] .no, .n 0, .n 0], .blk [.b false, .n 0, .n (-1), .n 0, .n 0, .n (-1), .n x0.fo.fk, .n x0.fo.fq, .b false, .n 0, .sl [] .no, .n 0, .b x0.fD.fu, .n x0.fD.fv, .n x0.fD.fj, .n x0.fD.fq, .sl [] .no, .n 0, .n 0, .sl [] .no, .n 0, .n 0]]⟩ (AWp.regD Try.mixed Try.tyOk hΓ [2, 4] [7, 5, 6] [(5, 10), (6, 10), (7, 10)] [(false, []), (false, []), (false, []), (false, []), (false, []), (false, [39]), (false, [39]), (false, []), (false, []), (true, []), (false, [])] (by kernel_rfl) rfl (by simp)) ?_
  refine AWp.ret ?_
  obtain rfl := La hr
  refine Lg ?_
  simp
 | some o1 =>
  have hr := optC_s h4 hr
  refine AWp.then ⟨[⟨5, none, .ptr 9 0⟩, ⟨6, none, .n r1.2⟩, ⟨1, none, .ptr 0 0⟩, ⟨3, none, .ptr 1 0⟩], [.blk x0.enc, .blk [.b false, .n 0, .n 0, .n 0, .n 0, .n 0, .n 0, .n 0, .b false, .n 0, .sl [] .full, .n 0, .b false, .n 0, .n 0, .n 0, .sl [] .full, .n 0, .n 0, .sl [] .full, .n 0, .n 0], .dead, .dead, .mapo (encM (kI .i64) (vA Ta.enc) o1.fa.fOf), .blk (o1.fa.fb.enc ++ [.b o1.fa.fd, .n o1.fa.fg, .mp 4, .n o1.fa.fe]), .dead, .blk o1.fc.enc, .mapo (encM (kI .i64) (vA Tb.enc) o1.fOf), .blk ([.ptr 5 0, .ptr 7 0] ++ o1.ff.enc ++ o1.fh.enc ++ [.mp 8, .n o1.fp, .n o1.fm])]⟩ (AWp.reg Try.tyOk hΓ [5, 6] [] (by kernel_rfl) rfl (by simp [h3, h4])) ?_
  refine AWp.then ⟨[⟨7, none, .ptr 10 0⟩, ⟨5, none, .ptr 9 0⟩, ⟨6, none, .n r1.2⟩, ⟨3, none, .ptr 1 0⟩], [.blk x0.enc, .blk [.b false, .n 0, .n 0, .n 0, .n 0, .n 0, .n 0, .n 0, .b false, .n 0, .sl [] .full, .n 0, .b false, .n 0, .n 0, .n 0, .sl [] .full, .n 0, .n 0, .sl [] .full, .n 0, .n 0], .dead, .dead, .mapo (encM (kI .i64) (vA Ta.enc) o1.fa.fOf), .blk (o1.fa.fb.enc ++ [.b o1.fa.fd, .n o1.fa.fg, .mp 4, .n o1.fa.fe]), .dead, .blk o1.fc.enc, .mapo (encM (kI .i64) (vA Tb.enc) o1.fOf), .blk ([.ptr 5 0, .ptr 7 0] ++ o1.ff.enc ++ o1.fh.enc ++ [.mp 8, .n o1.fp, .n o1.fm]), .blk [.b false, .n 0, .n (-1), .n 0, .n 0, .n (-1), .n x0.fo.fk, .n x0.fo.fq, .b false, .n 0, .sl [] .no, .n 0, .b x0.fD.fu, .n x0.fD.fv, .n x0.fD.fj, .n x0.fD.fq, .sl [] .no, .n 0, .n 0, .sl [] .no, .n 0, .n 0]]⟩ (AWp.reg Try.tyOk hΓ [7] [1] (by kernel_rfl) rfl (by simp)) ?_
  refine AWp.then ⟨[⟨2, none, .ptr 9 0⟩, ⟨4, none, .b (pickB (eqI r1.2 0) true false)⟩, ⟨3, none, .ptr 1 0⟩], [.blk x0.enc, .blk [.b false, .n 0, .n (-1), .n 0, .n 0, .n (-1), .n x0.fo.fk, .n x0.fo.fq, .b false, .n 0, .sl [] .no, .n 0, .b x0.fD.fu, .n x0.fD.fv, .n x0.fD.fj, .n x0.fD.fq, .sl [] .no, .n 0, .n 0, .sl [] .no, .n 0, .n 0], .dead, .dead, .mapo (encM (kI .i64) (vA Ta.enc) o1.fa.fOf), .blk (o1.fa.fb.enc ++ [.b o1.fa.fd, .n o1.fa.fg, .mp 4, .n o1.fa.fe]), .dead, .blk o1.fc.enc, .mapo (encM (kI .i64) (vA Tb.enc) o1.fOf), .blk ([.ptr 5 0, .ptr 7 0] ++ o1.ff.enc ++ o1.fh.enc ++ [.mp 8, .n o1.fp, .n o1.fm]), .blk [.b false, .n 0, .n (-1), .n 0, .n 0, .n (-1), .n x0.fo.fk, .n x0.fo.fq, .b false, .n 0, .sl [] .no, .n 0, .b x0.fD.fu, .n x0.fD.fv, .n x0.fD.fj, .n x0.fD.fq, .sl [] .no, .n 0, .n 0, .sl [] .no, .n 0, .n 0]]⟩ (AWp.regD Try.mixed Try.tyOk hΓ [2, 4] [7, 5, 6] [(5, 10), (6, 10), (7, 10)] [(false, []), (false, []), (false, []), (false, []), (false, []), (false, [39]), (false, [39]), (false, []), (false, []), (true, []), (false, [])] (by kernel_rfl) rfl (by simp)) ?_
  refine AWp.ret ?_
  obtain rfl := La hr
  refine Lg ?_
  simp

@[simp] noncomputable def gad.S : Sp
 | [.agg e0], M => (fun (r : Option Tf × Te × Bool) => some { av := .tup [(optC (r.1) (.lit (.pointer none)) fun _ => .ptr (M.length + 9) 0), .agg [.lit (.bool (r.2.1.ff.fd)), .lit (.int .i64 (r.2.1.ff.fk)), .lit (.int .i64 (r.2.1.ff.fX)), .lit (.int .i64 (r.2.1.ff.fM)), .lit (.int .i64 (r.2.1.ff.fC)), .lit (.int .i64 (r.2.1.fh)), .lit (.int .i64 (r.2.1.fo.fk)), .lit (.int .i64 (r.2.1.fo.fq)), .lit (.bool (r.2.1.fo.fd)), .lit (.int .i64 (r.2.1.fo.fg)), .sl ((r.2.1.fo.fL).map Ta.enc) .no, .lit (.int .i64 (r.2.1.fo.fe)), .lit (.bool (r.2.1.fc.fu)), .lit (.int .i64 (r.2.1.fc.fv)), .lit (.int .i64 (r.2.1.fc.fj)), .lit (.int .i64 (r.2.1.fc.fq)), .sl ((r.2.1.fc.fw).map Tc.enc) .no, .lit (.int .i64 (r.2.1.fc.fz)), .lit (.int .i64 (r.2.1.fc.fe)), .sl ((r.2.1.fL).map Tx.enc) .no, .lit (.int .i64 (r.2.1.fp)), .lit (.int .i64 (r.2.1.fm))], .lit (.bool (r.2.2))], M := some (optC (r.1) M fun m0 => M ++ [.dead, .dead, .dead, .dead, .mapo (encM (kI .i64) (vA Ta.enc) m0.fa.fOf), .blk [.lit (.int .i64 m0.fa.fb.fk), .lit (.int .i64 m0.fa.fb.fq), .lit (.bool m0.fa.fd), .lit (.int .i64 m0.fa.fg), .mp (M.length + 4), .lit (.int .i64 m0.fa.fe)], .dead, .blk [.lit (.bool m0.fc.fb.fu), .lit (.int .i64 m0.fc.fb.fv), .lit (.int .i64 m0.fc.fb.fj), .lit (.int .i64 m0.fc.fb.fq), .sl (m0.fc.fw.fj.map Tc.enc) .no, .lit (.int .i64 m0.fc.fz), .lit (.int .i64 m0.fc.fe)], .mapo (encM (kI .i64) (vA Tb.enc) m0.fOf), .blk [.ptr (M.length + 5) 0, .ptr (M.length + 7) 0, .lit (.bool m0.ff.fd), .lit (.int .i64 m0.ff.fk), .lit (.int .u16 m0.ff.fV), .lit (.int .i64 m0.ff.fM), .lit (.int .i64 m0.ff.fC), .lit (.bool m0.fh.fd), .lit (.int .i64 m0.fh.fW), .mp (M.length + 8), .lit (.int .i64 m0.fp), .lit (.int .i64 m0.fm)]]), obl := WeakL e0 (Tu.enc (Tu.dec e0)) ∧ (gad (Tu.dec e0)).isSome = true }) ((gad (Tu.dec e0)).getD dflt)
 | _, _ => none

theorem gad.ok : SpecOk Try.prog 8 gad.S := by
 intro l M out h
 unfold gad.S at h
 split at h
 ·rename_i e0
  try dsimp only at h
  cases h
  refine callOk_of fun ho => ?_
  obtain ⟨ox0, hs⟩ := ho
  generalize (Tu.dec e0) = x0 at *
  obtain ⟨r, hr⟩ := Option.isSome_iff_exists.1 hs
  simp only [hr, Option.getD_some]
  have q := Lh (M := M) [] (gad.can x0 r hr) (by simp) rfl (by intro k i hk; simp at hk)
  cases hc : r.1 with
  | none => exact callOk_conv q trivial (by simp; exact ox0) (by simp [hc, frameOut, gad.out]) (by simp [hc, frameOut, gad.out])
  | some m0 => exact callOk_conv q trivial (by simp; exact ox0) (by simp [hc, frameOut, gad.out, into]) (by simp [hc, frameOut, gad.out, into])
 ·cases h

@[simp] def gai.out  (r : Bool) : Out := { av := .lit (.bool r), M := none }
def gai.fin  (r : Bool) (σ : St) : Prop := finK (gai.out  r) [] σ.M (resA Try.ty σ.A σ.M Try.f7.results.toList)
theorem gai.can  (r : Bool) (hr : gai = some r) : CallOk Try.prog 7 [] [] (gai.out  r) := by
 unfold gai at hr
 have hΓ := (gamL_cons gA.ok (gamL_cons gl.ok (gamL_cons gG.ok (gamL_cons gU.ok (gamL_cons gj.ok (gamL_cons gY.ok (gamL_nil)))))) : GamOk Try.prog _)
 refine Lf Try.tyOk Try.func7 rfl (by kernel_rfl) rfl rfl (by simp) ?_
 intro _ _ _
 refine AWp.then ⟨[], []⟩ (AWp.reg Try.tyOk hΓ [] [] (by kernel_rfl) rfl (by simp)) ?_
 obtain ⟨r1, h17, hr⟩ := Lc hr
 obtain ⟨r2, h18, hr⟩ := Lc hr
 cases h19 : r2.1 with
 | none =>
  have hr := optC_n h19 hr
  refine AWp.thenA [⟨1, none, .lit (.pointer none)⟩, ⟨2, none, .n r2.2⟩] (AWp.reg Try.tyOk hΓ [1, 2] [] (by kernel_rfl) rfl (by simp [h17, h18, h19])) ?_
  refine AWp.seq ?_
  cases h20 : (pickB (neI r2.2 0) true true) with
  | true =>
   have hr := Lj h20 hr
   refine AWp.then ⟨[⟨27, none, .b true⟩, ⟨1, none, .lit (.pointer none)⟩], []⟩ (AWp.regG Try.tyOk hΓ [(21, true)] (keep := [27]) (dead := [2]) (by kernel_rfl) rfl (by simp [h20])) ?_
   refine AWp.cond (b := true) (by simp) (fun hb => ?_) (fun hb => ?_)
   ·refine AWp.thenA [⟨0, none, .b false⟩] (AWp.reg Try.tyOk hΓ [0] [27, 1] (by kernel_rfl) rfl (by simp)) ?_
    refine AWp.ret ?_
    obtain rfl := La hr
    refine Lg ?_
    simp
   ·cases hb
  | false =>
   have hr := Lk h20 hr
   cases hr
 | some o1 =>
  have hr := optC_s h19 hr
  refine AWp.then ⟨[⟨1, none, .ptr 7 0⟩, ⟨2, none, .n r2.2⟩], [.dead, .dead, .mapo (encM (kI .i64) (vA Ta.enc) o1.fa.fOf), .blk (o1.fa.fb.enc ++ [.b o1.fa.fd, .n o1.fa.fg, .mp 2, .n o1.fa.fe]), .dead, .blk o1.fc.enc, .mapo (encM (kI .i64) (vA Tb.enc) o1.fOf), .blk ([.ptr 3 0, .ptr 5 0] ++ o1.ff.enc ++ o1.fh.enc ++ [.mp 6, .n o1.fp, .n o1.fm])]⟩ (AWp.reg Try.tyOk hΓ [1, 2] [] (by kernel_rfl) rfl (by simp [h17, h18, h19])) ?_
  refine AWp.seq ?_
  refine AWp.then ⟨[⟨27, none, .b (pickB (pickB (neI r2.2 0) true false) true false)⟩, ⟨1, none, .ptr 7 0⟩], [.dead, .dead, .mapo (encM (kI .i64) (vA Ta.enc) o1.fa.fOf), .blk (o1.fa.fb.enc ++ [.b o1.fa.fd, .n o1.fa.fg, .mp 2, .n o1.fa.fe]), .dead, .blk o1.fc.enc, .mapo (encM (kI .i64) (vA Tb.enc) o1.fOf), .blk ([.ptr 3 0, .ptr 5 0] ++ o1.ff.enc ++ o1.fh.enc ++ [.mp 6, .n o1.fp, .n o1.fm])]⟩ (AWp.reg Try.tyOk hΓ [27] [2] (by kernel_rfl) rfl (by simp)) ?_
  refine AWp.cond (b := (pickB (pickB (neI r2.2 0) true false) true false)) (by simp) (fun h21 => ?_) (fun h21 => ?_)
  ·have hr := Lj h21 hr
   refine AWp.thenA [⟨0, none, .b false⟩] (AWp.reg Try.tyOk hΓ [0] [27, 1] (by kernel_rfl) rfl (by simp)) ?_
   refine AWp.ret ?_
   obtain rfl := La hr
   refine Lg ?_
   simp
  ·have hr := Lk h21 hr
   refine AWp.skip ?_
   obtain ⟨r3, h22, hr⟩ := Lc hr
   refine AWp.then ⟨[⟨3, none, .sl (r3.map Tb.enc) .no⟩, ⟨1, none, .ptr 7 0⟩], [.dead, .dead, .mapo (encM (kI .i64) (vA Ta.enc) o1.fa.fOf), .blk (o1.fa.fb.enc ++ [.b o1.fa.fd, .n o1.fa.fg, .mp 2, .n o1.fa.fe]), .dead, .blk o1.fc.enc, .mapo (encM (kI .i64) (vA Tb.enc) o1.fOf), .blk ([.ptr 3 0, .ptr 5 0] ++ o1.ff.enc ++ o1.fh.enc ++ [.mp 6, .n o1.fp, .n o1.fm])]⟩ (AWp.reg Try.tyOk hΓ [3] [27] (by kernel_rfl) rfl (by simp [h22])) ?_
   obtain ⟨h23, hr⟩ := Li hr
   obtain ⟨r4, h24, hr⟩ := Lc hr
   refine AWp.then ⟨[⟨4, none, .sl (r4.1.map Tl.enc) .no⟩, ⟨5, none, .n r4.2.1⟩, ⟨3, none, .sl (r3.map Tb.enc) .no⟩, ⟨1, none, .ptr 7 0⟩], [.dead, .dead, .mapo (encM (kI .i64) (vA Ta.enc) r4.2.2.fa.fOf), .blk (r4.2.2.fa.fb.enc ++ [.b r4.2.2.fa.fd, .n r4.2.2.fa.fg, .mp 2, .n r4.2.2.fa.fe]), .dead, .blk r4.2.2.fc.enc, .mapo (encM (kI .i64) (vA Tb.enc) r4.2.2.fOf), .blk ([.ptr 3 0, .ptr 5 0] ++ r4.2.2.ff.enc ++ r4.2.2.fh.enc ++ [.mp 6, .n r4.2.2.fp, .n r4.2.2.fm])]⟩ (AWp.reg Try.tyOk hΓ [4, 5] [] (by kernel_rfl) rfl (by simp [h23, h24])) ?_
   obtain ⟨h25, hr⟩ := Li hr
   obtain ⟨r5, h26, hr⟩ := Lc hr
   refine AWp.then ⟨[⟨6, none, .sl (r5.1.map Tl.enc) .no⟩, ⟨7, none, .n r5.2.1⟩, ⟨4, none, .sl (r4.1.map Tl.enc) .no⟩, ⟨5, none, .n r4.2.1⟩, ⟨3, none, .sl (r3.map Tb.enc) .no⟩, ⟨1, none, .ptr 7 0⟩], [.dead, .dead, .mapo (encM (kI .i64) (vA Ta.enc) r5.2.2.fa.fOf), .blk (r5.2.2.fa.fb.enc ++ [.b r5.2.2.fa.fd, .n r5.2.2.fa.fg, .mp 2, .n r5.2.2.fa.fe]), .dead, .blk r5.2.2.fc.enc, .mapo (encM (kI .i64) (vA Tb.enc) r5.2.2.fOf), .blk ([.ptr 3 0, .ptr 5 0] ++ r5.2.2.ff.enc ++ r5.2.2.fh.enc ++ [.mp 6, .n r5.2.2.fp, .n r5.2.2.fm])]⟩ (AWp.reg Try.tyOk hΓ [6, 7] [] (by kernel_rfl) rfl (by simp [h25, h26])) ?_
   obtain ⟨h27, hr⟩ := Li hr
   obtain ⟨r6, h28, hr⟩ := Lc hr
   refine AWp.then ⟨[⟨9, none, .n r6.2.1⟩, ⟨6, none, .sl (r5.1.map Tl.enc) .no⟩, ⟨7, none, .n r5.2.1⟩, ⟨4, none, .sl (r4.1.map Tl.enc) .no⟩, ⟨5, none, .n r4.2.1⟩, ⟨1, none, .ptr 7 0⟩], [.dead, .dead, .mapo (encM (kI .i64) (vA Ta.enc) r6.2.2.fa.fOf), .blk (r6.2.2.fa.fb.enc ++ [.b r6.2.2.fa.fd, .n r6.2.2.fa.fg, .mp 2, .n r6.2.2.fa.fe]), .dead, .blk r6.2.2.fc.enc, .mapo (encM (kI .i64) (vA Tb.enc) r6.2.2.fOf), .blk ([.ptr 3 0, .ptr 5 0] ++ r6.2.2.ff.enc ++ r6.2.2.fh.enc ++ [.mp 6, .n r6.2.2.fp, .n r6.2.2.fm])]⟩ (AWp.reg Try.tyOk hΓ [9] [3] (by kernel_rfl) rfl (by simp [h23, h28])) ?_
   obtain ⟨h29, hr⟩ := Li hr
   obtain ⟨h30, hr⟩ := Li hr
   obtain ⟨h31, hr⟩ := Li hr
   obtain ⟨h32, hr⟩ := Li hr
   refine AWp.thenA [⟨0, none, .b (pickB (pickB (pickB (pickB (pickB (pickB (pickB (eqI (lenL r4.1) 0) (eqI r4.2.1 0) false) (eqI r5.2.1 0) false) (eqI (lenL r5.1) 1) false) ((gG (nthI r5.1 0)).getD dflt) false) (eqI (lenL ((nthI r5.1 0).fj)) 2) false) (eqI r6.2.1 13) false) (eqI ((gA r6.2.2).getD dflt) 1) false)⟩] (AWp.reg Try.tyOk hΓ [0] [9, 6, 7, 4, 5, 1] (by kernel_rfl) rfl (by simp [h29, h30, h31, h32])) ?_
   refine AWp.ret ?_
   obtain rfl := La hr
   refine Lg ?_
   simp

@[simp] noncomputable def gai.S : Sp
 | [], _ => some { av := .lit (.bool (gai.getD dflt)), M := none, obl := gai.isSome = true }
 | _, _ => none

theorem gai.ok : SpecOk Try.prog 7 gai.S := by
 intro l M out h
 unfold gai.S at h
 split at h
 ·cases h
  refine callOk_of fun ho => ?_
  have hs := ho
  obtain ⟨r, hr⟩ := Option.isSome_iff_exists.1 hs
  simp only [hr, Option.getD_some]
  have q := Lh (M := M) [] (gai.can r hr) (by simp) rfl (by intro k i hk; simp at hk)
  exact callOk_conv q trivial (by simp) (by simp [frameOut, gai.out]) (by simp [frameOut, gai.out])
 ·cases h
end Go.Proofs

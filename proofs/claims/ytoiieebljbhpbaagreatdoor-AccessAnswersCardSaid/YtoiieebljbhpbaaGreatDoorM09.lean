/- That these functions compute what their plain functions do. No condition. -/
import Derived.Test.YtoiieebljbhpbaaGreatDoorM14
import Derived.Test.YtoiieebljbhpbaaGreatDoorTy
import Derived.Test.YtoiieebljbhpbaaGreatDoorM06
import Derived.Test.YtoiieebljbhpbaaGreatDoorM02
import Derived.Test.YtoiieebljbhpbaaGreatDoorXb
import Derived.Test.YtoiieebljbhpbaaGreatDoorXa
import Derived.Test.YtoiieebljbhpbaaGreatDoorM20
import Derived.Test.YtoiieebljbhpbaaGreatDoorM11
import Derived.Test.YtoiieebljbhpbaaGreatDoorHa
import Derived.Test.YtoiieebljbhpbaaGreatDoorM04
section
namespace Go.Proofs
open Go.Ab
@[simp] def gz.out (_x0 : Int) (_x1 : Int) (_x2 : Bool) (r : Bool) : Out := { av := .lit (.bool r), M := none }
def gz.fin (x0 : Int) (x1 : Int) (x2 : Bool) (r : Bool) (σ : St) : Prop := finK (gz.out x0 x1 x2 r) [] σ.M (resA Tryz.ty σ.A σ.M Tryz.f7.results.toList)
set_option maxHeartbeats 4000000 in
set_option maxRecDepth 100000 in
theorem gz.can (x0 : Int) (x1 : Int) (x2 : Bool) (r : Bool) (hr : gz x0 x1 x2 = some r) : CallOk Tryz.prog 7 [.lit (.int .i64 x0), .lit (.int .i64 x1), .lit (.bool x2)] [] (gz.out x0 x1 x2 r) := by
 unfold gz at hr
 have hΓ := (gamL_cons gf.ok (gamL_cons gg.ok (gamL_cons gq.ok (gamL_cons gk.ok (gamL_cons gE.ok (gamL_cons gU.ok (gamL_nil)))))) : GamOk Tryz.prog _)
 refine cw Tryz.func7 rfl (by kernel_rfl) rfl rfl (by simp) fun _ _ _ => ?_
 refine tq hΓ [] [] ?_
 refine AWp.seq ?_
 obtain ⟨r1, h19, hr⟩ := Ld hr
 refine tq hΓ [20] [] ?_ (by simp [h19]; exact rr)
 refine AWp.cnd hr (by simp) (fun h20 hr => ?_) (fun h20 hr => ?_)
 ·refine tq hΓ [6] [20, 0, 1, 2] ?_ (by simp [h20]; exact rr)
  obtain rfl := La hr
  exact AWp.ret (Le (by simp))
 ·refine AWp.skip ?_
  refine tq hΓ [0] [20] ?_ (by simp [h20]; exact rr)
  obtain ⟨r2, h21, hr⟩ := Ld hr
  refine tq hΓ [7] [] ?_ (by simp [h21]; exact rr)
  obtain ⟨h22, hr⟩ := Lg hr
  refine tq hΓ [1] [] ?_ (by simp [h22]; exact rr)
  refine AWp.seq ?_
  refine tq hΓ [30, 31] [] ?_ (by simp; exact rr)
  refine AWp.loopE (fun (s1 : Int × (List (Int × Ta)) × Int × (List (Tc × Te)) × (List (Tb × Tg)) × (List (Int × Tf))) (γ1 : Unit) => ⟨[⟨30, none, .n (addI .i64 2 (bitsOp .and .i64 x0 3))⟩, ⟨31, none, .n s1.1⟩, ⟨1, none, .n (remI (bitsOp .and .i64 x1 255) (addI .i64 2 (bitsOp .and .i64 x0 3)))⟩, ⟨7, none, .ptr 5 0⟩, ⟨0, none, .n (addI .i64 2 (bitsOp .and .i64 x0 3))⟩, ⟨2, none, .b x2⟩], [.mapo (encM (kI .i64) (vA Ta.enc) s1.2.1), .blk [.mp 0, .n s1.2.2.1], .mapo (encM (vA Tc.enc) (vA Te.enc) s1.2.2.2.1), .mapo (encM (vA Tb.enc) (vA Tg.enc) s1.2.2.2.2.1), .mapo (encM (kI .u32) (vA Tf.enc) s1.2.2.2.2.2), .blk [.ptr 1 0, .mp 2, .mp 3, .mp 4]]⟩) (fun (v1 : (List (Int × Ta)) × Int × (List (Tc × Te)) × (List (Tb × Tg)) × (List (Int × Tf))) (γ1a : Unit) => ⟨[⟨1, none, .n (remI (bitsOp .and .i64 x1 255) (addI .i64 2 (bitsOp .and .i64 x0 3)))⟩, ⟨7, none, .ptr 5 0⟩, ⟨0, none, .n (addI .i64 2 (bitsOp .and .i64 x0 3))⟩, ⟨2, none, .b x2⟩], [.mapo (encM (kI .i64) (vA Ta.enc) v1.1), .blk [.mp 0, .n v1.2.1], .mapo (encM (vA Tc.enc) (vA Te.enc) v1.2.2.1), .mapo (encM (vA Tb.enc) (vA Tg.enc) v1.2.2.2.1), .mapo (encM (kI .u32) (vA Tf.enc) v1.2.2.2.2), .blk [.ptr 1 0, .mp 2, .mp 3, .mp 4]]⟩) (gz.fin x0 x1 x2) hr () 6 (by simp) (fun s1 f γ1 hr => ?_) (fun v1 γ1a σ1 m1 hr hc => ?_) (fun _ h => h)
  ·unfold gz.loop1 at hr
   refine tq hΓ [32] [] ?_ (by simp; exact rr)
   refine AWp.seq ?_
   refine AWp.cnd hr (by simp) (fun h23 hr => ?_) (fun h23 hr => ?_)
   ·refine AWp.skip ?_
    refine AWp.seq ?_
    refine AWp.block ?_
    refine tq hΓ [8] [32] ?_ (by simp [h23]; exact rr)
    refine tq hΓ [34, 35] [] ?_ (by simp; exact rr)
    refine AWp.loopE (fun (s2 : Int × (List (Int × Ta)) × Int × (List (Tc × Te)) × (List (Tb × Tg)) × (List (Int × Tf))) (γ2 : Unit) => ⟨[⟨34, none, .n (addI .i64 2 (bitsOp .and .i64 x0 3))⟩, ⟨35, none, .n s2.1⟩, ⟨8, none, .n s1.1⟩, ⟨30, none, .n (addI .i64 2 (bitsOp .and .i64 x0 3))⟩, ⟨31, none, .n s1.1⟩, ⟨1, none, .n (remI (bitsOp .and .i64 x1 255) (addI .i64 2 (bitsOp .and .i64 x0 3)))⟩, ⟨7, none, .ptr 5 0⟩, ⟨0, none, .n (addI .i64 2 (bitsOp .and .i64 x0 3))⟩, ⟨2, none, .b x2⟩], [.mapo (encM (kI .i64) (vA Ta.enc) s2.2.1), .blk [.mp 0, .n s2.2.2.1], .mapo (encM (vA Tc.enc) (vA Te.enc) s2.2.2.2.1), .mapo (encM (vA Tb.enc) (vA Tg.enc) s2.2.2.2.2.1), .mapo (encM (kI .u32) (vA Tf.enc) s2.2.2.2.2.2), .blk [.ptr 1 0, .mp 2, .mp 3, .mp 4]]⟩) (fun (v2 : (List (Int × Ta)) × Int × (List (Tc × Te)) × (List (Tb × Tg)) × (List (Int × Tf))) (γ2a : Unit) => ⟨[⟨30, none, .n (addI .i64 2 (bitsOp .and .i64 x0 3))⟩, ⟨31, none, .n s1.1⟩, ⟨1, none, .n (remI (bitsOp .and .i64 x1 255) (addI .i64 2 (bitsOp .and .i64 x0 3)))⟩, ⟨7, none, .ptr 5 0⟩, ⟨0, none, .n (addI .i64 2 (bitsOp .and .i64 x0 3))⟩, ⟨2, none, .b x2⟩], [.mapo (encM (kI .i64) (vA Ta.enc) v2.1), .blk [.mp 0, .n v2.2.1], .mapo (encM (vA Tc.enc) (vA Te.enc) v2.2.2.1), .mapo (encM (vA Tb.enc) (vA Tg.enc) v2.2.2.2.1), .mapo (encM (kI .u32) (vA Tf.enc) v2.2.2.2.2), .blk [.ptr 1 0, .mp 2, .mp 3, .mp 4]]⟩) (QRr (gz.fin x0 x1 x2)) hr () 6 (by simp) (fun s2 f γ2 hr => ?_) (fun v2 γ2a σ1 m1 hr hc => ?_) (fun _ h => QRr_ret h)
    ·unfold gz.loop2 at hr
     refine tq hΓ [36] [] ?_ (by simp; exact rr)
     refine AWp.seq ?_
     refine AWp.cnd hr (by simp) (fun h24 hr => ?_) (fun h24 hr => ?_)
     ·refine AWp.skip ?_
      refine AWp.seq ?_
      refine AWp.block ?_
      refine tq hΓ [9] [36] ?_ (by simp [h24]; exact rr)
      obtain ⟨r3, h25, hr⟩ := Ld hr
      refine tl hΓ [] [9] ?_ (by simp [h25]; exact rr)
      refine tl hΓ [35] [] ?_ (by simp; exact rr)
      obtain rfl := La hr
      exact Lq () 6 (by first | (simp; done) | simp [h19, h20, h21, h22, h23, h24, h25])
     ·refine AWp.exit ?_
      obtain rfl := La hr
      exact Lo () 6 (by first | (simp; done) | simp [h19, h20, h21, h22, h23, h24])
    ·refine AWp.conv hc ?_
     refine tl hΓ [31] [] ?_ (by simp; exact rr)
     obtain rfl := La hr
     exact Lq () 6 (by first | (simp; done) | simp [h19, h20, h21, h22, h23])
   ·refine AWp.exit ?_
    obtain rfl := La hr
    exact Lo () 6 (by first | (simp; done) | simp [h19, h20, h21, h22, h23])
  ·refine AWp.conv hc ?_
   refine AWp.seq ?_
   obtain ⟨r4, h26, hr⟩ := Ld hr
   obtain ⟨h27, hr⟩ := Lg hr
   refine tq hΓ [62] [] ?_ (by simp [h26, h27]; exact rr)
   refine AWp.cnd hr (by simp) (fun h28 hr => ?_) (fun h28 hr => ?_)
   ·refine tq hΓ [6] [62, 1, 7, 0, 2] ?_ (by simp [h28]; exact rr)
    obtain rfl := La hr
    exact AWp.ret (Le (by simp))
   ·refine AWp.skip ?_
    refine tq hΓ [10] [62] ?_ (by simp [h28]; exact rr)
    refine tq hΓ [11] [] ?_ (by simp; exact rr)
    refine AWp.meetF (fun (v3 : Int × Int) (γ3 : Unit) => ⟨[⟨11, none, .n v3.1⟩, ⟨10, none, .ptr 6 0⟩, ⟨1, none, .n (remI (bitsOp .and .i64 x1 255) (addI .i64 2 (bitsOp .and .i64 x0 3)))⟩, ⟨7, none, .ptr 5 0⟩, ⟨0, none, .n (addI .i64 2 (bitsOp .and .i64 x0 3))⟩], [.mapo (encM (kI .i64) (vA Ta.enc) v1.1), .blk [.mp 0, .n v1.2.1], .mapo (encM (vA Tc.enc) (vA Te.enc) v1.2.2.1), .mapo (encM (vA Tb.enc) (vA Tg.enc) v1.2.2.2.1), .mapo (encM (kI .u32) (vA Tf.enc) v1.2.2.2.2), .blk [.ptr 1 0, .mp 2, .mp 3, .mp 4], .blk [.n v3.2, .s ⟨#[]⟩, .s ⟨#[]⟩, .n (remI (bitsOp .and .i64 x1 255) (addI .i64 2 (bitsOp .and .i64 x0 3))), .n 0, .n 0, .n 0, .b false, .b false, .sl [] .full]]⟩) (gz.fin x0 x1 x2) hr (fun f hr => ?_) (fun v3 γ3 hr => ?_) (fun _ h => h)
    ·refine tq hΓ [70] [2] ?_ (by simp; exact rr)
     refine AWp.cnd hr (by simp) (fun h29 hr => ?_) (fun h29 hr => ?_)
     ·refine tq hΓ [] [70, 11] ?_ (by simp [h29]; exact rr)
      refine tl hΓ [11] [] ?_ (by simp; exact rr)
      obtain rfl := La hr
      exact meet_go () 7 (by first | (simp; done) | simp [h19, h20, h21, h22, h26, h27, h28, h29])
     ·refine AWp.skip ?_
      obtain rfl := La hr
      exact meet_go () 7 (by first | (simp; done) | simp [h19, h20, h21, h22, h26, h27, h28, h29])
    ·refine AWp.seq ?_
     obtain ⟨r5, h30, hr⟩ := Ld hr
     refine tq hΓ [13] [10] ?_ (by simp [h30]; exact rr)
     obtain ⟨h31, hr⟩ := Lg hr
     obtain ⟨h32, hr⟩ := Lg hr
     refine tq hΓ [100] [13, 11] ?_ (by simp [h31, h32]; exact rr)
     refine AWp.cnd hr (by simp) (fun h33 hr => ?_) (fun h33 hr => ?_)
     ·refine tq hΓ [6] [100, 1, 7, 0] ?_ (by simp [h33]; exact rr)
      obtain rfl := La hr
      exact AWp.ret (Le (by simp))
     ·refine AWp.skip ?_
      obtain ⟨h34, hr⟩ := Lg hr
      refine tq hΓ [14] [100, 0] ?_ (by simp [h22, h33]; exact rr)
      obtain ⟨r6, h35, hr⟩ := Ld hr
      refine tq hΓ [16] [] ?_ (by simp [h35]; exact rr)
      obtain ⟨r7, h36, hr⟩ := Ld hr
      refine tq hΓ [17, 18] [1, 7] ?_ (by simp [h36]; exact rr)
      refine tq hΓ [6] [17, 18, 16, 14] ?_ (by simp; exact rr)
      obtain rfl := La hr
      exact AWp.ret (Le (by simp))

end Go.Proofs
end
section
namespace Go.Proofs
open Go.Ab
@[simp] def gt.out (_x0 : Int) (_x1 : List Td) (r : Bool) : Out := { av := .lit (.bool r), M := none }
def gt.fin (x0 : Int) (x1 : List Td) (r : Bool) (σ : St) : Prop := finK (gt.out x0 x1 r) [] σ.M (resA Tryz.ty σ.A σ.M Tryz.f6.results.toList)
set_option maxHeartbeats 4000000 in
set_option maxRecDepth 100000 in
theorem gt.can (x0 : Int) (x1 : List Td) (r : Bool) (hr : gt x0 x1 = some r) : CallOk Tryz.prog 6 [.lit (.int .i64 x0), .sl (x1.map Td.enc) .no] [] (gt.out x0 x1 r) := by
 unfold gt at hr
 have hΓ := (gamL_cons gf.ok (gamL_cons gg.ok (gamL_cons gu.ok (gamL_cons gI.ok (gamL_cons gZ.ok (gamL_cons gE.ok (gamL_cons gU.ok (gamL_nil))))))) : GamOk Tryz.prog _)
 refine cw Tryz.func6 rfl (by kernel_rfl) rfl rfl (by simp) fun _ _ _ => ?_
 refine tq hΓ [] [] ?_
 refine AWp.seq ?_
 obtain ⟨r1, h20, hr⟩ := Ld hr
 refine tq hΓ [19] [] ?_ (by simp [h20]; exact rr)
 refine AWp.cnd hr (by simp) (fun h21 hr => ?_) (fun h21 hr => ?_)
 ·refine tq hΓ [4] [19, 0, 1] ?_ (by simp [h21]; exact rr)
  obtain rfl := La hr
  exact AWp.ret (Le (by simp))
 ·refine AWp.skip ?_
  obtain ⟨r2, h22, hr⟩ := Ld hr
  refine tq hΓ [5] [19, 0] ?_ (by simp [h21, h22]; exact rr)
  refine AWp.seq ?_
  refine tq hΓ [23] [] ?_ (by simp; exact rr)
  refine AWp.cond (b := false) (by simp) (fun hb => ?_) (fun hb => ?_)
  ·cases hb
  ·refine AWp.skip ?_
   refine AWp.seq ?_
   refine tq hΓ [6] [23] ?_ (by simp; exact rr)
   refine AWp.loopE (fun (s1 : Int × (List (Int × Ta)) × Int × (List (Tc × Te)) × (List (Tb × Tg)) × (List (Int × Tf))) (γ1 : Unit) => ⟨[⟨6, none, .n s1.1⟩, ⟨5, none, .ptr 5 0⟩, ⟨1, none, .sl (x1.map Td.enc) .no⟩], [.mapo (encM (kI .i64) (vA Ta.enc) s1.2.1), .blk [.mp 0, .n s1.2.2.1], .mapo (encM (vA Tc.enc) (vA Te.enc) s1.2.2.2.1), .mapo (encM (vA Tb.enc) (vA Tg.enc) s1.2.2.2.2.1), .mapo (encM (kI .u32) (vA Tf.enc) s1.2.2.2.2.2), .blk [.ptr 1 0, .mp 2, .mp 3, .mp 4]]⟩) (fun (v1 : (List (Int × Ta)) × Int × (List (Tc × Te)) × (List (Tb × Tg)) × (List (Int × Tf))) (γ1a : Unit) => ⟨[], [.mapo (encM (kI .i64) (vA Ta.enc) v1.1), .blk [.mp 0, .n v1.2.1], .mapo (encM (vA Tc.enc) (vA Te.enc) v1.2.2.1), .mapo (encM (vA Tb.enc) (vA Tg.enc) v1.2.2.2.1), .mapo (encM (kI .u32) (vA Tf.enc) v1.2.2.2.2), .blk [.ptr 1 0, .mp 2, .mp 3, .mp 4]]⟩) (gt.fin x0 x1) hr () 6 (by simp) (fun s1 f γ1 hr => ?_) (fun v1 γ1a σ1 m1 hr hc => ?_) (fun _ h => h)
   ·unfold gt.loop1 at hr
    refine AWp.seq ?_
    refine tq hΓ [31] [] ?_ (by simp; exact rr)
    refine AWp.cnd hr (by simp) (fun h23 hr => ?_) (fun h23 hr => ?_)
    ·refine AWp.skip ?_
     refine AWp.meetF (fun (v2 : (List (Int × Ta)) × Int × (List (Tc × Te)) × (List (Tb × Tg)) × (List (Int × Tf))) (γ2 : Unit) => ⟨[⟨6, none, .n s1.1⟩, ⟨5, none, .ptr 5 0⟩, ⟨1, none, .sl (x1.map Td.enc) .no⟩], [.mapo (encM (kI .i64) (vA Ta.enc) v2.1), .blk [.mp 0, .n v2.2.1], .mapo (encM (vA Tc.enc) (vA Te.enc) v2.2.2.1), .mapo (encM (vA Tb.enc) (vA Tg.enc) v2.2.2.2.1), .mapo (encM (kI .u32) (vA Tf.enc) v2.2.2.2.2), .blk [.ptr 1 0, .mp 2, .mp 3, .mp 4]]⟩) (QRr (gt.fin x0 x1)) hr (fun f hr => ?_) (fun v2 γ2 hr => ?_) (fun _ h => QRr_ret h)
     ·refine AWp.block ?_
      obtain ⟨h24, hr⟩ := Lg hr
      obtain ⟨r3, h25, hr⟩ := Ld hr
      refine tq hΓ [7] [31] ?_ (by simp [h23, h24, h25]; exact rr)
      obtain ⟨r4, h26, hr⟩ := Ld hr
      obtain ⟨r5, h27, hr⟩ := Ld hr
      refine td hΓ [8, 9] [] [] [(false, []), (false, []), (false, []), (false, []), (false, []), (false, []), (false, []), (false, []), (false, [])] (by simp [h26, h27]; exact rr) ?_
      obtain ⟨r6, h28, hr⟩ := Ld hr
      refine tq hΓ [10, 11] [] ?_ (by simp [h28]; exact rr)
      obtain ⟨r7, h29, hr⟩ := Ld hr
      refine tq hΓ [13] [] ?_ (by simp [h29]; exact rr)
      refine AWp.seq ?_
      refine tq hΓ [63] [13] ?_ (by simp; exact rr)
      refine AWp.cnd hr (by simp) (fun h30 hr => ?_) (fun h30 hr => ?_)
      ·refine AWp.exit ?_
       refine blockS_same ?_
       obtain rfl := La hr
       exact meet_go () 6 (by first | (simp; done) | simp [h20, h21, h22, h23, h24, h25, h26, h27, h28, h29, h30])
      ·refine AWp.skip ?_
       obtain ⟨r8, h31, hr⟩ := Ld hr
       refine tq hΓ [14, 15] [63, 7] ?_ (by simp [h30, h31]; exact rr)
       obtain ⟨r9, h32, hr⟩ := Ld hr
       refine tq hΓ [16] [] ?_ (by simp [h32]; exact rr)
       refine AWp.seq ?_
       obtain ⟨h33, hr⟩ := Lg hr
       refine tq hΓ [110] [14, 15, 10, 11, 9] ?_ (by simp [h33]; exact rr)
       refine AWp.cnd hr (by simp) (fun h34 hr => ?_) (fun h34 hr => ?_)
       ·refine tq hΓ [4] [110, 16, 8, 6, 5, 1] ?_ (by simp [h34]; exact rr)
        refine AWp.ret ?_
        obtain rfl := La hr
        refine meet_ret ?_
        refine ⟨_, rfl, ?_⟩
        refine Le ?_
        simp
       ·refine AWp.skip ?_
        refine tq hΓ [112, 113] [110] ?_ (by simp [h34]; exact rr)
        refine AWp.loopE (fun (s3 : Int) (γ3 : Unit) => ⟨[⟨112, none, .n (lenL r9)⟩, ⟨113, none, .n s3⟩, ⟨16, none, .sl (r9.map Tb.enc) .no⟩, ⟨8, none, .sl (r4.map Tb.enc) .no⟩, ⟨6, none, .n s1.1⟩, ⟨5, none, .ptr 5 0⟩, ⟨1, none, .sl (x1.map Td.enc) .no⟩], [.mapo (encM (kI .i64) (vA Ta.enc) r7.2.2.fb.fe), .blk [.mp 0, .n r7.2.2.fb.fj], .mapo (encM (vA Tc.enc) (vA Te.enc) r7.2.2.fc), .mapo (encM (vA Tb.enc) (vA Tg.enc) r7.2.2.ff), .mapo (encM (kI .u32) (vA Tf.enc) r7.2.2.fg), .blk [.ptr 1 0, .mp 2, .mp 3, .mp 4], .blk r3.enc, .blk [.b r6.1.fq, .b r6.1.fy, .sl (r6.1.fa.map (eNum .u32)) .no], .blk [.b r8.1.fq, .b r8.1.fy, .sl (r8.1.fa.map (eNum .u32)) .no]]⟩) (fun (v3 : Unit) (γ3a : Unit) => ⟨[⟨6, none, .n s1.1⟩, ⟨5, none, .ptr 5 0⟩, ⟨1, none, .sl (x1.map Td.enc) .no⟩], [.mapo (encM (kI .i64) (vA Ta.enc) r7.2.2.fb.fe), .blk [.mp 0, .n r7.2.2.fb.fj], .mapo (encM (vA Tc.enc) (vA Te.enc) r7.2.2.fc), .mapo (encM (vA Tb.enc) (vA Tg.enc) r7.2.2.ff), .mapo (encM (kI .u32) (vA Tf.enc) r7.2.2.fg), .blk [.ptr 1 0, .mp 2, .mp 3, .mp 4], .blk r3.enc, .blk [.b r6.1.fq, .b r6.1.fy, .sl (r6.1.fa.map (eNum .u32)) .no], .blk [.b r8.1.fq, .b r8.1.fy, .sl (r8.1.fa.map (eNum .u32)) .no]]⟩) (QRm (QRr (gt.fin x0 x1))) hr () 9 (by simp) (fun s3 f γ3 hr => ?_) (fun v3 γ3a σ1 m1 hr hc => ?_) (fun _ h => QRm_ret h)
        ·unfold gt.loop3 at hr
         refine tq hΓ [114] [] ?_ (by simp; exact rr)
         refine AWp.seq ?_
         refine AWp.cnd hr (by simp) (fun h35 hr => ?_) (fun h35 hr => ?_)
         ·refine AWp.skip ?_
          refine AWp.seq ?_
          refine AWp.block ?_
          refine tq hΓ [17] [114] ?_ (by simp [h35]; exact rr)
          obtain ⟨h36, hr⟩ := Lg hr
          obtain ⟨h37, hr⟩ := Lg hr
          refine td hΓ [124] [17] [] [(false, []), (false, []), (false, []), (false, []), (false, []), (false, []), (false, []), (false, []), (false, [])] (by simp [h36, h37]; exact rr) ?_
          refine AWp.cnd hr (by simp) (fun h38 hr => ?_) (fun h38 hr => ?_)
          ·refine tq hΓ [4] [124, 112, 113, 16, 8, 6, 5, 1] ?_ (by simp [h38]; exact rr)
           refine AWp.ret ?_
           obtain rfl := La hr
           refine round_ret ?_
           refine ⟨_, rfl, ?_⟩
           refine ⟨_, rfl, ?_⟩
           refine Le ?_
           simp
          ·refine AWp.skip ?_
           refine tl hΓ [113] [124] ?_ (by simp [h38]; exact rr)
           obtain rfl := La hr
           exact Lq () 9 (by first | (simp; done) | simp [h20, h21, h22, h23, h24, h25, h26, h27, h28, h29, h30, h31, h32, h33, h34, h35, h36, h37, h38])
         ·refine AWp.exit ?_
          obtain rfl := La hr
          exact Lo () 9 (by first | (simp; done) | simp [h20, h21, h22, h23, h24, h25, h26, h27, h28, h29, h30, h31, h32, h33, h34, h35])
        ·obtain rfl := La hr
         exact meet_go () 6 (Conv.trans hc (by first | (simp; done) | simp [h20, h21, h22, h23, h24, h25, h26, h27, h28, h29, h30, h31, h32, h33, h34]))
     ·refine tl hΓ [6] [] ?_ (by simp; exact rr)
      obtain rfl := La hr
      exact Lq () 6 (by first | (simp; done) | simp [h20, h21, h22, h23])
    ·refine AWp.exit ?_
     obtain rfl := La hr
     exact Lo () 6 (by first | (simp; done) | simp [h20, h21, h22, h23])
   ·refine AWp.conv hc ?_
    refine tq hΓ [4] [] ?_ (by simp; exact rr)
    obtain rfl := La hr
    exact AWp.ret (Le (by simp))

end Go.Proofs
end

/- That these functions compute what their plain functions do. No condition. -/
import Derived.Test.YtoiieebljbhpbaaGreatDoorM11
import Derived.Test.YtoiieebljbhpbaaGreatDoorTy
import Derived.Test.YtoiieebljbhpbaaGreatDoorM06
import Derived.Test.YtoiieebljbhpbaaGreatDoorM02
import Derived.Test.YtoiieebljbhpbaaGreatDoorXb
import Derived.Test.YtoiieebljbhpbaaGreatDoorXa
import Derived.Test.YtoiieebljbhpbaaGreatDoorHa
import Derived.Test.YtoiieebljbhpbaaGreatDoorM04
import Derived.Test.YtoiieebljbhpbaaGreatDoorM20
import Derived.Test.YtoiieebljbhpbaaGreatDoorM17
section
namespace Go.Proofs
open Go.Ab
@[simp] def ge.out (_x0 : List Td) (r : Bool) : Out := { av := .lit (.bool r), M := none }
def ge.fin (x0 : List Td) (r : Bool) (σ : St) : Prop := finK (ge.out x0 r) [] σ.M (resA Tryz.ty σ.A σ.M Tryz.f5.results.toList)
set_option maxHeartbeats 4000000 in
set_option maxRecDepth 100000 in
theorem ge.can (x0 : List Td) (r : Bool) (hr : ge x0 = some r) : CallOk Tryz.prog 5 [.sl (x0.map Td.enc) .no] [] (ge.out x0 r) := by
 unfold ge at hr
 have hΓ := (gamL_cons gf.ok (gamL_cons gg.ok (gamL_cons gq.ok (gamL_cons gu.ok (gamL_cons gP.ok (gamL_cons gw.ok (gamL_cons gV.ok (gamL_cons gZ.ok (gamL_cons gU.ok (gamL_nil))))))))) : GamOk Tryz.prog _)
 refine cw Tryz.func5 rfl (by kernel_rfl) rfl rfl (by simp) fun _ _ _ => ?_
 refine tq hΓ [] [] ?_
 refine AWp.seq ?_
 obtain ⟨r1, h24, hr⟩ := Ld hr
 refine tq hΓ [22] [] ?_ (by simp [h24]; exact rr)
 refine AWp.cnd hr (by simp) (fun h25 hr => ?_) (fun h25 hr => ?_)
 ·refine tq hΓ [2] [22, 0] ?_ (by simp [h25]; exact rr)
  obtain rfl := La hr
  exact AWp.ret (Le (by simp))
 ·refine AWp.skip ?_
  obtain ⟨r2, h26, hr⟩ := Ld hr
  refine tq hΓ [3] [22] ?_ (by simp [h25, h26]; exact rr)
  refine AWp.seq ?_
  refine tq hΓ [4] [] ?_ (by simp; exact rr)
  refine AWp.loopE (fun (s1 : Int × (List (Int × Ta)) × Int × (List (Tc × Te)) × (List (Tb × Tg)) × (List (Int × Tf))) (γ1 : Unit) => ⟨[⟨4, none, .n s1.1⟩, ⟨3, none, .ptr 5 0⟩, ⟨0, none, .sl (x0.map Td.enc) .no⟩], [.mapo (encM (kI .i64) (vA Ta.enc) s1.2.1), .blk [.mp 0, .n s1.2.2.1], .mapo (encM (vA Tc.enc) (vA Te.enc) s1.2.2.2.1), .mapo (encM (vA Tb.enc) (vA Tg.enc) s1.2.2.2.2.1), .mapo (encM (kI .u32) (vA Tf.enc) s1.2.2.2.2.2), .blk [.ptr 1 0, .mp 2, .mp 3, .mp 4]]⟩) (fun (v1 : (List (Int × Ta)) × Int × (List (Tc × Te)) × (List (Tb × Tg)) × (List (Int × Tf))) (γ1a : Unit) => ⟨[⟨3, none, .ptr 5 0⟩], [.mapo (encM (kI .i64) (vA Ta.enc) v1.1), .blk [.mp 0, .n v1.2.1], .mapo (encM (vA Tc.enc) (vA Te.enc) v1.2.2.1), .mapo (encM (vA Tb.enc) (vA Tg.enc) v1.2.2.2.1), .mapo (encM (kI .u32) (vA Tf.enc) v1.2.2.2.2), .blk [.ptr 1 0, .mp 2, .mp 3, .mp 4]]⟩) (ge.fin x0) hr () 6 (by simp) (fun s1 f γ1 hr => ?_) (fun v1 γ1a σ1 m1 hr hc => ?_) (fun _ h => h)
  ·unfold ge.loop1 at hr
   refine AWp.seq ?_
   refine tq hΓ [31] [] ?_ (by simp; exact rr)
   refine AWp.cnd hr (by simp) (fun h27 hr => ?_) (fun h27 hr => ?_)
   ·refine AWp.skip ?_
    refine AWp.seq ?_
    refine AWp.block ?_
    obtain ⟨h28, hr⟩ := Lg hr
    obtain ⟨r3, h29, hr⟩ := Ld hr
    obtain ⟨r4, h30, hr⟩ := Ld hr
    refine tl hΓ [] [31] ?_ (by simp [h27, h28, h29, h30]; exact rr)
    refine tl hΓ [4] [] ?_ (by simp; exact rr)
    obtain rfl := La hr
    exact Lq () 6 (by first | (simp; done) | simp [h24, h25, h26, h27, h28, h29, h30])
   ·refine AWp.exit ?_
    obtain rfl := La hr
    exact Lo () 6 (by first | (simp; done) | simp [h24, h25, h26, h27])
  ·refine AWp.conv hc ?_
   refine AWp.seq ?_
   obtain ⟨r5, h31, hr⟩ := Ld hr
   refine tq hΓ [42, 43, 44] [] ?_ (by simp [h31]; exact rr)
   refine AWp.loopE (fun (s2 : Int) (γ2 : Unit) => ⟨[⟨42, none, .sl (r5.map Tb.enc) .no⟩, ⟨43, none, .n (lenL r5)⟩, ⟨44, none, .n s2⟩, ⟨3, none, .ptr 5 0⟩], [.mapo (encM (kI .i64) (vA Ta.enc) v1.1), .blk [.mp 0, .n v1.2.1], .mapo (encM (vA Tc.enc) (vA Te.enc) v1.2.2.1), .mapo (encM (vA Tb.enc) (vA Tg.enc) v1.2.2.2.1), .mapo (encM (kI .u32) (vA Tf.enc) v1.2.2.2.2), .blk [.ptr 1 0, .mp 2, .mp 3, .mp 4]]⟩) (fun (v2 : Unit) (γ2a : Unit) => ⟨[⟨3, none, .ptr 5 0⟩], [.mapo (encM (kI .i64) (vA Ta.enc) v1.1), .blk [.mp 0, .n v1.2.1], .mapo (encM (vA Tc.enc) (vA Te.enc) v1.2.2.1), .mapo (encM (vA Tb.enc) (vA Tg.enc) v1.2.2.2.1), .mapo (encM (kI .u32) (vA Tf.enc) v1.2.2.2.2), .blk [.ptr 1 0, .mp 2, .mp 3, .mp 4]]⟩) (ge.fin x0) hr () 6 (by simp) (fun s2 f γ2 hr => ?_) (fun v2 γ2a σ1 m1 hr hc => ?_) (fun _ h => h)
   ·unfold ge.loop2 at hr
    refine tq hΓ [45] [] ?_ (by simp; exact rr)
    refine AWp.seq ?_
    refine AWp.cnd hr (by simp) (fun h32 hr => ?_) (fun h32 hr => ?_)
    ·refine AWp.skip ?_
     refine AWp.seq ?_
     refine AWp.block ?_
     obtain ⟨h33, hr⟩ := Lg hr
     refine tq hΓ [6, 5] [45] ?_ (by simp [h32, h33]; exact rr)
     obtain ⟨r6, h34, hr⟩ := Ld hr
     refine tq hΓ [8] [] ?_ (by simp [h34]; exact rr)
     obtain ⟨h35, hr⟩ := Lg hr
     obtain ⟨h36, hr⟩ := Lg hr
     refine td hΓ [84] [8, 6, 5] [] [(false, []), (false, []), (false, []), (false, [58]), (false, [58]), (false, [58]), (false, [58]), (false, [58]), (false, [58]), (false, [58]), (false, [58]), (false, [58]), (false, [58]), (false, [58]), (false, []), (false, []), (false, [71]), (false, [71]), (false, [71]), (false, [74, 71]), (false, [74, 71]), (false, [74, 71]), (false, [74, 71]), (false, [74, 71]), (false, [74, 71]), (false, [74, 71]), (false, [74, 71]), (false, [71]), (false, [])] (by simp [h31, h35, h36]; exact rr) ?_
     refine AWp.cnd hr (by simp) (fun h37 hr => ?_) (fun h37 hr => ?_)
     ·refine tq hΓ [2] [84, 42, 43, 44, 3] ?_ (by simp [h37]; exact rr)
      refine AWp.ret ?_
      obtain rfl := La hr
      refine round_ret ?_
      refine Le ?_
      simp
     ·refine AWp.skip ?_
      refine tl hΓ [44] [84] ?_ (by simp [h37]; exact rr)
      obtain rfl := La hr
      exact Lq () 6 (by first | (simp; done) | simp [h24, h25, h26, h31, h32, h33, h34, h35, h36, h37])
    ·refine AWp.exit ?_
     obtain rfl := La hr
     exact Lo () 6 (by first | (simp; done) | simp [h24, h25, h26, h31, h32])
   ·refine AWp.conv hc ?_
    refine tq hΓ [9] [] ?_ (by simp; exact rr)
    refine AWp.seq ?_
    refine tq hΓ [87] [] ?_ (by simp; exact rr)
    refine AWp.loopE (fun (s3 : Int × (List (Int × Int))) (γ3 : Unit) => ⟨[⟨87, none, .n s3.1⟩, ⟨9, none, .mp 6⟩, ⟨3, none, .ptr 5 0⟩], [.mapo (encM (kI .i64) (vA Ta.enc) v1.1), .blk [.mp 0, .n v1.2.1], .mapo (encM (vA Tc.enc) (vA Te.enc) v1.2.2.1), .mapo (encM (vA Tb.enc) (vA Tg.enc) v1.2.2.2.1), .mapo (encM (kI .u32) (vA Tf.enc) v1.2.2.2.2), .blk [.ptr 1 0, .mp 2, .mp 3, .mp 4], .mapo (encM (kI .u32) (kI .i64) s3.2)]⟩) (fun (v3 : (List (Int × Int))) (γ3a : Unit) => ⟨[], [.mapo (encM (kI .i64) (vA Ta.enc) v1.1), .blk [.mp 0, .n v1.2.1], .mapo (encM (vA Tc.enc) (vA Te.enc) v1.2.2.1), .mapo (encM (vA Tb.enc) (vA Tg.enc) v1.2.2.2.1), .mapo (encM (kI .u32) (vA Tf.enc) v1.2.2.2.2), .blk [.ptr 1 0, .mp 2, .mp 3, .mp 4], .mapo (encM (kI .u32) (kI .i64) v3)]⟩) (ge.fin x0) hr () 7 (by simp) (fun s3 f γ3 hr => ?_) (fun v3 γ3a σ1 m1 hr hc => ?_) (fun _ h => h)
    ·unfold ge.loop3 at hr
     refine tq hΓ [88] [] ?_ (by simp; exact rr)
     refine AWp.seq ?_
     refine AWp.cnd hr (by simp) (fun h38 hr => ?_) (fun h38 hr => ?_)
     ·refine AWp.skip ?_
      refine AWp.seq ?_
      refine AWp.block ?_
      refine tq hΓ [10] [88] ?_ (by simp [h38]; exact rr)
      refine tq hΓ [90] [] ?_ (by simp; exact rr)
      refine AWp.loopE (fun (s4 : Int × (List (Int × Int))) (γ4 : Unit) => ⟨[⟨90, none, .n s4.1⟩, ⟨10, none, .n s3.1⟩, ⟨87, none, .n s3.1⟩, ⟨9, none, .mp 6⟩, ⟨3, none, .ptr 5 0⟩], [.mapo (encM (kI .i64) (vA Ta.enc) v1.1), .blk [.mp 0, .n v1.2.1], .mapo (encM (vA Tc.enc) (vA Te.enc) v1.2.2.1), .mapo (encM (vA Tb.enc) (vA Tg.enc) v1.2.2.2.1), .mapo (encM (kI .u32) (vA Tf.enc) v1.2.2.2.2), .blk [.ptr 1 0, .mp 2, .mp 3, .mp 4], .mapo (encM (kI .u32) (kI .i64) s4.2)]⟩) (fun (v4 : (List (Int × Int))) (γ4a : Unit) => ⟨[⟨87, none, .n s3.1⟩, ⟨9, none, .mp 6⟩, ⟨3, none, .ptr 5 0⟩], [.mapo (encM (kI .i64) (vA Ta.enc) v1.1), .blk [.mp 0, .n v1.2.1], .mapo (encM (vA Tc.enc) (vA Te.enc) v1.2.2.1), .mapo (encM (vA Tb.enc) (vA Tg.enc) v1.2.2.2.1), .mapo (encM (kI .u32) (vA Tf.enc) v1.2.2.2.2), .blk [.ptr 1 0, .mp 2, .mp 3, .mp 4], .mapo (encM (kI .u32) (kI .i64) v4)]⟩) (QRr (ge.fin x0)) hr () 7 (by simp) (fun s4 f γ4 hr => ?_) (fun v4 γ4a σ1 m1 hr hc => ?_) (fun _ h => QRr_ret h)
      ·unfold ge.loop4 at hr
       refine tq hΓ [91] [] ?_ (by simp; exact rr)
       refine AWp.seq ?_
       refine AWp.cnd hr (by simp) (fun h39 hr => ?_) (fun h39 hr => ?_)
       ·refine AWp.skip ?_
        refine AWp.seq ?_
        refine AWp.block ?_
        refine tq hΓ [11] [91] ?_ (by simp [h39]; exact rr)
        refine tq hΓ [12] [11] ?_ (by simp; exact rr)
        obtain ⟨r7, h40, hr⟩ := Ld hr
        refine tq hΓ [13, 14] [] ?_ (by simp [h40]; exact rr)
        refine AWp.seq ?_
        obtain ⟨r8, h41, hr⟩ := Ld hr
        refine tq hΓ [16] [] ?_ (by simp [h41]; exact rr)
        refine tq hΓ [115] [16, 14] ?_ (by simp; exact rr)
        refine AWp.cnd hr (by simp) (fun h42 hr => ?_) (fun h42 hr => ?_)
        ·refine tq hΓ [2] [115, 13, 12, 90, 10, 87, 9, 3] ?_ (by simp [h42]; exact rr)
         refine AWp.ret ?_
         obtain rfl := La hr
         refine round_ret ?_
         refine ⟨_, rfl, ?_⟩
         refine Le ?_
         simp
        ·refine AWp.skip ?_
         refine tq hΓ [117, 118, 119] [115, 13] ?_ (by simp [h42]; exact rr)
         refine AWp.loopE (fun (s5 : Int × (List (Int × Int))) (γ5 : Unit) => ⟨[⟨117, none, .sl (r7.1.fa.map (eNum .u32)) .no⟩, ⟨118, none, .n (lenL r7.1.fa)⟩, ⟨119, none, .n s5.1⟩, ⟨12, none, .ptr 7 0⟩, ⟨90, none, .n s4.1⟩, ⟨10, none, .n s3.1⟩, ⟨87, none, .n s3.1⟩, ⟨9, none, .mp 6⟩, ⟨3, none, .ptr 5 0⟩], [.mapo (encM (kI .i64) (vA Ta.enc) v1.1), .blk [.mp 0, .n v1.2.1], .mapo (encM (vA Tc.enc) (vA Te.enc) v1.2.2.1), .mapo (encM (vA Tb.enc) (vA Tg.enc) v1.2.2.2.1), .mapo (encM (kI .u32) (vA Tf.enc) v1.2.2.2.2), .blk [.ptr 1 0, .mp 2, .mp 3, .mp 4], .mapo (encM (kI .u32) (kI .i64) s5.2), .blk [.n s3.1, .n s4.1], .blk [.b r7.1.fq, .b r7.1.fy, .sl (r7.1.fa.map (eNum .u32)) .no], .blk [.n r8.1.fN, .s r8.1.fp, .s r8.1.fm]]⟩) (fun (v5 : (List (Int × Int))) (γ5a : Unit) => ⟨[⟨90, none, .n s4.1⟩, ⟨10, none, .n s3.1⟩, ⟨87, none, .n s3.1⟩, ⟨9, none, .mp 6⟩, ⟨3, none, .ptr 5 0⟩], [.mapo (encM (kI .i64) (vA Ta.enc) v1.1), .blk [.mp 0, .n v1.2.1], .mapo (encM (vA Tc.enc) (vA Te.enc) v1.2.2.1), .mapo (encM (vA Tb.enc) (vA Tg.enc) v1.2.2.2.1), .mapo (encM (kI .u32) (vA Tf.enc) v1.2.2.2.2), .blk [.ptr 1 0, .mp 2, .mp 3, .mp 4], .mapo (encM (kI .u32) (kI .i64) v5), .blk [.n s3.1, .n s4.1], .blk [.b r7.1.fq, .b r7.1.fy, .sl (r7.1.fa.map (eNum .u32)) .no], .blk [.n r8.1.fN, .s r8.1.fp, .s r8.1.fm]]⟩) (QRr (QRr (ge.fin x0))) hr () 10 (by simp) (fun s5 f γ5 hr => ?_) (fun v5 γ5a σ1 m1 hr hc => ?_) (fun _ h => QRr_ret h)
         ·unfold ge.loop5 at hr
          refine tq hΓ [120] [] ?_ (by simp; exact rr)
          refine AWp.seq ?_
          refine AWp.cnd hr (by simp) (fun h43 hr => ?_) (fun h43 hr => ?_)
          ·refine AWp.skip ?_
           refine AWp.seq ?_
           refine AWp.block ?_
           obtain ⟨h44, hr⟩ := Lg hr
           refine tq hΓ [17, 18] [120] ?_ (by simp [h43, h44]; exact rr)
           obtain ⟨r9, h45, hr⟩ := Ld hr
           refine tq hΓ [19, 20] [] ?_ (by simp [h45]; exact rr)
           refine tq hΓ [] [] ?_ (by simp; exact rr)
           refine tq hΓ [153] [19, 20, 17, 18] ?_ (by simp; exact rr)
           refine AWp.cnd hr (by simp) (fun h46 hr => ?_) (fun h46 hr => ?_)
           ·refine tq hΓ [2] [153, 117, 118, 119, 12, 90, 10, 87, 9, 3] ?_ (by simp [h46]; exact rr)
            refine AWp.ret ?_
            obtain rfl := La hr
            refine round_ret ?_
            refine ⟨_, rfl, ?_⟩
            refine ⟨_, rfl, ?_⟩
            refine Le ?_
            simp
           ·refine AWp.skip ?_
            refine tl hΓ [119] [153] ?_ (by simp [h46]; exact rr)
            obtain rfl := La hr
            exact Lq () 10 (by first | (simp; done) | simp [h24, h25, h26, h31, h38, h39, h40, h41, h42, h43, h44, h45, h46])
          ·refine AWp.exit ?_
           obtain rfl := La hr
           exact Lo () 10 (by first | (simp; done) | simp [h24, h25, h26, h31, h38, h39, h40, h41, h42, h43])
         ·refine AWp.conv hc ?_
          refine tl hΓ [90] [] ?_ (by simp; exact rr)
          obtain rfl := La hr
          exact Lq () 7 (by first | (simp; done) | simp [h24, h25, h26, h31, h38, h39, h40, h41, h42])
       ·refine AWp.exit ?_
        obtain rfl := La hr
        exact Lo () 7 (by first | (simp; done) | simp [h24, h25, h26, h31, h38, h39])
      ·refine AWp.conv hc ?_
       refine tl hΓ [87] [] ?_ (by simp; exact rr)
       obtain rfl := La hr
       exact Lq () 7 (by first | (simp; done) | simp [h24, h25, h26, h31, h38])
     ·refine AWp.exit ?_
      obtain rfl := La hr
      exact Lo () 7 (by first | (simp; done) | simp [h24, h25, h26, h31, h38])
    ·refine AWp.conv hc ?_
     refine tq hΓ [2] [] ?_ (by simp; exact rr)
     obtain rfl := La hr
     exact AWp.ret (Le (by simp))

end Go.Proofs
end
section
namespace Go.Proofs
open Go.Ab Go.Lib

def goneC (i k : Nat) : Cm := .mk 5 noS noS (i : Int) (k : Int) 0 0 false false []
def goneR (n : Nat) (S : List Sb) (i : Nat) : Nat → List Sb
 | 0 => S
 | k + 1 => (subH (n : Int) (hallT n) (goneR n S i k) (goneC i k)).1
def goneS (n : Nat) : Nat → List Sb
 | 0 => []
 | i + 1 => goneR n (goneS n i) i n
def backC (n who : Nat) : Cm := .mk 3 noS noS (((who + 1) % n : Nat) : Int) 0 2 0 false false [100 * (who : Int) + 2]
def freeT (T : List Tk) (c : Cm) : Bool := !hasT T ⟨c.fd, c.fh⟩ && !(c.fa.any fun x => hasM eqI x (srcL T))
theorem gone0 : ([2, 3, 4, 5].all fun n => (List.range n).all fun who => (goneS n n).length == n * (n - 1) && (wantsL (goneS n n) ⟨(who : Int), 0⟩).length == n - 1 &&
  ((lvS (goneS n n) (who : Int)).length == (n - 1) * (n - 2) && (wantsL (lvS (goneS n n) (who : Int)) ⟨(who : Int), 0⟩).length == 0 && freeT (rmN (hallT n) (who : Int) 4) (backC n who)) &&
  (hasT (hallT n) ⟨(who : Int), 0⟩ && (rmS (goneS n n) ⟨(who : Int), 0⟩).length == (n - 1) * (n - 1) && (wantsL (rmS (goneS n n) ⟨(who : Int), 0⟩) ⟨(who : Int), 0⟩).length == 0 && freeT (rmT (hallT n) ⟨(who : Int), 0⟩) (backC n who))) = true := by decide +kernel
theorem gone_d {n who : Nat} (h2 : 2 ≤ n) (h5 : n ≤ 5) (hw : who < n) : (goneS n n).length = n * (n - 1) ∧ (wantsL (goneS n n) ⟨(who : Int), 0⟩).length = n - 1 ∧
  ((lvS (goneS n n) (who : Int)).length = (n - 1) * (n - 2) ∧ (wantsL (lvS (goneS n n) (who : Int)) ⟨(who : Int), 0⟩).length = 0 ∧ freeT (rmN (hallT n) (who : Int) 4) (backC n who) = true) ∧
  (hasT (hallT n) ⟨(who : Int), 0⟩ = true ∧ (rmS (goneS n n) ⟨(who : Int), 0⟩).length = (n - 1) * (n - 1) ∧ (wantsL (rmS (goneS n n) ⟨(who : Int), 0⟩) ⟨(who : Int), 0⟩).length = 0 ∧ freeT (rmT (hallT n) ⟨(who : Int), 0⟩) (backC n who) = true) := by
 have hm : n ∈ [2, 3, 4, 5] := by
  have : n = 2 ∨ n = 3 ∨ n = 4 ∨ n = 5 := by omega
  rcases this with rfl | rfl | rfl | rfl <;> simp
 have h := List.all_eq_true.1 (List.all_eq_true.1 gone0 n hm) who (List.mem_range.2 hw)
 simp only [Bool.and_eq_true, beq_iff_eq] at h
 obtain ⟨⟨⟨a, b⟩, ⟨c, d⟩, e⟩, ⟨⟨f, g⟩, i⟩, j⟩ := h
 exact ⟨a, b, ⟨c, d, e⟩, f, g, i, j⟩
theorem free_pub {T : List Tk} {c : Cm} (h : freeT T c = true) : pubR T c = (T ++ [newT c], 0) := by
 unfold freeT at h
 simp only [Bool.and_eq_true, Bool.not_eq_true'] at h
 unfold pubR
 rw [h.1, h.2]; rfl
theorem do_pubL {L : List Pr} {nx : Int} {T : List Tk} {S : List Sb} {c : Cm} (h3 : c.fk = 3) (hp : (findL L c.fd).isSome = true) : doM ⟨L, nx, T, S⟩ c 0 = (⟨L, nx, (pubR T c).1, S⟩, 0, (pubR T c).2) := by
 unfold doM
 rw [if_neg (by simp), if_neg (by omega)]
 simp only
 rw [hp, if_neg (by simp), if_neg (by omega), if_pos h3]
noncomputable abbrev goneX (n : Nat) (S : List Sb) : St4 := ⟨hallL n, (n : Int), hallT n, S⟩
theorem mulN {a b : Nat} (ha : a < 1000) (hb : b < 1000) : mulI .i64 (a : Int) (b : Int) = ((a * b : Nat) : Int) := by
 have h := Nat.mul_le_mul (Nat.le_of_lt ha) (Nat.le_of_lt hb)
 have e : (a : Int) * (b : Int) = ((a * b : Nat) : Int) := by simp
 rw [mulI_n (by rw [e]; omega) (by rw [e]; omega), e]
theorem accessGone_plain (x0 x1 : Int) (x2 : Bool) : gz x0 x1 x2 = some true := by
 obtain ⟨n, h2, h5, en⟩ : ∃ n : Nat, 2 ≤ n ∧ n ≤ 5 ∧ addI .i64 2 (bitsOp .and .i64 x0 3) = (n : Int) := by
  refine ⟨(2 + x0 % 4).toNat, by omega, by omega, ?_⟩
  rw [and3, addI_n (by omega) (by omega)]; omega
 obtain ⟨who, hw, ew⟩ : ∃ w : Nat, w < n ∧ remI (bitsOp .and .i64 x1 255) (n : Int) = (w : Int) := by
  refine ⟨(x1 % 256).toNat % n, Nat.mod_lt _ (by omega), ?_⟩
  have : x1 % 256 = (((x1 % 256).toNat : Nat) : Int) := by omega
  rw [and255]
  conv => lhs; rw [this]
  exact remN _ n
 obtain ⟨a0, g1, g2⟩ := hall_at n (by omega)
 obtain ⟨d1, d2, ⟨d3, d4, d5⟩, d6, d7, d8, d9⟩ := gone_d h2 h5 hw
 -- all want all
 obtain ⟨t1, ht1, a1, c1, rfl, hR1, hc1⟩ := walk_rel (body := gz.loop1 x0) (fun i s => ∃ a c, Rl c (goneX n (goneS n i)) a ∧ c ≤ 2 * n + 6 * i ∧ s = ((i : Int), a.fb.fe, a.fb.fj, a.fc, a.ff, a.fg))
  (fun t => ∃ a c, t = .go (a.fb.fe, a.fb.fj, a.fc, a.ff, a.fg) ∧ Rl c (goneX n (goneS n n)) a ∧ c ≤ 2 * n + 6 * n) n (by
   rintro i s hi ⟨a, c, hR, hc, rfl⟩
   unfold gz.loop1
   simp only
   rw [en, ltI_t (by omega), cond_true]
   obtain ⟨t2, ht2, a2, c2, rfl, hR2, hc2⟩ := walk_rel (body := gz.loop2 x0 ((i : Int), a.fb.fe, a.fb.fj, a.fc, a.ff, a.fg)) (fun k s => ∃ b, Rl (c + k) (goneX n (goneR n (goneS n i) i k)) b ∧ s = ((k : Int), b.fb.fe, b.fb.fj, b.fc, b.ff, b.fg))
    (fun t => ∃ b c, t = .go (b.fb.fe, b.fb.fj, b.fc, b.ff, b.fg) ∧ Rl c (goneX n (goneS n (i + 1))) b ∧ c ≤ 2 * n + 6 * (i + 1)) n (by
     rintro k s hk ⟨b, hb, rfl⟩
     unfold gz.loop2
     simp only
     rw [en, ltI_t (by omega), cond_true, eta_A]
     obtain ⟨a', q1, q2, _⟩ := hb.step (by omega) (c := goneC i k) noS_size noS_size (by simp [goneC]) (ck_sub (by omega) (by omega) (by omega) (by omega))
     rw [do_sub (k := n) rfl ⟨by simp only [goneC]; omega, by simp only [goneC]; omega⟩] at q1 q2
     have q1 : gf b (.mk 5 ⟨#[]⟩ ⟨#[]⟩ (i : Int) (k : Int) 0 0 false false []) = some (0, (subH (n : Int) (hallT n) (goneR n (goneS n i) i k) (goneC i k)).2, a') := q1
     rw [q1, Lc, Lm (by omega)]
     exact ⟨_, rfl, a', q2, rfl⟩) (by
     rintro s ⟨b, hb, rfl⟩
     unfold gz.loop2
     simp only
     rw [en, ltI_f (by omega), cond_false]
     exact ⟨_, rfl, b, c + n, rfl, hb, by omega⟩) (s := (0, a.fb.fe, a.fb.fj, a.fc, a.ff, a.fg)) ⟨a, hR, rfl⟩
   rw [ht2]
   simp only [Lc, flC_go]
   rw [Lm (by omega)]
   exact ⟨_, rfl, a2, c2, hR2, hc2, rfl⟩) (by
   rintro s ⟨a, c, hR, hc, rfl⟩
   unfold gz.loop1
   simp only
   rw [en, ltI_f (by omega), cond_false]
   exact ⟨_, rfl, a, c, rfl, hR, hc⟩) (s := (0, a0.fb.fe, a0.fb.fj, a0.fc, a0.ff, a0.fg)) ⟨a0, 2 * n, g2, by omega, rfl⟩
 have e1 : subI .i64 (n : Int) 1 = ((n - 1 : Nat) : Int) := by rw [subI_n (by omega) (by omega)]; omega
 have e2 : subI .i64 (n : Int) 2 = ((n - 2 : Nat) : Int) := by rw [subI_n (by omega) (by omega)]; omega
 -- behind the command
 have rest : ∀ (v3 : Int × Int) (y : St4) (a5 : Th), Rl (c1 + 1) y a5 → gf a1 (.mk v3.2 ⟨#[]⟩ ⟨#[]⟩ (who : Int) 0 0 0 false false []) = some (0, 0, a5) → (y.S.length : Int) = v3.1 → (wantsL y.S ⟨(who : Int), 0⟩).length = 0 →
   (findL y.L (((who + 1) % n : Nat) : Int)).isSome = true → freeT y.T (backC n who) = true →
   (((gf a1 (.mk v3.2 ⟨#[]⟩ ⟨#[]⟩ (who : Int) 0 0 0 false false []))).bind fun r5 =>
     need (Under (neI r5.2.1 0) false ((gg r5.2.2).isSome = true)) <|
     need (Under (pickB (neI r5.2.1 0) true (neI (lenL ((gg r5.2.2).getD dflt)) v3.1)) false ((gk r5.2.2 (Tc.mk (who : Int) 0)).isSome = true)) <|
     bif (pickB (pickB (neI r5.2.1 0) true (neI (lenL ((gg r5.2.2).getD dflt)) v3.1)) true (neI (lenL ((gk r5.2.2 (Tc.mk (who : Int) 0)).getD dflt)) 0)) then (
      some false
     ) else (
       need (NonZ (n : Int)) <|
       ((gf r5.2.2 (Td.mk 3 ⟨#[]⟩ ⟨#[]⟩ (remI (addI .i64 (who : Int) 1) (n : Int)) 0 2 0 false false [(cvtI .u32 (addI .i64 (mulI .i64 100 (who : Int)) 2))]))).bind fun r6 =>
       ((gq r6.2.2 (cvtI .u32 (addI .i64 (mulI .i64 100 (who : Int)) 2)))).bind fun r7 =>
       some (pickB (pickB (eqI r6.2.1 0) r7.2 false) (pickB (pickB (eqI r7.1.fOf.fd (remI (addI .i64 (who : Int) 1) (n : Int))) (eqI r7.1.fOf.fh 2) false) (eqI r7.1.fo 0) false) false)
     )) = some true := by
  intro v3 y a5 hy hdo hlen hwant hfind hfree
  rw [hdo, Lc]
  simp only
  rw [hy.links, hy.wants, need_s, need_s]
  simp only [getD_so]
  rw [neI_f rfl, neI_f (show lenL (y.S.map lnk) = v3.1 by unfold lenL; rw [List.length_map]; exact hlen), neI_f (show lenL (wantsL y.S ⟨(who : Int), 0⟩) = 0 by unfold lenL; rw [hwant]; rfl)]
  simp only [pickB_f, cond_false]
  have en1 : addI .i64 (who : Int) 1 = ((who + 1 : Nat) : Int) := Lm (by omega)
  have es : cvtI .u32 (addI .i64 (mulI .i64 100 (who : Int)) 2) = 100 * (who : Int) + 2 := by rw [mulI_n (by omega) (by omega), addI_n (by omega) (by omega), cvtu _ (by omega)]
  rw [Lf (show NonZ (n : Int) by unfold NonZ; omega), en1, remN (who + 1) n, es]
  have hlt : (who + 1) % n < n := Nat.mod_lt _ (by omega)
  obtain ⟨a6, q1, q2, _⟩ := hy.step (by omega) (c := backC n who) noS_size noS_size (by simp [backC]) (ck_pub1 false _ (by omega) (by omega))
  rw [do_pubL rfl hfind] at q1 q2
  simp only at q1 q2
  rw [free_pub hfree] at q1 q2
  have q1 : gf a5 (.mk 3 ⟨#[]⟩ ⟨#[]⟩ (((who + 1) % n : Nat) : Int) 0 2 0 false false [100 * (who : Int) + 2]) = some (0, 0, a6) := q1
  rw [q1, Lc]
  simp only
  obtain ⟨m, q3, rfl⟩ := q2
  have hm : newT (backC n who) ∈ y.T ++ [newT (backC n who)] := by simp
  have hs := source_d q3 hm (j := 0) (by simp [newT, backC])
  have hs : gq (stA y.L y.nx (y.T ++ [newT (backC n who)]) m) (100 * (who : Int) + 2) = some (⟨⟨(((who + 1) % n : Nat) : Int), 2⟩, 0⟩, true) := hs
  rw [hs, Lc]
  simp only
  simp only [eqI_t rfl, pickB_t]
 have hwr : 0 ≤ (who : Int) ∧ (who : Int) ≤ 65535 := by omega
 have hwf : findL (hallL n) (who : Int) = some ⟨(who : Int), pn who, shall⟩ := by rw [hall_find, if_pos (by omega)]
 have hlt : (who + 1) % n < n := Nat.mod_lt _ (by omega)
 have hne : (who + 1) % n ≠ who := by
  by_cases q : who + 1 = n
  ·rw [q, Nat.mod_self]; omega
  ·rw [Nat.mod_eq_of_lt (by omega)]; omega
 unfold gz
 rw [awake13_d, Lc, notB_f', cond_false, en, g1, Lc, Lf (show NonZ (n : Int) by unfold NonZ; omega), ht1]
 simp only [Lc, flC_go]
 rw [eta_A, ew, hR1.links, Lc, hR1.wants, need_s, e1, e2, mulN (a := n) (b := n - 1) (by omega) (by omega), mulN (a := n - 1) (b := n - 2) (by omega) (by omega), mulN (a := n - 1) (b := n - 1) (by omega) (by omega)]
 simp only [getD_so]
 rw [neI_f (show lenL ((goneS n n).map lnk) = ((n * (n - 1) : Nat) : Int) by unfold lenL; rw [List.length_map, d1]), neI_f (show lenL (wantsL (goneS n n) ⟨(who : Int), 0⟩) = ((n - 1 : Nat) : Int) by unfold lenL; rw [d2])]
 simp only [pickB_f, cond_false]
 cases x2 with
 | true =>
   obtain ⟨a5, q1, q2, _⟩ := hR1.step (by omega) (c := .mk 2 noS noS (who : Int) 0 0 0 false false []) noS_size noS_size (by simp) (ck_leave hwr)
   have em : doM (goneX n (goneS n n)) (.mk 2 noS noS (who : Int) 0 0 0 false false []) 0 = (⟨leaveL (hallL n) (who : Int), (n : Int), rmN (hallT n) (who : Int) 4, lvS (goneS n n) (who : Int)⟩, 0, 0) := by
    unfold doM
    have hf : (findL (hallL n) (who : Int)).isSome = true := by rw [hwf]; rfl
    rw [if_neg (by simp), if_neg (by simp)]
    simp only
    rw [hf, if_neg (by simp), if_pos trivial]
   rw [em] at q1 q2
   simp only [cond_true, Lc, flC_go]
   exact rest ((((n - 1) * (n - 2) : Nat) : Int), 2) _ a5 q2 q1 (by simp only; rw [d3]) d4 (by simp only; rw [find_leave (by omega), hall_find, if_pos (by omega)]; rfl) d5
 | false =>
   obtain ⟨a5, q1, q2, _⟩ := hR1.step (by omega) (c := .mk 4 noS noS (who : Int) 0 0 0 false false []) noS_size noS_size (by simp) (ck_unpub hwr (by omega))
   have em : doM (goneX n (goneS n n)) (.mk 4 noS noS (who : Int) 0 0 0 false false []) 0 = (⟨hallL n, (n : Int), rmT (hallT n) ⟨(who : Int), 0⟩, rmS (goneS n n) ⟨(who : Int), 0⟩⟩, 0, 0) := by
    unfold doM trkR
    have hf : (findL (hallL n) (who : Int)).isSome = true := by rw [hwf]; rfl
    rw [if_neg (by simp), if_neg (by simp)]
    simp only
    rw [hf, if_neg (by simp), if_neg (by omega), if_neg (by omega), if_neg (by omega), if_neg (by omega), d6]
    rfl
   rw [em] at q1 q2
   simp only [cond_false, Lc, flC_go]
   exact rest ((((n - 1) * (n - 1) : Nat) : Int), 4) _ a5 q2 q1 (by simp only; rw [d7]) d8 (by simp only; rw [hall_find, if_pos (by omega)]; rfl) d9
end Go.Proofs
end

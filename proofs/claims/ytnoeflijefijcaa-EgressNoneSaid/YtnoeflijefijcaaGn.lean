/- That these functions compute what their plain functions do. No condition. -/
import Derived.Test.YtnoeflijefijcaaGnD
import Derived.Test.YtnoeflijefijcaaTy
import Derived.Test.YtnoeflijefijcaaLl
import Derived.Test.YtnoeflijefijcaaEa
import Derived.Test.YtnoeflijefijcaaEf
import Derived.Test.YtnoeflijefijcaaEi
namespace Go.Proofs
open Go.Ab
@[simp] def gl.out (_x0 : Int) (_x1 : Int) (_x2 : List Th) (r : Bool) : Out := { av := .lit (.bool r), M := none }
def gl.fin (x0 : Int) (x1 : Int) (x2 : List Th) (r : Bool) (σ : St) : Prop := finK (gl.out x0 x1 x2 r) [] σ.M (resA Try.ty σ.A σ.M Try.f5.results.toList)
set_option maxHeartbeats 4000000 in
set_option maxRecDepth 100000 in
theorem gl.can (x0 : Int) (x1 : Int) (x2 : List Th) (r : Bool) (hr : gl x0 x1 x2 = some r) : CallOk Try.prog 5 [.lit (.int .i64 x0), .lit (.int .i64 x1), .sl (x2.map Th.enc) .no] [] (gl.out x0 x1 x2 r) := by
 unfold gl at hr
 have hΓ := (gamL_cons gp.ok (gamL_cons gu.ok (gamL_cons gan.ok (gamL_cons gQ.ok (gamL_cons gy.ok (gamL_cons gE.ok (gamL_nil)))))) : GamOk Try.prog _)
 refine Lg Try.tyOk Try.func5 rfl (by kernel_rfl) rfl rfl (by simp) ?_
 intro _ _ _
 refine Try.tg hΓ [] [] (by kernel_rfl) rfl (by simp; exact rr) ?_
 obtain ⟨r1, h19, hr⟩ := Lc hr
 obtain ⟨r2, h20, hr⟩ := Lc hr
 refine Try.tg hΓ [7, 8] [0, 1] (by kernel_rfl) rfl (by simp [h19, h20]; exact rr) ?_
 refine AWp.seq ?_
 obtain ⟨r3, h21, hr⟩ := Lc hr
 refine Try.tg hΓ [28] [8] (by kernel_rfl) rfl (by simp [h21]; exact rr) ?_
 refine AWp.cond (b := (pickB (notB r3) true (notB r2.2))) (by simp) (fun h22 => ?_) (fun h22 => ?_)
 ·have hr := Li h22 hr
  refine Try.tg hΓ [6] [28, 7, 2] (by kernel_rfl) rfl (by simp [h22]; exact rr) ?_
  refine AWp.ret ?_
  obtain rfl := La hr
  refine Lf ?_
  simp
 ·have hr := Lj h22 hr
  refine AWp.skip ?_
  refine AWp.seq ?_
  refine Try.tg hΓ [9] [28] (by kernel_rfl) rfl (by simp [h22]; exact rr) ?_
  refine AWp.loopE (fun (s1 : Int × (List (Int × Int)) × (List (Int × Int)) × Int × Int × Bool × (List (Int × Td)) × Tl × Int × Int × Tb × Int × Int) (γ1 : Unit) => ⟨[⟨9, none, .n s1.1⟩, ⟨7, none, .ptr 8 0⟩, ⟨2, none, .sl (x2.map Th.enc) .no⟩], [.dead, .dead, .dead, .mapo (encM (kI .i64) (kI .i64) s1.2.1), .mapo (encM (kI .i64) (kI .i64) s1.2.2.1), .blk [.n s1.2.2.2.1, .mp 3, .mp 4, .n s1.2.2.2.2.1, .b s1.2.2.2.2.2.1], .own (Td.own .i64 s1.2.2.2.2.2.2.1 none) none, .blk (s1.2.2.2.2.2.2.2.1.enc ++ [.mp 6, .ptr 5 0, .n s1.2.2.2.2.2.2.2.2.1, .n s1.2.2.2.2.2.2.2.2.2.1]), .blk ([.ptr 7 0] ++ s1.2.2.2.2.2.2.2.2.2.2.1.enc ++ [.n s1.2.2.2.2.2.2.2.2.2.2.2.1, .n s1.2.2.2.2.2.2.2.2.2.2.2.2])]⟩) (fun (v1 : (List (Int × Int)) × (List (Int × Int)) × Int × Int × Bool × (List (Int × Td)) × Tl × Int × Int × Tb × Int × Int) (γ1a : Unit) => ⟨[⟨7, none, .ptr 8 0⟩], [.dead, .dead, .dead, .mapo (encM (kI .i64) (kI .i64) v1.1), .mapo (encM (kI .i64) (kI .i64) v1.2.1), .blk [.n v1.2.2.1, .mp 3, .mp 4, .n v1.2.2.2.1, .b v1.2.2.2.2.1], .own (Td.own .i64 v1.2.2.2.2.2.1 none) none, .blk (v1.2.2.2.2.2.2.1.enc ++ [.mp 6, .ptr 5 0, .n v1.2.2.2.2.2.2.2.1, .n v1.2.2.2.2.2.2.2.2.1]), .blk ([.ptr 7 0] ++ v1.2.2.2.2.2.2.2.2.2.1.enc ++ [.n v1.2.2.2.2.2.2.2.2.2.2.1, .n v1.2.2.2.2.2.2.2.2.2.2.2])]⟩) (gl.fin x0 x1 x2) hr () 9 (by simp) (fun s1 f γ1 hr => ?_) (fun v1 γ1a σ1 m1 hr hc => ?_) (fun _ h => h)
  ·unfold gl.loop1 at hr
   refine AWp.seq ?_
   refine Try.tg hΓ [36] [] (by kernel_rfl) rfl (by simp; exact rr) ?_
   refine AWp.cond (b := (pickB (ltI s1.1 (lenL x2)) (ltI s1.1 80) false)) (by simp) (fun h23 => ?_) (fun h23 => ?_)
   ·have hr := Li h23 hr
    refine AWp.skip ?_
    refine AWp.meetF (fun (v2 : (List (Int × Int)) × (List (Int × Int)) × Int × Int × Bool × (List (Int × Td)) × Tl × Int × Int × Tb × Int × Int) (γ2 : Unit) => ⟨[⟨9, none, .n s1.1⟩, ⟨7, none, .ptr 8 0⟩, ⟨2, none, .sl (x2.map Th.enc) .no⟩], [.dead, .dead, .dead, .mapo (encM (kI .i64) (kI .i64) v2.1), .mapo (encM (kI .i64) (kI .i64) v2.2.1), .blk [.n v2.2.2.1, .mp 3, .mp 4, .n v2.2.2.2.1, .b v2.2.2.2.2.1], .own (Td.own .i64 v2.2.2.2.2.2.1 none) none, .blk (v2.2.2.2.2.2.2.1.enc ++ [.mp 6, .ptr 5 0, .n v2.2.2.2.2.2.2.2.1, .n v2.2.2.2.2.2.2.2.2.1]), .blk ([.ptr 7 0] ++ v2.2.2.2.2.2.2.2.2.2.1.enc ++ [.n v2.2.2.2.2.2.2.2.2.2.2.1, .n v2.2.2.2.2.2.2.2.2.2.2.2])]⟩) (QRr (gl.fin x0 x1 x2)) hr (fun f hr => ?_) (fun v2 γ2 hr => ?_) (fun _ h => QRr_ret h)
    ·refine AWp.block ?_
     obtain ⟨h24, hr⟩ := Lb hr
     refine Try.tg hΓ [10] [36] (by kernel_rfl) rfl (by simp [h23, h24]; exact rr) ?_
     refine AWp.meetF (fun (v3 : Th) (γ3 : Unit) => ⟨[⟨10, none, .ptr 9 0⟩, ⟨9, none, .n s1.1⟩, ⟨7, none, .ptr 8 0⟩, ⟨2, none, .sl (x2.map Th.enc) .no⟩], [.dead, .dead, .dead, .mapo (encM (kI .i64) (kI .i64) s1.2.1), .mapo (encM (kI .i64) (kI .i64) s1.2.2.1), .blk [.n s1.2.2.2.1, .mp 3, .mp 4, .n s1.2.2.2.2.1, .b s1.2.2.2.2.2.1], .own (Td.own .i64 s1.2.2.2.2.2.2.1 none) none, .blk (s1.2.2.2.2.2.2.2.1.enc ++ [.mp 6, .ptr 5 0, .n s1.2.2.2.2.2.2.2.2.1, .n s1.2.2.2.2.2.2.2.2.2.1]), .blk ([.ptr 7 0] ++ s1.2.2.2.2.2.2.2.2.2.2.1.enc ++ [.n s1.2.2.2.2.2.2.2.2.2.2.2.1, .n s1.2.2.2.2.2.2.2.2.2.2.2.2]), .blk v3.enc]⟩) (QRm (QRr (gl.fin x0 x1 x2))) hr (fun f hr => ?_) (fun v3 γ3 hr => ?_) (fun _ h => QRm_ret h)
     ·refine Try.tg hΓ [45] [] (by kernel_rfl) rfl (by simp; exact rr) ?_
      refine AWp.cond (b := (eqI ((nthI x2 s1.1).fw) 2)) (by simp) (fun h25 => ?_) (fun h25 => ?_)
      ·have hr := Li h25 hr
       refine AWp.lst (AWp.reg Try.tyOk hΓ [] [45] (by kernel_rfl) rfl (by simp [h25]; exact rr)) ?_
       obtain rfl := La hr
       exact Ls () 10 (by first | (simp; done) | simp [h19, h20, h21, h22, h23, h24, h25])
      ·have hr := Lj h25 hr
       refine AWp.skip ?_
       obtain rfl := La hr
       exact Ls () 10 (by first | (simp; done) | simp [h19, h20, h21, h22, h23, h24, h25])
     ·obtain ⟨r4, h26, hr⟩ := Lc hr
      refine Try.tg hΓ [11, 12, 13] [10] (by kernel_rfl) rfl (by simp [h26]; exact rr) ?_
      refine AWp.seq ?_
      refine Try.tg hΓ [] [11] (by kernel_rfl) rfl (by simp; exact rr) ?_
      obtain ⟨h27, hr⟩ := Lb hr
      refine Try.tg hΓ [62] [13] (by kernel_rfl) rfl (by simp [h27]; exact rr) ?_
      refine AWp.cond (b := (pickB (notB r4.2.2) true (neI ((gp r4.1.fO).getD dflt) 0))) (by simp) (fun h28 => ?_) (fun h28 => ?_)
      ·have hr := Li h28 hr
       refine Try.tg hΓ [6] [62, 12, 9, 7, 2] (by kernel_rfl) rfl (by simp [h28]; exact rr) ?_
       refine AWp.ret ?_
       obtain rfl := La hr
       refine meet_ret ?_
       refine ⟨_, rfl, ?_⟩
       refine Lf ?_
       simp
      ·have hr := Lj h28 hr
       refine AWp.skip ?_
       refine Try.tg hΓ [63, 64, 65] [62, 12] (by kernel_rfl) rfl (by simp [h28]; exact rr) ?_
       refine AWp.loopE (fun (s4 : Int) (γ4 : Unit) => ⟨[⟨63, none, .sl (r4.2.1.map Tc.enc) .no⟩, ⟨64, none, .n (lenL r4.2.1)⟩, ⟨65, none, .n s4⟩, ⟨9, none, .n s1.1⟩, ⟨7, none, .ptr 8 0⟩, ⟨2, none, .sl (x2.map Th.enc) .no⟩], [.dead, .dead, .dead, .mapo (encM (kI .i64) (kI .i64) r4.1.fO.fa.fj), .mapo (encM (kI .i64) (kI .i64) r4.1.fO.fa.fk), .blk [.n r4.1.fO.fa.fb, .mp 3, .mp 4, .n r4.1.fO.fa.fAt, .b r4.1.fO.fa.ff], .own (Td.own .i64 r4.1.fO.fg none) none, .blk (r4.1.fO.fe.enc ++ [.mp 6, .ptr 5 0, .n r4.1.fO.fc, .n r4.1.fO.fd]), .blk ([.ptr 7 0] ++ r4.1.fX.enc ++ [.n r4.1.fB, .n r4.1.fN]), .blk v3.enc, .blk ([.ptr 7 0] ++ r4.1.fX.enc ++ [.n r4.1.fB, .n r4.1.fN])]⟩) (fun (v4 : Unit) (γ4a : Unit) => ⟨[⟨9, none, .n s1.1⟩, ⟨7, none, .ptr 8 0⟩, ⟨2, none, .sl (x2.map Th.enc) .no⟩], [.dead, .dead, .dead, .mapo (encM (kI .i64) (kI .i64) r4.1.fO.fa.fj), .mapo (encM (kI .i64) (kI .i64) r4.1.fO.fa.fk), .blk [.n r4.1.fO.fa.fb, .mp 3, .mp 4, .n r4.1.fO.fa.fAt, .b r4.1.fO.fa.ff], .own (Td.own .i64 r4.1.fO.fg none) none, .blk (r4.1.fO.fe.enc ++ [.mp 6, .ptr 5 0, .n r4.1.fO.fc, .n r4.1.fO.fd]), .blk ([.ptr 7 0] ++ r4.1.fX.enc ++ [.n r4.1.fB, .n r4.1.fN]), .blk v3.enc, .blk ([.ptr 7 0] ++ r4.1.fX.enc ++ [.n r4.1.fB, .n r4.1.fN])]⟩) (QRm (QRr (gl.fin x0 x1 x2))) hr () 11 (by simp) (fun s4 f γ4 hr => ?_) (fun v4 γ4a σ1 m1 hr hc => ?_) (fun _ h => QRm_ret h)
       ·unfold gl.loop4 at hr
        refine Try.tg hΓ [66] [] (by kernel_rfl) rfl (by simp; exact rr) ?_
        refine AWp.seq ?_
        refine AWp.cond (b := (ltI s4 (lenL r4.2.1))) (by simp) (fun h29 => ?_) (fun h29 => ?_)
        ·have hr := Li h29 hr
         refine AWp.skip ?_
         refine AWp.seq ?_
         refine AWp.block ?_
         obtain ⟨h30, hr⟩ := Lb hr
         refine Try.tg hΓ [15] [66] (by kernel_rfl) rfl (by simp [h29, h30]; exact rr) ?_
         refine Try.tg hΓ [72] [15] (by kernel_rfl) rfl (by simp; exact rr) ?_
         refine AWp.cond (b := (neI ((nthI r4.2.1 s4).fC.fm) 0)) (by simp) (fun h31 => ?_) (fun h31 => ?_)
         ·have hr := Li h31 hr
          refine Try.tg hΓ [6] [72, 63, 64, 65, 9, 7, 2] (by kernel_rfl) rfl (by simp [h31]; exact rr) ?_
          refine AWp.ret ?_
          obtain rfl := La hr
          refine round_ret ?_
          refine ⟨_, rfl, ?_⟩
          refine ⟨_, rfl, ?_⟩
          refine Lf ?_
          simp
         ·have hr := Lj h31 hr
          refine AWp.skip ?_
          refine AWp.lst (AWp.reg Try.tyOk hΓ [65] [72] (by kernel_rfl) rfl (by simp [h31]; exact rr)) ?_
          obtain rfl := La hr
          exact Lm () 11 (by first | (simp; done) | simp [h19, h20, h21, h22, h23, h24, h26, h27, h28, h29, h30, h31])
        ·have hr := Lj h29 hr
         refine AWp.exit ?_
         obtain rfl := La hr
         exact Lp () 11 (by first | (simp; done) | simp [h19, h20, h21, h22, h23, h24, h26, h27, h28, h29])
       ·obtain rfl := La hr
        exact Ls () 9 (Conv.trans hc (by first | (simp; done) | simp [h19, h20, h21, h22, h23, h24, h26, h27, h28]))
    ·refine AWp.lst (AWp.reg Try.tyOk hΓ [9] [] (by kernel_rfl) rfl (by simp; exact rr)) ?_
     obtain rfl := La hr
     exact Lm () 9 (by first | (simp; done) | simp [h19, h20, h21, h22, h23])
   ·have hr := Lj h23 hr
    refine AWp.exit ?_
    obtain rfl := La hr
    exact Lp () 9 (by first | (simp; done) | simp [h19, h20, h21, h22, h23])
  ·refine AWp.conv hc ?_
   obtain ⟨r5, h32, hr⟩ := Lc hr
   cases h33 : (notB r5.1) with
   | true =>
    have hr := Li h33 hr
    obtain ⟨r6, h34, hr⟩ := Lc hr
    cases h35 : r6.1 with
    | true =>
     have hr := Li h35 hr
     obtain ⟨r7, h36, hr⟩ := Lc hr
     refine AWp.thn (AWp.regG Try.tyOk hΓ [(78, true), (83, true)] (keep := [6]) (dead := [7]) (by kernel_rfl) rfl (by simp [h32, h33, h34, h35, h36]; exact rr)) ?_
     refine AWp.ret ?_
     obtain rfl := La hr
     refine Lf ?_
     simp
    | false =>
     have hr := Lj h35 hr
     refine AWp.thn (AWp.regG Try.tyOk hΓ [(78, true), (83, false)] (keep := [6]) (dead := [7]) (by kernel_rfl) rfl (by simp [h32, h33, h34, h35]; exact rr)) ?_
     refine AWp.ret ?_
     obtain rfl := La hr
     refine Lf ?_
     simp
   | false =>
    have hr := Lj h33 hr
    refine AWp.thn (AWp.regG Try.tyOk hΓ [(78, false), (83, false)] (keep := [6]) (dead := [7]) (by kernel_rfl) rfl (by simp [h32, h33]; exact rr)) ?_
    refine AWp.ret ?_
    obtain rfl := La hr
    refine Lf ?_
    simp

end Go.Proofs

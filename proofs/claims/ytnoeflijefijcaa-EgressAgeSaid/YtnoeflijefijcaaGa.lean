/- That these functions compute what their plain functions do. No condition. -/
import Derived.Test.YtnoeflijefijcaaGaD
import Derived.Test.YtnoeflijefijcaaTy
import Derived.Test.YtnoeflijefijcaaEd
import Derived.Test.YtnoeflijefijcaaEa
import Derived.Test.YtnoeflijefijcaaEf
import Derived.Test.YtnoeflijefijcaaEi
namespace Go.Proofs
open Go.Ab
@[simp] def gf.out (_x0 : Int) (_x1 : Int) (_x2 : List Th) (r : Bool) : Out := { av := .lit (.bool r), M := none }
def gf.fin (x0 : Int) (x1 : Int) (x2 : List Th) (r : Bool) (σ : St) : Prop := finK (gf.out x0 x1 x2 r) [] σ.M (resA Try.ty σ.A σ.M Try.f6.results.toList)
set_option maxHeartbeats 4000000 in
set_option maxRecDepth 100000 in
theorem gf.can (x0 : Int) (x1 : Int) (x2 : List Th) (r : Bool) (hr : gf x0 x1 x2 = some r) : CallOk Try.prog 6 [.lit (.int .i64 x0), .lit (.int .i64 x1), .sl (x2.map Th.enc) .no] [] (gf.out x0 x1 x2 r) := by
 unfold gf at hr
 have hΓ := (gamL_cons gq.ok (gamL_cons gL.ok (gamL_cons gan.ok (gamL_cons gQ.ok (gamL_cons gy.ok (gamL_cons gE.ok (gamL_nil)))))) : GamOk Try.prog _)
 refine Lg Try.tyOk Try.func6 rfl (by kernel_rfl) rfl rfl (by simp) ?_
 intro _ _ _
 refine Try.tg hΓ [] [] (by kernel_rfl) rfl (by simp; exact rr) ?_
 obtain ⟨r1, h22, hr⟩ := Lc hr
 obtain ⟨r2, h23, hr⟩ := Lc hr
 refine Try.tg hΓ [7, 8] [0, 1] (by kernel_rfl) rfl (by simp [h22, h23]; exact rr) ?_
 refine AWp.seq ?_
 obtain ⟨r3, h24, hr⟩ := Lc hr
 refine Try.tg hΓ [37] [8] (by kernel_rfl) rfl (by simp [h24]; exact rr) ?_
 refine AWp.cond (b := (pickB (notB r3) true (notB r2.2))) (by simp) (fun h25 => ?_) (fun h25 => ?_)
 ·have hr := Li h25 hr
  refine Try.tg hΓ [6] [37, 7, 2] (by kernel_rfl) rfl (by simp [h25]; exact rr) ?_
  refine AWp.ret ?_
  obtain rfl := La hr
  refine Lf ?_
  simp
 ·have hr := Lj h25 hr
  refine AWp.skip ?_
  refine Try.tg hΓ [9, 10] [37] (by kernel_rfl) rfl (by simp [h25]; exact rr) ?_
  refine AWp.seq ?_
  refine Try.tg hΓ [11] [] (by kernel_rfl) rfl (by simp; exact rr) ?_
  refine AWp.loopE (fun (s1 : Int × Int × Int × (List (Int × Int)) × (List (Int × Int)) × Int × Int × Bool × (List (Int × Td)) × Tl × Int × Int × Tb × Int × Int) (γ1 : Unit) => ⟨[⟨11, none, .n s1.1⟩, ⟨9, none, .n s1.2.1⟩, ⟨10, none, .n s1.2.2.1⟩, ⟨7, none, .ptr 8 0⟩, ⟨2, none, .sl (x2.map Th.enc) .no⟩], [.dead, .dead, .dead, .mapo (encM (kI .i64) (kI .i64) s1.2.2.2.1), .mapo (encM (kI .i64) (kI .i64) s1.2.2.2.2.1), .blk [.n s1.2.2.2.2.2.1, .mp 3, .mp 4, .n s1.2.2.2.2.2.2.1, .b s1.2.2.2.2.2.2.2.1], .own (Td.own .i64 s1.2.2.2.2.2.2.2.2.1 none) none, .blk (s1.2.2.2.2.2.2.2.2.2.1.enc ++ [.mp 6, .ptr 5 0, .n s1.2.2.2.2.2.2.2.2.2.2.1, .n s1.2.2.2.2.2.2.2.2.2.2.2.1]), .blk ([.ptr 7 0] ++ s1.2.2.2.2.2.2.2.2.2.2.2.2.1.enc ++ [.n s1.2.2.2.2.2.2.2.2.2.2.2.2.2.1, .n s1.2.2.2.2.2.2.2.2.2.2.2.2.2.2])]⟩) (fun (v1 : Int × Int × (List (Int × Int)) × (List (Int × Int)) × Int × Int × Bool × (List (Int × Td)) × Tl × Int × Int × Tb × Int × Int) (γ1a : Unit) => ⟨[⟨9, none, .n v1.1⟩, ⟨10, none, .n v1.2.1⟩, ⟨7, none, .ptr 8 0⟩], [.dead, .dead, .dead, .mapo (encM (kI .i64) (kI .i64) v1.2.2.1), .mapo (encM (kI .i64) (kI .i64) v1.2.2.2.1), .blk [.n v1.2.2.2.2.1, .mp 3, .mp 4, .n v1.2.2.2.2.2.1, .b v1.2.2.2.2.2.2.1], .own (Td.own .i64 v1.2.2.2.2.2.2.2.1 none) none, .blk (v1.2.2.2.2.2.2.2.2.1.enc ++ [.mp 6, .ptr 5 0, .n v1.2.2.2.2.2.2.2.2.2.1, .n v1.2.2.2.2.2.2.2.2.2.2.1]), .blk ([.ptr 7 0] ++ v1.2.2.2.2.2.2.2.2.2.2.2.1.enc ++ [.n v1.2.2.2.2.2.2.2.2.2.2.2.2.1, .n v1.2.2.2.2.2.2.2.2.2.2.2.2.2])]⟩) (gf.fin x0 x1 x2) hr () 9 (by simp) (fun s1 f γ1 hr => ?_) (fun v1 γ1a σ1 m1 hr hc => ?_) (fun _ h => h)
  ·unfold gf.loop1 at hr
   refine AWp.seq ?_
   refine Try.tg hΓ [45] [] (by kernel_rfl) rfl (by simp; exact rr) ?_
   refine AWp.cond (b := (pickB (ltI s1.1 (lenL x2)) (ltI s1.1 100) false)) (by simp) (fun h26 => ?_) (fun h26 => ?_)
   ·have hr := Li h26 hr
    refine AWp.skip ?_
    refine AWp.meetF (fun (v2 : Int × Int × (List (Int × Int)) × (List (Int × Int)) × Int × Int × Bool × (List (Int × Td)) × Tl × Int × Int × Tb × Int × Int) (γ2 : Unit) => ⟨[⟨11, none, .n s1.1⟩, ⟨9, none, .n v2.1⟩, ⟨10, none, .n v2.2.1⟩, ⟨7, none, .ptr 8 0⟩, ⟨2, none, .sl (x2.map Th.enc) .no⟩], [.dead, .dead, .dead, .mapo (encM (kI .i64) (kI .i64) v2.2.2.1), .mapo (encM (kI .i64) (kI .i64) v2.2.2.2.1), .blk [.n v2.2.2.2.2.1, .mp 3, .mp 4, .n v2.2.2.2.2.2.1, .b v2.2.2.2.2.2.2.1], .own (Td.own .i64 v2.2.2.2.2.2.2.2.1 none) none, .blk (v2.2.2.2.2.2.2.2.2.1.enc ++ [.mp 6, .ptr 5 0, .n v2.2.2.2.2.2.2.2.2.2.1, .n v2.2.2.2.2.2.2.2.2.2.2.1]), .blk ([.ptr 7 0] ++ v2.2.2.2.2.2.2.2.2.2.2.2.1.enc ++ [.n v2.2.2.2.2.2.2.2.2.2.2.2.2.1, .n v2.2.2.2.2.2.2.2.2.2.2.2.2.2])]⟩) (QRr (gf.fin x0 x1 x2)) hr (fun f hr => ?_) (fun v2 γ2 hr => ?_) (fun _ h => QRr_ret h)
    ·refine AWp.block ?_
     obtain ⟨h27, hr⟩ := Lb hr
     refine Try.tg hΓ [12] [45] (by kernel_rfl) rfl (by simp [h26, h27]; exact rr) ?_
     refine AWp.meetF (fun (v3 : Th) (γ3 : Unit) => ⟨[⟨12, none, .ptr 9 0⟩, ⟨11, none, .n s1.1⟩, ⟨9, none, .n s1.2.1⟩, ⟨10, none, .n s1.2.2.1⟩, ⟨7, none, .ptr 8 0⟩, ⟨2, none, .sl (x2.map Th.enc) .no⟩], [.dead, .dead, .dead, .mapo (encM (kI .i64) (kI .i64) s1.2.2.2.1), .mapo (encM (kI .i64) (kI .i64) s1.2.2.2.2.1), .blk [.n s1.2.2.2.2.2.1, .mp 3, .mp 4, .n s1.2.2.2.2.2.2.1, .b s1.2.2.2.2.2.2.2.1], .own (Td.own .i64 s1.2.2.2.2.2.2.2.2.1 none) none, .blk (s1.2.2.2.2.2.2.2.2.2.1.enc ++ [.mp 6, .ptr 5 0, .n s1.2.2.2.2.2.2.2.2.2.2.1, .n s1.2.2.2.2.2.2.2.2.2.2.2.1]), .blk ([.ptr 7 0] ++ s1.2.2.2.2.2.2.2.2.2.2.2.2.1.enc ++ [.n s1.2.2.2.2.2.2.2.2.2.2.2.2.2.1, .n s1.2.2.2.2.2.2.2.2.2.2.2.2.2.2]), .blk v3.enc]⟩) (QRm (QRr (gf.fin x0 x1 x2))) hr (fun f hr => ?_) (fun v3 γ3 hr => ?_) (fun _ h => QRm_ret h)
     ·refine Try.tg hΓ [54] [] (by kernel_rfl) rfl (by simp; exact rr) ?_
      refine AWp.cond (b := (eqI ((nthI x2 s1.1).fw) 2)) (by simp) (fun h28 => ?_) (fun h28 => ?_)
      ·have hr := Li h28 hr
       refine AWp.lst (AWp.reg Try.tyOk hΓ [] [54] (by kernel_rfl) rfl (by simp [h28]; exact rr)) ?_
       obtain rfl := La hr
       exact Ls () 10 (by first | (simp; done) | simp [h22, h23, h24, h25, h26, h27, h28])
      ·have hr := Lj h28 hr
       refine AWp.skip ?_
       obtain rfl := La hr
       exact Ls () 10 (by first | (simp; done) | simp [h22, h23, h24, h25, h26, h27, h28])
     ·refine Try.tg hΓ [13] [] (by kernel_rfl) rfl (by simp; exact rr) ?_
      refine AWp.seq ?_
      refine Try.tg hΓ [58, 59, 60] [] (by kernel_rfl) rfl (by simp; exact rr) ?_
      refine AWp.loopE (fun (s4 : Int × Int) (γ4 : Unit) => ⟨[⟨58, none, .sl (s1.2.2.2.2.2.2.2.2.2.2.2.2.1.fL.map Tj.enc) .no⟩, ⟨59, none, .n (lenL s1.2.2.2.2.2.2.2.2.2.2.2.2.1.fL)⟩, ⟨60, none, .n s4.1⟩, ⟨13, none, .n s4.2⟩, ⟨12, none, .ptr 9 0⟩, ⟨11, none, .n s1.1⟩, ⟨9, none, .n s1.2.1⟩, ⟨10, none, .n s1.2.2.1⟩, ⟨7, none, .ptr 8 0⟩, ⟨2, none, .sl (x2.map Th.enc) .no⟩], [.dead, .dead, .dead, .mapo (encM (kI .i64) (kI .i64) s1.2.2.2.1), .mapo (encM (kI .i64) (kI .i64) s1.2.2.2.2.1), .blk [.n s1.2.2.2.2.2.1, .mp 3, .mp 4, .n s1.2.2.2.2.2.2.1, .b s1.2.2.2.2.2.2.2.1], .own (Td.own .i64 s1.2.2.2.2.2.2.2.2.1 none) none, .blk (s1.2.2.2.2.2.2.2.2.2.1.enc ++ [.mp 6, .ptr 5 0, .n s1.2.2.2.2.2.2.2.2.2.2.1, .n s1.2.2.2.2.2.2.2.2.2.2.2.1]), .blk ([.ptr 7 0] ++ s1.2.2.2.2.2.2.2.2.2.2.2.2.1.enc ++ [.n s1.2.2.2.2.2.2.2.2.2.2.2.2.2.1, .n s1.2.2.2.2.2.2.2.2.2.2.2.2.2.2]), .blk v3.enc]⟩) (fun (v4 : Int) (γ4a : Unit) => ⟨[⟨13, none, .n v4⟩, ⟨12, none, .ptr 9 0⟩, ⟨11, none, .n s1.1⟩, ⟨9, none, .n s1.2.1⟩, ⟨10, none, .n s1.2.2.1⟩, ⟨7, none, .ptr 8 0⟩, ⟨2, none, .sl (x2.map Th.enc) .no⟩], [.dead, .dead, .dead, .mapo (encM (kI .i64) (kI .i64) s1.2.2.2.1), .mapo (encM (kI .i64) (kI .i64) s1.2.2.2.2.1), .blk [.n s1.2.2.2.2.2.1, .mp 3, .mp 4, .n s1.2.2.2.2.2.2.1, .b s1.2.2.2.2.2.2.2.1], .own (Td.own .i64 s1.2.2.2.2.2.2.2.2.1 none) none, .blk (s1.2.2.2.2.2.2.2.2.2.1.enc ++ [.mp 6, .ptr 5 0, .n s1.2.2.2.2.2.2.2.2.2.2.1, .n s1.2.2.2.2.2.2.2.2.2.2.2.1]), .blk ([.ptr 7 0] ++ s1.2.2.2.2.2.2.2.2.2.2.2.2.1.enc ++ [.n s1.2.2.2.2.2.2.2.2.2.2.2.2.2.1, .n s1.2.2.2.2.2.2.2.2.2.2.2.2.2.2]), .blk v3.enc]⟩) (QRm (QRr (gf.fin x0 x1 x2))) hr () 10 (by simp) (fun s4 f γ4 hr => ?_) (fun v4 γ4a σ1 m1 hr hc => ?_) (fun _ h => QRm_ret h)
      ·unfold gf.loop4 at hr
       refine Try.tg hΓ [61] [] (by kernel_rfl) rfl (by simp; exact rr) ?_
       refine AWp.seq ?_
       refine AWp.cond (b := (ltI s4.1 (lenL s1.2.2.2.2.2.2.2.2.2.2.2.2.1.fL))) (by simp) (fun h29 => ?_) (fun h29 => ?_)
       ·have hr := Li h29 hr
        refine AWp.skip ?_
        refine AWp.seq ?_
        refine AWp.block ?_
        obtain ⟨h30, hr⟩ := Lb hr
        refine Try.tg hΓ [15] [61] (by kernel_rfl) rfl (by simp [h29, h30]; exact rr) ?_
        refine AWp.lst (AWp.reg Try.tyOk hΓ [13] [15] (by kernel_rfl) rfl (by simp; exact rr)) ?_
        refine AWp.lst (AWp.reg Try.tyOk hΓ [60] [] (by kernel_rfl) rfl (by simp; exact rr)) ?_
        obtain rfl := La hr
        exact Lm () 10 (by first | (simp; done) | simp [h22, h23, h24, h25, h26, h27, h29, h30])
       ·have hr := Lj h29 hr
        refine AWp.exit ?_
        obtain rfl := La hr
        exact Lp () 10 (by first | (simp; done) | simp [h22, h23, h24, h25, h26, h27, h29])
      ·refine AWp.conv hc ?_
       refine AWp.seq ?_
       obtain ⟨r4, h31, hr⟩ := Lc hr
       refine Try.tg hΓ [8] [] (by kernel_rfl) rfl (by simp [h31]; exact rr) ?_
       refine Try.tg hΓ [79] [8] (by kernel_rfl) rfl (by simp; exact rr) ?_
       refine AWp.cond (b := (notB r4.2.2)) (by simp) (fun h32 => ?_) (fun h32 => ?_)
       ·have hr := Li h32 hr
        refine Try.tg hΓ [6] [79, 13, 12, 11, 9, 10, 7, 2] (by kernel_rfl) rfl (by simp [h32]; exact rr) ?_
        refine AWp.ret ?_
        obtain rfl := La hr
        refine meet_ret ?_
        refine ⟨_, rfl, ?_⟩
        refine Lf ?_
        simp
       ·have hr := Lj h32 hr
        refine AWp.skip ?_
        refine Try.tg hΓ [16] [79] (by kernel_rfl) rfl (by simp [h32]; exact rr) ?_
        refine AWp.seq ?_
        refine Try.tg hΓ [82, 83, 84] [] (by kernel_rfl) rfl (by simp; exact rr) ?_
        refine AWp.loopE (fun (s5 : Int × Int) (γ5 : Unit) => ⟨[⟨82, none, .sl (r4.1.fX.fL.map Tj.enc) .no⟩, ⟨83, none, .n (lenL r4.1.fX.fL)⟩, ⟨84, none, .n s5.1⟩, ⟨16, none, .n s5.2⟩, ⟨13, none, .n v4⟩, ⟨12, none, .ptr 9 0⟩, ⟨11, none, .n s1.1⟩, ⟨9, none, .n s1.2.1⟩, ⟨10, none, .n s1.2.2.1⟩, ⟨7, none, .ptr 8 0⟩, ⟨2, none, .sl (x2.map Th.enc) .no⟩], [.dead, .dead, .dead, .mapo (encM (kI .i64) (kI .i64) r4.1.fO.fa.fj), .mapo (encM (kI .i64) (kI .i64) r4.1.fO.fa.fk), .blk [.n r4.1.fO.fa.fb, .mp 3, .mp 4, .n r4.1.fO.fa.fAt, .b r4.1.fO.fa.ff], .own (Td.own .i64 r4.1.fO.fg none) none, .blk (r4.1.fO.fe.enc ++ [.mp 6, .ptr 5 0, .n r4.1.fO.fc, .n r4.1.fO.fd]), .blk ([.ptr 7 0] ++ r4.1.fX.enc ++ [.n r4.1.fB, .n r4.1.fN]), .blk v3.enc]⟩) (fun (v5 : Int) (γ5a : Unit) => ⟨[⟨16, none, .n v5⟩, ⟨13, none, .n v4⟩, ⟨11, none, .n s1.1⟩, ⟨9, none, .n s1.2.1⟩, ⟨10, none, .n s1.2.2.1⟩, ⟨7, none, .ptr 8 0⟩, ⟨2, none, .sl (x2.map Th.enc) .no⟩], [.dead, .dead, .dead, .mapo (encM (kI .i64) (kI .i64) r4.1.fO.fa.fj), .mapo (encM (kI .i64) (kI .i64) r4.1.fO.fa.fk), .blk [.n r4.1.fO.fa.fb, .mp 3, .mp 4, .n r4.1.fO.fa.fAt, .b r4.1.fO.fa.ff], .own (Td.own .i64 r4.1.fO.fg none) none, .blk (r4.1.fO.fe.enc ++ [.mp 6, .ptr 5 0, .n r4.1.fO.fc, .n r4.1.fO.fd]), .blk ([.ptr 7 0] ++ r4.1.fX.enc ++ [.n r4.1.fB, .n r4.1.fN]), .blk v3.enc]⟩) (QRm (QRr (gf.fin x0 x1 x2))) hr () 10 (by simp) (fun s5 f γ5 hr => ?_) (fun v5 γ5a σ1 m1 hr hc => ?_) (fun _ h => QRm_ret h)
        ·unfold gf.loop5 at hr
         refine Try.tg hΓ [85] [] (by kernel_rfl) rfl (by simp; exact rr) ?_
         refine AWp.seq ?_
         refine AWp.cond (b := (ltI s5.1 (lenL r4.1.fX.fL))) (by simp) (fun h33 => ?_) (fun h33 => ?_)
         ·have hr := Li h33 hr
          refine AWp.skip ?_
          refine AWp.seq ?_
          refine AWp.block ?_
          obtain ⟨h34, hr⟩ := Lb hr
          refine Try.tg hΓ [18] [85] (by kernel_rfl) rfl (by simp [h33, h34]; exact rr) ?_
          refine Try.tg hΓ [16] [] (by kernel_rfl) rfl (by simp; exact rr) ?_
          obtain ⟨r5, h35, hr⟩ := Lc hr
          refine Try.tg hΓ [19] [] (by kernel_rfl) rfl (by simp [h35]; exact rr) ?_
          obtain ⟨h36, hr⟩ := Lb hr
          refine Try.td hΓ [123] [19, 18] [] [(false, []), (false, []), (false, []), (false, []), (false, [105]), (false, [105]), (false, []), (false, []), (false, [109]), (false, [109]), (false, [109]), (false, [109]), (false, [109]), (false, [109]), (false, [109]), (false, [109]), (false, [109]), (false, [109]), (false, [109]), (false, [109]), (false, [109]), (false, [])] (by kernel_rfl) rfl (by simp [h36]; exact rr) ?_
          refine AWp.cond (b := (pickB (pickB (eqI v3.fw 4) (ltI 0 r5.1) false) (leqI r4.1.fX.fu (subI .i64 r4.1.fB ((nthI ((nthI r4.1.fX.fL s5.1).fQ.fL) 0).fy))) false)) (by simp) (fun h37 => ?_) (fun h37 => ?_)
          ·have hr := Li h37 hr
           refine Try.tg hΓ [6] [123, 16, 82, 83, 84, 13, 12, 11, 9, 10, 7, 2] (by kernel_rfl) rfl (by simp [h37]; exact rr) ?_
           refine AWp.ret ?_
           obtain rfl := La hr
           refine round_ret ?_
           refine ⟨_, rfl, ?_⟩
           refine ⟨_, rfl, ?_⟩
           refine Lf ?_
           simp
          ·have hr := Lj h37 hr
           refine AWp.skip ?_
           refine AWp.lst (AWp.reg Try.tyOk hΓ [84] [123] (by kernel_rfl) rfl (by simp [h37]; exact rr)) ?_
           obtain rfl := La hr
           exact Lm () 10 (by first | (simp; done) | simp [h22, h23, h24, h25, h26, h27, h31, h32, h33, h34, h35, h36, h37])
         ·have hr := Lj h33 hr
          refine AWp.exit ?_
          obtain rfl := La hr
          exact Lp () 10 (by first | (simp; done) | simp [h22, h23, h24, h25, h26, h27, h31, h32, h33])
        ·refine AWp.conv hc ?_
         refine Try.tg hΓ [9] [] (by kernel_rfl) rfl (by simp; exact rr) ?_
         refine AWp.lst (AWp.reg Try.tyOk hΓ [10] [16, 13] (by kernel_rfl) rfl (by simp; exact rr)) ?_
         obtain rfl := La hr
         exact Ls () 9 (by first | (simp; done) | simp [h22, h23, h24, h25, h26, h27, h31, h32])
    ·refine AWp.lst (AWp.reg Try.tyOk hΓ [11] [] (by kernel_rfl) rfl (by simp; exact rr)) ?_
     obtain rfl := La hr
     exact Lm () 9 (by first | (simp; done) | simp [h22, h23, h24, h25, h26])
   ·have hr := Lj h26 hr
    refine AWp.exit ?_
    obtain rfl := La hr
    exact Lp () 9 (by first | (simp; done) | simp [h22, h23, h24, h25, h26])
  ·refine AWp.conv hc ?_
   obtain ⟨r6, h38, hr⟩ := Lc hr
   refine Try.tg hΓ [] [] (by kernel_rfl) rfl (by simp [h38]; exact rr) ?_
   refine AWp.seq ?_
   refine Try.tg hΓ [145, 146, 147] [] (by kernel_rfl) rfl (by simp; exact rr) ?_
   refine AWp.loopE (fun (s6 : Int) (γ6 : Unit) => ⟨[⟨145, none, .sl (v1.2.2.2.2.2.2.2.2.2.2.2.1.fL.map Tj.enc) .no⟩, ⟨146, none, .n (lenL v1.2.2.2.2.2.2.2.2.2.2.2.1.fL)⟩, ⟨147, none, .n s6⟩, ⟨9, none, .n v1.1⟩, ⟨10, none, .n v1.2.1⟩, ⟨7, none, .ptr 8 0⟩], [.dead, .dead, .dead, .mapo (encM (kI .i64) (kI .i64) r6.2.fa.fj), .mapo (encM (kI .i64) (kI .i64) r6.2.fa.fk), .blk [.n r6.2.fa.fb, .mp 3, .mp 4, .n r6.2.fa.fAt, .b r6.2.fa.ff], .own (Td.own .i64 r6.2.fg none) none, .blk (r6.2.fe.enc ++ [.mp 6, .ptr 5 0, .n r6.2.fc, .n r6.2.fd]), .blk ([.ptr 7 0] ++ v1.2.2.2.2.2.2.2.2.2.2.2.1.enc ++ [.n v1.2.2.2.2.2.2.2.2.2.2.2.2.1, .n v1.2.2.2.2.2.2.2.2.2.2.2.2.2])]⟩) (fun (v6 : Unit) (γ6a : Unit) => ⟨[⟨9, none, .n v1.1⟩, ⟨10, none, .n v1.2.1⟩], [.dead, .dead, .dead, .mapo (encM (kI .i64) (kI .i64) r6.2.fa.fj), .mapo (encM (kI .i64) (kI .i64) r6.2.fa.fk), .blk [.n r6.2.fa.fb, .mp 3, .mp 4, .n r6.2.fa.fAt, .b r6.2.fa.ff], .own (Td.own .i64 r6.2.fg none) none, .blk (r6.2.fe.enc ++ [.mp 6, .ptr 5 0, .n r6.2.fc, .n r6.2.fd]), .blk ([.ptr 7 0] ++ v1.2.2.2.2.2.2.2.2.2.2.2.1.enc ++ [.n v1.2.2.2.2.2.2.2.2.2.2.2.2.1, .n v1.2.2.2.2.2.2.2.2.2.2.2.2.2])]⟩) (gf.fin x0 x1 x2) hr () 9 (by simp) (fun s6 f γ6 hr => ?_) (fun v6 γ6a σ1 m1 hr hc => ?_) (fun _ h => h)
   ·unfold gf.loop6 at hr
    refine Try.tg hΓ [148] [] (by kernel_rfl) rfl (by simp; exact rr) ?_
    refine AWp.seq ?_
    refine AWp.cond (b := (ltI s6 (lenL v1.2.2.2.2.2.2.2.2.2.2.2.1.fL))) (by simp) (fun h39 => ?_) (fun h39 => ?_)
    ·have hr := Li h39 hr
     refine AWp.skip ?_
     refine AWp.seq ?_
     refine AWp.block ?_
     obtain ⟨h40, hr⟩ := Lb hr
     refine Try.tg hΓ [22] [148] (by kernel_rfl) rfl (by simp [h39, h40]; exact rr) ?_
     obtain ⟨r7, h41, hr⟩ := Lc hr
     refine Try.tg hΓ [23, 24] [22] (by kernel_rfl) rfl (by simp [h41]; exact rr) ?_
     refine Try.tg hΓ [164] [23, 24] (by kernel_rfl) rfl (by simp; exact rr) ?_
     refine AWp.cond (b := (pickB (neI r7.1 0) true (neI r7.2 0))) (by simp) (fun h42 => ?_) (fun h42 => ?_)
     ·have hr := Li h42 hr
      refine Try.tg hΓ [6] [164, 145, 146, 147, 9, 10, 7] (by kernel_rfl) rfl (by simp [h42]; exact rr) ?_
      refine AWp.ret ?_
      obtain rfl := La hr
      refine round_ret ?_
      refine Lf ?_
      simp
     ·have hr := Lj h42 hr
      refine AWp.skip ?_
      refine AWp.lst (AWp.reg Try.tyOk hΓ [147] [164] (by kernel_rfl) rfl (by simp [h42]; exact rr)) ?_
      obtain rfl := La hr
      exact Lm () 9 (by first | (simp; done) | simp [h22, h23, h24, h25, h38, h39, h40, h41, h42])
    ·have hr := Lj h39 hr
     refine AWp.exit ?_
     obtain rfl := La hr
     exact Lp () 9 (by first | (simp; done) | simp [h22, h23, h24, h25, h38, h39])
   ·refine AWp.conv hc ?_
    refine Try.tg hΓ [6] [9, 10] (by kernel_rfl) rfl (by simp; exact rr) ?_
    refine AWp.ret ?_
    obtain rfl := La hr
    refine Lf ?_
    simp

end Go.Proofs

/- That these functions compute what their plain functions do. No condition. -/
import Derived.Test.YtnoeflijefijcaaGgD
import Derived.Test.YtnoeflijefijcaaTy
import Derived.Test.YtnoeflijefijcaaEf
import Derived.Test.YtnoeflijefijcaaEi
namespace Go.Proofs
open Go.Ab
@[simp] def gc.out (_x0 : Int) (_x1 : Int) (_x2 : List Th) (r : Bool) : Out := { av := .lit (.bool r), M := none }
def gc.fin (x0 : Int) (x1 : Int) (x2 : List Th) (r : Bool) (σ : St) : Prop := finK (gc.out x0 x1 x2 r) [] σ.M (resA Try.ty σ.A σ.M Try.f4.results.toList)
set_option maxHeartbeats 4000000 in
set_option maxRecDepth 100000 in
theorem gc.can (x0 : Int) (x1 : Int) (x2 : List Th) (r : Bool) (hr : gc x0 x1 x2 = some r) : CallOk Try.prog 4 [.lit (.int .i64 x0), .lit (.int .i64 x1), .sl (x2.map Th.enc) .no] [] (gc.out x0 x1 x2 r) := by
 unfold gc at hr
 have hΓ := (gamL_cons gan.ok (gamL_cons gQ.ok (gamL_cons gy.ok (gamL_cons gE.ok (gamL_nil)))) : GamOk Try.prog _)
 refine Lg Try.tyOk Try.func4 rfl (by kernel_rfl) rfl rfl (by simp) ?_
 intro _ _ _
 refine Try.tg hΓ [] [] (by kernel_rfl) rfl (by simp; exact rr) ?_
 obtain ⟨r1, h20, hr⟩ := Lc hr
 obtain ⟨r2, h21, hr⟩ := Lc hr
 refine Try.tg hΓ [7, 8] [0, 1] (by kernel_rfl) rfl (by simp [h20, h21]; exact rr) ?_
 refine AWp.seq ?_
 obtain ⟨r3, h22, hr⟩ := Lc hr
 refine Try.tg hΓ [35] [8] (by kernel_rfl) rfl (by simp [h22]; exact rr) ?_
 refine AWp.cond (b := (pickB (notB r3) true (notB r2.2))) (by simp) (fun h23 => ?_) (fun h23 => ?_)
 ·have hr := Li h23 hr
  refine Try.tg hΓ [6] [35, 7, 2] (by kernel_rfl) rfl (by simp [h23]; exact rr) ?_
  refine AWp.ret ?_
  obtain rfl := La hr
  refine Lf ?_
  simp
 ·have hr := Lj h23 hr
  refine AWp.skip ?_
  refine Try.tg hΓ [9, 10, 11] [35] (by kernel_rfl) rfl (by simp [h23]; exact rr) ?_
  refine AWp.seq ?_
  refine Try.tg hΓ [12] [] (by kernel_rfl) rfl (by simp; exact rr) ?_
  refine AWp.loopE (fun (s1 : Int × Int × Int × Int × (List (Int × Int)) × (List (Int × Int)) × Int × Int × Bool × (List (Int × Td)) × Tl × Int × Int × Tb × Int × Int) (γ1 : Unit) => ⟨[⟨12, none, .n s1.1⟩, ⟨9, none, .n s1.2.1⟩, ⟨10, none, .n s1.2.2.1⟩, ⟨11, none, .n s1.2.2.2.1⟩, ⟨7, none, .ptr 8 0⟩, ⟨2, none, .sl (x2.map Th.enc) .no⟩], [.dead, .dead, .dead, .mapo (encM (kI .i64) (kI .i64) s1.2.2.2.2.1), .mapo (encM (kI .i64) (kI .i64) s1.2.2.2.2.2.1), .blk [.n s1.2.2.2.2.2.2.1, .mp 3, .mp 4, .n s1.2.2.2.2.2.2.2.1, .b s1.2.2.2.2.2.2.2.2.1], .own (Td.own .i64 s1.2.2.2.2.2.2.2.2.2.1 none) none, .blk (s1.2.2.2.2.2.2.2.2.2.2.1.enc ++ [.mp 6, .ptr 5 0, .n s1.2.2.2.2.2.2.2.2.2.2.2.1, .n s1.2.2.2.2.2.2.2.2.2.2.2.2.1]), .blk ([.ptr 7 0] ++ s1.2.2.2.2.2.2.2.2.2.2.2.2.2.1.enc ++ [.n s1.2.2.2.2.2.2.2.2.2.2.2.2.2.2.1, .n s1.2.2.2.2.2.2.2.2.2.2.2.2.2.2.2])]⟩) (fun (v1 : (List (Int × Int)) × (List (Int × Int)) × Int × Int × Bool × (List (Int × Td)) × Tl × Int × Int × Tb × Int × Int) (γ1a : Unit) => ⟨[], [.dead, .dead, .dead, .mapo (encM (kI .i64) (kI .i64) v1.1), .mapo (encM (kI .i64) (kI .i64) v1.2.1), .blk [.n v1.2.2.1, .mp 3, .mp 4, .n v1.2.2.2.1, .b v1.2.2.2.2.1], .own (Td.own .i64 v1.2.2.2.2.2.1 none) none, .blk (v1.2.2.2.2.2.2.1.enc ++ [.mp 6, .ptr 5 0, .n v1.2.2.2.2.2.2.2.1, .n v1.2.2.2.2.2.2.2.2.1]), .blk ([.ptr 7 0] ++ v1.2.2.2.2.2.2.2.2.2.1.enc ++ [.n v1.2.2.2.2.2.2.2.2.2.2.1, .n v1.2.2.2.2.2.2.2.2.2.2.2])]⟩) (gc.fin x0 x1 x2) hr () 9 (by simp) (fun s1 f γ1 hr => ?_) (fun v1 γ1a σ1 m1 hr hc => ?_) (fun _ h => h)
  ·unfold gc.loop1 at hr
   refine AWp.seq ?_
   refine Try.tg hΓ [43] [] (by kernel_rfl) rfl (by simp; exact rr) ?_
   refine AWp.cond (b := (pickB (ltI s1.1 (lenL x2)) (ltI s1.1 120) false)) (by simp) (fun h24 => ?_) (fun h24 => ?_)
   ·have hr := Li h24 hr
    refine AWp.skip ?_
    refine AWp.meetF (fun (v2 : Int × Int × Int × (List (Int × Int)) × (List (Int × Int)) × Int × Int × Bool × (List (Int × Td)) × Tl × Int × Int × Tb × Int × Int) (γ2 : Unit) => ⟨[⟨12, none, .n s1.1⟩, ⟨9, none, .n v2.1⟩, ⟨10, none, .n v2.2.1⟩, ⟨11, none, .n v2.2.2.1⟩, ⟨7, none, .ptr 8 0⟩, ⟨2, none, .sl (x2.map Th.enc) .no⟩], [.dead, .dead, .dead, .mapo (encM (kI .i64) (kI .i64) v2.2.2.2.1), .mapo (encM (kI .i64) (kI .i64) v2.2.2.2.2.1), .blk [.n v2.2.2.2.2.2.1, .mp 3, .mp 4, .n v2.2.2.2.2.2.2.1, .b v2.2.2.2.2.2.2.2.1], .own (Td.own .i64 v2.2.2.2.2.2.2.2.2.1 none) none, .blk (v2.2.2.2.2.2.2.2.2.2.1.enc ++ [.mp 6, .ptr 5 0, .n v2.2.2.2.2.2.2.2.2.2.2.1, .n v2.2.2.2.2.2.2.2.2.2.2.2.1]), .blk ([.ptr 7 0] ++ v2.2.2.2.2.2.2.2.2.2.2.2.2.1.enc ++ [.n v2.2.2.2.2.2.2.2.2.2.2.2.2.2.1, .n v2.2.2.2.2.2.2.2.2.2.2.2.2.2.2])]⟩) (QRr (gc.fin x0 x1 x2)) hr (fun f hr => ?_) (fun v2 γ2 hr => ?_) (fun _ h => QRr_ret h)
    ·refine AWp.block ?_
     refine Try.tg hΓ [13] [43] (by kernel_rfl) rfl (by simp [h24]; exact rr) ?_
     refine Try.tg hΓ [14] [] (by kernel_rfl) rfl (by simp; exact rr) ?_
     refine Try.tg hΓ [15] [] (by kernel_rfl) rfl (by simp; exact rr) ?_
     refine AWp.seq ?_
     refine Try.tg hΓ [50, 51, 52] [] (by kernel_rfl) rfl (by simp; exact rr) ?_
     refine AWp.loopE (fun (s3 : Int × Int × (List (Int × Int)) × (List (Int × Int))) (γ3 : Unit) => ⟨[⟨50, none, .sl (s1.2.2.2.2.2.2.2.2.2.2.2.2.2.1.fL.map Tj.enc) .no⟩, ⟨51, none, .n (lenL s1.2.2.2.2.2.2.2.2.2.2.2.2.2.1.fL)⟩, ⟨52, none, .n s3.1⟩, ⟨15, none, .n s3.2.1⟩, ⟨14, none, .mp 10⟩, ⟨13, none, .mp 9⟩, ⟨12, none, .n s1.1⟩, ⟨9, none, .n s1.2.1⟩, ⟨10, none, .n s1.2.2.1⟩, ⟨11, none, .n s1.2.2.2.1⟩, ⟨7, none, .ptr 8 0⟩, ⟨2, none, .sl (x2.map Th.enc) .no⟩], [.dead, .dead, .dead, .mapo (encM (kI .i64) (kI .i64) s1.2.2.2.2.1), .mapo (encM (kI .i64) (kI .i64) s1.2.2.2.2.2.1), .blk [.n s1.2.2.2.2.2.2.1, .mp 3, .mp 4, .n s1.2.2.2.2.2.2.2.1, .b s1.2.2.2.2.2.2.2.2.1], .own (Td.own .i64 s1.2.2.2.2.2.2.2.2.2.1 none) none, .blk (s1.2.2.2.2.2.2.2.2.2.2.1.enc ++ [.mp 6, .ptr 5 0, .n s1.2.2.2.2.2.2.2.2.2.2.2.1, .n s1.2.2.2.2.2.2.2.2.2.2.2.2.1]), .blk ([.ptr 7 0] ++ s1.2.2.2.2.2.2.2.2.2.2.2.2.2.1.enc ++ [.n s1.2.2.2.2.2.2.2.2.2.2.2.2.2.2.1, .n s1.2.2.2.2.2.2.2.2.2.2.2.2.2.2.2]), .mapo (encM (kI .i64) (kI .i64) s3.2.2.1), .mapo (encM (kI .i64) (kI .i64) s3.2.2.2)]⟩) (fun (v3 : Int × (List (Int × Int)) × (List (Int × Int))) (γ3a : Unit) => ⟨[⟨15, none, .n v3.1⟩, ⟨14, none, .mp 10⟩, ⟨12, none, .n s1.1⟩, ⟨9, none, .n s1.2.1⟩, ⟨10, none, .n s1.2.2.1⟩, ⟨11, none, .n s1.2.2.2.1⟩, ⟨7, none, .ptr 8 0⟩, ⟨2, none, .sl (x2.map Th.enc) .no⟩], [.dead, .dead, .dead, .mapo (encM (kI .i64) (kI .i64) s1.2.2.2.2.1), .mapo (encM (kI .i64) (kI .i64) s1.2.2.2.2.2.1), .blk [.n s1.2.2.2.2.2.2.1, .mp 3, .mp 4, .n s1.2.2.2.2.2.2.2.1, .b s1.2.2.2.2.2.2.2.2.1], .own (Td.own .i64 s1.2.2.2.2.2.2.2.2.2.1 none) none, .blk (s1.2.2.2.2.2.2.2.2.2.2.1.enc ++ [.mp 6, .ptr 5 0, .n s1.2.2.2.2.2.2.2.2.2.2.2.1, .n s1.2.2.2.2.2.2.2.2.2.2.2.2.1]), .blk ([.ptr 7 0] ++ s1.2.2.2.2.2.2.2.2.2.2.2.2.2.1.enc ++ [.n s1.2.2.2.2.2.2.2.2.2.2.2.2.2.2.1, .n s1.2.2.2.2.2.2.2.2.2.2.2.2.2.2.2]), .mapo (encM (kI .i64) (kI .i64) v3.2.1), .mapo (encM (kI .i64) (kI .i64) v3.2.2)]⟩) (QRm (QRr (gc.fin x0 x1 x2))) hr () 11 (by simp) (fun s3 f γ3 hr => ?_) (fun v3 γ3a σ1 m1 hr hc => ?_) (fun _ h => QRm_ret h)
     ·unfold gc.loop3 at hr
      refine Try.tg hΓ [53] [] (by kernel_rfl) rfl (by simp; exact rr) ?_
      refine AWp.seq ?_
      refine AWp.cond (b := (ltI s3.1 (lenL s1.2.2.2.2.2.2.2.2.2.2.2.2.2.1.fL))) (by simp) (fun h25 => ?_) (fun h25 => ?_)
      ·have hr := Li h25 hr
       refine AWp.skip ?_
       refine AWp.seq ?_
       refine AWp.block ?_
       obtain ⟨h26, hr⟩ := Lb hr
       refine Try.tg hΓ [17] [53] (by kernel_rfl) rfl (by simp [h25, h26]; exact rr) ?_
       refine Try.tg hΓ [] [] (by kernel_rfl) rfl (by simp; exact rr) ?_
       refine Try.tg hΓ [64] [] (by kernel_rfl) rfl (by simp; exact rr) ?_
       refine AWp.cond (b := (nthI s1.2.2.2.2.2.2.2.2.2.2.2.2.2.1.fL s3.1).fq) (by simp) (fun h27 => ?_) (fun h27 => ?_)
       ·have hr := Li h27 hr
        refine AWp.lst (AWp.reg Try.tyOk hΓ [15] [64, 17] (by kernel_rfl) rfl (by simp [h27]; exact rr)) ?_
        refine AWp.lst (AWp.reg Try.tyOk hΓ [52] [] (by kernel_rfl) rfl (by simp; exact rr)) ?_
        obtain rfl := La hr
        exact Lm () 11 (by first | (simp; done) | simp [h20, h21, h22, h23, h24, h25, h26, h27])
       ·have hr := Lj h27 hr
        refine AWp.lst (AWp.reg Try.tyOk hΓ [] [64, 17] (by kernel_rfl) rfl (by simp [h27]; exact rr)) ?_
        refine AWp.lst (AWp.reg Try.tyOk hΓ [52] [] (by kernel_rfl) rfl (by simp; exact rr)) ?_
        obtain rfl := La hr
        exact Lm () 11 (by first | (simp; done) | simp [h20, h21, h22, h23, h24, h25, h26, h27])
      ·have hr := Lj h25 hr
       refine AWp.exit ?_
       obtain rfl := La hr
       exact Lp () 11 (by first | (simp; done) | simp [h20, h21, h22, h23, h24, h25])
     ·refine AWp.conv hc ?_
      obtain ⟨h28, hr⟩ := Lb hr
      obtain ⟨r4, h29, hr⟩ := Lc hr
      refine Try.td hΓ [18, 19, 20] [] [(6, 11), (7, 11), (8, 11), (8, 12), (9, 11), (9, 12)] [(false, []), (false, []), (false, []), (false, []), (false, []), (true, []), (false, []), (false, []), (false, []), (false, []), (true, []), (true, []), (false, []), (false, [])] (by kernel_rfl) rfl (by simp [h28, h29]; exact rr) ?_
      refine AWp.seq ?_
      refine Try.tg hΓ [] [18] (by kernel_rfl) rfl (by simp; exact rr) ?_
      refine Try.tg hΓ [87] [20] (by kernel_rfl) rfl (by simp; exact rr) ?_
      refine AWp.cond (b := (notB r4.2.2)) (by simp) (fun h30 => ?_) (fun h30 => ?_)
      ·have hr := Li h30 hr
       refine Try.tg hΓ [6] [87, 19, 15, 14, 12, 9, 10, 11, 7, 2] (by kernel_rfl) rfl (by simp [h30]; exact rr) ?_
       refine AWp.ret ?_
       obtain rfl := La hr
       refine meet_ret ?_
       refine ⟨_, rfl, ?_⟩
       refine Lf ?_
       simp
      ·have hr := Lj h30 hr
       refine AWp.skip ?_
       refine AWp.meetF (fun (v4 : Int) (γ4 : Unit) => ⟨[⟨19, none, .sl (r4.2.1.map Tc.enc) .no⟩, ⟨15, none, .n v3.1⟩, ⟨14, none, .mp 10⟩, ⟨12, none, .n s1.1⟩, ⟨9, none, .n v4⟩, ⟨10, none, .n s1.2.2.1⟩, ⟨11, none, .n s1.2.2.2.1⟩, ⟨7, none, .ptr 8 0⟩, ⟨2, none, .sl (x2.map Th.enc) .no⟩], [.dead, .dead, .dead, .mapo (encM (kI .i64) (kI .i64) r4.1.fO.fa.fj), .mapo (encM (kI .i64) (kI .i64) r4.1.fO.fa.fk), .blk [.n r4.1.fO.fa.fb, .mp 3, .mp 4, .n r4.1.fO.fa.fAt, .b r4.1.fO.fa.ff], .own (Td.own .i64 r4.1.fO.fg none) none, .blk (r4.1.fO.fe.enc ++ [.mp 6, .ptr 5 0, .n r4.1.fO.fc, .n r4.1.fO.fd]), .blk ([.ptr 7 0] ++ r4.1.fX.enc ++ [.n r4.1.fB, .n r4.1.fN]), .mapo (encM (kI .i64) (kI .i64) v3.2.1), .mapo (encM (kI .i64) (kI .i64) v3.2.2), .blk ([.ptr 7 0] ++ r4.1.fX.enc ++ [.n r4.1.fB, .n r4.1.fN])]⟩) (QRm (QRr (gc.fin x0 x1 x2))) hr (fun f hr => ?_) (fun v4 γ4 hr => ?_) (fun _ h => QRm_ret h)
       ·obtain ⟨h31, hr⟩ := Lb hr
        refine Try.tg hΓ [93] [87] (by kernel_rfl) rfl (by simp [h28, h30]; exact rr) ?_
        refine AWp.cond (b := (eqI ((nthI x2 s1.1).fw) 2)) (by simp) (fun h32 => ?_) (fun h32 => ?_)
        ·have hr := Li h32 hr
         obtain ⟨h33, hr⟩ := Lb hr
         refine AWp.lst (AWp.reg Try.tyOk hΓ [9] [93] (by kernel_rfl) rfl (by simp [h28, h32]; exact rr)) ?_
         obtain rfl := La hr
         exact Ls () 12 (by first | (simp; done) | simp [h20, h21, h22, h23, h24, h28, h29, h30, h31, h32, h33])
        ·have hr := Lj h32 hr
         refine AWp.skip ?_
         obtain rfl := La hr
         exact Ls () 12 (by first | (simp; done) | simp [h20, h21, h22, h23, h24, h28, h29, h30, h31, h32])
       ·refine AWp.seq ?_
        refine Try.tg hΓ [104, 105, 106] [19] (by kernel_rfl) rfl (by simp; exact rr) ?_
        refine AWp.loopE (fun (s5 : Int × Int × Int × Int) (γ5 : Unit) => ⟨[⟨104, none, .sl (r4.2.1.map Tc.enc) .no⟩, ⟨105, none, .n (lenL r4.2.1)⟩, ⟨106, none, .n s5.1⟩, ⟨15, none, .n s5.2.1⟩, ⟨14, none, .mp 10⟩, ⟨12, none, .n s1.1⟩, ⟨9, none, .n v4⟩, ⟨10, none, .n s5.2.2.1⟩, ⟨11, none, .n s5.2.2.2⟩, ⟨7, none, .ptr 8 0⟩, ⟨2, none, .sl (x2.map Th.enc) .no⟩], [.dead, .dead, .dead, .mapo (encM (kI .i64) (kI .i64) r4.1.fO.fa.fj), .mapo (encM (kI .i64) (kI .i64) r4.1.fO.fa.fk), .blk [.n r4.1.fO.fa.fb, .mp 3, .mp 4, .n r4.1.fO.fa.fAt, .b r4.1.fO.fa.ff], .own (Td.own .i64 r4.1.fO.fg none) none, .blk (r4.1.fO.fe.enc ++ [.mp 6, .ptr 5 0, .n r4.1.fO.fc, .n r4.1.fO.fd]), .blk ([.ptr 7 0] ++ r4.1.fX.enc ++ [.n r4.1.fB, .n r4.1.fN]), .mapo (encM (kI .i64) (kI .i64) v3.2.1), .mapo (encM (kI .i64) (kI .i64) v3.2.2), .blk ([.ptr 7 0] ++ r4.1.fX.enc ++ [.n r4.1.fB, .n r4.1.fN])]⟩) (fun (v5 : Int × Int) (γ5a : Unit) => ⟨[⟨12, none, .n s1.1⟩, ⟨9, none, .n v4⟩, ⟨10, none, .n v5.1⟩, ⟨11, none, .n v5.2⟩, ⟨7, none, .ptr 8 0⟩, ⟨2, none, .sl (x2.map Th.enc) .no⟩], [.dead, .dead, .dead, .mapo (encM (kI .i64) (kI .i64) r4.1.fO.fa.fj), .mapo (encM (kI .i64) (kI .i64) r4.1.fO.fa.fk), .blk [.n r4.1.fO.fa.fb, .mp 3, .mp 4, .n r4.1.fO.fa.fAt, .b r4.1.fO.fa.ff], .own (Td.own .i64 r4.1.fO.fg none) none, .blk (r4.1.fO.fe.enc ++ [.mp 6, .ptr 5 0, .n r4.1.fO.fc, .n r4.1.fO.fd]), .blk ([.ptr 7 0] ++ r4.1.fX.enc ++ [.n r4.1.fB, .n r4.1.fN]), .mapo (encM (kI .i64) (kI .i64) v3.2.1), .mapo (encM (kI .i64) (kI .i64) v3.2.2), .blk ([.ptr 7 0] ++ r4.1.fX.enc ++ [.n r4.1.fB, .n r4.1.fN])]⟩) (QRm (QRr (gc.fin x0 x1 x2))) hr () 12 (by simp) (fun s5 f γ5 hr => ?_) (fun v5 γ5a σ1 m1 hr hc => ?_) (fun _ h => QRm_ret h)
        ·unfold gc.loop5 at hr
         refine Try.tg hΓ [107] [] (by kernel_rfl) rfl (by simp; exact rr) ?_
         refine AWp.seq ?_
         refine AWp.cond (b := (ltI s5.1 (lenL r4.2.1))) (by simp) (fun h34 => ?_) (fun h34 => ?_)
         ·have hr := Li h34 hr
          refine AWp.skip ?_
          refine AWp.seq ?_
          refine AWp.block ?_
          obtain ⟨h35, hr⟩ := Lb hr
          refine Try.tg hΓ [22] [107] (by kernel_rfl) rfl (by simp [h34, h35]; exact rr) ?_
          refine Try.tg hΓ [10] [] (by kernel_rfl) rfl (by simp; exact rr) ?_
          refine AWp.seq ?_
          refine Try.tg hΓ [119] [22] (by kernel_rfl) rfl (by simp; exact rr) ?_
          refine AWp.cond (b := (eqI (getM eqI ((nthI r4.2.1 s5.1).fId) 0 v3.2.2) 0)) (by simp) (fun h36 => ?_) (fun h36 => ?_)
          ·have hr := Li h36 hr
           refine Try.tg hΓ [11] [119] (by kernel_rfl) rfl (by simp [h36]; exact rr) ?_
           refine Try.tg hΓ [15] [] (by kernel_rfl) rfl (by simp; exact rr) ?_
           refine AWp.exit ?_
           refine blockS_same ?_
           refine AWp.lst (AWp.reg Try.tyOk hΓ [106] [] (by kernel_rfl) rfl (by simp; exact rr)) ?_
           obtain rfl := La hr
           exact Lm () 12 (by first | (simp; done) | simp [h20, h21, h22, h23, h24, h28, h29, h30, h34, h35, h36])
          ·have hr := Lj h36 hr
           refine AWp.skip ?_
           refine Try.tg hΓ [11] [119] (by kernel_rfl) rfl (by simp [h36]; exact rr) ?_
           refine Try.tg hΓ [132] [] (by kernel_rfl) rfl (by simp; exact rr) ?_
           refine AWp.cond (b := (pickB (ltI 0 s5.2.1) (ltI r4.1.fX.fp (addI .i64 s5.2.2.2 1)) false)) (by simp) (fun h37 => ?_) (fun h37 => ?_)
           ·have hr := Li h37 hr
            refine Try.tg hΓ [6] [132, 11, 10, 104, 105, 106, 15, 14, 12, 9, 7, 2] (by kernel_rfl) rfl (by simp [h37]; exact rr) ?_
            refine AWp.ret ?_
            obtain rfl := La hr
            refine round_ret ?_
            refine ⟨_, rfl, ?_⟩
            refine ⟨_, rfl, ?_⟩
            refine Lf ?_
            simp
           ·have hr := Lj h37 hr
            refine AWp.skip ?_
            refine AWp.lst (AWp.reg Try.tyOk hΓ [106] [132] (by kernel_rfl) rfl (by simp [h37]; exact rr)) ?_
            obtain rfl := La hr
            exact Lm () 12 (by first | (simp; done) | simp [h20, h21, h22, h23, h24, h28, h29, h30, h34, h35, h36, h37])
         ·have hr := Lj h34 hr
          refine AWp.exit ?_
          obtain rfl := La hr
          exact Lp () 12 (by first | (simp; done) | simp [h20, h21, h22, h23, h24, h28, h29, h30, h34])
        ·refine AWp.conv hc ?_
         refine Try.tg hΓ [136] [] (by kernel_rfl) rfl (by simp; exact rr) ?_
         refine AWp.cond (b := (ltI v4 v5.1)) (by simp) (fun h38 => ?_) (fun h38 => ?_)
         ·have hr := Li h38 hr
          refine Try.tg hΓ [6] [136, 12, 9, 10, 11, 7, 2] (by kernel_rfl) rfl (by simp [h38]; exact rr) ?_
          refine AWp.ret ?_
          obtain rfl := La hr
          refine meet_ret ?_
          refine ⟨_, rfl, ?_⟩
          refine Lf ?_
          simp
         ·have hr := Lj h38 hr
          refine AWp.skip ?_
          obtain rfl := La hr
          exact Ls () 9 (by first | (simp; done) | simp [h20, h21, h22, h23, h24, h28, h29, h30, h38])
    ·refine AWp.lst (AWp.reg Try.tyOk hΓ [12] [] (by kernel_rfl) rfl (by simp; exact rr)) ?_
     obtain rfl := La hr
     exact Lm () 9 (by first | (simp; done) | simp [h20, h21, h22, h23, h24])
   ·have hr := Lj h24 hr
    refine AWp.exit ?_
    obtain rfl := La hr
    exact Lp () 9 (by first | (simp; done) | simp [h20, h21, h22, h23, h24])
  ·refine AWp.conv hc ?_
   refine Try.tg hΓ [6] [] (by kernel_rfl) rfl (by simp; exact rr) ?_
   refine AWp.ret ?_
   obtain rfl := La hr
   refine Lf ?_
   simp

end Go.Proofs

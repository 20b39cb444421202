/- That these functions compute what their plain functions do. No condition. -/
import Derived.Test.YtnoeflijefijcaaM06
import Derived.Test.YtnoeflijefijcaaTy
import Derived.Test.YtnoeflijefijcaaEf
import Derived.Test.YtnoeflijefijcaaEi
namespace Go.Proofs
open Go.Ab
@[simp] def gU.out (_x0 : Int) (_x1 : Int) (_x2 : List Th) (r : Bool) : Out := { av := .lit (.bool r), M := none }
def gU.fin (x0 : Int) (x1 : Int) (x2 : List Th) (r : Bool) (σ : St) : Prop := finK (gU.out x0 x1 x2 r) [] σ.M (resA Try.ty σ.A σ.M Try.f7.results.toList)
set_option maxHeartbeats 4000000 in
set_option maxRecDepth 100000 in
theorem gU.can (x0 : Int) (x1 : Int) (x2 : List Th) (r : Bool) (hr : gU x0 x1 x2 = some r) : CallOk Try.prog 7 [.lit (.int .i64 x0), .lit (.int .i64 x1), .sl (x2.map Th.enc) .no] [] (gU.out x0 x1 x2 r) := by
 unfold gU at hr
 have hΓ := (gamL_cons gan.ok (gamL_cons gQ.ok (gamL_cons gy.ok (gamL_cons gat.ok (gamL_cons gE.ok (gamL_nil))))) : GamOk Try.prog _)
 refine Lg Try.tyOk Try.func7 rfl (by kernel_rfl) rfl rfl (by simp) ?_
 intro _ _ _
 refine Try.tg hΓ [] [] (by kernel_rfl) rfl (by simp; exact rr) ?_
 obtain ⟨r1, h10, hr⟩ := Lc hr
 obtain ⟨r2, h11, hr⟩ := Lc hr
 refine Try.tg hΓ [7, 8] [0, 1] (by kernel_rfl) rfl (by simp [h10, h11]; exact rr) ?_
 refine AWp.seq ?_
 obtain ⟨r3, h12, hr⟩ := Lc hr
 refine Try.tg hΓ [22] [8] (by kernel_rfl) rfl (by simp [h12]; exact rr) ?_
 refine AWp.cond (b := (pickB (notB r3) true (notB r2.2))) (by simp) (fun h13 => ?_) (fun h13 => ?_)
 ·have hr := Li h13 hr
  refine Try.tg hΓ [6] [22, 7, 2] (by kernel_rfl) rfl (by simp [h13]; exact rr) ?_
  refine AWp.ret ?_
  obtain rfl := La hr
  refine Lf ?_
  simp
 ·have hr := Lj h13 hr
  refine AWp.skip ?_
  refine AWp.seq ?_
  refine Try.tg hΓ [9] [22] (by kernel_rfl) rfl (by simp [h13]; exact rr) ?_
  refine AWp.loopE (fun (s1 : Int × (List (Int × Int)) × (List (Int × Int)) × Int × Int × Bool × (List (Int × Td)) × Tl × Int × Int × Tb × Int × Int) (γ1 : Unit) => ⟨[⟨9, none, .n s1.1⟩, ⟨7, none, .ptr 8 0⟩, ⟨2, none, .sl (x2.map Th.enc) .no⟩], [.dead, .dead, .dead, .mapo (encM (kI .i64) (kI .i64) s1.2.1), .mapo (encM (kI .i64) (kI .i64) s1.2.2.1), .blk [.n s1.2.2.2.1, .mp 3, .mp 4, .n s1.2.2.2.2.1, .b s1.2.2.2.2.2.1], .own (Td.own .i64 s1.2.2.2.2.2.2.1 none) none, .blk (s1.2.2.2.2.2.2.2.1.enc ++ [.mp 6, .ptr 5 0, .n s1.2.2.2.2.2.2.2.2.1, .n s1.2.2.2.2.2.2.2.2.2.1]), .blk ([.ptr 7 0] ++ s1.2.2.2.2.2.2.2.2.2.2.1.enc ++ [.n s1.2.2.2.2.2.2.2.2.2.2.2.1, .n s1.2.2.2.2.2.2.2.2.2.2.2.2])]⟩) (fun (v1 : (List (Int × Int)) × (List (Int × Int)) × Int × Int × Bool × (List (Int × Td)) × Tl × Int × Int × Tb × Int × Int) (γ1a : Unit) => ⟨[], [.dead, .dead, .dead, .mapo (encM (kI .i64) (kI .i64) v1.1), .mapo (encM (kI .i64) (kI .i64) v1.2.1), .blk [.n v1.2.2.1, .mp 3, .mp 4, .n v1.2.2.2.1, .b v1.2.2.2.2.1], .own (Td.own .i64 v1.2.2.2.2.2.1 none) none, .blk (v1.2.2.2.2.2.2.1.enc ++ [.mp 6, .ptr 5 0, .n v1.2.2.2.2.2.2.2.1, .n v1.2.2.2.2.2.2.2.2.1]), .blk ([.ptr 7 0] ++ v1.2.2.2.2.2.2.2.2.2.1.enc ++ [.n v1.2.2.2.2.2.2.2.2.2.2.1, .n v1.2.2.2.2.2.2.2.2.2.2.2])]⟩) (gU.fin x0 x1 x2) hr () 9 (by simp) (fun s1 f γ1 hr => ?_) (fun v1 γ1a σ1 m1 hr hc => ?_) (fun _ h => h)
  ·unfold gU.loop1 at hr
   refine AWp.seq ?_
   refine Try.tg hΓ [30] [] (by kernel_rfl) rfl (by simp; exact rr) ?_
   refine AWp.cond (b := (pickB (ltI s1.1 (lenL x2)) (ltI s1.1 120) false)) (by simp) (fun h14 => ?_) (fun h14 => ?_)
   ·have hr := Li h14 hr
    refine AWp.skip ?_
    refine AWp.seq ?_
    refine AWp.block ?_
    obtain ⟨h15, hr⟩ := Lb hr
    obtain ⟨r4, h16, hr⟩ := Lc hr
    refine Try.td hΓ [8] [30] [(8, 11), (9, 11)] [(false, []), (false, []), (false, []), (false, []), (false, []), (true, []), (false, []), (false, []), (false, []), (false, []), (true, []), (false, [])] (by kernel_rfl) rfl (by simp [h14, h15, h16]; exact rr) ?_
    obtain ⟨h17, hr⟩ := Lb hr
    refine Try.tg hΓ [49] [8] (by kernel_rfl) rfl (by simp [h17]; exact rr) ?_
    refine AWp.cond (b := (pickB (notB r4.2.2) true (neI ((gat r4.1).getD dflt) 0))) (by simp) (fun h18 => ?_) (fun h18 => ?_)
    ·have hr := Li h18 hr
     refine Try.tg hΓ [6] [49, 9, 7, 2] (by kernel_rfl) rfl (by simp [h18]; exact rr) ?_
     refine AWp.ret ?_
     obtain rfl := La hr
     refine round_ret ?_
     refine Lf ?_
     simp
    ·have hr := Lj h18 hr
     refine AWp.skip ?_
     refine AWp.lst (AWp.reg Try.tyOk hΓ [9] [49] (by kernel_rfl) rfl (by simp [h18]; exact rr)) ?_
     obtain rfl := La hr
     exact Lm () 9 (by first | (simp; done) | simp [h10, h11, h12, h13, h14, h15, h16, h17, h18])
   ·have hr := Lj h14 hr
    refine AWp.exit ?_
    obtain rfl := La hr
    exact Lp () 9 (by first | (simp; done) | simp [h10, h11, h12, h13, h14])
  ·refine AWp.conv hc ?_
   refine Try.tg hΓ [6] [] (by kernel_rfl) rfl (by simp; exact rr) ?_
   refine AWp.ret ?_
   obtain rfl := La hr
   refine Lf ?_
   simp

end Go.Proofs

/- That these functions compute what their plain functions do. No condition. -/
import Derived.Test.YtbijdlgffebenaaGreatM09
import Derived.Test.YtbijdlgffebenaaGreatTy
set_option maxRecDepth 100000
set_option maxHeartbeats 4000000
namespace Go.Proofs
open Go.Ab
@[simp] def gZ.out (_x0 : Tg) (r : Tg × List Ta × Nat) : Out := { av := .tup [.agg [.lit (.int .i64 r.1.fk), .lit (.int .i64 r.1.fp), .lit (.bool r.1.fd), .lit (.int .i64 r.1.fg), .sl (r.1.fL.map Ta.enc) .no, .lit (.int .i64 r.1.fe)], .sl (r.2.1.map Ta.enc) (.own 2 r.2.2 3)], M := some [.dead, .dead, .room r.2.2] }
def gZ.fin (x0 : Tg) (r : Tg × List Ta × Nat) (σ : St) : Prop := finK (gZ.out x0 r) [] σ.M (resA Tryz.ty σ.A σ.M Tryz.f52.results.toList)
theorem gZ.can (x0 : Tg) (r : Tg × List Ta × Nat) (hr : gZ x0 = some r) : CallOk Tryz.prog 52 [.agg [.lit (.int .i64 x0.fk), .lit (.int .i64 x0.fp), .lit (.bool x0.fd), .lit (.int .i64 x0.fg), .sl (x0.fL.map Ta.enc) .no, .lit (.int .i64 x0.fe)]] [] (gZ.out x0 r) := by
 unfold gZ at hr
 have hΓ := gamL_nil (P := Tryz.prog)
 refine Le Tryz.tyOk Tryz.func52 rfl (by kernel_rfl) rfl rfl (by simp) ?_
 intro _ _ _
 refine AWp.then ⟨[⟨1, none, .ptr 0 0⟩, ⟨2, none, .ptr 1 0⟩], [.blk x0.enc, .blk [.n 0, .n 0, .b false, .n 0, .sl [] .full, .n 0]]⟩ (AWp.reg Tryz.tyOk hΓ [1, 2] [0] (by kernel_rfl) rfl (by simp)) ?_
 refine AWp.thenA [⟨4, none, .sl [] .full⟩, ⟨1, none, .ptr 0 0⟩, ⟨2, none, .ptr 1 0⟩] (AWp.reg Tryz.tyOk hΓ [4] [] (by kernel_rfl) rfl (by simp)) ?_
 refine AWp.equip 4 3 (els := []) (by simp) (by simp) ?_
 refine AWp.loopB (fun (s1 : Nat × List Ta × Tg) (γ1 : Unit) => ⟨[⟨4, none, .sl (s1.2.1.map Ta.enc) (.own 2 s1.1 3)⟩, ⟨1, none, .ptr 0 0⟩, ⟨2, none, .ptr 1 0⟩], [.blk s1.2.2.enc, .blk [.n 0, .n 0, .b false, .n 0, .sl [] .full, .n 0], .room s1.1]⟩) (fun (v1 : Nat × List Ta × Tg) (γ1a : Unit) => ⟨[⟨4, none, .sl (v1.2.1.map Ta.enc) (.own 2 v1.1 3)⟩, ⟨1, none, .ptr 0 0⟩, ⟨2, none, .ptr 1 0⟩], [.blk v1.2.2.enc, .blk [.n 0, .n 0, .b false, .n 0, .sl [] .full, .n 0], .room v1.1]⟩) (gZ.fin x0) hr () 3 (by simp) (fun s1 f γ1 hr => ?_) (fun v1 γ1a hr => ?_) (fun _ h => h)
 ·unfold gZ.loop1 at hr
  refine AWp.seq ?_
  obtain ⟨h6, hr⟩ := Lc hr
  refine AWp.then ⟨[⟨19, none, .b (pickB (ltI 0 (lenL s1.2.2.fL)) (eqI ((nthI s1.2.2.fL 0).fAt) s1.2.2.fg) false)⟩, ⟨4, none, .sl (s1.2.1.map Ta.enc) (.own 2 s1.1 3)⟩, ⟨1, none, .ptr 0 0⟩, ⟨2, none, .ptr 1 0⟩], [.blk s1.2.2.enc, .blk [.n 0, .n 0, .b false, .n 0, .sl [] .full, .n 0], .room s1.1]⟩ (AWp.regD Tryz.mixed Tryz.tyOk hΓ [19] [] [] [(false, []), (false, []), (false, []), (false, []), (false, []), (false, [10]), (false, [10]), (false, [10]), (false, [10]), (false, [10]), (false, [10]), (false, [10]), (false, [10]), (false, [])] (by kernel_rfl) rfl (by simp [h6])) ?_
  refine AWp.cond (b := (pickB (ltI 0 (lenL s1.2.2.fL)) (eqI ((nthI s1.2.2.fL 0).fAt) s1.2.2.fg) false)) (by simp) (fun h7 => ?_) (fun h7 => ?_)
  ·have hr := Li h7 hr
   refine AWp.skip ?_
   refine AWp.block ?_
   obtain ⟨h8, hr⟩ := Lc hr
   obtain ⟨h9, hr⟩ := Lc hr
   refine AWp.then ⟨[⟨4, none, .sl ((appL s1.2.1 [(nthI s1.2.2.fL 0)]).map Ta.enc) (.own 2 (s1.1 + 1) 3)⟩, ⟨1, none, .ptr 0 0⟩, ⟨2, none, .ptr 1 0⟩], [.blk s1.2.2.enc, .blk [.n 0, .n 0, .b false, .n 0, .sl [] .full, .n 0], .room (s1.1 + 1)]⟩ (AWp.reg Tryz.tyOk hΓ [4] [19] (by kernel_rfl) rfl (by simp [h7, h8, h9])) ?_
   obtain ⟨h10, hr⟩ := Lc hr
   refine AWp.then ⟨[⟨4, none, .sl ((appL s1.2.1 [(nthI s1.2.2.fL 0)]).map Ta.enc) (.own 2 (s1.1 + 1) 3)⟩, ⟨1, none, .ptr 0 0⟩, ⟨2, none, .ptr 1 0⟩], [.blk [.n s1.2.2.fk, .n s1.2.2.fp, .b s1.2.2.fd, .n s1.2.2.fg, .sl ((cutL s1.2.2.fL 1 (lenL s1.2.2.fL)).map Ta.enc) .no, .n s1.2.2.fe], .blk [.n 0, .n 0, .b false, .n 0, .sl [] .full, .n 0], .room (s1.1 + 1)]⟩ (AWp.reg Tryz.tyOk hΓ [] [] (by kernel_rfl) rfl (by simp [h10])) ?_
   refine AWp.last ⟨[⟨4, none, .sl ((appL s1.2.1 [(nthI s1.2.2.fL 0)]).map Ta.enc) (.own 2 (s1.1 + 1) 3)⟩, ⟨1, none, .ptr 0 0⟩, ⟨2, none, .ptr 1 0⟩], [.blk [.n s1.2.2.fk, .n s1.2.2.fp, .b s1.2.2.fd, .n (addI .i64 s1.2.2.fg 1), .sl ((cutL s1.2.2.fL 1 (lenL s1.2.2.fL)).map Ta.enc) .no, .n s1.2.2.fe], .blk [.n 0, .n 0, .b false, .n 0, .sl [] .full, .n 0], .room (s1.1 + 1)]⟩ (AWp.reg Tryz.tyOk hΓ [] [] (by kernel_rfl) rfl (by simp)) ?_
   obtain rfl := La hr
   exact Lq () 3 (by first | (simp; done) | simp [h6, h7, h8, h9, h10])
  ·have hr := Lj h7 hr
   refine AWp.exit ?_
   obtain rfl := La hr
   exact Lo () 3 (by first | (simp; done) | simp [h6, h7])
 ·refine AWp.then ⟨[⟨3, none, .sl (v1.2.1.map Ta.enc) (.own 2 v1.1 3)⟩, ⟨2, none, .ptr 1 0⟩], [.blk v1.2.2.enc, .blk v1.2.2.enc, .room v1.1]⟩ (AWp.reg Tryz.tyOk hΓ [3] [4, 1] (by kernel_rfl) rfl (by simp)) ?_
  refine AWp.ret ?_
  obtain rfl := La hr
  refine Lf ?_
  simp

@[simp] noncomputable def gZ.S : Sp
 | [.agg e0], M => (fun (y0 : Tg) => (fun (r : Tg × List Ta × Nat) => some { av := .tup [.agg [.lit (.int .i64 (r.1.fk)), .lit (.int .i64 (r.1.fp)), .lit (.bool (r.1.fd)), .lit (.int .i64 (r.1.fg)), .sl ((r.1.fL).map Ta.enc) .no, .lit (.int .i64 (r.1.fe))], .sl ((r.2.1).map Ta.enc) (.own (M.length + 2) (r.2.2) 3)], M := some (M ++ [.dead, .dead, .room (r.2.2)]), obl := WeakL e0 (Tg.enc y0) ∧ (gZ y0).isSome = true }) ((gZ y0).getD dflt)) (Tg.dec e0)
 | _, _ => none

theorem gZ.ok : SpecOk Tryz.prog 52 gZ.S := by
 intro l M out h
 unfold gZ.S at h
 split at h
 ·rename_i e0
  try dsimp only at h
  cases h
  refine callOk_of fun ho => ?_
  obtain ⟨ox0, hs⟩ := ho
  generalize (Tg.dec e0) = x0 at *
  obtain ⟨r, hr⟩ := Option.isSome_iff_exists.1 hs
  simp only [hr, Option.getD_some]
  have q := Lg (M := M) [] (gZ.can x0 r hr) (by simp) rfl (by intro k i hk; simp at hk)
  exact callOk_conv q trivial (by simp; exact ox0) (by simp [frameOut, gZ.out, into]) (by simp [frameOut, gZ.out, into])
 ·cases h

@[simp] def gax.out (_x0 : Tg) (r : Tg × List Ta × Nat) : Out := { av := .tup [.agg [.lit (.int .i64 r.1.fk), .lit (.int .i64 r.1.fp), .lit (.bool r.1.fd), .lit (.int .i64 r.1.fg), .sl (r.1.fL.map Ta.enc) .no, .lit (.int .i64 r.1.fe)], .sl (r.2.1.map Ta.enc) (.own 4 r.2.2 3)], M := some [.dead, .dead, .dead, .dead, .room r.2.2] }
theorem gax.can (x0 : Tg) (r : Tg × List Ta × Nat) (hr : gax x0 = some r) : CallOk Tryz.prog 53 [.agg [.lit (.int .i64 x0.fk), .lit (.int .i64 x0.fp), .lit (.bool x0.fd), .lit (.int .i64 x0.fg), .sl (x0.fL.map Ta.enc) .no, .lit (.int .i64 x0.fe)]] [] (gax.out x0 r) := by
 unfold gax at hr
 have hΓ := (gamL_cons gZ.ok (gamL_nil) : GamOk Tryz.prog _)
 refine Le Tryz.tyOk Tryz.func53 rfl (by kernel_rfl) rfl rfl (by simp) ?_
 intro _ _ _
 refine AWp.then ⟨[⟨1, none, .ptr 0 0⟩, ⟨2, none, .ptr 1 0⟩], [.blk x0.enc, .blk [.n 0, .n 0, .b false, .n 0, .sl [] .full, .n 0]]⟩ (AWp.reg Tryz.tyOk hΓ [1, 2] [0] (by kernel_rfl) rfl (by simp)) ?_
 obtain ⟨h4, hr⟩ := Lc hr
 refine AWp.then ⟨[⟨1, none, .ptr 0 0⟩, ⟨2, none, .ptr 1 0⟩], [.blk [.n x0.fk, .n x0.fp, .b x0.fd, .n x0.fg, .sl (x0.fL.map Ta.enc) .no, .n (addI .i64 x0.fe (subI .i64 ((nthI x0.fL 0).fAt) x0.fg))], .blk [.n 0, .n 0, .b false, .n 0, .sl [] .full, .n 0]]⟩ (AWp.regD Tryz.mixed Tryz.tyOk hΓ [] [] [] [(false, []), (false, []), (false, []), (false, []), (false, []), (false, []), (false, []), (false, []), (false, []), (false, []), (false, []), (false, []), (true, [])] (by kernel_rfl) rfl (by simp [h4])) ?_
 obtain ⟨h5, hr⟩ := Lc hr
 refine AWp.then ⟨[⟨1, none, .ptr 0 0⟩, ⟨2, none, .ptr 1 0⟩], [.blk [.n x0.fk, .n x0.fp, .b x0.fd, .n ((nthI x0.fL 0).fAt), .sl (x0.fL.map Ta.enc) .no, .n (addI .i64 x0.fe (subI .i64 ((nthI x0.fL 0).fAt) x0.fg))], .blk [.n 0, .n 0, .b false, .n 0, .sl [] .full, .n 0]]⟩ (AWp.reg Tryz.tyOk hΓ [] [] (by kernel_rfl) rfl (by simp [h4])) ?_
 obtain ⟨r1, h6, hr⟩ := Lb hr
 refine AWp.then ⟨[⟨3, none, .sl (r1.2.1.map Ta.enc) (.own 4 r1.2.2 3)⟩, ⟨2, none, .ptr 1 0⟩], [.blk [.n x0.fk, .n x0.fp, .b x0.fd, .n ((nthI x0.fL 0).fAt), .sl (x0.fL.map Ta.enc) .no, .n (addI .i64 x0.fe (subI .i64 ((nthI x0.fL 0).fAt) x0.fg))], .blk r1.1.enc, .dead, .dead, .room r1.2.2]⟩ (AWp.reg Tryz.tyOk hΓ [3] [1] (by kernel_rfl) rfl (by simp [h6])) ?_
 refine AWp.ret ?_
 obtain rfl := La hr
 refine Lf ?_
 simp

@[simp] noncomputable def gax.S : Sp
 | [.agg e0], M => (fun (y0 : Tg) => (fun (r : Tg × List Ta × Nat) => some { av := .tup [.agg [.lit (.int .i64 (r.1.fk)), .lit (.int .i64 (r.1.fp)), .lit (.bool (r.1.fd)), .lit (.int .i64 (r.1.fg)), .sl ((r.1.fL).map Ta.enc) .no, .lit (.int .i64 (r.1.fe))], .sl ((r.2.1).map Ta.enc) (.own (M.length + 4) (r.2.2) 3)], M := some (M ++ [.dead, .dead, .dead, .dead, .room (r.2.2)]), obl := WeakL e0 (Tg.enc y0) ∧ (gax y0).isSome = true }) ((gax y0).getD dflt)) (Tg.dec e0)
 | _, _ => none

theorem gax.ok : SpecOk Tryz.prog 53 gax.S := by
 intro l M out h
 unfold gax.S at h
 split at h
 ·rename_i e0
  try dsimp only at h
  cases h
  refine callOk_of fun ho => ?_
  obtain ⟨ox0, hs⟩ := ho
  generalize (Tg.dec e0) = x0 at *
  obtain ⟨r, hr⟩ := Option.isSome_iff_exists.1 hs
  simp only [hr, Option.getD_some]
  have q := Lg (M := M) [] (gax.can x0 r hr) (by simp) rfl (by intro k i hk; simp at hk)
  exact callOk_conv q trivial (by simp; exact ox0) (by simp [frameOut, gax.out, into]) (by simp [frameOut, gax.out, into])
 ·cases h

@[simp] def gW.out (_x0 : List Ta) (_x1 : Ta) (r : List Ta) : Out := { av := .sl (r.map Ta.enc) .no, M := none }
def gW.fin (x0 : List Ta) (x1 : Ta) (r : List Ta) (σ : St) : Prop := finK (gW.out x0 x1 r) [] σ.M (resA Tryz.ty σ.A σ.M Tryz.f51.results.toList)
theorem gW.can (x0 : List Ta) (x1 : Ta) (r : List Ta) (hr : gW x0 x1 = some r) : CallOk Tryz.prog 51 [.sl (x0.map Ta.enc) .no, .agg [.lit (.int .i64 x1.fAt), .lit (.string x1.fU), .lit (.int .i64 x1.fO)]] [] (gW.out x0 x1 r) := by
 unfold gW at hr
 have hΓ := gamL_nil (P := Tryz.prog)
 refine Le Tryz.tyOk Tryz.func51 rfl (by kernel_rfl) rfl rfl (by simp) ?_
 intro _ _ _
 refine AWp.then ⟨[⟨3, none, .ptr 0 0⟩, ⟨0, none, .sl (x0.map Ta.enc) .no⟩], [.blk x1.enc]⟩ (AWp.reg Tryz.tyOk hΓ [3] [1] (by kernel_rfl) rfl (by simp)) ?_
 refine AWp.thenA [⟨5, none, .sl [] .full⟩, ⟨3, none, .ptr 0 0⟩, ⟨0, none, .sl (x0.map Ta.enc) .no⟩] (AWp.reg Tryz.tyOk hΓ [5] [] (by kernel_rfl) rfl (by simp)) ?_
 refine AWp.thenA [⟨6, none, .b false⟩, ⟨5, none, .sl [] .full⟩, ⟨3, none, .ptr 0 0⟩, ⟨0, none, .sl (x0.map Ta.enc) .no⟩] (AWp.reg Tryz.tyOk hΓ [6] [] (by kernel_rfl) rfl (by simp)) ?_
 refine AWp.seq ?_
 refine AWp.then ⟨[⟨10, none, .sl (x0.map Ta.enc) .no⟩, ⟨11, none, .n (lenL x0)⟩, ⟨12, none, .n 0⟩, ⟨6, none, .b false⟩, ⟨5, none, .sl [] .full⟩, ⟨3, none, .ptr 0 0⟩], [.blk x1.enc]⟩ (AWp.reg Tryz.tyOk hΓ [10, 11, 12] [0] (by kernel_rfl) rfl (by simp)) ?_
 refine AWp.equip 5 3 (els := []) (by simp) (by simp) ?_
 refine AWp.loopE (fun (s1 : Int × Bool × List Ta) (γ1 : Nat) => ⟨[⟨10, none, .sl (x0.map Ta.enc) .no⟩, ⟨11, none, .n (lenL x0)⟩, ⟨12, none, .n s1.1⟩, ⟨6, none, .b s1.2.1⟩, ⟨5, none, .sl (s1.2.2.map Ta.enc) (.own 1 (γ1) 3)⟩, ⟨3, none, .ptr 0 0⟩], [.blk x1.enc, .room (γ1)]⟩) (fun (v1 : Bool × List Ta) (γ1a : Nat) => ⟨[⟨6, none, .b v1.1⟩, ⟨5, none, .sl (v1.2.map Ta.enc) (.own 1 (γ1a) 3)⟩, ⟨3, none, .ptr 0 0⟩], [.blk x1.enc, .room (γ1a)]⟩) (gW.fin x0 x1) hr 0 2 (by simp) (fun s1 f γ1 hr => ?_) (fun v1 γ1a σ1 m1 hr hc => ?_) (fun _ h => h)
 ·unfold gW.loop1 at hr
  refine AWp.then ⟨[⟨13, none, .b (ltI s1.1 (lenL x0))⟩, ⟨10, none, .sl (x0.map Ta.enc) .no⟩, ⟨11, none, .n (lenL x0)⟩, ⟨12, none, .n s1.1⟩, ⟨6, none, .b s1.2.1⟩, ⟨5, none, .sl (s1.2.2.map Ta.enc) (.own 1 (γ1) 3)⟩, ⟨3, none, .ptr 0 0⟩], [.blk x1.enc, .room (γ1)]⟩ (AWp.reg Tryz.tyOk hΓ [13] [] (by kernel_rfl) rfl (by simp)) ?_
  refine AWp.seq ?_
  refine AWp.cond (b := (ltI s1.1 (lenL x0))) (by simp) (fun h8 => ?_) (fun h8 => ?_)
  ·have hr := Li h8 hr
   refine AWp.skip ?_
   refine AWp.seq ?_
   refine AWp.block ?_
   obtain ⟨h9, hr⟩ := Lc hr
   refine AWp.then ⟨[⟨8, none, .ptr 2 0⟩, ⟨10, none, .sl (x0.map Ta.enc) .no⟩, ⟨11, none, .n (lenL x0)⟩, ⟨12, none, .n s1.1⟩, ⟨6, none, .b s1.2.1⟩, ⟨5, none, .sl (s1.2.2.map Ta.enc) (.own 1 (γ1) 3)⟩, ⟨3, none, .ptr 0 0⟩], [.blk x1.enc, .room (γ1), .blk (nthI x0 s1.1).enc]⟩ (AWp.reg Tryz.tyOk hΓ [8] [13] (by kernel_rfl) rfl (by simp [h8, h9])) ?_
   refine AWp.meetF (fun (v2 : Bool × List Ta) (γ2 : Nat) => ⟨[⟨8, none, .ptr 2 0⟩, ⟨10, none, .sl (x0.map Ta.enc) .no⟩, ⟨11, none, .n (lenL x0)⟩, ⟨12, none, .n s1.1⟩, ⟨6, none, .b v2.1⟩, ⟨5, none, .sl (v2.2.map Ta.enc) (.own 1 (γ2) 3)⟩, ⟨3, none, .ptr 0 0⟩], [.blk x1.enc, .room (γ2), .blk (nthI x0 s1.1).enc]⟩) (QRr (gW.fin x0 x1)) hr (fun f hr => ?_) (fun v2 γ2 hr => ?_) (fun _ h => QRr_ret h)
   ·refine AWp.then ⟨[⟨24, none, .b (pickB (notB s1.2.1) (ltI x1.fAt ((nthI x0 s1.1).fAt)) false)⟩, ⟨8, none, .ptr 2 0⟩, ⟨10, none, .sl (x0.map Ta.enc) .no⟩, ⟨11, none, .n (lenL x0)⟩, ⟨12, none, .n s1.1⟩, ⟨6, none, .b s1.2.1⟩, ⟨5, none, .sl (s1.2.2.map Ta.enc) (.own 1 (γ1) 3)⟩, ⟨3, none, .ptr 0 0⟩], [.blk x1.enc, .room (γ1), .blk (nthI x0 s1.1).enc]⟩ (AWp.reg Tryz.tyOk hΓ [24] [] (by kernel_rfl) rfl (by simp)) ?_
    refine AWp.cond (b := (pickB (notB s1.2.1) (ltI x1.fAt ((nthI x0 s1.1).fAt)) false)) (by simp) (fun h10 => ?_) (fun h10 => ?_)
    ·have hr := Li h10 hr
     obtain ⟨h11, hr⟩ := Lc hr
     refine AWp.then ⟨[⟨5, none, .sl ((appL s1.2.2 [x1]).map Ta.enc) (.own 1 (γ1 + 1) 3)⟩, ⟨8, none, .ptr 2 0⟩, ⟨10, none, .sl (x0.map Ta.enc) .no⟩, ⟨11, none, .n (lenL x0)⟩, ⟨12, none, .n s1.1⟩, ⟨3, none, .ptr 0 0⟩], [.blk x1.enc, .room (γ1 + 1), .blk (nthI x0 s1.1).enc]⟩ (AWp.reg Tryz.tyOk hΓ [5] [24, 6] (by kernel_rfl) rfl (by simp [h10, h11])) ?_
     refine AWp.last ⟨[⟨6, none, .b true⟩, ⟨5, none, .sl ((appL s1.2.2 [x1]).map Ta.enc) (.own 1 (γ1 + 1) 3)⟩, ⟨8, none, .ptr 2 0⟩, ⟨10, none, .sl (x0.map Ta.enc) .no⟩, ⟨11, none, .n (lenL x0)⟩, ⟨12, none, .n s1.1⟩, ⟨3, none, .ptr 0 0⟩], [.blk x1.enc, .room (γ1 + 1), .blk (nthI x0 s1.1).enc]⟩ (AWp.reg Tryz.tyOk hΓ [6] [] (by kernel_rfl) rfl (by simp)) ?_
     obtain rfl := La hr
     exact Ll (γ1 + 1) 3 (by first | (simp; done) | simp [h8, h9, h10, h11])
    ·have hr := Lj h10 hr
     refine AWp.skip ?_
     obtain rfl := La hr
     exact Ll (γ1) 3 (by first | (simp; done) | simp [h8, h9, h10])
   ·obtain ⟨h12, hr⟩ := Lc hr
    refine AWp.last ⟨[⟨5, none, .sl ((appL v2.2 [(nthI x0 s1.1)]).map Ta.enc) (.own 1 (γ2 + 1) 3)⟩, ⟨10, none, .sl (x0.map Ta.enc) .no⟩, ⟨11, none, .n (lenL x0)⟩, ⟨12, none, .n s1.1⟩, ⟨6, none, .b v2.1⟩, ⟨3, none, .ptr 0 0⟩], [.blk x1.enc, .room (γ2 + 1), .blk (nthI x0 s1.1).enc]⟩ (AWp.reg Tryz.tyOk hΓ [5] [8] (by kernel_rfl) rfl (by simp [h12])) ?_
    refine AWp.last ⟨[⟨12, none, .n (addI .i64 s1.1 1)⟩, ⟨5, none, .sl ((appL v2.2 [(nthI x0 s1.1)]).map Ta.enc) (.own 1 (γ2 + 1) 3)⟩, ⟨10, none, .sl (x0.map Ta.enc) .no⟩, ⟨11, none, .n (lenL x0)⟩, ⟨6, none, .b v2.1⟩, ⟨3, none, .ptr 0 0⟩], [.blk x1.enc, .room (γ2 + 1), .blk (nthI x0 s1.1).enc]⟩ (AWp.reg Tryz.tyOk hΓ [12] [] (by kernel_rfl) rfl (by simp)) ?_
    obtain rfl := La hr
    exact Lq (γ2 + 1) 2 (by first | (simp; done) | simp [h8, h9, h12])
  ·have hr := Lj h8 hr
   refine AWp.exit ?_
   obtain rfl := La hr
   exact Lo (γ1) 2 (by first | (simp; done) | simp [h8])
 ·refine AWp.conv hc ?_
  refine AWp.meetF (fun (v3 : List Ta) (γ3 : Nat) => ⟨[⟨5, none, .sl (v3.map Ta.enc) (.own 1 (γ3) 3)⟩], [.blk x1.enc, .room (γ3)]⟩) (gW.fin x0 x1) hr (fun f hr => ?_) (fun v3 γ3 hr => ?_) (fun _ h => h)
  ·refine AWp.then ⟨[⟨35, none, .b (notB v1.1)⟩, ⟨5, none, .sl (v1.2.map Ta.enc) (.own 1 (γ1a) 3)⟩, ⟨3, none, .ptr 0 0⟩], [.blk x1.enc, .room (γ1a)]⟩ (AWp.reg Tryz.tyOk hΓ [35] [6] (by kernel_rfl) rfl (by simp)) ?_
   refine AWp.cond (b := (notB v1.1)) (by simp) (fun h13 => ?_) (fun h13 => ?_)
   ·have hr := Li h13 hr
    obtain ⟨h14, hr⟩ := Lc hr
    refine AWp.last ⟨[⟨5, none, .sl ((appL v1.2 [x1]).map Ta.enc) (.own 1 (γ1a + 1) 3)⟩], [.blk x1.enc, .room (γ1a + 1)]⟩ (AWp.reg Tryz.tyOk hΓ [5] [35, 3] (by kernel_rfl) rfl (by simp [h13, h14])) ?_
    obtain rfl := La hr
    exact Ll (γ1a + 1) 2 (by first | (simp; done) | simp [h13, h14])
   ·have hr := Lj h13 hr
    refine AWp.skip ?_
    obtain rfl := La hr
    exact Ll (γ1a) 2 (by first | (simp; done) | simp [h13])
  ·refine AWp.then ⟨[⟨4, none, .sl (v3.map Ta.enc) (.own 1 (γ3) 3)⟩], [.blk x1.enc, .room (γ3)]⟩ (AWp.reg Tryz.tyOk hΓ [4] [5] (by kernel_rfl) rfl (by simp)) ?_
   refine AWp.ret ?_
   obtain rfl := La hr
   refine Lf ?_
   simp

@[simp] noncomputable def gW.S : Sp
 | [.sl e0 _, .agg e1], _ => some { av := .sl (((gW (e0.map Ta.dec) (Ta.dec e1)).getD dflt).map Ta.enc) .no, M := none, obl := e0 = (e0.map Ta.dec).map Ta.enc ∧ WeakL e1 (Ta.enc (Ta.dec e1)) ∧ (gW (e0.map Ta.dec) (Ta.dec e1)).isSome = true }
 | _, _ => none

theorem gW.ok : SpecOk Tryz.prog 51 gW.S := by
 intro l M out h
 unfold gW.S at h
 split at h
 ·rename_i e0 k0 e1
  cases h
  refine callOk_of fun ho => ?_
  obtain ⟨ox0, ox1, hs⟩ := ho
  generalize (e0.map Ta.dec) = x0 at *
  generalize (Ta.dec e1) = x1 at *
  subst ox0
  obtain ⟨r, hr⟩ := Option.isSome_iff_exists.1 hs
  simp only [hr, Option.getD_some]
  have q := Lg (M := M) [] (gW.can x0 x1 r hr) (by simp) rfl (by intro k i hk; simp at hk)
  exact callOk_conv q trivial (by simp; exact ox1) (by simp [frameOut, gW.out]) (by simp [frameOut, gW.out])
 ·cases h

@[simp] def gB.out (_x0 : Tg) (_x1 : Ta) (r : Tg × List Ta × Int) : Out := { av := .tup [.agg [.lit (.int .i64 r.1.fk), .lit (.int .i64 r.1.fp), .lit (.bool r.1.fd), .lit (.int .i64 r.1.fg), .sl (r.1.fL.map Ta.enc) .no, .lit (.int .i64 r.1.fe)], .sl (r.2.1.map Ta.enc) .no, .lit (.int .i64 r.2.2)], M := none }
def gB.fin (x0 : Tg) (x1 : Ta) (r : Tg × List Ta × Int) (σ : St) : Prop := finK (gB.out x0 x1 r) [] σ.M (resA Tryz.ty σ.A σ.M Tryz.f28.results.toList)
theorem gB.can (x0 : Tg) (x1 : Ta) (r : Tg × List Ta × Int) (hr : gB x0 x1 = some r) : CallOk Tryz.prog 28 [.agg [.lit (.int .i64 x0.fk), .lit (.int .i64 x0.fp), .lit (.bool x0.fd), .lit (.int .i64 x0.fg), .sl (x0.fL.map Ta.enc) .no, .lit (.int .i64 x0.fe)], .agg [.lit (.int .i64 x1.fAt), .lit (.string x1.fU), .lit (.int .i64 x1.fO)]] [] (gB.out x0 x1 r) := by
 unfold gB at hr
 have hΓ := (gamL_cons gax.ok (gamL_cons gZ.ok (gamL_cons gW.ok (gamL_nil))) : GamOk Tryz.prog _)
 refine Le Tryz.tyOk Tryz.func28 rfl (by kernel_rfl) rfl rfl (by simp) ?_
 intro _ _ _
 refine AWp.then ⟨[⟨2, none, .ptr 0 0⟩, ⟨3, none, .ptr 1 0⟩, ⟨4, none, .ptr 2 0⟩], [.blk x0.enc, .blk x1.enc, .blk [.n 0, .n 0, .b false, .n 0, .sl [] .full, .n 0]]⟩ (AWp.reg Tryz.tyOk hΓ [2, 3, 4] [0, 1] (by kernel_rfl) rfl (by simp)) ?_
 refine AWp.meetF (fun (v1 : Tg) (γ1 : Unit) => ⟨[⟨2, none, .ptr 0 0⟩, ⟨3, none, .ptr 1 0⟩, ⟨4, none, .ptr 2 0⟩], [.blk v1.enc, .blk x1.enc, .blk [.n 0, .n 0, .b false, .n 0, .sl [] .full, .n 0]]⟩) (gB.fin x0 x1) hr (fun f hr => ?_) (fun v1 γ1 hr => ?_) (fun _ h => h)
 ·refine AWp.then ⟨[⟨15, none, .b (notB x0.fd)⟩, ⟨2, none, .ptr 0 0⟩, ⟨3, none, .ptr 1 0⟩, ⟨4, none, .ptr 2 0⟩], [.blk x0.enc, .blk x1.enc, .blk [.n 0, .n 0, .b false, .n 0, .sl [] .full, .n 0]]⟩ (AWp.reg Tryz.tyOk hΓ [15] [] (by kernel_rfl) rfl (by simp)) ?_
  refine AWp.cond (b := (notB x0.fd)) (by simp) (fun h11 => ?_) (fun h11 => ?_)
  ·have hr := Li h11 hr
   refine AWp.then ⟨[⟨2, none, .ptr 0 0⟩, ⟨3, none, .ptr 1 0⟩, ⟨4, none, .ptr 2 0⟩], [.blk [.n x0.fk, .n x0.fp, .b true, .n x0.fg, .sl (x0.fL.map Ta.enc) .no, .n x0.fe], .blk x1.enc, .blk [.n 0, .n 0, .b false, .n 0, .sl [] .full, .n 0]]⟩ (AWp.reg Tryz.tyOk hΓ [] [15] (by kernel_rfl) rfl (by simp [h11])) ?_
   refine AWp.last ⟨[⟨2, none, .ptr 0 0⟩, ⟨3, none, .ptr 1 0⟩, ⟨4, none, .ptr 2 0⟩], [.blk [.n x0.fk, .n x0.fp, .b true, .n x1.fAt, .sl (x0.fL.map Ta.enc) .no, .n x0.fe], .blk x1.enc, .blk [.n 0, .n 0, .b false, .n 0, .sl [] .full, .n 0]]⟩ (AWp.reg Tryz.tyOk hΓ [] [] (by kernel_rfl) rfl (by simp)) ?_
   obtain rfl := La hr
   exact Ll () 3 (by first | (simp; done) | simp [h11])
  ·have hr := Lj h11 hr
   refine AWp.skip ?_
   obtain rfl := La hr
   exact Ll () 3 (by first | (simp; done) | simp [h11])
 ·refine AWp.seq ?_
  refine AWp.then ⟨[⟨24, none, .b (ltI x1.fAt v1.fg)⟩, ⟨2, none, .ptr 0 0⟩, ⟨3, none, .ptr 1 0⟩, ⟨4, none, .ptr 2 0⟩], [.blk v1.enc, .blk x1.enc, .blk [.n 0, .n 0, .b false, .n 0, .sl [] .full, .n 0]]⟩ (AWp.reg Tryz.tyOk hΓ [24] [] (by kernel_rfl) rfl (by simp)) ?_
  refine AWp.cond (b := (ltI x1.fAt v1.fg)) (by simp) (fun h12 => ?_) (fun h12 => ?_)
  ·have hr := Li h12 hr
   refine AWp.then ⟨[⟨5, none, .sl [] .full⟩, ⟨6, none, .n 13⟩, ⟨4, none, .ptr 2 0⟩], [.blk v1.enc, .blk x1.enc, .blk v1.enc]⟩ (AWp.reg Tryz.tyOk hΓ [5, 6] [24, 2, 3] (by kernel_rfl) rfl (by simp [h12])) ?_
   refine AWp.ret ?_
   obtain rfl := La hr
   refine Lf ?_
   simp
  ·have hr := Lj h12 hr
   refine AWp.skip ?_
   refine AWp.seq ?_
   refine AWp.then ⟨[⟨27, none, .sl (v1.fL.map Ta.enc) .no⟩, ⟨28, none, .n (lenL v1.fL)⟩, ⟨29, none, .n 0⟩, ⟨2, none, .ptr 0 0⟩, ⟨3, none, .ptr 1 0⟩, ⟨4, none, .ptr 2 0⟩], [.blk v1.enc, .blk x1.enc, .blk [.n 0, .n 0, .b false, .n 0, .sl [] .full, .n 0]]⟩ (AWp.reg Tryz.tyOk hΓ [27, 28, 29] [24] (by kernel_rfl) rfl (by simp [h12])) ?_
   refine AWp.loopE (fun (s2 : Int) (γ2 : Unit) => ⟨[⟨27, none, .sl (v1.fL.map Ta.enc) .no⟩, ⟨28, none, .n (lenL v1.fL)⟩, ⟨29, none, .n s2⟩, ⟨2, none, .ptr 0 0⟩, ⟨3, none, .ptr 1 0⟩, ⟨4, none, .ptr 2 0⟩], [.blk v1.enc, .blk x1.enc, .blk [.n 0, .n 0, .b false, .n 0, .sl [] .full, .n 0]]⟩) (fun (v2 : Unit) (γ2a : Unit) => ⟨[⟨2, none, .ptr 0 0⟩, ⟨3, none, .ptr 1 0⟩, ⟨4, none, .ptr 2 0⟩], [.blk v1.enc, .blk x1.enc, .blk [.n 0, .n 0, .b false, .n 0, .sl [] .full, .n 0]]⟩) (gB.fin x0 x1) hr () 3 (by simp) (fun s2 f γ2 hr => ?_) (fun v2 γ2a σ1 m1 hr hc => ?_) (fun _ h => h)
   ·unfold gB.loop2 at hr
    refine AWp.then ⟨[⟨30, none, .b (ltI s2 (lenL v1.fL))⟩, ⟨27, none, .sl (v1.fL.map Ta.enc) .no⟩, ⟨28, none, .n (lenL v1.fL)⟩, ⟨29, none, .n s2⟩, ⟨2, none, .ptr 0 0⟩, ⟨3, none, .ptr 1 0⟩, ⟨4, none, .ptr 2 0⟩], [.blk v1.enc, .blk x1.enc, .blk [.n 0, .n 0, .b false, .n 0, .sl [] .full, .n 0]]⟩ (AWp.reg Tryz.tyOk hΓ [30] [] (by kernel_rfl) rfl (by simp)) ?_
    refine AWp.seq ?_
    refine AWp.cond (b := (ltI s2 (lenL v1.fL))) (by simp) (fun h13 => ?_) (fun h13 => ?_)
    ·have hr := Li h13 hr
     refine AWp.skip ?_
     refine AWp.seq ?_
     refine AWp.block ?_
     obtain ⟨h14, hr⟩ := Lc hr
     refine AWp.then ⟨[⟨8, none, .ptr 3 0⟩, ⟨27, none, .sl (v1.fL.map Ta.enc) .no⟩, ⟨28, none, .n (lenL v1.fL)⟩, ⟨29, none, .n s2⟩, ⟨2, none, .ptr 0 0⟩, ⟨3, none, .ptr 1 0⟩, ⟨4, none, .ptr 2 0⟩], [.blk v1.enc, .blk x1.enc, .blk [.n 0, .n 0, .b false, .n 0, .sl [] .full, .n 0], .blk (nthI v1.fL s2).enc]⟩ (AWp.reg Tryz.tyOk hΓ [8] [30] (by kernel_rfl) rfl (by simp [h13, h14])) ?_
     refine AWp.thenA [⟨37, none, .b (eqI ((nthI v1.fL s2).fAt) x1.fAt)⟩, ⟨27, none, .sl (v1.fL.map Ta.enc) .no⟩, ⟨28, none, .n (lenL v1.fL)⟩, ⟨29, none, .n s2⟩, ⟨2, none, .ptr 0 0⟩, ⟨3, none, .ptr 1 0⟩, ⟨4, none, .ptr 2 0⟩] (AWp.reg Tryz.tyOk hΓ [37] [8] (by kernel_rfl) rfl (by simp)) ?_
     refine AWp.cond (b := (eqI ((nthI v1.fL s2).fAt) x1.fAt)) (by simp) (fun h15 => ?_) (fun h15 => ?_)
     ·have hr := Li h15 hr
      refine AWp.then ⟨[⟨5, none, .sl [] .full⟩, ⟨6, none, .n 14⟩, ⟨4, none, .ptr 2 0⟩], [.blk v1.enc, .blk x1.enc, .blk v1.enc, .blk (nthI v1.fL s2).enc]⟩ (AWp.reg Tryz.tyOk hΓ [5, 6] [37, 27, 28, 29, 2, 3] (by kernel_rfl) rfl (by simp [h15])) ?_
      refine AWp.ret ?_
      obtain rfl := La hr
      refine round_ret ?_
      refine Lf ?_
      simp
     ·have hr := Lj h15 hr
      refine AWp.skip ?_
      refine AWp.last ⟨[⟨29, none, .n (addI .i64 s2 1)⟩, ⟨27, none, .sl (v1.fL.map Ta.enc) .no⟩, ⟨28, none, .n (lenL v1.fL)⟩, ⟨2, none, .ptr 0 0⟩, ⟨3, none, .ptr 1 0⟩, ⟨4, none, .ptr 2 0⟩], [.blk v1.enc, .blk x1.enc, .blk [.n 0, .n 0, .b false, .n 0, .sl [] .full, .n 0], .blk (nthI v1.fL s2).enc]⟩ (AWp.reg Tryz.tyOk hΓ [29] [37] (by kernel_rfl) rfl (by simp [h15])) ?_
      obtain rfl := La hr
      exact Lq () 3 (by first | (simp; done) | simp [h12, h13, h14, h15])
    ·have hr := Lj h13 hr
     refine AWp.exit ?_
     obtain rfl := La hr
     exact Lo () 3 (by first | (simp; done) | simp [h12, h13])
   ·refine AWp.conv hc ?_
    obtain ⟨r1, h16, hr⟩ := Lb hr
    refine AWp.then ⟨[⟨2, none, .ptr 0 0⟩, ⟨4, none, .ptr 2 0⟩], [.blk [.n v1.fk, .n v1.fp, .b v1.fd, .n v1.fg, .sl (r1.map Ta.enc) .no, .n v1.fe], .blk x1.enc, .blk [.n 0, .n 0, .b false, .n 0, .sl [] .full, .n 0]]⟩ (AWp.reg Tryz.tyOk hΓ [] [3] (by kernel_rfl) rfl (by simp [h16])) ?_
    obtain ⟨r2, h17, hr⟩ := Lb hr
    refine AWp.then ⟨[⟨9, none, .ptr 6 0⟩, ⟨10, none, .sl (r2.2.1.map Ta.enc) (.own 5 r2.2.2 3)⟩, ⟨4, none, .ptr 2 0⟩], [.blk [.n v1.fk, .n v1.fp, .b v1.fd, .n v1.fg, .sl (r1.map Ta.enc) .no, .n v1.fe], .blk x1.enc, .blk [.n 0, .n 0, .b false, .n 0, .sl [] .full, .n 0], .dead, .dead, .room r2.2.2, .blk r2.1.enc]⟩ (AWp.reg Tryz.tyOk hΓ [9, 10] [2] (by kernel_rfl) rfl (by simp [h17])) ?_
    refine AWp.loopB (fun (s3 : List Ta × Tg) (γ3 : Nat) => ⟨[⟨9, none, .ptr 6 0⟩, ⟨10, none, .sl (s3.1.map Ta.enc) (.own 5 (γ3) 3)⟩, ⟨4, none, .ptr 2 0⟩], [.blk [.n v1.fk, .n v1.fp, .b v1.fd, .n v1.fg, .sl (r1.map Ta.enc) .no, .n v1.fe], .blk x1.enc, .blk [.n 0, .n 0, .b false, .n 0, .sl [] .full, .n 0], .dead, .dead, .room (γ3), .blk s3.2.enc]⟩) (fun (v3 : List Ta × Tg) (γ3a : Nat) => ⟨[⟨9, none, .ptr 6 0⟩, ⟨10, none, .sl (v3.1.map Ta.enc) (.own 5 (γ3a) 3)⟩, ⟨4, none, .ptr 2 0⟩], [.blk [.n v1.fk, .n v1.fp, .b v1.fd, .n v1.fg, .sl (r1.map Ta.enc) .no, .n v1.fe], .blk x1.enc, .blk [.n 0, .n 0, .b false, .n 0, .sl [] .full, .n 0], .dead, .dead, .room (γ3a), .blk v3.2.enc]⟩) (gB.fin x0 x1) hr r2.2.2 7 (by simp) (fun s3 f γ3 hr => ?_) (fun v3 γ3a hr => ?_) (fun _ h => h)
    ·unfold gB.loop3 at hr
     refine AWp.seq ?_
     refine AWp.then ⟨[⟨55, none, .b (ltI s3.2.fk (lenL s3.2.fL))⟩, ⟨9, none, .ptr 6 0⟩, ⟨10, none, .sl (s3.1.map Ta.enc) (.own 5 (γ3) 3)⟩, ⟨4, none, .ptr 2 0⟩], [.blk [.n v1.fk, .n v1.fp, .b v1.fd, .n v1.fg, .sl (r1.map Ta.enc) .no, .n v1.fe], .blk x1.enc, .blk [.n 0, .n 0, .b false, .n 0, .sl [] .full, .n 0], .dead, .dead, .room (γ3), .blk s3.2.enc]⟩ (AWp.reg Tryz.tyOk hΓ [55] [] (by kernel_rfl) rfl (by simp)) ?_
     refine AWp.cond (b := (ltI s3.2.fk (lenL s3.2.fL))) (by simp) (fun h18 => ?_) (fun h18 => ?_)
     ·have hr := Li h18 hr
      refine AWp.skip ?_
      refine AWp.block ?_
      obtain ⟨r3, h19, hr⟩ := Lb hr
      refine AWp.then ⟨[⟨11, none, .ptr 12 0⟩, ⟨12, none, .sl (r3.2.1.map Ta.enc) (.own 11 r3.2.2 3)⟩, ⟨9, none, .ptr 6 0⟩, ⟨10, none, .sl (s3.1.map Ta.enc) (.own 5 (γ3) 3)⟩, ⟨4, none, .ptr 2 0⟩], [.blk [.n v1.fk, .n v1.fp, .b v1.fd, .n v1.fg, .sl (r1.map Ta.enc) .no, .n v1.fe], .blk x1.enc, .blk [.n 0, .n 0, .b false, .n 0, .sl [] .full, .n 0], .dead, .dead, .room (γ3), .blk s3.2.enc, .dead, .dead, .dead, .dead, .room r3.2.2, .blk r3.1.enc]⟩ (AWp.reg Tryz.tyOk hΓ [11, 12] [55] (by kernel_rfl) rfl (by simp [h18, h19])) ?_
      refine AWp.then ⟨[⟨12, none, .sl (r3.2.1.map Ta.enc) (.own 11 r3.2.2 3)⟩, ⟨9, none, .ptr 6 0⟩, ⟨10, none, .sl (s3.1.map Ta.enc) (.own 5 (γ3) 3)⟩, ⟨4, none, .ptr 2 0⟩], [.blk [.n v1.fk, .n v1.fp, .b v1.fd, .n v1.fg, .sl (r1.map Ta.enc) .no, .n v1.fe], .blk x1.enc, .blk [.n 0, .n 0, .b false, .n 0, .sl [] .full, .n 0], .dead, .dead, .room (γ3), .blk r3.1.enc, .dead, .dead, .dead, .dead, .room r3.2.2, .blk r3.1.enc]⟩ (AWp.reg Tryz.tyOk hΓ [] [11] (by kernel_rfl) rfl (by simp)) ?_
      obtain ⟨h20, hr⟩ := Lc hr
      refine AWp.last ⟨[⟨10, none, .sl ((appL s3.1 r3.2.1).map Ta.enc) (.own 5 (γ3 + 1) 3)⟩, ⟨9, none, .ptr 6 0⟩, ⟨4, none, .ptr 2 0⟩], [.blk [.n v1.fk, .n v1.fp, .b v1.fd, .n v1.fg, .sl (r1.map Ta.enc) .no, .n v1.fe], .blk x1.enc, .blk [.n 0, .n 0, .b false, .n 0, .sl [] .full, .n 0], .dead, .dead, .room (γ3 + 1), .blk r3.1.enc, .dead, .dead, .dead, .dead, .room r3.2.2, .blk r3.1.enc]⟩ (AWp.reg Tryz.tyOk hΓ [10] [12] (by kernel_rfl) rfl (by simp [h20])) ?_
      obtain rfl := La hr
      exact Lq (γ3 + 1) 7 (by first | (simp; done) | simp [h12, h16, h17, h18, h19, h20])
     ·have hr := Lj h18 hr
      refine AWp.exit ?_
      obtain rfl := La hr
      exact Lo (γ3) 7 (by first | (simp; done) | simp [h12, h16, h17, h18])
    ·refine AWp.then ⟨[⟨5, none, .sl (v3.1.map Ta.enc) (.own 5 (γ3a) 3)⟩, ⟨6, none, .n 0⟩, ⟨4, none, .ptr 2 0⟩], [.blk [.n v1.fk, .n v1.fp, .b v1.fd, .n v1.fg, .sl (r1.map Ta.enc) .no, .n v1.fe], .blk x1.enc, .blk v3.2.enc, .dead, .dead, .room (γ3a), .blk v3.2.enc]⟩ (AWp.reg Tryz.tyOk hΓ [5, 6] [9, 10] (by kernel_rfl) rfl (by simp)) ?_
     refine AWp.ret ?_
     obtain rfl := La hr
     refine Lf ?_
     simp

@[simp] noncomputable def gB.S : Sp
 | [.agg e0, .agg e1], _ => (fun (y0 : Tg) => (fun (y1 : Ta) => (fun (r : Tg × List Ta × Int) => some { av := .tup [.agg [.lit (.int .i64 (r.1.fk)), .lit (.int .i64 (r.1.fp)), .lit (.bool (r.1.fd)), .lit (.int .i64 (r.1.fg)), .sl ((r.1.fL).map Ta.enc) .no, .lit (.int .i64 (r.1.fe))], .sl ((r.2.1).map Ta.enc) .no, .lit (.int .i64 (r.2.2))], M := none, obl := WeakL e0 (Tg.enc y0) ∧ WeakL e1 (Ta.enc y1) ∧ (gB y0 y1).isSome = true }) ((gB y0 y1).getD dflt)) (Ta.dec e1)) (Tg.dec e0)
 | _, _ => none

theorem gB.ok : SpecOk Tryz.prog 28 gB.S := by
 intro l M out h
 unfold gB.S at h
 split at h
 ·rename_i e0 e1
  try dsimp only at h
  cases h
  refine callOk_of fun ho => ?_
  obtain ⟨ox0, ox1, hs⟩ := ho
  generalize (Tg.dec e0) = x0 at *
  generalize (Ta.dec e1) = x1 at *
  obtain ⟨r, hr⟩ := Option.isSome_iff_exists.1 hs
  simp only [hr, Option.getD_some]
  have q := Lg (M := M) [] (gB.can x0 x1 r hr) (by simp) rfl (by intro k i hk; simp at hk)
  exact callOk_conv q trivial (by simp; exact ⟨ox0, ox1⟩) (by simp [frameOut, gB.out]) (by simp [frameOut, gB.out])
 ·cases h

@[simp] def gag.out (_x0 : Tg) (_x1 : Int) (r : Tg × List Ta) : Out := { av := .tup [.agg [.lit (.int .i64 r.1.fk), .lit (.int .i64 r.1.fp), .lit (.bool r.1.fd), .lit (.int .i64 r.1.fg), .sl (r.1.fL.map Ta.enc) .no, .lit (.int .i64 r.1.fe)], .sl (r.2.map Ta.enc) .no], M := none }
def gag.fin (x0 : Tg) (x1 : Int) (r : Tg × List Ta) (σ : St) : Prop := finK (gag.out x0 x1 r) [] σ.M (resA Tryz.ty σ.A σ.M Tryz.f32.results.toList)
theorem gag.can (x0 : Tg) (x1 : Int) (r : Tg × List Ta) (hr : gag x0 x1 = some r) : CallOk Tryz.prog 32 [.agg [.lit (.int .i64 x0.fk), .lit (.int .i64 x0.fp), .lit (.bool x0.fd), .lit (.int .i64 x0.fg), .sl (x0.fL.map Ta.enc) .no, .lit (.int .i64 x0.fe)], .lit (.int .i64 x1)] [] (gag.out x0 x1 r) := by
 unfold gag at hr
 have hΓ := (gamL_cons gax.ok (gamL_nil) : GamOk Tryz.prog _)
 refine Le Tryz.tyOk Tryz.func32 rfl (by kernel_rfl) rfl rfl (by simp) ?_
 intro _ _ _
 refine AWp.then ⟨[⟨2, none, .ptr 0 0⟩, ⟨4, none, .ptr 1 0⟩, ⟨1, none, .n x1⟩], [.blk x0.enc, .blk [.n 0, .n 0, .b false, .n 0, .sl [] .full, .n 0]]⟩ (AWp.reg Tryz.tyOk hΓ [2, 4] [0] (by kernel_rfl) rfl (by simp)) ?_
 refine AWp.thenA [⟨6, none, .sl [] .full⟩, ⟨2, none, .ptr 0 0⟩, ⟨4, none, .ptr 1 0⟩, ⟨1, none, .n x1⟩] (AWp.reg Tryz.tyOk hΓ [6] [] (by kernel_rfl) rfl (by simp)) ?_
 refine AWp.equip 6 3 (els := []) (by simp) (by simp) ?_
 refine AWp.loopB (fun (s1 : List Ta × Tg) (γ1 : Nat) => ⟨[⟨6, none, .sl (s1.1.map Ta.enc) (.own 2 (γ1) 3)⟩, ⟨2, none, .ptr 0 0⟩, ⟨4, none, .ptr 1 0⟩, ⟨1, none, .n x1⟩], [.blk s1.2.enc, .blk [.n 0, .n 0, .b false, .n 0, .sl [] .full, .n 0], .room (γ1)]⟩) (fun (v1 : List Ta × Tg) (γ1a : Nat) => ⟨[⟨6, none, .sl (v1.1.map Ta.enc) (.own 2 (γ1a) 3)⟩, ⟨2, none, .ptr 0 0⟩, ⟨4, none, .ptr 1 0⟩], [.blk v1.2.enc, .blk [.n 0, .n 0, .b false, .n 0, .sl [] .full, .n 0], .room (γ1a)]⟩) (gag.fin x0 x1) hr 0 3 (by simp) (fun s1 f γ1 hr => ?_) (fun v1 γ1a hr => ?_) (fun _ h => h)
 ·unfold gag.loop1 at hr
  refine AWp.seq ?_
  obtain ⟨h5, hr⟩ := Lc hr
  refine AWp.then ⟨[⟨25, none, .b (pickB (ltI 0 (lenL s1.2.fL)) (leqI s1.2.fp (subI .i64 x1 ((nthI s1.2.fL 0).fO))) false)⟩, ⟨6, none, .sl (s1.1.map Ta.enc) (.own 2 (γ1) 3)⟩, ⟨2, none, .ptr 0 0⟩, ⟨4, none, .ptr 1 0⟩, ⟨1, none, .n x1⟩], [.blk s1.2.enc, .blk [.n 0, .n 0, .b false, .n 0, .sl [] .full, .n 0], .room (γ1)]⟩ (AWp.regD Tryz.mixed Tryz.tyOk hΓ [25] [] [] [(false, []), (false, []), (false, []), (false, []), (false, []), (false, [14]), (false, [14]), (false, [14]), (false, [14]), (false, [14]), (false, [14]), (false, [14]), (false, [14]), (false, [14]), (false, [14]), (false, [])] (by kernel_rfl) rfl (by simp [h5])) ?_
  refine AWp.cond (b := (pickB (ltI 0 (lenL s1.2.fL)) (leqI s1.2.fp (subI .i64 x1 ((nthI s1.2.fL 0).fO))) false)) (by simp) (fun h6 => ?_) (fun h6 => ?_)
  ·have hr := Li h6 hr
   refine AWp.skip ?_
   refine AWp.block ?_
   obtain ⟨r1, h7, hr⟩ := Lb hr
   refine AWp.then ⟨[⟨7, none, .ptr 8 0⟩, ⟨8, none, .sl (r1.2.1.map Ta.enc) (.own 7 r1.2.2 3)⟩, ⟨6, none, .sl (s1.1.map Ta.enc) (.own 2 (γ1) 3)⟩, ⟨2, none, .ptr 0 0⟩, ⟨4, none, .ptr 1 0⟩, ⟨1, none, .n x1⟩], [.blk s1.2.enc, .blk [.n 0, .n 0, .b false, .n 0, .sl [] .full, .n 0], .room (γ1), .dead, .dead, .dead, .dead, .room r1.2.2, .blk r1.1.enc]⟩ (AWp.reg Tryz.tyOk hΓ [7, 8] [25] (by kernel_rfl) rfl (by simp [h6, h7])) ?_
   refine AWp.then ⟨[⟨8, none, .sl (r1.2.1.map Ta.enc) (.own 7 r1.2.2 3)⟩, ⟨6, none, .sl (s1.1.map Ta.enc) (.own 2 (γ1) 3)⟩, ⟨2, none, .ptr 0 0⟩, ⟨4, none, .ptr 1 0⟩, ⟨1, none, .n x1⟩], [.blk r1.1.enc, .blk [.n 0, .n 0, .b false, .n 0, .sl [] .full, .n 0], .room (γ1), .dead, .dead, .dead, .dead, .room r1.2.2, .blk r1.1.enc]⟩ (AWp.reg Tryz.tyOk hΓ [] [7] (by kernel_rfl) rfl (by simp)) ?_
   obtain ⟨h8, hr⟩ := Lc hr
   refine AWp.last ⟨[⟨6, none, .sl ((appL s1.1 r1.2.1).map Ta.enc) (.own 2 (γ1 + 1) 3)⟩, ⟨2, none, .ptr 0 0⟩, ⟨4, none, .ptr 1 0⟩, ⟨1, none, .n x1⟩], [.blk r1.1.enc, .blk [.n 0, .n 0, .b false, .n 0, .sl [] .full, .n 0], .room (γ1 + 1), .dead, .dead, .dead, .dead, .room r1.2.2, .blk r1.1.enc]⟩ (AWp.reg Tryz.tyOk hΓ [6] [8] (by kernel_rfl) rfl (by simp [h8])) ?_
   obtain rfl := La hr
   exact Lq (γ1 + 1) 3 (by first | (simp; done) | simp [h5, h6, h7, h8])
  ·have hr := Lj h6 hr
   refine AWp.exit ?_
   obtain rfl := La hr
   exact Lo (γ1) 3 (by first | (simp; done) | simp [h5, h6])
 ·refine AWp.then ⟨[⟨5, none, .sl (v1.1.map Ta.enc) (.own 2 (γ1a) 3)⟩, ⟨4, none, .ptr 1 0⟩], [.blk v1.2.enc, .blk v1.2.enc, .room (γ1a)]⟩ (AWp.reg Tryz.tyOk hΓ [5] [6, 2] (by kernel_rfl) rfl (by simp)) ?_
  refine AWp.ret ?_
  obtain rfl := La hr
  refine Lf ?_
  simp

@[simp] noncomputable def gag.S : Sp
 | [.agg e0, .lit (.int .i64 x1)], _ => (fun (y0 : Tg) => (fun (r : Tg × List Ta) => some { av := .tup [.agg [.lit (.int .i64 (r.1.fk)), .lit (.int .i64 (r.1.fp)), .lit (.bool (r.1.fd)), .lit (.int .i64 (r.1.fg)), .sl ((r.1.fL).map Ta.enc) .no, .lit (.int .i64 (r.1.fe))], .sl ((r.2).map Ta.enc) .no], M := none, obl := WeakL e0 (Tg.enc y0) ∧ (gag y0 x1).isSome = true }) ((gag y0 x1).getD dflt)) (Tg.dec e0)
 | _, _ => none

theorem gag.ok : SpecOk Tryz.prog 32 gag.S := by
 intro l M out h
 unfold gag.S at h
 split at h
 ·rename_i e0 x1
  try dsimp only at h
  cases h
  refine callOk_of fun ho => ?_
  obtain ⟨ox0, hs⟩ := ho
  generalize (Tg.dec e0) = x0 at *
  obtain ⟨r, hr⟩ := Option.isSome_iff_exists.1 hs
  simp only [hr, Option.getD_some]
  have q := Lg (M := M) [] (gag.can x0 x1 r hr) (by simp) rfl (by intro k i hk; simp at hk)
  exact callOk_conv q trivial (by simp; exact ox0) (by simp [frameOut, gag.out]) (by simp [frameOut, gag.out])
 ·cases h

@[simp] def gh.out (_x0 : Tg) (_x1 : Int) (r : List Int) : Out := { av := .sl (r.map (eNum .i64)) .no, M := none }
def gh.fin (x0 : Tg) (x1 : Int) (r : List Int) (σ : St) : Prop := finK (gh.out x0 x1 r) [] σ.M (resA Tryz.ty σ.A σ.M Tryz.f16.results.toList)
theorem gh.can (x0 : Tg) (x1 : Int) (r : List Int) (hr : gh x0 x1 = some r) : CallOk Tryz.prog 16 [.agg [.lit (.int .i64 x0.fk), .lit (.int .i64 x0.fp), .lit (.bool x0.fd), .lit (.int .i64 x0.fg), .sl (x0.fL.map Ta.enc) .no, .lit (.int .i64 x0.fe)], .lit (.int .i64 x1)] [] (gh.out x0 x1 r) := by
 unfold gh at hr
 have hΓ := gamL_nil (P := Tryz.prog)
 refine Le Tryz.tyOk Tryz.func16 rfl (by kernel_rfl) rfl rfl (by simp) ?_
 intro _ _ _
 refine AWp.then ⟨[⟨2, none, .ptr 0 0⟩, ⟨1, none, .n x1⟩], [.blk x0.enc]⟩ (AWp.reg Tryz.tyOk hΓ [2] [0] (by kernel_rfl) rfl (by simp)) ?_
 refine AWp.thenA [⟨5, none, .sl [] .full⟩, ⟨2, none, .ptr 0 0⟩, ⟨1, none, .n x1⟩] (AWp.reg Tryz.tyOk hΓ [5] [] (by kernel_rfl) rfl (by simp)) ?_
 refine AWp.thenA [⟨6, none, .n x0.fg⟩, ⟨5, none, .sl [] .full⟩, ⟨2, none, .ptr 0 0⟩, ⟨1, none, .n x1⟩] (AWp.reg Tryz.tyOk hΓ [6] [] (by kernel_rfl) rfl (by simp)) ?_
 refine AWp.seq ?_
 refine AWp.then ⟨[⟨13, none, .sl (x0.fL.map Ta.enc) .no⟩, ⟨14, none, .n (lenL x0.fL)⟩, ⟨15, none, .n 0⟩, ⟨6, none, .n x0.fg⟩, ⟨5, none, .sl [] .full⟩, ⟨1, none, .n x1⟩], [.blk x0.enc]⟩ (AWp.reg Tryz.tyOk hΓ [13, 14, 15] [2] (by kernel_rfl) rfl (by simp)) ?_
 refine AWp.equip 5 1 (els := []) (by simp) (by simp) ?_
 refine AWp.loopE (fun (s1 : Int × Int × List Int) (γ1 : Nat) => ⟨[⟨13, none, .sl (x0.fL.map Ta.enc) .no⟩, ⟨14, none, .n (lenL x0.fL)⟩, ⟨15, none, .n s1.1⟩, ⟨6, none, .n s1.2.1⟩, ⟨5, none, .sl (s1.2.2.map (eNum .i64)) (.own 1 (γ1) 1)⟩, ⟨1, none, .n x1⟩], [.blk x0.enc, .room (γ1)]⟩) (fun (v1 : List Int) (γ1a : Nat) => ⟨[⟨5, none, .sl (v1.map (eNum .i64)) (.own 1 (γ1a) 1)⟩], [.blk x0.enc, .room (γ1a)]⟩) (gh.fin x0 x1) hr 0 2 (by simp) (fun s1 f γ1 hr => ?_) (fun v1 γ1a σ1 m1 hr hc => ?_) (fun _ h => h)
 ·unfold gh.loop1 at hr
  refine AWp.then ⟨[⟨16, none, .b (ltI s1.1 (lenL x0.fL))⟩, ⟨13, none, .sl (x0.fL.map Ta.enc) .no⟩, ⟨14, none, .n (lenL x0.fL)⟩, ⟨15, none, .n s1.1⟩, ⟨6, none, .n s1.2.1⟩, ⟨5, none, .sl (s1.2.2.map (eNum .i64)) (.own 1 (γ1) 1)⟩, ⟨1, none, .n x1⟩], [.blk x0.enc, .room (γ1)]⟩ (AWp.reg Tryz.tyOk hΓ [16] [] (by kernel_rfl) rfl (by simp)) ?_
  refine AWp.seq ?_
  refine AWp.cond (b := (ltI s1.1 (lenL x0.fL))) (by simp) (fun h5 => ?_) (fun h5 => ?_)
  ·have hr := Li h5 hr
   refine AWp.skip ?_
   refine AWp.seq ?_
   refine AWp.block ?_
   obtain ⟨h6, hr⟩ := Lc hr
   refine AWp.then ⟨[⟨8, none, .ptr 2 0⟩, ⟨13, none, .sl (x0.fL.map Ta.enc) .no⟩, ⟨14, none, .n (lenL x0.fL)⟩, ⟨15, none, .n s1.1⟩, ⟨6, none, .n s1.2.1⟩, ⟨5, none, .sl (s1.2.2.map (eNum .i64)) (.own 1 (γ1) 1)⟩, ⟨1, none, .n x1⟩], [.blk x0.enc, .room (γ1), .blk (nthI x0.fL s1.1).enc]⟩ (AWp.reg Tryz.tyOk hΓ [8] [16] (by kernel_rfl) rfl (by simp [h5, h6])) ?_
   refine AWp.loopB (fun (s2 : Int × List Int) (γ2 : Nat) => ⟨[⟨8, none, .ptr 2 0⟩, ⟨13, none, .sl (x0.fL.map Ta.enc) .no⟩, ⟨14, none, .n (lenL x0.fL)⟩, ⟨15, none, .n s1.1⟩, ⟨6, none, .n s2.1⟩, ⟨5, none, .sl (s2.2.map (eNum .i64)) (.own 1 (γ2) 1)⟩, ⟨1, none, .n x1⟩], [.blk x0.enc, .room (γ2), .blk (nthI x0.fL s1.1).enc]⟩) (fun (v2 : List Int) (γ2a : Nat) => ⟨[⟨8, none, .ptr 2 0⟩, ⟨13, none, .sl (x0.fL.map Ta.enc) .no⟩, ⟨14, none, .n (lenL x0.fL)⟩, ⟨15, none, .n s1.1⟩, ⟨5, none, .sl (v2.map (eNum .i64)) (.own 1 (γ2a) 1)⟩, ⟨1, none, .n x1⟩], [.blk x0.enc, .room (γ2a), .blk (nthI x0.fL s1.1).enc]⟩) (QRr (gh.fin x0 x1)) hr (γ1) 3 (by simp) (fun s2 f γ2 hr => ?_) (fun v2 γ2a hr => ?_) (fun _ h => QRr_ret h)
   ·unfold gh.loop2 at hr
    refine AWp.seq ?_
    refine AWp.then ⟨[⟨28, none, .b (pickB (ltI s2.1 ((nthI x0.fL s1.1).fAt)) (ltI (lenL s2.2) x1) false)⟩, ⟨8, none, .ptr 2 0⟩, ⟨13, none, .sl (x0.fL.map Ta.enc) .no⟩, ⟨14, none, .n (lenL x0.fL)⟩, ⟨15, none, .n s1.1⟩, ⟨6, none, .n s2.1⟩, ⟨5, none, .sl (s2.2.map (eNum .i64)) (.own 1 (γ2) 1)⟩, ⟨1, none, .n x1⟩], [.blk x0.enc, .room (γ2), .blk (nthI x0.fL s1.1).enc]⟩ (AWp.reg Tryz.tyOk hΓ [28] [] (by kernel_rfl) rfl (by simp)) ?_
    refine AWp.cond (b := (pickB (ltI s2.1 ((nthI x0.fL s1.1).fAt)) (ltI (lenL s2.2) x1) false)) (by simp) (fun h7 => ?_) (fun h7 => ?_)
    ·have hr := Li h7 hr
     refine AWp.skip ?_
     refine AWp.block ?_
     obtain ⟨h8, hr⟩ := Lc hr
     refine AWp.then ⟨[⟨5, none, .sl ((appL s2.2 [s2.1]).map (eNum .i64)) (.own 1 (γ2 + 1) 1)⟩, ⟨8, none, .ptr 2 0⟩, ⟨13, none, .sl (x0.fL.map Ta.enc) .no⟩, ⟨14, none, .n (lenL x0.fL)⟩, ⟨15, none, .n s1.1⟩, ⟨6, none, .n s2.1⟩, ⟨1, none, .n x1⟩], [.blk x0.enc, .room (γ2 + 1), .blk (nthI x0.fL s1.1).enc]⟩ (AWp.reg Tryz.tyOk hΓ [5] [28] (by kernel_rfl) rfl (by simp [h7, h8])) ?_
     refine AWp.last ⟨[⟨6, none, .n (addI .i64 s2.1 1)⟩, ⟨5, none, .sl ((appL s2.2 [s2.1]).map (eNum .i64)) (.own 1 (γ2 + 1) 1)⟩, ⟨8, none, .ptr 2 0⟩, ⟨13, none, .sl (x0.fL.map Ta.enc) .no⟩, ⟨14, none, .n (lenL x0.fL)⟩, ⟨15, none, .n s1.1⟩, ⟨1, none, .n x1⟩], [.blk x0.enc, .room (γ2 + 1), .blk (nthI x0.fL s1.1).enc]⟩ (AWp.reg Tryz.tyOk hΓ [6] [] (by kernel_rfl) rfl (by simp)) ?_
     obtain rfl := La hr
     exact Lq (γ2 + 1) 3 (by first | (simp; done) | simp [h5, h6, h7, h8])
    ·have hr := Lj h7 hr
     refine AWp.exit ?_
     obtain rfl := La hr
     exact Lo (γ2) 3 (by first | (simp; done) | simp [h5, h6, h7])
   ·refine AWp.last ⟨[⟨6, none, .n (addI .i64 ((nthI x0.fL s1.1).fAt) 1)⟩, ⟨13, none, .sl (x0.fL.map Ta.enc) .no⟩, ⟨14, none, .n (lenL x0.fL)⟩, ⟨15, none, .n s1.1⟩, ⟨5, none, .sl (v2.map (eNum .i64)) (.own 1 (γ2a) 1)⟩, ⟨1, none, .n x1⟩], [.blk x0.enc, .room (γ2a), .blk (nthI x0.fL s1.1).enc]⟩ (AWp.reg Tryz.tyOk hΓ [6] [8] (by kernel_rfl) rfl (by simp)) ?_
    refine AWp.last ⟨[⟨15, none, .n (addI .i64 s1.1 1)⟩, ⟨6, none, .n (addI .i64 ((nthI x0.fL s1.1).fAt) 1)⟩, ⟨13, none, .sl (x0.fL.map Ta.enc) .no⟩, ⟨14, none, .n (lenL x0.fL)⟩, ⟨5, none, .sl (v2.map (eNum .i64)) (.own 1 (γ2a) 1)⟩, ⟨1, none, .n x1⟩], [.blk x0.enc, .room (γ2a), .blk (nthI x0.fL s1.1).enc]⟩ (AWp.reg Tryz.tyOk hΓ [15] [] (by kernel_rfl) rfl (by simp)) ?_
    obtain rfl := La hr
    exact Lq (γ2a) 2 (by first | (simp; done) | simp [h5, h6])
  ·have hr := Lj h5 hr
   refine AWp.exit ?_
   obtain rfl := La hr
   exact Lo (γ1) 2 (by first | (simp; done) | simp [h5])
 ·refine AWp.conv hc ?_
  refine AWp.then ⟨[⟨4, none, .sl (v1.map (eNum .i64)) (.own 1 (γ1a) 1)⟩], [.blk x0.enc, .room (γ1a)]⟩ (AWp.reg Tryz.tyOk hΓ [4] [5] (by kernel_rfl) rfl (by simp)) ?_
  refine AWp.ret ?_
  obtain rfl := La hr
  refine Lf ?_
  simp

@[simp] noncomputable def gh.S : Sp
 | [.agg e0, .lit (.int .i64 x1)], _ => some { av := .sl (((gh (Tg.dec e0) x1).getD dflt).map (eNum .i64)) .no, M := none, obl := WeakL e0 (Tg.enc (Tg.dec e0)) ∧ (gh (Tg.dec e0) x1).isSome = true }
 | _, _ => none

theorem gh.ok : SpecOk Tryz.prog 16 gh.S := by
 intro l M out h
 unfold gh.S at h
 split at h
 ·rename_i e0 x1
  cases h
  refine callOk_of fun ho => ?_
  obtain ⟨ox0, hs⟩ := ho
  generalize (Tg.dec e0) = x0 at *
  obtain ⟨r, hr⟩ := Option.isSome_iff_exists.1 hs
  simp only [hr, Option.getD_some]
  have q := Lg (M := M) [] (gh.can x0 x1 r hr) (by simp) rfl (by intro k i hk; simp at hk)
  exact callOk_conv q trivial (by simp; exact ox0) (by simp [frameOut, gh.out]) (by simp [frameOut, gh.out])
 ·cases h
end Go.Proofs

/- That these functions compute what their plain functions do. No condition. -/
import Derived.Test.YtnoeflijefijcaaM04
import Derived.Test.YtnoeflijefijcaaTy
import Derived.Test.YtnoeflijefijcaaEa
import Derived.Test.YtnoeflijefijcaaEd
import Derived.Test.YtnoeflijefijcaaQr
set_option maxRecDepth 100000
set_option maxHeartbeats 4000000
namespace Go.Proofs
open Go.Ab
@[simp] def gQ.out (_x0 : Int) (_x1 : Int) (r : Tl) : Out := { av := .agg [.lit (.int .i64 r.fh), .lit (.int .i64 r.fo), .lit (.int .i64 r.fu), .lit (.int .i64 r.fb), .lit (.int .i64 r.fp)], M := none }
theorem gQ.can (x0 : Int) (x1 : Int) (r : Tl) (hr : gQ x0 x1 = some r) : CallOk Try.prog 14 [.lit (.int .i64 x0), .lit (.int .i64 x1)] [] (gQ.out x0 x1 r) := by
 unfold gQ at hr
 have hΓ := gamL_nil (P := Try.prog)
 refine Lg Try.tyOk Try.func14 rfl (by kernel_rfl) rfl rfl (by simp) ?_
 intro _ _ _
 refine Try.tg hΓ [4] [] (by kernel_rfl) rfl (by simp; exact rr) ?_
 obtain ⟨h4, hr⟩ := Lb hr
 obtain ⟨h5, hr⟩ := Lb hr
 obtain ⟨h6, hr⟩ := Lb hr
 refine Try.tg hΓ [] [0, 1] (by kernel_rfl) rfl (by simp [h4, h5, h6]; exact rr) ?_
 refine AWp.ret ?_
 obtain rfl := La hr
 refine Lf ?_
 simp

@[simp] noncomputable def gQ.S : Sp
 | [.lit (.int .i64 x0), .lit (.int .i64 x1)], _ => some { av := .agg [.lit (.int .i64 (((gQ x0 x1).getD dflt).fh)), .lit (.int .i64 (((gQ x0 x1).getD dflt).fo)), .lit (.int .i64 (((gQ x0 x1).getD dflt).fu)), .lit (.int .i64 (((gQ x0 x1).getD dflt).fb)), .lit (.int .i64 (((gQ x0 x1).getD dflt).fp))], M := none, obl := (gQ x0 x1).isSome = true }
 | _, _ => none

theorem gQ.ok : SpecOk Try.prog 14 gQ.S := by
 intro l M out h
 unfold gQ.S at h
 split at h
 ·rename_i x0 x1
  cases h
  refine callOk_of fun ho => ?_
  have hs := ho
  obtain ⟨r, hr⟩ := Option.isSome_iff_exists.1 hs
  simp only [hr, Option.getD_some]
  have q := Lk (M := M) [] (gQ.can x0 x1 r hr) (by simp) rfl (by intro k i hk; simp at hk)
  exact callOk_conv q trivial (by simp) (by simp [frameOut, gQ.out]) (by simp [frameOut, gQ.out])
 ·cases h

@[simp] def gE.out  (r : Bool) : Out := { av := .lit (.bool r), M := none }
def gE.fin  (r : Bool) (σ : St) : Prop := finK (gE.out  r) [] σ.M (resA Try.ty σ.A σ.M Try.f9.results.toList)
theorem gE.can  (r : Bool) (hr : gE = some r) : CallOk Try.prog 9 [] [] (gE.out  r) := by
 unfold gE at hr
 have hΓ := (gamL_cons gN.ok (gamL_cons gp.ok (gamL_cons gT.ok (gamL_cons gI.ok (gamL_cons gt.ok (gamL_cons gar.ok (gamL_nil)))))) : GamOk Try.prog _)
 refine Lg Try.tyOk Try.func9 rfl (by kernel_rfl) rfl rfl (by simp) ?_
 intro _ _ _
 refine Try.tg hΓ [] [] (by kernel_rfl) rfl (by simp; exact rr) ?_
 obtain ⟨r1, h19, hr⟩ := Lc hr
 cases h20 : r1.1 with
 | none =>
  have hr := optC_n h20 hr
  refine Try.tg hΓ [1, 2] [] (by kernel_rfl) rfl (by simp [h19, h20]; exact rr) ?_
  refine AWp.seq ?_
  cases h21 : (pickB (neI r1.2 0) true true) with
  | true =>
   have hr := Li h21 hr
   refine AWp.thn (AWp.regG Try.tyOk hΓ [(16, true), (21, true)] (keep := [25]) (dead := [2]) (by kernel_rfl) rfl (by simp [h21]; exact rr)) ?_
   refine AWp.cond (b := true) (by simp) (fun hb => ?_) (fun hb => ?_)
   ·refine Try.tg hΓ [0] [25, 1] (by kernel_rfl) rfl (by simp; exact rr) ?_
    refine AWp.ret ?_
    obtain rfl := La hr
    refine Lf ?_
    simp
   ·cases hb
  | false =>
   have hr := Lj h21 hr
   cases hr
 | some o1 =>
  have hr := optC_s h20 hr
  refine Try.tg hΓ [1, 2] [] (by kernel_rfl) rfl (by simp [h19, h20]; exact rr) ?_
  refine AWp.seq ?_
  cases h22 : (pickB (neI r1.2 0) true false) with
  | true =>
   have hr := Li h22 hr
   refine AWp.thn (AWp.regG Try.tyOk hΓ [(16, true), (21, true)] (keep := [25]) (dead := [2]) (by kernel_rfl) rfl (by simp [h22]; exact rr)) ?_
   refine AWp.cond (b := true) (by simp) (fun hb => ?_) (fun hb => ?_)
   ·refine Try.tg hΓ [0] [25, 1] (by kernel_rfl) rfl (by simp; exact rr) ?_
    refine AWp.ret ?_
    obtain rfl := La hr
    refine Lf ?_
    simp
   ·cases hb
  | false =>
   have hr := Lj h22 hr
   obtain ⟨r2, h23, hr⟩ := Lc hr
   cases h24 : (neI r2.1 0) with
   | true =>
    have hr := Li h24 hr
    refine AWp.thn (AWp.regG Try.tyOk hΓ [(16, false), (21, true)] (keep := [25]) (dead := [2]) (by kernel_rfl) rfl (by simp [h22, h23, h24]; exact rr)) ?_
    refine AWp.cond (b := true) (by simp) (fun hb => ?_) (fun hb => ?_)
    ·refine Try.tg hΓ [0] [25, 1] (by kernel_rfl) rfl (by simp; exact rr) ?_
     refine AWp.ret ?_
     obtain rfl := La hr
     refine Lf ?_
     simp
    ·cases hb
   | false =>
    have hr := Lj h24 hr
    obtain ⟨r3, h25, hr⟩ := Lc hr
    refine AWp.thn (AWp.regG Try.tyOk hΓ [(16, false), (21, false)] (keep := [25]) (dead := [2]) (by kernel_rfl) rfl (by simp [h22, h23, h24, h25]; exact rr)) ?_
    refine AWp.cond (b := (neI r3.1 0)) (by simp) (fun h26 => ?_) (fun h26 => ?_)
    ·have hr := Li h26 hr
     refine Try.tg hΓ [0] [25, 1] (by kernel_rfl) rfl (by simp [h26]; exact rr) ?_
     refine AWp.ret ?_
     obtain rfl := La hr
     refine Lf ?_
     simp
    ·have hr := Lj h26 hr
     refine AWp.skip ?_
     refine AWp.seq ?_
     refine Try.tg hΓ [26] [25] (by kernel_rfl) rfl (by simp [h26]; exact rr) ?_
     refine AWp.loopE (fun (s1 : Int × (List (Int × Int)) × (List (Int × Int)) × Int × Int × Bool × (List (Int × Td)) × Tl × Int × Int) (γ1 : Unit) => ⟨[⟨26, none, .n s1.1⟩, ⟨1, none, .ptr 5 0⟩], [.dead, .mapo (encM (kI .i64) (kI .i64) s1.2.1), .mapo (encM (kI .i64) (kI .i64) s1.2.2.1), .blk [.n s1.2.2.2.1, .mp 1, .mp 2, .n s1.2.2.2.2.1, .b s1.2.2.2.2.2.1], .own (Td.own .i64 s1.2.2.2.2.2.2.1 none) none, .blk (s1.2.2.2.2.2.2.2.1.enc ++ [.mp 4, .ptr 3 0, .n s1.2.2.2.2.2.2.2.2.1, .n s1.2.2.2.2.2.2.2.2.2])]⟩) (fun (v1 : (List (Int × Int)) × (List (Int × Int)) × Int × Int × Bool × (List (Int × Td)) × Tl × Int × Int) (γ1a : Unit) => ⟨[⟨1, none, .ptr 5 0⟩], [.dead, .mapo (encM (kI .i64) (kI .i64) v1.1), .mapo (encM (kI .i64) (kI .i64) v1.2.1), .blk [.n v1.2.2.1, .mp 1, .mp 2, .n v1.2.2.2.1, .b v1.2.2.2.2.1], .own (Td.own .i64 v1.2.2.2.2.2.1 none) none, .blk (v1.2.2.2.2.2.2.1.enc ++ [.mp 4, .ptr 3 0, .n v1.2.2.2.2.2.2.2.1, .n v1.2.2.2.2.2.2.2.2])]⟩) gE.fin hr () 6 (by simp) (fun s1 f γ1 hr => ?_) (fun v1 γ1a σ1 m1 hr hc => ?_) (fun _ h => h)
     ·unfold gE.loop1 at hr
      refine Try.tg hΓ [27] [] (by kernel_rfl) rfl (by simp; exact rr) ?_
      refine AWp.seq ?_
      refine AWp.cond (b := (ltI s1.1 3)) (by simp) (fun h27 => ?_) (fun h27 => ?_)
      ·have hr := Li h27 hr
       refine AWp.skip ?_
       refine AWp.seq ?_
       refine AWp.block ?_
       refine Try.tg hΓ [3] [27] (by kernel_rfl) rfl (by simp [h27]; exact rr) ?_
       obtain ⟨r4, h28, hr⟩ := Lc hr
       refine AWp.lst (AWp.reg Try.tyOk hΓ [] [3] (by kernel_rfl) rfl (by simp [h28]; exact rr)) ?_
       refine AWp.lst (AWp.reg Try.tyOk hΓ [26] [] (by kernel_rfl) rfl (by simp; exact rr)) ?_
       obtain rfl := La hr
       exact Lm () 6 (by first | (simp; done) | simp [h19, h20, h22, h23, h24, h25, h26, h27, h28])
      ·have hr := Lj h27 hr
       refine AWp.exit ?_
       obtain rfl := La hr
       exact Lp () 6 (by first | (simp; done) | simp [h19, h20, h22, h23, h24, h25, h26, h27])
     ·refine AWp.conv hc ?_
      obtain ⟨r5, h29, hr⟩ := Lc hr
      refine Try.tg hΓ [] [] (by kernel_rfl) rfl (by simp [h29]; exact rr) ?_
      obtain ⟨r6, h30, hr⟩ := Lc hr
      refine Try.tg hΓ [] [] (by kernel_rfl) rfl (by simp [h30]; exact rr) ?_
      obtain ⟨r7, h31, hr⟩ := Lc hr
      refine Try.tg hΓ [4] [] (by kernel_rfl) rfl (by simp [h31]; exact rr) ?_
      obtain ⟨h32, hr⟩ := Lb hr
      obtain ⟨h33, hr⟩ := Lb hr
      obtain ⟨h34, hr⟩ := Lb hr
      obtain ⟨h35, hr⟩ := Lb hr
      obtain ⟨h36, hr⟩ := Lb hr
      refine Try.tg hΓ [0] [4, 1] (by kernel_rfl) rfl (by simp [h32, h33, h34, h35, h36]; exact rr) ?_
      refine AWp.ret ?_
      obtain rfl := La hr
      refine Lf ?_
      simp

@[simp] noncomputable def gE.S : Sp
 | [], _ => some { av := .lit (.bool (gE.getD dflt)), M := none, obl := gE.isSome = true }
 | _, _ => none

theorem gE.ok : SpecOk Try.prog 9 gE.S := by
 intro l M out h
 unfold gE.S at h
 split at h
 ·cases h
  refine callOk_of fun ho => ?_
  have hs := ho
  obtain ⟨r, hr⟩ := Option.isSome_iff_exists.1 hs
  simp only [hr, Option.getD_some]
  have q := Lk (M := M) [] (gE.can r hr) (by simp) rfl (by intro k i hk; simp at hk)
  exact callOk_conv q trivial (by simp) (by simp [frameOut, gE.out]) (by simp [frameOut, gE.out])
 ·cases h

@[simp] def gan.out (_x0 : Tl) (r : Ts × Bool) : Out := { av := .tup [.agg [.ptr 7 0, .lit (.int .i64 r.1.fX.fh), .lit (.int .i64 r.1.fX.fo), .lit (.int .i64 r.1.fX.fu), .lit (.int .i64 r.1.fX.fb), .lit (.int .i64 r.1.fX.fp), .sl (r.1.fX.fL.map Tj.enc) .no, .lit (.int .i64 r.1.fX.fS.fb), .sl (r.1.fX.fS.fL.map Te.enc) .no, .lit (.int .i64 r.1.fX.fS.fAt), .lit (.bool r.1.fX.fS.ff), .lit (.int .i64 r.1.fX.fc), .lit (.int .i64 r.1.fX.fd), .lit (.int .i64 r.1.fB), .lit (.int .i64 r.1.fN)], .lit (.bool r.2)], M := some [.dead, .dead, .dead, .mapo (encM (kI .i64) (kI .i64) r.1.fO.fa.fj), .mapo (encM (kI .i64) (kI .i64) r.1.fO.fa.fk), .blk [.lit (.int .i64 r.1.fO.fa.fb), .mp 3, .mp 4, .lit (.int .i64 r.1.fO.fa.fAt), .lit (.bool r.1.fO.fa.ff)], .own (Td.own .i64 r.1.fO.fg none) none, .blk [.lit (.int .i64 r.1.fO.fe.fh), .lit (.int .i64 r.1.fO.fe.fo), .lit (.int .i64 r.1.fO.fe.fu), .lit (.int .i64 r.1.fO.fe.fb), .lit (.int .i64 r.1.fO.fe.fp), .mp 6, .ptr 5 0, .lit (.int .i64 r.1.fO.fc), .lit (.int .i64 r.1.fO.fd)]] }
theorem gan.can (x0 : Tl) (r : Ts × Bool) (hr : gan x0 = some r) : CallOk Try.prog 13 [.agg [.lit (.int .i64 x0.fh), .lit (.int .i64 x0.fo), .lit (.int .i64 x0.fu), .lit (.int .i64 x0.fb), .lit (.int .i64 x0.fp)]] [] (gan.out x0 r) := by
 unfold gan at hr
 have hΓ := (gamL_cons gar.ok (gamL_nil) : GamOk Try.prog _)
 refine Lg Try.tyOk Try.func13 rfl (by kernel_rfl) rfl rfl (by simp) ?_
 intro _ _ _
 refine Try.tg hΓ [1, 2] [0] (by kernel_rfl) rfl (by simp; exact rr) ?_
 obtain ⟨r1, h3, hr⟩ := Lc hr
 cases h4 : r1.1 with
 | none =>
  have hr := optC_n h4 hr
  refine Try.tg hΓ [4, 5] [] (by kernel_rfl) rfl (by simp [h3, h4]; exact rr) ?_
  refine Try.tg hΓ [3] [4, 5, 1] (by kernel_rfl) rfl (by simp; exact rr) ?_
  cases hr
 | some o1 =>
  have hr := optC_s h4 hr
  refine Try.tg hΓ [4, 5] [] (by kernel_rfl) rfl (by simp [h3, h4]; exact rr) ?_
  refine Try.tg hΓ [3] [4, 5, 1] (by kernel_rfl) rfl (by simp; exact rr) ?_
  refine AWp.ret ?_
  obtain rfl := La hr
  refine Lf ?_
  simp

@[simp] noncomputable def gan.S : Sp
 | [.agg e0], M => (fun (r : Ts × Bool) => some { av := .tup [.agg [.ptr (M.length + 7) 0, .lit (.int .i64 (r.1.fX.fh)), .lit (.int .i64 (r.1.fX.fo)), .lit (.int .i64 (r.1.fX.fu)), .lit (.int .i64 (r.1.fX.fb)), .lit (.int .i64 (r.1.fX.fp)), .sl ((r.1.fX.fL).map Tj.enc) .no, .lit (.int .i64 (r.1.fX.fS.fb)), .sl ((r.1.fX.fS.fL).map Te.enc) .no, .lit (.int .i64 (r.1.fX.fS.fAt)), .lit (.bool (r.1.fX.fS.ff)), .lit (.int .i64 (r.1.fX.fc)), .lit (.int .i64 (r.1.fX.fd)), .lit (.int .i64 (r.1.fB)), .lit (.int .i64 (r.1.fN))], .lit (.bool (r.2))], M := some (M ++ [.dead, .dead, .dead, .mapo (encM (kI .i64) (kI .i64) (r.1.fO.fa.fj)), .mapo (encM (kI .i64) (kI .i64) (r.1.fO.fa.fk)), .blk [.lit (.int .i64 (r.1.fO.fa.fb)), .mp (M.length + 3), .mp (M.length + 4), .lit (.int .i64 (r.1.fO.fa.fAt)), .lit (.bool (r.1.fO.fa.ff))], .own (Td.own .i64 (r.1.fO.fg) none) none, .blk [.lit (.int .i64 (r.1.fO.fe.fh)), .lit (.int .i64 (r.1.fO.fe.fo)), .lit (.int .i64 (r.1.fO.fe.fu)), .lit (.int .i64 (r.1.fO.fe.fb)), .lit (.int .i64 (r.1.fO.fe.fp)), .mp (M.length + 6), .ptr (M.length + 5) 0, .lit (.int .i64 (r.1.fO.fc)), .lit (.int .i64 (r.1.fO.fd))]]), obl := WeakL e0 (Tl.enc (Tl.dec e0)) ∧ (gan (Tl.dec e0)).isSome = true }) ((gan (Tl.dec e0)).getD dflt)
 | _, _ => none

theorem gan.ok : SpecOk Try.prog 13 gan.S := by
 intro l M out h
 unfold gan.S at h
 split at h
 ·rename_i e0
  try dsimp only at h
  cases h
  refine callOk_of fun ho => ?_
  obtain ⟨ox0, hs⟩ := ho
  generalize (Tl.dec e0) = x0 at *
  obtain ⟨r, hr⟩ := Option.isSome_iff_exists.1 hs
  simp only [hr, Option.getD_some]
  have q := Lk (M := M) [] (gan.can x0 r hr) (by simp) rfl (by intro k i hk; simp at hk)
  exact callOk_conv q trivial (by simp; exact ox0) (by simp [frameOut, gan.out, into]) (by simp [frameOut, gan.out, into])
 ·cases h

@[simp] def gO.out (_x0 : List Tc) (_x1 : List Tc) (r : Int) : Out := { av := .lit (.int .i64 r), M := none }
def gO.fin (x0 : List Tc) (x1 : List Tc) (r : Int) (σ : St) : Prop := finK (gO.out x0 x1 r) [] σ.M (resA Try.ty σ.A σ.M Try.f29.results.toList)
theorem gO.can (x0 : List Tc) (x1 : List Tc) (r : Int) (hr : gO x0 x1 = some r) : CallOk Try.prog 29 [.sl (x0.map Tc.enc) .no, .sl (x1.map Tc.enc) .no] [] (gO.out x0 x1 r) := by
 unfold gO at hr
 have hΓ := gamL_nil (P := Try.prog)
 refine Lg Try.tyOk Try.func29 rfl (by kernel_rfl) rfl rfl (by simp) ?_
 intro _ _ _
 refine Try.tg hΓ [] [] (by kernel_rfl) rfl (by simp; exact rr) ?_
 refine AWp.seq ?_
 refine Try.tg hΓ [10] [] (by kernel_rfl) rfl (by simp; exact rr) ?_
 refine AWp.cond (b := (neI (lenL x0) (lenL x1))) (by simp) (fun h8 => ?_) (fun h8 => ?_)
 ·have hr := Li h8 hr
  refine Try.tg hΓ [4] [10, 0, 1] (by kernel_rfl) rfl (by simp [h8]; exact rr) ?_
  refine AWp.ret ?_
  obtain rfl := La hr
  refine Lf ?_
  simp
 ·have hr := Lj h8 hr
  refine AWp.skip ?_
  refine AWp.seq ?_
  refine Try.tg hΓ [12, 13] [10] (by kernel_rfl) rfl (by simp [h8]; exact rr) ?_
  refine AWp.loopE (fun (s1 : Int) (γ1 : Unit) => ⟨[⟨12, none, .n (lenL x1)⟩, ⟨13, none, .n s1⟩, ⟨0, none, .sl (x0.map Tc.enc) .no⟩, ⟨1, none, .sl (x1.map Tc.enc) .no⟩], []⟩) (fun (v1 : Unit) (γ1a : Unit) => ⟨[], []⟩) (gO.fin x0 x1) hr () 0 (by simp) (fun s1 f γ1 hr => ?_) (fun v1 γ1a σ1 m1 hr hc => ?_) (fun _ h => h)
  ·unfold gO.loop1 at hr
   refine Try.tg hΓ [14] [] (by kernel_rfl) rfl (by simp; exact rr) ?_
   refine AWp.seq ?_
   refine AWp.cond (b := (ltI s1 (lenL x1))) (by simp) (fun h9 => ?_) (fun h9 => ?_)
   ·have hr := Li h9 hr
    refine AWp.skip ?_
    refine AWp.seq ?_
    refine AWp.block ?_
    refine Try.tg hΓ [5] [14] (by kernel_rfl) rfl (by simp [h9]; exact rr) ?_
    obtain ⟨h10, hr⟩ := Lb hr
    obtain ⟨h11, hr⟩ := Lb hr
    obtain ⟨h12, hr⟩ := Lb hr
    obtain ⟨h13, hr⟩ := Lb hr
    refine Try.td hΓ [39] [5] [] [(false, []), (false, []), (false, []), (false, []), (false, []), (false, []), (false, []), (false, []), (false, []), (false, []), (false, []), (false, []), (false, [27]), (false, [27]), (false, [27]), (false, [27]), (false, [27]), (false, [27]), (false, [27]), (false, [27]), (false, [27]), (false, [27]), (false, [27]), (false, [])] (by kernel_rfl) rfl (by simp [h10, h11]; exact rr) ?_
    refine AWp.cond (b := (pickB (neI ((nthI x0 s1).fId) ((nthI x1 s1).fId)) true (notB (pickB (eqI ((nthI x0 s1).fC.fN) ((nthI x1 s1).fC.fN)) (pickB (eqI ((nthI x0 s1).fC.fm) ((nthI x1 s1).fC.fm)) (pickB (eqI ((nthI x0 s1).fC.fy) ((nthI x1 s1).fC.fy)) (eqB ((nthI x0 s1).fC.fz) ((nthI x1 s1).fC.fz)) false) false) false)))) (by simp) (fun h14 => ?_) (fun h14 => ?_)
    ·have hr := Li h14 hr
     refine Try.tg hΓ [4] [39, 12, 13, 0, 1] (by kernel_rfl) rfl (by simp [h14]; exact rr) ?_
     refine AWp.ret ?_
     obtain rfl := La hr
     refine round_ret ?_
     refine Lf ?_
     simp
    ·have hr := Lj h14 hr
     refine AWp.skip ?_
     refine AWp.lst (AWp.reg Try.tyOk hΓ [13] [39] (by kernel_rfl) rfl (by simp [h14]; exact rr)) ?_
     obtain rfl := La hr
     exact Lm () 0 (by first | (simp; done) | simp [h8, h9, h10, h11, h12, h13, h14])
   ·have hr := Lj h9 hr
    refine AWp.exit ?_
    obtain rfl := La hr
    exact Lp () 0 (by first | (simp; done) | simp [h8, h9])
  ·refine AWp.conv hc ?_
   refine Try.tg hΓ [4] [] (by kernel_rfl) rfl (by simp; exact rr) ?_
   refine AWp.ret ?_
   obtain rfl := La hr
   refine Lf ?_
   simp

@[simp] noncomputable def gO.S : Sp
 | [.sl e0 _, .sl e1 _], _ => some { av := .lit (.int .i64 ((gO (e0.map Tc.dec) (e1.map Tc.dec)).getD dflt)), M := none, obl := e0 = (e0.map Tc.dec).map Tc.enc ∧ e1 = (e1.map Tc.dec).map Tc.enc ∧ (gO (e0.map Tc.dec) (e1.map Tc.dec)).isSome = true }
 | _, _ => none

theorem gO.ok : SpecOk Try.prog 29 gO.S := by
 intro l M out h
 unfold gO.S at h
 split at h
 ·rename_i e0 k0 e1 k1
  cases h
  refine callOk_of fun ho => ?_
  obtain ⟨ox0, ox1, hs⟩ := ho
  generalize (e0.map Tc.dec) = x0 at *
  generalize (e1.map Tc.dec) = x1 at *
  subst ox0
  subst ox1
  obtain ⟨r, hr⟩ := Option.isSome_iff_exists.1 hs
  simp only [hr, Option.getD_some]
  have q := Lk (M := M) [] (gO.can x0 x1 r hr) (by simp) rfl (by intro k i hk; simp at hk)
  exact callOk_conv q trivial (by simp) (by simp [frameOut, gO.out]) (by simp [frameOut, gO.out])
 ·cases h

@[simp] def gat.out (_x0 : Ts) (r : Int) : Out := { av := .lit (.int .i64 r), M := none }
def gat.fin (x0 : Ts) (r : Int) (σ : St) : Prop := finK (gat.out x0 r) [.blk (x0.fO.fe.enc ++ [.mp 1, .ptr 2 0, .lit (.int .i64 x0.fO.fc), .lit (.int .i64 x0.fO.fd)]), .own (Td.own .i64 x0.fO.fg none) none, .blk [.lit (.int .i64 x0.fO.fa.fb), .mp 3, .mp 4, .lit (.int .i64 x0.fO.fa.fAt), .lit (.bool x0.fO.fa.ff)], .mapo (encM (kI .i64) (kI .i64) x0.fO.fa.fj), .mapo (encM (kI .i64) (kI .i64) x0.fO.fa.fk)] σ.M (resA Try.ty σ.A σ.M Try.f20.results.toList)
theorem gat.can (x0 : Ts) (r : Int) (hr : gat x0 = some r) : CallOk Try.prog 20 [.agg [.ptr 0 0, .lit (.int .i64 x0.fX.fh), .lit (.int .i64 x0.fX.fo), .lit (.int .i64 x0.fX.fu), .lit (.int .i64 x0.fX.fb), .lit (.int .i64 x0.fX.fp), .sl (x0.fX.fL.map Tj.enc) .no, .lit (.int .i64 x0.fX.fS.fb), .sl (x0.fX.fS.fL.map Te.enc) .no, .lit (.int .i64 x0.fX.fS.fAt), .lit (.bool x0.fX.fS.ff), .lit (.int .i64 x0.fX.fc), .lit (.int .i64 x0.fX.fd), .lit (.int .i64 x0.fB), .lit (.int .i64 x0.fN)]] [.blk (x0.fO.fe.enc ++ [.mp 1, .ptr 2 0, .lit (.int .i64 x0.fO.fc), .lit (.int .i64 x0.fO.fd)]), .own (Td.own .i64 x0.fO.fg none) none, .blk [.lit (.int .i64 x0.fO.fa.fb), .mp 3, .mp 4, .lit (.int .i64 x0.fO.fa.fAt), .lit (.bool x0.fO.fa.ff)], .mapo (encM (kI .i64) (kI .i64) x0.fO.fa.fj), .mapo (encM (kI .i64) (kI .i64) x0.fO.fa.fk)] (gat.out x0 r) := by
 unfold gat at hr
 have hΓ := (gamL_cons gV.ok (gamL_cons gp.ok (gamL_cons gL.ok (gamL_cons gJ.ok (gamL_nil)))) : GamOk Try.prog _)
 refine Lg Try.tyOk Try.func20 rfl (by kernel_rfl) rfl rfl (by simp) ?_
 intro _ _ _
 refine Try.tg hΓ [1] [0] (by kernel_rfl) rfl (by simp; exact rr) ?_
 refine AWp.seq ?_
 obtain ⟨r1, h9, hr⟩ := Lc hr
 refine Try.td hΓ [13] [] [] [(false, []), (false, []), (false, []), (false, []), (false, []), (false, []), (false, [])] (by kernel_rfl) rfl (by simp [h9]; exact rr) ?_
 refine AWp.cond (b := (neI r1 x0.fX.fc)) (by simp) (fun h10 => ?_) (fun h10 => ?_)
 ·have hr := Li h10 hr
  refine Try.tg hΓ [2] [13, 1] (by kernel_rfl) rfl (by simp [h10]; exact rr) ?_
  refine AWp.ret ?_
  obtain rfl := La hr
  refine Lf ?_
  simp
 ·have hr := Lj h10 hr
  refine AWp.skip ?_
  refine AWp.seq ?_
  refine Try.tg hΓ [16, 17, 18] [13] (by kernel_rfl) rfl (by simp [h10]; exact rr) ?_
  refine AWp.loopE (fun (s1 : Int) (γ1 : Unit) => ⟨[⟨16, none, .sl (x0.fX.fL.map Tj.enc) .no⟩, ⟨17, none, .n (lenL x0.fX.fL)⟩, ⟨18, none, .n s1⟩, ⟨1, none, .ptr 5 0⟩], [.blk (x0.fO.fe.enc ++ [.mp 1, .ptr 2 0, .n x0.fO.fc, .n x0.fO.fd]), .own (Td.own .i64 x0.fO.fg none) none, .blk [.n x0.fO.fa.fb, .mp 3, .mp 4, .n x0.fO.fa.fAt, .b x0.fO.fa.ff], .mapo (encM (kI .i64) (kI .i64) x0.fO.fa.fj), .mapo (encM (kI .i64) (kI .i64) x0.fO.fa.fk), .blk ([.ptr 0 0] ++ x0.fX.enc ++ [.n x0.fB, .n x0.fN])]⟩) (fun (v1 : Unit) (γ1a : Unit) => ⟨[], [.blk (x0.fO.fe.enc ++ [.mp 1, .ptr 2 0, .n x0.fO.fc, .n x0.fO.fd]), .own (Td.own .i64 x0.fO.fg none) none, .blk [.n x0.fO.fa.fb, .mp 3, .mp 4, .n x0.fO.fa.fAt, .b x0.fO.fa.ff], .mapo (encM (kI .i64) (kI .i64) x0.fO.fa.fj), .mapo (encM (kI .i64) (kI .i64) x0.fO.fa.fk), .blk ([.ptr 0 0] ++ x0.fX.enc ++ [.n x0.fB, .n x0.fN])]⟩) (gat.fin x0) hr () 6 (by simp) (fun s1 f γ1 hr => ?_) (fun v1 γ1a σ1 m1 hr hc => ?_) (fun _ h => h)
  ·unfold gat.loop1 at hr
   refine Try.tg hΓ [19] [] (by kernel_rfl) rfl (by simp; exact rr) ?_
   refine AWp.seq ?_
   refine AWp.cond (b := (ltI s1 (lenL x0.fX.fL))) (by simp) (fun h11 => ?_) (fun h11 => ?_)
   ·have hr := Li h11 hr
    refine AWp.skip ?_
    refine AWp.seq ?_
    refine AWp.block ?_
    obtain ⟨h12, hr⟩ := Lb hr
    refine Try.tg hΓ [4] [19] (by kernel_rfl) rfl (by simp [h11, h12]; exact rr) ?_
    obtain ⟨r2, h13, hr⟩ := Lc hr
    refine Try.tg hΓ [5, 6] [] (by kernel_rfl) rfl (by simp [h13]; exact rr) ?_
    obtain ⟨h14, hr⟩ := Lb hr
    obtain ⟨h15, hr⟩ := Lb hr
    refine Try.td hΓ [68] [5, 6, 4] [] [(false, []), (false, []), (false, []), (false, []), (false, []), (false, []), (false, []), (false, [36]), (false, [36]), (false, [36]), (false, [36]), (false, [36]), (false, [36]), (false, []), (false, []), (false, [44]), (false, [44]), (false, [44]), (false, [44]), (false, [44]), (false, [44]), (false, [44]), (false, [44]), (false, [44]), (false, []), (false, []), (false, [55]), (false, [55]), (false, [55]), (false, [55]), (false, [55]), (false, []), (false, []), (false, [62]), (false, [62]), (false, [62]), (false, [62]), (false, [62]), (false, [])] (by kernel_rfl) rfl (by simp [h14, h15]; exact rr) ?_
    refine AWp.cond (b := (pickB (pickB (pickB (pickB (neI r2.1 (lenL ((nthI x0.fX.fL s1).fQ.fL))) true (neI r2.2 ((gJ ((nthI x0.fX.fL s1).fQ.fL)).getD dflt))) true (neB ((gV x0.fO ((nthI x0.fX.fL s1).fId)).getD dflt) ((nthI x0.fX.fL s1).fQ.fv))) true (ltI x0.fX.fh r2.1)) true (ltI x0.fX.fo r2.2))) (by simp) (fun h16 => ?_) (fun h16 => ?_)
    ·have hr := Li h16 hr
     refine Try.tg hΓ [2] [68, 16, 17, 18, 1] (by kernel_rfl) rfl (by simp [h16]; exact rr) ?_
     refine AWp.ret ?_
     obtain rfl := La hr
     refine round_ret ?_
     refine Lf ?_
     simp
    ·have hr := Lj h16 hr
     refine AWp.skip ?_
     refine AWp.lst (AWp.reg Try.tyOk hΓ [18] [68] (by kernel_rfl) rfl (by simp [h16]; exact rr)) ?_
     obtain rfl := La hr
     exact Lm () 6 (by first | (simp; done) | simp [h9, h10, h11, h12, h13, h14, h15, h16])
   ·have hr := Lj h11 hr
    refine AWp.exit ?_
    obtain rfl := La hr
    exact Lp () 6 (by first | (simp; done) | simp [h9, h10, h11])
  ·refine AWp.conv hc ?_
   refine Try.tg hΓ [2] [] (by kernel_rfl) rfl (by simp; exact rr) ?_
   refine AWp.ret ?_
   obtain rfl := La hr
   refine Lf ?_
   simp

@[simp] noncomputable def gat.S : Sp
 | [.agg e0], M => match nthE e0 0 with
  | some (.ptr i0 0) => (match M[i0]? with
  | some (.blk c0) => (match nthE c0 5 with
  | some (.mp i1) => (match M[i1]? with
  | some (.own c1 none) => (match nthE c0 6 with
  | some (.ptr i2 0) => (match M[i2]? with
  | some (.blk c2) => (match nthE c2 1 with
  | some (.mp i3) => (match M[i3]? with
  | some (.mapo c3) => (match nthE c2 2 with
  | some (.mp i4) => (match M[i4]? with
  | some (.mapo c4) => (fun (y0 : Ts) => some { av := .lit (.int .i64 ((gat y0).getD dflt)), M := none, obl := WeakL e0 (Ts.enc y0 i0) ∧ c0 = Tg.enc (y0.fO) i1 i2 ∧ c1 = Td.own .i64 (y0.fO.fg) none ∧ c2 = Tq.enc (y0.fO.fa) i3 i4 ∧ c3 = encM (kI .i64) (kI .i64) (y0.fO.fa.fj) ∧ c4 = encM (kI .i64) (kI .i64) (y0.fO.fa.fk) ∧ (gat y0).isSome = true ∧ i0 ≠ i1 ∧ i0 ≠ i2 ∧ i0 ≠ i3 ∧ i0 ≠ i4 ∧ i1 ≠ i2 ∧ i1 ≠ i3 ∧ i1 ≠ i4 ∧ i2 ≠ i3 ∧ i2 ≠ i4 ∧ i3 ≠ i4 }) (Ts.dec e0 (Tg.dec c0 (decM dkI Td.dfl c1.data) (Tq.dec c2 (decM dkI dkI c3) (decM dkI dkI c4))))
  | _ => none)
  | _ => none)
  | _ => none)
  | _ => none)
  | _ => none)
  | _ => none)
  | _ => none)
  | _ => none)
  | _ => none)
  | _ => none
 | _, _ => none

theorem gat.ok : SpecOk Try.prog 20 gat.S := by
 intro l M out h
 unfold gat.S at h
 split at h
 ·rename_i e0
  split at h
  case h_2 => cases h
  rename_i i0 he0
  split at h
  case h_2 => cases h
  rename_i c0 hM0
  split at h
  case h_2 => cases h
  rename_i i1 he1
  split at h
  case h_2 => cases h
  rename_i c1 hM1
  split at h
  case h_2 => cases h
  rename_i i2 he2
  split at h
  case h_2 => cases h
  rename_i c2 hM2
  split at h
  case h_2 => cases h
  rename_i i3 he3
  split at h
  case h_2 => cases h
  rename_i c3 hM3
  split at h
  case h_2 => cases h
  rename_i i4 he4
  split at h
  case h_2 => cases h
  rename_i c4 hM4
  try dsimp only at h
  cases h
  refine callOk_of fun ho => ?_
  obtain ⟨ox0, oc0, oc1, oc2, oc3, oc4, hs, hne0, hne1, hne2, hne3, hne4, hne5, hne6, hne7, hne8, hne9⟩ := ho
  generalize (Ts.dec e0 (Tg.dec c0 (decM dkI Td.dfl c1.data) (Tq.dec c2 (decM dkI dkI c3) (decM dkI dkI c4)))) = x0 at *
  subst oc0
  subst oc1
  subst oc2
  subst oc3
  subst oc4
  obtain ⟨r, hr⟩ := Option.isSome_iff_exists.1 hs
  simp only [hr, Option.getD_some]
  have q := Lk (M := M) [i0, i1, i2, i3, i4] (gat.can x0 r hr) (by simp [hne0, hne1, hne2, hne3, hne4, hne5, hne6, hne7, hne8, hne9]) rfl (by intro k i hk; (cases k with | zero => (simp at hk; subst hk; simp [hM0, into]) | succ k => ((cases k with | zero => (simp at hk; subst hk; simp [hM1]) | succ k => ((cases k with | zero => (simp at hk; subst hk; simp [hM2, into]) | succ k => ((cases k with | zero => (simp at hk; subst hk; simp [hM3]) | succ k => ((cases k with | zero => (simp at hk; subst hk; simp [hM4]) | succ k => (simp at hk)))))))))))
  exact callOk_conv q trivial (by simp [into]; exact ox0) (by simp [frameOut, gat.out, into]) (by simp only [frameOut, gat.out, Option.getD_some, Option.getD_none]; simp [into, hM0, hM1, hM2, hM3, hM4, set_same])
 ·cases h
end Go.Proofs

/- That these functions compute what their plain functions do. No condition. -/
import Derived.Test.YtnoeflijefijcaaM04
import Derived.Test.YtnoeflijefijcaaTy
import Derived.Test.YtnoeflijefijcaaEa
import Derived.Test.YtnoeflijefijcaaEf
import Derived.Test.YtnoeflijefijcaaEo
import Derived.Test.YtnoeflijefijcaaEd
set_option maxHeartbeats 4000000
namespace Go.Proofs
open Go.Ab
@[simp] def gaw.out (_x0 : Ts) (_x1 : Th) (r : Ts × Bool) : Out := { av := .tup [.agg [.ptr 0 0, .lit (.int .i64 r.1.fX.fh), .lit (.int .i64 r.1.fX.fo), .lit (.int .i64 r.1.fX.fu), .lit (.int .i64 r.1.fX.fb), .lit (.int .i64 r.1.fX.fp), .sl (r.1.fX.fL.map Tj.enc) .no, .lit (.int .i64 r.1.fX.fS.fb), .sl (r.1.fX.fS.fL.map Te.enc) .no, .lit (.int .i64 r.1.fX.fS.fAt), .lit (.bool r.1.fX.fS.ff), .lit (.int .i64 r.1.fX.fc), .lit (.int .i64 r.1.fX.fd), .lit (.int .i64 r.1.fB), .lit (.int .i64 r.1.fN)], .lit (.bool r.2)], M := some [.blk [.lit (.int .i64 r.1.fO.fe.fh), .lit (.int .i64 r.1.fO.fe.fo), .lit (.int .i64 r.1.fO.fe.fu), .lit (.int .i64 r.1.fO.fe.fb), .lit (.int .i64 r.1.fO.fe.fp), .mp 1, .ptr 2 0, .lit (.int .i64 r.1.fO.fc), .lit (.int .i64 r.1.fO.fd)], .own (Td.own .i64 r.1.fO.fg none) none, .blk [.lit (.int .i64 r.1.fO.fa.fb), .mp 3, .mp 4, .lit (.int .i64 r.1.fO.fa.fAt), .lit (.bool r.1.fO.fa.ff)], .mapo (encM (kI .i64) (kI .i64) r.1.fO.fa.fj), .mapo (encM (kI .i64) (kI .i64) r.1.fO.fa.fk)] }
set_option maxRecDepth 100000 in
theorem gaw.can (x0 : Ts) (x1 : Th) (r : Ts × Bool) (hr : gaw x0 x1 = some r) : CallOk Try.prog 32 [.agg [.ptr 0 0, .lit (.int .i64 x0.fX.fh), .lit (.int .i64 x0.fX.fo), .lit (.int .i64 x0.fX.fu), .lit (.int .i64 x0.fX.fb), .lit (.int .i64 x0.fX.fp), .sl (x0.fX.fL.map Tj.enc) .no, .lit (.int .i64 x0.fX.fS.fb), .sl (x0.fX.fS.fL.map Te.enc) .no, .lit (.int .i64 x0.fX.fS.fAt), .lit (.bool x0.fX.fS.ff), .lit (.int .i64 x0.fX.fc), .lit (.int .i64 x0.fX.fd), .lit (.int .i64 x0.fB), .lit (.int .i64 x0.fN)], .agg [.lit (.int .i64 x1.fw), .lit (.int .i64 x1.fId), .lit (.int .i64 x1.fN), .lit (.bool x1.fz), .lit (.bool x1.fq)]] [.blk (x0.fO.fe.enc ++ [.mp 1, .ptr 2 0, .lit (.int .i64 x0.fO.fc), .lit (.int .i64 x0.fO.fd)]), .own (Td.own .i64 x0.fO.fg none) none, .blk [.lit (.int .i64 x0.fO.fa.fb), .mp 3, .mp 4, .lit (.int .i64 x0.fO.fa.fAt), .lit (.bool x0.fO.fa.ff)], .mapo (encM (kI .i64) (kI .i64) x0.fO.fa.fj), .mapo (encM (kI .i64) (kI .i64) x0.fO.fa.fk)] (gaw.out x0 x1 r) := by
 unfold gaw at hr
 have hΓ := (gamL_cons gN.ok (gamL_cons gae.ok (gamL_cons gH.ok (gamL_cons gO.ok (gamL_cons gah.ok (gamL_cons gay.ok (gamL_cons gau.ok (gamL_nil))))))) : GamOk Try.prog _)
 refine Lg Try.tyOk Try.func32 rfl (by kernel_rfl) rfl rfl (by simp) ?_
 intro _ _ _
 refine Try.tg hΓ [2, 3, 4] [0, 1] (by kernel_rfl) rfl (by simp; exact rr) ?_
 refine AWp.seq ?_
 refine Try.tg hΓ [18] [] (by kernel_rfl) rfl (by simp; exact rr) ?_
 refine AWp.block ?_
 refine Try.tg hΓ [19] [] (by kernel_rfl) rfl (by simp; exact rr) ?_
 refine AWp.cond (b := (eqI x1.fw 5)) (by simp) (fun h11 => ?_) (fun h11 => ?_)
 ·have hr := Li h11 hr
  obtain ⟨r1, h12, hr⟩ := Lc hr
  refine Try.tg hΓ [6] [19, 18] (by kernel_rfl) rfl (by simp [h11, h12]; exact rr) ?_
  obtain ⟨r2, h13, hr⟩ := Lc hr
  refine Try.tg hΓ [7, 8] [3] (by kernel_rfl) rfl (by simp [h13]; exact rr) ?_
  refine Try.tg hΓ [] [7] (by kernel_rfl) rfl (by simp; exact rr) ?_
  refine Try.tg hΓ [5] [8, 6, 2] (by kernel_rfl) rfl (by simp; exact rr) ?_
  refine AWp.ret ?_
  obtain rfl := La hr
  refine Lf ?_
  simp
 ·have hr := Lj h11 hr
  refine Try.tg hΓ [48] [19, 18] (by kernel_rfl) rfl (by simp [h11]; exact rr) ?_
  refine AWp.cond (b := (eqI x1.fw 6)) (by simp) (fun h14 => ?_) (fun h14 => ?_)
  ·have hr := Li h14 hr
   obtain ⟨r3, h15, hr⟩ := Lc hr
   refine Try.tg hΓ [9, 10] [48] (by kernel_rfl) rfl (by simp [h14, h15]; exact rr) ?_
   obtain ⟨r4, h16, hr⟩ := Lc hr
   refine Try.tg hΓ [11, 12, 13] [3] (by kernel_rfl) rfl (by simp [h16]; exact rr) ?_
   refine Try.tg hΓ [] [11] (by kernel_rfl) rfl (by simp; exact rr) ?_
   obtain ⟨h17, hr⟩ := Lb hr
   refine Try.td hΓ [5] [12, 13, 9, 10, 2] [(8, 11), (9, 11)] [(false, []), (false, []), (false, []), (false, []), (false, []), (false, [73]), (false, [73]), (false, [73]), (false, [73]), (false, []), (true, []), (false, [])] (by kernel_rfl) rfl (by simp [h17]; exact rr) ?_
   refine AWp.ret ?_
   obtain rfl := La hr
   refine Lf ?_
   simp
  ·have hr := Lj h14 hr
   refine AWp.skip ?_
   obtain ⟨r5, h18, hr⟩ := Lc hr
   refine Try.tg hΓ [14] [48] (by kernel_rfl) rfl (by simp [h14, h18]; exact rr) ?_
   obtain ⟨r6, h19, hr⟩ := Lc hr
   refine Try.tg hΓ [15, 16] [3] (by kernel_rfl) rfl (by simp [h19]; exact rr) ?_
   refine Try.tg hΓ [] [15] (by kernel_rfl) rfl (by simp; exact rr) ?_
   obtain ⟨r7, h20, hr⟩ := Lc hr
   refine Try.td hΓ [5] [16, 14, 2] [(4, 6)] [(false, []), (false, []), (false, []), (false, []), (false, []), (true, []), (false, [])] (by kernel_rfl) rfl (by simp [h20]; exact rr) ?_
   refine AWp.ret ?_
   obtain rfl := La hr
   refine Lf ?_
   simp

@[simp] noncomputable def gaw.S : Sp
 | [.agg e0, .agg e1], M => match nthE e0 0 with
  | some (.ptr i0 0) => (match M[i0]? with
  | some (.blk c0) => (match nthE c0 5 with
  | some (.mp i1) => (match M[i1]? with
  | some (.own c1 none) => (match nthE c0 6 with
  | some (.ptr i2 0) => (match M[i2]? with
  | some (.blk c2) => (match nthE c2 1 with
  | some (.mp i3) => (match M[i3]? with
  | some (.mapo c3) => (match nthE c2 2 with
  | some (.mp i4) => (match M[i4]? with
  | some (.mapo c4) => (fun (y0 : Ts) => (fun (y1 : Th) => (fun (r : Ts × Bool) => some { av := .tup [.agg [.ptr i0 0, .lit (.int .i64 (r.1.fX.fh)), .lit (.int .i64 (r.1.fX.fo)), .lit (.int .i64 (r.1.fX.fu)), .lit (.int .i64 (r.1.fX.fb)), .lit (.int .i64 (r.1.fX.fp)), .sl ((r.1.fX.fL).map Tj.enc) .no, .lit (.int .i64 (r.1.fX.fS.fb)), .sl ((r.1.fX.fS.fL).map Te.enc) .no, .lit (.int .i64 (r.1.fX.fS.fAt)), .lit (.bool (r.1.fX.fS.ff)), .lit (.int .i64 (r.1.fX.fc)), .lit (.int .i64 (r.1.fX.fd)), .lit (.int .i64 (r.1.fB)), .lit (.int .i64 (r.1.fN))], .lit (.bool (r.2))], M := some (((((M.set i0 (.blk [.lit (.int .i64 (r.1.fO.fe.fh)), .lit (.int .i64 (r.1.fO.fe.fo)), .lit (.int .i64 (r.1.fO.fe.fu)), .lit (.int .i64 (r.1.fO.fe.fb)), .lit (.int .i64 (r.1.fO.fe.fp)), .mp i1, .ptr i2 0, .lit (.int .i64 (r.1.fO.fc)), .lit (.int .i64 (r.1.fO.fd))])).set i1 (.own (Td.own .i64 (r.1.fO.fg) none) none)).set i2 (.blk [.lit (.int .i64 (r.1.fO.fa.fb)), .mp i3, .mp i4, .lit (.int .i64 (r.1.fO.fa.fAt)), .lit (.bool (r.1.fO.fa.ff))])).set i3 (.mapo (encM (kI .i64) (kI .i64) (r.1.fO.fa.fj)))).set i4 (.mapo (encM (kI .i64) (kI .i64) (r.1.fO.fa.fk)))), obl := WeakL e0 (Ts.enc y0 i0) ∧ WeakL e1 (Th.enc y1) ∧ c0 = Tg.enc (y0.fO) i1 i2 ∧ c1 = Td.own .i64 (y0.fO.fg) none ∧ c2 = Tq.enc (y0.fO.fa) i3 i4 ∧ c3 = encM (kI .i64) (kI .i64) (y0.fO.fa.fj) ∧ c4 = encM (kI .i64) (kI .i64) (y0.fO.fa.fk) ∧ (gaw y0 y1).isSome = true ∧ i0 ≠ i1 ∧ i0 ≠ i2 ∧ i0 ≠ i3 ∧ i0 ≠ i4 ∧ i1 ≠ i2 ∧ i1 ≠ i3 ∧ i1 ≠ i4 ∧ i2 ≠ i3 ∧ i2 ≠ i4 ∧ i3 ≠ i4 }) ((gaw y0 y1).getD dflt)) (Th.dec e1)) (Ts.dec e0 (Tg.dec c0 (decM dkI Td.dfl c1.data) (Tq.dec c2 (decM dkI dkI c3) (decM dkI dkI c4))))
  | _ => none)
  | _ => none)
  | _ => none)
  | _ => none)
  | _ => none)
  | _ => none)
  | _ => none)
  | _ => none)
  | _ => none)
  | _ => none
 | _, _ => none

theorem gaw.ok : SpecOk Try.prog 32 gaw.S := by
 intro l M out h
 unfold gaw.S at h
 split at h
 ·rename_i e0 e1
  split at h
  case h_2 => cases h
  rename_i i0 he0
  split at h
  case h_2 => cases h
  rename_i c0 hM0
  split at h
  case h_2 => cases h
  rename_i i1 he1
  split at h
  case h_2 => cases h
  rename_i c1 hM1
  split at h
  case h_2 => cases h
  rename_i i2 he2
  split at h
  case h_2 => cases h
  rename_i c2 hM2
  split at h
  case h_2 => cases h
  rename_i i3 he3
  split at h
  case h_2 => cases h
  rename_i c3 hM3
  split at h
  case h_2 => cases h
  rename_i i4 he4
  split at h
  case h_2 => cases h
  rename_i c4 hM4
  try dsimp only at h
  cases h
  refine callOk_of fun ho => ?_
  obtain ⟨ox0, ox1, oc0, oc1, oc2, oc3, oc4, hs, hne0, hne1, hne2, hne3, hne4, hne5, hne6, hne7, hne8, hne9⟩ := ho
  generalize (Ts.dec e0 (Tg.dec c0 (decM dkI Td.dfl c1.data) (Tq.dec c2 (decM dkI dkI c3) (decM dkI dkI c4)))) = x0 at *
  generalize (Th.dec e1) = x1 at *
  subst oc0
  subst oc1
  subst oc2
  subst oc3
  subst oc4
  obtain ⟨r, hr⟩ := Option.isSome_iff_exists.1 hs
  simp only [hr, Option.getD_some]
  have q := Lk (M := M) [i0, i1, i2, i3, i4] (gaw.can x0 x1 r hr) (by simp [hne0, hne1, hne2, hne3, hne4, hne5, hne6, hne7, hne8, hne9]) rfl (by intro k i hk; (cases k with | zero => (simp at hk; subst hk; simp [hM0, into]) | succ k => ((cases k with | zero => (simp at hk; subst hk; simp [hM1]) | succ k => ((cases k with | zero => (simp at hk; subst hk; simp [hM2, into]) | succ k => ((cases k with | zero => (simp at hk; subst hk; simp [hM3]) | succ k => ((cases k with | zero => (simp at hk; subst hk; simp [hM4]) | succ k => (simp at hk)))))))))))
  exact callOk_conv q trivial (by simp [into]; exact ⟨ox0, ox1⟩) (by simp [frameOut, gaw.out, into]) (by simp [frameOut, gaw.out, into])
 ·cases h

@[simp] def gy.out (_x0 : Ts) (_x1 : Th) (r : Ts × List Tc × Bool) : Out := { av := .tup [.agg [.ptr 0 0, .lit (.int .i64 r.1.fX.fh), .lit (.int .i64 r.1.fX.fo), .lit (.int .i64 r.1.fX.fu), .lit (.int .i64 r.1.fX.fb), .lit (.int .i64 r.1.fX.fp), .sl (r.1.fX.fL.map Tj.enc) .no, .lit (.int .i64 r.1.fX.fS.fb), .sl (r.1.fX.fS.fL.map Te.enc) .no, .lit (.int .i64 r.1.fX.fS.fAt), .lit (.bool r.1.fX.fS.ff), .lit (.int .i64 r.1.fX.fc), .lit (.int .i64 r.1.fX.fd), .lit (.int .i64 r.1.fB), .lit (.int .i64 r.1.fN)], .sl (r.2.1.map Tc.enc) .no, .lit (.bool r.2.2)], M := some [.blk [.lit (.int .i64 r.1.fO.fe.fh), .lit (.int .i64 r.1.fO.fe.fo), .lit (.int .i64 r.1.fO.fe.fu), .lit (.int .i64 r.1.fO.fe.fb), .lit (.int .i64 r.1.fO.fe.fp), .mp 1, .ptr 2 0, .lit (.int .i64 r.1.fO.fc), .lit (.int .i64 r.1.fO.fd)], .own (Td.own .i64 r.1.fO.fg none) none, .blk [.lit (.int .i64 r.1.fO.fa.fb), .mp 3, .mp 4, .lit (.int .i64 r.1.fO.fa.fAt), .lit (.bool r.1.fO.fa.ff)], .mapo (encM (kI .i64) (kI .i64) r.1.fO.fa.fj), .mapo (encM (kI .i64) (kI .i64) r.1.fO.fa.fk)] }
def gy.fin (x0 : Ts) (x1 : Th) (r : Ts × List Tc × Bool) (σ : St) : Prop := finK (gy.out x0 x1 r) [.blk (x0.fO.fe.enc ++ [.mp 1, .ptr 2 0, .lit (.int .i64 x0.fO.fc), .lit (.int .i64 x0.fO.fd)]), .own (Td.own .i64 x0.fO.fg none) none, .blk [.lit (.int .i64 x0.fO.fa.fb), .mp 3, .mp 4, .lit (.int .i64 x0.fO.fa.fAt), .lit (.bool x0.fO.fa.ff)], .mapo (encM (kI .i64) (kI .i64) x0.fO.fa.fj), .mapo (encM (kI .i64) (kI .i64) x0.fO.fa.fk)] σ.M (resA Try.ty σ.A σ.M Try.f15.results.toList)
set_option maxRecDepth 100000 in
theorem gy.can (x0 : Ts) (x1 : Th) (r : Ts × List Tc × Bool) (hr : gy x0 x1 = some r) : CallOk Try.prog 15 [.agg [.ptr 0 0, .lit (.int .i64 x0.fX.fh), .lit (.int .i64 x0.fX.fo), .lit (.int .i64 x0.fX.fu), .lit (.int .i64 x0.fX.fb), .lit (.int .i64 x0.fX.fp), .sl (x0.fX.fL.map Tj.enc) .no, .lit (.int .i64 x0.fX.fS.fb), .sl (x0.fX.fS.fL.map Te.enc) .no, .lit (.int .i64 x0.fX.fS.fAt), .lit (.bool x0.fX.fS.ff), .lit (.int .i64 x0.fX.fc), .lit (.int .i64 x0.fX.fd), .lit (.int .i64 x0.fB), .lit (.int .i64 x0.fN)], .agg [.lit (.int .i64 x1.fw), .lit (.int .i64 x1.fId), .lit (.int .i64 x1.fN), .lit (.bool x1.fz), .lit (.bool x1.fq)]] [.blk (x0.fO.fe.enc ++ [.mp 1, .ptr 2 0, .lit (.int .i64 x0.fO.fc), .lit (.int .i64 x0.fO.fd)]), .own (Td.own .i64 x0.fO.fg none) none, .blk [.lit (.int .i64 x0.fO.fa.fb), .mp 3, .mp 4, .lit (.int .i64 x0.fO.fa.fAt), .lit (.bool x0.fO.fa.ff)], .mapo (encM (kI .i64) (kI .i64) x0.fO.fa.fj), .mapo (encM (kI .i64) (kI .i64) x0.fO.fa.fk)] (gy.out x0 x1 r) := by
 unfold gy at hr
 have hΓ := (gamL_cons gT.ok (gamL_cons gI.ok (gamL_cons gt.ok (gamL_cons gu.ok (gamL_cons gq.ok (gamL_cons gO.ok (gamL_cons gaw.ok (gamL_cons gaB.ok (gamL_cons gac.ok (gamL_cons gag.ok (gamL_nil)))))))))) : GamOk Try.prog _)
 refine Lg Try.tyOk Try.func15 rfl (by kernel_rfl) rfl rfl (by simp) ?_
 intro _ _ _
 refine Try.tg hΓ [2, 3, 4] [0, 1] (by kernel_rfl) rfl (by simp; exact rr) ?_
 refine AWp.meetF (fun (v1 : Tl × Int × Int × (List (Int × Td)) × Int × Int × Bool × (List (Int × Int)) × (List (Int × Int)) × Tb × Th) (γ1 : Unit) => ⟨[⟨2, none, .ptr 5 0⟩, ⟨4, none, .ptr 7 0⟩], [.blk (v1.1.enc ++ [.mp 1, .ptr 2 0, .n v1.2.1, .n v1.2.2.1]), .own (Td.own .i64 v1.2.2.2.1 none) none, .blk [.n v1.2.2.2.2.1, .mp 3, .mp 4, .n v1.2.2.2.2.2.1, .b v1.2.2.2.2.2.2.1], .mapo (encM (kI .i64) (kI .i64) v1.2.2.2.2.2.2.2.1), .mapo (encM (kI .i64) (kI .i64) v1.2.2.2.2.2.2.2.2.1), .blk ([.ptr 0 0] ++ v1.2.2.2.2.2.2.2.2.2.1.enc ++ [.n x0.fB, .n x0.fN]), .blk v1.2.2.2.2.2.2.2.2.2.2.enc, .blk [.lit (.pointer none), .n 0, .n 0, .n 0, .n 0, .n 0, .sl [] .full, .n 0, .sl [] .full, .n 0, .b false, .n 0, .n 0, .n 0, .n 0]]⟩) (gy.fin x0 x1) hr (fun f hr => ?_) (fun v1 γ1 hr => ?_) (fun _ h => h)
 ·refine Try.tg hΓ [23] [] (by kernel_rfl) rfl (by simp; exact rr) ?_
  refine AWp.block ?_
  refine Try.tg hΓ [24] [] (by kernel_rfl) rfl (by simp; exact rr) ?_
  refine AWp.cond (b := (eqI x1.fw 1)) (by simp) (fun h23 => ?_) (fun h23 => ?_)
  ·have hr := Li h23 hr
   refine Try.tg hΓ [] [24, 23] (by kernel_rfl) rfl (by simp [h23]; exact rr) ?_
   refine Try.tg hΓ [7] [] (by kernel_rfl) rfl (by simp; exact rr) ?_
   obtain ⟨r1, h24, hr⟩ := Lc hr
   refine Try.tg hΓ [8, 9] [] (by kernel_rfl) rfl (by simp [h24]; exact rr) ?_
   obtain ⟨r2, h25, hr⟩ := Lc hr
   refine Try.tg hΓ [10, 11, 12] [7, 3] (by kernel_rfl) rfl (by simp [h25]; exact rr) ?_
   refine Try.tg hΓ [] [10] (by kernel_rfl) rfl (by simp; exact rr) ?_
   obtain ⟨h26, hr⟩ := Lb hr
   refine Try.td hΓ [5, 6] [11, 12, 8, 9, 2] [(8, 11), (9, 11)] [(false, []), (false, []), (false, []), (false, []), (false, []), (false, [64]), (false, [64]), (false, [64]), (false, [64]), (false, []), (true, []), (false, []), (false, [])] (by kernel_rfl) rfl (by simp [h26]; exact rr) ?_
   refine AWp.ret ?_
   obtain rfl := La hr
   refine meet_ret ?_
   refine Lf ?_
   simp
  ·have hr := Lj h23 hr
   refine Try.tg hΓ [70] [24] (by kernel_rfl) rfl (by simp [h23]; exact rr) ?_
   refine AWp.cond (b := (eqI x1.fw 2)) (by simp) (fun h27 => ?_) (fun h27 => ?_)
   ·have hr := Li h27 hr
    refine AWp.meetF (fun (v2 : Tl × Int × Int × (List (Int × Td)) × Int × Int × Bool × (List (Int × Int)) × (List (Int × Int)) × Tb × Th) (γ2 : Unit) => ⟨[⟨2, none, .ptr 5 0⟩, ⟨3, none, .ptr 6 0⟩, ⟨4, none, .ptr 7 0⟩], [.blk (v2.1.enc ++ [.mp 1, .ptr 2 0, .n v2.2.1, .n v2.2.2.1]), .own (Td.own .i64 v2.2.2.2.1 none) none, .blk [.n v2.2.2.2.2.1, .mp 3, .mp 4, .n v2.2.2.2.2.2.1, .b v2.2.2.2.2.2.2.1], .mapo (encM (kI .i64) (kI .i64) v2.2.2.2.2.2.2.2.1), .mapo (encM (kI .i64) (kI .i64) v2.2.2.2.2.2.2.2.2.1), .blk ([.ptr 0 0] ++ v2.2.2.2.2.2.2.2.2.2.1.enc ++ [.n x0.fB, .n x0.fN]), .blk v2.2.2.2.2.2.2.2.2.2.2.enc, .blk [.lit (.pointer none), .n 0, .n 0, .n 0, .n 0, .n 0, .sl [] .full, .n 0, .sl [] .full, .n 0, .b false, .n 0, .n 0, .n 0, .n 0]]⟩) (QRm (gy.fin x0 x1)) hr (fun f hr => ?_) (fun v2 γ2 hr => ?_) (fun _ h => QRm_ret h)
    ·refine Try.tg hΓ [73] [70, 23] (by kernel_rfl) rfl (by simp [h27]; exact rr) ?_
     refine AWp.cond (b := x1.fz) (by simp) (fun h28 => ?_) (fun h28 => ?_)
     ·have hr := Li h28 hr
      obtain ⟨r3, h29, hr⟩ := Lc hr
      refine Try.tg hΓ [13] [73] (by kernel_rfl) rfl (by simp [h28, h29]; exact rr) ?_
      refine Try.tg hΓ [91] [] (by kernel_rfl) rfl (by simp; exact rr) ?_
      refine AWp.cond (b := (neB r3.1 (pickB (leqI 0 x1.fId) (leqI x1.fId x0.fX.fc) false))) (by simp) (fun h30 => ?_) (fun h30 => ?_)
      ·have hr := Li h30 hr
       refine Try.tg hΓ [5, 6] [91, 13, 2, 3] (by kernel_rfl) rfl (by simp [h30]; exact rr) ?_
       refine AWp.ret ?_
       obtain rfl := La hr
       refine meet_ret ?_
       refine ⟨_, rfl, ?_⟩
       refine Lf ?_
       simp
      ·have hr := Lj h30 hr
       refine Try.tg hΓ [93] [91, 13] (by kernel_rfl) rfl (by simp [h30]; exact rr) ?_
       refine AWp.cond (b := r3.1) (by simp) (fun h31 => ?_) (fun h31 => ?_)
       ·have hr := Li h31 hr
        refine AWp.lst (AWp.reg Try.tyOk hΓ [] [93] (by kernel_rfl) rfl (by simp [h31]; exact rr)) ?_
        obtain rfl := La hr
        exact Ls () 8 (by first | (simp; done) | simp [h23, h27, h28, h29, h30, h31])
       ·have hr := Lj h31 hr
        refine AWp.skip ?_
        obtain rfl := La hr
        exact Ls () 8 (by first | (simp; done) | simp [h23, h27, h28, h29, h30, h31])
     ·have hr := Lj h28 hr
      refine AWp.skip ?_
      obtain rfl := La hr
      exact Ls () 8 (by first | (simp; done) | simp [h28])
    ·obtain ⟨r4, h32, hr⟩ := Lc hr
     refine Try.tg hΓ [] [] (by kernel_rfl) rfl (by simp [h32]; exact rr) ?_
     refine AWp.lst (AWp.reg Try.tyOk hΓ [] [3] (by kernel_rfl) rfl (by simp; exact rr)) ?_
     obtain rfl := La hr
     exact Ls () 8 (by first | (simp; done) | simp [h23, h27, h32])
   ·have hr := Lj h27 hr
    refine Try.tg hΓ [118] [70] (by kernel_rfl) rfl (by simp [h27]; exact rr) ?_
    refine AWp.cond (b := (eqI x1.fw 3)) (by simp) (fun h33 => ?_) (fun h33 => ?_)
    ·have hr := Li h33 hr
     obtain ⟨r5, h34, hr⟩ := Lc hr
     refine Try.tg hΓ [14] [118, 23, 3] (by kernel_rfl) rfl (by simp [h33, h34]; exact rr) ?_
     obtain ⟨r6, h35, hr⟩ := Lc hr
     refine Try.tg hΓ [15, 16] [] (by kernel_rfl) rfl (by simp [h35]; exact rr) ?_
     refine Try.tg hΓ [] [15] (by kernel_rfl) rfl (by simp; exact rr) ?_
     obtain ⟨r7, h36, hr⟩ := Lc hr
     refine Try.td hΓ [5, 6] [16, 14, 2] [(1, 7), (5, 7)] [(false, []), (false, []), (false, []), (false, []), (false, []), (false, []), (true, []), (false, []), (false, [])] (by kernel_rfl) rfl (by simp [h36]; exact rr) ?_
     refine AWp.ret ?_
     obtain rfl := La hr
     refine meet_ret ?_
     refine Lf ?_
     simp
    ·have hr := Lj h33 hr
     refine Try.tg hΓ [137] [118] (by kernel_rfl) rfl (by simp [h33]; exact rr) ?_
     refine AWp.cond (b := (eqI x1.fw 4)) (by simp) (fun h37 => ?_) (fun h37 => ?_)
     ·have hr := Li h37 hr
      refine Try.tg hΓ [] [137, 23, 3] (by kernel_rfl) rfl (by simp [h37]; exact rr) ?_
      obtain ⟨r8, h38, hr⟩ := Lc hr
      refine Try.tg hΓ [17] [] (by kernel_rfl) rfl (by simp [h38]; exact rr) ?_
      obtain ⟨r9, h39, hr⟩ := Lc hr
      refine Try.tg hΓ [18, 19] [] (by kernel_rfl) rfl (by simp [h39]; exact rr) ?_
      refine Try.tg hΓ [] [18] (by kernel_rfl) rfl (by simp; exact rr) ?_
      obtain ⟨r10, h40, hr⟩ := Lc hr
      refine Try.td hΓ [5, 6] [19, 17, 2] [(4, 6)] [(false, []), (false, []), (false, []), (false, []), (false, []), (true, []), (false, []), (false, [])] (by kernel_rfl) rfl (by simp [h40]; exact rr) ?_
      refine AWp.ret ?_
      obtain rfl := La hr
      refine meet_ret ?_
      refine Lf ?_
      simp
     ·have hr := Lj h37 hr
      refine AWp.meetF (fun (v3 : Bool) (γ3 : Unit) => ⟨[⟨2, none, .ptr 5 0⟩, ⟨3, none, .ptr 6 0⟩, ⟨4, none, .ptr 7 0⟩, ⟨166, none, .b v3⟩], [.blk (x0.fO.fe.enc ++ [.mp 1, .ptr 2 0, .n x0.fO.fc, .n x0.fO.fd]), .own (Td.own .i64 x0.fO.fg none) none, .blk [.n x0.fO.fa.fb, .mp 3, .mp 4, .n x0.fO.fa.fAt, .b x0.fO.fa.ff], .mapo (encM (kI .i64) (kI .i64) x0.fO.fa.fj), .mapo (encM (kI .i64) (kI .i64) x0.fO.fa.fk), .blk ([.ptr 0 0] ++ x0.fX.enc ++ [.n x0.fB, .n x0.fN]), .blk x1.enc, .blk [.lit (.pointer none), .n 0, .n 0, .n 0, .n 0, .n 0, .sl [] .full, .n 0, .sl [] .full, .n 0, .b false, .n 0, .n 0, .n 0, .n 0]]⟩) (QRm (gy.fin x0 x1)) hr (fun f hr => ?_) (fun v3 γ3 hr => ?_) (fun _ h => QRm_ret h)
      ·refine Try.tg hΓ [166] [137] (by kernel_rfl) rfl (by simp [h37]; exact rr) ?_
       refine AWp.cond (b := (eqI x1.fw 5)) (by simp) (fun h41 => ?_) (fun h41 => ?_)
       ·have hr := Li h41 hr
        refine AWp.skip ?_
        obtain rfl := La hr
        exact Ls () 8 (by first | (simp; done) | simp [h41])
       ·have hr := Lj h41 hr
        refine Try.tg hΓ [166] [] (by kernel_rfl) rfl (by simp [h41]; exact rr) ?_
        refine AWp.cond (b := (eqI x1.fw 6)) (by simp) (fun h42 => ?_) (fun h42 => ?_)
        ·have hr := Li h42 hr
         refine AWp.skip ?_
         obtain rfl := La hr
         exact Ls () 8 (by first | (simp; done) | simp [h42])
        ·have hr := Lj h42 hr
         refine AWp.lst (AWp.reg Try.tyOk hΓ [166] [23] (by kernel_rfl) rfl (by simp [h42]; exact rr)) ?_
         obtain rfl := La hr
         exact Ls () 8 (by first | (simp; done) | simp [h23, h27, h33, h37, h41, h42])
      ·refine AWp.cond (b := v3) (by simp) (fun h43 => ?_) (fun h43 => ?_)
       ·have hr := Li h43 hr
        obtain ⟨r11, h44, hr⟩ := Lc hr
        refine Try.tg hΓ [20, 21] [2, 3, 166] (by kernel_rfl) rfl (by simp [h43, h44]; exact rr) ?_
        refine Try.tg hΓ [5, 6] [20, 21] (by kernel_rfl) rfl (by simp; exact rr) ?_
        refine AWp.ret ?_
        obtain rfl := La hr
        refine meet_ret ?_
        refine Lf ?_
        simp
       ·have hr := Lj h43 hr
        refine AWp.skip ?_
        obtain rfl := La hr
        exact Ls () 8 (by first | (simp; done) | simp [h23, h27, h33, h37, h43])
 ·refine Try.tg hΓ [5, 6] [2] (by kernel_rfl) rfl (by simp; exact rr) ?_
  refine AWp.ret ?_
  obtain rfl := La hr
  refine Lf ?_
  simp

@[simp] noncomputable def gy.S : Sp
 | [.agg e0, .agg e1], M => match nthE e0 0 with
  | some (.ptr i0 0) => (match M[i0]? with
  | some (.blk c0) => (match nthE c0 5 with
  | some (.mp i1) => (match M[i1]? with
  | some (.own c1 none) => (match nthE c0 6 with
  | some (.ptr i2 0) => (match M[i2]? with
  | some (.blk c2) => (match nthE c2 1 with
  | some (.mp i3) => (match M[i3]? with
  | some (.mapo c3) => (match nthE c2 2 with
  | some (.mp i4) => (match M[i4]? with
  | some (.mapo c4) => (fun (y0 : Ts) => (fun (y1 : Th) => (fun (r : Ts × List Tc × Bool) => some { av := .tup [.agg [.ptr i0 0, .lit (.int .i64 (r.1.fX.fh)), .lit (.int .i64 (r.1.fX.fo)), .lit (.int .i64 (r.1.fX.fu)), .lit (.int .i64 (r.1.fX.fb)), .lit (.int .i64 (r.1.fX.fp)), .sl ((r.1.fX.fL).map Tj.enc) .no, .lit (.int .i64 (r.1.fX.fS.fb)), .sl ((r.1.fX.fS.fL).map Te.enc) .no, .lit (.int .i64 (r.1.fX.fS.fAt)), .lit (.bool (r.1.fX.fS.ff)), .lit (.int .i64 (r.1.fX.fc)), .lit (.int .i64 (r.1.fX.fd)), .lit (.int .i64 (r.1.fB)), .lit (.int .i64 (r.1.fN))], .sl ((r.2.1).map Tc.enc) .no, .lit (.bool (r.2.2))], M := some (((((M.set i0 (.blk [.lit (.int .i64 (r.1.fO.fe.fh)), .lit (.int .i64 (r.1.fO.fe.fo)), .lit (.int .i64 (r.1.fO.fe.fu)), .lit (.int .i64 (r.1.fO.fe.fb)), .lit (.int .i64 (r.1.fO.fe.fp)), .mp i1, .ptr i2 0, .lit (.int .i64 (r.1.fO.fc)), .lit (.int .i64 (r.1.fO.fd))])).set i1 (.own (Td.own .i64 (r.1.fO.fg) none) none)).set i2 (.blk [.lit (.int .i64 (r.1.fO.fa.fb)), .mp i3, .mp i4, .lit (.int .i64 (r.1.fO.fa.fAt)), .lit (.bool (r.1.fO.fa.ff))])).set i3 (.mapo (encM (kI .i64) (kI .i64) (r.1.fO.fa.fj)))).set i4 (.mapo (encM (kI .i64) (kI .i64) (r.1.fO.fa.fk)))), obl := WeakL e0 (Ts.enc y0 i0) ∧ WeakL e1 (Th.enc y1) ∧ c0 = Tg.enc (y0.fO) i1 i2 ∧ c1 = Td.own .i64 (y0.fO.fg) none ∧ c2 = Tq.enc (y0.fO.fa) i3 i4 ∧ c3 = encM (kI .i64) (kI .i64) (y0.fO.fa.fj) ∧ c4 = encM (kI .i64) (kI .i64) (y0.fO.fa.fk) ∧ (gy y0 y1).isSome = true ∧ i0 ≠ i1 ∧ i0 ≠ i2 ∧ i0 ≠ i3 ∧ i0 ≠ i4 ∧ i1 ≠ i2 ∧ i1 ≠ i3 ∧ i1 ≠ i4 ∧ i2 ≠ i3 ∧ i2 ≠ i4 ∧ i3 ≠ i4 }) ((gy y0 y1).getD dflt)) (Th.dec e1)) (Ts.dec e0 (Tg.dec c0 (decM dkI Td.dfl c1.data) (Tq.dec c2 (decM dkI dkI c3) (decM dkI dkI c4))))
  | _ => none)
  | _ => none)
  | _ => none)
  | _ => none)
  | _ => none)
  | _ => none)
  | _ => none)
  | _ => none)
  | _ => none)
  | _ => none
 | _, _ => none

theorem gy.ok : SpecOk Try.prog 15 gy.S := by
 intro l M out h
 unfold gy.S at h
 split at h
 ·rename_i e0 e1
  split at h
  case h_2 => cases h
  rename_i i0 he0
  split at h
  case h_2 => cases h
  rename_i c0 hM0
  split at h
  case h_2 => cases h
  rename_i i1 he1
  split at h
  case h_2 => cases h
  rename_i c1 hM1
  split at h
  case h_2 => cases h
  rename_i i2 he2
  split at h
  case h_2 => cases h
  rename_i c2 hM2
  split at h
  case h_2 => cases h
  rename_i i3 he3
  split at h
  case h_2 => cases h
  rename_i c3 hM3
  split at h
  case h_2 => cases h
  rename_i i4 he4
  split at h
  case h_2 => cases h
  rename_i c4 hM4
  try dsimp only at h
  cases h
  refine callOk_of fun ho => ?_
  obtain ⟨ox0, ox1, oc0, oc1, oc2, oc3, oc4, hs, hne0, hne1, hne2, hne3, hne4, hne5, hne6, hne7, hne8, hne9⟩ := ho
  generalize (Ts.dec e0 (Tg.dec c0 (decM dkI Td.dfl c1.data) (Tq.dec c2 (decM dkI dkI c3) (decM dkI dkI c4)))) = x0 at *
  generalize (Th.dec e1) = x1 at *
  subst oc0
  subst oc1
  subst oc2
  subst oc3
  subst oc4
  obtain ⟨r, hr⟩ := Option.isSome_iff_exists.1 hs
  simp only [hr, Option.getD_some]
  have q := Lk (M := M) [i0, i1, i2, i3, i4] (gy.can x0 x1 r hr) (by simp [hne0, hne1, hne2, hne3, hne4, hne5, hne6, hne7, hne8, hne9]) rfl (by intro k i hk; (cases k with | zero => (simp at hk; subst hk; simp [hM0, into]) | succ k => ((cases k with | zero => (simp at hk; subst hk; simp [hM1]) | succ k => ((cases k with | zero => (simp at hk; subst hk; simp [hM2, into]) | succ k => ((cases k with | zero => (simp at hk; subst hk; simp [hM3]) | succ k => ((cases k with | zero => (simp at hk; subst hk; simp [hM4]) | succ k => (simp at hk)))))))))))
  exact callOk_conv q trivial (by simp [into]; exact ⟨ox0, ox1⟩) (by simp [frameOut, gy.out, into]) (by simp [frameOut, gy.out, into])
 ·cases h
end Go.Proofs

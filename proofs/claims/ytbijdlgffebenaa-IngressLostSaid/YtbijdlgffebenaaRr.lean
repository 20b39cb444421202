/- That these functions compute what their plain functions do. No condition. -/
import Derived.Test.YtbijdlgffebenaaQ02
import Derived.Test.YtbijdlgffebenaaTy
import Derived.Test.YtbijdlgffebenaaRo
set_option maxRecDepth 100000
set_option maxHeartbeats 4000000
namespace Go.Proofs
open Go.Ab
@[simp] def gr.out (_x0 : Tg) (r : Int) : Out := { av := .lit (.int .i64 r), M := none }
def gr.fin (x0 : Tg) (r : Int) (σ : St) : Prop := finK (gr.out x0 r) [.blk (x0.fb.enc ++ [.lit (.bool x0.fd), .lit (.int .i64 x0.fg), .mp 1, .lit (.int .i64 x0.fe)]), .mapo (encM (kI .i64) (vA Ta.enc) x0.fOf)] σ.M (resA Try.ty σ.A σ.M Try.f45.results.toList)
theorem gr.can (x0 : Tg) (r : Int) (hr : gr x0 = some r) : CallOk Try.prog 45 [.ptr 0 0] [.blk (x0.fb.enc ++ [.lit (.bool x0.fd), .lit (.int .i64 x0.fg), .mp 1, .lit (.int .i64 x0.fe)]), .mapo (encM (kI .i64) (vA Ta.enc) x0.fOf)] (gr.out x0 r) := by
 unfold gr at hr
 have hΓ := (gamL_cons libKeys.gMapsKeysMapInt64ReorderThingInt64ReorderThing.ok (gamL_cons libCollect.gSlicesCollectInt64.ok (gamL_cons libMin.gh.ok (gamL_nil))) : GamOk Try.prog _)
 refine Lf Try.tyOk Try.func45 rfl (by kernel_rfl) rfl rfl (by simp) ?_
 intro _ _ _
 refine AWp.then ⟨[⟨0, none, .ptr 0 0⟩], [.blk (x0.fb.enc ++ [.b x0.fd, .n x0.fg, .mp 1, .n x0.fe]), .mapo (encM (kI .i64) (vA Ta.enc) x0.fOf)]⟩ (AWp.reg Try.tyOk hΓ [] [] (by kernel_rfl) rfl (by simp)) ?_
 obtain ⟨h3, hr⟩ := Li hr
 obtain ⟨h4, hr⟩ := Li hr
 refine AWp.thenA [⟨2, none, .n (minL (keysM x0.fOf))⟩] (AWp.reg Try.tyOk hΓ [2] [0] (by kernel_rfl) rfl (by simp [h3, h4])) ?_
 refine AWp.ret ?_
 obtain rfl := La hr
 refine Lg ?_
 simp

@[simp] noncomputable def gr.S : Sp
 | [.ptr i0 0], M => match M[i0]? with
  | some (.blk c0) => (match nthE c0 4 with
  | some (.mp i1) => (match M[i1]? with
  | some (.mapo c1) => (fun (y0 : Tg) => some { av := .lit (.int .i64 ((gr y0).getD dflt)), M := none, obl := c0 = Tg.enc y0 i1 ∧ c1 = encM (kI .i64) (vA Ta.enc) (y0.fOf) ∧ (gr y0).isSome = true ∧ i0 ≠ i1 }) (Tg.dec c0 (decM dkI (dvA Ta.dec) c1))
  | _ => none)
  | _ => none)
  | _ => none
 | _, _ => none

theorem gr.ok : SpecOk Try.prog 45 gr.S := by
 intro l M out h
 unfold gr.S at h
 split at h
 ·rename_i i0
  split at h
  case h_2 => cases h
  rename_i c0 hM0
  split at h
  case h_2 => cases h
  rename_i i1 he1
  split at h
  case h_2 => cases h
  rename_i c1 hM1
  try dsimp only at h
  cases h
  refine callOk_of fun ho => ?_
  obtain ⟨oc0, oc1, hs, hne0⟩ := ho
  generalize (Tg.dec c0 (decM dkI (dvA Ta.dec) c1)) = y0 at *
  subst oc0
  subst oc1
  obtain ⟨r, hr⟩ := Option.isSome_iff_exists.1 hs
  simp only [hr, Option.getD_some]
  have q := Lh (M := M) [i0, i1] (gr.can y0 r hr) (by simp [hne0]) rfl (by intro k i hk; (cases k with | zero => (simp at hk; subst hk; simp [hM0, into]) | succ k => ((cases k with | zero => (simp at hk; subst hk; simp [hM1]) | succ k => (simp at hk)))))
  exact callOk_conv q trivial (by simp [into]) (by simp [frameOut, gr.out, into]) (by simp only [frameOut, gr.out, Option.getD_some, Option.getD_none]; simp [into, hM0, hM1, set_same])
 ·cases h

@[simp] def gw.out (_x0 : Tg) (r : List Ta × Nat × Tg) : Out := { av := .sl (r.1.map Ta.enc) (.own 2 r.2.1 3), M := some [.blk [.lit (.int .i64 r.2.2.fb.fk), .lit (.int .i64 r.2.2.fb.fq), .lit (.bool r.2.2.fd), .lit (.int .i64 r.2.2.fg), .mp 1, .lit (.int .i64 r.2.2.fe)], .mapo (encM (kI .i64) (vA Ta.enc) r.2.2.fOf), .room r.2.1] }
def gw.fin (x0 : Tg) (r : List Ta × Nat × Tg) (σ : St) : Prop := finK (gw.out x0 r) [.blk (x0.fb.enc ++ [.lit (.bool x0.fd), .lit (.int .i64 x0.fg), .mp 1, .lit (.int .i64 x0.fe)]), .mapo (encM (kI .i64) (vA Ta.enc) x0.fOf)] σ.M (resA Try.ty σ.A σ.M Try.f42.results.toList)
theorem gw.can (x0 : Tg) (r : List Ta × Nat × Tg) (hr : gw x0 = some r) : CallOk Try.prog 42 [.ptr 0 0] [.blk (x0.fb.enc ++ [.lit (.bool x0.fd), .lit (.int .i64 x0.fg), .mp 1, .lit (.int .i64 x0.fe)]), .mapo (encM (kI .i64) (vA Ta.enc) x0.fOf)] (gw.out x0 r) := by
 unfold gw at hr
 have hΓ := (gamL_cons gr.ok (gamL_cons gi.ok (gamL_nil)) : GamOk Try.prog _)
 refine Lf Try.tyOk Try.func42 rfl (by kernel_rfl) rfl rfl (by simp) ?_
 intro _ _ _
 refine AWp.then ⟨[⟨0, none, .ptr 0 0⟩], [.blk (x0.fb.enc ++ [.b x0.fd, .n x0.fg, .mp 1, .n x0.fe]), .mapo (encM (kI .i64) (vA Ta.enc) x0.fOf)]⟩ (AWp.reg Try.tyOk hΓ [] [] (by kernel_rfl) rfl (by simp)) ?_
 obtain ⟨r1, h3, hr⟩ := Lc hr
 refine AWp.thenA [⟨3, none, .n r1⟩, ⟨0, none, .ptr 0 0⟩] (AWp.reg Try.tyOk hΓ [3] [] (by kernel_rfl) rfl (by simp [h3])) ?_
 refine AWp.then ⟨[⟨3, none, .n r1⟩, ⟨0, none, .ptr 0 0⟩], [.blk (x0.fb.enc ++ [.b x0.fd, .n x0.fg, .mp 1, .n (addI .i64 x0.fe (subI .i64 r1 x0.fg))]), .mapo (encM (kI .i64) (vA Ta.enc) x0.fOf)]⟩ (AWp.regD Try.mixed Try.tyOk hΓ [] [] [] [(false, []), (false, []), (false, []), (false, []), (false, []), (false, []), (false, []), (false, []), (false, []), (false, []), (false, []), (false, []), (false, []), (true, [])] (by kernel_rfl) rfl (by simp)) ?_
 refine AWp.then ⟨[⟨0, none, .ptr 0 0⟩], [.blk (x0.fb.enc ++ [.b x0.fd, .n r1, .mp 1, .n (addI .i64 x0.fe (subI .i64 r1 x0.fg))]), .mapo (encM (kI .i64) (vA Ta.enc) x0.fOf)]⟩ (AWp.reg Try.tyOk hΓ [] [3] (by kernel_rfl) rfl (by simp)) ?_
 obtain ⟨r2, h4, hr⟩ := Lc hr
 refine AWp.then ⟨[⟨2, none, .sl (r2.1.map Ta.enc) (.own 2 r2.2.1 3)⟩], [.blk (r2.2.2.fb.enc ++ [.b r2.2.2.fd, .n r2.2.2.fg, .mp 1, .n r2.2.2.fe]), .mapo (encM (kI .i64) (vA Ta.enc) r2.2.2.fOf), .room r2.2.1]⟩ (AWp.reg Try.tyOk hΓ [2] [0] (by kernel_rfl) rfl (by simp [h4])) ?_
 refine AWp.ret ?_
 obtain rfl := La hr
 refine Lg ?_
 simp

@[simp] noncomputable def gw.S : Sp
 | [.ptr i0 0], M => match M[i0]? with
  | some (.blk c0) => (match nthE c0 4 with
  | some (.mp i1) => (match M[i1]? with
  | some (.mapo c1) => (fun (y0 : Tg) => (fun (r : List Ta × Nat × Tg) => some { av := .sl ((r.1).map Ta.enc) (.own M.length (r.2.1) 3), M := some (((M.set i0 (.blk [.lit (.int .i64 (r.2.2.fb.fk)), .lit (.int .i64 (r.2.2.fb.fq)), .lit (.bool (r.2.2.fd)), .lit (.int .i64 (r.2.2.fg)), .mp i1, .lit (.int .i64 (r.2.2.fe))])).set i1 (.mapo (encM (kI .i64) (vA Ta.enc) (r.2.2.fOf)))) ++ [.room (r.2.1)]), obl := c0 = Tg.enc y0 i1 ∧ c1 = encM (kI .i64) (vA Ta.enc) (y0.fOf) ∧ (gw y0).isSome = true ∧ i0 ≠ i1 }) ((gw y0).getD dflt)) (Tg.dec c0 (decM dkI (dvA Ta.dec) c1))
  | _ => none)
  | _ => none)
  | _ => none
 | _, _ => none

theorem gw.ok : SpecOk Try.prog 42 gw.S := by
 intro l M out h
 unfold gw.S at h
 split at h
 ·rename_i i0
  split at h
  case h_2 => cases h
  rename_i c0 hM0
  split at h
  case h_2 => cases h
  rename_i i1 he1
  split at h
  case h_2 => cases h
  rename_i c1 hM1
  try dsimp only at h
  cases h
  refine callOk_of fun ho => ?_
  obtain ⟨oc0, oc1, hs, hne0⟩ := ho
  generalize (Tg.dec c0 (decM dkI (dvA Ta.dec) c1)) = y0 at *
  subst oc0
  subst oc1
  obtain ⟨r, hr⟩ := Option.isSome_iff_exists.1 hs
  simp only [hr, Option.getD_some]
  have q := Lh (M := M) [i0, i1] (gw.can y0 r hr) (by simp [hne0]) rfl (by intro k i hk; (cases k with | zero => (simp at hk; subst hk; simp [hM0, into]) | succ k => ((cases k with | zero => (simp at hk; subst hk; simp [hM1]) | succ k => (simp at hk)))))
  exact callOk_conv q trivial (by simp [into]) (by simp [frameOut, gw.out, into]) (by simp [frameOut, gw.out, into])
 ·cases h

@[simp] def gm.out (_x0 : Tg) (_x1 : Ta) (r : List Ta × Int × Tg) : Out := { av := .tup [.sl (r.1.map Ta.enc) .no, .lit (.int .i64 r.2.1)], M := some [.blk [.lit (.int .i64 r.2.2.fb.fk), .lit (.int .i64 r.2.2.fb.fq), .lit (.bool r.2.2.fd), .lit (.int .i64 r.2.2.fg), .mp 1, .lit (.int .i64 r.2.2.fe)], .mapo (encM (kI .i64) (vA Ta.enc) r.2.2.fOf)] }
def gm.fin (x0 : Tg) (x1 : Ta) (r : List Ta × Int × Tg) (σ : St) : Prop := finK (gm.out x0 x1 r) [.blk (x0.fb.enc ++ [.lit (.bool x0.fd), .lit (.int .i64 x0.fg), .mp 1, .lit (.int .i64 x0.fe)]), .mapo (encM (kI .i64) (vA Ta.enc) x0.fOf)] σ.M (resA Try.ty σ.A σ.M Try.f27.results.toList)
theorem gm.can (x0 : Tg) (x1 : Ta) (r : List Ta × Int × Tg) (hr : gm x0 x1 = some r) : CallOk Try.prog 27 [.ptr 0 0, .agg [.lit (.int .i64 x1.fAt), .lit (.string x1.fT), .lit (.int .i64 x1.fO)]] [.blk (x0.fb.enc ++ [.lit (.bool x0.fd), .lit (.int .i64 x0.fg), .mp 1, .lit (.int .i64 x0.fe)]), .mapo (encM (kI .i64) (vA Ta.enc) x0.fOf)] (gm.out x0 x1 r) := by
 unfold gm at hr
 have hΓ := (gamL_cons gi.ok (gamL_cons gw.ok (gamL_nil)) : GamOk Try.prog _)
 refine Lf Try.tyOk Try.func27 rfl (by kernel_rfl) rfl rfl (by simp) ?_
 intro _ _ _
 refine AWp.then ⟨[⟨3, none, .ptr 2 0⟩, ⟨0, none, .ptr 0 0⟩], [.blk (x0.fb.enc ++ [.b x0.fd, .n x0.fg, .mp 1, .n x0.fe]), .mapo (encM (kI .i64) (vA Ta.enc) x0.fOf), .blk x1.enc]⟩ (AWp.reg Try.tyOk hΓ [3] [1] (by kernel_rfl) rfl (by simp)) ?_
 refine AWp.meetF (fun (v1 : Bool × Int) (γ1 : Unit) => ⟨[⟨3, none, .ptr 2 0⟩, ⟨0, none, .ptr 0 0⟩], [.blk (x0.fb.enc ++ [.b v1.1, .n v1.2, .mp 1, .n x0.fe]), .mapo (encM (kI .i64) (vA Ta.enc) x0.fOf), .blk x1.enc]⟩) (gm.fin x0 x1) hr (fun f hr => ?_) (fun v1 γ1 hr => ?_) (fun _ h => h)
 ·refine AWp.then ⟨[⟨13, none, .b (notB x0.fd)⟩, ⟨3, none, .ptr 2 0⟩, ⟨0, none, .ptr 0 0⟩], [.blk (x0.fb.enc ++ [.b x0.fd, .n x0.fg, .mp 1, .n x0.fe]), .mapo (encM (kI .i64) (vA Ta.enc) x0.fOf), .blk x1.enc]⟩ (AWp.reg Try.tyOk hΓ [13] [] (by kernel_rfl) rfl (by simp)) ?_
  refine AWp.cond (b := (notB x0.fd)) (by simp) (fun h8 => ?_) (fun h8 => ?_)
  ·have hr := Lj h8 hr
   refine AWp.last ⟨[⟨3, none, .ptr 2 0⟩, ⟨0, none, .ptr 0 0⟩], [.blk (x0.fb.enc ++ [.b true, .n x1.fAt, .mp 1, .n x0.fe]), .mapo (encM (kI .i64) (vA Ta.enc) x0.fOf), .blk x1.enc]⟩ (AWp.regD Try.mixed Try.tyOk hΓ [] [13] [(1, 7), (2, 7), (3, 7)] [(false, []), (false, []), (false, []), (false, []), (false, []), (false, []), (true, []), (false, []), (false, []), (true, [])] (by kernel_rfl) rfl (by simp [h8])) ?_
   obtain rfl := La hr
   exact Lo () 3 (by first | (simp; done) | simp [h8])
  ·have hr := Lk h8 hr
   refine AWp.skip ?_
   obtain rfl := La hr
   exact Lo () 3 (by first | (simp; done) | simp [h8])
 ·refine AWp.seq ?_
  refine AWp.then ⟨[⟨28, none, .b (ltI x1.fAt v1.2)⟩, ⟨3, none, .ptr 2 0⟩, ⟨0, none, .ptr 0 0⟩], [.blk (x0.fb.enc ++ [.b v1.1, .n v1.2, .mp 1, .n x0.fe]), .mapo (encM (kI .i64) (vA Ta.enc) x0.fOf), .blk x1.enc]⟩ (AWp.regD Try.mixed Try.tyOk hΓ [28] [] [] [(false, []), (false, []), (false, []), (false, []), (false, []), (false, []), (false, [])] (by kernel_rfl) rfl (by simp)) ?_
  refine AWp.cond (b := (ltI x1.fAt v1.2)) (by simp) (fun h9 => ?_) (fun h9 => ?_)
  ·have hr := Lj h9 hr
   refine AWp.thenA [⟨4, none, .sl [] .full⟩, ⟨5, none, .n 13⟩] (AWp.reg Try.tyOk hΓ [4, 5] [28, 3, 0] (by kernel_rfl) rfl (by simp [h9])) ?_
   refine AWp.ret ?_
   obtain rfl := La hr
   refine Lg ?_
   simp
  ·have hr := Lk h9 hr
   refine AWp.skip ?_
   refine AWp.seq ?_
   refine AWp.then ⟨[⟨7, none, .b (hasM eqI x1.fAt x0.fOf)⟩, ⟨3, none, .ptr 2 0⟩, ⟨0, none, .ptr 0 0⟩], [.blk (x0.fb.enc ++ [.b v1.1, .n v1.2, .mp 1, .n x0.fe]), .mapo (encM (kI .i64) (vA Ta.enc) x0.fOf), .blk x1.enc, .blk (getM eqI x1.fAt (Ta.mk 0 ⟨⟨[]⟩⟩ 0) x0.fOf).enc]⟩ (AWp.regD Try.mixed Try.tyOk hΓ [7] [28] [(0, 11), (1, 11), (2, 11), (3, 11), (4, 11), (5, 11), (6, 11), (7, 11), (8, 11), (9, 11), (9, 12)] [(false, []), (false, []), (false, []), (false, []), (false, []), (false, []), (false, []), (false, []), (false, []), (false, []), (true, []), (true, []), (false, [])] (by kernel_rfl) rfl (by simp [h9])) ?_
   refine AWp.thenA [⟨39, none, .b (hasM eqI x1.fAt x0.fOf)⟩, ⟨3, none, .ptr 2 0⟩, ⟨0, none, .ptr 0 0⟩] (AWp.reg Try.tyOk hΓ [39] [7] (by kernel_rfl) rfl (by simp)) ?_
   refine AWp.cond (b := (hasM eqI x1.fAt x0.fOf)) (by simp) (fun h10 => ?_) (fun h10 => ?_)
   ·have hr := Lj h10 hr
    refine AWp.thenA [⟨4, none, .sl [] .full⟩, ⟨5, none, .n 14⟩] (AWp.reg Try.tyOk hΓ [4, 5] [39, 3, 0] (by kernel_rfl) rfl (by simp [h10])) ?_
    refine AWp.ret ?_
    obtain rfl := La hr
    refine Lg ?_
    simp
   ·have hr := Lk h10 hr
    refine AWp.skip ?_
    refine AWp.then ⟨[⟨0, none, .ptr 0 0⟩], [.blk (x0.fb.enc ++ [.b v1.1, .n v1.2, .mp 1, .n x0.fe]), .mapo (encM (kI .i64) (vA Ta.enc) (setM eqI x1.fAt x1 x0.fOf)), .blk x1.enc, .blk (getM eqI x1.fAt (Ta.mk 0 ⟨⟨[]⟩⟩ 0) x0.fOf).enc]⟩ (AWp.regD Try.mixed Try.tyOk hΓ [] [39, 3] [] [(false, []), (false, []), (false, []), (false, []), (false, []), (false, []), (false, []), (true, [])] (by kernel_rfl) rfl (by simp [h10])) ?_
    obtain ⟨r1, h11, hr⟩ := Lc hr
    refine AWp.then ⟨[⟨8, none, .sl (r1.1.map Ta.enc) (.own 4 r1.2.1 3)⟩, ⟨0, none, .ptr 0 0⟩], [.blk (r1.2.2.fb.enc ++ [.b r1.2.2.fd, .n r1.2.2.fg, .mp 1, .n r1.2.2.fe]), .mapo (encM (kI .i64) (vA Ta.enc) r1.2.2.fOf), .blk x1.enc, .blk (getM eqI x1.fAt (Ta.mk 0 ⟨⟨[]⟩⟩ 0) x0.fOf).enc, .room r1.2.1]⟩ (AWp.reg Try.tyOk hΓ [8] [] (by kernel_rfl) rfl (by simp [h11])) ?_
    refine AWp.loopB (fun (s2 : List Ta × Tk × Bool × Int × Int × (List (Int × Ta))) (γ2 : Nat) => ⟨[⟨8, none, .sl (s2.1.map Ta.enc) (.own 4 (γ2) 3)⟩, ⟨0, none, .ptr 0 0⟩], [.blk (s2.2.1.enc ++ [.b s2.2.2.1, .n s2.2.2.2.1, .mp 1, .n s2.2.2.2.2.1]), .mapo (encM (kI .i64) (vA Ta.enc) s2.2.2.2.2.2), .blk x1.enc, .blk (getM eqI x1.fAt (Ta.mk 0 ⟨⟨[]⟩⟩ 0) x0.fOf).enc, .room (γ2)]⟩) (fun (v2 : List Ta × Tk × Bool × Int × Int × (List (Int × Ta))) (γ2a : Nat) => ⟨[⟨8, none, .sl (v2.1.map Ta.enc) (.own 4 (γ2a) 3)⟩], [.blk (v2.2.1.enc ++ [.b v2.2.2.1, .n v2.2.2.2.1, .mp 1, .n v2.2.2.2.2.1]), .mapo (encM (kI .i64) (vA Ta.enc) v2.2.2.2.2.2), .blk x1.enc, .blk (getM eqI x1.fAt (Ta.mk 0 ⟨⟨[]⟩⟩ 0) x0.fOf).enc, .room (γ2a)]⟩) (gm.fin x0 x1) hr r1.2.1 5 (by simp) (fun s2 f γ2 hr => ?_) (fun v2 γ2a hr => ?_) (fun _ h => h)
    ·unfold gm.loop2 at hr
     refine AWp.seq ?_
     refine AWp.then ⟨[⟨59, none, .b (ltI s2.2.1.fk (lenL s2.2.2.2.2.2))⟩, ⟨8, none, .sl (s2.1.map Ta.enc) (.own 4 (γ2) 3)⟩, ⟨0, none, .ptr 0 0⟩], [.blk (s2.2.1.enc ++ [.b s2.2.2.1, .n s2.2.2.2.1, .mp 1, .n s2.2.2.2.2.1]), .mapo (encM (kI .i64) (vA Ta.enc) s2.2.2.2.2.2), .blk x1.enc, .blk (getM eqI x1.fAt (Ta.mk 0 ⟨⟨[]⟩⟩ 0) x0.fOf).enc, .room (γ2)]⟩ (AWp.regD Try.mixed Try.tyOk hΓ [59] [] [] [(false, []), (false, []), (false, []), (false, []), (false, []), (false, []), (false, []), (false, []), (false, []), (false, []), (false, [])] (by kernel_rfl) rfl (by simp)) ?_
     refine AWp.cond (b := (ltI s2.2.1.fk (lenL s2.2.2.2.2.2))) (by simp) (fun h12 => ?_) (fun h12 => ?_)
     ·have hr := Lj h12 hr
      refine AWp.skip ?_
      refine AWp.block ?_
      obtain ⟨r2, h13, hr⟩ := Lc hr
      obtain ⟨h14, hr⟩ := Li hr
      refine AWp.last ⟨[⟨8, none, .sl ((appL s2.1 r2.1).map Ta.enc) (.own 4 (γ2 + 1) 3)⟩, ⟨0, none, .ptr 0 0⟩], [.blk (r2.2.2.fb.enc ++ [.b r2.2.2.fd, .n r2.2.2.fg, .mp 1, .n r2.2.2.fe]), .mapo (encM (kI .i64) (vA Ta.enc) r2.2.2.fOf), .blk x1.enc, .blk (getM eqI x1.fAt (Ta.mk 0 ⟨⟨[]⟩⟩ 0) x0.fOf).enc, .room (γ2 + 1), .room r2.2.1]⟩ (AWp.reg Try.tyOk hΓ [8] [59] (by kernel_rfl) rfl (by simp [h12, h13, h14])) ?_
      obtain rfl := La hr
      exact round_go (γ2 + 1) 5 (by first | (simp; done) | simp [h9, h10, h11, h12, h13, h14])
     ·have hr := Lk h12 hr
      refine AWp.exit ?_
      obtain rfl := La hr
      exact round_out (γ2) 5 (by first | (simp; done) | simp [h9, h10, h11, h12])
    ·refine AWp.then ⟨[⟨4, none, .sl (v2.1.map Ta.enc) (.own 4 (γ2a) 3)⟩, ⟨5, none, .n 0⟩], [.blk (v2.2.1.enc ++ [.b v2.2.2.1, .n v2.2.2.2.1, .mp 1, .n v2.2.2.2.2.1]), .mapo (encM (kI .i64) (vA Ta.enc) v2.2.2.2.2.2), .blk x1.enc, .blk (getM eqI x1.fAt (Ta.mk 0 ⟨⟨[]⟩⟩ 0) x0.fOf).enc, .room (γ2a)]⟩ (AWp.reg Try.tyOk hΓ [4, 5] [8] (by kernel_rfl) rfl (by simp)) ?_
     refine AWp.ret ?_
     obtain rfl := La hr
     refine Lg ?_
     simp

@[simp] noncomputable def gm.S : Sp
 | [.ptr i0 0, .agg e1], M => match M[i0]? with
  | some (.blk c0) => (match nthE c0 4 with
  | some (.mp i1) => (match M[i1]? with
  | some (.mapo c1) => (fun (y0 : Tg) => (fun (y1 : Ta) => (fun (r : List Ta × Int × Tg) => some { av := .tup [.sl ((r.1).map Ta.enc) .no, .lit (.int .i64 (r.2.1))], M := some ((M.set i0 (.blk [.lit (.int .i64 (r.2.2.fb.fk)), .lit (.int .i64 (r.2.2.fb.fq)), .lit (.bool (r.2.2.fd)), .lit (.int .i64 (r.2.2.fg)), .mp i1, .lit (.int .i64 (r.2.2.fe))])).set i1 (.mapo (encM (kI .i64) (vA Ta.enc) (r.2.2.fOf)))), obl := WeakL e1 (Ta.enc y1) ∧ c0 = Tg.enc y0 i1 ∧ c1 = encM (kI .i64) (vA Ta.enc) (y0.fOf) ∧ (gm y0 y1).isSome = true ∧ i0 ≠ i1 }) ((gm y0 y1).getD dflt)) (Ta.dec e1)) (Tg.dec c0 (decM dkI (dvA Ta.dec) c1))
  | _ => none)
  | _ => none)
  | _ => none
 | _, _ => none

theorem gm.ok : SpecOk Try.prog 27 gm.S := by
 intro l M out h
 unfold gm.S at h
 split at h
 ·rename_i i0 e1
  split at h
  case h_2 => cases h
  rename_i c0 hM0
  split at h
  case h_2 => cases h
  rename_i i1 he1
  split at h
  case h_2 => cases h
  rename_i c1 hM1
  try dsimp only at h
  cases h
  refine callOk_of fun ho => ?_
  obtain ⟨ox1, oc0, oc1, hs, hne0⟩ := ho
  generalize (Tg.dec c0 (decM dkI (dvA Ta.dec) c1)) = y0 at *
  generalize (Ta.dec e1) = x1 at *
  subst oc0
  subst oc1
  obtain ⟨r, hr⟩ := Option.isSome_iff_exists.1 hs
  simp only [hr, Option.getD_some]
  have q := Lh (M := M) [i0, i1] (gm.can y0 x1 r hr) (by simp [hne0]) rfl (by intro k i hk; (cases k with | zero => (simp at hk; subst hk; simp [hM0, into]) | succ k => ((cases k with | zero => (simp at hk; subst hk; simp [hM1]) | succ k => (simp at hk)))))
  exact callOk_conv q trivial (by simp [into]; exact ox1) (by simp [frameOut, gm.out, into]) (by simp [frameOut, gm.out, into])
 ·cases h

@[simp] def gk.out (_x0 : Tg) (_x1 : Int) (r : List Ta × Tg) : Out := { av := .sl (r.1.map Ta.enc) .no, M := some [.blk [.lit (.int .i64 r.2.fb.fk), .lit (.int .i64 r.2.fb.fq), .lit (.bool r.2.fd), .lit (.int .i64 r.2.fg), .mp 1, .lit (.int .i64 r.2.fe)], .mapo (encM (kI .i64) (vA Ta.enc) r.2.fOf)] }
def gk.fin (x0 : Tg) (x1 : Int) (r : List Ta × Tg) (σ : St) : Prop := finK (gk.out x0 x1 r) [.blk (x0.fb.enc ++ [.lit (.bool x0.fd), .lit (.int .i64 x0.fg), .mp 1, .lit (.int .i64 x0.fe)]), .mapo (encM (kI .i64) (vA Ta.enc) x0.fOf)] σ.M (resA Try.ty σ.A σ.M Try.f32.results.toList)
theorem gk.can (x0 : Tg) (x1 : Int) (r : List Ta × Tg) (hr : gk x0 x1 = some r) : CallOk Try.prog 32 [.ptr 0 0, .lit (.int .i64 x1)] [.blk (x0.fb.enc ++ [.lit (.bool x0.fd), .lit (.int .i64 x0.fg), .mp 1, .lit (.int .i64 x0.fe)]), .mapo (encM (kI .i64) (vA Ta.enc) x0.fOf)] (gk.out x0 x1 r) := by
 unfold gk at hr
 have hΓ := (gamL_cons gr.ok (gamL_cons gw.ok (gamL_nil)) : GamOk Try.prog _)
 refine Lf Try.tyOk Try.func32 rfl (by kernel_rfl) rfl rfl (by simp) ?_
 intro _ _ _
 refine AWp.then ⟨[⟨0, none, .ptr 0 0⟩, ⟨1, none, .n x1⟩], [.blk (x0.fb.enc ++ [.b x0.fd, .n x0.fg, .mp 1, .n x0.fe]), .mapo (encM (kI .i64) (vA Ta.enc) x0.fOf)]⟩ (AWp.reg Try.tyOk hΓ [] [] (by kernel_rfl) rfl (by simp)) ?_
 refine AWp.thenA [⟨5, none, .sl [] .full⟩, ⟨0, none, .ptr 0 0⟩, ⟨1, none, .n x1⟩] (AWp.reg Try.tyOk hΓ [5] [] (by kernel_rfl) rfl (by simp)) ?_
 refine AWp.equip 5 3 (els := []) (by simp) (by simp) ?_
 refine AWp.loopB (fun (s1 : List Ta × Tk × Bool × Int × Int × (List (Int × Ta))) (γ1 : Nat) => ⟨[⟨5, none, .sl (s1.1.map Ta.enc) (.own 2 (γ1) 3)⟩, ⟨0, none, .ptr 0 0⟩, ⟨1, none, .n x1⟩], [.blk (s1.2.1.enc ++ [.b s1.2.2.1, .n s1.2.2.2.1, .mp 1, .n s1.2.2.2.2.1]), .mapo (encM (kI .i64) (vA Ta.enc) s1.2.2.2.2.2), .room (γ1)]⟩) (fun (v1 : List Ta × Tk × Bool × Int × Int × (List (Int × Ta))) (γ1a : Nat) => ⟨[⟨5, none, .sl (v1.1.map Ta.enc) (.own 2 (γ1a) 3)⟩], [.blk (v1.2.1.enc ++ [.b v1.2.2.1, .n v1.2.2.2.1, .mp 1, .n v1.2.2.2.2.1]), .mapo (encM (kI .i64) (vA Ta.enc) v1.2.2.2.2.2), .room (γ1a)]⟩) (gk.fin x0 x1) hr 0 3 (by simp) (fun s1 f γ1 hr => ?_) (fun v1 γ1a hr => ?_) (fun _ h => h)
 ·unfold gk.loop1 at hr
  refine AWp.seq ?_
  refine AWp.then ⟨[⟨11, none, .b (ltI 0 (lenL s1.2.2.2.2.2))⟩, ⟨5, none, .sl (s1.1.map Ta.enc) (.own 2 (γ1) 3)⟩, ⟨0, none, .ptr 0 0⟩, ⟨1, none, .n x1⟩], [.blk (s1.2.1.enc ++ [.b s1.2.2.1, .n s1.2.2.2.1, .mp 1, .n s1.2.2.2.2.1]), .mapo (encM (kI .i64) (vA Ta.enc) s1.2.2.2.2.2), .room (γ1)]⟩ (AWp.reg Try.tyOk hΓ [11] [] (by kernel_rfl) rfl (by simp)) ?_
  refine AWp.cond (b := (ltI 0 (lenL s1.2.2.2.2.2))) (by simp) (fun h6 => ?_) (fun h6 => ?_)
  ·have hr := Lj h6 hr
   refine AWp.skip ?_
   refine AWp.block ?_
   refine AWp.seq ?_
   obtain ⟨r1, h7, hr⟩ := Lc hr
   refine AWp.then ⟨[⟨27, none, .b (ltI (subI .i64 x1 ((getM eqI r1 (Ta.mk 0 ⟨⟨[]⟩⟩ 0) s1.2.2.2.2.2).fO)) s1.2.1.fq)⟩, ⟨5, none, .sl (s1.1.map Ta.enc) (.own 2 (γ1) 3)⟩, ⟨0, none, .ptr 0 0⟩, ⟨1, none, .n x1⟩], [.blk (s1.2.1.enc ++ [.b s1.2.2.1, .n s1.2.2.2.1, .mp 1, .n s1.2.2.2.2.1]), .mapo (encM (kI .i64) (vA Ta.enc) s1.2.2.2.2.2), .room (γ1)]⟩ (AWp.regD Try.mixed Try.tyOk hΓ [27] [11] [] [(false, []), (false, []), (false, []), (false, []), (false, []), (false, []), (false, []), (false, []), (false, []), (false, []), (false, []), (false, []), (false, []), (false, []), (false, []), (false, [])] (by kernel_rfl) rfl (by simp [h6, h7])) ?_
   refine AWp.cond (b := (ltI (subI .i64 x1 ((getM eqI r1 (Ta.mk 0 ⟨⟨[]⟩⟩ 0) s1.2.2.2.2.2).fO)) s1.2.1.fq)) (by simp) (fun h8 => ?_) (fun h8 => ?_)
   ·have hr := Lj h8 hr
    refine AWp.exit ?_
    refine blockS_other (by decide) ?_
    obtain rfl := La hr
    exact round_out (γ1) 3 (by first | (simp; done) | simp [h6, h7, h8])
   ·have hr := Lk h8 hr
    refine AWp.skip ?_
    obtain ⟨r2, h9, hr⟩ := Lc hr
    obtain ⟨h10, hr⟩ := Li hr
    refine AWp.last ⟨[⟨5, none, .sl ((appL s1.1 r2.1).map Ta.enc) (.own 2 (γ1 + 1) 3)⟩, ⟨0, none, .ptr 0 0⟩, ⟨1, none, .n x1⟩], [.blk (r2.2.2.fb.enc ++ [.b r2.2.2.fd, .n r2.2.2.fg, .mp 1, .n r2.2.2.fe]), .mapo (encM (kI .i64) (vA Ta.enc) r2.2.2.fOf), .room (γ1 + 1), .room r2.2.1]⟩ (AWp.reg Try.tyOk hΓ [5] [27] (by kernel_rfl) rfl (by simp [h8, h9, h10])) ?_
    obtain rfl := La hr
    exact round_go (γ1 + 1) 3 (by first | (simp; done) | simp [h6, h7, h8, h9, h10])
  ·have hr := Lk h6 hr
   refine AWp.exit ?_
   obtain rfl := La hr
   exact round_out (γ1) 3 (by first | (simp; done) | simp [h6])
 ·refine AWp.then ⟨[⟨4, none, .sl (v1.1.map Ta.enc) (.own 2 (γ1a) 3)⟩], [.blk (v1.2.1.enc ++ [.b v1.2.2.1, .n v1.2.2.2.1, .mp 1, .n v1.2.2.2.2.1]), .mapo (encM (kI .i64) (vA Ta.enc) v1.2.2.2.2.2), .room (γ1a)]⟩ (AWp.reg Try.tyOk hΓ [4] [5] (by kernel_rfl) rfl (by simp)) ?_
  refine AWp.ret ?_
  obtain rfl := La hr
  refine Lg ?_
  simp

@[simp] noncomputable def gk.S : Sp
 | [.ptr i0 0, .lit (.int .i64 x1)], M => match M[i0]? with
  | some (.blk c0) => (match nthE c0 4 with
  | some (.mp i1) => (match M[i1]? with
  | some (.mapo c1) => (fun (y0 : Tg) => (fun (r : List Ta × Tg) => some { av := .sl ((r.1).map Ta.enc) .no, M := some ((M.set i0 (.blk [.lit (.int .i64 (r.2.fb.fk)), .lit (.int .i64 (r.2.fb.fq)), .lit (.bool (r.2.fd)), .lit (.int .i64 (r.2.fg)), .mp i1, .lit (.int .i64 (r.2.fe))])).set i1 (.mapo (encM (kI .i64) (vA Ta.enc) (r.2.fOf)))), obl := c0 = Tg.enc y0 i1 ∧ c1 = encM (kI .i64) (vA Ta.enc) (y0.fOf) ∧ (gk y0 x1).isSome = true ∧ i0 ≠ i1 }) ((gk y0 x1).getD dflt)) (Tg.dec c0 (decM dkI (dvA Ta.dec) c1))
  | _ => none)
  | _ => none)
  | _ => none
 | _, _ => none

theorem gk.ok : SpecOk Try.prog 32 gk.S := by
 intro l M out h
 unfold gk.S at h
 split at h
 ·rename_i i0 x1
  split at h
  case h_2 => cases h
  rename_i c0 hM0
  split at h
  case h_2 => cases h
  rename_i i1 he1
  split at h
  case h_2 => cases h
  rename_i c1 hM1
  try dsimp only at h
  cases h
  refine callOk_of fun ho => ?_
  obtain ⟨oc0, oc1, hs, hne0⟩ := ho
  generalize (Tg.dec c0 (decM dkI (dvA Ta.dec) c1)) = y0 at *
  subst oc0
  subst oc1
  obtain ⟨r, hr⟩ := Option.isSome_iff_exists.1 hs
  simp only [hr, Option.getD_some]
  have q := Lh (M := M) [i0, i1] (gk.can y0 x1 r hr) (by simp [hne0]) rfl (by intro k i hk; (cases k with | zero => (simp at hk; subst hk; simp [hM0, into]) | succ k => ((cases k with | zero => (simp at hk; subst hk; simp [hM1]) | succ k => (simp at hk)))))
  exact callOk_conv q trivial (by simp [into]) (by simp [frameOut, gk.out, into]) (by simp [frameOut, gk.out, into])
 ·cases h
end Go.Proofs

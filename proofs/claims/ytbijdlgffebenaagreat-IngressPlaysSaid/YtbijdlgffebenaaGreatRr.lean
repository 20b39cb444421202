/- That these functions compute what their plain functions do. No condition. -/
import Derived.Test.YtbijdlgffebenaaGreatM09
import Derived.Test.YtbijdlgffebenaaGreatTy
import Derived.Test.YtbijdlgffebenaaGreatM07
import Derived.Test.YtbijdlgffebenaaGreatRo
set_option maxRecDepth 100000
set_option maxHeartbeats 4000000
namespace Go.Proofs
open Go.Ab
@[simp] def gw.out (_x0 : Th) (r : Int) : Out := { av := .lit (.int .i64 r), M := none }
theorem gw.can (x0 : Th) (r : Int) (hr : gw x0 = some r) : CallOk Tryz.prog 56 [.ptr 0 0] [.blk (x0.fb.enc ++ [.lit (.bool x0.fd), .lit (.int .i64 x0.fg), .mp 1, .lit (.int .i64 x0.fe)]), .mapo (encM (kI .i64) (vA Ta.enc) x0.fOf)] (gw.out x0 r) := by
 unfold gw at hr
 have hΓ := (gamL_cons libKeys.gaP.ok (gamL_cons libCollect.gSlicesCollectInt64.ok (gamL_cons libMin.gk.ok (gamL_nil))) : GamOk Tryz.prog _)
 refine Le Tryz.tyOk Tryz.func56 rfl (by kernel_rfl) rfl rfl (by simp) ?_
 intro _ _ _
 refine AWp.then ⟨[⟨0, none, .ptr 0 0⟩], [.blk (x0.fb.enc ++ [.b x0.fd, .n x0.fg, .mp 1, .n x0.fe]), .mapo (encM (kI .i64) (vA Ta.enc) x0.fOf)]⟩ (AWp.reg Tryz.tyOk hΓ [] [] (by kernel_rfl) rfl (by simp)) ?_
 obtain ⟨h3, hr⟩ := Lc hr
 obtain ⟨h4, hr⟩ := Lc hr
 refine AWp.thenA [⟨2, none, .n (minL (keysM x0.fOf))⟩] (AWp.reg Tryz.tyOk hΓ [2] [0] (by kernel_rfl) rfl (by simp [h3, h4])) ?_
 refine AWp.ret ?_
 obtain rfl := La hr
 refine Lf ?_
 simp

@[simp] noncomputable def gw.S : Sp
 | [.ptr i0 0], M => match M[i0]? with
  | some (.blk c0) => (match nthE c0 4 with
  | some (.mp i1) => (match M[i1]? with
  | some (.mapo c1) => (fun (y0 : Th) => some { av := .lit (.int .i64 ((gw y0).getD dflt)), M := none, obl := c0 = Th.enc y0 i1 ∧ c1 = encM (kI .i64) (vA Ta.enc) (y0.fOf) ∧ (gw y0).isSome = true ∧ i0 ≠ i1 }) (Th.dec c0 (decM dkI (dvA Ta.dec) c1))
  | _ => none)
  | _ => none)
  | _ => none
 | _, _ => none

theorem gw.ok : SpecOk Tryz.prog 56 gw.S := by
 intro l M out h
 unfold gw.S at h
 split at h
 ·rename_i i0
  split at h
  case h_2 => cases h
  rename_i c0 hM0
  split at h
  case h_2 => cases h
  rename_i i1 he1
  split at h
  case h_2 => cases h
  rename_i c1 hM1
  try dsimp only at h
  cases h
  refine callOk_of fun ho => ?_
  obtain ⟨oc0, oc1, hs, hne0⟩ := ho
  generalize (Th.dec c0 (decM dkI (dvA Ta.dec) c1)) = y0 at *
  subst oc0
  subst oc1
  obtain ⟨r, hr⟩ := Option.isSome_iff_exists.1 hs
  simp only [hr, Option.getD_some]
  have q := Lg (M := M) [i0, i1] (gw.can y0 r hr) (by simp [hne0]) rfl (by intro k i hk; (cases k with | zero => (simp at hk; subst hk; simp [hM0, into]) | succ k => ((cases k with | zero => (simp at hk; subst hk; simp [hM1]) | succ k => (simp at hk)))))
  exact callOk_conv q trivial (by simp [into]) (by simp [frameOut, gw.out, into]) (by simp only [frameOut, gw.out, Option.getD_some, Option.getD_none]; simp [into, hM0, hM1, set_same])
 ·cases h

@[simp] def gE.out (_x0 : Th) (r : List Ta × Nat × Th) : Out := { av := .sl (r.1.map Ta.enc) (.own 2 r.2.1 3), M := some [.blk [.lit (.int .i64 r.2.2.fb.fk), .lit (.int .i64 r.2.2.fb.fp), .lit (.bool r.2.2.fd), .lit (.int .i64 r.2.2.fg), .mp 1, .lit (.int .i64 r.2.2.fe)], .mapo (encM (kI .i64) (vA Ta.enc) r.2.2.fOf), .room r.2.1] }
theorem gE.can (x0 : Th) (r : List Ta × Nat × Th) (hr : gE x0 = some r) : CallOk Tryz.prog 47 [.ptr 0 0] [.blk (x0.fb.enc ++ [.lit (.bool x0.fd), .lit (.int .i64 x0.fg), .mp 1, .lit (.int .i64 x0.fe)]), .mapo (encM (kI .i64) (vA Ta.enc) x0.fOf)] (gE.out x0 r) := by
 unfold gE at hr
 have hΓ := (gamL_cons gw.ok (gamL_cons gl.ok (gamL_nil)) : GamOk Tryz.prog _)
 refine Le Tryz.tyOk Tryz.func47 rfl (by kernel_rfl) rfl rfl (by simp) ?_
 intro _ _ _
 refine AWp.then ⟨[⟨0, none, .ptr 0 0⟩], [.blk (x0.fb.enc ++ [.b x0.fd, .n x0.fg, .mp 1, .n x0.fe]), .mapo (encM (kI .i64) (vA Ta.enc) x0.fOf)]⟩ (AWp.reg Tryz.tyOk hΓ [] [] (by kernel_rfl) rfl (by simp)) ?_
 obtain ⟨r1, h3, hr⟩ := Lb hr
 refine AWp.thenA [⟨3, none, .n r1⟩, ⟨0, none, .ptr 0 0⟩] (AWp.reg Tryz.tyOk hΓ [3] [] (by kernel_rfl) rfl (by simp [h3])) ?_
 refine AWp.then ⟨[⟨3, none, .n r1⟩, ⟨0, none, .ptr 0 0⟩], [.blk (x0.fb.enc ++ [.b x0.fd, .n x0.fg, .mp 1, .n (addI .i64 x0.fe (subI .i64 r1 x0.fg))]), .mapo (encM (kI .i64) (vA Ta.enc) x0.fOf)]⟩ (AWp.regD Tryz.mixed Tryz.tyOk hΓ [] [] [] [(false, []), (false, []), (false, []), (false, []), (false, []), (false, []), (false, []), (false, []), (false, []), (false, []), (false, []), (false, []), (false, []), (true, [])] (by kernel_rfl) rfl (by simp)) ?_
 refine AWp.then ⟨[⟨0, none, .ptr 0 0⟩], [.blk (x0.fb.enc ++ [.b x0.fd, .n r1, .mp 1, .n (addI .i64 x0.fe (subI .i64 r1 x0.fg))]), .mapo (encM (kI .i64) (vA Ta.enc) x0.fOf)]⟩ (AWp.reg Tryz.tyOk hΓ [] [3] (by kernel_rfl) rfl (by simp)) ?_
 obtain ⟨r2, h4, hr⟩ := Lb hr
 refine AWp.then ⟨[⟨2, none, .sl (r2.1.map Ta.enc) (.own 2 r2.2.1 3)⟩], [.blk (r2.2.2.fb.enc ++ [.b r2.2.2.fd, .n r2.2.2.fg, .mp 1, .n r2.2.2.fe]), .mapo (encM (kI .i64) (vA Ta.enc) r2.2.2.fOf), .room r2.2.1]⟩ (AWp.reg Tryz.tyOk hΓ [2] [0] (by kernel_rfl) rfl (by simp [h4])) ?_
 refine AWp.ret ?_
 obtain rfl := La hr
 refine Lf ?_
 simp

@[simp] noncomputable def gE.S : Sp
 | [.ptr i0 0], M => match M[i0]? with
  | some (.blk c0) => (match nthE c0 4 with
  | some (.mp i1) => (match M[i1]? with
  | some (.mapo c1) => (fun (y0 : Th) => (fun (r : List Ta × Nat × Th) => some { av := .sl ((r.1).map Ta.enc) (.own M.length (r.2.1) 3), M := some (((M.set i0 (.blk [.lit (.int .i64 (r.2.2.fb.fk)), .lit (.int .i64 (r.2.2.fb.fp)), .lit (.bool (r.2.2.fd)), .lit (.int .i64 (r.2.2.fg)), .mp i1, .lit (.int .i64 (r.2.2.fe))])).set i1 (.mapo (encM (kI .i64) (vA Ta.enc) (r.2.2.fOf)))) ++ [.room (r.2.1)]), obl := c0 = Th.enc y0 i1 ∧ c1 = encM (kI .i64) (vA Ta.enc) (y0.fOf) ∧ (gE y0).isSome = true ∧ i0 ≠ i1 }) ((gE y0).getD dflt)) (Th.dec c0 (decM dkI (dvA Ta.dec) c1))
  | _ => none)
  | _ => none)
  | _ => none
 | _, _ => none

theorem gE.ok : SpecOk Tryz.prog 47 gE.S := by
 intro l M out h
 unfold gE.S at h
 split at h
 ·rename_i i0
  split at h
  case h_2 => cases h
  rename_i c0 hM0
  split at h
  case h_2 => cases h
  rename_i i1 he1
  split at h
  case h_2 => cases h
  rename_i c1 hM1
  try dsimp only at h
  cases h
  refine callOk_of fun ho => ?_
  obtain ⟨oc0, oc1, hs, hne0⟩ := ho
  generalize (Th.dec c0 (decM dkI (dvA Ta.dec) c1)) = y0 at *
  subst oc0
  subst oc1
  obtain ⟨r, hr⟩ := Option.isSome_iff_exists.1 hs
  simp only [hr, Option.getD_some]
  have q := Lg (M := M) [i0, i1] (gE.can y0 r hr) (by simp [hne0]) rfl (by intro k i hk; (cases k with | zero => (simp at hk; subst hk; simp [hM0, into]) | succ k => ((cases k with | zero => (simp at hk; subst hk; simp [hM1]) | succ k => (simp at hk)))))
  exact callOk_conv q trivial (by simp [into]) (by simp [frameOut, gE.out, into]) (by simp [frameOut, gE.out, into])
 ·cases h

@[simp] def ga.out (_x0 : Th) (_x1 : Int) (r : List Int) : Out := { av := .sl (r.map (eNum .i64)) .no, M := none }
def ga.fin (x0 : Th) (x1 : Int) (r : List Int) (σ : St) : Prop := finK (ga.out x0 x1 r) [.blk (x0.fb.enc ++ [.lit (.bool x0.fd), .lit (.int .i64 x0.fg), .mp 1, .lit (.int .i64 x0.fe)]), .mapo (encM (kI .i64) (vA Ta.enc) x0.fOf)] σ.M (resA Tryz.ty σ.A σ.M Tryz.f35.results.toList)
theorem ga.can (x0 : Th) (x1 : Int) (r : List Int) (hr : ga x0 x1 = some r) : CallOk Tryz.prog 35 [.ptr 0 0, .lit (.int .i64 x1)] [.blk (x0.fb.enc ++ [.lit (.bool x0.fd), .lit (.int .i64 x0.fg), .mp 1, .lit (.int .i64 x0.fe)]), .mapo (encM (kI .i64) (vA Ta.enc) x0.fOf)] (ga.out x0 x1 r) := by
 unfold ga at hr
 have hΓ := (gamL_cons libKeys.gaP.ok (gamL_cons libSorted.gSlicesSortedInt64.ok (gamL_nil)) : GamOk Tryz.prog _)
 refine Le Tryz.tyOk Tryz.func35 rfl (by kernel_rfl) rfl rfl (by simp) ?_
 intro _ _ _
 refine AWp.then ⟨[⟨0, none, .ptr 0 0⟩, ⟨1, none, .n x1⟩], [.blk (x0.fb.enc ++ [.b x0.fd, .n x0.fg, .mp 1, .n x0.fe]), .mapo (encM (kI .i64) (vA Ta.enc) x0.fOf)]⟩ (AWp.reg Tryz.tyOk hΓ [] [] (by kernel_rfl) rfl (by simp)) ?_
 refine AWp.thenA [⟨5, none, .sl [] .full⟩, ⟨0, none, .ptr 0 0⟩, ⟨1, none, .n x1⟩] (AWp.reg Tryz.tyOk hΓ [5] [] (by kernel_rfl) rfl (by simp)) ?_
 refine AWp.thenA [⟨6, none, .n x0.fg⟩, ⟨5, none, .sl [] .full⟩, ⟨0, none, .ptr 0 0⟩, ⟨1, none, .n x1⟩] (AWp.reg Tryz.tyOk hΓ [6] [] (by kernel_rfl) rfl (by simp)) ?_
 refine AWp.seq ?_
 obtain ⟨h6, hr⟩ := Lc hr
 refine AWp.then ⟨[⟨18, none, .sl ((sortL (keysM x0.fOf)).map (eNum .i64)) .no⟩, ⟨19, none, .n (lenL (sortL (keysM x0.fOf)))⟩, ⟨20, none, .n 0⟩, ⟨6, none, .n x0.fg⟩, ⟨5, none, .sl [] .full⟩, ⟨1, none, .n x1⟩], [.blk (x0.fb.enc ++ [.b x0.fd, .n x0.fg, .mp 1, .n x0.fe]), .mapo (encM (kI .i64) (vA Ta.enc) x0.fOf)]⟩ (AWp.reg Tryz.tyOk hΓ [18, 19, 20] [0] (by kernel_rfl) rfl (by simp [h6])) ?_
 refine AWp.equip 5 1 (els := []) (by simp) (by simp) ?_
 refine AWp.loopE (fun (s1 : Int × Int × List Int) (γ1 : Nat) => ⟨[⟨18, none, .sl ((sortL (keysM x0.fOf)).map (eNum .i64)) .no⟩, ⟨19, none, .n (lenL (sortL (keysM x0.fOf)))⟩, ⟨20, none, .n s1.1⟩, ⟨6, none, .n s1.2.1⟩, ⟨5, none, .sl (s1.2.2.map (eNum .i64)) (.own 2 (γ1) 1)⟩, ⟨1, none, .n x1⟩], [.blk (x0.fb.enc ++ [.b x0.fd, .n x0.fg, .mp 1, .n x0.fe]), .mapo (encM (kI .i64) (vA Ta.enc) x0.fOf), .room (γ1)]⟩) (fun (v1 : List Int) (γ1a : Nat) => ⟨[⟨5, none, .sl (v1.map (eNum .i64)) (.own 2 (γ1a) 1)⟩], [.blk (x0.fb.enc ++ [.b x0.fd, .n x0.fg, .mp 1, .n x0.fe]), .mapo (encM (kI .i64) (vA Ta.enc) x0.fOf), .room (γ1a)]⟩) (ga.fin x0 x1) hr 0 3 (by simp) (fun s1 f γ1 hr => ?_) (fun v1 γ1a σ1 m1 hr hc => ?_) (fun _ h => h)
 ·unfold ga.loop1 at hr
  refine AWp.then ⟨[⟨21, none, .b (ltI s1.1 (lenL (sortL (keysM x0.fOf))))⟩, ⟨18, none, .sl ((sortL (keysM x0.fOf)).map (eNum .i64)) .no⟩, ⟨19, none, .n (lenL (sortL (keysM x0.fOf)))⟩, ⟨20, none, .n s1.1⟩, ⟨6, none, .n s1.2.1⟩, ⟨5, none, .sl (s1.2.2.map (eNum .i64)) (.own 2 (γ1) 1)⟩, ⟨1, none, .n x1⟩], [.blk (x0.fb.enc ++ [.b x0.fd, .n x0.fg, .mp 1, .n x0.fe]), .mapo (encM (kI .i64) (vA Ta.enc) x0.fOf), .room (γ1)]⟩ (AWp.reg Tryz.tyOk hΓ [21] [] (by kernel_rfl) rfl (by simp)) ?_
  refine AWp.seq ?_
  refine AWp.cond (b := (ltI s1.1 (lenL (sortL (keysM x0.fOf))))) (by simp) (fun h7 => ?_) (fun h7 => ?_)
  ·have hr := Li h7 hr
   refine AWp.skip ?_
   refine AWp.seq ?_
   refine AWp.block ?_
   obtain ⟨h8, hr⟩ := Lc hr
   refine AWp.then ⟨[⟨8, none, .n (nthI (sortL (keysM x0.fOf)) s1.1)⟩, ⟨18, none, .sl ((sortL (keysM x0.fOf)).map (eNum .i64)) .no⟩, ⟨19, none, .n (lenL (sortL (keysM x0.fOf)))⟩, ⟨20, none, .n s1.1⟩, ⟨6, none, .n s1.2.1⟩, ⟨5, none, .sl (s1.2.2.map (eNum .i64)) (.own 2 (γ1) 1)⟩, ⟨1, none, .n x1⟩], [.blk (x0.fb.enc ++ [.b x0.fd, .n x0.fg, .mp 1, .n x0.fe]), .mapo (encM (kI .i64) (vA Ta.enc) x0.fOf), .room (γ1)]⟩ (AWp.reg Tryz.tyOk hΓ [8] [21] (by kernel_rfl) rfl (by simp [h7, h8])) ?_
   refine AWp.loopB (fun (s2 : Int × List Int) (γ2 : Nat) => ⟨[⟨8, none, .n (nthI (sortL (keysM x0.fOf)) s1.1)⟩, ⟨18, none, .sl ((sortL (keysM x0.fOf)).map (eNum .i64)) .no⟩, ⟨19, none, .n (lenL (sortL (keysM x0.fOf)))⟩, ⟨20, none, .n s1.1⟩, ⟨6, none, .n s2.1⟩, ⟨5, none, .sl (s2.2.map (eNum .i64)) (.own 2 (γ2) 1)⟩, ⟨1, none, .n x1⟩], [.blk (x0.fb.enc ++ [.b x0.fd, .n x0.fg, .mp 1, .n x0.fe]), .mapo (encM (kI .i64) (vA Ta.enc) x0.fOf), .room (γ2)]⟩) (fun (v2 : List Int) (γ2a : Nat) => ⟨[⟨8, none, .n (nthI (sortL (keysM x0.fOf)) s1.1)⟩, ⟨18, none, .sl ((sortL (keysM x0.fOf)).map (eNum .i64)) .no⟩, ⟨19, none, .n (lenL (sortL (keysM x0.fOf)))⟩, ⟨20, none, .n s1.1⟩, ⟨5, none, .sl (v2.map (eNum .i64)) (.own 2 (γ2a) 1)⟩, ⟨1, none, .n x1⟩], [.blk (x0.fb.enc ++ [.b x0.fd, .n x0.fg, .mp 1, .n x0.fe]), .mapo (encM (kI .i64) (vA Ta.enc) x0.fOf), .room (γ2a)]⟩) (QRr (ga.fin x0 x1)) hr (γ1) 3 (by simp) (fun s2 f γ2 hr => ?_) (fun v2 γ2a hr => ?_) (fun _ h => QRr_ret h)
   ·unfold ga.loop2 at hr
    refine AWp.seq ?_
    refine AWp.then ⟨[⟨32, none, .b (pickB (ltI s2.1 (nthI (sortL (keysM x0.fOf)) s1.1)) (ltI (lenL s2.2) x1) false)⟩, ⟨8, none, .n (nthI (sortL (keysM x0.fOf)) s1.1)⟩, ⟨18, none, .sl ((sortL (keysM x0.fOf)).map (eNum .i64)) .no⟩, ⟨19, none, .n (lenL (sortL (keysM x0.fOf)))⟩, ⟨20, none, .n s1.1⟩, ⟨6, none, .n s2.1⟩, ⟨5, none, .sl (s2.2.map (eNum .i64)) (.own 2 (γ2) 1)⟩, ⟨1, none, .n x1⟩], [.blk (x0.fb.enc ++ [.b x0.fd, .n x0.fg, .mp 1, .n x0.fe]), .mapo (encM (kI .i64) (vA Ta.enc) x0.fOf), .room (γ2)]⟩ (AWp.reg Tryz.tyOk hΓ [32] [] (by kernel_rfl) rfl (by simp)) ?_
    refine AWp.cond (b := (pickB (ltI s2.1 (nthI (sortL (keysM x0.fOf)) s1.1)) (ltI (lenL s2.2) x1) false)) (by simp) (fun h9 => ?_) (fun h9 => ?_)
    ·have hr := Li h9 hr
     refine AWp.skip ?_
     refine AWp.seq ?_
     refine AWp.block ?_
     obtain ⟨h10, hr⟩ := Lc hr
     refine AWp.last ⟨[⟨5, none, .sl ((appL s2.2 [s2.1]).map (eNum .i64)) (.own 2 (γ2 + 1) 1)⟩, ⟨8, none, .n (nthI (sortL (keysM x0.fOf)) s1.1)⟩, ⟨18, none, .sl ((sortL (keysM x0.fOf)).map (eNum .i64)) .no⟩, ⟨19, none, .n (lenL (sortL (keysM x0.fOf)))⟩, ⟨20, none, .n s1.1⟩, ⟨6, none, .n s2.1⟩, ⟨1, none, .n x1⟩], [.blk (x0.fb.enc ++ [.b x0.fd, .n x0.fg, .mp 1, .n x0.fe]), .mapo (encM (kI .i64) (vA Ta.enc) x0.fOf), .room (γ2 + 1)]⟩ (AWp.reg Tryz.tyOk hΓ [5] [32] (by kernel_rfl) rfl (by simp [h9, h10])) ?_
     refine AWp.last ⟨[⟨6, none, .n (addI .i64 s2.1 1)⟩, ⟨5, none, .sl ((appL s2.2 [s2.1]).map (eNum .i64)) (.own 2 (γ2 + 1) 1)⟩, ⟨8, none, .n (nthI (sortL (keysM x0.fOf)) s1.1)⟩, ⟨18, none, .sl ((sortL (keysM x0.fOf)).map (eNum .i64)) .no⟩, ⟨19, none, .n (lenL (sortL (keysM x0.fOf)))⟩, ⟨20, none, .n s1.1⟩, ⟨1, none, .n x1⟩], [.blk (x0.fb.enc ++ [.b x0.fd, .n x0.fg, .mp 1, .n x0.fe]), .mapo (encM (kI .i64) (vA Ta.enc) x0.fOf), .room (γ2 + 1)]⟩ (AWp.reg Tryz.tyOk hΓ [6] [] (by kernel_rfl) rfl (by simp)) ?_
     obtain rfl := La hr
     exact Lq (γ2 + 1) 3 (by first | (simp; done) | simp [h6, h7, h8, h9, h10])
    ·have hr := Lj h9 hr
     refine AWp.exit ?_
     obtain rfl := La hr
     exact Lo (γ2) 3 (by first | (simp; done) | simp [h6, h7, h8, h9])
   ·refine AWp.last ⟨[⟨6, none, .n (addI .i64 (nthI (sortL (keysM x0.fOf)) s1.1) 1)⟩, ⟨18, none, .sl ((sortL (keysM x0.fOf)).map (eNum .i64)) .no⟩, ⟨19, none, .n (lenL (sortL (keysM x0.fOf)))⟩, ⟨20, none, .n s1.1⟩, ⟨5, none, .sl (v2.map (eNum .i64)) (.own 2 (γ2a) 1)⟩, ⟨1, none, .n x1⟩], [.blk (x0.fb.enc ++ [.b x0.fd, .n x0.fg, .mp 1, .n x0.fe]), .mapo (encM (kI .i64) (vA Ta.enc) x0.fOf), .room (γ2a)]⟩ (AWp.reg Tryz.tyOk hΓ [6] [8] (by kernel_rfl) rfl (by simp)) ?_
    refine AWp.last ⟨[⟨20, none, .n (addI .i64 s1.1 1)⟩, ⟨6, none, .n (addI .i64 (nthI (sortL (keysM x0.fOf)) s1.1) 1)⟩, ⟨18, none, .sl ((sortL (keysM x0.fOf)).map (eNum .i64)) .no⟩, ⟨19, none, .n (lenL (sortL (keysM x0.fOf)))⟩, ⟨5, none, .sl (v2.map (eNum .i64)) (.own 2 (γ2a) 1)⟩, ⟨1, none, .n x1⟩], [.blk (x0.fb.enc ++ [.b x0.fd, .n x0.fg, .mp 1, .n x0.fe]), .mapo (encM (kI .i64) (vA Ta.enc) x0.fOf), .room (γ2a)]⟩ (AWp.reg Tryz.tyOk hΓ [20] [] (by kernel_rfl) rfl (by simp)) ?_
    obtain rfl := La hr
    exact Lq (γ2a) 3 (by first | (simp; done) | simp [h6, h7, h8])
  ·have hr := Lj h7 hr
   refine AWp.exit ?_
   obtain rfl := La hr
   exact Lo (γ1) 3 (by first | (simp; done) | simp [h6, h7])
 ·refine AWp.conv hc ?_
  refine AWp.then ⟨[⟨4, none, .sl (v1.map (eNum .i64)) (.own 2 (γ1a) 1)⟩], [.blk (x0.fb.enc ++ [.b x0.fd, .n x0.fg, .mp 1, .n x0.fe]), .mapo (encM (kI .i64) (vA Ta.enc) x0.fOf), .room (γ1a)]⟩ (AWp.reg Tryz.tyOk hΓ [4] [5] (by kernel_rfl) rfl (by simp)) ?_
  refine AWp.ret ?_
  obtain rfl := La hr
  refine Lf ?_
  simp

@[simp] noncomputable def ga.S : Sp
 | [.ptr i0 0, .lit (.int .i64 x1)], M => match M[i0]? with
  | some (.blk c0) => (match nthE c0 4 with
  | some (.mp i1) => (match M[i1]? with
  | some (.mapo c1) => (fun (y0 : Th) => some { av := .sl (((ga y0 x1).getD dflt).map (eNum .i64)) .no, M := none, obl := c0 = Th.enc y0 i1 ∧ c1 = encM (kI .i64) (vA Ta.enc) (y0.fOf) ∧ (ga y0 x1).isSome = true ∧ i0 ≠ i1 }) (Th.dec c0 (decM dkI (dvA Ta.dec) c1))
  | _ => none)
  | _ => none)
  | _ => none
 | _, _ => none

theorem ga.ok : SpecOk Tryz.prog 35 ga.S := by
 intro l M out h
 unfold ga.S at h
 split at h
 ·rename_i i0 x1
  split at h
  case h_2 => cases h
  rename_i c0 hM0
  split at h
  case h_2 => cases h
  rename_i i1 he1
  split at h
  case h_2 => cases h
  rename_i c1 hM1
  try dsimp only at h
  cases h
  refine callOk_of fun ho => ?_
  obtain ⟨oc0, oc1, hs, hne0⟩ := ho
  generalize (Th.dec c0 (decM dkI (dvA Ta.dec) c1)) = y0 at *
  subst oc0
  subst oc1
  obtain ⟨r, hr⟩ := Option.isSome_iff_exists.1 hs
  simp only [hr, Option.getD_some]
  have q := Lg (M := M) [i0, i1] (ga.can y0 x1 r hr) (by simp [hne0]) rfl (by intro k i hk; (cases k with | zero => (simp at hk; subst hk; simp [hM0, into]) | succ k => ((cases k with | zero => (simp at hk; subst hk; simp [hM1]) | succ k => (simp at hk)))))
  exact callOk_conv q trivial (by simp [into]) (by simp [frameOut, ga.out, into]) (by simp only [frameOut, ga.out, Option.getD_some, Option.getD_none]; simp [into, hM0, hM1, set_same])
 ·cases h

@[simp] def gp.out (_x0 : Th) (_x1 : Ta) (r : List Ta × Int × Th) : Out := { av := .tup [.sl (r.1.map Ta.enc) .no, .lit (.int .i64 r.2.1)], M := some [.blk [.lit (.int .i64 r.2.2.fb.fk), .lit (.int .i64 r.2.2.fb.fp), .lit (.bool r.2.2.fd), .lit (.int .i64 r.2.2.fg), .mp 1, .lit (.int .i64 r.2.2.fe)], .mapo (encM (kI .i64) (vA Ta.enc) r.2.2.fOf)] }
def gp.fin (x0 : Th) (x1 : Ta) (r : List Ta × Int × Th) (σ : St) : Prop := finK (gp.out x0 x1 r) [.blk (x0.fb.enc ++ [.lit (.bool x0.fd), .lit (.int .i64 x0.fg), .mp 1, .lit (.int .i64 x0.fe)]), .mapo (encM (kI .i64) (vA Ta.enc) x0.fOf)] σ.M (resA Tryz.ty σ.A σ.M Tryz.f25.results.toList)
theorem gp.can (x0 : Th) (x1 : Ta) (r : List Ta × Int × Th) (hr : gp x0 x1 = some r) : CallOk Tryz.prog 25 [.ptr 0 0, .agg [.lit (.int .i64 x1.fAt), .lit (.string x1.fU), .lit (.int .i64 x1.fO)]] [.blk (x0.fb.enc ++ [.lit (.bool x0.fd), .lit (.int .i64 x0.fg), .mp 1, .lit (.int .i64 x0.fe)]), .mapo (encM (kI .i64) (vA Ta.enc) x0.fOf)] (gp.out x0 x1 r) := by
 unfold gp at hr
 have hΓ := (gamL_cons gl.ok (gamL_cons gE.ok (gamL_nil)) : GamOk Tryz.prog _)
 refine Le Tryz.tyOk Tryz.func25 rfl (by kernel_rfl) rfl rfl (by simp) ?_
 intro _ _ _
 refine AWp.then ⟨[⟨3, none, .ptr 2 0⟩, ⟨0, none, .ptr 0 0⟩], [.blk (x0.fb.enc ++ [.b x0.fd, .n x0.fg, .mp 1, .n x0.fe]), .mapo (encM (kI .i64) (vA Ta.enc) x0.fOf), .blk x1.enc]⟩ (AWp.reg Tryz.tyOk hΓ [3] [1] (by kernel_rfl) rfl (by simp)) ?_
 refine AWp.meetF (fun (v1 : Bool × Int) (γ1 : Unit) => ⟨[⟨3, none, .ptr 2 0⟩, ⟨0, none, .ptr 0 0⟩], [.blk (x0.fb.enc ++ [.b v1.1, .n v1.2, .mp 1, .n x0.fe]), .mapo (encM (kI .i64) (vA Ta.enc) x0.fOf), .blk x1.enc]⟩) (gp.fin x0 x1) hr (fun f hr => ?_) (fun v1 γ1 hr => ?_) (fun _ h => h)
 ·refine AWp.then ⟨[⟨13, none, .b (notB x0.fd)⟩, ⟨3, none, .ptr 2 0⟩, ⟨0, none, .ptr 0 0⟩], [.blk (x0.fb.enc ++ [.b x0.fd, .n x0.fg, .mp 1, .n x0.fe]), .mapo (encM (kI .i64) (vA Ta.enc) x0.fOf), .blk x1.enc]⟩ (AWp.reg Tryz.tyOk hΓ [13] [] (by kernel_rfl) rfl (by simp)) ?_
  refine AWp.cond (b := (notB x0.fd)) (by simp) (fun h8 => ?_) (fun h8 => ?_)
  ·have hr := Li h8 hr
   refine AWp.last ⟨[⟨3, none, .ptr 2 0⟩, ⟨0, none, .ptr 0 0⟩], [.blk (x0.fb.enc ++ [.b true, .n x1.fAt, .mp 1, .n x0.fe]), .mapo (encM (kI .i64) (vA Ta.enc) x0.fOf), .blk x1.enc]⟩ (AWp.regD Tryz.mixed Tryz.tyOk hΓ [] [13] [(1, 7), (2, 7), (3, 7)] [(false, []), (false, []), (false, []), (false, []), (false, []), (false, []), (true, []), (false, []), (false, []), (true, [])] (by kernel_rfl) rfl (by simp [h8])) ?_
   obtain rfl := La hr
   exact Ll () 3 (by first | (simp; done) | simp [h8])
  ·have hr := Lj h8 hr
   refine AWp.skip ?_
   obtain rfl := La hr
   exact Ll () 3 (by first | (simp; done) | simp [h8])
 ·refine AWp.seq ?_
  refine AWp.then ⟨[⟨28, none, .b (ltI x1.fAt v1.2)⟩, ⟨3, none, .ptr 2 0⟩, ⟨0, none, .ptr 0 0⟩], [.blk (x0.fb.enc ++ [.b v1.1, .n v1.2, .mp 1, .n x0.fe]), .mapo (encM (kI .i64) (vA Ta.enc) x0.fOf), .blk x1.enc]⟩ (AWp.regD Tryz.mixed Tryz.tyOk hΓ [28] [] [] [(false, []), (false, []), (false, []), (false, []), (false, []), (false, []), (false, [])] (by kernel_rfl) rfl (by simp)) ?_
  refine AWp.cond (b := (ltI x1.fAt v1.2)) (by simp) (fun h9 => ?_) (fun h9 => ?_)
  ·have hr := Li h9 hr
   refine AWp.thenA [⟨4, none, .sl [] .full⟩, ⟨5, none, .n 13⟩] (AWp.reg Tryz.tyOk hΓ [4, 5] [28, 3, 0] (by kernel_rfl) rfl (by simp [h9])) ?_
   refine AWp.ret ?_
   obtain rfl := La hr
   refine Lf ?_
   simp
  ·have hr := Lj h9 hr
   refine AWp.skip ?_
   refine AWp.seq ?_
   refine AWp.then ⟨[⟨7, none, .b (hasM eqI x1.fAt x0.fOf)⟩, ⟨3, none, .ptr 2 0⟩, ⟨0, none, .ptr 0 0⟩], [.blk (x0.fb.enc ++ [.b v1.1, .n v1.2, .mp 1, .n x0.fe]), .mapo (encM (kI .i64) (vA Ta.enc) x0.fOf), .blk x1.enc, .blk (getM eqI x1.fAt (Ta.mk 0 ⟨⟨[]⟩⟩ 0) x0.fOf).enc]⟩ (AWp.regD Tryz.mixed Tryz.tyOk hΓ [7] [28] [(0, 11), (1, 11), (2, 11), (3, 11), (4, 11), (5, 11), (6, 11), (7, 11), (8, 11), (9, 11), (9, 12)] [(false, []), (false, []), (false, []), (false, []), (false, []), (false, []), (false, []), (false, []), (false, []), (false, []), (true, []), (true, []), (false, [])] (by kernel_rfl) rfl (by simp [h9])) ?_
   refine AWp.thenA [⟨39, none, .b (hasM eqI x1.fAt x0.fOf)⟩, ⟨3, none, .ptr 2 0⟩, ⟨0, none, .ptr 0 0⟩] (AWp.reg Tryz.tyOk hΓ [39] [7] (by kernel_rfl) rfl (by simp)) ?_
   refine AWp.cond (b := (hasM eqI x1.fAt x0.fOf)) (by simp) (fun h10 => ?_) (fun h10 => ?_)
   ·have hr := Li h10 hr
    refine AWp.thenA [⟨4, none, .sl [] .full⟩, ⟨5, none, .n 14⟩] (AWp.reg Tryz.tyOk hΓ [4, 5] [39, 3, 0] (by kernel_rfl) rfl (by simp [h10])) ?_
    refine AWp.ret ?_
    obtain rfl := La hr
    refine Lf ?_
    simp
   ·have hr := Lj h10 hr
    refine AWp.skip ?_
    refine AWp.then ⟨[⟨0, none, .ptr 0 0⟩], [.blk (x0.fb.enc ++ [.b v1.1, .n v1.2, .mp 1, .n x0.fe]), .mapo (encM (kI .i64) (vA Ta.enc) (setM eqI x1.fAt x1 x0.fOf)), .blk x1.enc, .blk (getM eqI x1.fAt (Ta.mk 0 ⟨⟨[]⟩⟩ 0) x0.fOf).enc]⟩ (AWp.regD Tryz.mixed Tryz.tyOk hΓ [] [39, 3] [] [(false, []), (false, []), (false, []), (false, []), (false, []), (false, []), (false, []), (true, [])] (by kernel_rfl) rfl (by simp [h10])) ?_
    obtain ⟨r1, h11, hr⟩ := Lb hr
    refine AWp.then ⟨[⟨8, none, .sl (r1.1.map Ta.enc) (.own 4 r1.2.1 3)⟩, ⟨0, none, .ptr 0 0⟩], [.blk (r1.2.2.fb.enc ++ [.b r1.2.2.fd, .n r1.2.2.fg, .mp 1, .n r1.2.2.fe]), .mapo (encM (kI .i64) (vA Ta.enc) r1.2.2.fOf), .blk x1.enc, .blk (getM eqI x1.fAt (Ta.mk 0 ⟨⟨[]⟩⟩ 0) x0.fOf).enc, .room r1.2.1]⟩ (AWp.reg Tryz.tyOk hΓ [8] [] (by kernel_rfl) rfl (by simp [h11])) ?_
    refine AWp.loopB (fun (s2 : List Ta × Tt × Bool × Int × Int × (List (Int × Ta))) (γ2 : Nat) => ⟨[⟨8, none, .sl (s2.1.map Ta.enc) (.own 4 (γ2) 3)⟩, ⟨0, none, .ptr 0 0⟩], [.blk (s2.2.1.enc ++ [.b s2.2.2.1, .n s2.2.2.2.1, .mp 1, .n s2.2.2.2.2.1]), .mapo (encM (kI .i64) (vA Ta.enc) s2.2.2.2.2.2), .blk x1.enc, .blk (getM eqI x1.fAt (Ta.mk 0 ⟨⟨[]⟩⟩ 0) x0.fOf).enc, .room (γ2)]⟩) (fun (v2 : List Ta × Tt × Bool × Int × Int × (List (Int × Ta))) (γ2a : Nat) => ⟨[⟨8, none, .sl (v2.1.map Ta.enc) (.own 4 (γ2a) 3)⟩], [.blk (v2.2.1.enc ++ [.b v2.2.2.1, .n v2.2.2.2.1, .mp 1, .n v2.2.2.2.2.1]), .mapo (encM (kI .i64) (vA Ta.enc) v2.2.2.2.2.2), .blk x1.enc, .blk (getM eqI x1.fAt (Ta.mk 0 ⟨⟨[]⟩⟩ 0) x0.fOf).enc, .room (γ2a)]⟩) (gp.fin x0 x1) hr r1.2.1 5 (by simp) (fun s2 f γ2 hr => ?_) (fun v2 γ2a hr => ?_) (fun _ h => h)
    ·unfold gp.loop2 at hr
     refine AWp.seq ?_
     refine AWp.then ⟨[⟨59, none, .b (ltI s2.2.1.fk (lenL s2.2.2.2.2.2))⟩, ⟨8, none, .sl (s2.1.map Ta.enc) (.own 4 (γ2) 3)⟩, ⟨0, none, .ptr 0 0⟩], [.blk (s2.2.1.enc ++ [.b s2.2.2.1, .n s2.2.2.2.1, .mp 1, .n s2.2.2.2.2.1]), .mapo (encM (kI .i64) (vA Ta.enc) s2.2.2.2.2.2), .blk x1.enc, .blk (getM eqI x1.fAt (Ta.mk 0 ⟨⟨[]⟩⟩ 0) x0.fOf).enc, .room (γ2)]⟩ (AWp.regD Tryz.mixed Tryz.tyOk hΓ [59] [] [] [(false, []), (false, []), (false, []), (false, []), (false, []), (false, []), (false, []), (false, []), (false, []), (false, []), (false, [])] (by kernel_rfl) rfl (by simp)) ?_
     refine AWp.cond (b := (ltI s2.2.1.fk (lenL s2.2.2.2.2.2))) (by simp) (fun h12 => ?_) (fun h12 => ?_)
     ·have hr := Li h12 hr
      refine AWp.skip ?_
      refine AWp.block ?_
      obtain ⟨r2, h13, hr⟩ := Lb hr
      obtain ⟨h14, hr⟩ := Lc hr
      refine AWp.last ⟨[⟨8, none, .sl ((appL s2.1 r2.1).map Ta.enc) (.own 4 (γ2 + 1) 3)⟩, ⟨0, none, .ptr 0 0⟩], [.blk (r2.2.2.fb.enc ++ [.b r2.2.2.fd, .n r2.2.2.fg, .mp 1, .n r2.2.2.fe]), .mapo (encM (kI .i64) (vA Ta.enc) r2.2.2.fOf), .blk x1.enc, .blk (getM eqI x1.fAt (Ta.mk 0 ⟨⟨[]⟩⟩ 0) x0.fOf).enc, .room (γ2 + 1), .room r2.2.1]⟩ (AWp.reg Tryz.tyOk hΓ [8] [59] (by kernel_rfl) rfl (by simp [h12, h13, h14])) ?_
      obtain rfl := La hr
      exact Lq (γ2 + 1) 5 (by first | (simp; done) | simp [h9, h10, h11, h12, h13, h14])
     ·have hr := Lj h12 hr
      refine AWp.exit ?_
      obtain rfl := La hr
      exact Lo (γ2) 5 (by first | (simp; done) | simp [h9, h10, h11, h12])
    ·refine AWp.then ⟨[⟨4, none, .sl (v2.1.map Ta.enc) (.own 4 (γ2a) 3)⟩, ⟨5, none, .n 0⟩], [.blk (v2.2.1.enc ++ [.b v2.2.2.1, .n v2.2.2.2.1, .mp 1, .n v2.2.2.2.2.1]), .mapo (encM (kI .i64) (vA Ta.enc) v2.2.2.2.2.2), .blk x1.enc, .blk (getM eqI x1.fAt (Ta.mk 0 ⟨⟨[]⟩⟩ 0) x0.fOf).enc, .room (γ2a)]⟩ (AWp.reg Tryz.tyOk hΓ [4, 5] [8] (by kernel_rfl) rfl (by simp)) ?_
     refine AWp.ret ?_
     obtain rfl := La hr
     refine Lf ?_
     simp

@[simp] noncomputable def gp.S : Sp
 | [.ptr i0 0, .agg e1], M => match M[i0]? with
  | some (.blk c0) => (match nthE c0 4 with
  | some (.mp i1) => (match M[i1]? with
  | some (.mapo c1) => (fun (y0 : Th) => (fun (y1 : Ta) => (fun (r : List Ta × Int × Th) => some { av := .tup [.sl ((r.1).map Ta.enc) .no, .lit (.int .i64 (r.2.1))], M := some ((M.set i0 (.blk [.lit (.int .i64 (r.2.2.fb.fk)), .lit (.int .i64 (r.2.2.fb.fp)), .lit (.bool (r.2.2.fd)), .lit (.int .i64 (r.2.2.fg)), .mp i1, .lit (.int .i64 (r.2.2.fe))])).set i1 (.mapo (encM (kI .i64) (vA Ta.enc) (r.2.2.fOf)))), obl := WeakL e1 (Ta.enc y1) ∧ c0 = Th.enc y0 i1 ∧ c1 = encM (kI .i64) (vA Ta.enc) (y0.fOf) ∧ (gp y0 y1).isSome = true ∧ i0 ≠ i1 }) ((gp y0 y1).getD dflt)) (Ta.dec e1)) (Th.dec c0 (decM dkI (dvA Ta.dec) c1))
  | _ => none)
  | _ => none)
  | _ => none
 | _, _ => none

theorem gp.ok : SpecOk Tryz.prog 25 gp.S := by
 intro l M out h
 unfold gp.S at h
 split at h
 ·rename_i i0 e1
  split at h
  case h_2 => cases h
  rename_i c0 hM0
  split at h
  case h_2 => cases h
  rename_i i1 he1
  split at h
  case h_2 => cases h
  rename_i c1 hM1
  try dsimp only at h
  cases h
  refine callOk_of fun ho => ?_
  obtain ⟨ox1, oc0, oc1, hs, hne0⟩ := ho
  generalize (Th.dec c0 (decM dkI (dvA Ta.dec) c1)) = y0 at *
  generalize (Ta.dec e1) = x1 at *
  subst oc0
  subst oc1
  obtain ⟨r, hr⟩ := Option.isSome_iff_exists.1 hs
  simp only [hr, Option.getD_some]
  have q := Lg (M := M) [i0, i1] (gp.can y0 x1 r hr) (by simp [hne0]) rfl (by intro k i hk; (cases k with | zero => (simp at hk; subst hk; simp [hM0, into]) | succ k => ((cases k with | zero => (simp at hk; subst hk; simp [hM1]) | succ k => (simp at hk)))))
  exact callOk_conv q trivial (by simp [into]; exact ox1) (by simp [frameOut, gp.out, into]) (by simp [frameOut, gp.out, into])
 ·cases h

@[simp] def gm.out (_x0 : Th) (_x1 : Int) (r : List Ta × Th) : Out := { av := .sl (r.1.map Ta.enc) .no, M := some [.blk [.lit (.int .i64 r.2.fb.fk), .lit (.int .i64 r.2.fb.fp), .lit (.bool r.2.fd), .lit (.int .i64 r.2.fg), .mp 1, .lit (.int .i64 r.2.fe)], .mapo (encM (kI .i64) (vA Ta.enc) r.2.fOf)] }
def gm.fin (x0 : Th) (x1 : Int) (r : List Ta × Th) (σ : St) : Prop := finK (gm.out x0 x1 r) [.blk (x0.fb.enc ++ [.lit (.bool x0.fd), .lit (.int .i64 x0.fg), .mp 1, .lit (.int .i64 x0.fe)]), .mapo (encM (kI .i64) (vA Ta.enc) x0.fOf)] σ.M (resA Tryz.ty σ.A σ.M Tryz.f30.results.toList)
theorem gm.can (x0 : Th) (x1 : Int) (r : List Ta × Th) (hr : gm x0 x1 = some r) : CallOk Tryz.prog 30 [.ptr 0 0, .lit (.int .i64 x1)] [.blk (x0.fb.enc ++ [.lit (.bool x0.fd), .lit (.int .i64 x0.fg), .mp 1, .lit (.int .i64 x0.fe)]), .mapo (encM (kI .i64) (vA Ta.enc) x0.fOf)] (gm.out x0 x1 r) := by
 unfold gm at hr
 have hΓ := (gamL_cons gw.ok (gamL_cons gE.ok (gamL_nil)) : GamOk Tryz.prog _)
 refine Le Tryz.tyOk Tryz.func30 rfl (by kernel_rfl) rfl rfl (by simp) ?_
 intro _ _ _
 refine AWp.then ⟨[⟨0, none, .ptr 0 0⟩, ⟨1, none, .n x1⟩], [.blk (x0.fb.enc ++ [.b x0.fd, .n x0.fg, .mp 1, .n x0.fe]), .mapo (encM (kI .i64) (vA Ta.enc) x0.fOf)]⟩ (AWp.reg Tryz.tyOk hΓ [] [] (by kernel_rfl) rfl (by simp)) ?_
 refine AWp.thenA [⟨5, none, .sl [] .full⟩, ⟨0, none, .ptr 0 0⟩, ⟨1, none, .n x1⟩] (AWp.reg Tryz.tyOk hΓ [5] [] (by kernel_rfl) rfl (by simp)) ?_
 refine AWp.equip 5 3 (els := []) (by simp) (by simp) ?_
 refine AWp.loopB (fun (s1 : List Ta × Tt × Bool × Int × Int × (List (Int × Ta))) (γ1 : Nat) => ⟨[⟨5, none, .sl (s1.1.map Ta.enc) (.own 2 (γ1) 3)⟩, ⟨0, none, .ptr 0 0⟩, ⟨1, none, .n x1⟩], [.blk (s1.2.1.enc ++ [.b s1.2.2.1, .n s1.2.2.2.1, .mp 1, .n s1.2.2.2.2.1]), .mapo (encM (kI .i64) (vA Ta.enc) s1.2.2.2.2.2), .room (γ1)]⟩) (fun (v1 : List Ta × Tt × Bool × Int × Int × (List (Int × Ta))) (γ1a : Nat) => ⟨[⟨5, none, .sl (v1.1.map Ta.enc) (.own 2 (γ1a) 3)⟩], [.blk (v1.2.1.enc ++ [.b v1.2.2.1, .n v1.2.2.2.1, .mp 1, .n v1.2.2.2.2.1]), .mapo (encM (kI .i64) (vA Ta.enc) v1.2.2.2.2.2), .room (γ1a)]⟩) (gm.fin x0 x1) hr 0 3 (by simp) (fun s1 f γ1 hr => ?_) (fun v1 γ1a hr => ?_) (fun _ h => h)
 ·unfold gm.loop1 at hr
  refine AWp.seq ?_
  refine AWp.then ⟨[⟨11, none, .b (ltI 0 (lenL s1.2.2.2.2.2))⟩, ⟨5, none, .sl (s1.1.map Ta.enc) (.own 2 (γ1) 3)⟩, ⟨0, none, .ptr 0 0⟩, ⟨1, none, .n x1⟩], [.blk (s1.2.1.enc ++ [.b s1.2.2.1, .n s1.2.2.2.1, .mp 1, .n s1.2.2.2.2.1]), .mapo (encM (kI .i64) (vA Ta.enc) s1.2.2.2.2.2), .room (γ1)]⟩ (AWp.reg Tryz.tyOk hΓ [11] [] (by kernel_rfl) rfl (by simp)) ?_
  refine AWp.cond (b := (ltI 0 (lenL s1.2.2.2.2.2))) (by simp) (fun h6 => ?_) (fun h6 => ?_)
  ·have hr := Li h6 hr
   refine AWp.skip ?_
   refine AWp.block ?_
   refine AWp.seq ?_
   obtain ⟨r1, h7, hr⟩ := Lb hr
   refine AWp.then ⟨[⟨27, none, .b (ltI (subI .i64 x1 ((getM eqI r1 (Ta.mk 0 ⟨⟨[]⟩⟩ 0) s1.2.2.2.2.2).fO)) s1.2.1.fp)⟩, ⟨5, none, .sl (s1.1.map Ta.enc) (.own 2 (γ1) 3)⟩, ⟨0, none, .ptr 0 0⟩, ⟨1, none, .n x1⟩], [.blk (s1.2.1.enc ++ [.b s1.2.2.1, .n s1.2.2.2.1, .mp 1, .n s1.2.2.2.2.1]), .mapo (encM (kI .i64) (vA Ta.enc) s1.2.2.2.2.2), .room (γ1)]⟩ (AWp.regD Tryz.mixed Tryz.tyOk hΓ [27] [11] [] [(false, []), (false, []), (false, []), (false, []), (false, []), (false, []), (false, []), (false, []), (false, []), (false, []), (false, []), (false, []), (false, []), (false, []), (false, []), (false, [])] (by kernel_rfl) rfl (by simp [h6, h7])) ?_
   refine AWp.cond (b := (ltI (subI .i64 x1 ((getM eqI r1 (Ta.mk 0 ⟨⟨[]⟩⟩ 0) s1.2.2.2.2.2).fO)) s1.2.1.fp)) (by simp) (fun h8 => ?_) (fun h8 => ?_)
   ·have hr := Li h8 hr
    refine AWp.exit ?_
    refine blockS_other (by decide) ?_
    obtain rfl := La hr
    exact Lo (γ1) 3 (by first | (simp; done) | simp [h6, h7, h8])
   ·have hr := Lj h8 hr
    refine AWp.skip ?_
    obtain ⟨r2, h9, hr⟩ := Lb hr
    obtain ⟨h10, hr⟩ := Lc hr
    refine AWp.last ⟨[⟨5, none, .sl ((appL s1.1 r2.1).map Ta.enc) (.own 2 (γ1 + 1) 3)⟩, ⟨0, none, .ptr 0 0⟩, ⟨1, none, .n x1⟩], [.blk (r2.2.2.fb.enc ++ [.b r2.2.2.fd, .n r2.2.2.fg, .mp 1, .n r2.2.2.fe]), .mapo (encM (kI .i64) (vA Ta.enc) r2.2.2.fOf), .room (γ1 + 1), .room r2.2.1]⟩ (AWp.reg Tryz.tyOk hΓ [5] [27] (by kernel_rfl) rfl (by simp [h8, h9, h10])) ?_
    obtain rfl := La hr
    exact Lq (γ1 + 1) 3 (by first | (simp; done) | simp [h6, h7, h8, h9, h10])
  ·have hr := Lj h6 hr
   refine AWp.exit ?_
   obtain rfl := La hr
   exact Lo (γ1) 3 (by first | (simp; done) | simp [h6])
 ·refine AWp.then ⟨[⟨4, none, .sl (v1.1.map Ta.enc) (.own 2 (γ1a) 3)⟩], [.blk (v1.2.1.enc ++ [.b v1.2.2.1, .n v1.2.2.2.1, .mp 1, .n v1.2.2.2.2.1]), .mapo (encM (kI .i64) (vA Ta.enc) v1.2.2.2.2.2), .room (γ1a)]⟩ (AWp.reg Tryz.tyOk hΓ [4] [5] (by kernel_rfl) rfl (by simp)) ?_
  refine AWp.ret ?_
  obtain rfl := La hr
  refine Lf ?_
  simp

@[simp] noncomputable def gm.S : Sp
 | [.ptr i0 0, .lit (.int .i64 x1)], M => match M[i0]? with
  | some (.blk c0) => (match nthE c0 4 with
  | some (.mp i1) => (match M[i1]? with
  | some (.mapo c1) => (fun (y0 : Th) => (fun (r : List Ta × Th) => some { av := .sl ((r.1).map Ta.enc) .no, M := some ((M.set i0 (.blk [.lit (.int .i64 (r.2.fb.fk)), .lit (.int .i64 (r.2.fb.fp)), .lit (.bool (r.2.fd)), .lit (.int .i64 (r.2.fg)), .mp i1, .lit (.int .i64 (r.2.fe))])).set i1 (.mapo (encM (kI .i64) (vA Ta.enc) (r.2.fOf)))), obl := c0 = Th.enc y0 i1 ∧ c1 = encM (kI .i64) (vA Ta.enc) (y0.fOf) ∧ (gm y0 x1).isSome = true ∧ i0 ≠ i1 }) ((gm y0 x1).getD dflt)) (Th.dec c0 (decM dkI (dvA Ta.dec) c1))
  | _ => none)
  | _ => none)
  | _ => none
 | _, _ => none

theorem gm.ok : SpecOk Tryz.prog 30 gm.S := by
 intro l M out h
 unfold gm.S at h
 split at h
 ·rename_i i0 x1
  split at h
  case h_2 => cases h
  rename_i c0 hM0
  split at h
  case h_2 => cases h
  rename_i i1 he1
  split at h
  case h_2 => cases h
  rename_i c1 hM1
  try dsimp only at h
  cases h
  refine callOk_of fun ho => ?_
  obtain ⟨oc0, oc1, hs, hne0⟩ := ho
  generalize (Th.dec c0 (decM dkI (dvA Ta.dec) c1)) = y0 at *
  subst oc0
  subst oc1
  obtain ⟨r, hr⟩ := Option.isSome_iff_exists.1 hs
  simp only [hr, Option.getD_some]
  have q := Lg (M := M) [i0, i1] (gm.can y0 x1 r hr) (by simp [hne0]) rfl (by intro k i hk; (cases k with | zero => (simp at hk; subst hk; simp [hM0, into]) | succ k => ((cases k with | zero => (simp at hk; subst hk; simp [hM1]) | succ k => (simp at hk)))))
  exact callOk_conv q trivial (by simp [into]) (by simp [frameOut, gm.out, into]) (by simp [frameOut, gm.out, into])
 ·cases h
end Go.Proofs

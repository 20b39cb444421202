/- That these functions compute what their plain functions do. No condition. -/
import Derived.Test.YtbijdlgffebenaaQ02
import Derived.Test.YtbijdlgffebenaaTy
set_option maxRecDepth 100000
set_option maxHeartbeats 4000000
namespace Go.Proofs
open Go.Ab
@[simp] def gq.out (_x0 : Tk) (r : Int) : Out := { av := .lit (.int .i64 r), M := none }
def gq.fin (x0 : Tk) (r : Int) (σ : St) : Prop := finK (gq.out x0 r) [] σ.M (resA Try.ty σ.A σ.M Try.f21.results.toList)
theorem gq.can (x0 : Tk) (r : Int) (hr : gq x0 = some r) : CallOk Try.prog 21 [.agg [.lit (.int .i64 x0.fk), .lit (.int .i64 x0.fq)]] [] (gq.out x0 r) := by
 unfold gq at hr
 have hΓ := gamL_nil (P := Try.prog)
 refine Lf Try.tyOk Try.func21 rfl (by kernel_rfl) rfl rfl (by simp) ?_
 intro _ _ _
 refine AWp.then ⟨[⟨1, none, .ptr 0 0⟩], [.blk x0.enc]⟩ (AWp.reg Try.tyOk hΓ [1] [0] (by kernel_rfl) rfl (by simp)) ?_
 refine AWp.seq ?_
 refine AWp.then ⟨[⟨20, none, .b (pickB (pickB (pickB (ltI x0.fk 1) true (ltI 1024 x0.fk)) true (ltI x0.fq 0)) true (ltI 1099511627776 x0.fq))⟩], [.blk x0.enc]⟩ (AWp.reg Try.tyOk hΓ [20] [1] (by kernel_rfl) rfl (by simp)) ?_
 refine AWp.cond (b := (pickB (pickB (pickB (ltI x0.fk 1) true (ltI 1024 x0.fk)) true (ltI x0.fq 0)) true (ltI 1099511627776 x0.fq))) (by simp) (fun h2 => ?_) (fun h2 => ?_)
 ·have hr := Lj h2 hr
  refine AWp.thenA [⟨2, none, .n 5⟩] (AWp.reg Try.tyOk hΓ [2] [20] (by kernel_rfl) rfl (by simp [h2])) ?_
  refine AWp.ret ?_
  obtain rfl := La hr
  refine Lg ?_
  simp
 ·have hr := Lk h2 hr
  refine AWp.skip ?_
  refine AWp.then ⟨[⟨2, none, .n 0⟩], [.blk x0.enc]⟩ (AWp.reg Try.tyOk hΓ [2] [20] (by kernel_rfl) rfl (by simp [h2])) ?_
  refine AWp.ret ?_
  obtain rfl := La hr
  refine Lg ?_
  simp

@[simp] noncomputable def gq.S : Sp
 | [.agg e0], _ => some { av := .lit (.int .i64 ((gq (Tk.dec e0)).getD dflt)), M := none, obl := WeakL e0 (Tk.enc (Tk.dec e0)) ∧ (gq (Tk.dec e0)).isSome = true }
 | _, _ => none

theorem gq.ok : SpecOk Try.prog 21 gq.S := by
 intro l M out h
 unfold gq.S at h
 split at h
 ·rename_i e0
  cases h
  refine callOk_of fun ho => ?_
  obtain ⟨ox0, hs⟩ := ho
  generalize (Tk.dec e0) = x0 at *
  obtain ⟨r, hr⟩ := Option.isSome_iff_exists.1 hs
  simp only [hr, Option.getD_some]
  have q := Lh (M := M) [] (gq.can x0 r hr) (by simp) rfl (by intro k i hk; simp at hk)
  exact callOk_conv q trivial (by simp; exact ox0) (by simp [frameOut, gq.out]) (by simp [frameOut, gq.out])
 ·cases h

@[simp] def gaa.out (_x0 : Tk) (r : Option Tg × Int) : Out := { av := .tup [(optC r.1 (.lit (.pointer none)) fun _ => .ptr 2 0), .lit (.int .i64 r.2)], M := some (optC r.1 [] fun m0 => [.dead, .mapo (encM (kI .i64) (vA Ta.enc) m0.fOf), .blk [.lit (.int .i64 m0.fb.fk), .lit (.int .i64 m0.fb.fq), .lit (.bool m0.fd), .lit (.int .i64 m0.fg), .mp 1, .lit (.int .i64 m0.fe)]]) }
def gaa.fin (x0 : Tk) (r : Option Tg × Int) (σ : St) : Prop := finK (gaa.out x0 r) [] σ.M (resA Try.ty σ.A σ.M Try.f30.results.toList)
theorem gaa.can (x0 : Tk) (r : Option Tg × Int) (hr : gaa x0 = some r) : CallOk Try.prog 30 [.agg [.lit (.int .i64 x0.fk), .lit (.int .i64 x0.fq)]] [] (gaa.out x0 r) := by
 unfold gaa at hr
 have hΓ := (gamL_cons gq.ok (gamL_nil) : GamOk Try.prog _)
 refine Lf Try.tyOk Try.func30 rfl (by kernel_rfl) rfl rfl (by simp) ?_
 intro _ _ _
 refine AWp.then ⟨[⟨1, none, .ptr 0 0⟩], [.blk x0.enc]⟩ (AWp.reg Try.tyOk hΓ [1] [0] (by kernel_rfl) rfl (by simp)) ?_
 refine AWp.seq ?_
 obtain ⟨r1, h3, hr⟩ := Lc hr
 refine AWp.then ⟨[⟨4, none, .n r1⟩, ⟨1, none, .ptr 0 0⟩], [.blk x0.enc]⟩ (AWp.reg Try.tyOk hΓ [4] [] (by kernel_rfl) rfl (by simp [h3])) ?_
 refine AWp.thenA [⟨8, none, .b (neI r1 0)⟩, ⟨4, none, .n r1⟩, ⟨1, none, .ptr 0 0⟩] (AWp.reg Try.tyOk hΓ [8] [] (by kernel_rfl) rfl (by simp)) ?_
 refine AWp.cond (b := (neI r1 0)) (by simp) (fun h4 => ?_) (fun h4 => ?_)
 ·have hr := Lj h4 hr
  refine AWp.thenA [⟨2, none, .lit (.pointer none)⟩, ⟨3, none, .n r1⟩] (AWp.reg Try.tyOk hΓ [2, 3] [8, 4, 1] (by kernel_rfl) rfl (by simp [h4])) ?_
  refine AWp.ret ?_
  obtain rfl := La hr
  refine Lg ?_
  simp
 ·have hr := Lk h4 hr
  refine AWp.skip ?_
  refine AWp.then ⟨[⟨2, none, .ptr 2 0⟩, ⟨3, none, .n 0⟩], [.blk x0.enc, .mapo ([]), .blk (x0.enc ++ [.b false, .n 0, .mp 1, .n 0])]⟩ (AWp.reg Try.tyOk hΓ [2, 3] [8, 4, 1] (by kernel_rfl) rfl (by simp [h4])) ?_
  refine AWp.ret ?_
  obtain rfl := La hr
  refine Lg ?_
  simp

@[simp] noncomputable def gaa.S : Sp
 | [.agg e0], M => some { av := .tup [(optC (((gaa (Tk.dec e0)).getD dflt).1) (.lit (.pointer none)) fun _ => .ptr (M.length + 2) 0), .lit (.int .i64 (((gaa (Tk.dec e0)).getD dflt).2))], M := some (optC (((gaa (Tk.dec e0)).getD dflt).1) M fun m0 => M ++ [.dead, .mapo (encM (kI .i64) (vA Ta.enc) m0.fOf), .blk [.lit (.int .i64 m0.fb.fk), .lit (.int .i64 m0.fb.fq), .lit (.bool m0.fd), .lit (.int .i64 m0.fg), .mp (M.length + 1), .lit (.int .i64 m0.fe)]]), obl := WeakL e0 (Tk.enc (Tk.dec e0)) ∧ (gaa (Tk.dec e0)).isSome = true }
 | _, _ => none

theorem gaa.ok : SpecOk Try.prog 30 gaa.S := by
 intro l M out h
 unfold gaa.S at h
 split at h
 ·rename_i e0
  cases h
  refine callOk_of fun ho => ?_
  obtain ⟨ox0, hs⟩ := ho
  generalize (Tk.dec e0) = x0 at *
  obtain ⟨r, hr⟩ := Option.isSome_iff_exists.1 hs
  simp only [hr, Option.getD_some]
  have q := Lh (M := M) [] (gaa.can x0 r hr) (by simp) rfl (by intro k i hk; simp at hk)
  cases hc : r.1 with
  | none => exact callOk_conv q trivial (by simp; exact ox0) (by simp [hc, frameOut, gaa.out]) (by simp [hc, frameOut, gaa.out])
  | some m0 => exact callOk_conv q trivial (by simp; exact ox0) (by simp [hc, frameOut, gaa.out, into]) (by simp [hc, frameOut, gaa.out, into])
 ·cases h

@[simp] def gt.out (_x0 : Tg) (r : Int) : Out := { av := .lit (.int .i64 r), M := none }
def gt.fin (x0 : Tg) (r : Int) (σ : St) : Prop := finK (gt.out x0 r) [.blk (x0.fb.enc ++ [.lit (.bool x0.fd), .lit (.int .i64 x0.fg), .mp 1, .lit (.int .i64 x0.fe)]), .mapo (encM (kI .i64) (vA Ta.enc) x0.fOf)] σ.M (resA Try.ty σ.A σ.M Try.f13.results.toList)
theorem gt.can (x0 : Tg) (r : Int) (hr : gt x0 = some r) : CallOk Try.prog 13 [.ptr 0 0] [.blk (x0.fb.enc ++ [.lit (.bool x0.fd), .lit (.int .i64 x0.fg), .mp 1, .lit (.int .i64 x0.fe)]), .mapo (encM (kI .i64) (vA Ta.enc) x0.fOf)] (gt.out x0 r) := by
 unfold gt at hr
 have hΓ := gamL_nil (P := Try.prog)
 refine Lf Try.tyOk Try.func13 rfl (by kernel_rfl) rfl rfl (by simp) ?_
 intro _ _ _
 refine AWp.then ⟨[⟨0, none, .ptr 0 0⟩], [.blk (x0.fb.enc ++ [.b x0.fd, .n x0.fg, .mp 1, .n x0.fe]), .mapo (encM (kI .i64) (vA Ta.enc) x0.fOf)]⟩ (AWp.reg Try.tyOk hΓ [] [] (by kernel_rfl) rfl (by simp)) ?_
 refine AWp.thenA [⟨2, none, .n (lenL x0.fOf)⟩] (AWp.reg Try.tyOk hΓ [2] [0] (by kernel_rfl) rfl (by simp)) ?_
 refine AWp.ret ?_
 obtain rfl := La hr
 refine Lg ?_
 simp

@[simp] noncomputable def gt.S : Sp
 | [.ptr i0 0], M => match M[i0]? with
  | some (.blk c0) => (match nthE c0 4 with
  | some (.mp i1) => (match M[i1]? with
  | some (.mapo c1) => (fun (y0 : Tg) => some { av := .lit (.int .i64 ((gt y0).getD dflt)), M := none, obl := c0 = Tg.enc y0 i1 ∧ c1 = encM (kI .i64) (vA Ta.enc) (y0.fOf) ∧ (gt y0).isSome = true ∧ i0 ≠ i1 }) (Tg.dec c0 (decM dkI (dvA Ta.dec) c1))
  | _ => none)
  | _ => none)
  | _ => none
 | _, _ => none

theorem gt.ok : SpecOk Try.prog 13 gt.S := by
 intro l M out h
 unfold gt.S at h
 split at h
 ·rename_i i0
  split at h
  case h_2 => cases h
  rename_i c0 hM0
  split at h
  case h_2 => cases h
  rename_i i1 he1
  split at h
  case h_2 => cases h
  rename_i c1 hM1
  try dsimp only at h
  cases h
  refine callOk_of fun ho => ?_
  obtain ⟨oc0, oc1, hs, hne0⟩ := ho
  generalize (Tg.dec c0 (decM dkI (dvA Ta.dec) c1)) = y0 at *
  subst oc0
  subst oc1
  obtain ⟨r, hr⟩ := Option.isSome_iff_exists.1 hs
  simp only [hr, Option.getD_some]
  have q := Lh (M := M) [i0, i1] (gt.can y0 r hr) (by simp [hne0]) rfl (by intro k i hk; (cases k with | zero => (simp at hk; subst hk; simp [hM0, into]) | succ k => ((cases k with | zero => (simp at hk; subst hk; simp [hM1]) | succ k => (simp at hk)))))
  exact callOk_conv q trivial (by simp [into]) (by simp [frameOut, gt.out, into]) (by simp only [frameOut, gt.out, Option.getD_some, Option.getD_none]; simp [into, hM0, hM1, set_same])
 ·cases h

@[simp] def gz.out (_x0 : Tg) (r : Int) : Out := { av := .lit (.int .i64 r), M := none }
def gz.fin (x0 : Tg) (r : Int) (σ : St) : Prop := finK (gz.out x0 r) [.blk (x0.fb.enc ++ [.lit (.bool x0.fd), .lit (.int .i64 x0.fg), .mp 1, .lit (.int .i64 x0.fe)]), .mapo (encM (kI .i64) (vA Ta.enc) x0.fOf)] σ.M (resA Try.ty σ.A σ.M Try.f14.results.toList)
theorem gz.can (x0 : Tg) (r : Int) (hr : gz x0 = some r) : CallOk Try.prog 14 [.ptr 0 0] [.blk (x0.fb.enc ++ [.lit (.bool x0.fd), .lit (.int .i64 x0.fg), .mp 1, .lit (.int .i64 x0.fe)]), .mapo (encM (kI .i64) (vA Ta.enc) x0.fOf)] (gz.out x0 r) := by
 unfold gz at hr
 have hΓ := gamL_nil (P := Try.prog)
 refine Lf Try.tyOk Try.func14 rfl (by kernel_rfl) rfl rfl (by simp) ?_
 intro _ _ _
 refine AWp.then ⟨[⟨0, none, .ptr 0 0⟩], [.blk (x0.fb.enc ++ [.b x0.fd, .n x0.fg, .mp 1, .n x0.fe]), .mapo (encM (kI .i64) (vA Ta.enc) x0.fOf)]⟩ (AWp.reg Try.tyOk hΓ [] [] (by kernel_rfl) rfl (by simp)) ?_
 refine AWp.thenA [⟨2, none, .n x0.fe⟩] (AWp.reg Try.tyOk hΓ [2] [0] (by kernel_rfl) rfl (by simp)) ?_
 refine AWp.ret ?_
 obtain rfl := La hr
 refine Lg ?_
 simp

@[simp] noncomputable def gz.S : Sp
 | [.ptr i0 0], M => match M[i0]? with
  | some (.blk c0) => (match nthE c0 4 with
  | some (.mp i1) => (match M[i1]? with
  | some (.mapo c1) => (fun (y0 : Tg) => some { av := .lit (.int .i64 ((gz y0).getD dflt)), M := none, obl := c0 = Tg.enc y0 i1 ∧ c1 = encM (kI .i64) (vA Ta.enc) (y0.fOf) ∧ (gz y0).isSome = true ∧ i0 ≠ i1 }) (Tg.dec c0 (decM dkI (dvA Ta.dec) c1))
  | _ => none)
  | _ => none)
  | _ => none
 | _, _ => none

theorem gz.ok : SpecOk Try.prog 14 gz.S := by
 intro l M out h
 unfold gz.S at h
 split at h
 ·rename_i i0
  split at h
  case h_2 => cases h
  rename_i c0 hM0
  split at h
  case h_2 => cases h
  rename_i i1 he1
  split at h
  case h_2 => cases h
  rename_i c1 hM1
  try dsimp only at h
  cases h
  refine callOk_of fun ho => ?_
  obtain ⟨oc0, oc1, hs, hne0⟩ := ho
  generalize (Tg.dec c0 (decM dkI (dvA Ta.dec) c1)) = y0 at *
  subst oc0
  subst oc1
  obtain ⟨r, hr⟩ := Option.isSome_iff_exists.1 hs
  simp only [hr, Option.getD_some]
  have q := Lh (M := M) [i0, i1] (gz.can y0 r hr) (by simp [hne0]) rfl (by intro k i hk; (cases k with | zero => (simp at hk; subst hk; simp [hM0, into]) | succ k => ((cases k with | zero => (simp at hk; subst hk; simp [hM1]) | succ k => (simp at hk)))))
  exact callOk_conv q trivial (by simp [into]) (by simp [frameOut, gz.out, into]) (by simp only [frameOut, gz.out, Option.getD_some, Option.getD_none]; simp [into, hM0, hM1, set_same])
 ·cases h

@[simp] def gi.out (_x0 : Tg) (r : List Ta × Nat × Tg) : Out := { av := .sl (r.1.map Ta.enc) (.own 2 r.2.1 3), M := some [.blk [.lit (.int .i64 r.2.2.fb.fk), .lit (.int .i64 r.2.2.fb.fq), .lit (.bool r.2.2.fd), .lit (.int .i64 r.2.2.fg), .mp 1, .lit (.int .i64 r.2.2.fe)], .mapo (encM (kI .i64) (vA Ta.enc) r.2.2.fOf), .room r.2.1] }
def gi.fin (x0 : Tg) (r : List Ta × Nat × Tg) (σ : St) : Prop := finK (gi.out x0 r) [.blk (x0.fb.enc ++ [.lit (.bool x0.fd), .lit (.int .i64 x0.fg), .mp 1, .lit (.int .i64 x0.fe)]), .mapo (encM (kI .i64) (vA Ta.enc) x0.fOf)] σ.M (resA Try.ty σ.A σ.M Try.f41.results.toList)
theorem gi.can (x0 : Tg) (r : List Ta × Nat × Tg) (hr : gi x0 = some r) : CallOk Try.prog 41 [.ptr 0 0] [.blk (x0.fb.enc ++ [.lit (.bool x0.fd), .lit (.int .i64 x0.fg), .mp 1, .lit (.int .i64 x0.fe)]), .mapo (encM (kI .i64) (vA Ta.enc) x0.fOf)] (gi.out x0 r) := by
 unfold gi at hr
 have hΓ := gamL_nil (P := Try.prog)
 refine Lf Try.tyOk Try.func41 rfl (by kernel_rfl) rfl rfl (by simp) ?_
 intro _ _ _
 refine AWp.then ⟨[⟨0, none, .ptr 0 0⟩], [.blk (x0.fb.enc ++ [.b x0.fd, .n x0.fg, .mp 1, .n x0.fe]), .mapo (encM (kI .i64) (vA Ta.enc) x0.fOf)]⟩ (AWp.reg Try.tyOk hΓ [] [] (by kernel_rfl) rfl (by simp)) ?_
 refine AWp.thenA [⟨3, none, .sl [] .full⟩, ⟨0, none, .ptr 0 0⟩] (AWp.reg Try.tyOk hΓ [3] [] (by kernel_rfl) rfl (by simp)) ?_
 refine AWp.equip 3 3 (els := []) (by simp) (by simp) ?_
 refine AWp.loopE (fun (s1 : Nat × List Ta × Int × (List (Int × Ta))) (γ1 : Unit) => ⟨[⟨3, none, .sl (s1.2.1.map Ta.enc) (.own 2 s1.1 3)⟩, ⟨0, none, .ptr 0 0⟩], [.blk (x0.fb.enc ++ [.b x0.fd, .n s1.2.2.1, .mp 1, .n x0.fe]), .mapo (encM (kI .i64) (vA Ta.enc) s1.2.2.2), .room s1.1]⟩) (fun (v1 : Unit) (γ1a : Unit) => ⟨[], []⟩) (gi.fin x0) hr () 3 (by simp) (fun s1 f γ1 hr => ?_) (fun v1 γ1a σ1 m1 hr hc => ?_) (fun _ h => h)
 ·unfold gi.loop1 at hr
  refine AWp.block ?_
  refine AWp.then ⟨[⟨4, none, .ptr 3 0⟩, ⟨5, none, .b (hasM eqI s1.2.2.1 s1.2.2.2)⟩, ⟨3, none, .sl (s1.2.1.map Ta.enc) (.own 2 s1.1 3)⟩, ⟨0, none, .ptr 0 0⟩], [.blk (x0.fb.enc ++ [.b x0.fd, .n s1.2.2.1, .mp 1, .n x0.fe]), .mapo (encM (kI .i64) (vA Ta.enc) s1.2.2.2), .room s1.1, .blk (getM eqI s1.2.2.1 (Ta.mk 0 ⟨⟨[]⟩⟩ 0) s1.2.2.2).enc]⟩ (AWp.regD Try.mixed Try.tyOk hΓ [4, 5] [] [(0, 13), (1, 13), (2, 13), (3, 13), (4, 13), (5, 13), (6, 13), (7, 13), (8, 13), (9, 13), (10, 13), (11, 13), (11, 14)] [(false, []), (false, []), (false, []), (false, []), (false, []), (false, []), (false, []), (false, []), (false, []), (false, []), (false, []), (false, []), (true, []), (true, []), (false, [])] (by kernel_rfl) rfl (by simp)) ?_
  refine AWp.seq ?_
  refine AWp.then ⟨[⟨19, none, .b (notB (hasM eqI s1.2.2.1 s1.2.2.2))⟩, ⟨4, none, .ptr 3 0⟩, ⟨3, none, .sl (s1.2.1.map Ta.enc) (.own 2 s1.1 3)⟩, ⟨0, none, .ptr 0 0⟩], [.blk (x0.fb.enc ++ [.b x0.fd, .n s1.2.2.1, .mp 1, .n x0.fe]), .mapo (encM (kI .i64) (vA Ta.enc) s1.2.2.2), .room s1.1, .blk (getM eqI s1.2.2.1 (Ta.mk 0 ⟨⟨[]⟩⟩ 0) s1.2.2.2).enc]⟩ (AWp.reg Try.tyOk hΓ [19] [5] (by kernel_rfl) rfl (by simp)) ?_
  refine AWp.cond (b := (notB (hasM eqI s1.2.2.1 s1.2.2.2))) (by simp) (fun h3 => ?_) (fun h3 => ?_)
  ·have hr := Lj h3 hr
   refine AWp.thenA [⟨2, none, .sl (s1.2.1.map Ta.enc) (.own 2 s1.1 3)⟩] (AWp.reg Try.tyOk hΓ [2] [19, 4, 3, 0] (by kernel_rfl) rfl (by simp [h3])) ?_
   refine AWp.ret ?_
   obtain rfl := La hr
   refine round_ret ?_
   refine Lg ?_
   simp
  ·have hr := Lk h3 hr
   refine AWp.skip ?_
   refine AWp.then ⟨[⟨4, none, .ptr 3 0⟩, ⟨3, none, .sl (s1.2.1.map Ta.enc) (.own 2 s1.1 3)⟩, ⟨0, none, .ptr 0 0⟩], [.blk (x0.fb.enc ++ [.b x0.fd, .n s1.2.2.1, .mp 1, .n x0.fe]), .mapo (encM (kI .i64) (vA Ta.enc) (delM eqI s1.2.2.1 s1.2.2.2)), .room s1.1, .blk (getM eqI s1.2.2.1 (Ta.mk 0 ⟨⟨[]⟩⟩ 0) s1.2.2.2).enc]⟩ (AWp.regD Try.mixed Try.tyOk hΓ [] [19] [] [(false, []), (false, []), (false, []), (false, []), (false, []), (false, []), (false, []), (false, []), (true, [])] (by kernel_rfl) rfl (by simp [h3])) ?_
   obtain ⟨h4, hr⟩ := Li hr
   refine AWp.then ⟨[⟨3, none, .sl ((appL s1.2.1 [(getM eqI s1.2.2.1 (Ta.mk 0 ⟨⟨[]⟩⟩ 0) s1.2.2.2)]).map Ta.enc) (.own 2 (s1.1 + 1) 3)⟩, ⟨0, none, .ptr 0 0⟩], [.blk (x0.fb.enc ++ [.b x0.fd, .n s1.2.2.1, .mp 1, .n x0.fe]), .mapo (encM (kI .i64) (vA Ta.enc) (delM eqI s1.2.2.1 s1.2.2.2)), .room (s1.1 + 1), .blk (getM eqI s1.2.2.1 (Ta.mk 0 ⟨⟨[]⟩⟩ 0) s1.2.2.2).enc]⟩ (AWp.reg Try.tyOk hΓ [3] [4] (by kernel_rfl) rfl (by simp [h4])) ?_
   refine AWp.last ⟨[⟨3, none, .sl ((appL s1.2.1 [(getM eqI s1.2.2.1 (Ta.mk 0 ⟨⟨[]⟩⟩ 0) s1.2.2.2)]).map Ta.enc) (.own 2 (s1.1 + 1) 3)⟩, ⟨0, none, .ptr 0 0⟩], [.blk (x0.fb.enc ++ [.b x0.fd, .n (addI .i64 s1.2.2.1 1), .mp 1, .n x0.fe]), .mapo (encM (kI .i64) (vA Ta.enc) (delM eqI s1.2.2.1 s1.2.2.2)), .room (s1.1 + 1), .blk (getM eqI s1.2.2.1 (Ta.mk 0 ⟨⟨[]⟩⟩ 0) s1.2.2.2).enc]⟩ (AWp.reg Try.tyOk hΓ [] [] (by kernel_rfl) rfl (by simp)) ?_
   obtain rfl := La hr
   exact round_go () 3 (by first | (simp; done) | simp [h3, h4])
 ·cases hr

@[simp] noncomputable def gi.S : Sp
 | [.ptr i0 0], M => match M[i0]? with
  | some (.blk c0) => (match nthE c0 4 with
  | some (.mp i1) => (match M[i1]? with
  | some (.mapo c1) => (fun (y0 : Tg) => (fun (r : List Ta × Nat × Tg) => some { av := .sl ((r.1).map Ta.enc) (.own M.length (r.2.1) 3), M := some (((M.set i0 (.blk [.lit (.int .i64 (r.2.2.fb.fk)), .lit (.int .i64 (r.2.2.fb.fq)), .lit (.bool (r.2.2.fd)), .lit (.int .i64 (r.2.2.fg)), .mp i1, .lit (.int .i64 (r.2.2.fe))])).set i1 (.mapo (encM (kI .i64) (vA Ta.enc) (r.2.2.fOf)))) ++ [.room (r.2.1)]), obl := c0 = Tg.enc y0 i1 ∧ c1 = encM (kI .i64) (vA Ta.enc) (y0.fOf) ∧ (gi y0).isSome = true ∧ i0 ≠ i1 }) ((gi y0).getD dflt)) (Tg.dec c0 (decM dkI (dvA Ta.dec) c1))
  | _ => none)
  | _ => none)
  | _ => none
 | _, _ => none

theorem gi.ok : SpecOk Try.prog 41 gi.S := by
 intro l M out h
 unfold gi.S at h
 split at h
 ·rename_i i0
  split at h
  case h_2 => cases h
  rename_i c0 hM0
  split at h
  case h_2 => cases h
  rename_i i1 he1
  split at h
  case h_2 => cases h
  rename_i c1 hM1
  try dsimp only at h
  cases h
  refine callOk_of fun ho => ?_
  obtain ⟨oc0, oc1, hs, hne0⟩ := ho
  generalize (Tg.dec c0 (decM dkI (dvA Ta.dec) c1)) = y0 at *
  subst oc0
  subst oc1
  obtain ⟨r, hr⟩ := Option.isSome_iff_exists.1 hs
  simp only [hr, Option.getD_some]
  have q := Lh (M := M) [i0, i1] (gi.can y0 r hr) (by simp [hne0]) rfl (by intro k i hk; (cases k with | zero => (simp at hk; subst hk; simp [hM0, into]) | succ k => ((cases k with | zero => (simp at hk; subst hk; simp [hM1]) | succ k => (simp at hk)))))
  exact callOk_conv q trivial (by simp [into]) (by simp [frameOut, gi.out, into]) (by simp [frameOut, gi.out, into])
 ·cases h
end Go.Proofs

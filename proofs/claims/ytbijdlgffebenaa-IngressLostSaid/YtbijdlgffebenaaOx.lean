/- That these functions compute what their plain functions do. No condition. -/
import Derived.Test.YtbijdlgffebenaaQ09
import Derived.Test.YtbijdlgffebenaaTy
import Derived.Test.YtbijdlgffebenaaWe
set_option maxRecDepth 100000
set_option maxHeartbeats 4000000
namespace Go.Proofs
open Go.Ab
@[simp] def gak.out (_x0 : ByteArray) (r : Tj) : Out := { av := .ptr 0 0, M := some [.blk [.lit (.string r.fS), .lit (.int .i64 r.fE)]] }
def gak.fin (x0 : ByteArray) (r : Tj) (σ : St) : Prop := finK (gak.out x0 r) [] σ.M (resA Try.ty σ.A σ.M Try.f65.results.toList)
theorem gak.can (x0 : ByteArray) (r : Tj) (hr : gak x0 = some r) : CallOk Try.prog 65 [.lit (.string x0)] [] (gak.out x0 r) := by
 unfold gak at hr
 have hΓ := gamL_nil (P := Try.prog)
 refine Lf Try.tyOk Try.func65 rfl (by kernel_rfl) rfl rfl (by simp) ?_
 intro _ _ _
 refine AWp.then ⟨[⟨0, none, .s x0⟩], []⟩ (AWp.reg Try.tyOk hΓ [] [] (by kernel_rfl) rfl (by simp)) ?_
 refine AWp.then ⟨[⟨2, none, .ptr 0 0⟩], [.blk [.s x0, .n 0]]⟩ (AWp.reg Try.tyOk hΓ [2] [0] (by kernel_rfl) rfl (by simp)) ?_
 refine AWp.ret ?_
 obtain rfl := La hr
 refine Lg ?_
 simp

@[simp] noncomputable def gak.S : Sp
 | [.lit (.string x0)], M => some { av := .ptr M.length 0, M := some (M ++ [.blk [.lit (.string (((gak x0).getD dflt).fS)), .lit (.int .i64 (((gak x0).getD dflt).fE))]]), obl := (gak x0).isSome = true }
 | _, _ => none

theorem gak.ok : SpecOk Try.prog 65 gak.S := by
 intro l M out h
 unfold gak.S at h
 split at h
 ·rename_i x0
  cases h
  refine callOk_of fun ho => ?_
  have hs := ho
  obtain ⟨r, hr⟩ := Option.isSome_iff_exists.1 hs
  simp only [hr, Option.getD_some]
  have q := Lh (M := M) [] (gak.can x0 r hr) (by simp) rfl (by intro k i hk; simp at hk)
  exact callOk_conv q trivial (by simp) (by simp [frameOut, gak.out, into]) (by simp [frameOut, gak.out, into])
 ·cases h

@[simp] def gZ.out (_x0 : Tj) (r : Int) : Out := { av := .lit (.int .i64 r), M := none }
def gZ.fin (x0 : Tj) (r : Int) (σ : St) : Prop := finK (gZ.out x0 r) [.blk x0.enc] σ.M (resA Try.ty σ.A σ.M Try.f76.results.toList)
theorem gZ.can (x0 : Tj) (r : Int) (hr : gZ x0 = some r) : CallOk Try.prog 76 [.ptr 0 0] [.blk x0.enc] (gZ.out x0 r) := by
 unfold gZ at hr
 have hΓ := gamL_nil (P := Try.prog)
 refine Lf Try.tyOk Try.func76 rfl (by kernel_rfl) rfl rfl (by simp) ?_
 intro _ _ _
 refine AWp.then ⟨[⟨0, none, .ptr 0 0⟩], [.blk x0.enc]⟩ (AWp.reg Try.tyOk hΓ [] [] (by kernel_rfl) rfl (by simp)) ?_
 refine AWp.thenA [⟨2, none, .n (lenS x0.fS)⟩] (AWp.reg Try.tyOk hΓ [2] [0] (by kernel_rfl) rfl (by simp)) ?_
 refine AWp.ret ?_
 obtain rfl := La hr
 refine Lg ?_
 simp

@[simp] noncomputable def gZ.S : Sp
 | [.ptr i0 0], M => match M[i0]? with
  | some (.blk c0) => some { av := .lit (.int .i64 ((gZ (Tj.dec c0)).getD dflt)), M := none, obl := c0 = Tj.enc (Tj.dec c0) ∧ (gZ (Tj.dec c0)).isSome = true }
  | _ => none
 | _, _ => none

theorem gZ.ok : SpecOk Try.prog 76 gZ.S := by
 intro l M out h
 unfold gZ.S at h
 split at h
 ·rename_i i0
  split at h
  case h_2 => cases h
  rename_i c0 hM0
  cases h
  refine callOk_of fun ho => ?_
  obtain ⟨oc0, hs⟩ := ho
  generalize (Tj.dec c0) = y0 at *
  subst oc0
  obtain ⟨r, hr⟩ := Option.isSome_iff_exists.1 hs
  simp only [hr, Option.getD_some]
  have q := Lh (M := M) [i0] (gZ.can y0 r hr) (by simp) rfl (by intro k i hk; (cases k with | zero => (simp at hk; subst hk; simp [hM0]) | succ k => (simp at hk)))
  exact callOk_conv q trivial (by simp [into]) (by simp [frameOut, gZ.out]) (by simp only [frameOut, gZ.out, Option.getD_some, Option.getD_none]; simp [hM0, set_same])
 ·cases h

@[simp] def gW.out (_x0 : Tj) (r : Int) : Out := { av := .lit (.int .i64 r), M := none }
def gW.fin (x0 : Tj) (r : Int) (σ : St) : Prop := finK (gW.out x0 r) [.blk x0.enc] σ.M (resA Try.ty σ.A σ.M Try.f68.results.toList)
theorem gW.can (x0 : Tj) (r : Int) (hr : gW x0 = some r) : CallOk Try.prog 68 [.ptr 0 0] [.blk x0.enc] (gW.out x0 r) := by
 unfold gW at hr
 have hΓ := gamL_nil (P := Try.prog)
 refine Lf Try.tyOk Try.func68 rfl (by kernel_rfl) rfl rfl (by simp) ?_
 intro _ _ _
 refine AWp.then ⟨[⟨0, none, .ptr 0 0⟩], [.blk x0.enc]⟩ (AWp.reg Try.tyOk hΓ [] [] (by kernel_rfl) rfl (by simp)) ?_
 refine AWp.thenA [⟨2, none, .n x0.fE⟩] (AWp.reg Try.tyOk hΓ [2] [0] (by kernel_rfl) rfl (by simp)) ?_
 refine AWp.ret ?_
 obtain rfl := La hr
 refine Lg ?_
 simp

@[simp] noncomputable def gW.S : Sp
 | [.ptr i0 0], M => match M[i0]? with
  | some (.blk c0) => some { av := .lit (.int .i64 ((gW (Tj.dec c0)).getD dflt)), M := none, obl := c0 = Tj.enc (Tj.dec c0) ∧ (gW (Tj.dec c0)).isSome = true }
  | _ => none
 | _, _ => none

theorem gW.ok : SpecOk Try.prog 68 gW.S := by
 intro l M out h
 unfold gW.S at h
 split at h
 ·rename_i i0
  split at h
  case h_2 => cases h
  rename_i c0 hM0
  cases h
  refine callOk_of fun ho => ?_
  obtain ⟨oc0, hs⟩ := ho
  generalize (Tj.dec c0) = y0 at *
  subst oc0
  obtain ⟨r, hr⟩ := Option.isSome_iff_exists.1 hs
  simp only [hr, Option.getD_some]
  have q := Lh (M := M) [i0] (gW.can y0 r hr) (by simp) rfl (by intro k i hk; (cases k with | zero => (simp at hk; subst hk; simp [hM0]) | succ k => (simp at hk)))
  exact callOk_conv q trivial (by simp [into]) (by simp [frameOut, gW.out]) (by simp only [frameOut, gW.out, Option.getD_some, Option.getD_none]; simp [hM0, set_same])
 ·cases h

@[simp] def gO.out (_x0 : Tj) (_x1 : Int) (r : Tj) : Out := { av := .tup [], M := some [.blk [.lit (.string r.fS), .lit (.int .i64 r.fE)]] }
def gO.fin (x0 : Tj) (x1 : Int) (r : Tj) (σ : St) : Prop := finK (gO.out x0 x1 r) [.blk x0.enc] σ.M (resA Try.ty σ.A σ.M Try.f78.results.toList)
theorem gO.can (x0 : Tj) (x1 : Int) (r : Tj) (hr : gO x0 x1 = some r) : CallOk Try.prog 78 [.ptr 0 0, .lit (.int .i64 x1)] [.blk x0.enc] (gO.out x0 x1 r) := by
 unfold gO at hr
 have hΓ := gamL_nil (P := Try.prog)
 refine Lf Try.tyOk Try.func78 rfl (by kernel_rfl) rfl rfl (by simp) ?_
 intro _ _ _
 refine AWp.then ⟨[⟨12, none, .b (pickB (eqI x0.fE 0) (neI x1 0) false)⟩, ⟨0, none, .ptr 0 0⟩, ⟨1, none, .n x1⟩], [.blk x0.enc]⟩ (AWp.reg Try.tyOk hΓ [12] [] (by kernel_rfl) rfl (by simp)) ?_
 refine AWp.cond (b := (pickB (eqI x0.fE 0) (neI x1 0) false)) (by simp) (fun h2 => ?_) (fun h2 => ?_)
 ·have hr := Lj h2 hr
  refine AWp.last ⟨[], [.blk [.s ⟨#[]⟩, .n x1]]⟩ (AWp.reg Try.tyOk hΓ [] [12, 0, 1] (by kernel_rfl) rfl (by simp [h2])) ?_
  obtain rfl := La hr
  refine fin_norm ?_
  simp
 ·have hr := Lk h2 hr
  refine AWp.skip ?_
  obtain rfl := La hr
  refine fin_norm ?_
  simp

@[simp] noncomputable def gO.S : Sp
 | [.ptr i0 0, .lit (.int .i64 x1)], M => match M[i0]? with
  | some (.blk c0) => some { av := .tup [], M := some (M.set i0 (.blk [.lit (.string (((gO (Tj.dec c0) x1).getD dflt).fS)), .lit (.int .i64 (((gO (Tj.dec c0) x1).getD dflt).fE))])), obl := c0 = Tj.enc (Tj.dec c0) ∧ (gO (Tj.dec c0) x1).isSome = true }
  | _ => none
 | _, _ => none

theorem gO.ok : SpecOk Try.prog 78 gO.S := by
 intro l M out h
 unfold gO.S at h
 split at h
 ·rename_i i0 x1
  split at h
  case h_2 => cases h
  rename_i c0 hM0
  cases h
  refine callOk_of fun ho => ?_
  obtain ⟨oc0, hs⟩ := ho
  generalize (Tj.dec c0) = y0 at *
  subst oc0
  obtain ⟨r, hr⟩ := Option.isSome_iff_exists.1 hs
  simp only [hr, Option.getD_some]
  have q := Lh (M := M) [i0] (gO.can y0 x1 r hr) (by simp) rfl (by intro k i hk; (cases k with | zero => (simp at hk; subst hk; simp [hM0]) | succ k => (simp at hk)))
  exact callOk_conv q trivial (by simp [into]) (by simp [frameOut, gO.out]) (by simp [frameOut, gO.out])
 ·cases h

@[simp] def gu.out (_x0 : Tj) (_x1 : Int) (r : ByteArray × Tj) : Out := { av := .lit (.string r.1), M := some [.blk [.lit (.string r.2.fS), .lit (.int .i64 r.2.fE)]] }
def gu.fin (x0 : Tj) (x1 : Int) (r : ByteArray × Tj) (σ : St) : Prop := finK (gu.out x0 x1 r) [.blk x0.enc] σ.M (resA Try.ty σ.A σ.M Try.f75.results.toList)
theorem gu.can (x0 : Tj) (x1 : Int) (r : ByteArray × Tj) (hr : gu x0 x1 = some r) : CallOk Try.prog 75 [.ptr 0 0, .lit (.int .i64 x1)] [.blk x0.enc] (gu.out x0 x1 r) := by
 unfold gu at hr
 have hΓ := (gamL_cons gO.ok (gamL_nil) : GamOk Try.prog _)
 refine Lf Try.tyOk Try.func75 rfl (by kernel_rfl) rfl rfl (by simp) ?_
 intro _ _ _
 refine AWp.then ⟨[⟨0, none, .ptr 0 0⟩, ⟨1, none, .n x1⟩], [.blk x0.enc]⟩ (AWp.reg Try.tyOk hΓ [] [] (by kernel_rfl) rfl (by simp)) ?_
 refine AWp.seq ?_
 refine AWp.block ?_
 refine AWp.then ⟨[⟨6, none, .b (neI x0.fE 0)⟩, ⟨0, none, .ptr 0 0⟩, ⟨1, none, .n x1⟩], [.blk x0.enc]⟩ (AWp.reg Try.tyOk hΓ [6] [] (by kernel_rfl) rfl (by simp)) ?_
 refine AWp.cond (b := (neI x0.fE 0)) (by simp) (fun h8 => ?_) (fun h8 => ?_)
 ·have hr := Lj h8 hr
  refine AWp.thenA [⟨4, none, .s ⟨#[]⟩⟩] (AWp.reg Try.tyOk hΓ [4] [6, 0, 1] (by kernel_rfl) rfl (by simp [h8])) ?_
  refine AWp.ret ?_
  obtain rfl := La hr
  refine Lg ?_
  simp
 ·have hr := Lk h8 hr
  refine AWp.thenA [⟨12, none, .b (ltI x1 0)⟩, ⟨0, none, .ptr 0 0⟩, ⟨1, none, .n x1⟩] (AWp.reg Try.tyOk hΓ [12] [6] (by kernel_rfl) rfl (by simp [h8])) ?_
  refine AWp.cond (b := (ltI x1 0)) (by simp) (fun h9 => ?_) (fun h9 => ?_)
  ·have hr := Lj h9 hr
   obtain ⟨r1, h10, hr⟩ := Lc hr
   refine AWp.then ⟨[], [.blk r1.enc]⟩ (AWp.reg Try.tyOk hΓ [] [12, 0, 1] (by kernel_rfl) rfl (by simp [h9, h10])) ?_
   refine AWp.thenA [⟨4, none, .s ⟨#[]⟩⟩] (AWp.reg Try.tyOk hΓ [4] [] (by kernel_rfl) rfl (by simp)) ?_
   refine AWp.ret ?_
   obtain rfl := La hr
   refine Lg ?_
   simp
  ·have hr := Lk h9 hr
   refine AWp.thenA [⟨17, none, .b (ltI (lenS x0.fS) x1)⟩, ⟨0, none, .ptr 0 0⟩, ⟨1, none, .n x1⟩] (AWp.reg Try.tyOk hΓ [17] [12] (by kernel_rfl) rfl (by simp [h9])) ?_
   refine AWp.cond (b := (ltI (lenS x0.fS) x1)) (by simp) (fun h11 => ?_) (fun h11 => ?_)
   ·have hr := Lj h11 hr
    obtain ⟨r2, h12, hr⟩ := Lc hr
    refine AWp.then ⟨[], [.blk r2.enc]⟩ (AWp.reg Try.tyOk hΓ [] [17, 0, 1] (by kernel_rfl) rfl (by simp [h11, h12])) ?_
    refine AWp.thenA [⟨4, none, .s ⟨#[]⟩⟩] (AWp.reg Try.tyOk hΓ [4] [] (by kernel_rfl) rfl (by simp)) ?_
    refine AWp.ret ?_
    obtain rfl := La hr
    refine Lg ?_
    simp
   ·have hr := Lk h11 hr
    refine AWp.skip ?_
    obtain ⟨h13, hr⟩ := Li hr
    refine AWp.then ⟨[⟨5, none, .s (cutS x0.fS 0 x1)⟩, ⟨0, none, .ptr 0 0⟩, ⟨1, none, .n x1⟩], [.blk x0.enc]⟩ (AWp.reg Try.tyOk hΓ [5] [17] (by kernel_rfl) rfl (by simp [h11, h13])) ?_
    obtain ⟨h14, hr⟩ := Li hr
    refine AWp.then ⟨[⟨5, none, .s (cutS x0.fS 0 x1)⟩], [.blk [.s (cutS x0.fS x1 (lenS x0.fS)), .n x0.fE]]⟩ (AWp.reg Try.tyOk hΓ [] [0, 1] (by kernel_rfl) rfl (by simp [h14])) ?_
    refine AWp.thenA [⟨4, none, .s (cutS x0.fS 0 x1)⟩] (AWp.reg Try.tyOk hΓ [4] [5] (by kernel_rfl) rfl (by simp)) ?_
    refine AWp.ret ?_
    obtain rfl := La hr
    refine Lg ?_
    simp

@[simp] noncomputable def gu.S : Sp
 | [.ptr i0 0, .lit (.int .i64 x1)], M => match M[i0]? with
  | some (.blk c0) => some { av := .lit (.string (((gu (Tj.dec c0) x1).getD dflt).1)), M := some (M.set i0 (.blk [.lit (.string (((gu (Tj.dec c0) x1).getD dflt).2.fS)), .lit (.int .i64 (((gu (Tj.dec c0) x1).getD dflt).2.fE))])), obl := c0 = Tj.enc (Tj.dec c0) ∧ (gu (Tj.dec c0) x1).isSome = true }
  | _ => none
 | _, _ => none

theorem gu.ok : SpecOk Try.prog 75 gu.S := by
 intro l M out h
 unfold gu.S at h
 split at h
 ·rename_i i0 x1
  split at h
  case h_2 => cases h
  rename_i c0 hM0
  cases h
  refine callOk_of fun ho => ?_
  obtain ⟨oc0, hs⟩ := ho
  generalize (Tj.dec c0) = y0 at *
  subst oc0
  obtain ⟨r, hr⟩ := Option.isSome_iff_exists.1 hs
  simp only [hr, Option.getD_some]
  have q := Lh (M := M) [i0] (gu.can y0 x1 r hr) (by simp) rfl (by intro k i hk; (cases k with | zero => (simp at hk; subst hk; simp [hM0]) | succ k => (simp at hk)))
  exact callOk_conv q trivial (by simp [into]) (by simp [frameOut, gu.out]) (by simp [frameOut, gu.out])
 ·cases h

@[simp] def gp.out (_x0 : Tj) (_x1 : Int) (r : Int × Tj) : Out := { av := .lit (.int .u64 r.1), M := some [.blk [.lit (.string r.2.fS), .lit (.int .i64 r.2.fE)]] }
def gp.fin (x0 : Tj) (x1 : Int) (r : Int × Tj) (σ : St) : Prop := finK (gp.out x0 x1 r) [.blk x0.enc] σ.M (resA Try.ty σ.A σ.M Try.f74.results.toList)
theorem gp.can (x0 : Tj) (x1 : Int) (r : Int × Tj) (hr : gp x0 x1 = some r) : CallOk Try.prog 74 [.ptr 0 0, .lit (.int .i64 x1)] [.blk x0.enc] (gp.out x0 x1 r) := by
 unfold gp at hr
 have hΓ := (gamL_cons gu.ok (gamL_nil) : GamOk Try.prog _)
 refine Lf Try.tyOk Try.func74 rfl (by kernel_rfl) rfl rfl (by simp) ?_
 intro _ _ _
 refine AWp.then ⟨[⟨0, none, .ptr 0 0⟩, ⟨1, none, .n x1⟩], [.blk x0.enc]⟩ (AWp.reg Try.tyOk hΓ [] [] (by kernel_rfl) rfl (by simp)) ?_
 refine AWp.thenA [⟨5, none, .lit (.int .u64 0)⟩, ⟨0, none, .ptr 0 0⟩, ⟨1, none, .n x1⟩] (AWp.reg Try.tyOk hΓ [5] [] (by kernel_rfl) rfl (by simp)) ?_
 refine AWp.seq ?_
 obtain ⟨r1, h5, hr⟩ := Lc hr
 refine AWp.then ⟨[⟨13, none, .sl ((numsOf r1.1).map (eNum .u8)) .no⟩, ⟨14, none, .n (lenL (numsOf r1.1))⟩, ⟨15, none, .n 0⟩, ⟨5, none, .lit (.int .u64 0)⟩], [.blk r1.2.enc]⟩ (AWp.reg Try.tyOk hΓ [13, 14, 15] [0, 1] (by kernel_rfl) rfl (by simp [h5])) ?_
 refine AWp.loopE (fun (s1 : Int × Int) (γ1 : Unit) => ⟨[⟨13, none, .sl ((numsOf r1.1).map (eNum .u8)) .no⟩, ⟨14, none, .n (lenL (numsOf r1.1))⟩, ⟨15, none, .n s1.1⟩, ⟨5, none, .lit (.int .u64 s1.2)⟩], [.blk r1.2.enc]⟩) (fun (v1 : Int) (γ1a : Unit) => ⟨[⟨5, none, .lit (.int .u64 v1)⟩], [.blk r1.2.enc]⟩) (gp.fin x0 x1) hr () 1 (by simp) (fun s1 f γ1 hr => ?_) (fun v1 γ1a σ1 m1 hr hc => ?_) (fun _ h => h)
 ·unfold gp.loop1 at hr
  refine AWp.then ⟨[⟨16, none, .b (ltI s1.1 (lenL (numsOf r1.1)))⟩, ⟨13, none, .sl ((numsOf r1.1).map (eNum .u8)) .no⟩, ⟨14, none, .n (lenL (numsOf r1.1))⟩, ⟨15, none, .n s1.1⟩, ⟨5, none, .lit (.int .u64 s1.2)⟩], [.blk r1.2.enc]⟩ (AWp.reg Try.tyOk hΓ [16] [] (by kernel_rfl) rfl (by simp)) ?_
  refine AWp.seq ?_
  refine AWp.cond (b := (ltI s1.1 (lenL (numsOf r1.1)))) (by simp) (fun h6 => ?_) (fun h6 => ?_)
  ·have hr := Lj h6 hr
   refine AWp.skip ?_
   refine AWp.seq ?_
   refine AWp.block ?_
   obtain ⟨h7, hr⟩ := Li hr
   refine AWp.then ⟨[⟨7, none, .lit (.int .u8 (nthI (numsOf r1.1) s1.1))⟩, ⟨13, none, .sl ((numsOf r1.1).map (eNum .u8)) .no⟩, ⟨14, none, .n (lenL (numsOf r1.1))⟩, ⟨15, none, .n s1.1⟩, ⟨5, none, .lit (.int .u64 s1.2)⟩], [.blk r1.2.enc]⟩ (AWp.reg Try.tyOk hΓ [7] [16] (by kernel_rfl) rfl (by simp [h6, h7])) ?_
   obtain ⟨h8, hr⟩ := Li hr
   refine AWp.last ⟨[⟨5, none, .lit (.int .u64 (bitsOp .or .u64 (shlI .u64 s1.2 8) (cvtI .u64 (nthI (numsOf r1.1) s1.1))))⟩, ⟨13, none, .sl ((numsOf r1.1).map (eNum .u8)) .no⟩, ⟨14, none, .n (lenL (numsOf r1.1))⟩, ⟨15, none, .n s1.1⟩], [.blk r1.2.enc]⟩ (AWp.reg Try.tyOk hΓ [5] [7] (by kernel_rfl) rfl (by simp [h8])) ?_
   refine AWp.last ⟨[⟨15, none, .n (addI .i64 s1.1 1)⟩, ⟨5, none, .lit (.int .u64 (bitsOp .or .u64 (shlI .u64 s1.2 8) (cvtI .u64 (nthI (numsOf r1.1) s1.1))))⟩, ⟨13, none, .sl ((numsOf r1.1).map (eNum .u8)) .no⟩, ⟨14, none, .n (lenL (numsOf r1.1))⟩], [.blk r1.2.enc]⟩ (AWp.reg Try.tyOk hΓ [15] [] (by kernel_rfl) rfl (by simp)) ?_
   obtain rfl := La hr
   exact round_go () 1 (by first | (simp; done) | simp [h5, h6, h7, h8])
  ·have hr := Lk h6 hr
   refine AWp.exit ?_
   obtain rfl := La hr
   exact round_out () 1 (by first | (simp; done) | simp [h5, h6])
 ·refine AWp.conv hc ?_
  refine AWp.then ⟨[⟨4, none, .lit (.int .u64 v1)⟩], [.blk r1.2.enc]⟩ (AWp.reg Try.tyOk hΓ [4] [5] (by kernel_rfl) rfl (by simp)) ?_
  refine AWp.ret ?_
  obtain rfl := La hr
  refine Lg ?_
  simp

@[simp] noncomputable def gp.S : Sp
 | [.ptr i0 0, .lit (.int .i64 x1)], M => match M[i0]? with
  | some (.blk c0) => some { av := .lit (.int .u64 (((gp (Tj.dec c0) x1).getD dflt).1)), M := some (M.set i0 (.blk [.lit (.string (((gp (Tj.dec c0) x1).getD dflt).2.fS)), .lit (.int .i64 (((gp (Tj.dec c0) x1).getD dflt).2.fE))])), obl := c0 = Tj.enc (Tj.dec c0) ∧ (gp (Tj.dec c0) x1).isSome = true }
  | _ => none
 | _, _ => none

theorem gp.ok : SpecOk Try.prog 74 gp.S := by
 intro l M out h
 unfold gp.S at h
 split at h
 ·rename_i i0 x1
  split at h
  case h_2 => cases h
  rename_i c0 hM0
  cases h
  refine callOk_of fun ho => ?_
  obtain ⟨oc0, hs⟩ := ho
  generalize (Tj.dec c0) = y0 at *
  subst oc0
  obtain ⟨r, hr⟩ := Option.isSome_iff_exists.1 hs
  simp only [hr, Option.getD_some]
  have q := Lh (M := M) [i0] (gp.can y0 x1 r hr) (by simp) rfl (by intro k i hk; (cases k with | zero => (simp at hk; subst hk; simp [hM0]) | succ k => (simp at hk)))
  exact callOk_conv q trivial (by simp [into]) (by simp [frameOut, gp.out]) (by simp [frameOut, gp.out])
 ·cases h

@[simp] def gB.out (_x0 : Tj) (r : Int × Tj) : Out := { av := .lit (.int .u8 r.1), M := some [.blk [.lit (.string r.2.fS), .lit (.int .i64 r.2.fE)]] }
def gB.fin (x0 : Tj) (r : Int × Tj) (σ : St) : Prop := finK (gB.out x0 r) [.blk x0.enc] σ.M (resA Try.ty σ.A σ.M Try.f66.results.toList)
theorem gB.can (x0 : Tj) (r : Int × Tj) (hr : gB x0 = some r) : CallOk Try.prog 66 [.ptr 0 0] [.blk x0.enc] (gB.out x0 r) := by
 unfold gB at hr
 have hΓ := (gamL_cons gp.ok (gamL_nil) : GamOk Try.prog _)
 refine Lf Try.tyOk Try.func66 rfl (by kernel_rfl) rfl rfl (by simp) ?_
 intro _ _ _
 refine AWp.then ⟨[⟨0, none, .ptr 0 0⟩], [.blk x0.enc]⟩ (AWp.reg Try.tyOk hΓ [] [] (by kernel_rfl) rfl (by simp)) ?_
 obtain ⟨r1, h2, hr⟩ := Lc hr
 refine AWp.then ⟨[⟨2, none, .lit (.int .u8 (cvtI .u8 r1.1))⟩], [.blk r1.2.enc]⟩ (AWp.reg Try.tyOk hΓ [2] [0] (by kernel_rfl) rfl (by simp [h2])) ?_
 refine AWp.ret ?_
 obtain rfl := La hr
 refine Lg ?_
 simp

@[simp] noncomputable def gB.S : Sp
 | [.ptr i0 0], M => match M[i0]? with
  | some (.blk c0) => some { av := .lit (.int .u8 (((gB (Tj.dec c0)).getD dflt).1)), M := some (M.set i0 (.blk [.lit (.string (((gB (Tj.dec c0)).getD dflt).2.fS)), .lit (.int .i64 (((gB (Tj.dec c0)).getD dflt).2.fE))])), obl := c0 = Tj.enc (Tj.dec c0) ∧ (gB (Tj.dec c0)).isSome = true }
  | _ => none
 | _, _ => none

theorem gB.ok : SpecOk Try.prog 66 gB.S := by
 intro l M out h
 unfold gB.S at h
 split at h
 ·rename_i i0
  split at h
  case h_2 => cases h
  rename_i c0 hM0
  cases h
  refine callOk_of fun ho => ?_
  obtain ⟨oc0, hs⟩ := ho
  generalize (Tj.dec c0) = y0 at *
  subst oc0
  obtain ⟨r, hr⟩ := Option.isSome_iff_exists.1 hs
  simp only [hr, Option.getD_some]
  have q := Lh (M := M) [i0] (gB.can y0 r hr) (by simp) rfl (by intro k i hk; (cases k with | zero => (simp at hk; subst hk; simp [hM0]) | succ k => (simp at hk)))
  exact callOk_conv q trivial (by simp [into]) (by simp [frameOut, gB.out]) (by simp [frameOut, gB.out])
 ·cases h

@[simp] def gI.out (_x0 : Tj) (r : ByteArray × Tj) : Out := { av := .lit (.string r.1), M := some [.blk [.lit (.string r.2.fS), .lit (.int .i64 r.2.fE)]] }
def gI.fin (x0 : Tj) (r : ByteArray × Tj) (σ : St) : Prop := finK (gI.out x0 r) [.blk x0.enc] σ.M (resA Try.ty σ.A σ.M Try.f69.results.toList)
theorem gI.can (x0 : Tj) (r : ByteArray × Tj) (hr : gI x0 = some r) : CallOk Try.prog 69 [.ptr 0 0] [.blk x0.enc] (gI.out x0 r) := by
 unfold gI at hr
 have hΓ := (gamL_cons gu.ok (gamL_cons gZ.ok (gamL_nil)) : GamOk Try.prog _)
 refine Lf Try.tyOk Try.func69 rfl (by kernel_rfl) rfl rfl (by simp) ?_
 intro _ _ _
 refine AWp.then ⟨[⟨0, none, .ptr 0 0⟩], [.blk x0.enc]⟩ (AWp.reg Try.tyOk hΓ [] [] (by kernel_rfl) rfl (by simp)) ?_
 obtain ⟨r1, h3, hr⟩ := Lc hr
 obtain ⟨r2, h4, hr⟩ := Lc hr
 refine AWp.then ⟨[⟨2, none, .s r2.1⟩], [.blk r2.2.enc]⟩ (AWp.reg Try.tyOk hΓ [2] [0] (by kernel_rfl) rfl (by simp [h3, h4])) ?_
 refine AWp.ret ?_
 obtain rfl := La hr
 refine Lg ?_
 simp

@[simp] noncomputable def gI.S : Sp
 | [.ptr i0 0], M => match M[i0]? with
  | some (.blk c0) => some { av := .lit (.string (((gI (Tj.dec c0)).getD dflt).1)), M := some (M.set i0 (.blk [.lit (.string (((gI (Tj.dec c0)).getD dflt).2.fS)), .lit (.int .i64 (((gI (Tj.dec c0)).getD dflt).2.fE))])), obl := c0 = Tj.enc (Tj.dec c0) ∧ (gI (Tj.dec c0)).isSome = true }
  | _ => none
 | _, _ => none

theorem gI.ok : SpecOk Try.prog 69 gI.S := by
 intro l M out h
 unfold gI.S at h
 split at h
 ·rename_i i0
  split at h
  case h_2 => cases h
  rename_i c0 hM0
  cases h
  refine callOk_of fun ho => ?_
  obtain ⟨oc0, hs⟩ := ho
  generalize (Tj.dec c0) = y0 at *
  subst oc0
  obtain ⟨r, hr⟩ := Option.isSome_iff_exists.1 hs
  simp only [hr, Option.getD_some]
  have q := Lh (M := M) [i0] (gI.can y0 r hr) (by simp) rfl (by intro k i hk; (cases k with | zero => (simp at hk; subst hk; simp [hM0]) | succ k => (simp at hk)))
  exact callOk_conv q trivial (by simp [into]) (by simp [frameOut, gI.out]) (by simp [frameOut, gI.out])
 ·cases h

@[simp] def gac.out  (r : Td) : Out := { av := .agg [.lit (.bool r.fK), .lit (.bool r.fy), .lit (.int .i64 r.fG), .lit (.int .i64 r.fB), .lit (.bool r.fU), .lit (.int .i64 r.fH), .lit (.int .i64 r.fI), .lit (.bool r.fR), .lit (.int .i64 r.fJ)], M := none }
def gac.fin  (r : Td) (σ : St) : Prop := finK (gac.out  r) [] σ.M (resA Try.ty σ.A σ.M Try.f24.results.toList)
theorem gac.can  (r : Td) (hr : gac = some r) : CallOk Try.prog 24 [] [] (gac.out  r) := by
 unfold gac at hr
 have hΓ := gamL_nil (P := Try.prog)
 refine Lf Try.tyOk Try.func24 rfl (by kernel_rfl) rfl rfl (by simp) ?_
 intro _ _ _
 refine AWp.then ⟨[⟨0, none, .ptr 0 0⟩], [.blk [.b false, .b false, .n 0, .n 0, .b false, .n 0, .n 0, .b false, .n 0]]⟩ (AWp.reg Try.tyOk hΓ [0] [] (by kernel_rfl) rfl (by simp)) ?_
 refine AWp.then ⟨[⟨0, none, .ptr 0 0⟩], [.blk [.b false, .b false, .n 0, .n (-1), .b false, .n (-1), .n (-1), .b false, .n (-1)]]⟩ (AWp.reg Try.tyOk hΓ [] [] (by kernel_rfl) rfl (by simp)) ?_
 refine AWp.ret ?_
 obtain rfl := La hr
 refine Lg ?_
 simp

@[simp] noncomputable def gac.S : Sp
 | [], _ => some { av := .agg [.lit (.bool ((gac.getD dflt).fK)), .lit (.bool ((gac.getD dflt).fy)), .lit (.int .i64 ((gac.getD dflt).fG)), .lit (.int .i64 ((gac.getD dflt).fB)), .lit (.bool ((gac.getD dflt).fU)), .lit (.int .i64 ((gac.getD dflt).fH)), .lit (.int .i64 ((gac.getD dflt).fI)), .lit (.bool ((gac.getD dflt).fR)), .lit (.int .i64 ((gac.getD dflt).fJ))], M := none, obl := gac.isSome = true }
 | _, _ => none

theorem gac.ok : SpecOk Try.prog 24 gac.S := by
 intro l M out h
 unfold gac.S at h
 split at h
 ·cases h
  refine callOk_of fun ho => ?_
  have hs := ho
  obtain ⟨r, hr⟩ := Option.isSome_iff_exists.1 hs
  simp only [hr, Option.getD_some]
  have q := Lh (M := M) [] (gac.can r hr) (by simp) rfl (by intro k i hk; simp at hk)
  exact callOk_conv q trivial (by simp) (by simp [frameOut, gac.out]) (by simp [frameOut, gac.out])
 ·cases h

@[simp] def gao.out (_x0 : Bool) (_x1 : Int) (r : Int) : Out := { av := .lit (.int .u8 r), M := none }
def gao.fin (x0 : Bool) (x1 : Int) (r : Int) (σ : St) : Prop := finK (gao.out x0 x1 r) [] σ.M (resA Try.ty σ.A σ.M Try.f35.results.toList)
theorem gao.can (x0 : Bool) (x1 : Int) (r : Int) (hr : gao x0 x1 = some r) : CallOk Try.prog 35 [.lit (.bool x0), .lit (.int .u8 x1)] [] (gao.out x0 x1 r) := by
 unfold gao at hr
 have hΓ := gamL_nil (P := Try.prog)
 refine Lf Try.tyOk Try.func35 rfl (by kernel_rfl) rfl rfl (by simp) ?_
 intro _ _ _
 refine AWp.then ⟨[⟨0, none, .b x0⟩, ⟨1, none, .lit (.int .u8 x1)⟩], []⟩ (AWp.reg Try.tyOk hΓ [] [] (by kernel_rfl) rfl (by simp)) ?_
 refine AWp.seq ?_
 refine AWp.then ⟨[⟨5, none, .b x0⟩, ⟨1, none, .lit (.int .u8 x1)⟩], []⟩ (AWp.reg Try.tyOk hΓ [5] [0] (by kernel_rfl) rfl (by simp)) ?_
 refine AWp.cond (b := x0) (by simp) (fun h2 => ?_) (fun h2 => ?_)
 ·have hr := Lj h2 hr
  refine AWp.thenA [⟨4, none, .lit (.int .u8 x1)⟩] (AWp.reg Try.tyOk hΓ [4] [5, 1] (by kernel_rfl) rfl (by simp [h2])) ?_
  refine AWp.ret ?_
  obtain rfl := La hr
  refine Lg ?_
  simp
 ·have hr := Lk h2 hr
  refine AWp.skip ?_
  refine AWp.then ⟨[⟨4, none, .lit (.int .u8 0)⟩], []⟩ (AWp.reg Try.tyOk hΓ [4] [5, 1] (by kernel_rfl) rfl (by simp [h2])) ?_
  refine AWp.ret ?_
  obtain rfl := La hr
  refine Lg ?_
  simp

@[simp] noncomputable def gao.S : Sp
 | [.lit (.bool x0), .lit (.int .u8 x1)], _ => some { av := .lit (.int .u8 ((gao x0 x1).getD dflt)), M := none, obl := (gao x0 x1).isSome = true }
 | _, _ => none

theorem gao.ok : SpecOk Try.prog 35 gao.S := by
 intro l M out h
 unfold gao.S at h
 split at h
 ·rename_i x0 x1
  cases h
  refine callOk_of fun ho => ?_
  have hs := ho
  obtain ⟨r, hr⟩ := Option.isSome_iff_exists.1 hs
  simp only [hr, Option.getD_some]
  have q := Lh (M := M) [] (gao.can x0 x1 r hr) (by simp) rfl (by intro k i hk; simp at hk)
  exact callOk_conv q trivial (by simp) (by simp [frameOut, gao.out]) (by simp [frameOut, gao.out])
 ·cases h

@[simp] def gaj.out (_x0 : Td) (r : Bool) : Out := { av := .lit (.bool r), M := none }
def gaj.fin (x0 : Td) (r : Bool) (σ : St) : Prop := finK (gaj.out x0 r) [] σ.M (resA Try.ty σ.A σ.M Try.f36.results.toList)
theorem gaj.can (x0 : Td) (r : Bool) (hr : gaj x0 = some r) : CallOk Try.prog 36 [.agg [.lit (.bool x0.fK), .lit (.bool x0.fy), .lit (.int .i64 x0.fG), .lit (.int .i64 x0.fB), .lit (.bool x0.fU), .lit (.int .i64 x0.fH), .lit (.int .i64 x0.fI), .lit (.bool x0.fR), .lit (.int .i64 x0.fJ)]] [] (gaj.out x0 r) := by
 unfold gaj at hr
 have hΓ := gamL_nil (P := Try.prog)
 refine Lf Try.tyOk Try.func36 rfl (by kernel_rfl) rfl rfl (by simp) ?_
 intro _ _ _
 refine AWp.then ⟨[⟨1, none, .ptr 0 0⟩], [.blk x0.enc]⟩ (AWp.reg Try.tyOk hΓ [1] [0] (by kernel_rfl) rfl (by simp)) ?_
 refine AWp.thenA [⟨2, none, .b (pickB (pickB (pickB (leqI 0 x0.fB) true (leqI 0 x0.fH)) true (leqI 0 x0.fI)) true (leqI 0 x0.fJ))⟩] (AWp.reg Try.tyOk hΓ [2] [1] (by kernel_rfl) rfl (by simp)) ?_
 refine AWp.ret ?_
 obtain rfl := La hr
 refine Lg ?_
 simp

@[simp] noncomputable def gaj.S : Sp
 | [.agg e0], _ => some { av := .lit (.bool ((gaj (Td.dec e0)).getD dflt)), M := none, obl := WeakL e0 (Td.enc (Td.dec e0)) ∧ (gaj (Td.dec e0)).isSome = true }
 | _, _ => none

theorem gaj.ok : SpecOk Try.prog 36 gaj.S := by
 intro l M out h
 unfold gaj.S at h
 split at h
 ·rename_i e0
  cases h
  refine callOk_of fun ho => ?_
  obtain ⟨ox0, hs⟩ := ho
  generalize (Td.dec e0) = x0 at *
  obtain ⟨r, hr⟩ := Option.isSome_iff_exists.1 hs
  simp only [hr, Option.getD_some]
  have q := Lh (M := M) [] (gaj.can x0 r hr) (by simp) rfl (by intro k i hk; simp at hk)
  exact callOk_conv q trivial (by simp; exact ox0) (by simp [frameOut, gaj.out]) (by simp [frameOut, gaj.out])
 ·cases h

@[simp] def gab.out (_x0 : Td) (r : ByteArray) : Out := { av := .lit (.string r), M := none }
def gab.fin (x0 : Td) (r : ByteArray) (σ : St) : Prop := finK (gab.out x0 r) [] σ.M (resA Try.ty σ.A σ.M Try.f25.results.toList)
theorem gab.can (x0 : Td) (r : ByteArray) (hr : gab x0 = some r) : CallOk Try.prog 25 [.agg [.lit (.bool x0.fK), .lit (.bool x0.fy), .lit (.int .i64 x0.fG), .lit (.int .i64 x0.fB), .lit (.bool x0.fU), .lit (.int .i64 x0.fH), .lit (.int .i64 x0.fI), .lit (.bool x0.fR), .lit (.int .i64 x0.fJ)]] [] (gab.out x0 r) := by
 unfold gab at hr
 have hΓ := (gamL_cons gaB.Text.ok (gamL_cons gaB.U8.ok (gamL_cons gaj.ok (gamL_cons gao.ok (gamL_nil)))) : GamOk Try.prog _)
 refine Lf Try.tyOk Try.func25 rfl (by kernel_rfl) rfl rfl (by simp) ?_
 intro _ _ _
 refine AWp.then ⟨[⟨1, none, .ptr 0 0⟩], [.blk x0.enc]⟩ (AWp.reg Try.tyOk hΓ [1] [0] (by kernel_rfl) rfl (by simp)) ?_
 refine AWp.then ⟨[⟨3, none, .ptr 1 0⟩, ⟨1, none, .ptr 0 0⟩], [.blk x0.enc, .opq (wrO 111 5 [])]⟩ (gaB.alloc rfl rfl rfl rfl (by kernel_rfl) rfl (dead := []) (by simp [exS])) ?_
 obtain ⟨r1, h23, hr⟩ := Lc hr
 obtain ⟨r2, h24, hr⟩ := Lc hr
 obtain ⟨r3, h25, hr⟩ := Lc hr
 obtain ⟨r4, h26, hr⟩ := Lc hr
 obtain ⟨h27, hr⟩ := Li hr
 refine AWp.then ⟨[⟨3, none, .ptr 1 0⟩, ⟨1, none, .ptr 0 0⟩], [.blk x0.enc, .opq (wrO 111 5 (appL [] [(bitsOp .or .u8 (bitsOp .or .u8 (bitsOp .or .u8 r2 r3) r4) (cvtI .u8 (bitsOp .and .i64 x0.fG 7)))]))]⟩ (AWp.regD Try.mixed Try.tyOk hΓ [] [] [] [(false, []), (false, []), (false, []), (false, []), (false, []), (false, []), (false, []), (false, []), (false, []), (false, []), (false, []), (false, []), (false, []), (false, []), (false, []), (false, []), (false, []), (true, [])] (by kernel_rfl) rfl (by simp [h23, h24, h25, h26, h27])) ?_
 refine AWp.seq ?_
 refine AWp.then ⟨[⟨24, none, .b (notB r1)⟩, ⟨3, none, .ptr 1 0⟩, ⟨1, none, .ptr 0 0⟩], [.blk x0.enc, .opq (wrO 111 5 (appL [] [(bitsOp .or .u8 (bitsOp .or .u8 (bitsOp .or .u8 r2 r3) r4) (cvtI .u8 (bitsOp .and .i64 x0.fG 7)))]))]⟩ (AWp.reg Try.tyOk hΓ [24] [] (by kernel_rfl) rfl (by simp [h23])) ?_
 refine AWp.cond (b := (notB r1)) (by simp) (fun h28 => ?_) (fun h28 => ?_)
 ·have hr := Lj h28 hr
  obtain ⟨h29, hr⟩ := Li hr
  refine AWp.then ⟨[⟨2, none, .s (strOfNums (appL [] [(bitsOp .or .u8 (bitsOp .or .u8 (bitsOp .or .u8 r2 r3) r4) (cvtI .u8 (bitsOp .and .i64 x0.fG 7)))]))⟩], [.blk x0.enc, .opq wrX]⟩ (AWp.reg Try.tyOk hΓ [2] [24, 3, 1] (by kernel_rfl) rfl (by simp [h28, h29])) ?_
  refine AWp.ret ?_
  obtain rfl := La hr
  refine Lg ?_
  simp
 ·have hr := Lk h28 hr
  refine AWp.skip ?_
  obtain ⟨r5, h30, hr⟩ := Lc hr
  obtain ⟨r6, h31, hr⟩ := Lc hr
  obtain ⟨r7, h32, hr⟩ := Lc hr
  obtain ⟨r8, h33, hr⟩ := Lc hr
  obtain ⟨h34, hr⟩ := Li hr
  refine AWp.then ⟨[⟨3, none, .ptr 1 0⟩, ⟨1, none, .ptr 0 0⟩], [.blk x0.enc, .opq (wrO 111 5 (appL (appL [] [(bitsOp .or .u8 (bitsOp .or .u8 (bitsOp .or .u8 r2 r3) r4) (cvtI .u8 (bitsOp .and .i64 x0.fG 7)))]) [(bitsOp .or .u8 (bitsOp .or .u8 (bitsOp .or .u8 r5 r6) r7) r8)]))]⟩ (AWp.regD Try.mixed Try.tyOk hΓ [] [24] [] [(false, []), (false, []), (false, []), (false, []), (false, []), (false, []), (false, []), (false, []), (false, []), (false, []), (false, []), (false, []), (false, []), (false, []), (false, []), (false, []), (false, []), (false, []), (false, []), (false, []), (true, [])] (by kernel_rfl) rfl (by simp [h28, h30, h31, h32, h33, h34])) ?_
  refine AWp.meetF (fun (v1 : List Int) (γ1 : Unit) => ⟨[⟨3, none, .ptr 1 0⟩, ⟨1, none, .ptr 0 0⟩], [.blk x0.enc, .opq (wrO 111 5 v1)]⟩) (gab.fin x0) hr (fun f hr => ?_) (fun v1 γ1 hr => ?_) (fun _ h => h)
  ·refine AWp.block ?_
   refine AWp.then ⟨[⟨47, none, .b (pickB (leqI 0 x0.fB) x0.fU false)⟩, ⟨3, none, .ptr 1 0⟩, ⟨1, none, .ptr 0 0⟩], [.blk x0.enc, .opq (wrO 111 5 (appL (appL [] [(bitsOp .or .u8 (bitsOp .or .u8 (bitsOp .or .u8 r2 r3) r4) (cvtI .u8 (bitsOp .and .i64 x0.fG 7)))]) [(bitsOp .or .u8 (bitsOp .or .u8 (bitsOp .or .u8 r5 r6) r7) r8)]))]⟩ (AWp.reg Try.tyOk hΓ [47] [] (by kernel_rfl) rfl (by simp)) ?_
   refine AWp.cond (b := (pickB (leqI 0 x0.fB) x0.fU false)) (by simp) (fun h35 => ?_) (fun h35 => ?_)
   ·have hr := Lj h35 hr
    cases hr
   ·have hr := Lk h35 hr
    refine AWp.thenA [⟨61, none, .b (leqI 0 x0.fB)⟩, ⟨3, none, .ptr 1 0⟩, ⟨1, none, .ptr 0 0⟩] (AWp.reg Try.tyOk hΓ [61] [47] (by kernel_rfl) rfl (by simp [h35])) ?_
    refine AWp.cond (b := (leqI 0 x0.fB)) (by simp) (fun h36 => ?_) (fun h36 => ?_)
    ·have hr := Lj h36 hr
     obtain ⟨h37, hr⟩ := Li hr
     refine AWp.last ⟨[⟨3, none, .ptr 1 0⟩, ⟨1, none, .ptr 0 0⟩], [.blk x0.enc, .opq (wrO 111 5 (appL (appL (appL [] [(bitsOp .or .u8 (bitsOp .or .u8 (bitsOp .or .u8 r2 r3) r4) (cvtI .u8 (bitsOp .and .i64 x0.fG 7)))]) [(bitsOp .or .u8 (bitsOp .or .u8 (bitsOp .or .u8 r5 r6) r7) r8)]) [(cvtI .u8 (bitsOp .and .i64 x0.fB 127))]))]⟩ (AWp.reg Try.tyOk hΓ [] [61] (by kernel_rfl) rfl (by simp [h36, h37])) ?_
     obtain rfl := La hr
     exact Lo () 2 (by first | (simp; done) | simp [h23, h24, h25, h26, h27, h28, h30, h31, h32, h33, h34, h35, h36, h37])
    ·have hr := Lk h36 hr
     refine AWp.skip ?_
     obtain rfl := La hr
     exact Lo () 2 (by first | (simp; done) | simp [h23, h24, h25, h26, h27, h28, h30, h31, h32, h33, h34, h35, h36])
  ·refine AWp.meetF (fun (v2 : List Int) (γ2 : Unit) => ⟨[⟨3, none, .ptr 1 0⟩, ⟨1, none, .ptr 0 0⟩], [.blk x0.enc, .opq (wrO 111 5 v2)]⟩) (gab.fin x0) hr (fun f hr => ?_) (fun v2 γ2 hr => ?_) (fun _ h => h)
   ·refine AWp.then ⟨[⟨73, none, .b (leqI 0 x0.fH)⟩, ⟨3, none, .ptr 1 0⟩, ⟨1, none, .ptr 0 0⟩], [.blk x0.enc, .opq (wrO 111 5 v1)]⟩ (AWp.reg Try.tyOk hΓ [73] [] (by kernel_rfl) rfl (by simp)) ?_
    refine AWp.cond (b := (leqI 0 x0.fH)) (by simp) (fun h38 => ?_) (fun h38 => ?_)
    ·have hr := Lj h38 hr
     obtain ⟨h39, hr⟩ := Li hr
     refine AWp.last ⟨[⟨3, none, .ptr 1 0⟩, ⟨1, none, .ptr 0 0⟩], [.blk x0.enc, .opq (wrO 111 5 (appL v1 [(cvtI .u8 x0.fH)]))]⟩ (AWp.reg Try.tyOk hΓ [] [73] (by kernel_rfl) rfl (by simp [h38, h39])) ?_
     obtain rfl := La hr
     exact Lo () 2 (by first | (simp; done) | simp [h23, h24, h25, h26, h27, h28, h30, h31, h32, h33, h34, h38, h39])
    ·have hr := Lk h38 hr
     refine AWp.skip ?_
     obtain rfl := La hr
     exact Lo () 2 (by first | (simp; done) | simp [h23, h24, h25, h26, h27, h28, h30, h31, h32, h33, h34, h38])
   ·refine AWp.meetF (fun (v3 : List Int) (γ3 : Unit) => ⟨[⟨3, none, .ptr 1 0⟩], [.blk x0.enc, .opq (wrO 111 5 v3)]⟩) (gab.fin x0) hr (fun f hr => ?_) (fun v3 γ3 hr => ?_) (fun _ h => h)
    ·refine AWp.then ⟨[⟨86, none, .b (pickB (leqI 0 x0.fI) true (leqI 0 x0.fJ))⟩, ⟨3, none, .ptr 1 0⟩, ⟨1, none, .ptr 0 0⟩], [.blk x0.enc, .opq (wrO 111 5 v2)]⟩ (AWp.reg Try.tyOk hΓ [86] [] (by kernel_rfl) rfl (by simp)) ?_
     refine AWp.cond (b := (pickB (leqI 0 x0.fI) true (leqI 0 x0.fJ))) (by simp) (fun h40 => ?_) (fun h40 => ?_)
     ·have hr := Lj h40 hr
      obtain ⟨h41, hr⟩ := Li hr
      obtain ⟨r9, h42, hr⟩ := Lc hr
      obtain ⟨h43, hr⟩ := Li hr
      refine AWp.last ⟨[⟨3, none, .ptr 1 0⟩], [.blk x0.enc, .opq (wrO 111 5 (appL v2 [(bitsOp .or .u8 (bitsOp .or .u8 (shlI .u8 (cvtI .u8 (maxI x0.fI 0)) 6) r9) (cvtI .u8 (maxI x0.fJ 0)))]))]⟩ (AWp.regD Try.mixed Try.tyOk hΓ [] [86, 1] [] [(false, []), (false, []), (false, []), (false, []), (false, []), (false, []), (false, []), (false, []), (false, []), (false, []), (false, []), (false, []), (false, []), (false, []), (false, []), (true, [])] (by kernel_rfl) rfl (by simp [h40, h41, h42, h43])) ?_
      obtain rfl := La hr
      exact Lo () 2 (by first | (simp; done) | simp [h23, h24, h25, h26, h27, h28, h30, h31, h32, h33, h34, h40, h41, h42, h43])
     ·have hr := Lk h40 hr
      refine AWp.skip ?_
      obtain rfl := La hr
      exact Lo () 2 (by first | (simp; done) | simp [h23, h24, h25, h26, h27, h28, h30, h31, h32, h33, h34, h40])
    ·obtain ⟨h44, hr⟩ := Li hr
     refine AWp.then ⟨[⟨2, none, .s (strOfNums v3)⟩], [.blk x0.enc, .opq wrX]⟩ (AWp.reg Try.tyOk hΓ [2] [3] (by kernel_rfl) rfl (by simp [h44])) ?_
     refine AWp.ret ?_
     obtain rfl := La hr
     refine Lg ?_
     simp

@[simp] noncomputable def gab.S : Sp
 | [.agg e0], _ => some { av := .lit (.string ((gab (Td.dec e0)).getD dflt)), M := none, obl := WeakL e0 (Td.enc (Td.dec e0)) ∧ (gab (Td.dec e0)).isSome = true }
 | _, _ => none

theorem gab.ok : SpecOk Try.prog 25 gab.S := by
 intro l M out h
 unfold gab.S at h
 split at h
 ·rename_i e0
  cases h
  refine callOk_of fun ho => ?_
  obtain ⟨ox0, hs⟩ := ho
  generalize (Td.dec e0) = x0 at *
  obtain ⟨r, hr⟩ := Option.isSome_iff_exists.1 hs
  simp only [hr, Option.getD_some]
  have q := Lh (M := M) [] (gab.can x0 r hr) (by simp) rfl (by intro k i hk; simp at hk)
  exact callOk_conv q trivial (by simp; exact ox0) (by simp [frameOut, gab.out]) (by simp [frameOut, gab.out])
 ·cases h

@[simp] def gX.out (_x0 : Td) (_x1 : Tj) (r : Td × Tj) : Out := { av := .tup [], M := some [.blk [.lit (.bool r.1.fK), .lit (.bool r.1.fy), .lit (.int .i64 r.1.fG), .lit (.int .i64 r.1.fB), .lit (.bool r.1.fU), .lit (.int .i64 r.1.fH), .lit (.int .i64 r.1.fI), .lit (.bool r.1.fR), .lit (.int .i64 r.1.fJ)], .blk [.lit (.string r.2.fS), .lit (.int .i64 r.2.fE)]] }
def gX.fin (x0 : Td) (x1 : Tj) (r : Td × Tj) (σ : St) : Prop := finK (gX.out x0 x1 r) [.blk x0.enc, .blk x1.enc] σ.M (resA Try.ty σ.A σ.M Try.f67.results.toList)
theorem gX.can (x0 : Td) (x1 : Tj) (r : Td × Tj) (hr : gX x0 x1 = some r) : CallOk Try.prog 67 [.ptr 0 0, .ptr 1 0] [.blk x0.enc, .blk x1.enc] (gX.out x0 x1 r) := by
 unfold gX at hr
 have hΓ := (gamL_cons gB.ok (gamL_nil) : GamOk Try.prog _)
 refine Lf Try.tyOk Try.func67 rfl (by kernel_rfl) rfl rfl (by simp) ?_
 intro _ _ _
 obtain ⟨r1, h5, hr⟩ := Lc hr
 refine AWp.then ⟨[⟨4, none, .n (cvtI .i64 r1.1)⟩, ⟨0, none, .ptr 0 0⟩, ⟨1, none, .ptr 1 0⟩], [.blk x0.enc, .blk r1.2.enc]⟩ (AWp.reg Try.tyOk hΓ [4] [] (by kernel_rfl) rfl (by simp [h5])) ?_
 refine AWp.meetF (fun (v1 : Int × Tj × Td) (γ1 : Unit) => ⟨[⟨4, none, .n v1.1⟩, ⟨0, none, .ptr 0 0⟩], [.blk v1.2.2.enc, .blk v1.2.1.enc]⟩) (gX.fin x0 x1) hr (fun f hr => ?_) (fun v1 γ1 hr => ?_) (fun _ h => h)
 ·refine AWp.then ⟨[⟨4, none, .n (cvtI .i64 r1.1)⟩, ⟨0, none, .ptr 0 0⟩, ⟨1, none, .ptr 1 0⟩], [.blk [.b x0.fK, .b x0.fy, .n x0.fG, .n x0.fB, .b (ltI 127 (cvtI .i64 r1.1)), .n x0.fH, .n x0.fI, .b x0.fR, .n x0.fJ], .blk r1.2.enc]⟩ (AWp.reg Try.tyOk hΓ [] [] (by kernel_rfl) rfl (by simp)) ?_
  refine AWp.thenA [⟨16, none, .b (ltI 127 (cvtI .i64 r1.1))⟩, ⟨4, none, .n (cvtI .i64 r1.1)⟩, ⟨0, none, .ptr 0 0⟩, ⟨1, none, .ptr 1 0⟩] (AWp.reg Try.tyOk hΓ [16] [] (by kernel_rfl) rfl (by simp)) ?_
  refine AWp.cond (b := (ltI 127 (cvtI .i64 r1.1))) (by simp) (fun h6 => ?_) (fun h6 => ?_)
  ·have hr := Lj h6 hr
   obtain ⟨h7, hr⟩ := Li hr
   obtain ⟨r2, h8, hr⟩ := Lc hr
   refine AWp.last ⟨[⟨4, none, .n (bitsOp .or .i64 (shlI .i64 (bitsOp .and .i64 (cvtI .i64 r1.1) 127) 8) (cvtI .i64 r2.1))⟩, ⟨0, none, .ptr 0 0⟩], [.blk [.b x0.fK, .b x0.fy, .n x0.fG, .n x0.fB, .b true, .n x0.fH, .n x0.fI, .b x0.fR, .n x0.fJ], .blk r2.2.enc]⟩ (AWp.reg Try.tyOk hΓ [4] [16, 1] (by kernel_rfl) rfl (by simp [h6, h7, h8])) ?_
   obtain rfl := La hr
   exact Lo () 2 (by first | (simp; done) | simp [h5, h6, h7, h8])
  ·have hr := Lk h6 hr
   refine AWp.skip ?_
   obtain rfl := La hr
   exact Lo () 2 (by first | (simp; done) | simp [h6])
 ·refine AWp.last ⟨[], [.blk [.b v1.2.2.fK, .b v1.2.2.fy, .n v1.2.2.fG, .n v1.1, .b v1.2.2.fU, .n v1.2.2.fH, .n v1.2.2.fI, .b v1.2.2.fR, .n v1.2.2.fJ], .blk v1.2.1.enc]⟩ (AWp.reg Try.tyOk hΓ [] [4, 0] (by kernel_rfl) rfl (by simp)) ?_
  obtain rfl := La hr
  refine fin_norm ?_
  simp

@[simp] noncomputable def gX.S : Sp
 | [.ptr i0 0, .ptr i1 0], M => match M[i0]? with
  | some (.blk c0) => (match M[i1]? with
  | some (.blk c1) => (fun (y0 : Td) => (fun (r : Td × Tj) => some { av := .tup [], M := some ((M.set i0 (.blk [.lit (.bool (r.1.fK)), .lit (.bool (r.1.fy)), .lit (.int .i64 (r.1.fG)), .lit (.int .i64 (r.1.fB)), .lit (.bool (r.1.fU)), .lit (.int .i64 (r.1.fH)), .lit (.int .i64 (r.1.fI)), .lit (.bool (r.1.fR)), .lit (.int .i64 (r.1.fJ))])).set i1 (.blk [.lit (.string (r.2.fS)), .lit (.int .i64 (r.2.fE))])), obl := c0 = Td.enc y0 ∧ c1 = Tj.enc (Tj.dec c1) ∧ (gX y0 (Tj.dec c1)).isSome = true ∧ i0 ≠ i1 }) ((gX y0 (Tj.dec c1)).getD dflt)) (Td.dec c0)
  | _ => none)
  | _ => none
 | _, _ => none

theorem gX.ok : SpecOk Try.prog 67 gX.S := by
 intro l M out h
 unfold gX.S at h
 split at h
 ·rename_i i0 i1
  split at h
  case h_2 => cases h
  rename_i c0 hM0
  split at h
  case h_2 => cases h
  rename_i c1 hM1
  try dsimp only at h
  cases h
  refine callOk_of fun ho => ?_
  obtain ⟨oc0, oc1, hs, hne0⟩ := ho
  generalize (Td.dec c0) = y0 at *
  generalize (Tj.dec c1) = y1 at *
  subst oc0
  subst oc1
  obtain ⟨r, hr⟩ := Option.isSome_iff_exists.1 hs
  simp only [hr, Option.getD_some]
  have q := Lh (M := M) [i0, i1] (gX.can y0 y1 r hr) (by simp [hne0]) rfl (by intro k i hk; (cases k with | zero => (simp at hk; subst hk; simp [hM0]) | succ k => ((cases k with | zero => (simp at hk; subst hk; simp [hM1]) | succ k => (simp at hk)))))
  exact callOk_conv q trivial (by simp [into]) (by simp [frameOut, gX.out]) (by simp [frameOut, gX.out])
 ·cases h

@[simp] def gah.out (_x0 : ByteArray) (r : Td × ByteArray × Int) : Out := { av := .tup [.agg [.lit (.bool r.1.fK), .lit (.bool r.1.fy), .lit (.int .i64 r.1.fG), .lit (.int .i64 r.1.fB), .lit (.bool r.1.fU), .lit (.int .i64 r.1.fH), .lit (.int .i64 r.1.fI), .lit (.bool r.1.fR), .lit (.int .i64 r.1.fJ)], .lit (.string r.2.1), .lit (.int .i64 r.2.2)], M := none }
def gah.fin (x0 : ByteArray) (r : Td × ByteArray × Int) (σ : St) : Prop := finK (gah.out x0 r) [] σ.M (resA Try.ty σ.A σ.M Try.f56.results.toList)
theorem gah.can (x0 : ByteArray) (r : Td × ByteArray × Int) (hr : gah x0 = some r) : CallOk Try.prog 56 [.lit (.string x0)] [] (gah.out x0 r) := by
 unfold gah at hr
 have hΓ := (gamL_cons gW.ok (gamL_cons gI.ok (gamL_cons gB.ok (gamL_cons gX.ok (gamL_cons gak.ok (gamL_cons gac.ok (gamL_nil)))))) : GamOk Try.prog _)
 refine Lf Try.tyOk Try.func56 rfl (by kernel_rfl) rfl rfl (by simp) ?_
 intro _ _ _
 refine AWp.then ⟨[⟨2, none, .ptr 0 0⟩, ⟨0, none, .s x0⟩], [.blk [.b false, .b false, .n 0, .n 0, .b false, .n 0, .n 0, .b false, .n 0]]⟩ (AWp.reg Try.tyOk hΓ [2] [] (by kernel_rfl) rfl (by simp)) ?_
 obtain ⟨r1, h18, hr⟩ := Lc hr
 refine AWp.then ⟨[⟨5, none, .ptr 1 0⟩, ⟨2, none, .ptr 0 0⟩], [.blk [.b false, .b false, .n 0, .n 0, .b false, .n 0, .n 0, .b false, .n 0], .blk r1.enc]⟩ (AWp.reg Try.tyOk hΓ [5] [0] (by kernel_rfl) rfl (by simp [h18])) ?_
 obtain ⟨r2, h19, hr⟩ := Lc hr
 refine AWp.then ⟨[⟨6, none, .lit (.int .u8 r2.1)⟩, ⟨5, none, .ptr 1 0⟩, ⟨2, none, .ptr 0 0⟩], [.blk [.b false, .b false, .n 0, .n 0, .b false, .n 0, .n 0, .b false, .n 0], .blk r2.2.enc]⟩ (AWp.reg Try.tyOk hΓ [6] [] (by kernel_rfl) rfl (by simp [h19])) ?_
 obtain ⟨r3, h20, hr⟩ := Lc hr
 refine AWp.then ⟨[⟨7, none, .ptr 2 0⟩, ⟨6, none, .lit (.int .u8 r2.1)⟩, ⟨5, none, .ptr 1 0⟩, ⟨2, none, .ptr 0 0⟩], [.blk [.b false, .b false, .n 0, .n 0, .b false, .n 0, .n 0, .b false, .n 0], .blk r2.2.enc, .blk r3.enc]⟩ (AWp.reg Try.tyOk hΓ [7] [] (by kernel_rfl) rfl (by simp [h20])) ?_
 refine AWp.then ⟨[⟨7, none, .ptr 2 0⟩, ⟨6, none, .lit (.int .u8 r2.1)⟩, ⟨5, none, .ptr 1 0⟩, ⟨2, none, .ptr 0 0⟩], [.blk [.b false, .b false, .n 0, .n 0, .b false, .n 0, .n 0, .b false, .n 0], .blk r2.2.enc, .blk [.b (ltI 0 (bitsOp .and .u8 r2.1 32)), .b (ltI 0 (bitsOp .and .u8 r2.1 16)), .n (cvtI .i64 (bitsOp .and .u8 r2.1 7)), .n r3.fB, .b r3.fU, .n r3.fH, .n r3.fI, .b r3.fR, .n r3.fJ]]⟩ (AWp.reg Try.tyOk hΓ [] [] (by kernel_rfl) rfl (by simp)) ?_
 refine AWp.thenA [⟨8, none, .lit (.int .u8 0)⟩, ⟨7, none, .ptr 2 0⟩, ⟨6, none, .lit (.int .u8 r2.1)⟩, ⟨5, none, .ptr 1 0⟩, ⟨2, none, .ptr 0 0⟩] (AWp.reg Try.tyOk hΓ [8] [] (by kernel_rfl) rfl (by simp)) ?_
 refine AWp.meetF (fun (v1 : Int × Tj) (γ1 : Unit) => ⟨[⟨8, none, .lit (.int .u8 v1.1)⟩, ⟨7, none, .ptr 2 0⟩, ⟨5, none, .ptr 1 0⟩, ⟨2, none, .ptr 0 0⟩], [.blk [.b false, .b false, .n 0, .n 0, .b false, .n 0, .n 0, .b false, .n 0], .blk v1.2.enc, .blk [.b (ltI 0 (bitsOp .and .u8 r2.1 32)), .b (ltI 0 (bitsOp .and .u8 r2.1 16)), .n (cvtI .i64 (bitsOp .and .u8 r2.1 7)), .n r3.fB, .b r3.fU, .n r3.fH, .n r3.fI, .b r3.fR, .n r3.fJ]]⟩) (gah.fin x0) hr (fun f hr => ?_) (fun v1 γ1 hr => ?_) (fun _ h => h)
 ·refine AWp.then ⟨[⟨29, none, .b (ltI 127 r2.1)⟩, ⟨8, none, .lit (.int .u8 0)⟩, ⟨7, none, .ptr 2 0⟩, ⟨5, none, .ptr 1 0⟩, ⟨2, none, .ptr 0 0⟩], [.blk [.b false, .b false, .n 0, .n 0, .b false, .n 0, .n 0, .b false, .n 0], .blk r2.2.enc, .blk [.b (ltI 0 (bitsOp .and .u8 r2.1 32)), .b (ltI 0 (bitsOp .and .u8 r2.1 16)), .n (cvtI .i64 (bitsOp .and .u8 r2.1 7)), .n r3.fB, .b r3.fU, .n r3.fH, .n r3.fI, .b r3.fR, .n r3.fJ]]⟩ (AWp.reg Try.tyOk hΓ [29] [6] (by kernel_rfl) rfl (by simp)) ?_
  refine AWp.cond (b := (ltI 127 r2.1)) (by simp) (fun h21 => ?_) (fun h21 => ?_)
  ·have hr := Lj h21 hr
   obtain ⟨r4, h22, hr⟩ := Lc hr
   refine AWp.last ⟨[⟨8, none, .lit (.int .u8 r4.1)⟩, ⟨7, none, .ptr 2 0⟩, ⟨5, none, .ptr 1 0⟩, ⟨2, none, .ptr 0 0⟩], [.blk [.b false, .b false, .n 0, .n 0, .b false, .n 0, .n 0, .b false, .n 0], .blk r4.2.enc, .blk [.b (ltI 0 (bitsOp .and .u8 r2.1 32)), .b (ltI 0 (bitsOp .and .u8 r2.1 16)), .n (cvtI .i64 (bitsOp .and .u8 r2.1 7)), .n r3.fB, .b r3.fU, .n r3.fH, .n r3.fI, .b r3.fR, .n r3.fJ]]⟩ (AWp.reg Try.tyOk hΓ [8] [29] (by kernel_rfl) rfl (by simp [h21, h22])) ?_
   obtain rfl := La hr
   exact Lo () 3 (by first | (simp; done) | simp [h18, h19, h20, h21, h22])
  ·have hr := Lk h21 hr
   refine AWp.skip ?_
   obtain rfl := La hr
   exact Lo () 3 (by first | (simp; done) | simp [h18, h19, h20, h21])
 ·refine AWp.meetF (fun (v2 : Tj × Td) (γ2 : Unit) => ⟨[⟨8, none, .lit (.int .u8 v1.1)⟩, ⟨7, none, .ptr 2 0⟩, ⟨5, none, .ptr 1 0⟩, ⟨2, none, .ptr 0 0⟩], [.blk [.b false, .b false, .n 0, .n 0, .b false, .n 0, .n 0, .b false, .n 0], .blk v2.1.enc, .blk v2.2.enc]⟩) (gah.fin x0) hr (fun f hr => ?_) (fun v2 γ2 hr => ?_) (fun _ h => h)
  ·refine AWp.then ⟨[⟨34, none, .b (ltI 0 (bitsOp .and .u8 v1.1 128))⟩, ⟨8, none, .lit (.int .u8 v1.1)⟩, ⟨7, none, .ptr 2 0⟩, ⟨5, none, .ptr 1 0⟩, ⟨2, none, .ptr 0 0⟩], [.blk [.b false, .b false, .n 0, .n 0, .b false, .n 0, .n 0, .b false, .n 0], .blk v1.2.enc, .blk [.b (ltI 0 (bitsOp .and .u8 r2.1 32)), .b (ltI 0 (bitsOp .and .u8 r2.1 16)), .n (cvtI .i64 (bitsOp .and .u8 r2.1 7)), .n r3.fB, .b r3.fU, .n r3.fH, .n r3.fI, .b r3.fR, .n r3.fJ]]⟩ (AWp.reg Try.tyOk hΓ [34] [] (by kernel_rfl) rfl (by simp)) ?_
   refine AWp.cond (b := (ltI 0 (bitsOp .and .u8 v1.1 128))) (by simp) (fun h23 => ?_) (fun h23 => ?_)
   ·have hr := Lj h23 hr
    obtain ⟨r5, h24, hr⟩ := Lc hr
    refine AWp.last ⟨[⟨8, none, .lit (.int .u8 v1.1)⟩, ⟨7, none, .ptr 2 0⟩, ⟨5, none, .ptr 1 0⟩, ⟨2, none, .ptr 0 0⟩], [.blk [.b false, .b false, .n 0, .n 0, .b false, .n 0, .n 0, .b false, .n 0], .blk r5.2.enc, .blk r5.1.enc]⟩ (AWp.reg Try.tyOk hΓ [] [34] (by kernel_rfl) rfl (by simp [h23, h24])) ?_
    obtain rfl := La hr
    exact Lo () 3 (by first | (simp; done) | simp [h18, h19, h20, h23, h24])
   ·have hr := Lk h23 hr
    refine AWp.skip ?_
    obtain rfl := La hr
    exact Lo () 3 (by first | (simp; done) | simp [h18, h19, h20, h23])
  ·refine AWp.meetF (fun (v3 : Tj × Td) (γ3 : Unit) => ⟨[⟨8, none, .lit (.int .u8 v1.1)⟩, ⟨7, none, .ptr 2 0⟩, ⟨5, none, .ptr 1 0⟩, ⟨2, none, .ptr 0 0⟩], [.blk [.b false, .b false, .n 0, .n 0, .b false, .n 0, .n 0, .b false, .n 0], .blk v3.1.enc, .blk v3.2.enc]⟩) (gah.fin x0) hr (fun f hr => ?_) (fun v3 γ3 hr => ?_) (fun _ h => h)
   ·refine AWp.then ⟨[⟨39, none, .b (ltI 0 (bitsOp .and .u8 v1.1 64))⟩, ⟨8, none, .lit (.int .u8 v1.1)⟩, ⟨7, none, .ptr 2 0⟩, ⟨5, none, .ptr 1 0⟩, ⟨2, none, .ptr 0 0⟩], [.blk [.b false, .b false, .n 0, .n 0, .b false, .n 0, .n 0, .b false, .n 0], .blk v2.1.enc, .blk v2.2.enc]⟩ (AWp.reg Try.tyOk hΓ [39] [] (by kernel_rfl) rfl (by simp)) ?_
    refine AWp.cond (b := (ltI 0 (bitsOp .and .u8 v1.1 64))) (by simp) (fun h25 => ?_) (fun h25 => ?_)
    ·have hr := Lj h25 hr
     obtain ⟨r6, h26, hr⟩ := Lc hr
     refine AWp.last ⟨[⟨8, none, .lit (.int .u8 v1.1)⟩, ⟨7, none, .ptr 2 0⟩, ⟨5, none, .ptr 1 0⟩, ⟨2, none, .ptr 0 0⟩], [.blk [.b false, .b false, .n 0, .n 0, .b false, .n 0, .n 0, .b false, .n 0], .blk r6.2.enc, .blk [.b v2.2.fK, .b v2.2.fy, .n v2.2.fG, .n v2.2.fB, .b v2.2.fU, .n (cvtI .i64 r6.1), .n v2.2.fI, .b v2.2.fR, .n v2.2.fJ]]⟩ (AWp.reg Try.tyOk hΓ [] [39] (by kernel_rfl) rfl (by simp [h25, h26])) ?_
     obtain rfl := La hr
     exact Lo () 3 (by first | (simp; done) | simp [h18, h19, h20, h25, h26])
    ·have hr := Lk h25 hr
     refine AWp.skip ?_
     obtain rfl := La hr
     exact Lo () 3 (by first | (simp; done) | simp [h18, h19, h20, h25])
   ·refine AWp.meetF (fun (v4 : Tj × Td) (γ4 : Unit) => ⟨[⟨7, none, .ptr 2 0⟩, ⟨5, none, .ptr 1 0⟩, ⟨2, none, .ptr 0 0⟩], [.blk [.b false, .b false, .n 0, .n 0, .b false, .n 0, .n 0, .b false, .n 0], .blk v4.1.enc, .blk v4.2.enc]⟩) (gah.fin x0) hr (fun f hr => ?_) (fun v4 γ4 hr => ?_) (fun _ h => h)
    ·refine AWp.then ⟨[⟨46, none, .b (ltI 0 (bitsOp .and .u8 v1.1 48))⟩, ⟨8, none, .lit (.int .u8 v1.1)⟩, ⟨7, none, .ptr 2 0⟩, ⟨5, none, .ptr 1 0⟩, ⟨2, none, .ptr 0 0⟩], [.blk [.b false, .b false, .n 0, .n 0, .b false, .n 0, .n 0, .b false, .n 0], .blk v3.1.enc, .blk v3.2.enc]⟩ (AWp.reg Try.tyOk hΓ [46] [] (by kernel_rfl) rfl (by simp)) ?_
     refine AWp.cond (b := (ltI 0 (bitsOp .and .u8 v1.1 48))) (by simp) (fun h27 => ?_) (fun h27 => ?_)
     ·have hr := Lj h27 hr
      obtain ⟨r7, h28, hr⟩ := Lc hr
      refine AWp.then ⟨[⟨9, none, .lit (.int .u8 r7.1)⟩, ⟨8, none, .lit (.int .u8 v1.1)⟩, ⟨7, none, .ptr 2 0⟩, ⟨5, none, .ptr 1 0⟩, ⟨2, none, .ptr 0 0⟩], [.blk [.b false, .b false, .n 0, .n 0, .b false, .n 0, .n 0, .b false, .n 0], .blk r7.2.enc, .blk v3.2.enc]⟩ (AWp.reg Try.tyOk hΓ [9] [46] (by kernel_rfl) rfl (by simp [h27, h28])) ?_
      refine AWp.meetF (fun (v5 : Td) (γ5 : Unit) => ⟨[⟨9, none, .lit (.int .u8 r7.1)⟩, ⟨8, none, .lit (.int .u8 v1.1)⟩, ⟨7, none, .ptr 2 0⟩, ⟨5, none, .ptr 1 0⟩, ⟨2, none, .ptr 0 0⟩], [.blk [.b false, .b false, .n 0, .n 0, .b false, .n 0, .n 0, .b false, .n 0], .blk r7.2.enc, .blk v5.enc]⟩) (QRm (gah.fin x0)) hr (fun f hr => ?_) (fun v5 γ5 hr => ?_) (fun _ h => QRm_ret h)
      ·refine AWp.then ⟨[⟨51, none, .b (ltI 0 (bitsOp .and .u8 v1.1 32))⟩, ⟨9, none, .lit (.int .u8 r7.1)⟩, ⟨8, none, .lit (.int .u8 v1.1)⟩, ⟨7, none, .ptr 2 0⟩, ⟨5, none, .ptr 1 0⟩, ⟨2, none, .ptr 0 0⟩], [.blk [.b false, .b false, .n 0, .n 0, .b false, .n 0, .n 0, .b false, .n 0], .blk r7.2.enc, .blk v3.2.enc]⟩ (AWp.reg Try.tyOk hΓ [51] [] (by kernel_rfl) rfl (by simp)) ?_
       refine AWp.cond (b := (ltI 0 (bitsOp .and .u8 v1.1 32))) (by simp) (fun h29 => ?_) (fun h29 => ?_)
       ·have hr := Lj h29 hr
        obtain ⟨h30, hr⟩ := Li hr
        refine AWp.last ⟨[⟨9, none, .lit (.int .u8 r7.1)⟩, ⟨8, none, .lit (.int .u8 v1.1)⟩, ⟨7, none, .ptr 2 0⟩, ⟨5, none, .ptr 1 0⟩, ⟨2, none, .ptr 0 0⟩], [.blk [.b false, .b false, .n 0, .n 0, .b false, .n 0, .n 0, .b false, .n 0], .blk r7.2.enc, .blk [.b v3.2.fK, .b v3.2.fy, .n v3.2.fG, .n v3.2.fB, .b v3.2.fU, .n v3.2.fH, .n (cvtI .i64 (shrI .u8 r7.1 6)), .b (ltI 0 (bitsOp .and .u8 r7.1 32)), .n v3.2.fJ]]⟩ (AWp.reg Try.tyOk hΓ [] [51] (by kernel_rfl) rfl (by simp [h29, h30])) ?_
        obtain rfl := La hr
        exact Lo () 3 (by first | (simp; done) | simp [h18, h19, h20, h27, h28, h29, h30])
       ·have hr := Lk h29 hr
        refine AWp.skip ?_
        obtain rfl := La hr
        exact Lo () 3 (by first | (simp; done) | simp [h18, h19, h20, h27, h28, h29])
      ·refine AWp.then ⟨[⟨62, none, .b (ltI 0 (bitsOp .and .u8 v1.1 16))⟩, ⟨9, none, .lit (.int .u8 r7.1)⟩, ⟨7, none, .ptr 2 0⟩, ⟨5, none, .ptr 1 0⟩, ⟨2, none, .ptr 0 0⟩], [.blk [.b false, .b false, .n 0, .n 0, .b false, .n 0, .n 0, .b false, .n 0], .blk r7.2.enc, .blk v5.enc]⟩ (AWp.reg Try.tyOk hΓ [62] [8] (by kernel_rfl) rfl (by simp)) ?_
       refine AWp.cond (b := (ltI 0 (bitsOp .and .u8 v1.1 16))) (by simp) (fun h31 => ?_) (fun h31 => ?_)
       ·have hr := Lj h31 hr
        refine AWp.last ⟨[⟨7, none, .ptr 2 0⟩, ⟨5, none, .ptr 1 0⟩, ⟨2, none, .ptr 0 0⟩], [.blk [.b false, .b false, .n 0, .n 0, .b false, .n 0, .n 0, .b false, .n 0], .blk r7.2.enc, .blk [.b v5.fK, .b v5.fy, .n v5.fG, .n v5.fB, .b v5.fU, .n v5.fH, .n v5.fI, .b v5.fR, .n (cvtI .i64 (bitsOp .and .u8 r7.1 31))]]⟩ (AWp.reg Try.tyOk hΓ [] [62, 9] (by kernel_rfl) rfl (by simp [h31])) ?_
        obtain rfl := La hr
        exact Lo () 3 (by first | (simp; done) | simp [h18, h19, h20, h27, h28, h31])
       ·have hr := Lk h31 hr
        refine AWp.skip ?_
        obtain rfl := La hr
        exact Lo () 3 (by first | (simp; done) | simp [h18, h19, h20, h27, h28, h31])
     ·have hr := Lk h27 hr
      refine AWp.skip ?_
      obtain rfl := La hr
      exact Lo () 3 (by first | (simp; done) | simp [h18, h19, h20, h27])
    ·refine AWp.seq ?_
     obtain ⟨r8, h32, hr⟩ := Lc hr
     refine AWp.then ⟨[⟨10, none, .n r8⟩, ⟨7, none, .ptr 2 0⟩, ⟨5, none, .ptr 1 0⟩, ⟨2, none, .ptr 0 0⟩], [.blk [.b false, .b false, .n 0, .n 0, .b false, .n 0, .n 0, .b false, .n 0], .blk v4.1.enc, .blk v4.2.enc]⟩ (AWp.reg Try.tyOk hΓ [10] [] (by kernel_rfl) rfl (by simp [h32])) ?_
     refine AWp.thenA [⟨70, none, .b (neI r8 0)⟩, ⟨10, none, .n r8⟩, ⟨7, none, .ptr 2 0⟩, ⟨5, none, .ptr 1 0⟩, ⟨2, none, .ptr 0 0⟩] (AWp.reg Try.tyOk hΓ [70] [] (by kernel_rfl) rfl (by simp)) ?_
     refine AWp.cond (b := (neI r8 0)) (by simp) (fun h33 => ?_) (fun h33 => ?_)
     ·have hr := Lj h33 hr
      refine AWp.thenA [⟨3, none, .s ⟨#[]⟩⟩, ⟨4, none, .n r8⟩, ⟨2, none, .ptr 0 0⟩] (AWp.reg Try.tyOk hΓ [3, 4] [70, 10, 7, 5] (by kernel_rfl) rfl (by simp [h33])) ?_
      refine AWp.ret ?_
      obtain rfl := La hr
      refine Lg ?_
      simp
     ·have hr := Lk h33 hr
      refine AWp.skip ?_
      obtain ⟨r9, h34, hr⟩ := Lc hr
      refine AWp.then ⟨[⟨3, none, .s r9.1⟩, ⟨4, none, .n 0⟩, ⟨2, none, .ptr 0 0⟩], [.blk v4.2.enc, .blk r9.2.enc, .blk v4.2.enc]⟩ (AWp.regD Try.mixed Try.tyOk hΓ [3, 4] [70, 10, 7, 5] [(0, 3)] [(false, []), (false, []), (true, []), (true, []), (false, []), (false, [])] (by kernel_rfl) rfl (by simp [h33, h34])) ?_
      refine AWp.ret ?_
      obtain rfl := La hr
      refine Lg ?_
      simp

@[simp] noncomputable def gah.S : Sp
 | [.lit (.string x0)], _ => (fun (r : Td × ByteArray × Int) => some { av := .tup [.agg [.lit (.bool (r.1.fK)), .lit (.bool (r.1.fy)), .lit (.int .i64 (r.1.fG)), .lit (.int .i64 (r.1.fB)), .lit (.bool (r.1.fU)), .lit (.int .i64 (r.1.fH)), .lit (.int .i64 (r.1.fI)), .lit (.bool (r.1.fR)), .lit (.int .i64 (r.1.fJ))], .lit (.string (r.2.1)), .lit (.int .i64 (r.2.2))], M := none, obl := (gah x0).isSome = true }) ((gah x0).getD dflt)
 | _, _ => none

theorem gah.ok : SpecOk Try.prog 56 gah.S := by
 intro l M out h
 unfold gah.S at h
 split at h
 ·rename_i x0
  try dsimp only at h
  cases h
  refine callOk_of fun ho => ?_
  have hs := ho
  obtain ⟨r, hr⟩ := Option.isSome_iff_exists.1 hs
  simp only [hr, Option.getD_some]
  have q := Lh (M := M) [] (gah.can x0 r hr) (by simp) rfl (by intro k i hk; simp at hk)
  exact callOk_conv q trivial (by simp) (by simp [frameOut, gah.out]) (by simp [frameOut, gah.out])
 ·cases h

@[simp] def gaf.out (_x0 : Td) (_x1 : ByteArray) (r : Bool) : Out := { av := .lit (.bool r), M := none }
def gaf.fin (x0 : Td) (x1 : ByteArray) (r : Bool) (σ : St) : Prop := finK (gaf.out x0 x1 r) [] σ.M (resA Try.ty σ.A σ.M Try.f57.results.toList)
theorem gaf.can (x0 : Td) (x1 : ByteArray) (r : Bool) (hr : gaf x0 x1 = some r) : CallOk Try.prog 57 [.agg [.lit (.bool x0.fK), .lit (.bool x0.fy), .lit (.int .i64 x0.fG), .lit (.int .i64 x0.fB), .lit (.bool x0.fU), .lit (.int .i64 x0.fH), .lit (.int .i64 x0.fI), .lit (.bool x0.fR), .lit (.int .i64 x0.fJ)], .lit (.string x1)] [] (gaf.out x0 x1 r) := by
 unfold gaf at hr
 have hΓ := gamL_nil (P := Try.prog)
 refine Lf Try.tyOk Try.func57 rfl (by kernel_rfl) rfl rfl (by simp) ?_
 intro _ _ _
 refine AWp.then ⟨[⟨2, none, .ptr 0 0⟩, ⟨1, none, .s x1⟩], [.blk x0.enc]⟩ (AWp.reg Try.tyOk hΓ [2] [0] (by kernel_rfl) rfl (by simp)) ?_
 obtain ⟨h2, hr⟩ := Li hr
 refine AWp.thenA [⟨4, none, .b (pickB (pickB (pickB x0.fy (eqI x0.fG 0) false) (neS x1 ⟨#[]⟩) false) (eqI (bitsOp .and .u8 (idxS x1 0) 1) 0) false)⟩] (AWp.reg Try.tyOk hΓ [4] [2, 1] (by kernel_rfl) rfl (by simp [h2])) ?_
 refine AWp.ret ?_
 obtain rfl := La hr
 refine Lg ?_
 simp

@[simp] noncomputable def gaf.S : Sp
 | [.agg e0, .lit (.string x1)], _ => some { av := .lit (.bool ((gaf (Td.dec e0) x1).getD dflt)), M := none, obl := WeakL e0 (Td.enc (Td.dec e0)) ∧ (gaf (Td.dec e0) x1).isSome = true }
 | _, _ => none

theorem gaf.ok : SpecOk Try.prog 57 gaf.S := by
 intro l M out h
 unfold gaf.S at h
 split at h
 ·rename_i e0 x1
  cases h
  refine callOk_of fun ho => ?_
  obtain ⟨ox0, hs⟩ := ho
  generalize (Td.dec e0) = x0 at *
  obtain ⟨r, hr⟩ := Option.isSome_iff_exists.1 hs
  simp only [hr, Option.getD_some]
  have q := Lh (M := M) [] (gaf.can x0 x1 r hr) (by simp) rfl (by intro k i hk; simp at hk)
  exact callOk_conv q trivial (by simp; exact ox0) (by simp [frameOut, gaf.out]) (by simp [frameOut, gaf.out])
 ·cases h
end Go.Proofs

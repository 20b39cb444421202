/- That these functions compute what their plain functions do. No condition. -/
import Derived.Test.YtbijdlgffebenaaGreatM06
import Derived.Test.YtbijdlgffebenaaGreatTy
import Derived.Test.YtbijdlgffebenaaGreatWe
set_option maxRecDepth 100000
set_option maxHeartbeats 4000000
namespace Go.Proofs
open Go.Ab
@[simp] def gaJ.out (_x0 : ByteArray) (r : Tq) : Out := { av := .ptr 0 0, M := some [.blk [.lit (.string r.fS), .lit (.int .i64 r.fE)]] }
theorem gaJ.can (x0 : ByteArray) (r : Tq) (hr : gaJ x0 = some r) : CallOk Tryz.prog 89 [.lit (.string x0)] [] (gaJ.out x0 r) := by
 unfold gaJ at hr
 have hΓ := gamL_nil (P := Tryz.prog)
 refine Le Tryz.tyOk Tryz.func89 rfl (by kernel_rfl) rfl rfl (by simp) ?_
 intro _ _ _
 refine AWp.then ⟨[⟨0, none, .s x0⟩], []⟩ (AWp.reg Tryz.tyOk hΓ [] [] (by kernel_rfl) rfl (by simp)) ?_
 refine AWp.then ⟨[⟨2, none, .ptr 0 0⟩], [.blk [.s x0, .n 0]]⟩ (AWp.reg Tryz.tyOk hΓ [2] [0] (by kernel_rfl) rfl (by simp)) ?_
 refine AWp.ret ?_
 obtain rfl := La hr
 refine Lf ?_
 simp

@[simp] noncomputable def gaJ.S : Sp
 | [.lit (.string x0)], M => some { av := .ptr M.length 0, M := some (M ++ [.blk [.lit (.string (((gaJ x0).getD dflt).fS)), .lit (.int .i64 (((gaJ x0).getD dflt).fE))]]), obl := (gaJ x0).isSome = true }
 | _, _ => none

theorem gaJ.ok : SpecOk Tryz.prog 89 gaJ.S := by
 intro l M out h
 unfold gaJ.S at h
 split at h
 ·rename_i x0
  cases h
  refine callOk_of fun ho => ?_
  have hs := ho
  obtain ⟨r, hr⟩ := Option.isSome_iff_exists.1 hs
  simp only [hr, Option.getD_some]
  have q := Lg (M := M) [] (gaJ.can x0 r hr) (by simp) rfl (by intro k i hk; simp at hk)
  exact callOk_conv q trivial (by simp) (by simp [frameOut, gaJ.out, into]) (by simp [frameOut, gaJ.out, into])
 ·cases h

@[simp] def gao.out (_x0 : Tq) (r : Int) : Out := { av := .lit (.int .i64 r), M := none }
theorem gao.can (x0 : Tq) (r : Int) (hr : gao x0 = some r) : CallOk Tryz.prog 103 [.ptr 0 0] [.blk x0.enc] (gao.out x0 r) := by
 unfold gao at hr
 have hΓ := gamL_nil (P := Tryz.prog)
 refine Le Tryz.tyOk Tryz.func103 rfl (by kernel_rfl) rfl rfl (by simp) ?_
 intro _ _ _
 refine AWp.then ⟨[⟨0, none, .ptr 0 0⟩], [.blk x0.enc]⟩ (AWp.reg Tryz.tyOk hΓ [] [] (by kernel_rfl) rfl (by simp)) ?_
 refine AWp.thenA [⟨2, none, .n (lenS x0.fS)⟩] (AWp.reg Tryz.tyOk hΓ [2] [0] (by kernel_rfl) rfl (by simp)) ?_
 refine AWp.ret ?_
 obtain rfl := La hr
 refine Lf ?_
 simp

@[simp] noncomputable def gao.S : Sp
 | [.ptr i0 0], M => match M[i0]? with
  | some (.blk c0) => some { av := .lit (.int .i64 ((gao (Tq.dec c0)).getD dflt)), M := none, obl := c0 = Tq.enc (Tq.dec c0) ∧ (gao (Tq.dec c0)).isSome = true }
  | _ => none
 | _, _ => none

theorem gao.ok : SpecOk Tryz.prog 103 gao.S := by
 intro l M out h
 unfold gao.S at h
 split at h
 ·rename_i i0
  split at h
  case h_2 => cases h
  rename_i c0 hM0
  cases h
  refine callOk_of fun ho => ?_
  obtain ⟨oc0, hs⟩ := ho
  generalize (Tq.dec c0) = y0 at *
  subst oc0
  obtain ⟨r, hr⟩ := Option.isSome_iff_exists.1 hs
  simp only [hr, Option.getD_some]
  have q := Lg (M := M) [i0] (gao.can y0 r hr) (by simp) rfl (by intro k i hk; (cases k with | zero => (simp at hk; subst hk; simp [hM0]) | succ k => (simp at hk)))
  exact callOk_conv q trivial (by simp [into]) (by simp [frameOut, gao.out]) (by simp only [frameOut, gao.out, Option.getD_some, Option.getD_none]; simp [hM0, set_same])
 ·cases h

@[simp] def gak.out (_x0 : Tq) (r : Int) : Out := { av := .lit (.int .i64 r), M := none }
theorem gak.can (x0 : Tq) (r : Int) (hr : gak x0 = some r) : CallOk Tryz.prog 92 [.ptr 0 0] [.blk x0.enc] (gak.out x0 r) := by
 unfold gak at hr
 have hΓ := gamL_nil (P := Tryz.prog)
 refine Le Tryz.tyOk Tryz.func92 rfl (by kernel_rfl) rfl rfl (by simp) ?_
 intro _ _ _
 refine AWp.then ⟨[⟨0, none, .ptr 0 0⟩], [.blk x0.enc]⟩ (AWp.reg Tryz.tyOk hΓ [] [] (by kernel_rfl) rfl (by simp)) ?_
 refine AWp.thenA [⟨2, none, .n x0.fE⟩] (AWp.reg Tryz.tyOk hΓ [2] [0] (by kernel_rfl) rfl (by simp)) ?_
 refine AWp.ret ?_
 obtain rfl := La hr
 refine Lf ?_
 simp

@[simp] noncomputable def gak.S : Sp
 | [.ptr i0 0], M => match M[i0]? with
  | some (.blk c0) => some { av := .lit (.int .i64 ((gak (Tq.dec c0)).getD dflt)), M := none, obl := c0 = Tq.enc (Tq.dec c0) ∧ (gak (Tq.dec c0)).isSome = true }
  | _ => none
 | _, _ => none

theorem gak.ok : SpecOk Tryz.prog 92 gak.S := by
 intro l M out h
 unfold gak.S at h
 split at h
 ·rename_i i0
  split at h
  case h_2 => cases h
  rename_i c0 hM0
  cases h
  refine callOk_of fun ho => ?_
  obtain ⟨oc0, hs⟩ := ho
  generalize (Tq.dec c0) = y0 at *
  subst oc0
  obtain ⟨r, hr⟩ := Option.isSome_iff_exists.1 hs
  simp only [hr, Option.getD_some]
  have q := Lg (M := M) [i0] (gak.can y0 r hr) (by simp) rfl (by intro k i hk; (cases k with | zero => (simp at hk; subst hk; simp [hM0]) | succ k => (simp at hk)))
  exact callOk_conv q trivial (by simp [into]) (by simp [frameOut, gak.out]) (by simp only [frameOut, gak.out, Option.getD_some, Option.getD_none]; simp [hM0, set_same])
 ·cases h

@[simp] def gV.out (_x0 : Tq) (_x1 : Int) (r : Tq) : Out := { av := .tup [], M := some [.blk [.lit (.string r.fS), .lit (.int .i64 r.fE)]] }
theorem gV.can (x0 : Tq) (x1 : Int) (r : Tq) (hr : gV x0 x1 = some r) : CallOk Tryz.prog 119 [.ptr 0 0, .lit (.int .i64 x1)] [.blk x0.enc] (gV.out x0 x1 r) := by
 unfold gV at hr
 have hΓ := gamL_nil (P := Tryz.prog)
 refine Le Tryz.tyOk Tryz.func119 rfl (by kernel_rfl) rfl rfl (by simp) ?_
 intro _ _ _
 refine AWp.then ⟨[⟨12, none, .b (pickB (eqI x0.fE 0) (neI x1 0) false)⟩, ⟨0, none, .ptr 0 0⟩, ⟨1, none, .n x1⟩], [.blk x0.enc]⟩ (AWp.reg Tryz.tyOk hΓ [12] [] (by kernel_rfl) rfl (by simp)) ?_
 refine AWp.cond (b := (pickB (eqI x0.fE 0) (neI x1 0) false)) (by simp) (fun h2 => ?_) (fun h2 => ?_)
 ·have hr := Li h2 hr
  refine AWp.last ⟨[], [.blk [.s ⟨#[]⟩, .n x1]]⟩ (AWp.reg Tryz.tyOk hΓ [] [12, 0, 1] (by kernel_rfl) rfl (by simp [h2])) ?_
  obtain rfl := La hr
  refine fin_norm ?_
  simp
 ·have hr := Lj h2 hr
  refine AWp.skip ?_
  obtain rfl := La hr
  refine fin_norm ?_
  simp

@[simp] noncomputable def gV.S : Sp
 | [.ptr i0 0, .lit (.int .i64 x1)], M => match M[i0]? with
  | some (.blk c0) => some { av := .tup [], M := some (M.set i0 (.blk [.lit (.string (((gV (Tq.dec c0) x1).getD dflt).fS)), .lit (.int .i64 (((gV (Tq.dec c0) x1).getD dflt).fE))])), obl := c0 = Tq.enc (Tq.dec c0) ∧ (gV (Tq.dec c0) x1).isSome = true }
  | _ => none
 | _, _ => none

theorem gV.ok : SpecOk Tryz.prog 119 gV.S := by
 intro l M out h
 unfold gV.S at h
 split at h
 ·rename_i i0 x1
  split at h
  case h_2 => cases h
  rename_i c0 hM0
  cases h
  refine callOk_of fun ho => ?_
  obtain ⟨oc0, hs⟩ := ho
  generalize (Tq.dec c0) = y0 at *
  subst oc0
  obtain ⟨r, hr⟩ := Option.isSome_iff_exists.1 hs
  simp only [hr, Option.getD_some]
  have q := Lg (M := M) [i0] (gV.can y0 x1 r hr) (by simp) rfl (by intro k i hk; (cases k with | zero => (simp at hk; subst hk; simp [hM0]) | succ k => (simp at hk)))
  exact callOk_conv q trivial (by simp [into]) (by simp [frameOut, gV.out]) (by simp [frameOut, gV.out])
 ·cases h

@[simp] def gz.out (_x0 : Tq) (_x1 : Int) (r : ByteArray × Tq) : Out := { av := .lit (.string r.1), M := some [.blk [.lit (.string r.2.fS), .lit (.int .i64 r.2.fE)]] }
theorem gz.can (x0 : Tq) (x1 : Int) (r : ByteArray × Tq) (hr : gz x0 x1 = some r) : CallOk Tryz.prog 102 [.ptr 0 0, .lit (.int .i64 x1)] [.blk x0.enc] (gz.out x0 x1 r) := by
 unfold gz at hr
 have hΓ := (gamL_cons gV.ok (gamL_nil) : GamOk Tryz.prog _)
 refine Le Tryz.tyOk Tryz.func102 rfl (by kernel_rfl) rfl rfl (by simp) ?_
 intro _ _ _
 refine AWp.then ⟨[⟨0, none, .ptr 0 0⟩, ⟨1, none, .n x1⟩], [.blk x0.enc]⟩ (AWp.reg Tryz.tyOk hΓ [] [] (by kernel_rfl) rfl (by simp)) ?_
 refine AWp.seq ?_
 refine AWp.block ?_
 refine AWp.then ⟨[⟨6, none, .b (neI x0.fE 0)⟩, ⟨0, none, .ptr 0 0⟩, ⟨1, none, .n x1⟩], [.blk x0.enc]⟩ (AWp.reg Tryz.tyOk hΓ [6] [] (by kernel_rfl) rfl (by simp)) ?_
 refine AWp.cond (b := (neI x0.fE 0)) (by simp) (fun h8 => ?_) (fun h8 => ?_)
 ·have hr := Li h8 hr
  refine AWp.thenA [⟨4, none, .s ⟨#[]⟩⟩] (AWp.reg Tryz.tyOk hΓ [4] [6, 0, 1] (by kernel_rfl) rfl (by simp [h8])) ?_
  refine AWp.ret ?_
  obtain rfl := La hr
  refine Lf ?_
  simp
 ·have hr := Lj h8 hr
  refine AWp.thenA [⟨12, none, .b (ltI x1 0)⟩, ⟨0, none, .ptr 0 0⟩, ⟨1, none, .n x1⟩] (AWp.reg Tryz.tyOk hΓ [12] [6] (by kernel_rfl) rfl (by simp [h8])) ?_
  refine AWp.cond (b := (ltI x1 0)) (by simp) (fun h9 => ?_) (fun h9 => ?_)
  ·have hr := Li h9 hr
   obtain ⟨r1, h10, hr⟩ := Lb hr
   refine AWp.then ⟨[], [.blk r1.enc]⟩ (AWp.reg Tryz.tyOk hΓ [] [12, 0, 1] (by kernel_rfl) rfl (by simp [h9, h10])) ?_
   refine AWp.thenA [⟨4, none, .s ⟨#[]⟩⟩] (AWp.reg Tryz.tyOk hΓ [4] [] (by kernel_rfl) rfl (by simp)) ?_
   refine AWp.ret ?_
   obtain rfl := La hr
   refine Lf ?_
   simp
  ·have hr := Lj h9 hr
   refine AWp.thenA [⟨17, none, .b (ltI (lenS x0.fS) x1)⟩, ⟨0, none, .ptr 0 0⟩, ⟨1, none, .n x1⟩] (AWp.reg Tryz.tyOk hΓ [17] [12] (by kernel_rfl) rfl (by simp [h9])) ?_
   refine AWp.cond (b := (ltI (lenS x0.fS) x1)) (by simp) (fun h11 => ?_) (fun h11 => ?_)
   ·have hr := Li h11 hr
    obtain ⟨r2, h12, hr⟩ := Lb hr
    refine AWp.then ⟨[], [.blk r2.enc]⟩ (AWp.reg Tryz.tyOk hΓ [] [17, 0, 1] (by kernel_rfl) rfl (by simp [h11, h12])) ?_
    refine AWp.thenA [⟨4, none, .s ⟨#[]⟩⟩] (AWp.reg Tryz.tyOk hΓ [4] [] (by kernel_rfl) rfl (by simp)) ?_
    refine AWp.ret ?_
    obtain rfl := La hr
    refine Lf ?_
    simp
   ·have hr := Lj h11 hr
    refine AWp.skip ?_
    obtain ⟨h13, hr⟩ := Lc hr
    refine AWp.then ⟨[⟨5, none, .s (cutS x0.fS 0 x1)⟩, ⟨0, none, .ptr 0 0⟩, ⟨1, none, .n x1⟩], [.blk x0.enc]⟩ (AWp.reg Tryz.tyOk hΓ [5] [17] (by kernel_rfl) rfl (by simp [h11, h13])) ?_
    obtain ⟨h14, hr⟩ := Lc hr
    refine AWp.then ⟨[⟨5, none, .s (cutS x0.fS 0 x1)⟩], [.blk [.s (cutS x0.fS x1 (lenS x0.fS)), .n x0.fE]]⟩ (AWp.reg Tryz.tyOk hΓ [] [0, 1] (by kernel_rfl) rfl (by simp [h14])) ?_
    refine AWp.thenA [⟨4, none, .s (cutS x0.fS 0 x1)⟩] (AWp.reg Tryz.tyOk hΓ [4] [5] (by kernel_rfl) rfl (by simp)) ?_
    refine AWp.ret ?_
    obtain rfl := La hr
    refine Lf ?_
    simp

@[simp] noncomputable def gz.S : Sp
 | [.ptr i0 0, .lit (.int .i64 x1)], M => match M[i0]? with
  | some (.blk c0) => some { av := .lit (.string (((gz (Tq.dec c0) x1).getD dflt).1)), M := some (M.set i0 (.blk [.lit (.string (((gz (Tq.dec c0) x1).getD dflt).2.fS)), .lit (.int .i64 (((gz (Tq.dec c0) x1).getD dflt).2.fE))])), obl := c0 = Tq.enc (Tq.dec c0) ∧ (gz (Tq.dec c0) x1).isSome = true }
  | _ => none
 | _, _ => none

theorem gz.ok : SpecOk Tryz.prog 102 gz.S := by
 intro l M out h
 unfold gz.S at h
 split at h
 ·rename_i i0 x1
  split at h
  case h_2 => cases h
  rename_i c0 hM0
  cases h
  refine callOk_of fun ho => ?_
  obtain ⟨oc0, hs⟩ := ho
  generalize (Tq.dec c0) = y0 at *
  subst oc0
  obtain ⟨r, hr⟩ := Option.isSome_iff_exists.1 hs
  simp only [hr, Option.getD_some]
  have q := Lg (M := M) [i0] (gz.can y0 x1 r hr) (by simp) rfl (by intro k i hk; (cases k with | zero => (simp at hk; subst hk; simp [hM0]) | succ k => (simp at hk)))
  exact callOk_conv q trivial (by simp [into]) (by simp [frameOut, gz.out]) (by simp [frameOut, gz.out])
 ·cases h

@[simp] def gt.out (_x0 : Tq) (_x1 : Int) (r : Int × Tq) : Out := { av := .lit (.int .u64 r.1), M := some [.blk [.lit (.string r.2.fS), .lit (.int .i64 r.2.fE)]] }
def gt.fin (x0 : Tq) (x1 : Int) (r : Int × Tq) (σ : St) : Prop := finK (gt.out x0 x1 r) [.blk x0.enc] σ.M (resA Tryz.ty σ.A σ.M Tryz.f101.results.toList)
theorem gt.can (x0 : Tq) (x1 : Int) (r : Int × Tq) (hr : gt x0 x1 = some r) : CallOk Tryz.prog 101 [.ptr 0 0, .lit (.int .i64 x1)] [.blk x0.enc] (gt.out x0 x1 r) := by
 unfold gt at hr
 have hΓ := (gamL_cons gz.ok (gamL_nil) : GamOk Tryz.prog _)
 refine Le Tryz.tyOk Tryz.func101 rfl (by kernel_rfl) rfl rfl (by simp) ?_
 intro _ _ _
 refine AWp.then ⟨[⟨0, none, .ptr 0 0⟩, ⟨1, none, .n x1⟩], [.blk x0.enc]⟩ (AWp.reg Tryz.tyOk hΓ [] [] (by kernel_rfl) rfl (by simp)) ?_
 refine AWp.thenA [⟨5, none, .lit (.int .u64 0)⟩, ⟨0, none, .ptr 0 0⟩, ⟨1, none, .n x1⟩] (AWp.reg Tryz.tyOk hΓ [5] [] (by kernel_rfl) rfl (by simp)) ?_
 refine AWp.seq ?_
 obtain ⟨r1, h5, hr⟩ := Lb hr
 refine AWp.then ⟨[⟨13, none, .sl ((numsOf r1.1).map (eNum .u8)) .no⟩, ⟨14, none, .n (lenL (numsOf r1.1))⟩, ⟨15, none, .n 0⟩, ⟨5, none, .lit (.int .u64 0)⟩], [.blk r1.2.enc]⟩ (AWp.reg Tryz.tyOk hΓ [13, 14, 15] [0, 1] (by kernel_rfl) rfl (by simp [h5])) ?_
 refine AWp.loopE (fun (s1 : Int × Int) (γ1 : Unit) => ⟨[⟨13, none, .sl ((numsOf r1.1).map (eNum .u8)) .no⟩, ⟨14, none, .n (lenL (numsOf r1.1))⟩, ⟨15, none, .n s1.1⟩, ⟨5, none, .lit (.int .u64 s1.2)⟩], [.blk r1.2.enc]⟩) (fun (v1 : Int) (γ1a : Unit) => ⟨[⟨5, none, .lit (.int .u64 v1)⟩], [.blk r1.2.enc]⟩) (gt.fin x0 x1) hr () 1 (by simp) (fun s1 f γ1 hr => ?_) (fun v1 γ1a σ1 m1 hr hc => ?_) (fun _ h => h)
 ·unfold gt.loop1 at hr
  refine AWp.then ⟨[⟨16, none, .b (ltI s1.1 (lenL (numsOf r1.1)))⟩, ⟨13, none, .sl ((numsOf r1.1).map (eNum .u8)) .no⟩, ⟨14, none, .n (lenL (numsOf r1.1))⟩, ⟨15, none, .n s1.1⟩, ⟨5, none, .lit (.int .u64 s1.2)⟩], [.blk r1.2.enc]⟩ (AWp.reg Tryz.tyOk hΓ [16] [] (by kernel_rfl) rfl (by simp)) ?_
  refine AWp.seq ?_
  refine AWp.cond (b := (ltI s1.1 (lenL (numsOf r1.1)))) (by simp) (fun h6 => ?_) (fun h6 => ?_)
  ·have hr := Li h6 hr
   refine AWp.skip ?_
   refine AWp.seq ?_
   refine AWp.block ?_
   obtain ⟨h7, hr⟩ := Lc hr
   refine AWp.then ⟨[⟨7, none, .lit (.int .u8 (nthI (numsOf r1.1) s1.1))⟩, ⟨13, none, .sl ((numsOf r1.1).map (eNum .u8)) .no⟩, ⟨14, none, .n (lenL (numsOf r1.1))⟩, ⟨15, none, .n s1.1⟩, ⟨5, none, .lit (.int .u64 s1.2)⟩], [.blk r1.2.enc]⟩ (AWp.reg Tryz.tyOk hΓ [7] [16] (by kernel_rfl) rfl (by simp [h6, h7])) ?_
   obtain ⟨h8, hr⟩ := Lc hr
   refine AWp.last ⟨[⟨5, none, .lit (.int .u64 (bitsOp .or .u64 (shlI .u64 s1.2 8) (cvtI .u64 (nthI (numsOf r1.1) s1.1))))⟩, ⟨13, none, .sl ((numsOf r1.1).map (eNum .u8)) .no⟩, ⟨14, none, .n (lenL (numsOf r1.1))⟩, ⟨15, none, .n s1.1⟩], [.blk r1.2.enc]⟩ (AWp.reg Tryz.tyOk hΓ [5] [7] (by kernel_rfl) rfl (by simp [h8])) ?_
   refine AWp.last ⟨[⟨15, none, .n (addI .i64 s1.1 1)⟩, ⟨5, none, .lit (.int .u64 (bitsOp .or .u64 (shlI .u64 s1.2 8) (cvtI .u64 (nthI (numsOf r1.1) s1.1))))⟩, ⟨13, none, .sl ((numsOf r1.1).map (eNum .u8)) .no⟩, ⟨14, none, .n (lenL (numsOf r1.1))⟩], [.blk r1.2.enc]⟩ (AWp.reg Tryz.tyOk hΓ [15] [] (by kernel_rfl) rfl (by simp)) ?_
   obtain rfl := La hr
   exact Lq () 1 (by first | (simp; done) | simp [h5, h6, h7, h8])
  ·have hr := Lj h6 hr
   refine AWp.exit ?_
   obtain rfl := La hr
   exact Lo () 1 (by first | (simp; done) | simp [h5, h6])
 ·refine AWp.conv hc ?_
  refine AWp.then ⟨[⟨4, none, .lit (.int .u64 v1)⟩], [.blk r1.2.enc]⟩ (AWp.reg Tryz.tyOk hΓ [4] [5] (by kernel_rfl) rfl (by simp)) ?_
  refine AWp.ret ?_
  obtain rfl := La hr
  refine Lf ?_
  simp

@[simp] noncomputable def gt.S : Sp
 | [.ptr i0 0, .lit (.int .i64 x1)], M => match M[i0]? with
  | some (.blk c0) => some { av := .lit (.int .u64 (((gt (Tq.dec c0) x1).getD dflt).1)), M := some (M.set i0 (.blk [.lit (.string (((gt (Tq.dec c0) x1).getD dflt).2.fS)), .lit (.int .i64 (((gt (Tq.dec c0) x1).getD dflt).2.fE))])), obl := c0 = Tq.enc (Tq.dec c0) ∧ (gt (Tq.dec c0) x1).isSome = true }
  | _ => none
 | _, _ => none

theorem gt.ok : SpecOk Tryz.prog 101 gt.S := by
 intro l M out h
 unfold gt.S at h
 split at h
 ·rename_i i0 x1
  split at h
  case h_2 => cases h
  rename_i c0 hM0
  cases h
  refine callOk_of fun ho => ?_
  obtain ⟨oc0, hs⟩ := ho
  generalize (Tq.dec c0) = y0 at *
  subst oc0
  obtain ⟨r, hr⟩ := Option.isSome_iff_exists.1 hs
  simp only [hr, Option.getD_some]
  have q := Lg (M := M) [i0] (gt.can y0 x1 r hr) (by simp) rfl (by intro k i hk; (cases k with | zero => (simp at hk; subst hk; simp [hM0]) | succ k => (simp at hk)))
  exact callOk_conv q trivial (by simp [into]) (by simp [frameOut, gt.out]) (by simp [frameOut, gt.out])
 ·cases h

@[simp] def gH.out (_x0 : Tq) (r : Int × Tq) : Out := { av := .lit (.int .u8 r.1), M := some [.blk [.lit (.string r.2.fS), .lit (.int .i64 r.2.fE)]] }
theorem gH.can (x0 : Tq) (r : Int × Tq) (hr : gH x0 = some r) : CallOk Tryz.prog 90 [.ptr 0 0] [.blk x0.enc] (gH.out x0 r) := by
 unfold gH at hr
 have hΓ := (gamL_cons gt.ok (gamL_nil) : GamOk Tryz.prog _)
 refine Le Tryz.tyOk Tryz.func90 rfl (by kernel_rfl) rfl rfl (by simp) ?_
 intro _ _ _
 refine AWp.then ⟨[⟨0, none, .ptr 0 0⟩], [.blk x0.enc]⟩ (AWp.reg Tryz.tyOk hΓ [] [] (by kernel_rfl) rfl (by simp)) ?_
 obtain ⟨r1, h2, hr⟩ := Lb hr
 refine AWp.then ⟨[⟨2, none, .lit (.int .u8 (cvtI .u8 r1.1))⟩], [.blk r1.2.enc]⟩ (AWp.reg Tryz.tyOk hΓ [2] [0] (by kernel_rfl) rfl (by simp [h2])) ?_
 refine AWp.ret ?_
 obtain rfl := La hr
 refine Lf ?_
 simp

@[simp] noncomputable def gH.S : Sp
 | [.ptr i0 0], M => match M[i0]? with
  | some (.blk c0) => some { av := .lit (.int .u8 (((gH (Tq.dec c0)).getD dflt).1)), M := some (M.set i0 (.blk [.lit (.string (((gH (Tq.dec c0)).getD dflt).2.fS)), .lit (.int .i64 (((gH (Tq.dec c0)).getD dflt).2.fE))])), obl := c0 = Tq.enc (Tq.dec c0) ∧ (gH (Tq.dec c0)).isSome = true }
  | _ => none
 | _, _ => none

theorem gH.ok : SpecOk Tryz.prog 90 gH.S := by
 intro l M out h
 unfold gH.S at h
 split at h
 ·rename_i i0
  split at h
  case h_2 => cases h
  rename_i c0 hM0
  cases h
  refine callOk_of fun ho => ?_
  obtain ⟨oc0, hs⟩ := ho
  generalize (Tq.dec c0) = y0 at *
  subst oc0
  obtain ⟨r, hr⟩ := Option.isSome_iff_exists.1 hs
  simp only [hr, Option.getD_some]
  have q := Lg (M := M) [i0] (gH.can y0 r hr) (by simp) rfl (by intro k i hk; (cases k with | zero => (simp at hk; subst hk; simp [hM0]) | succ k => (simp at hk)))
  exact callOk_conv q trivial (by simp [into]) (by simp [frameOut, gH.out]) (by simp [frameOut, gH.out])
 ·cases h

@[simp] def gM.out (_x0 : Tq) (r : ByteArray × Tq) : Out := { av := .lit (.string r.1), M := some [.blk [.lit (.string r.2.fS), .lit (.int .i64 r.2.fE)]] }
theorem gM.can (x0 : Tq) (r : ByteArray × Tq) (hr : gM x0 = some r) : CallOk Tryz.prog 93 [.ptr 0 0] [.blk x0.enc] (gM.out x0 r) := by
 unfold gM at hr
 have hΓ := (gamL_cons gz.ok (gamL_cons gao.ok (gamL_nil)) : GamOk Tryz.prog _)
 refine Le Tryz.tyOk Tryz.func93 rfl (by kernel_rfl) rfl rfl (by simp) ?_
 intro _ _ _
 refine AWp.then ⟨[⟨0, none, .ptr 0 0⟩], [.blk x0.enc]⟩ (AWp.reg Tryz.tyOk hΓ [] [] (by kernel_rfl) rfl (by simp)) ?_
 obtain ⟨r1, h3, hr⟩ := Lb hr
 obtain ⟨r2, h4, hr⟩ := Lb hr
 refine AWp.then ⟨[⟨2, none, .s r2.1⟩], [.blk r2.2.enc]⟩ (AWp.reg Tryz.tyOk hΓ [2] [0] (by kernel_rfl) rfl (by simp [h3, h4])) ?_
 refine AWp.ret ?_
 obtain rfl := La hr
 refine Lf ?_
 simp

@[simp] noncomputable def gM.S : Sp
 | [.ptr i0 0], M => match M[i0]? with
  | some (.blk c0) => some { av := .lit (.string (((gM (Tq.dec c0)).getD dflt).1)), M := some (M.set i0 (.blk [.lit (.string (((gM (Tq.dec c0)).getD dflt).2.fS)), .lit (.int .i64 (((gM (Tq.dec c0)).getD dflt).2.fE))])), obl := c0 = Tq.enc (Tq.dec c0) ∧ (gM (Tq.dec c0)).isSome = true }
  | _ => none
 | _, _ => none

theorem gM.ok : SpecOk Tryz.prog 93 gM.S := by
 intro l M out h
 unfold gM.S at h
 split at h
 ·rename_i i0
  split at h
  case h_2 => cases h
  rename_i c0 hM0
  cases h
  refine callOk_of fun ho => ?_
  obtain ⟨oc0, hs⟩ := ho
  generalize (Tq.dec c0) = y0 at *
  subst oc0
  obtain ⟨r, hr⟩ := Option.isSome_iff_exists.1 hs
  simp only [hr, Option.getD_some]
  have q := Lg (M := M) [i0] (gM.can y0 r hr) (by simp) rfl (by intro k i hk; (cases k with | zero => (simp at hk; subst hk; simp [hM0]) | succ k => (simp at hk)))
  exact callOk_conv q trivial (by simp [into]) (by simp [frameOut, gM.out]) (by simp [frameOut, gM.out])
 ·cases h

@[simp] def gap.out  (r : Te) : Out := { av := .agg [.lit (.bool r.fI), .lit (.bool r.fz), .lit (.int .i64 r.fD), .lit (.int .i64 r.fB), .lit (.bool r.fR), .lit (.int .i64 r.fG), .lit (.int .i64 r.fH), .lit (.bool r.fQ), .lit (.int .i64 r.fJ)], M := none }
theorem gap.can  (r : Te) (hr : gap = some r) : CallOk Tryz.prog 22 [] [] (gap.out  r) := by
 unfold gap at hr
 have hΓ := gamL_nil (P := Tryz.prog)
 refine Le Tryz.tyOk Tryz.func22 rfl (by kernel_rfl) rfl rfl (by simp) ?_
 intro _ _ _
 refine AWp.then ⟨[⟨0, none, .ptr 0 0⟩], [.blk [.b false, .b false, .n 0, .n 0, .b false, .n 0, .n 0, .b false, .n 0]]⟩ (AWp.reg Tryz.tyOk hΓ [0] [] (by kernel_rfl) rfl (by simp)) ?_
 refine AWp.then ⟨[⟨0, none, .ptr 0 0⟩], [.blk [.b false, .b false, .n 0, .n (-1), .b false, .n (-1), .n (-1), .b false, .n (-1)]]⟩ (AWp.reg Tryz.tyOk hΓ [] [] (by kernel_rfl) rfl (by simp)) ?_
 refine AWp.ret ?_
 obtain rfl := La hr
 refine Lf ?_
 simp

@[simp] noncomputable def gap.S : Sp
 | [], _ => some { av := .agg [.lit (.bool ((gap.getD dflt).fI)), .lit (.bool ((gap.getD dflt).fz)), .lit (.int .i64 ((gap.getD dflt).fD)), .lit (.int .i64 ((gap.getD dflt).fB)), .lit (.bool ((gap.getD dflt).fR)), .lit (.int .i64 ((gap.getD dflt).fG)), .lit (.int .i64 ((gap.getD dflt).fH)), .lit (.bool ((gap.getD dflt).fQ)), .lit (.int .i64 ((gap.getD dflt).fJ))], M := none, obl := gap.isSome = true }
 | _, _ => none

theorem gap.ok : SpecOk Tryz.prog 22 gap.S := by
 intro l M out h
 unfold gap.S at h
 split at h
 ·cases h
  refine callOk_of fun ho => ?_
  have hs := ho
  obtain ⟨r, hr⟩ := Option.isSome_iff_exists.1 hs
  simp only [hr, Option.getD_some]
  have q := Lg (M := M) [] (gap.can r hr) (by simp) rfl (by intro k i hk; simp at hk)
  exact callOk_conv q trivial (by simp) (by simp [frameOut, gap.out]) (by simp [frameOut, gap.out])
 ·cases h

@[simp] def gaK.out (_x0 : Bool) (_x1 : Int) (r : Int) : Out := { av := .lit (.int .u8 r), M := none }
theorem gaK.can (x0 : Bool) (x1 : Int) (r : Int) (hr : gaK x0 x1 = some r) : CallOk Tryz.prog 40 [.lit (.bool x0), .lit (.int .u8 x1)] [] (gaK.out x0 x1 r) := by
 unfold gaK at hr
 have hΓ := gamL_nil (P := Tryz.prog)
 refine Le Tryz.tyOk Tryz.func40 rfl (by kernel_rfl) rfl rfl (by simp) ?_
 intro _ _ _
 refine AWp.then ⟨[⟨0, none, .b x0⟩, ⟨1, none, .lit (.int .u8 x1)⟩], []⟩ (AWp.reg Tryz.tyOk hΓ [] [] (by kernel_rfl) rfl (by simp)) ?_
 refine AWp.seq ?_
 refine AWp.then ⟨[⟨5, none, .b x0⟩, ⟨1, none, .lit (.int .u8 x1)⟩], []⟩ (AWp.reg Tryz.tyOk hΓ [5] [0] (by kernel_rfl) rfl (by simp)) ?_
 refine AWp.cond (b := x0) (by simp) (fun h2 => ?_) (fun h2 => ?_)
 ·have hr := Li h2 hr
  refine AWp.thenA [⟨4, none, .lit (.int .u8 x1)⟩] (AWp.reg Tryz.tyOk hΓ [4] [5, 1] (by kernel_rfl) rfl (by simp [h2])) ?_
  refine AWp.ret ?_
  obtain rfl := La hr
  refine Lf ?_
  simp
 ·have hr := Lj h2 hr
  refine AWp.skip ?_
  refine AWp.then ⟨[⟨4, none, .lit (.int .u8 0)⟩], []⟩ (AWp.reg Tryz.tyOk hΓ [4] [5, 1] (by kernel_rfl) rfl (by simp [h2])) ?_
  refine AWp.ret ?_
  obtain rfl := La hr
  refine Lf ?_
  simp

@[simp] noncomputable def gaK.S : Sp
 | [.lit (.bool x0), .lit (.int .u8 x1)], _ => some { av := .lit (.int .u8 ((gaK x0 x1).getD dflt)), M := none, obl := (gaK x0 x1).isSome = true }
 | _, _ => none

theorem gaK.ok : SpecOk Tryz.prog 40 gaK.S := by
 intro l M out h
 unfold gaK.S at h
 split at h
 ·rename_i x0 x1
  cases h
  refine callOk_of fun ho => ?_
  have hs := ho
  obtain ⟨r, hr⟩ := Option.isSome_iff_exists.1 hs
  simp only [hr, Option.getD_some]
  have q := Lg (M := M) [] (gaK.can x0 x1 r hr) (by simp) rfl (by intro k i hk; simp at hk)
  exact callOk_conv q trivial (by simp) (by simp [frameOut, gaK.out]) (by simp [frameOut, gaK.out])
 ·cases h

@[simp] def gaz.out (_x0 : Te) (r : Bool) : Out := { av := .lit (.bool r), M := none }
theorem gaz.can (x0 : Te) (r : Bool) (hr : gaz x0 = some r) : CallOk Tryz.prog 41 [.agg [.lit (.bool x0.fI), .lit (.bool x0.fz), .lit (.int .i64 x0.fD), .lit (.int .i64 x0.fB), .lit (.bool x0.fR), .lit (.int .i64 x0.fG), .lit (.int .i64 x0.fH), .lit (.bool x0.fQ), .lit (.int .i64 x0.fJ)]] [] (gaz.out x0 r) := by
 unfold gaz at hr
 have hΓ := gamL_nil (P := Tryz.prog)
 refine Le Tryz.tyOk Tryz.func41 rfl (by kernel_rfl) rfl rfl (by simp) ?_
 intro _ _ _
 refine AWp.then ⟨[⟨1, none, .ptr 0 0⟩], [.blk x0.enc]⟩ (AWp.reg Tryz.tyOk hΓ [1] [0] (by kernel_rfl) rfl (by simp)) ?_
 refine AWp.thenA [⟨2, none, .b (pickB (pickB (pickB (leqI 0 x0.fB) true (leqI 0 x0.fG)) true (leqI 0 x0.fH)) true (leqI 0 x0.fJ))⟩] (AWp.reg Tryz.tyOk hΓ [2] [1] (by kernel_rfl) rfl (by simp)) ?_
 refine AWp.ret ?_
 obtain rfl := La hr
 refine Lf ?_
 simp

@[simp] noncomputable def gaz.S : Sp
 | [.agg e0], _ => some { av := .lit (.bool ((gaz (Te.dec e0)).getD dflt)), M := none, obl := WeakL e0 (Te.enc (Te.dec e0)) ∧ (gaz (Te.dec e0)).isSome = true }
 | _, _ => none

theorem gaz.ok : SpecOk Tryz.prog 41 gaz.S := by
 intro l M out h
 unfold gaz.S at h
 split at h
 ·rename_i e0
  cases h
  refine callOk_of fun ho => ?_
  obtain ⟨ox0, hs⟩ := ho
  generalize (Te.dec e0) = x0 at *
  obtain ⟨r, hr⟩ := Option.isSome_iff_exists.1 hs
  simp only [hr, Option.getD_some]
  have q := Lg (M := M) [] (gaz.can x0 r hr) (by simp) rfl (by intro k i hk; simp at hk)
  exact callOk_conv q trivial (by simp; exact ox0) (by simp [frameOut, gaz.out]) (by simp [frameOut, gaz.out])
 ·cases h

@[simp] def gai.out (_x0 : Te) (r : ByteArray) : Out := { av := .lit (.string r), M := none }
def gai.fin (x0 : Te) (r : ByteArray) (σ : St) : Prop := finK (gai.out x0 r) [] σ.M (resA Tryz.ty σ.A σ.M Tryz.f23.results.toList)
theorem gai.can (x0 : Te) (r : ByteArray) (hr : gai x0 = some r) : CallOk Tryz.prog 23 [.agg [.lit (.bool x0.fI), .lit (.bool x0.fz), .lit (.int .i64 x0.fD), .lit (.int .i64 x0.fB), .lit (.bool x0.fR), .lit (.int .i64 x0.fG), .lit (.int .i64 x0.fH), .lit (.bool x0.fQ), .lit (.int .i64 x0.fJ)]] [] (gai.out x0 r) := by
 unfold gai at hr
 have hΓ := (gamL_cons gaQ.Text.ok (gamL_cons gaQ.U8.ok (gamL_cons gaz.ok (gamL_cons gaK.ok (gamL_nil)))) : GamOk Tryz.prog _)
 refine Le Tryz.tyOk Tryz.func23 rfl (by kernel_rfl) rfl rfl (by simp) ?_
 intro _ _ _
 refine AWp.then ⟨[⟨1, none, .ptr 0 0⟩], [.blk x0.enc]⟩ (AWp.reg Tryz.tyOk hΓ [1] [0] (by kernel_rfl) rfl (by simp)) ?_
 refine AWp.then ⟨[⟨3, none, .ptr 1 0⟩, ⟨1, none, .ptr 0 0⟩], [.blk x0.enc, .opq (wrO 134 5 [])]⟩ (gaQ.alloc rfl rfl rfl rfl (by kernel_rfl) rfl (dead := []) (by simp [exS])) ?_
 obtain ⟨r1, h23, hr⟩ := Lb hr
 obtain ⟨r2, h24, hr⟩ := Lb hr
 obtain ⟨r3, h25, hr⟩ := Lb hr
 obtain ⟨r4, h26, hr⟩ := Lb hr
 obtain ⟨h27, hr⟩ := Lc hr
 refine AWp.then ⟨[⟨3, none, .ptr 1 0⟩, ⟨1, none, .ptr 0 0⟩], [.blk x0.enc, .opq (wrO 134 5 (appL [] [(bitsOp .or .u8 (bitsOp .or .u8 (bitsOp .or .u8 r2 r3) r4) (cvtI .u8 (bitsOp .and .i64 x0.fD 7)))]))]⟩ (AWp.regD Tryz.mixed Tryz.tyOk hΓ [] [] [] [(false, []), (false, []), (false, []), (false, []), (false, []), (false, []), (false, []), (false, []), (false, []), (false, []), (false, []), (false, []), (false, []), (false, []), (false, []), (false, []), (false, []), (true, [])] (by kernel_rfl) rfl (by simp [h23, h24, h25, h26, h27])) ?_
 refine AWp.seq ?_
 refine AWp.then ⟨[⟨24, none, .b (notB r1)⟩, ⟨3, none, .ptr 1 0⟩, ⟨1, none, .ptr 0 0⟩], [.blk x0.enc, .opq (wrO 134 5 (appL [] [(bitsOp .or .u8 (bitsOp .or .u8 (bitsOp .or .u8 r2 r3) r4) (cvtI .u8 (bitsOp .and .i64 x0.fD 7)))]))]⟩ (AWp.reg Tryz.tyOk hΓ [24] [] (by kernel_rfl) rfl (by simp [h23])) ?_
 refine AWp.cond (b := (notB r1)) (by simp) (fun h28 => ?_) (fun h28 => ?_)
 ·have hr := Li h28 hr
  obtain ⟨h29, hr⟩ := Lc hr
  refine AWp.then ⟨[⟨2, none, .s (strOfNums (appL [] [(bitsOp .or .u8 (bitsOp .or .u8 (bitsOp .or .u8 r2 r3) r4) (cvtI .u8 (bitsOp .and .i64 x0.fD 7)))]))⟩], [.blk x0.enc, .opq wrX]⟩ (AWp.reg Tryz.tyOk hΓ [2] [24, 3, 1] (by kernel_rfl) rfl (by simp [h28, h29])) ?_
  refine AWp.ret ?_
  obtain rfl := La hr
  refine Lf ?_
  simp
 ·have hr := Lj h28 hr
  refine AWp.skip ?_
  obtain ⟨r5, h30, hr⟩ := Lb hr
  obtain ⟨r6, h31, hr⟩ := Lb hr
  obtain ⟨r7, h32, hr⟩ := Lb hr
  obtain ⟨r8, h33, hr⟩ := Lb hr
  obtain ⟨h34, hr⟩ := Lc hr
  refine AWp.then ⟨[⟨3, none, .ptr 1 0⟩, ⟨1, none, .ptr 0 0⟩], [.blk x0.enc, .opq (wrO 134 5 (appL (appL [] [(bitsOp .or .u8 (bitsOp .or .u8 (bitsOp .or .u8 r2 r3) r4) (cvtI .u8 (bitsOp .and .i64 x0.fD 7)))]) [(bitsOp .or .u8 (bitsOp .or .u8 (bitsOp .or .u8 r5 r6) r7) r8)]))]⟩ (AWp.regD Tryz.mixed Tryz.tyOk hΓ [] [24] [] [(false, []), (false, []), (false, []), (false, []), (false, []), (false, []), (false, []), (false, []), (false, []), (false, []), (false, []), (false, []), (false, []), (false, []), (false, []), (false, []), (false, []), (false, []), (false, []), (false, []), (true, [])] (by kernel_rfl) rfl (by simp [h28, h30, h31, h32, h33, h34])) ?_
  refine AWp.meetF (fun (v1 : List Int) (γ1 : Unit) => ⟨[⟨3, none, .ptr 1 0⟩, ⟨1, none, .ptr 0 0⟩], [.blk x0.enc, .opq (wrO 134 5 v1)]⟩) (gai.fin x0) hr (fun f hr => ?_) (fun v1 γ1 hr => ?_) (fun _ h => h)
  ·refine AWp.block ?_
   refine AWp.then ⟨[⟨47, none, .b (pickB (leqI 0 x0.fB) x0.fR false)⟩, ⟨3, none, .ptr 1 0⟩, ⟨1, none, .ptr 0 0⟩], [.blk x0.enc, .opq (wrO 134 5 (appL (appL [] [(bitsOp .or .u8 (bitsOp .or .u8 (bitsOp .or .u8 r2 r3) r4) (cvtI .u8 (bitsOp .and .i64 x0.fD 7)))]) [(bitsOp .or .u8 (bitsOp .or .u8 (bitsOp .or .u8 r5 r6) r7) r8)]))]⟩ (AWp.reg Tryz.tyOk hΓ [47] [] (by kernel_rfl) rfl (by simp)) ?_
   refine AWp.cond (b := (pickB (leqI 0 x0.fB) x0.fR false)) (by simp) (fun h35 => ?_) (fun h35 => ?_)
   ·have hr := Li h35 hr
    cases hr
   ·have hr := Lj h35 hr
    refine AWp.thenA [⟨61, none, .b (leqI 0 x0.fB)⟩, ⟨3, none, .ptr 1 0⟩, ⟨1, none, .ptr 0 0⟩] (AWp.reg Tryz.tyOk hΓ [61] [47] (by kernel_rfl) rfl (by simp [h35])) ?_
    refine AWp.cond (b := (leqI 0 x0.fB)) (by simp) (fun h36 => ?_) (fun h36 => ?_)
    ·have hr := Li h36 hr
     obtain ⟨h37, hr⟩ := Lc hr
     refine AWp.last ⟨[⟨3, none, .ptr 1 0⟩, ⟨1, none, .ptr 0 0⟩], [.blk x0.enc, .opq (wrO 134 5 (appL (appL (appL [] [(bitsOp .or .u8 (bitsOp .or .u8 (bitsOp .or .u8 r2 r3) r4) (cvtI .u8 (bitsOp .and .i64 x0.fD 7)))]) [(bitsOp .or .u8 (bitsOp .or .u8 (bitsOp .or .u8 r5 r6) r7) r8)]) [(cvtI .u8 (bitsOp .and .i64 x0.fB 127))]))]⟩ (AWp.reg Tryz.tyOk hΓ [] [61] (by kernel_rfl) rfl (by simp [h36, h37])) ?_
     obtain rfl := La hr
     exact Ll () 2 (by first | (simp; done) | simp [h23, h24, h25, h26, h27, h28, h30, h31, h32, h33, h34, h35, h36, h37])
    ·have hr := Lj h36 hr
     refine AWp.skip ?_
     obtain rfl := La hr
     exact Ll () 2 (by first | (simp; done) | simp [h23, h24, h25, h26, h27, h28, h30, h31, h32, h33, h34, h35, h36])
  ·refine AWp.meetF (fun (v2 : List Int) (γ2 : Unit) => ⟨[⟨3, none, .ptr 1 0⟩, ⟨1, none, .ptr 0 0⟩], [.blk x0.enc, .opq (wrO 134 5 v2)]⟩) (gai.fin x0) hr (fun f hr => ?_) (fun v2 γ2 hr => ?_) (fun _ h => h)
   ·refine AWp.then ⟨[⟨73, none, .b (leqI 0 x0.fG)⟩, ⟨3, none, .ptr 1 0⟩, ⟨1, none, .ptr 0 0⟩], [.blk x0.enc, .opq (wrO 134 5 v1)]⟩ (AWp.reg Tryz.tyOk hΓ [73] [] (by kernel_rfl) rfl (by simp)) ?_
    refine AWp.cond (b := (leqI 0 x0.fG)) (by simp) (fun h38 => ?_) (fun h38 => ?_)
    ·have hr := Li h38 hr
     obtain ⟨h39, hr⟩ := Lc hr
     refine AWp.last ⟨[⟨3, none, .ptr 1 0⟩, ⟨1, none, .ptr 0 0⟩], [.blk x0.enc, .opq (wrO 134 5 (appL v1 [(cvtI .u8 x0.fG)]))]⟩ (AWp.reg Tryz.tyOk hΓ [] [73] (by kernel_rfl) rfl (by simp [h38, h39])) ?_
     obtain rfl := La hr
     exact Ll () 2 (by first | (simp; done) | simp [h23, h24, h25, h26, h27, h28, h30, h31, h32, h33, h34, h38, h39])
    ·have hr := Lj h38 hr
     refine AWp.skip ?_
     obtain rfl := La hr
     exact Ll () 2 (by first | (simp; done) | simp [h23, h24, h25, h26, h27, h28, h30, h31, h32, h33, h34, h38])
   ·refine AWp.meetF (fun (v3 : List Int) (γ3 : Unit) => ⟨[⟨3, none, .ptr 1 0⟩], [.blk x0.enc, .opq (wrO 134 5 v3)]⟩) (gai.fin x0) hr (fun f hr => ?_) (fun v3 γ3 hr => ?_) (fun _ h => h)
    ·refine AWp.then ⟨[⟨86, none, .b (pickB (leqI 0 x0.fH) true (leqI 0 x0.fJ))⟩, ⟨3, none, .ptr 1 0⟩, ⟨1, none, .ptr 0 0⟩], [.blk x0.enc, .opq (wrO 134 5 v2)]⟩ (AWp.reg Tryz.tyOk hΓ [86] [] (by kernel_rfl) rfl (by simp)) ?_
     refine AWp.cond (b := (pickB (leqI 0 x0.fH) true (leqI 0 x0.fJ))) (by simp) (fun h40 => ?_) (fun h40 => ?_)
     ·have hr := Li h40 hr
      obtain ⟨h41, hr⟩ := Lc hr
      obtain ⟨r9, h42, hr⟩ := Lb hr
      obtain ⟨h43, hr⟩ := Lc hr
      refine AWp.last ⟨[⟨3, none, .ptr 1 0⟩], [.blk x0.enc, .opq (wrO 134 5 (appL v2 [(bitsOp .or .u8 (bitsOp .or .u8 (shlI .u8 (cvtI .u8 (maxI x0.fH 0)) 6) r9) (cvtI .u8 (maxI x0.fJ 0)))]))]⟩ (AWp.regD Tryz.mixed Tryz.tyOk hΓ [] [86, 1] [] [(false, []), (false, []), (false, []), (false, []), (false, []), (false, []), (false, []), (false, []), (false, []), (false, []), (false, []), (false, []), (false, []), (false, []), (false, []), (true, [])] (by kernel_rfl) rfl (by simp [h40, h41, h42, h43])) ?_
      obtain rfl := La hr
      exact Ll () 2 (by first | (simp; done) | simp [h23, h24, h25, h26, h27, h28, h30, h31, h32, h33, h34, h40, h41, h42, h43])
     ·have hr := Lj h40 hr
      refine AWp.skip ?_
      obtain rfl := La hr
      exact Ll () 2 (by first | (simp; done) | simp [h23, h24, h25, h26, h27, h28, h30, h31, h32, h33, h34, h40])
    ·obtain ⟨h44, hr⟩ := Lc hr
     refine AWp.then ⟨[⟨2, none, .s (strOfNums v3)⟩], [.blk x0.enc, .opq wrX]⟩ (AWp.reg Tryz.tyOk hΓ [2] [3] (by kernel_rfl) rfl (by simp [h44])) ?_
     refine AWp.ret ?_
     obtain rfl := La hr
     refine Lf ?_
     simp

@[simp] noncomputable def gai.S : Sp
 | [.agg e0], _ => some { av := .lit (.string ((gai (Te.dec e0)).getD dflt)), M := none, obl := WeakL e0 (Te.enc (Te.dec e0)) ∧ (gai (Te.dec e0)).isSome = true }
 | _, _ => none

theorem gai.ok : SpecOk Tryz.prog 23 gai.S := by
 intro l M out h
 unfold gai.S at h
 split at h
 ·rename_i e0
  cases h
  refine callOk_of fun ho => ?_
  obtain ⟨ox0, hs⟩ := ho
  generalize (Te.dec e0) = x0 at *
  obtain ⟨r, hr⟩ := Option.isSome_iff_exists.1 hs
  simp only [hr, Option.getD_some]
  have q := Lg (M := M) [] (gai.can x0 r hr) (by simp) rfl (by intro k i hk; simp at hk)
  exact callOk_conv q trivial (by simp; exact ox0) (by simp [frameOut, gai.out]) (by simp [frameOut, gai.out])
 ·cases h

@[simp] def gX.out (_x0 : Te) (_x1 : Tq) (r : Te × Tq) : Out := { av := .tup [], M := some [.blk [.lit (.bool r.1.fI), .lit (.bool r.1.fz), .lit (.int .i64 r.1.fD), .lit (.int .i64 r.1.fB), .lit (.bool r.1.fR), .lit (.int .i64 r.1.fG), .lit (.int .i64 r.1.fH), .lit (.bool r.1.fQ), .lit (.int .i64 r.1.fJ)], .blk [.lit (.string r.2.fS), .lit (.int .i64 r.2.fE)]] }
def gX.fin (x0 : Te) (x1 : Tq) (r : Te × Tq) (σ : St) : Prop := finK (gX.out x0 x1 r) [.blk x0.enc, .blk x1.enc] σ.M (resA Tryz.ty σ.A σ.M Tryz.f91.results.toList)
theorem gX.can (x0 : Te) (x1 : Tq) (r : Te × Tq) (hr : gX x0 x1 = some r) : CallOk Tryz.prog 91 [.ptr 0 0, .ptr 1 0] [.blk x0.enc, .blk x1.enc] (gX.out x0 x1 r) := by
 unfold gX at hr
 have hΓ := (gamL_cons gH.ok (gamL_nil) : GamOk Tryz.prog _)
 refine Le Tryz.tyOk Tryz.func91 rfl (by kernel_rfl) rfl rfl (by simp) ?_
 intro _ _ _
 obtain ⟨r1, h5, hr⟩ := Lb hr
 refine AWp.then ⟨[⟨4, none, .n (cvtI .i64 r1.1)⟩, ⟨0, none, .ptr 0 0⟩, ⟨1, none, .ptr 1 0⟩], [.blk x0.enc, .blk r1.2.enc]⟩ (AWp.reg Tryz.tyOk hΓ [4] [] (by kernel_rfl) rfl (by simp [h5])) ?_
 refine AWp.meetF (fun (v1 : Int × Tq × Te) (γ1 : Unit) => ⟨[⟨4, none, .n v1.1⟩, ⟨0, none, .ptr 0 0⟩], [.blk v1.2.2.enc, .blk v1.2.1.enc]⟩) (gX.fin x0 x1) hr (fun f hr => ?_) (fun v1 γ1 hr => ?_) (fun _ h => h)
 ·refine AWp.then ⟨[⟨4, none, .n (cvtI .i64 r1.1)⟩, ⟨0, none, .ptr 0 0⟩, ⟨1, none, .ptr 1 0⟩], [.blk [.b x0.fI, .b x0.fz, .n x0.fD, .n x0.fB, .b (ltI 127 (cvtI .i64 r1.1)), .n x0.fG, .n x0.fH, .b x0.fQ, .n x0.fJ], .blk r1.2.enc]⟩ (AWp.reg Tryz.tyOk hΓ [] [] (by kernel_rfl) rfl (by simp)) ?_
  refine AWp.thenA [⟨16, none, .b (ltI 127 (cvtI .i64 r1.1))⟩, ⟨4, none, .n (cvtI .i64 r1.1)⟩, ⟨0, none, .ptr 0 0⟩, ⟨1, none, .ptr 1 0⟩] (AWp.reg Tryz.tyOk hΓ [16] [] (by kernel_rfl) rfl (by simp)) ?_
  refine AWp.cond (b := (ltI 127 (cvtI .i64 r1.1))) (by simp) (fun h6 => ?_) (fun h6 => ?_)
  ·have hr := Li h6 hr
   obtain ⟨h7, hr⟩ := Lc hr
   obtain ⟨r2, h8, hr⟩ := Lb hr
   refine AWp.last ⟨[⟨4, none, .n (bitsOp .or .i64 (shlI .i64 (bitsOp .and .i64 (cvtI .i64 r1.1) 127) 8) (cvtI .i64 r2.1))⟩, ⟨0, none, .ptr 0 0⟩], [.blk [.b x0.fI, .b x0.fz, .n x0.fD, .n x0.fB, .b true, .n x0.fG, .n x0.fH, .b x0.fQ, .n x0.fJ], .blk r2.2.enc]⟩ (AWp.reg Tryz.tyOk hΓ [4] [16, 1] (by kernel_rfl) rfl (by simp [h6, h7, h8])) ?_
   obtain rfl := La hr
   exact Ll () 2 (by first | (simp; done) | simp [h5, h6, h7, h8])
  ·have hr := Lj h6 hr
   refine AWp.skip ?_
   obtain rfl := La hr
   exact Ll () 2 (by first | (simp; done) | simp [h6])
 ·refine AWp.last ⟨[], [.blk [.b v1.2.2.fI, .b v1.2.2.fz, .n v1.2.2.fD, .n v1.1, .b v1.2.2.fR, .n v1.2.2.fG, .n v1.2.2.fH, .b v1.2.2.fQ, .n v1.2.2.fJ], .blk v1.2.1.enc]⟩ (AWp.reg Tryz.tyOk hΓ [] [4, 0] (by kernel_rfl) rfl (by simp)) ?_
  obtain rfl := La hr
  refine fin_norm ?_
  simp

@[simp] noncomputable def gX.S : Sp
 | [.ptr i0 0, .ptr i1 0], M => match M[i0]? with
  | some (.blk c0) => (match M[i1]? with
  | some (.blk c1) => (fun (y0 : Te) => (fun (r : Te × Tq) => some { av := .tup [], M := some ((M.set i0 (.blk [.lit (.bool (r.1.fI)), .lit (.bool (r.1.fz)), .lit (.int .i64 (r.1.fD)), .lit (.int .i64 (r.1.fB)), .lit (.bool (r.1.fR)), .lit (.int .i64 (r.1.fG)), .lit (.int .i64 (r.1.fH)), .lit (.bool (r.1.fQ)), .lit (.int .i64 (r.1.fJ))])).set i1 (.blk [.lit (.string (r.2.fS)), .lit (.int .i64 (r.2.fE))])), obl := c0 = Te.enc y0 ∧ c1 = Tq.enc (Tq.dec c1) ∧ (gX y0 (Tq.dec c1)).isSome = true ∧ i0 ≠ i1 }) ((gX y0 (Tq.dec c1)).getD dflt)) (Te.dec c0)
  | _ => none)
  | _ => none
 | _, _ => none

theorem gX.ok : SpecOk Tryz.prog 91 gX.S := by
 intro l M out h
 unfold gX.S at h
 split at h
 ·rename_i i0 i1
  split at h
  case h_2 => cases h
  rename_i c0 hM0
  split at h
  case h_2 => cases h
  rename_i c1 hM1
  try dsimp only at h
  cases h
  refine callOk_of fun ho => ?_
  obtain ⟨oc0, oc1, hs, hne0⟩ := ho
  generalize (Te.dec c0) = y0 at *
  generalize (Tq.dec c1) = y1 at *
  subst oc0
  subst oc1
  obtain ⟨r, hr⟩ := Option.isSome_iff_exists.1 hs
  simp only [hr, Option.getD_some]
  have q := Lg (M := M) [i0, i1] (gX.can y0 y1 r hr) (by simp [hne0]) rfl (by intro k i hk; (cases k with | zero => (simp at hk; subst hk; simp [hM0]) | succ k => ((cases k with | zero => (simp at hk; subst hk; simp [hM1]) | succ k => (simp at hk)))))
  exact callOk_conv q trivial (by simp [into]) (by simp [frameOut, gX.out]) (by simp [frameOut, gX.out])
 ·cases h

@[simp] def gas.out (_x0 : ByteArray) (r : Te × ByteArray × Int) : Out := { av := .tup [.agg [.lit (.bool r.1.fI), .lit (.bool r.1.fz), .lit (.int .i64 r.1.fD), .lit (.int .i64 r.1.fB), .lit (.bool r.1.fR), .lit (.int .i64 r.1.fG), .lit (.int .i64 r.1.fH), .lit (.bool r.1.fQ), .lit (.int .i64 r.1.fJ)], .lit (.string r.2.1), .lit (.int .i64 r.2.2)], M := none }
def gas.fin (x0 : ByteArray) (r : Te × ByteArray × Int) (σ : St) : Prop := finK (gas.out x0 r) [] σ.M (resA Tryz.ty σ.A σ.M Tryz.f72.results.toList)
theorem gas.can (x0 : ByteArray) (r : Te × ByteArray × Int) (hr : gas x0 = some r) : CallOk Tryz.prog 72 [.lit (.string x0)] [] (gas.out x0 r) := by
 unfold gas at hr
 have hΓ := (gamL_cons gak.ok (gamL_cons gM.ok (gamL_cons gH.ok (gamL_cons gX.ok (gamL_cons gaJ.ok (gamL_cons gap.ok (gamL_nil)))))) : GamOk Tryz.prog _)
 refine Le Tryz.tyOk Tryz.func72 rfl (by kernel_rfl) rfl rfl (by simp) ?_
 intro _ _ _
 refine AWp.then ⟨[⟨2, none, .ptr 0 0⟩, ⟨0, none, .s x0⟩], [.blk [.b false, .b false, .n 0, .n 0, .b false, .n 0, .n 0, .b false, .n 0]]⟩ (AWp.reg Tryz.tyOk hΓ [2] [] (by kernel_rfl) rfl (by simp)) ?_
 obtain ⟨r1, h18, hr⟩ := Lb hr
 refine AWp.then ⟨[⟨5, none, .ptr 1 0⟩, ⟨2, none, .ptr 0 0⟩], [.blk [.b false, .b false, .n 0, .n 0, .b false, .n 0, .n 0, .b false, .n 0], .blk r1.enc]⟩ (AWp.reg Tryz.tyOk hΓ [5] [0] (by kernel_rfl) rfl (by simp [h18])) ?_
 obtain ⟨r2, h19, hr⟩ := Lb hr
 refine AWp.then ⟨[⟨6, none, .lit (.int .u8 r2.1)⟩, ⟨5, none, .ptr 1 0⟩, ⟨2, none, .ptr 0 0⟩], [.blk [.b false, .b false, .n 0, .n 0, .b false, .n 0, .n 0, .b false, .n 0], .blk r2.2.enc]⟩ (AWp.reg Tryz.tyOk hΓ [6] [] (by kernel_rfl) rfl (by simp [h19])) ?_
 obtain ⟨r3, h20, hr⟩ := Lb hr
 refine AWp.then ⟨[⟨7, none, .ptr 2 0⟩, ⟨6, none, .lit (.int .u8 r2.1)⟩, ⟨5, none, .ptr 1 0⟩, ⟨2, none, .ptr 0 0⟩], [.blk [.b false, .b false, .n 0, .n 0, .b false, .n 0, .n 0, .b false, .n 0], .blk r2.2.enc, .blk r3.enc]⟩ (AWp.reg Tryz.tyOk hΓ [7] [] (by kernel_rfl) rfl (by simp [h20])) ?_
 refine AWp.then ⟨[⟨7, none, .ptr 2 0⟩, ⟨6, none, .lit (.int .u8 r2.1)⟩, ⟨5, none, .ptr 1 0⟩, ⟨2, none, .ptr 0 0⟩], [.blk [.b false, .b false, .n 0, .n 0, .b false, .n 0, .n 0, .b false, .n 0], .blk r2.2.enc, .blk [.b (ltI 0 (bitsOp .and .u8 r2.1 32)), .b (ltI 0 (bitsOp .and .u8 r2.1 16)), .n (cvtI .i64 (bitsOp .and .u8 r2.1 7)), .n r3.fB, .b r3.fR, .n r3.fG, .n r3.fH, .b r3.fQ, .n r3.fJ]]⟩ (AWp.reg Tryz.tyOk hΓ [] [] (by kernel_rfl) rfl (by simp)) ?_
 refine AWp.thenA [⟨8, none, .lit (.int .u8 0)⟩, ⟨7, none, .ptr 2 0⟩, ⟨6, none, .lit (.int .u8 r2.1)⟩, ⟨5, none, .ptr 1 0⟩, ⟨2, none, .ptr 0 0⟩] (AWp.reg Tryz.tyOk hΓ [8] [] (by kernel_rfl) rfl (by simp)) ?_
 refine AWp.meetF (fun (v1 : Int × Tq) (γ1 : Unit) => ⟨[⟨8, none, .lit (.int .u8 v1.1)⟩, ⟨7, none, .ptr 2 0⟩, ⟨5, none, .ptr 1 0⟩, ⟨2, none, .ptr 0 0⟩], [.blk [.b false, .b false, .n 0, .n 0, .b false, .n 0, .n 0, .b false, .n 0], .blk v1.2.enc, .blk [.b (ltI 0 (bitsOp .and .u8 r2.1 32)), .b (ltI 0 (bitsOp .and .u8 r2.1 16)), .n (cvtI .i64 (bitsOp .and .u8 r2.1 7)), .n r3.fB, .b r3.fR, .n r3.fG, .n r3.fH, .b r3.fQ, .n r3.fJ]]⟩) (gas.fin x0) hr (fun f hr => ?_) (fun v1 γ1 hr => ?_) (fun _ h => h)
 ·refine AWp.then ⟨[⟨29, none, .b (ltI 127 r2.1)⟩, ⟨8, none, .lit (.int .u8 0)⟩, ⟨7, none, .ptr 2 0⟩, ⟨5, none, .ptr 1 0⟩, ⟨2, none, .ptr 0 0⟩], [.blk [.b false, .b false, .n 0, .n 0, .b false, .n 0, .n 0, .b false, .n 0], .blk r2.2.enc, .blk [.b (ltI 0 (bitsOp .and .u8 r2.1 32)), .b (ltI 0 (bitsOp .and .u8 r2.1 16)), .n (cvtI .i64 (bitsOp .and .u8 r2.1 7)), .n r3.fB, .b r3.fR, .n r3.fG, .n r3.fH, .b r3.fQ, .n r3.fJ]]⟩ (AWp.reg Tryz.tyOk hΓ [29] [6] (by kernel_rfl) rfl (by simp)) ?_
  refine AWp.cond (b := (ltI 127 r2.1)) (by simp) (fun h21 => ?_) (fun h21 => ?_)
  ·have hr := Li h21 hr
   obtain ⟨r4, h22, hr⟩ := Lb hr
   refine AWp.last ⟨[⟨8, none, .lit (.int .u8 r4.1)⟩, ⟨7, none, .ptr 2 0⟩, ⟨5, none, .ptr 1 0⟩, ⟨2, none, .ptr 0 0⟩], [.blk [.b false, .b false, .n 0, .n 0, .b false, .n 0, .n 0, .b false, .n 0], .blk r4.2.enc, .blk [.b (ltI 0 (bitsOp .and .u8 r2.1 32)), .b (ltI 0 (bitsOp .and .u8 r2.1 16)), .n (cvtI .i64 (bitsOp .and .u8 r2.1 7)), .n r3.fB, .b r3.fR, .n r3.fG, .n r3.fH, .b r3.fQ, .n r3.fJ]]⟩ (AWp.reg Tryz.tyOk hΓ [8] [29] (by kernel_rfl) rfl (by simp [h21, h22])) ?_
   obtain rfl := La hr
   exact Ll () 3 (by first | (simp; done) | simp [h18, h19, h20, h21, h22])
  ·have hr := Lj h21 hr
   refine AWp.skip ?_
   obtain rfl := La hr
   exact Ll () 3 (by first | (simp; done) | simp [h18, h19, h20, h21])
 ·refine AWp.meetF (fun (v2 : Tq × Te) (γ2 : Unit) => ⟨[⟨8, none, .lit (.int .u8 v1.1)⟩, ⟨7, none, .ptr 2 0⟩, ⟨5, none, .ptr 1 0⟩, ⟨2, none, .ptr 0 0⟩], [.blk [.b false, .b false, .n 0, .n 0, .b false, .n 0, .n 0, .b false, .n 0], .blk v2.1.enc, .blk v2.2.enc]⟩) (gas.fin x0) hr (fun f hr => ?_) (fun v2 γ2 hr => ?_) (fun _ h => h)
  ·refine AWp.then ⟨[⟨34, none, .b (ltI 0 (bitsOp .and .u8 v1.1 128))⟩, ⟨8, none, .lit (.int .u8 v1.1)⟩, ⟨7, none, .ptr 2 0⟩, ⟨5, none, .ptr 1 0⟩, ⟨2, none, .ptr 0 0⟩], [.blk [.b false, .b false, .n 0, .n 0, .b false, .n 0, .n 0, .b false, .n 0], .blk v1.2.enc, .blk [.b (ltI 0 (bitsOp .and .u8 r2.1 32)), .b (ltI 0 (bitsOp .and .u8 r2.1 16)), .n (cvtI .i64 (bitsOp .and .u8 r2.1 7)), .n r3.fB, .b r3.fR, .n r3.fG, .n r3.fH, .b r3.fQ, .n r3.fJ]]⟩ (AWp.reg Tryz.tyOk hΓ [34] [] (by kernel_rfl) rfl (by simp)) ?_
   refine AWp.cond (b := (ltI 0 (bitsOp .and .u8 v1.1 128))) (by simp) (fun h23 => ?_) (fun h23 => ?_)
   ·have hr := Li h23 hr
    obtain ⟨r5, h24, hr⟩ := Lb hr
    refine AWp.last ⟨[⟨8, none, .lit (.int .u8 v1.1)⟩, ⟨7, none, .ptr 2 0⟩, ⟨5, none, .ptr 1 0⟩, ⟨2, none, .ptr 0 0⟩], [.blk [.b false, .b false, .n 0, .n 0, .b false, .n 0, .n 0, .b false, .n 0], .blk r5.2.enc, .blk r5.1.enc]⟩ (AWp.reg Tryz.tyOk hΓ [] [34] (by kernel_rfl) rfl (by simp [h23, h24])) ?_
    obtain rfl := La hr
    exact Ll () 3 (by first | (simp; done) | simp [h18, h19, h20, h23, h24])
   ·have hr := Lj h23 hr
    refine AWp.skip ?_
    obtain rfl := La hr
    exact Ll () 3 (by first | (simp; done) | simp [h18, h19, h20, h23])
  ·refine AWp.meetF (fun (v3 : Tq × Te) (γ3 : Unit) => ⟨[⟨8, none, .lit (.int .u8 v1.1)⟩, ⟨7, none, .ptr 2 0⟩, ⟨5, none, .ptr 1 0⟩, ⟨2, none, .ptr 0 0⟩], [.blk [.b false, .b false, .n 0, .n 0, .b false, .n 0, .n 0, .b false, .n 0], .blk v3.1.enc, .blk v3.2.enc]⟩) (gas.fin x0) hr (fun f hr => ?_) (fun v3 γ3 hr => ?_) (fun _ h => h)
   ·refine AWp.then ⟨[⟨39, none, .b (ltI 0 (bitsOp .and .u8 v1.1 64))⟩, ⟨8, none, .lit (.int .u8 v1.1)⟩, ⟨7, none, .ptr 2 0⟩, ⟨5, none, .ptr 1 0⟩, ⟨2, none, .ptr 0 0⟩], [.blk [.b false, .b false, .n 0, .n 0, .b false, .n 0, .n 0, .b false, .n 0], .blk v2.1.enc, .blk v2.2.enc]⟩ (AWp.reg Tryz.tyOk hΓ [39] [] (by kernel_rfl) rfl (by simp)) ?_
    refine AWp.cond (b := (ltI 0 (bitsOp .and .u8 v1.1 64))) (by simp) (fun h25 => ?_) (fun h25 => ?_)
    ·have hr := Li h25 hr
     obtain ⟨r6, h26, hr⟩ := Lb hr
     refine AWp.last ⟨[⟨8, none, .lit (.int .u8 v1.1)⟩, ⟨7, none, .ptr 2 0⟩, ⟨5, none, .ptr 1 0⟩, ⟨2, none, .ptr 0 0⟩], [.blk [.b false, .b false, .n 0, .n 0, .b false, .n 0, .n 0, .b false, .n 0], .blk r6.2.enc, .blk [.b v2.2.fI, .b v2.2.fz, .n v2.2.fD, .n v2.2.fB, .b v2.2.fR, .n (cvtI .i64 r6.1), .n v2.2.fH, .b v2.2.fQ, .n v2.2.fJ]]⟩ (AWp.reg Tryz.tyOk hΓ [] [39] (by kernel_rfl) rfl (by simp [h25, h26])) ?_
     obtain rfl := La hr
     exact Ll () 3 (by first | (simp; done) | simp [h18, h19, h20, h25, h26])
    ·have hr := Lj h25 hr
     refine AWp.skip ?_
     obtain rfl := La hr
     exact Ll () 3 (by first | (simp; done) | simp [h18, h19, h20, h25])
   ·refine AWp.meetF (fun (v4 : Tq × Te) (γ4 : Unit) => ⟨[⟨7, none, .ptr 2 0⟩, ⟨5, none, .ptr 1 0⟩, ⟨2, none, .ptr 0 0⟩], [.blk [.b false, .b false, .n 0, .n 0, .b false, .n 0, .n 0, .b false, .n 0], .blk v4.1.enc, .blk v4.2.enc]⟩) (gas.fin x0) hr (fun f hr => ?_) (fun v4 γ4 hr => ?_) (fun _ h => h)
    ·refine AWp.then ⟨[⟨46, none, .b (ltI 0 (bitsOp .and .u8 v1.1 48))⟩, ⟨8, none, .lit (.int .u8 v1.1)⟩, ⟨7, none, .ptr 2 0⟩, ⟨5, none, .ptr 1 0⟩, ⟨2, none, .ptr 0 0⟩], [.blk [.b false, .b false, .n 0, .n 0, .b false, .n 0, .n 0, .b false, .n 0], .blk v3.1.enc, .blk v3.2.enc]⟩ (AWp.reg Tryz.tyOk hΓ [46] [] (by kernel_rfl) rfl (by simp)) ?_
     refine AWp.cond (b := (ltI 0 (bitsOp .and .u8 v1.1 48))) (by simp) (fun h27 => ?_) (fun h27 => ?_)
     ·have hr := Li h27 hr
      obtain ⟨r7, h28, hr⟩ := Lb hr
      refine AWp.then ⟨[⟨9, none, .lit (.int .u8 r7.1)⟩, ⟨8, none, .lit (.int .u8 v1.1)⟩, ⟨7, none, .ptr 2 0⟩, ⟨5, none, .ptr 1 0⟩, ⟨2, none, .ptr 0 0⟩], [.blk [.b false, .b false, .n 0, .n 0, .b false, .n 0, .n 0, .b false, .n 0], .blk r7.2.enc, .blk v3.2.enc]⟩ (AWp.reg Tryz.tyOk hΓ [9] [46] (by kernel_rfl) rfl (by simp [h27, h28])) ?_
      refine AWp.meetF (fun (v5 : Te) (γ5 : Unit) => ⟨[⟨9, none, .lit (.int .u8 r7.1)⟩, ⟨8, none, .lit (.int .u8 v1.1)⟩, ⟨7, none, .ptr 2 0⟩, ⟨5, none, .ptr 1 0⟩, ⟨2, none, .ptr 0 0⟩], [.blk [.b false, .b false, .n 0, .n 0, .b false, .n 0, .n 0, .b false, .n 0], .blk r7.2.enc, .blk v5.enc]⟩) (QRm (gas.fin x0)) hr (fun f hr => ?_) (fun v5 γ5 hr => ?_) (fun _ h => QRm_ret h)
      ·refine AWp.then ⟨[⟨51, none, .b (ltI 0 (bitsOp .and .u8 v1.1 32))⟩, ⟨9, none, .lit (.int .u8 r7.1)⟩, ⟨8, none, .lit (.int .u8 v1.1)⟩, ⟨7, none, .ptr 2 0⟩, ⟨5, none, .ptr 1 0⟩, ⟨2, none, .ptr 0 0⟩], [.blk [.b false, .b false, .n 0, .n 0, .b false, .n 0, .n 0, .b false, .n 0], .blk r7.2.enc, .blk v3.2.enc]⟩ (AWp.reg Tryz.tyOk hΓ [51] [] (by kernel_rfl) rfl (by simp)) ?_
       refine AWp.cond (b := (ltI 0 (bitsOp .and .u8 v1.1 32))) (by simp) (fun h29 => ?_) (fun h29 => ?_)
       ·have hr := Li h29 hr
        obtain ⟨h30, hr⟩ := Lc hr
        refine AWp.last ⟨[⟨9, none, .lit (.int .u8 r7.1)⟩, ⟨8, none, .lit (.int .u8 v1.1)⟩, ⟨7, none, .ptr 2 0⟩, ⟨5, none, .ptr 1 0⟩, ⟨2, none, .ptr 0 0⟩], [.blk [.b false, .b false, .n 0, .n 0, .b false, .n 0, .n 0, .b false, .n 0], .blk r7.2.enc, .blk [.b v3.2.fI, .b v3.2.fz, .n v3.2.fD, .n v3.2.fB, .b v3.2.fR, .n v3.2.fG, .n (cvtI .i64 (shrI .u8 r7.1 6)), .b (ltI 0 (bitsOp .and .u8 r7.1 32)), .n v3.2.fJ]]⟩ (AWp.reg Tryz.tyOk hΓ [] [51] (by kernel_rfl) rfl (by simp [h29, h30])) ?_
        obtain rfl := La hr
        exact Ll () 3 (by first | (simp; done) | simp [h18, h19, h20, h27, h28, h29, h30])
       ·have hr := Lj h29 hr
        refine AWp.skip ?_
        obtain rfl := La hr
        exact Ll () 3 (by first | (simp; done) | simp [h18, h19, h20, h27, h28, h29])
      ·refine AWp.then ⟨[⟨62, none, .b (ltI 0 (bitsOp .and .u8 v1.1 16))⟩, ⟨9, none, .lit (.int .u8 r7.1)⟩, ⟨7, none, .ptr 2 0⟩, ⟨5, none, .ptr 1 0⟩, ⟨2, none, .ptr 0 0⟩], [.blk [.b false, .b false, .n 0, .n 0, .b false, .n 0, .n 0, .b false, .n 0], .blk r7.2.enc, .blk v5.enc]⟩ (AWp.reg Tryz.tyOk hΓ [62] [8] (by kernel_rfl) rfl (by simp)) ?_
       refine AWp.cond (b := (ltI 0 (bitsOp .and .u8 v1.1 16))) (by simp) (fun h31 => ?_) (fun h31 => ?_)
       ·have hr := Li h31 hr
        refine AWp.last ⟨[⟨7, none, .ptr 2 0⟩, ⟨5, none, .ptr 1 0⟩, ⟨2, none, .ptr 0 0⟩], [.blk [.b false, .b false, .n 0, .n 0, .b false, .n 0, .n 0, .b false, .n 0], .blk r7.2.enc, .blk [.b v5.fI, .b v5.fz, .n v5.fD, .n v5.fB, .b v5.fR, .n v5.fG, .n v5.fH, .b v5.fQ, .n (cvtI .i64 (bitsOp .and .u8 r7.1 31))]]⟩ (AWp.reg Tryz.tyOk hΓ [] [62, 9] (by kernel_rfl) rfl (by simp [h31])) ?_
        obtain rfl := La hr
        exact Ll () 3 (by first | (simp; done) | simp [h18, h19, h20, h27, h28, h31])
       ·have hr := Lj h31 hr
        refine AWp.skip ?_
        obtain rfl := La hr
        exact Ll () 3 (by first | (simp; done) | simp [h18, h19, h20, h27, h28, h31])
     ·have hr := Lj h27 hr
      refine AWp.skip ?_
      obtain rfl := La hr
      exact Ll () 3 (by first | (simp; done) | simp [h18, h19, h20, h27])
    ·refine AWp.seq ?_
     obtain ⟨r8, h32, hr⟩ := Lb hr
     refine AWp.then ⟨[⟨10, none, .n r8⟩, ⟨7, none, .ptr 2 0⟩, ⟨5, none, .ptr 1 0⟩, ⟨2, none, .ptr 0 0⟩], [.blk [.b false, .b false, .n 0, .n 0, .b false, .n 0, .n 0, .b false, .n 0], .blk v4.1.enc, .blk v4.2.enc]⟩ (AWp.reg Tryz.tyOk hΓ [10] [] (by kernel_rfl) rfl (by simp [h32])) ?_
     refine AWp.thenA [⟨70, none, .b (neI r8 0)⟩, ⟨10, none, .n r8⟩, ⟨7, none, .ptr 2 0⟩, ⟨5, none, .ptr 1 0⟩, ⟨2, none, .ptr 0 0⟩] (AWp.reg Tryz.tyOk hΓ [70] [] (by kernel_rfl) rfl (by simp)) ?_
     refine AWp.cond (b := (neI r8 0)) (by simp) (fun h33 => ?_) (fun h33 => ?_)
     ·have hr := Li h33 hr
      refine AWp.thenA [⟨3, none, .s ⟨#[]⟩⟩, ⟨4, none, .n r8⟩, ⟨2, none, .ptr 0 0⟩] (AWp.reg Tryz.tyOk hΓ [3, 4] [70, 10, 7, 5] (by kernel_rfl) rfl (by simp [h33])) ?_
      refine AWp.ret ?_
      obtain rfl := La hr
      refine Lf ?_
      simp
     ·have hr := Lj h33 hr
      refine AWp.skip ?_
      obtain ⟨r9, h34, hr⟩ := Lb hr
      refine AWp.then ⟨[⟨3, none, .s r9.1⟩, ⟨4, none, .n 0⟩, ⟨2, none, .ptr 0 0⟩], [.blk v4.2.enc, .blk r9.2.enc, .blk v4.2.enc]⟩ (AWp.regD Tryz.mixed Tryz.tyOk hΓ [3, 4] [70, 10, 7, 5] [(0, 3)] [(false, []), (false, []), (true, []), (true, []), (false, []), (false, [])] (by kernel_rfl) rfl (by simp [h33, h34])) ?_
      refine AWp.ret ?_
      obtain rfl := La hr
      refine Lf ?_
      simp

@[simp] noncomputable def gas.S : Sp
 | [.lit (.string x0)], _ => (fun (r : Te × ByteArray × Int) => some { av := .tup [.agg [.lit (.bool (r.1.fI)), .lit (.bool (r.1.fz)), .lit (.int .i64 (r.1.fD)), .lit (.int .i64 (r.1.fB)), .lit (.bool (r.1.fR)), .lit (.int .i64 (r.1.fG)), .lit (.int .i64 (r.1.fH)), .lit (.bool (r.1.fQ)), .lit (.int .i64 (r.1.fJ))], .lit (.string (r.2.1)), .lit (.int .i64 (r.2.2))], M := none, obl := (gas x0).isSome = true }) ((gas x0).getD dflt)
 | _, _ => none

theorem gas.ok : SpecOk Tryz.prog 72 gas.S := by
 intro l M out h
 unfold gas.S at h
 split at h
 ·rename_i x0
  try dsimp only at h
  cases h
  refine callOk_of fun ho => ?_
  have hs := ho
  obtain ⟨r, hr⟩ := Option.isSome_iff_exists.1 hs
  simp only [hr, Option.getD_some]
  have q := Lg (M := M) [] (gas.can x0 r hr) (by simp) rfl (by intro k i hk; simp at hk)
  exact callOk_conv q trivial (by simp) (by simp [frameOut, gas.out]) (by simp [frameOut, gas.out])
 ·cases h

@[simp] def gav.out (_x0 : Te) (_x1 : ByteArray) (r : Bool) : Out := { av := .lit (.bool r), M := none }
theorem gav.can (x0 : Te) (x1 : ByteArray) (r : Bool) (hr : gav x0 x1 = some r) : CallOk Tryz.prog 73 [.agg [.lit (.bool x0.fI), .lit (.bool x0.fz), .lit (.int .i64 x0.fD), .lit (.int .i64 x0.fB), .lit (.bool x0.fR), .lit (.int .i64 x0.fG), .lit (.int .i64 x0.fH), .lit (.bool x0.fQ), .lit (.int .i64 x0.fJ)], .lit (.string x1)] [] (gav.out x0 x1 r) := by
 unfold gav at hr
 have hΓ := gamL_nil (P := Tryz.prog)
 refine Le Tryz.tyOk Tryz.func73 rfl (by kernel_rfl) rfl rfl (by simp) ?_
 intro _ _ _
 refine AWp.then ⟨[⟨2, none, .ptr 0 0⟩, ⟨1, none, .s x1⟩], [.blk x0.enc]⟩ (AWp.reg Tryz.tyOk hΓ [2] [0] (by kernel_rfl) rfl (by simp)) ?_
 obtain ⟨h2, hr⟩ := Lc hr
 refine AWp.thenA [⟨4, none, .b (pickB (pickB (pickB x0.fz (eqI x0.fD 0) false) (neS x1 ⟨#[]⟩) false) (eqI (bitsOp .and .u8 (idxS x1 0) 1) 0) false)⟩] (AWp.reg Tryz.tyOk hΓ [4] [2, 1] (by kernel_rfl) rfl (by simp [h2])) ?_
 refine AWp.ret ?_
 obtain rfl := La hr
 refine Lf ?_
 simp

@[simp] noncomputable def gav.S : Sp
 | [.agg e0, .lit (.string x1)], _ => some { av := .lit (.bool ((gav (Te.dec e0) x1).getD dflt)), M := none, obl := WeakL e0 (Te.enc (Te.dec e0)) ∧ (gav (Te.dec e0) x1).isSome = true }
 | _, _ => none

theorem gav.ok : SpecOk Tryz.prog 73 gav.S := by
 intro l M out h
 unfold gav.S at h
 split at h
 ·rename_i e0 x1
  cases h
  refine callOk_of fun ho => ?_
  obtain ⟨ox0, hs⟩ := ho
  generalize (Te.dec e0) = x0 at *
  obtain ⟨r, hr⟩ := Option.isSome_iff_exists.1 hs
  simp only [hr, Option.getD_some]
  have q := Lg (M := M) [] (gav.can x0 x1 r hr) (by simp) rfl (by intro k i hk; simp at hk)
  exact callOk_conv q trivial (by simp; exact ox0) (by simp [frameOut, gav.out]) (by simp [frameOut, gav.out])
 ·cases h
end Go.Proofs

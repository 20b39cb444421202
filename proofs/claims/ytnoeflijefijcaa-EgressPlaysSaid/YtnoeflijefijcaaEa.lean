/- That these functions compute what their plain functions do. No condition. -/
import Derived.Test.YtnoeflijefijcaaM03
import Derived.Test.YtnoeflijefijcaaTy
import Derived.Test.YtnoeflijefijcaaDc
import Derived.Test.YtnoeflijefijcaaQu
set_option maxRecDepth 100000
set_option maxHeartbeats 4000000
namespace Go.Proofs
open Go.Ab
@[simp] def gK.out (_x0 : Tl) (r : Int) : Out := { av := .lit (.int .i64 r), M := none }
theorem gK.can (x0 : Tl) (r : Int) (hr : gK x0 = some r) : CallOk Try.prog 10 [.agg [.lit (.int .i64 x0.fh), .lit (.int .i64 x0.fo), .lit (.int .i64 x0.fu), .lit (.int .i64 x0.fb), .lit (.int .i64 x0.fp)]] [] (gK.out x0 r) := by
 unfold gK at hr
 have hΓ := gamL_nil (P := Try.prog)
 refine Lg Try.tyOk Try.func10 rfl (by kernel_rfl) rfl rfl (by simp) ?_
 intro _ _ _
 refine Try.tg hΓ [1] [0] (by kernel_rfl) rfl (by simp; exact rr) ?_
 refine AWp.seq ?_
 refine AWp.block ?_
 refine Try.tg hΓ [3] [] (by kernel_rfl) rfl (by simp; exact rr) ?_
 refine AWp.cond (b := (pickB (pickB (pickB (pickB (pickB (ltI x0.fh 1) true (ltI 1024 x0.fh)) true (ltI x0.fo 1)) true (ltI 16777216 x0.fo)) true (ltI x0.fu 1)) true (ltI 1099511627776 x0.fu))) (by simp) (fun h3 => ?_) (fun h3 => ?_)
 ·have hr := Li h3 hr
  refine Try.tg hΓ [2] [3, 1] (by kernel_rfl) rfl (by simp [h3]; exact rr) ?_
  refine AWp.ret ?_
  obtain rfl := La hr
  refine Lf ?_
  simp
 ·have hr := Lj h3 hr
  refine Try.tg hΓ [32] [3, 1] (by kernel_rfl) rfl (by simp [h3]; exact rr) ?_
  refine AWp.cond (b := (pickB (pickB (pickB (ltI x0.fb 1) true (ltI 16777216 x0.fb)) true (ltI x0.fp 1)) true (ltI 1024 x0.fp))) (by simp) (fun h4 => ?_) (fun h4 => ?_)
  ·have hr := Li h4 hr
   refine Try.tg hΓ [2] [32] (by kernel_rfl) rfl (by simp [h4]; exact rr) ?_
   refine AWp.ret ?_
   obtain rfl := La hr
   refine Lf ?_
   simp
  ·have hr := Lj h4 hr
   refine AWp.skip ?_
   refine Try.tg hΓ [2] [32] (by kernel_rfl) rfl (by simp [h4]; exact rr) ?_
   refine AWp.ret ?_
   obtain rfl := La hr
   refine Lf ?_
   simp

@[simp] noncomputable def gK.S : Sp
 | [.agg e0], _ => some { av := .lit (.int .i64 ((gK (Tl.dec e0)).getD dflt)), M := none, obl := WeakL e0 (Tl.enc (Tl.dec e0)) ∧ (gK (Tl.dec e0)).isSome = true }
 | _, _ => none

theorem gK.ok : SpecOk Try.prog 10 gK.S := by
 intro l M out h
 unfold gK.S at h
 split at h
 ·rename_i e0
  cases h
  refine callOk_of fun ho => ?_
  obtain ⟨ox0, hs⟩ := ho
  generalize (Tl.dec e0) = x0 at *
  obtain ⟨r, hr⟩ := Option.isSome_iff_exists.1 hs
  simp only [hr, Option.getD_some]
  have q := Lk (M := M) [] (gK.can x0 r hr) (by simp) rfl (by intro k i hk; simp at hk)
  exact callOk_conv q trivial (by simp; exact ox0) (by simp [frameOut, gK.out]) (by simp [frameOut, gK.out])
 ·cases h

@[simp] def gar.out (_x0 : Tl) (r : Option Tg × Int) : Out := { av := .tup [(optC r.1 (.lit (.pointer none)) fun _ => .ptr 5 0), .lit (.int .i64 r.2)], M := some (optC r.1 [] fun m0 => [.dead, .mapo (encM (kI .i64) (kI .i64) m0.fa.fj), .mapo (encM (kI .i64) (kI .i64) m0.fa.fk), .blk [.lit (.int .i64 m0.fa.fb), .mp 1, .mp 2, .lit (.int .i64 m0.fa.fAt), .lit (.bool m0.fa.ff)], .own (Td.own .i64 m0.fg none) none, .blk [.lit (.int .i64 m0.fe.fh), .lit (.int .i64 m0.fe.fo), .lit (.int .i64 m0.fe.fu), .lit (.int .i64 m0.fe.fb), .lit (.int .i64 m0.fe.fp), .mp 4, .ptr 3 0, .lit (.int .i64 m0.fc), .lit (.int .i64 m0.fd)]]) }
theorem gar.can (x0 : Tl) (r : Option Tg × Int) (hr : gar x0 = some r) : CallOk Try.prog 8 [.agg [.lit (.int .i64 x0.fh), .lit (.int .i64 x0.fo), .lit (.int .i64 x0.fu), .lit (.int .i64 x0.fb), .lit (.int .i64 x0.fp)]] [] (gar.out x0 r) := by
 unfold gar at hr
 have hΓ := (gamL_cons gK.ok (gamL_cons gaC.ok (gamL_nil)) : GamOk Try.prog _)
 refine Lg Try.tyOk Try.func8 rfl (by kernel_rfl) rfl rfl (by simp) ?_
 intro _ _ _
 refine Try.tg hΓ [1] [0] (by kernel_rfl) rfl (by simp; exact rr) ?_
 refine AWp.seq ?_
 obtain ⟨r1, h7, hr⟩ := Lc hr
 refine Try.tg hΓ [4] [] (by kernel_rfl) rfl (by simp [h7]; exact rr) ?_
 refine Try.tg hΓ [10] [] (by kernel_rfl) rfl (by simp; exact rr) ?_
 refine AWp.cond (b := (neI r1 0)) (by simp) (fun h8 => ?_) (fun h8 => ?_)
 ·have hr := Li h8 hr
  refine Try.tg hΓ [2, 3] [10, 4, 1] (by kernel_rfl) rfl (by simp [h8]; exact rr) ?_
  refine AWp.ret ?_
  obtain rfl := La hr
  refine Lf ?_
  simp
 ·have hr := Lj h8 hr
  refine AWp.skip ?_
  obtain ⟨r2, h9, hr⟩ := Lc hr
  cases h10 : r2.1 with
  | none =>
   have hr := optC_n h10 hr
   refine Try.tg hΓ [5, 6] [10, 4] (by kernel_rfl) rfl (by simp [h8, h9, h10]; exact rr) ?_
   refine AWp.seq ?_
   refine Try.tg hΓ [19] [] (by kernel_rfl) rfl (by simp; exact rr) ?_
   refine AWp.cond (b := (neI r2.2 0)) (by simp) (fun h11 => ?_) (fun h11 => ?_)
   ·have hr := Li h11 hr
    refine Try.tg hΓ [2, 3] [19, 5, 6, 1] (by kernel_rfl) rfl (by simp [h11]; exact rr) ?_
    refine AWp.ret ?_
    obtain rfl := La hr
    refine Lf ?_
    simp
   ·have hr := Lj h11 hr
    refine AWp.skip ?_
    refine Try.tg hΓ [2, 3] [19, 5, 6, 1] (by kernel_rfl) rfl (by simp [h11]; exact rr) ?_
    refine AWp.see (See.emptyM (key := intKey .i64) (kE := Value.int .i64) (fl := Td.fl) (N := Td.mem) (V := Td.val) (M' := [.blk x0.enc, .own (Td.own .i64 [] none) none, .blk (x0.enc ++ [.mp 1, .lit (.pointer none), .n 0, .n 0])]) 1 (by rfl) (by rfl)) ?_
    cases hr
  | some o1 =>
   have hr := optC_s h10 hr
   refine Try.tg hΓ [5, 6] [10, 4] (by kernel_rfl) rfl (by simp [h8, h9, h10]; exact rr) ?_
   refine AWp.seq ?_
   refine Try.tg hΓ [19] [] (by kernel_rfl) rfl (by simp; exact rr) ?_
   refine AWp.cond (b := (neI r2.2 0)) (by simp) (fun h12 => ?_) (fun h12 => ?_)
   ·have hr := Li h12 hr
    refine Try.tg hΓ [2, 3] [19, 5, 6, 1] (by kernel_rfl) rfl (by simp [h12]; exact rr) ?_
    refine AWp.ret ?_
    obtain rfl := La hr
    refine Lf ?_
    simp
   ·have hr := Lj h12 hr
    refine AWp.skip ?_
    refine Try.tg hΓ [2, 3] [19, 5, 6, 1] (by kernel_rfl) rfl (by simp [h12]; exact rr) ?_
    refine AWp.see (See.emptyM (key := intKey .i64) (kE := Value.int .i64) (fl := Td.fl) (N := Td.mem) (V := Td.val) (M' := [.blk x0.enc, .mapo (encM (kI .i64) (kI .i64) o1.fj), .mapo (encM (kI .i64) (kI .i64) o1.fk), .blk [.n o1.fb, .mp 1, .mp 2, .n o1.fAt, .b o1.ff], .own (Td.own .i64 [] none) none, .blk (x0.enc ++ [.mp 4, .ptr 3 0, .n 0, .n 0])]) 4 (by rfl) (by rfl)) ?_
    refine AWp.ret ?_
    obtain rfl := La hr
    refine Lf ?_
    simp

@[simp] noncomputable def gar.S : Sp
 | [.agg e0], M => some { av := .tup [(optC (((gar (Tl.dec e0)).getD dflt).1) (.lit (.pointer none)) fun _ => .ptr (M.length + 5) 0), .lit (.int .i64 (((gar (Tl.dec e0)).getD dflt).2))], M := some (optC (((gar (Tl.dec e0)).getD dflt).1) M fun m0 => M ++ [.dead, .mapo (encM (kI .i64) (kI .i64) m0.fa.fj), .mapo (encM (kI .i64) (kI .i64) m0.fa.fk), .blk [.lit (.int .i64 m0.fa.fb), .mp (M.length + 1), .mp (M.length + 2), .lit (.int .i64 m0.fa.fAt), .lit (.bool m0.fa.ff)], .own (Td.own .i64 m0.fg none) none, .blk [.lit (.int .i64 m0.fe.fh), .lit (.int .i64 m0.fe.fo), .lit (.int .i64 m0.fe.fu), .lit (.int .i64 m0.fe.fb), .lit (.int .i64 m0.fe.fp), .mp (M.length + 4), .ptr (M.length + 3) 0, .lit (.int .i64 m0.fc), .lit (.int .i64 m0.fd)]]), obl := WeakL e0 (Tl.enc (Tl.dec e0)) ∧ (gar (Tl.dec e0)).isSome = true }
 | _, _ => none

theorem gar.ok : SpecOk Try.prog 8 gar.S := by
 intro l M out h
 unfold gar.S at h
 split at h
 ·rename_i e0
  cases h
  refine callOk_of fun ho => ?_
  obtain ⟨ox0, hs⟩ := ho
  generalize (Tl.dec e0) = x0 at *
  obtain ⟨r, hr⟩ := Option.isSome_iff_exists.1 hs
  simp only [hr, Option.getD_some]
  have q := Lk (M := M) [] (gar.can x0 r hr) (by simp) rfl (by intro k i hk; simp at hk)
  cases hc : r.1 with
  | none => exact callOk_conv q trivial (by simp; exact ox0) (by simp [hc, frameOut, gar.out]) (by simp [hc, frameOut, gar.out])
  | some m0 => exact callOk_conv q trivial (by simp; exact ox0) (by simp [hc, frameOut, gar.out, into]) (by simp [hc, frameOut, gar.out, into])
 ·cases h

@[simp] def gaa.out (_x0 : Int) (_x1 : List Ta) (r : List Tc) : Out := { av := .sl (r.map Tc.enc) .no, M := none }
def gaa.fin (x0 : Int) (x1 : List Ta) (r : List Tc) (σ : St) : Prop := finK (gaa.out x0 x1 r) [] σ.M (resA Try.ty σ.A σ.M Try.f37.results.toList)
theorem gaa.can (x0 : Int) (x1 : List Ta) (r : List Tc) (hr : gaa x0 x1 = some r) : CallOk Try.prog 37 [.lit (.int .i64 x0), .sl (x1.map Ta.enc) .no] [] (gaa.out x0 x1 r) := by
 unfold gaa at hr
 have hΓ := gamL_nil (P := Try.prog)
 refine Lg Try.tyOk Try.func37 rfl (by kernel_rfl) rfl rfl (by simp) ?_
 intro _ _ _
 refine Try.tg hΓ [] [] (by kernel_rfl) rfl (by simp; exact rr) ?_
 refine Try.tg hΓ [5] [] (by kernel_rfl) rfl (by simp; exact rr) ?_
 refine AWp.seq ?_
 refine Try.tg hΓ [8, 9, 10] [1] (by kernel_rfl) rfl (by simp; exact rr) ?_
 refine AWp.equip 5 5 (els := []) (by simp) (by simp) ?_
 refine AWp.loopE (fun (s1 : Int × List Tc) (γ1 : Nat) => ⟨[⟨8, none, .sl (x1.map Ta.enc) .no⟩, ⟨9, none, .n (lenL x1)⟩, ⟨10, none, .n s1.1⟩, ⟨5, none, .sl (s1.2.map Tc.enc) (.own 0 (γ1) 5)⟩, ⟨0, none, .n x0⟩], [.room (γ1)]⟩) (fun (v1 : List Tc) (γ1a : Nat) => ⟨[⟨5, none, .sl (v1.map Tc.enc) (.own 0 (γ1a) 5)⟩], [.room (γ1a)]⟩) (gaa.fin x0 x1) hr 0 1 (by simp) (fun s1 f γ1 hr => ?_) (fun v1 γ1a σ1 m1 hr hc => ?_) (fun _ h => h)
 ·unfold gaa.loop1 at hr
  refine Try.tg hΓ [11] [] (by kernel_rfl) rfl (by simp; exact rr) ?_
  refine AWp.seq ?_
  refine AWp.cond (b := (ltI s1.1 (lenL x1))) (by simp) (fun h4 => ?_) (fun h4 => ?_)
  ·have hr := Li h4 hr
   refine AWp.skip ?_
   refine AWp.seq ?_
   refine AWp.block ?_
   obtain ⟨h5, hr⟩ := Lb hr
   refine Try.tg hΓ [7] [11] (by kernel_rfl) rfl (by simp [h4, h5]; exact rr) ?_
   obtain ⟨h6, hr⟩ := Lb hr
   refine AWp.lst (AWp.reg Try.tyOk hΓ [5] [7] (by kernel_rfl) rfl (by simp [h6]; exact rr)) ?_
   refine AWp.lst (AWp.reg Try.tyOk hΓ [10] [] (by kernel_rfl) rfl (by simp; exact rr)) ?_
   obtain rfl := La hr
   exact Lm (γ1 + 1) 1 (by first | (simp; done) | simp [h4, h5, h6])
  ·have hr := Lj h4 hr
   refine AWp.exit ?_
   obtain rfl := La hr
   exact Lp (γ1) 1 (by first | (simp; done) | simp [h4])
 ·refine AWp.conv hc ?_
  refine Try.tg hΓ [4] [5] (by kernel_rfl) rfl (by simp; exact rr) ?_
  refine AWp.ret ?_
  obtain rfl := La hr
  refine Lf ?_
  simp

@[simp] noncomputable def gaa.S : Sp
 | [.lit (.int .i64 x0), .sl e1 _], _ => some { av := .sl (((gaa x0 (e1.map Ta.dec)).getD dflt).map Tc.enc) .no, M := none, obl := e1 = (e1.map Ta.dec).map Ta.enc ∧ (gaa x0 (e1.map Ta.dec)).isSome = true }
 | _, _ => none

theorem gaa.ok : SpecOk Try.prog 37 gaa.S := by
 intro l M out h
 unfold gaa.S at h
 split at h
 ·rename_i x0 e1 k1
  cases h
  refine callOk_of fun ho => ?_
  obtain ⟨ox1, hs⟩ := ho
  generalize (e1.map Ta.dec) = x1 at *
  subst ox1
  obtain ⟨r, hr⟩ := Option.isSome_iff_exists.1 hs
  simp only [hr, Option.getD_some]
  have q := Lk (M := M) [] (gaa.can x0 x1 r hr) (by simp) rfl (by intro k i hk; simp at hk)
  exact callOk_conv q trivial (by simp) (by simp [frameOut, gaa.out]) (by simp [frameOut, gaa.out])
 ·cases h

@[simp] def gN.out (_x0 : Tg) (_x1 : Int) (_x2 : Bool) (_x3 : Int) (r : Int × Tg) : Out := { av := .lit (.int .i64 r.1), M := some [.blk [.lit (.int .i64 r.2.fe.fh), .lit (.int .i64 r.2.fe.fo), .lit (.int .i64 r.2.fe.fu), .lit (.int .i64 r.2.fe.fb), .lit (.int .i64 r.2.fe.fp), .mp 1, .ptr 2 0, .lit (.int .i64 r.2.fc), .lit (.int .i64 r.2.fd)], .own (Td.own .i64 r.2.fg none) none, .blk [.lit (.int .i64 r.2.fa.fb), .mp 3, .mp 4, .lit (.int .i64 r.2.fa.fAt), .lit (.bool r.2.fa.ff)], .mapo (encM (kI .i64) (kI .i64) r.2.fa.fj), .mapo (encM (kI .i64) (kI .i64) r.2.fa.fk)] }
def gN.fin (x0 : Tg) (x1 : Int) (x2 : Bool) (x3 : Int) (r : Int × Tg) (σ : St) : Prop := finK (gN.out x0 x1 x2 x3 r) [.blk (x0.fe.enc ++ [.mp 1, .ptr 2 0, .lit (.int .i64 x0.fc), .lit (.int .i64 x0.fd)]), .own (Td.own .i64 x0.fg none) none, .blk [.lit (.int .i64 x0.fa.fb), .mp 3, .mp 4, .lit (.int .i64 x0.fa.fAt), .lit (.bool x0.fa.ff)], .mapo (encM (kI .i64) (kI .i64) x0.fa.fj), .mapo (encM (kI .i64) (kI .i64) x0.fa.fk)] σ.M (resA Try.ty σ.A σ.M Try.f11.results.toList)
theorem gN.can (x0 : Tg) (x1 : Int) (x2 : Bool) (x3 : Int) (r : Int × Tg) (hr : gN x0 x1 x2 x3 = some r) : CallOk Try.prog 11 [.ptr 0 0, .lit (.int .i64 x1), .lit (.bool x2), .lit (.int .i64 x3)] [.blk (x0.fe.enc ++ [.mp 1, .ptr 2 0, .lit (.int .i64 x0.fc), .lit (.int .i64 x0.fd)]), .own (Td.own .i64 x0.fg none) none, .blk [.lit (.int .i64 x0.fa.fb), .mp 3, .mp 4, .lit (.int .i64 x0.fa.fAt), .lit (.bool x0.fa.ff)], .mapo (encM (kI .i64) (kI .i64) x0.fa.fj), .mapo (encM (kI .i64) (kI .i64) x0.fa.fk)] (gN.out x0 x1 x2 x3 r) := by
 unfold gN at hr
 have hΓ := (gamL_cons gam.ok (gamL_cons gaA.ok (gamL_nil)) : GamOk Try.prog _)
 refine Lg Try.tyOk Try.func11 rfl (by kernel_rfl) rfl rfl (by simp) ?_
 intro _ _ _
 refine Try.tg hΓ [] [] (by kernel_rfl) rfl (by simp; exact rr) ?_
 refine AWp.seq ?_
 cases h9 : findM eqI x1 x0.fg with
 | none =>
  have hr := optC_n h9 hr
  refine AWp.see (See.missI (M' := [.blk (x0.fe.enc ++ [.mp 1, .ptr 2 0, .n x0.fc, .n x0.fd]), .own (Td.own .i64 x0.fg none) (some (.int .i64 x1, none)), .blk [.n x0.fa.fb, .mp 3, .mp 4, .n x0.fa.fAt, .b x0.fa.ff], .mapo (encM (kI .i64) (kI .i64) x0.fa.fj), .mapo (encM (kI .i64) (kI .i64) x0.fa.fk)]) 1 x1 x0.fg h9 (by rfl) (by rfl)) ?_
  refine Try.tg hΓ [10] [] (by kernel_rfl) rfl (by simp; exact rr) ?_
  refine Try.tg hΓ [23] [10] (by kernel_rfl) rfl (by simp; exact rr) ?_
  refine AWp.cond (b := false) (by simp) (fun hb => ?_) (fun hb => ?_)
  ·cases hb
  ·refine AWp.skip ?_
   refine AWp.meetF (fun (v1 : Int × Int × Bool × (List (Int × Int)) × (List (Int × Int)) × Bool) (γ1 : Unit) => ⟨[⟨0, none, .ptr 0 0⟩, ⟨1, none, .n x1⟩, ⟨2, none, .b v1.2.2.2.2.2⟩], [.blk (x0.fe.enc ++ [.mp 1, .ptr 2 0, .n x0.fc, .n x0.fd]), .own (Td.own .i64 x0.fg none) (some (.int .i64 x1, none)), .blk [.n v1.1, .mp 3, .mp 4, .n v1.2.1, .b v1.2.2.1], .mapo (encM (kI .i64) (kI .i64) v1.2.2.2.1), .mapo (encM (kI .i64) (kI .i64) v1.2.2.2.2.1), .blk [.lit (.pointer none), .b false]]⟩) (gN.fin x0 x1 x2 x3) hr (fun f hr => ?_) (fun v1 γ1 hr => ?_) (fun _ h => h)
   ·refine Try.tg hΓ [24] [23] (by kernel_rfl) rfl (by simp; exact rr) ?_
    refine AWp.cond (b := x2) (by simp) (fun h10 => ?_) (fun h10 => ?_)
    ·have hr := Li h10 hr
     obtain ⟨r1, h11, hr⟩ := Lc hr
     refine Try.tg hΓ [11] [24, 3] (by kernel_rfl) rfl (by simp [h10, h11]; exact rr) ?_
     refine Try.tg hΓ [33] [] (by kernel_rfl) rfl (by simp; exact rr) ?_
     refine AWp.cond (b := (neI r1.1 0)) (by simp) (fun h12 => ?_) (fun h12 => ?_)
     ·have hr := Li h12 hr
      refine Try.tg hΓ [8] [33, 11, 0, 1, 2] (by kernel_rfl) rfl (by simp [h12]; exact rr) ?_
      refine AWp.see (See.shutM (M' := [.blk (x0.fe.enc ++ [.mp 1, .ptr 2 0, .n x0.fc, .n x0.fd]), .own (Td.own .i64 x0.fg none) none, .blk [.n r1.2.fb, .mp 3, .mp 4, .n r1.2.fAt, .b r1.2.ff], .mapo (encM (kI .i64) (kI .i64) r1.2.fj), .mapo (encM (kI .i64) (kI .i64) r1.2.fk), .blk [.lit (.pointer none), .b false]]) 1 (by rfl) (by rfl)) ?_
      refine AWp.ret ?_
      obtain rfl := La hr
      refine meet_ret ?_
      refine Lf ?_
      simp
     ·have hr := Lj h12 hr
      refine AWp.skip ?_
      obtain rfl := La hr
      exact Ls () 6 (by first | (simp; done) | simp [h10, h11, h12])
    ·have hr := Lj h10 hr
     refine AWp.skip ?_
     obtain rfl := La hr
     exact Ls () 6 (by first | (simp; done) | simp [h10])
   ·obtain ⟨r2, h13, hr⟩ := Lc hr
    cases h14 : r2.1 with
    | none =>
     have hr := optC_n h14 hr
     refine Try.td hΓ [12, 13] [] [] [(false, []), (false, []), (false, []), (false, []), (false, []), (false, []), (false, []), (false, []), (false, []), (false, []), (true, []), (false, []), (false, []), (false, []), (false, []), (false, [])] (by kernel_rfl) rfl (by simp [h13, h14]; exact rr) ?_
     refine AWp.seq ?_
     refine Try.tg hΓ [50] [] (by kernel_rfl) rfl (by simp; exact rr) ?_
     refine AWp.cond (b := (neI r2.2 0)) (by simp) (fun h15 => ?_) (fun h15 => ?_)
     ·have hr := Li h15 hr
      refine Try.tg hΓ [8] [50, 12, 13, 0, 1, 2] (by kernel_rfl) rfl (by simp [h15]; exact rr) ?_
      refine AWp.see (See.shutM (M' := [.blk (x0.fe.enc ++ [.mp 1, .ptr 2 0, .n x0.fc, .n x0.fd]), .own (Td.own .i64 x0.fg none) none, .blk [.n v1.1, .mp 3, .mp 4, .n v1.2.1, .b v1.2.2.1], .mapo (encM (kI .i64) (kI .i64) v1.2.2.2.1), .mapo (encM (kI .i64) (kI .i64) v1.2.2.2.2.1), .blk [.lit (.pointer none), .b false]]) 1 (by rfl) (by rfl)) ?_
      refine AWp.ret ?_
      obtain rfl := La hr
      refine Lf ?_
      simp
     ·have hr := Lj h15 hr
      refine AWp.skip ?_
      refine Try.tg hΓ [] [50, 12, 13, 0, 1, 2] (by kernel_rfl) rfl (by simp [h15]; exact rr) ?_
      refine Try.tg hΓ [8] [] (by kernel_rfl) rfl (by simp; exact rr) ?_
      cases hr
    | some o1 =>
     have hr := optC_s h14 hr
     refine Try.td hΓ [12, 13] [] [] [(false, []), (false, []), (false, []), (false, []), (false, []), (false, []), (false, []), (false, []), (false, []), (false, []), (true, []), (false, []), (false, []), (false, []), (false, []), (false, [])] (by kernel_rfl) rfl (by simp [h13, h14]; exact rr) ?_
     refine AWp.seq ?_
     refine Try.tg hΓ [50] [] (by kernel_rfl) rfl (by simp; exact rr) ?_
     refine AWp.cond (b := (neI r2.2 0)) (by simp) (fun h16 => ?_) (fun h16 => ?_)
     ·have hr := Li h16 hr
      refine Try.tg hΓ [8] [50, 12, 13, 0, 1, 2] (by kernel_rfl) rfl (by simp [h16]; exact rr) ?_
      refine AWp.see (See.shutM (M' := [.blk (x0.fe.enc ++ [.mp 1, .ptr 2 0, .n x0.fc, .n x0.fd]), .own (Td.own .i64 x0.fg none) none, .blk [.n v1.1, .mp 3, .mp 4, .n v1.2.1, .b v1.2.2.1], .mapo (encM (kI .i64) (kI .i64) v1.2.2.2.1), .mapo (encM (kI .i64) (kI .i64) v1.2.2.2.2.1), .blk [.lit (.pointer none), .b false], .blk o1.enc]) 1 (by rfl) (by rfl)) ?_
      refine AWp.ret ?_
      obtain rfl := La hr
      refine Lf ?_
      simp
     ·have hr := Lj h16 hr
      refine AWp.skip ?_
      refine Try.tg hΓ [] [50, 12, 13, 0, 1, 2] (by kernel_rfl) rfl (by simp [h16]; exact rr) ?_
      refine Try.tg hΓ [8] [] (by kernel_rfl) rfl (by simp; exact rr) ?_
      refine AWp.see (See.newI (M' := [.blk (x0.fe.enc ++ [.mp 1, .ptr 2 0, .n x0.fc, .n x0.fd]), .own (Td.own .i64 (setM eqI x1 (Td.mk o1 v1.2.2.2.2.2) x0.fg) none) none, .blk [.n v1.1, .mp 3, .mp 4, .n v1.2.1, .b v1.2.2.1], .mapo (encM (kI .i64) (kI .i64) v1.2.2.2.1), .mapo (encM (kI .i64) (kI .i64) v1.2.2.2.2.1), .blk [.lit (.pointer none), .b false], .dead]) 1 x1 (Td.mk o1 v1.2.2.2.2.2) x0.fg [6] (by rfl) (by decide) (by simp) (by simp [into]) (by simp) (by rfl)) ?_
      refine AWp.ret ?_
      obtain rfl := La hr
      refine Lf ?_
      simp
 | some z1 =>
  have hr := optC_s h9 hr
  refine AWp.see (See.openI (M' := [.blk (x0.fe.enc ++ [.mp 1, .ptr 2 0, .n x0.fc, .n x0.fd]), .own (Td.own .i64 x0.fg (some (.int .i64 x1))) (some (.int .i64 x1, some (.agg [.ptr 5 0, .b z1.fq]))), .blk [.n x0.fa.fb, .mp 3, .mp 4, .n x0.fa.fAt, .b x0.fa.ff], .mapo (encM (kI .i64) (kI .i64) x0.fa.fj), .mapo (encM (kI .i64) (kI .i64) x0.fa.fk), .blk z1.fA.enc]) 1 x1 z1 x0.fg h9 (by rfl) (by simp)) ?_
  refine Try.tg hΓ [10] [] (by kernel_rfl) rfl (by simp; exact rr) ?_
  refine Try.tg hΓ [23] [10] (by kernel_rfl) rfl (by simp; exact rr) ?_
  refine AWp.cond (b := true) (by simp) (fun hb => ?_) (fun hb => ?_)
  ·refine Try.tg hΓ [8] [23, 0, 1, 2, 3] (by kernel_rfl) rfl (by simp; exact rr) ?_
   refine AWp.see (See.closeS (M' := [.blk (x0.fe.enc ++ [.mp 1, .ptr 2 0, .n x0.fc, .n x0.fd]), .own (Td.own .i64 x0.fg none) none, .blk [.n x0.fa.fb, .mp 3, .mp 4, .n x0.fa.fAt, .b x0.fa.ff], .mapo (encM (kI .i64) (kI .i64) x0.fa.fj), .mapo (encM (kI .i64) (kI .i64) x0.fa.fk), .dead, .blk [.ptr 5 0, .b z1.fq]]) 1 x1 z1 x0.fg [5] h9 (by rfl) (by decide) (by simp) (by simp [into]) (by simp) (by rfl)) ?_
   refine AWp.ret ?_
   obtain rfl := La hr
   refine Lf ?_
   simp
  ·cases hb

@[simp] noncomputable def gN.S : Sp
 | [.ptr i0 0, .lit (.int .i64 x1), .lit (.bool x2), .lit (.int .i64 x3)], M => match M[i0]? with
  | some (.blk c0) => (match nthE c0 5 with
  | some (.mp i1) => (match M[i1]? with
  | some (.own c1 none) => (match nthE c0 6 with
  | some (.ptr i2 0) => (match M[i2]? with
  | some (.blk c2) => (match nthE c2 1 with
  | some (.mp i3) => (match M[i3]? with
  | some (.mapo c3) => (match nthE c2 2 with
  | some (.mp i4) => (match M[i4]? with
  | some (.mapo c4) => (fun (y0 : Tg) => (fun (r : Int × Tg) => some { av := .lit (.int .i64 (r.1)), M := some (((((M.set i0 (.blk [.lit (.int .i64 (r.2.fe.fh)), .lit (.int .i64 (r.2.fe.fo)), .lit (.int .i64 (r.2.fe.fu)), .lit (.int .i64 (r.2.fe.fb)), .lit (.int .i64 (r.2.fe.fp)), .mp i1, .ptr i2 0, .lit (.int .i64 (r.2.fc)), .lit (.int .i64 (r.2.fd))])).set i1 (.own (Td.own .i64 (r.2.fg) none) none)).set i2 (.blk [.lit (.int .i64 (r.2.fa.fb)), .mp i3, .mp i4, .lit (.int .i64 (r.2.fa.fAt)), .lit (.bool (r.2.fa.ff))])).set i3 (.mapo (encM (kI .i64) (kI .i64) (r.2.fa.fj)))).set i4 (.mapo (encM (kI .i64) (kI .i64) (r.2.fa.fk)))), obl := c0 = Tg.enc y0 i1 i2 ∧ c1 = Td.own .i64 (y0.fg) none ∧ c2 = Tq.enc (y0.fa) i3 i4 ∧ c3 = encM (kI .i64) (kI .i64) (y0.fa.fj) ∧ c4 = encM (kI .i64) (kI .i64) (y0.fa.fk) ∧ (gN y0 x1 x2 x3).isSome = true ∧ i0 ≠ i1 ∧ i0 ≠ i2 ∧ i0 ≠ i3 ∧ i0 ≠ i4 ∧ i1 ≠ i2 ∧ i1 ≠ i3 ∧ i1 ≠ i4 ∧ i2 ≠ i3 ∧ i2 ≠ i4 ∧ i3 ≠ i4 }) ((gN y0 x1 x2 x3).getD dflt)) (Tg.dec c0 (decM dkI Td.dfl c1.data) (Tq.dec c2 (decM dkI dkI c3) (decM dkI dkI c4)))
  | _ => none)
  | _ => none)
  | _ => none)
  | _ => none)
  | _ => none)
  | _ => none)
  | _ => none)
  | _ => none)
  | _ => none
 | _, _ => none

theorem gN.ok : SpecOk Try.prog 11 gN.S := by
 intro l M out h
 unfold gN.S at h
 split at h
 ·rename_i i0 x1 x2 x3
  split at h
  case h_2 => cases h
  rename_i c0 hM0
  split at h
  case h_2 => cases h
  rename_i i1 he1
  split at h
  case h_2 => cases h
  rename_i c1 hM1
  split at h
  case h_2 => cases h
  rename_i i2 he2
  split at h
  case h_2 => cases h
  rename_i c2 hM2
  split at h
  case h_2 => cases h
  rename_i i3 he3
  split at h
  case h_2 => cases h
  rename_i c3 hM3
  split at h
  case h_2 => cases h
  rename_i i4 he4
  split at h
  case h_2 => cases h
  rename_i c4 hM4
  try dsimp only at h
  cases h
  refine callOk_of fun ho => ?_
  obtain ⟨oc0, oc1, oc2, oc3, oc4, hs, hne0, hne1, hne2, hne3, hne4, hne5, hne6, hne7, hne8, hne9⟩ := ho
  generalize (Tg.dec c0 (decM dkI Td.dfl c1.data) (Tq.dec c2 (decM dkI dkI c3) (decM dkI dkI c4))) = y0 at *
  subst oc0
  subst oc1
  subst oc2
  subst oc3
  subst oc4
  obtain ⟨r, hr⟩ := Option.isSome_iff_exists.1 hs
  simp only [hr, Option.getD_some]
  have q := Lk (M := M) [i0, i1, i2, i3, i4] (gN.can y0 x1 x2 x3 r hr) (by simp [hne0, hne1, hne2, hne3, hne4, hne5, hne6, hne7, hne8, hne9]) rfl (by intro k i hk; (cases k with | zero => (simp at hk; subst hk; simp [hM0, into]) | succ k => ((cases k with | zero => (simp at hk; subst hk; simp [hM1]) | succ k => ((cases k with | zero => (simp at hk; subst hk; simp [hM2, into]) | succ k => ((cases k with | zero => (simp at hk; subst hk; simp [hM3]) | succ k => ((cases k with | zero => (simp at hk; subst hk; simp [hM4]) | succ k => (simp at hk)))))))))))
  exact callOk_conv q trivial (by simp [into]) (by simp [frameOut, gN.out, into]) (by simp [frameOut, gN.out, into])
 ·cases h

@[simp] def gH.out (_x0 : Tg) (_x1 : Int) (r : List Tc × Int × Tg) : Out := { av := .tup [.sl (r.1.map Tc.enc) .no, .lit (.int .i64 r.2.1)], M := some [.blk [.lit (.int .i64 r.2.2.fe.fh), .lit (.int .i64 r.2.2.fe.fo), .lit (.int .i64 r.2.2.fe.fu), .lit (.int .i64 r.2.2.fe.fb), .lit (.int .i64 r.2.2.fe.fp), .mp 1, .ptr 2 0, .lit (.int .i64 r.2.2.fc), .lit (.int .i64 r.2.2.fd)], .own (Td.own .i64 r.2.2.fg none) none, .blk [.lit (.int .i64 r.2.2.fa.fb), .mp 3, .mp 4, .lit (.int .i64 r.2.2.fa.fAt), .lit (.bool r.2.2.fa.ff)], .mapo (encM (kI .i64) (kI .i64) r.2.2.fa.fj), .mapo (encM (kI .i64) (kI .i64) r.2.2.fa.fk)] }
def gH.fin (x0 : Tg) (x1 : Int) (r : List Tc × Int × Tg) (σ : St) : Prop := finK (gH.out x0 x1 r) [.blk (x0.fe.enc ++ [.mp 1, .ptr 2 0, .lit (.int .i64 x0.fc), .lit (.int .i64 x0.fd)]), .own (Td.own .i64 x0.fg none) none, .blk [.lit (.int .i64 x0.fa.fb), .mp 3, .mp 4, .lit (.int .i64 x0.fa.fAt), .lit (.bool x0.fa.ff)], .mapo (encM (kI .i64) (kI .i64) x0.fa.fj), .mapo (encM (kI .i64) (kI .i64) x0.fa.fk)] σ.M (resA Try.ty σ.A σ.M Try.f53.results.toList)
theorem gH.can (x0 : Tg) (x1 : Int) (r : List Tc × Int × Tg) (hr : gH x0 x1 = some r) : CallOk Try.prog 53 [.ptr 0 0, .lit (.int .i64 x1)] [.blk (x0.fe.enc ++ [.mp 1, .ptr 2 0, .lit (.int .i64 x0.fc), .lit (.int .i64 x0.fd)]), .own (Td.own .i64 x0.fg none) none, .blk [.lit (.int .i64 x0.fa.fb), .mp 3, .mp 4, .lit (.int .i64 x0.fa.fAt), .lit (.bool x0.fa.ff)], .mapo (encM (kI .i64) (kI .i64) x0.fa.fj), .mapo (encM (kI .i64) (kI .i64) x0.fa.fk)] (gH.out x0 x1 r) := by
 unfold gH at hr
 have hΓ := (gamL_cons gG.ok (gamL_cons gZ.ok (gamL_cons gaa.ok (gamL_nil))) : GamOk Try.prog _)
 refine Lg Try.tyOk Try.func53 rfl (by kernel_rfl) rfl rfl (by simp) ?_
 intro _ _ _
 refine Try.tg hΓ [] [] (by kernel_rfl) rfl (by simp; exact rr) ?_
 cases h6 : findM eqI x1 x0.fg with
 | none =>
  have hr := optC_n h6 hr
  refine AWp.see (See.missI (M' := [.blk (x0.fe.enc ++ [.mp 1, .ptr 2 0, .n x0.fc, .n x0.fd]), .own (Td.own .i64 x0.fg none) (some (.int .i64 x1, none)), .blk [.n x0.fa.fb, .mp 3, .mp 4, .n x0.fa.fAt, .b x0.fa.ff], .mapo (encM (kI .i64) (kI .i64) x0.fa.fj), .mapo (encM (kI .i64) (kI .i64) x0.fa.fk)]) 1 x1 x0.fg h6 (by rfl) (by rfl)) ?_
  refine Try.tg hΓ [6, 7] [] (by kernel_rfl) rfl (by simp; exact rr) ?_
  refine AWp.seq ?_
  refine Try.tg hΓ [18] [7] (by kernel_rfl) rfl (by simp; exact rr) ?_
  refine AWp.cond (b := true) (by simp) (fun hb => ?_) (fun hb => ?_)
  ·refine Try.tg hΓ [4, 5] [18, 6, 0, 1] (by kernel_rfl) rfl (by simp; exact rr) ?_
   refine AWp.see (See.shutM (M' := [.blk (x0.fe.enc ++ [.mp 1, .ptr 2 0, .n x0.fc, .n x0.fd]), .own (Td.own .i64 x0.fg none) none, .blk [.n x0.fa.fb, .mp 3, .mp 4, .n x0.fa.fAt, .b x0.fa.ff], .mapo (encM (kI .i64) (kI .i64) x0.fa.fj), .mapo (encM (kI .i64) (kI .i64) x0.fa.fk), .blk [.lit (.pointer none), .b false]]) 1 (by rfl) (by rfl)) ?_
   refine AWp.ret ?_
   obtain rfl := La hr
   refine Lf ?_
   simp
  ·cases hb
 | some z1 =>
  have hr := optC_s h6 hr
  refine AWp.see (See.openI (M' := [.blk (x0.fe.enc ++ [.mp 1, .ptr 2 0, .n x0.fc, .n x0.fd]), .own (Td.own .i64 x0.fg (some (.int .i64 x1))) (some (.int .i64 x1, some (.agg [.ptr 5 0, .b z1.fq]))), .blk [.n x0.fa.fb, .mp 3, .mp 4, .n x0.fa.fAt, .b x0.fa.ff], .mapo (encM (kI .i64) (kI .i64) x0.fa.fj), .mapo (encM (kI .i64) (kI .i64) x0.fa.fk), .blk z1.fA.enc]) 1 x1 z1 x0.fg h6 (by rfl) (by simp)) ?_
  refine Try.tg hΓ [6, 7] [] (by kernel_rfl) rfl (by simp; exact rr) ?_
  refine AWp.seq ?_
  refine Try.tg hΓ [18] [7] (by kernel_rfl) rfl (by simp; exact rr) ?_
  refine AWp.cond (b := false) (by simp) (fun hb => ?_) (fun hb => ?_)
  ·cases hb
  ·refine AWp.skip ?_
   refine AWp.meetF (fun (v1 : Int × Int × Bool × (List (Int × Int)) × (List (Int × Int)) × Bool) (γ1 : Unit) => ⟨[⟨6, none, .ptr 6 0⟩, ⟨0, none, .ptr 0 0⟩, ⟨1, none, .n x1⟩], [.blk (x0.fe.enc ++ [.mp 1, .ptr 2 0, .n x0.fc, .n x0.fd]), .own (Td.own .i64 x0.fg (some (.int .i64 x1))) (some (.int .i64 x1, some (.agg [.ptr 5 0, .b z1.fq]))), .blk [.n v1.1, .mp 3, .mp 4, .n v1.2.1, .b v1.2.2.1], .mapo (encM (kI .i64) (kI .i64) v1.2.2.2.1), .mapo (encM (kI .i64) (kI .i64) v1.2.2.2.2.1), .blk z1.fA.enc, .blk [.ptr 5 0, .b v1.2.2.2.2.2]]⟩) (gH.fin x0 x1) hr (fun f hr => ?_) (fun v1 γ1 hr => ?_) (fun _ h => h)
   ·refine Try.tg hΓ [20] [18] (by kernel_rfl) rfl (by simp; exact rr) ?_
    refine AWp.cond (b := z1.fq) (by simp) (fun h7 => ?_) (fun h7 => ?_)
    ·have hr := Li h7 hr
     obtain ⟨r1, h8, hr⟩ := Lc hr
     refine AWp.lst (AWp.reg Try.tyOk hΓ [] [20] (by kernel_rfl) rfl (by simp [h7, h8]; exact rr)) ?_
     obtain rfl := La hr
     exact Ls () 7 (by first | (simp; done) | simp [h7])
    ·have hr := Lj h7 hr
     refine AWp.skip ?_
     obtain rfl := La hr
     exact Ls () 7 (by first | (simp; done) | simp [h7])
   ·refine Try.tg hΓ [] [0] (by kernel_rfl) rfl (by simp; exact rr) ?_
    obtain ⟨r2, h9, hr⟩ := Lc hr
    obtain ⟨r3, h10, hr⟩ := Lc hr
    refine Try.tg hΓ [4, 5] [6, 1] (by kernel_rfl) rfl (by simp [h9, h10]; exact rr) ?_
    refine AWp.see (See.struckI (M' := [.blk (x0.fe.enc ++ [.mp 1, .ptr 2 0, .n x0.fc, .n x0.fd]), .own (Td.own .i64 (delM eqI x1 x0.fg) none) none, .blk [.n v1.1, .mp 3, .mp 4, .n v1.2.1, .b v1.2.2.1], .mapo (encM (kI .i64) (kI .i64) v1.2.2.2.1), .mapo (encM (kI .i64) (kI .i64) v1.2.2.2.2.1), .blk r2.2.enc, .blk [.ptr 5 0, .b v1.2.2.2.2.2]]) 1 x1 x0.fg (by rfl) (by rfl)) ?_
    refine AWp.ret ?_
    obtain rfl := La hr
    refine Lf ?_
    simp

@[simp] noncomputable def gH.S : Sp
 | [.ptr i0 0, .lit (.int .i64 x1)], M => match M[i0]? with
  | some (.blk c0) => (match nthE c0 5 with
  | some (.mp i1) => (match M[i1]? with
  | some (.own c1 none) => (match nthE c0 6 with
  | some (.ptr i2 0) => (match M[i2]? with
  | some (.blk c2) => (match nthE c2 1 with
  | some (.mp i3) => (match M[i3]? with
  | some (.mapo c3) => (match nthE c2 2 with
  | some (.mp i4) => (match M[i4]? with
  | some (.mapo c4) => (fun (y0 : Tg) => (fun (r : List Tc × Int × Tg) => some { av := .tup [.sl ((r.1).map Tc.enc) .no, .lit (.int .i64 (r.2.1))], M := some (((((M.set i0 (.blk [.lit (.int .i64 (r.2.2.fe.fh)), .lit (.int .i64 (r.2.2.fe.fo)), .lit (.int .i64 (r.2.2.fe.fu)), .lit (.int .i64 (r.2.2.fe.fb)), .lit (.int .i64 (r.2.2.fe.fp)), .mp i1, .ptr i2 0, .lit (.int .i64 (r.2.2.fc)), .lit (.int .i64 (r.2.2.fd))])).set i1 (.own (Td.own .i64 (r.2.2.fg) none) none)).set i2 (.blk [.lit (.int .i64 (r.2.2.fa.fb)), .mp i3, .mp i4, .lit (.int .i64 (r.2.2.fa.fAt)), .lit (.bool (r.2.2.fa.ff))])).set i3 (.mapo (encM (kI .i64) (kI .i64) (r.2.2.fa.fj)))).set i4 (.mapo (encM (kI .i64) (kI .i64) (r.2.2.fa.fk)))), obl := c0 = Tg.enc y0 i1 i2 ∧ c1 = Td.own .i64 (y0.fg) none ∧ c2 = Tq.enc (y0.fa) i3 i4 ∧ c3 = encM (kI .i64) (kI .i64) (y0.fa.fj) ∧ c4 = encM (kI .i64) (kI .i64) (y0.fa.fk) ∧ (gH y0 x1).isSome = true ∧ i0 ≠ i1 ∧ i0 ≠ i2 ∧ i0 ≠ i3 ∧ i0 ≠ i4 ∧ i1 ≠ i2 ∧ i1 ≠ i3 ∧ i1 ≠ i4 ∧ i2 ≠ i3 ∧ i2 ≠ i4 ∧ i3 ≠ i4 }) ((gH y0 x1).getD dflt)) (Tg.dec c0 (decM dkI Td.dfl c1.data) (Tq.dec c2 (decM dkI dkI c3) (decM dkI dkI c4)))
  | _ => none)
  | _ => none)
  | _ => none)
  | _ => none)
  | _ => none)
  | _ => none)
  | _ => none)
  | _ => none)
  | _ => none
 | _, _ => none

theorem gH.ok : SpecOk Try.prog 53 gH.S := by
 intro l M out h
 unfold gH.S at h
 split at h
 ·rename_i i0 x1
  split at h
  case h_2 => cases h
  rename_i c0 hM0
  split at h
  case h_2 => cases h
  rename_i i1 he1
  split at h
  case h_2 => cases h
  rename_i c1 hM1
  split at h
  case h_2 => cases h
  rename_i i2 he2
  split at h
  case h_2 => cases h
  rename_i c2 hM2
  split at h
  case h_2 => cases h
  rename_i i3 he3
  split at h
  case h_2 => cases h
  rename_i c3 hM3
  split at h
  case h_2 => cases h
  rename_i i4 he4
  split at h
  case h_2 => cases h
  rename_i c4 hM4
  try dsimp only at h
  cases h
  refine callOk_of fun ho => ?_
  obtain ⟨oc0, oc1, oc2, oc3, oc4, hs, hne0, hne1, hne2, hne3, hne4, hne5, hne6, hne7, hne8, hne9⟩ := ho
  generalize (Tg.dec c0 (decM dkI Td.dfl c1.data) (Tq.dec c2 (decM dkI dkI c3) (decM dkI dkI c4))) = y0 at *
  subst oc0
  subst oc1
  subst oc2
  subst oc3
  subst oc4
  obtain ⟨r, hr⟩ := Option.isSome_iff_exists.1 hs
  simp only [hr, Option.getD_some]
  have q := Lk (M := M) [i0, i1, i2, i3, i4] (gH.can y0 x1 r hr) (by simp [hne0, hne1, hne2, hne3, hne4, hne5, hne6, hne7, hne8, hne9]) rfl (by intro k i hk; (cases k with | zero => (simp at hk; subst hk; simp [hM0, into]) | succ k => ((cases k with | zero => (simp at hk; subst hk; simp [hM1]) | succ k => ((cases k with | zero => (simp at hk; subst hk; simp [hM2, into]) | succ k => ((cases k with | zero => (simp at hk; subst hk; simp [hM3]) | succ k => ((cases k with | zero => (simp at hk; subst hk; simp [hM4]) | succ k => (simp at hk)))))))))))
  exact callOk_conv q trivial (by simp [into]) (by simp [frameOut, gH.out, into]) (by simp [frameOut, gH.out, into])
 ·cases h

@[simp] def gae.out (_x0 : Tg) (_x1 : Int) (r : List Tc × Tg) : Out := { av := .sl (r.1.map Tc.enc) .no, M := some [.blk [.lit (.int .i64 r.2.fe.fh), .lit (.int .i64 r.2.fe.fo), .lit (.int .i64 r.2.fe.fu), .lit (.int .i64 r.2.fe.fb), .lit (.int .i64 r.2.fe.fp), .mp 1, .ptr 2 0, .lit (.int .i64 r.2.fc), .lit (.int .i64 r.2.fd)], .own (Td.own .i64 r.2.fg none) none, .blk [.lit (.int .i64 r.2.fa.fb), .mp 3, .mp 4, .lit (.int .i64 r.2.fa.fAt), .lit (.bool r.2.fa.ff)], .mapo (encM (kI .i64) (kI .i64) r.2.fa.fj), .mapo (encM (kI .i64) (kI .i64) r.2.fa.fk)] }
theorem gae.can (x0 : Tg) (x1 : Int) (r : List Tc × Tg) (hr : gae x0 x1 = some r) : CallOk Try.prog 55 [.ptr 0 0, .lit (.int .i64 x1)] [.blk (x0.fe.enc ++ [.mp 1, .ptr 2 0, .lit (.int .i64 x0.fc), .lit (.int .i64 x0.fd)]), .own (Td.own .i64 x0.fg none) none, .blk [.lit (.int .i64 x0.fa.fb), .mp 3, .mp 4, .lit (.int .i64 x0.fa.fAt), .lit (.bool x0.fa.ff)], .mapo (encM (kI .i64) (kI .i64) x0.fa.fj), .mapo (encM (kI .i64) (kI .i64) x0.fa.fk)] (gae.out x0 x1 r) := by
 unfold gae at hr
 have hΓ := (gamL_cons gZ.ok (gamL_cons gaa.ok (gamL_nil)) : GamOk Try.prog _)
 refine Lg Try.tyOk Try.func55 rfl (by kernel_rfl) rfl rfl (by simp) ?_
 intro _ _ _
 refine Try.tg hΓ [] [] (by kernel_rfl) rfl (by simp; exact rr) ?_
 cases h4 : findM eqI x1 x0.fg with
 | none =>
  have hr := optC_n h4 hr
  refine AWp.see (See.missI (M' := [.blk (x0.fe.enc ++ [.mp 1, .ptr 2 0, .n x0.fc, .n x0.fd]), .own (Td.own .i64 x0.fg none) (some (.int .i64 x1, none)), .blk [.n x0.fa.fb, .mp 3, .mp 4, .n x0.fa.fAt, .b x0.fa.ff], .mapo (encM (kI .i64) (kI .i64) x0.fa.fj), .mapo (encM (kI .i64) (kI .i64) x0.fa.fk)]) 1 x1 x0.fg h4 (by rfl) (by rfl)) ?_
  refine Try.tg hΓ [5, 6] [0] (by kernel_rfl) rfl (by simp; exact rr) ?_
  refine AWp.seq ?_
  refine Try.tg hΓ [17] [6] (by kernel_rfl) rfl (by simp; exact rr) ?_
  refine AWp.cond (b := true) (by simp) (fun hb => ?_) (fun hb => ?_)
  ·refine Try.tg hΓ [4] [17, 5, 1] (by kernel_rfl) rfl (by simp; exact rr) ?_
   refine AWp.see (See.shutM (M' := [.blk (x0.fe.enc ++ [.mp 1, .ptr 2 0, .n x0.fc, .n x0.fd]), .own (Td.own .i64 x0.fg none) none, .blk [.n x0.fa.fb, .mp 3, .mp 4, .n x0.fa.fAt, .b x0.fa.ff], .mapo (encM (kI .i64) (kI .i64) x0.fa.fj), .mapo (encM (kI .i64) (kI .i64) x0.fa.fk), .blk [.lit (.pointer none), .b false]]) 1 (by rfl) (by rfl)) ?_
   refine AWp.ret ?_
   obtain rfl := La hr
   refine Lf ?_
   simp
  ·cases hb
 | some z1 =>
  have hr := optC_s h4 hr
  refine AWp.see (See.openI (M' := [.blk (x0.fe.enc ++ [.mp 1, .ptr 2 0, .n x0.fc, .n x0.fd]), .own (Td.own .i64 x0.fg (some (.int .i64 x1))) (some (.int .i64 x1, some (.agg [.ptr 5 0, .b z1.fq]))), .blk [.n x0.fa.fb, .mp 3, .mp 4, .n x0.fa.fAt, .b x0.fa.ff], .mapo (encM (kI .i64) (kI .i64) x0.fa.fj), .mapo (encM (kI .i64) (kI .i64) x0.fa.fk), .blk z1.fA.enc]) 1 x1 z1 x0.fg h4 (by rfl) (by simp)) ?_
  refine Try.tg hΓ [5, 6] [0] (by kernel_rfl) rfl (by simp; exact rr) ?_
  refine AWp.seq ?_
  refine Try.tg hΓ [17] [6] (by kernel_rfl) rfl (by simp; exact rr) ?_
  refine AWp.cond (b := false) (by simp) (fun hb => ?_) (fun hb => ?_)
  ·cases hb
  ·refine AWp.skip ?_
   obtain ⟨r1, h5, hr⟩ := Lc hr
   obtain ⟨r2, h6, hr⟩ := Lc hr
   refine Try.tg hΓ [4] [17, 5, 1] (by kernel_rfl) rfl (by simp [h5, h6]; exact rr) ?_
   refine AWp.see (See.closeI (M' := [.blk (x0.fe.enc ++ [.mp 1, .ptr 2 0, .n x0.fc, .n x0.fd]), .own (Td.own .i64 (setM eqI x1 (Td.mk r1.2 z1.fq) x0.fg) none) none, .blk [.n x0.fa.fb, .mp 3, .mp 4, .n x0.fa.fAt, .b x0.fa.ff], .mapo (encM (kI .i64) (kI .i64) x0.fa.fj), .mapo (encM (kI .i64) (kI .i64) x0.fa.fk), .dead, .blk [.ptr 5 0, .b z1.fq]]) 1 x1 (Td.mk r1.2 z1.fq) x0.fg [5] (by rfl) (by decide) (by simp) (by simp [into]) (by simp) (by rfl)) ?_
   refine AWp.ret ?_
   obtain rfl := La hr
   refine Lf ?_
   simp

@[simp] noncomputable def gae.S : Sp
 | [.ptr i0 0, .lit (.int .i64 x1)], M => match M[i0]? with
  | some (.blk c0) => (match nthE c0 5 with
  | some (.mp i1) => (match M[i1]? with
  | some (.own c1 none) => (match nthE c0 6 with
  | some (.ptr i2 0) => (match M[i2]? with
  | some (.blk c2) => (match nthE c2 1 with
  | some (.mp i3) => (match M[i3]? with
  | some (.mapo c3) => (match nthE c2 2 with
  | some (.mp i4) => (match M[i4]? with
  | some (.mapo c4) => (fun (y0 : Tg) => (fun (r : List Tc × Tg) => some { av := .sl ((r.1).map Tc.enc) .no, M := some (((((M.set i0 (.blk [.lit (.int .i64 (r.2.fe.fh)), .lit (.int .i64 (r.2.fe.fo)), .lit (.int .i64 (r.2.fe.fu)), .lit (.int .i64 (r.2.fe.fb)), .lit (.int .i64 (r.2.fe.fp)), .mp i1, .ptr i2 0, .lit (.int .i64 (r.2.fc)), .lit (.int .i64 (r.2.fd))])).set i1 (.own (Td.own .i64 (r.2.fg) none) none)).set i2 (.blk [.lit (.int .i64 (r.2.fa.fb)), .mp i3, .mp i4, .lit (.int .i64 (r.2.fa.fAt)), .lit (.bool (r.2.fa.ff))])).set i3 (.mapo (encM (kI .i64) (kI .i64) (r.2.fa.fj)))).set i4 (.mapo (encM (kI .i64) (kI .i64) (r.2.fa.fk)))), obl := c0 = Tg.enc y0 i1 i2 ∧ c1 = Td.own .i64 (y0.fg) none ∧ c2 = Tq.enc (y0.fa) i3 i4 ∧ c3 = encM (kI .i64) (kI .i64) (y0.fa.fj) ∧ c4 = encM (kI .i64) (kI .i64) (y0.fa.fk) ∧ (gae y0 x1).isSome = true ∧ i0 ≠ i1 ∧ i0 ≠ i2 ∧ i0 ≠ i3 ∧ i0 ≠ i4 ∧ i1 ≠ i2 ∧ i1 ≠ i3 ∧ i1 ≠ i4 ∧ i2 ≠ i3 ∧ i2 ≠ i4 ∧ i3 ≠ i4 }) ((gae y0 x1).getD dflt)) (Tg.dec c0 (decM dkI Td.dfl c1.data) (Tq.dec c2 (decM dkI dkI c3) (decM dkI dkI c4)))
  | _ => none)
  | _ => none)
  | _ => none)
  | _ => none)
  | _ => none)
  | _ => none)
  | _ => none)
  | _ => none)
  | _ => none
 | _, _ => none

theorem gae.ok : SpecOk Try.prog 55 gae.S := by
 intro l M out h
 unfold gae.S at h
 split at h
 ·rename_i i0 x1
  split at h
  case h_2 => cases h
  rename_i c0 hM0
  split at h
  case h_2 => cases h
  rename_i i1 he1
  split at h
  case h_2 => cases h
  rename_i c1 hM1
  split at h
  case h_2 => cases h
  rename_i i2 he2
  split at h
  case h_2 => cases h
  rename_i c2 hM2
  split at h
  case h_2 => cases h
  rename_i i3 he3
  split at h
  case h_2 => cases h
  rename_i c3 hM3
  split at h
  case h_2 => cases h
  rename_i i4 he4
  split at h
  case h_2 => cases h
  rename_i c4 hM4
  try dsimp only at h
  cases h
  refine callOk_of fun ho => ?_
  obtain ⟨oc0, oc1, oc2, oc3, oc4, hs, hne0, hne1, hne2, hne3, hne4, hne5, hne6, hne7, hne8, hne9⟩ := ho
  generalize (Tg.dec c0 (decM dkI Td.dfl c1.data) (Tq.dec c2 (decM dkI dkI c3) (decM dkI dkI c4))) = y0 at *
  subst oc0
  subst oc1
  subst oc2
  subst oc3
  subst oc4
  obtain ⟨r, hr⟩ := Option.isSome_iff_exists.1 hs
  simp only [hr, Option.getD_some]
  have q := Lk (M := M) [i0, i1, i2, i3, i4] (gae.can y0 x1 r hr) (by simp [hne0, hne1, hne2, hne3, hne4, hne5, hne6, hne7, hne8, hne9]) rfl (by intro k i hk; (cases k with | zero => (simp at hk; subst hk; simp [hM0, into]) | succ k => ((cases k with | zero => (simp at hk; subst hk; simp [hM1]) | succ k => ((cases k with | zero => (simp at hk; subst hk; simp [hM2, into]) | succ k => ((cases k with | zero => (simp at hk; subst hk; simp [hM3]) | succ k => ((cases k with | zero => (simp at hk; subst hk; simp [hM4]) | succ k => (simp at hk)))))))))))
  exact callOk_conv q trivial (by simp [into]) (by simp [frameOut, gae.out, into]) (by simp [frameOut, gae.out, into])
 ·cases h

@[simp] def gI.out (_x0 : Tg) (_x1 : Int) (_x2 : Ta) (r : List Tc × Bool × Tg) : Out := { av := .tup [.sl (r.1.map Tc.enc) .no, .lit (.bool r.2.1)], M := some [.blk [.lit (.int .i64 r.2.2.fe.fh), .lit (.int .i64 r.2.2.fe.fo), .lit (.int .i64 r.2.2.fe.fu), .lit (.int .i64 r.2.2.fe.fb), .lit (.int .i64 r.2.2.fe.fp), .mp 1, .ptr 2 0, .lit (.int .i64 r.2.2.fc), .lit (.int .i64 r.2.2.fd)], .own (Td.own .i64 r.2.2.fg none) none, .blk [.lit (.int .i64 r.2.2.fa.fb), .mp 3, .mp 4, .lit (.int .i64 r.2.2.fa.fAt), .lit (.bool r.2.2.fa.ff)], .mapo (encM (kI .i64) (kI .i64) r.2.2.fa.fj), .mapo (encM (kI .i64) (kI .i64) r.2.2.fa.fk)] }
theorem gI.can (x0 : Tg) (x1 : Int) (x2 : Ta) (r : List Tc × Bool × Tg) (hr : gI x0 x1 x2 = some r) : CallOk Try.prog 22 [.ptr 0 0, .lit (.int .i64 x1), .agg [.lit (.int .i64 x2.fN), .lit (.int .i64 x2.fm), .lit (.int .i64 x2.fy), .lit (.bool x2.fz)]] [.blk (x0.fe.enc ++ [.mp 1, .ptr 2 0, .lit (.int .i64 x0.fc), .lit (.int .i64 x0.fd)]), .own (Td.own .i64 x0.fg none) none, .blk [.lit (.int .i64 x0.fa.fb), .mp 3, .mp 4, .lit (.int .i64 x0.fa.fAt), .lit (.bool x0.fa.ff)], .mapo (encM (kI .i64) (kI .i64) x0.fa.fj), .mapo (encM (kI .i64) (kI .i64) x0.fa.fk)] (gI.out x0 x1 x2 r) := by
 unfold gI at hr
 have hΓ := (gamL_cons gv.ok (gamL_cons gaa.ok (gamL_nil)) : GamOk Try.prog _)
 refine Lg Try.tyOk Try.func22 rfl (by kernel_rfl) rfl rfl (by simp) ?_
 intro _ _ _
 refine Try.tg hΓ [5] [2] (by kernel_rfl) rfl (by simp; exact rr) ?_
 cases h5 : findM eqI x1 x0.fg with
 | none =>
  have hr := optC_n h5 hr
  refine AWp.see (See.missI (M' := [.blk (x0.fe.enc ++ [.mp 1, .ptr 2 0, .n x0.fc, .n x0.fd]), .own (Td.own .i64 x0.fg none) (some (.int .i64 x1, none)), .blk [.n x0.fa.fb, .mp 3, .mp 4, .n x0.fa.fAt, .b x0.fa.ff], .mapo (encM (kI .i64) (kI .i64) x0.fa.fj), .mapo (encM (kI .i64) (kI .i64) x0.fa.fk), .blk x2.enc]) 1 x1 x0.fg h5 (by rfl) (by rfl)) ?_
  refine Try.tg hΓ [8, 9] [] (by kernel_rfl) rfl (by simp; exact rr) ?_
  refine AWp.seq ?_
  refine Try.td hΓ [32] [9, 0] [] [(false, []), (false, []), (false, []), (false, [23]), (false, [23]), (false, [23]), (false, [23]), (false, [23]), (false, [23]), (false, [23]), (false, [23]), (false, [])] (by kernel_rfl) rfl (by simp; exact rr) ?_
  refine AWp.cond (b := true) (by simp) (fun hb => ?_) (fun hb => ?_)
  ·refine Try.tg hΓ [6, 7] [32, 8, 5, 1] (by kernel_rfl) rfl (by simp; exact rr) ?_
   refine AWp.see (See.shutM (M' := [.blk (x0.fe.enc ++ [.mp 1, .ptr 2 0, .n x0.fc, .n x0.fd]), .own (Td.own .i64 x0.fg none) none, .blk [.n x0.fa.fb, .mp 3, .mp 4, .n x0.fa.fAt, .b x0.fa.ff], .mapo (encM (kI .i64) (kI .i64) x0.fa.fj), .mapo (encM (kI .i64) (kI .i64) x0.fa.fk), .blk x2.enc, .blk [.lit (.pointer none), .b false]]) 1 (by rfl) (by rfl)) ?_
   refine AWp.ret ?_
   obtain rfl := La hr
   refine Lf ?_
   simp
  ·cases hb
 | some z1 =>
  have hr := optC_s h5 hr
  refine AWp.see (See.openI (M' := [.blk (x0.fe.enc ++ [.mp 1, .ptr 2 0, .n x0.fc, .n x0.fd]), .own (Td.own .i64 x0.fg (some (.int .i64 x1))) (some (.int .i64 x1, some (.agg [.ptr 6 0, .b z1.fq]))), .blk [.n x0.fa.fb, .mp 3, .mp 4, .n x0.fa.fAt, .b x0.fa.ff], .mapo (encM (kI .i64) (kI .i64) x0.fa.fj), .mapo (encM (kI .i64) (kI .i64) x0.fa.fk), .blk x2.enc, .blk z1.fA.enc]) 1 x1 z1 x0.fg h5 (by rfl) (by simp)) ?_
  refine Try.tg hΓ [8, 9] [] (by kernel_rfl) rfl (by simp; exact rr) ?_
  refine AWp.seq ?_
  refine Try.td hΓ [32] [9, 0] [] [(false, []), (false, []), (false, []), (false, [23]), (false, [23]), (false, [23]), (false, [23]), (false, [23]), (false, [23]), (false, [23]), (false, [23]), (false, [])] (by kernel_rfl) rfl (by simp; exact rr) ?_
  refine AWp.cond (b := (ltI x0.fe.fb x2.fm)) (by simp) (fun h6 => ?_) (fun h6 => ?_)
  ·have hr := Li h6 hr
   refine Try.tg hΓ [6, 7] [32, 8, 5, 1] (by kernel_rfl) rfl (by simp [h6]; exact rr) ?_
   refine AWp.see (See.closeS (M' := [.blk (x0.fe.enc ++ [.mp 1, .ptr 2 0, .n x0.fc, .n x0.fd]), .own (Td.own .i64 x0.fg none) none, .blk [.n x0.fa.fb, .mp 3, .mp 4, .n x0.fa.fAt, .b x0.fa.ff], .mapo (encM (kI .i64) (kI .i64) x0.fa.fj), .mapo (encM (kI .i64) (kI .i64) x0.fa.fk), .blk x2.enc, .dead, .blk [.ptr 6 0, .b z1.fq]]) 1 x1 z1 x0.fg [6] h5 (by rfl) (by decide) (by simp) (by simp [into]) (by simp) (by rfl)) ?_
   refine AWp.ret ?_
   obtain rfl := La hr
   refine Lf ?_
   simp
  ·have hr := Lj h6 hr
   refine AWp.skip ?_
   refine Try.tg hΓ [] [32] (by kernel_rfl) rfl (by simp [h6]; exact rr) ?_
   obtain ⟨r1, h7, hr⟩ := Lc hr
   refine Try.tg hΓ [10, 11] [8, 5] (by kernel_rfl) rfl (by simp [h7]; exact rr) ?_
   obtain ⟨r2, h8, hr⟩ := Lc hr
   refine Try.tg hΓ [6, 7] [10, 11, 1] (by kernel_rfl) rfl (by simp [h8]; exact rr) ?_
   refine AWp.see (See.closeI (M' := [.blk (x0.fe.enc ++ [.mp 1, .ptr 2 0, .n x0.fc, .n x0.fd]), .own (Td.own .i64 (setM eqI x1 (Td.mk r1.2.2 z1.fq) x0.fg) none) none, .blk [.n x0.fa.fb, .mp 3, .mp 4, .n x0.fa.fAt, .b x0.fa.ff], .mapo (encM (kI .i64) (kI .i64) x0.fa.fj), .mapo (encM (kI .i64) (kI .i64) x0.fa.fk), .blk [.n x2.fN, .n x2.fm, .n x2.fy, .b (pickB x2.fz true (notB z1.fq))], .dead, .blk [.ptr 6 0, .b z1.fq]]) 1 x1 (Td.mk r1.2.2 z1.fq) x0.fg [6] (by rfl) (by decide) (by simp) (by simp [into]) (by simp) (by rfl)) ?_
   refine AWp.ret ?_
   obtain rfl := La hr
   refine Lf ?_
   simp

@[simp] noncomputable def gI.S : Sp
 | [.ptr i0 0, .lit (.int .i64 x1), .agg e2], M => match M[i0]? with
  | some (.blk c0) => (match nthE c0 5 with
  | some (.mp i1) => (match M[i1]? with
  | some (.own c1 none) => (match nthE c0 6 with
  | some (.ptr i2 0) => (match M[i2]? with
  | some (.blk c2) => (match nthE c2 1 with
  | some (.mp i3) => (match M[i3]? with
  | some (.mapo c3) => (match nthE c2 2 with
  | some (.mp i4) => (match M[i4]? with
  | some (.mapo c4) => (fun (y0 : Tg) => (fun (y1 : Ta) => (fun (r : List Tc × Bool × Tg) => some { av := .tup [.sl ((r.1).map Tc.enc) .no, .lit (.bool (r.2.1))], M := some (((((M.set i0 (.blk [.lit (.int .i64 (r.2.2.fe.fh)), .lit (.int .i64 (r.2.2.fe.fo)), .lit (.int .i64 (r.2.2.fe.fu)), .lit (.int .i64 (r.2.2.fe.fb)), .lit (.int .i64 (r.2.2.fe.fp)), .mp i1, .ptr i2 0, .lit (.int .i64 (r.2.2.fc)), .lit (.int .i64 (r.2.2.fd))])).set i1 (.own (Td.own .i64 (r.2.2.fg) none) none)).set i2 (.blk [.lit (.int .i64 (r.2.2.fa.fb)), .mp i3, .mp i4, .lit (.int .i64 (r.2.2.fa.fAt)), .lit (.bool (r.2.2.fa.ff))])).set i3 (.mapo (encM (kI .i64) (kI .i64) (r.2.2.fa.fj)))).set i4 (.mapo (encM (kI .i64) (kI .i64) (r.2.2.fa.fk)))), obl := WeakL e2 (Ta.enc y1) ∧ c0 = Tg.enc y0 i1 i2 ∧ c1 = Td.own .i64 (y0.fg) none ∧ c2 = Tq.enc (y0.fa) i3 i4 ∧ c3 = encM (kI .i64) (kI .i64) (y0.fa.fj) ∧ c4 = encM (kI .i64) (kI .i64) (y0.fa.fk) ∧ (gI y0 x1 y1).isSome = true ∧ i0 ≠ i1 ∧ i0 ≠ i2 ∧ i0 ≠ i3 ∧ i0 ≠ i4 ∧ i1 ≠ i2 ∧ i1 ≠ i3 ∧ i1 ≠ i4 ∧ i2 ≠ i3 ∧ i2 ≠ i4 ∧ i3 ≠ i4 }) ((gI y0 x1 y1).getD dflt)) (Ta.dec e2)) (Tg.dec c0 (decM dkI Td.dfl c1.data) (Tq.dec c2 (decM dkI dkI c3) (decM dkI dkI c4)))
  | _ => none)
  | _ => none)
  | _ => none)
  | _ => none)
  | _ => none)
  | _ => none)
  | _ => none)
  | _ => none)
  | _ => none
 | _, _ => none

theorem gI.ok : SpecOk Try.prog 22 gI.S := by
 intro l M out h
 unfold gI.S at h
 split at h
 ·rename_i i0 x1 e2
  split at h
  case h_2 => cases h
  rename_i c0 hM0
  split at h
  case h_2 => cases h
  rename_i i1 he1
  split at h
  case h_2 => cases h
  rename_i c1 hM1
  split at h
  case h_2 => cases h
  rename_i i2 he2
  split at h
  case h_2 => cases h
  rename_i c2 hM2
  split at h
  case h_2 => cases h
  rename_i i3 he3
  split at h
  case h_2 => cases h
  rename_i c3 hM3
  split at h
  case h_2 => cases h
  rename_i i4 he4
  split at h
  case h_2 => cases h
  rename_i c4 hM4
  try dsimp only at h
  cases h
  refine callOk_of fun ho => ?_
  obtain ⟨ox2, oc0, oc1, oc2, oc3, oc4, hs, hne0, hne1, hne2, hne3, hne4, hne5, hne6, hne7, hne8, hne9⟩ := ho
  generalize (Tg.dec c0 (decM dkI Td.dfl c1.data) (Tq.dec c2 (decM dkI dkI c3) (decM dkI dkI c4))) = y0 at *
  generalize (Ta.dec e2) = x2 at *
  subst oc0
  subst oc1
  subst oc2
  subst oc3
  subst oc4
  obtain ⟨r, hr⟩ := Option.isSome_iff_exists.1 hs
  simp only [hr, Option.getD_some]
  have q := Lk (M := M) [i0, i1, i2, i3, i4] (gI.can y0 x1 x2 r hr) (by simp [hne0, hne1, hne2, hne3, hne4, hne5, hne6, hne7, hne8, hne9]) rfl (by intro k i hk; (cases k with | zero => (simp at hk; subst hk; simp [hM0, into]) | succ k => ((cases k with | zero => (simp at hk; subst hk; simp [hM1]) | succ k => ((cases k with | zero => (simp at hk; subst hk; simp [hM2, into]) | succ k => ((cases k with | zero => (simp at hk; subst hk; simp [hM3]) | succ k => ((cases k with | zero => (simp at hk; subst hk; simp [hM4]) | succ k => (simp at hk)))))))))))
  exact callOk_conv q trivial (by simp [into]; exact ox2) (by simp [frameOut, gI.out, into]) (by simp [frameOut, gI.out, into])
 ·cases h

@[simp] def gV.out (_x0 : Tg) (_x1 : Int) (r : Bool) : Out := { av := .lit (.bool r), M := none }
theorem gV.can (x0 : Tg) (x1 : Int) (r : Bool) (hr : gV x0 x1 = some r) : CallOk Try.prog 12 [.ptr 0 0, .lit (.int .i64 x1)] [.blk (x0.fe.enc ++ [.mp 1, .ptr 2 0, .lit (.int .i64 x0.fc), .lit (.int .i64 x0.fd)]), .own (Td.own .i64 x0.fg none) none, .blk [.lit (.int .i64 x0.fa.fb), .mp 3, .mp 4, .lit (.int .i64 x0.fa.fAt), .lit (.bool x0.fa.ff)], .mapo (encM (kI .i64) (kI .i64) x0.fa.fj), .mapo (encM (kI .i64) (kI .i64) x0.fa.fk)] (gV.out x0 x1 r) := by
 unfold gV at hr
 have hΓ := (gamL_cons gY.ok (gamL_nil) : GamOk Try.prog _)
 refine Lg Try.tyOk Try.func12 rfl (by kernel_rfl) rfl rfl (by simp) ?_
 intro _ _ _
 refine Try.tg hΓ [] [] (by kernel_rfl) rfl (by simp; exact rr) ?_
 cases h3 : findM eqI x1 x0.fg with
 | none =>
  have hr := optC_n h3 hr
  refine AWp.see (See.missI (M' := [.blk (x0.fe.enc ++ [.mp 1, .ptr 2 0, .n x0.fc, .n x0.fd]), .own (Td.own .i64 x0.fg none) (some (.int .i64 x1, none)), .blk [.n x0.fa.fb, .mp 3, .mp 4, .n x0.fa.fAt, .b x0.fa.ff], .mapo (encM (kI .i64) (kI .i64) x0.fa.fj), .mapo (encM (kI .i64) (kI .i64) x0.fa.fk)]) 1 x1 x0.fg h3 (by rfl) (by rfl)) ?_
  refine Try.tg hΓ [5, 6] [0, 1] (by kernel_rfl) rfl (by simp; exact rr) ?_
  refine AWp.thn (AWp.regG Try.tyOk hΓ [(17, false)] (keep := [4]) (dead := [5, 6]) (by kernel_rfl) rfl (by simp; exact rr)) ?_
  refine AWp.see (See.shutM (M' := [.blk (x0.fe.enc ++ [.mp 1, .ptr 2 0, .n x0.fc, .n x0.fd]), .own (Td.own .i64 x0.fg none) none, .blk [.n x0.fa.fb, .mp 3, .mp 4, .n x0.fa.fAt, .b x0.fa.ff], .mapo (encM (kI .i64) (kI .i64) x0.fa.fj), .mapo (encM (kI .i64) (kI .i64) x0.fa.fk), .blk [.lit (.pointer none), .b false]]) 1 (by rfl) (by rfl)) ?_
  refine AWp.ret ?_
  obtain rfl := La hr
  refine Lf ?_
  simp
 | some z1 =>
  have hr := optC_s h3 hr
  refine AWp.see (See.openI (M' := [.blk (x0.fe.enc ++ [.mp 1, .ptr 2 0, .n x0.fc, .n x0.fd]), .own (Td.own .i64 x0.fg (some (.int .i64 x1))) (some (.int .i64 x1, some (.agg [.ptr 5 0, .b z1.fq]))), .blk [.n x0.fa.fb, .mp 3, .mp 4, .n x0.fa.fAt, .b x0.fa.ff], .mapo (encM (kI .i64) (kI .i64) x0.fa.fj), .mapo (encM (kI .i64) (kI .i64) x0.fa.fk), .blk z1.fA.enc]) 1 x1 z1 x0.fg h3 (by rfl) (by simp)) ?_
  refine Try.tg hΓ [5, 6] [0, 1] (by kernel_rfl) rfl (by simp; exact rr) ?_
  obtain ⟨h4, hr⟩ := Lb hr
  refine Try.tg hΓ [4] [5, 6] (by kernel_rfl) rfl (by simp [h4]; exact rr) ?_
  refine AWp.see (See.closeS (M' := [.blk (x0.fe.enc ++ [.mp 1, .ptr 2 0, .n x0.fc, .n x0.fd]), .own (Td.own .i64 x0.fg none) none, .blk [.n x0.fa.fb, .mp 3, .mp 4, .n x0.fa.fAt, .b x0.fa.ff], .mapo (encM (kI .i64) (kI .i64) x0.fa.fj), .mapo (encM (kI .i64) (kI .i64) x0.fa.fk), .dead, .blk [.ptr 5 0, .b z1.fq]]) 1 x1 z1 x0.fg [5] h3 (by rfl) (by decide) (by simp) (by simp [into]) (by simp) (by rfl)) ?_
  refine AWp.ret ?_
  obtain rfl := La hr
  refine Lf ?_
  simp

@[simp] noncomputable def gV.S : Sp
 | [.ptr i0 0, .lit (.int .i64 x1)], M => match M[i0]? with
  | some (.blk c0) => (match nthE c0 5 with
  | some (.mp i1) => (match M[i1]? with
  | some (.own c1 none) => (match nthE c0 6 with
  | some (.ptr i2 0) => (match M[i2]? with
  | some (.blk c2) => (match nthE c2 1 with
  | some (.mp i3) => (match M[i3]? with
  | some (.mapo c3) => (match nthE c2 2 with
  | some (.mp i4) => (match M[i4]? with
  | some (.mapo c4) => (fun (y0 : Tg) => some { av := .lit (.bool ((gV y0 x1).getD dflt)), M := none, obl := c0 = Tg.enc y0 i1 i2 ∧ c1 = Td.own .i64 (y0.fg) none ∧ c2 = Tq.enc (y0.fa) i3 i4 ∧ c3 = encM (kI .i64) (kI .i64) (y0.fa.fj) ∧ c4 = encM (kI .i64) (kI .i64) (y0.fa.fk) ∧ (gV y0 x1).isSome = true ∧ i0 ≠ i1 ∧ i0 ≠ i2 ∧ i0 ≠ i3 ∧ i0 ≠ i4 ∧ i1 ≠ i2 ∧ i1 ≠ i3 ∧ i1 ≠ i4 ∧ i2 ≠ i3 ∧ i2 ≠ i4 ∧ i3 ≠ i4 }) (Tg.dec c0 (decM dkI Td.dfl c1.data) (Tq.dec c2 (decM dkI dkI c3) (decM dkI dkI c4)))
  | _ => none)
  | _ => none)
  | _ => none)
  | _ => none)
  | _ => none)
  | _ => none)
  | _ => none)
  | _ => none)
  | _ => none
 | _, _ => none

theorem gV.ok : SpecOk Try.prog 12 gV.S := by
 intro l M out h
 unfold gV.S at h
 split at h
 ·rename_i i0 x1
  split at h
  case h_2 => cases h
  rename_i c0 hM0
  split at h
  case h_2 => cases h
  rename_i i1 he1
  split at h
  case h_2 => cases h
  rename_i c1 hM1
  split at h
  case h_2 => cases h
  rename_i i2 he2
  split at h
  case h_2 => cases h
  rename_i c2 hM2
  split at h
  case h_2 => cases h
  rename_i i3 he3
  split at h
  case h_2 => cases h
  rename_i c3 hM3
  split at h
  case h_2 => cases h
  rename_i i4 he4
  split at h
  case h_2 => cases h
  rename_i c4 hM4
  try dsimp only at h
  cases h
  refine callOk_of fun ho => ?_
  obtain ⟨oc0, oc1, oc2, oc3, oc4, hs, hne0, hne1, hne2, hne3, hne4, hne5, hne6, hne7, hne8, hne9⟩ := ho
  generalize (Tg.dec c0 (decM dkI Td.dfl c1.data) (Tq.dec c2 (decM dkI dkI c3) (decM dkI dkI c4))) = y0 at *
  subst oc0
  subst oc1
  subst oc2
  subst oc3
  subst oc4
  obtain ⟨r, hr⟩ := Option.isSome_iff_exists.1 hs
  simp only [hr, Option.getD_some]
  have q := Lk (M := M) [i0, i1, i2, i3, i4] (gV.can y0 x1 r hr) (by simp [hne0, hne1, hne2, hne3, hne4, hne5, hne6, hne7, hne8, hne9]) rfl (by intro k i hk; (cases k with | zero => (simp at hk; subst hk; simp [hM0, into]) | succ k => ((cases k with | zero => (simp at hk; subst hk; simp [hM1]) | succ k => ((cases k with | zero => (simp at hk; subst hk; simp [hM2, into]) | succ k => ((cases k with | zero => (simp at hk; subst hk; simp [hM3]) | succ k => ((cases k with | zero => (simp at hk; subst hk; simp [hM4]) | succ k => (simp at hk)))))))))))
  exact callOk_conv q trivial (by simp [into]) (by simp [frameOut, gV.out, into]) (by simp only [frameOut, gV.out, Option.getD_some, Option.getD_none]; simp [into, hM0, hM1, hM2, hM3, hM4, set_same])
 ·cases h

@[simp] def gL.out (_x0 : Tg) (_x1 : Int) (r : Int × Int) : Out := { av := .tup [.lit (.int .i64 r.1), .lit (.int .i64 r.2)], M := none }
theorem gL.can (x0 : Tg) (x1 : Int) (r : Int × Int) (hr : gL x0 x1 = some r) : CallOk Try.prog 18 [.ptr 0 0, .lit (.int .i64 x1)] [.blk (x0.fe.enc ++ [.mp 1, .ptr 2 0, .lit (.int .i64 x0.fc), .lit (.int .i64 x0.fd)]), .own (Td.own .i64 x0.fg none) none, .blk [.lit (.int .i64 x0.fa.fb), .mp 3, .mp 4, .lit (.int .i64 x0.fa.fAt), .lit (.bool x0.fa.ff)], .mapo (encM (kI .i64) (kI .i64) x0.fa.fj), .mapo (encM (kI .i64) (kI .i64) x0.fa.fk)] (gL.out x0 x1 r) := by
 unfold gL at hr
 have hΓ := (gamL_cons gab.ok (gamL_cons gao.ok (gamL_nil)) : GamOk Try.prog _)
 refine Lg Try.tyOk Try.func18 rfl (by kernel_rfl) rfl rfl (by simp) ?_
 intro _ _ _
 refine Try.tg hΓ [] [] (by kernel_rfl) rfl (by simp; exact rr) ?_
 cases h4 : findM eqI x1 x0.fg with
 | none =>
  have hr := optC_n h4 hr
  refine AWp.see (See.missI (M' := [.blk (x0.fe.enc ++ [.mp 1, .ptr 2 0, .n x0.fc, .n x0.fd]), .own (Td.own .i64 x0.fg none) (some (.int .i64 x1, none)), .blk [.n x0.fa.fb, .mp 3, .mp 4, .n x0.fa.fAt, .b x0.fa.ff], .mapo (encM (kI .i64) (kI .i64) x0.fa.fj), .mapo (encM (kI .i64) (kI .i64) x0.fa.fk)]) 1 x1 x0.fg h4 (by rfl) (by rfl)) ?_
  refine Try.tg hΓ [6, 7] [0, 1] (by kernel_rfl) rfl (by simp; exact rr) ?_
  refine AWp.seq ?_
  refine Try.tg hΓ [18] [7] (by kernel_rfl) rfl (by simp; exact rr) ?_
  refine AWp.cond (b := true) (by simp) (fun hb => ?_) (fun hb => ?_)
  ·refine Try.tg hΓ [4, 5] [18, 6] (by kernel_rfl) rfl (by simp; exact rr) ?_
   refine AWp.see (See.shutM (M' := [.blk (x0.fe.enc ++ [.mp 1, .ptr 2 0, .n x0.fc, .n x0.fd]), .own (Td.own .i64 x0.fg none) none, .blk [.n x0.fa.fb, .mp 3, .mp 4, .n x0.fa.fAt, .b x0.fa.ff], .mapo (encM (kI .i64) (kI .i64) x0.fa.fj), .mapo (encM (kI .i64) (kI .i64) x0.fa.fk), .blk [.lit (.pointer none), .b false]]) 1 (by rfl) (by rfl)) ?_
   refine AWp.ret ?_
   obtain rfl := La hr
   refine Lf ?_
   simp
  ·cases hb
 | some z1 =>
  have hr := optC_s h4 hr
  refine AWp.see (See.openI (M' := [.blk (x0.fe.enc ++ [.mp 1, .ptr 2 0, .n x0.fc, .n x0.fd]), .own (Td.own .i64 x0.fg (some (.int .i64 x1))) (some (.int .i64 x1, some (.agg [.ptr 5 0, .b z1.fq]))), .blk [.n x0.fa.fb, .mp 3, .mp 4, .n x0.fa.fAt, .b x0.fa.ff], .mapo (encM (kI .i64) (kI .i64) x0.fa.fj), .mapo (encM (kI .i64) (kI .i64) x0.fa.fk), .blk z1.fA.enc]) 1 x1 z1 x0.fg h4 (by rfl) (by simp)) ?_
  refine Try.tg hΓ [6, 7] [0, 1] (by kernel_rfl) rfl (by simp; exact rr) ?_
  refine AWp.seq ?_
  refine Try.tg hΓ [18] [7] (by kernel_rfl) rfl (by simp; exact rr) ?_
  refine AWp.cond (b := false) (by simp) (fun hb => ?_) (fun hb => ?_)
  ·cases hb
  ·refine AWp.skip ?_
   obtain ⟨r1, h5, hr⟩ := Lc hr
   obtain ⟨r2, h6, hr⟩ := Lc hr
   refine Try.td hΓ [4, 5] [18, 6] [] [(false, []), (false, []), (false, []), (false, []), (false, []), (false, []), (false, []), (false, [])] (by kernel_rfl) rfl (by simp [h5, h6]; exact rr) ?_
   refine AWp.see (See.closeS (M' := [.blk (x0.fe.enc ++ [.mp 1, .ptr 2 0, .n x0.fc, .n x0.fd]), .own (Td.own .i64 x0.fg none) none, .blk [.n x0.fa.fb, .mp 3, .mp 4, .n x0.fa.fAt, .b x0.fa.ff], .mapo (encM (kI .i64) (kI .i64) x0.fa.fj), .mapo (encM (kI .i64) (kI .i64) x0.fa.fk), .dead, .blk [.ptr 5 0, .b z1.fq]]) 1 x1 z1 x0.fg [5] h4 (by rfl) (by decide) (by simp) (by simp [into]) (by simp) (by rfl)) ?_
   refine AWp.ret ?_
   obtain rfl := La hr
   refine Lf ?_
   simp

@[simp] noncomputable def gL.S : Sp
 | [.ptr i0 0, .lit (.int .i64 x1)], M => match M[i0]? with
  | some (.blk c0) => (match nthE c0 5 with
  | some (.mp i1) => (match M[i1]? with
  | some (.own c1 none) => (match nthE c0 6 with
  | some (.ptr i2 0) => (match M[i2]? with
  | some (.blk c2) => (match nthE c2 1 with
  | some (.mp i3) => (match M[i3]? with
  | some (.mapo c3) => (match nthE c2 2 with
  | some (.mp i4) => (match M[i4]? with
  | some (.mapo c4) => (fun (y0 : Tg) => (fun (r : Int × Int) => some { av := .tup [.lit (.int .i64 (r.1)), .lit (.int .i64 (r.2))], M := none, obl := c0 = Tg.enc y0 i1 i2 ∧ c1 = Td.own .i64 (y0.fg) none ∧ c2 = Tq.enc (y0.fa) i3 i4 ∧ c3 = encM (kI .i64) (kI .i64) (y0.fa.fj) ∧ c4 = encM (kI .i64) (kI .i64) (y0.fa.fk) ∧ (gL y0 x1).isSome = true ∧ i0 ≠ i1 ∧ i0 ≠ i2 ∧ i0 ≠ i3 ∧ i0 ≠ i4 ∧ i1 ≠ i2 ∧ i1 ≠ i3 ∧ i1 ≠ i4 ∧ i2 ≠ i3 ∧ i2 ≠ i4 ∧ i3 ≠ i4 }) ((gL y0 x1).getD dflt)) (Tg.dec c0 (decM dkI Td.dfl c1.data) (Tq.dec c2 (decM dkI dkI c3) (decM dkI dkI c4)))
  | _ => none)
  | _ => none)
  | _ => none)
  | _ => none)
  | _ => none)
  | _ => none)
  | _ => none)
  | _ => none)
  | _ => none
 | _, _ => none

theorem gL.ok : SpecOk Try.prog 18 gL.S := by
 intro l M out h
 unfold gL.S at h
 split at h
 ·rename_i i0 x1
  split at h
  case h_2 => cases h
  rename_i c0 hM0
  split at h
  case h_2 => cases h
  rename_i i1 he1
  split at h
  case h_2 => cases h
  rename_i c1 hM1
  split at h
  case h_2 => cases h
  rename_i i2 he2
  split at h
  case h_2 => cases h
  rename_i c2 hM2
  split at h
  case h_2 => cases h
  rename_i i3 he3
  split at h
  case h_2 => cases h
  rename_i c3 hM3
  split at h
  case h_2 => cases h
  rename_i i4 he4
  split at h
  case h_2 => cases h
  rename_i c4 hM4
  try dsimp only at h
  cases h
  refine callOk_of fun ho => ?_
  obtain ⟨oc0, oc1, oc2, oc3, oc4, hs, hne0, hne1, hne2, hne3, hne4, hne5, hne6, hne7, hne8, hne9⟩ := ho
  generalize (Tg.dec c0 (decM dkI Td.dfl c1.data) (Tq.dec c2 (decM dkI dkI c3) (decM dkI dkI c4))) = y0 at *
  subst oc0
  subst oc1
  subst oc2
  subst oc3
  subst oc4
  obtain ⟨r, hr⟩ := Option.isSome_iff_exists.1 hs
  simp only [hr, Option.getD_some]
  have q := Lk (M := M) [i0, i1, i2, i3, i4] (gL.can y0 x1 r hr) (by simp [hne0, hne1, hne2, hne3, hne4, hne5, hne6, hne7, hne8, hne9]) rfl (by intro k i hk; (cases k with | zero => (simp at hk; subst hk; simp [hM0, into]) | succ k => ((cases k with | zero => (simp at hk; subst hk; simp [hM1]) | succ k => ((cases k with | zero => (simp at hk; subst hk; simp [hM2, into]) | succ k => ((cases k with | zero => (simp at hk; subst hk; simp [hM3]) | succ k => ((cases k with | zero => (simp at hk; subst hk; simp [hM4]) | succ k => (simp at hk)))))))))))
  exact callOk_conv q trivial (by simp [into]) (by simp [frameOut, gL.out, into]) (by simp only [frameOut, gL.out, Option.getD_some, Option.getD_none]; simp [into, hM0, hM1, hM2, hM3, hM4, set_same])
 ·cases h

@[simp] def gT.out (_x0 : Tg) (_x1 : Int) (r : Tg) : Out := { av := .tup [], M := some [.blk [.lit (.int .i64 r.fe.fh), .lit (.int .i64 r.fe.fo), .lit (.int .i64 r.fe.fu), .lit (.int .i64 r.fe.fb), .lit (.int .i64 r.fe.fp), .mp 1, .ptr 2 0, .lit (.int .i64 r.fc), .lit (.int .i64 r.fd)], .own (Td.own .i64 r.fg none) none, .blk [.lit (.int .i64 r.fa.fb), .mp 3, .mp 4, .lit (.int .i64 r.fa.fAt), .lit (.bool r.fa.ff)], .mapo (encM (kI .i64) (kI .i64) r.fa.fj), .mapo (encM (kI .i64) (kI .i64) r.fa.fk)] }
theorem gT.can (x0 : Tg) (x1 : Int) (r : Tg) (hr : gT x0 x1 = some r) : CallOk Try.prog 23 [.ptr 0 0, .lit (.int .i64 x1)] [.blk (x0.fe.enc ++ [.mp 1, .ptr 2 0, .lit (.int .i64 x0.fc), .lit (.int .i64 x0.fd)]), .own (Td.own .i64 x0.fg none) none, .blk [.lit (.int .i64 x0.fa.fb), .mp 3, .mp 4, .lit (.int .i64 x0.fa.fAt), .lit (.bool x0.fa.ff)], .mapo (encM (kI .i64) (kI .i64) x0.fa.fj), .mapo (encM (kI .i64) (kI .i64) x0.fa.fk)] (gT.out x0 x1 r) := by
 unfold gT at hr
 have hΓ := gamL_nil (P := Try.prog)
 refine Lg Try.tyOk Try.func23 rfl (by kernel_rfl) rfl rfl (by simp) ?_
 intro _ _ _
 refine AWp.lst (AWp.reg Try.tyOk hΓ [] [0, 1] (by kernel_rfl) rfl (by simp; exact rr)) ?_
 obtain rfl := La hr
 refine fin_norm ?_
 simp

@[simp] noncomputable def gT.S : Sp
 | [.ptr i0 0, .lit (.int .i64 x1)], M => match M[i0]? with
  | some (.blk c0) => (match nthE c0 5 with
  | some (.mp i1) => (match M[i1]? with
  | some (.own c1 none) => (match nthE c0 6 with
  | some (.ptr i2 0) => (match M[i2]? with
  | some (.blk c2) => (match nthE c2 1 with
  | some (.mp i3) => (match M[i3]? with
  | some (.mapo c3) => (match nthE c2 2 with
  | some (.mp i4) => (match M[i4]? with
  | some (.mapo c4) => (fun (y0 : Tg) => (fun (r : Tg) => some { av := .tup [], M := some (((((M.set i0 (.blk [.lit (.int .i64 (r.fe.fh)), .lit (.int .i64 (r.fe.fo)), .lit (.int .i64 (r.fe.fu)), .lit (.int .i64 (r.fe.fb)), .lit (.int .i64 (r.fe.fp)), .mp i1, .ptr i2 0, .lit (.int .i64 (r.fc)), .lit (.int .i64 (r.fd))])).set i1 (.own (Td.own .i64 (r.fg) none) none)).set i2 (.blk [.lit (.int .i64 (r.fa.fb)), .mp i3, .mp i4, .lit (.int .i64 (r.fa.fAt)), .lit (.bool (r.fa.ff))])).set i3 (.mapo (encM (kI .i64) (kI .i64) (r.fa.fj)))).set i4 (.mapo (encM (kI .i64) (kI .i64) (r.fa.fk)))), obl := c0 = Tg.enc y0 i1 i2 ∧ c1 = Td.own .i64 (y0.fg) none ∧ c2 = Tq.enc (y0.fa) i3 i4 ∧ c3 = encM (kI .i64) (kI .i64) (y0.fa.fj) ∧ c4 = encM (kI .i64) (kI .i64) (y0.fa.fk) ∧ (gT y0 x1).isSome = true ∧ i0 ≠ i1 ∧ i0 ≠ i2 ∧ i0 ≠ i3 ∧ i0 ≠ i4 ∧ i1 ≠ i2 ∧ i1 ≠ i3 ∧ i1 ≠ i4 ∧ i2 ≠ i3 ∧ i2 ≠ i4 ∧ i3 ≠ i4 }) ((gT y0 x1).getD dflt)) (Tg.dec c0 (decM dkI Td.dfl c1.data) (Tq.dec c2 (decM dkI dkI c3) (decM dkI dkI c4)))
  | _ => none)
  | _ => none)
  | _ => none)
  | _ => none)
  | _ => none)
  | _ => none)
  | _ => none)
  | _ => none)
  | _ => none
 | _, _ => none

theorem gT.ok : SpecOk Try.prog 23 gT.S := by
 intro l M out h
 unfold gT.S at h
 split at h
 ·rename_i i0 x1
  split at h
  case h_2 => cases h
  rename_i c0 hM0
  split at h
  case h_2 => cases h
  rename_i i1 he1
  split at h
  case h_2 => cases h
  rename_i c1 hM1
  split at h
  case h_2 => cases h
  rename_i i2 he2
  split at h
  case h_2 => cases h
  rename_i c2 hM2
  split at h
  case h_2 => cases h
  rename_i i3 he3
  split at h
  case h_2 => cases h
  rename_i c3 hM3
  split at h
  case h_2 => cases h
  rename_i i4 he4
  split at h
  case h_2 => cases h
  rename_i c4 hM4
  try dsimp only at h
  cases h
  refine callOk_of fun ho => ?_
  obtain ⟨oc0, oc1, oc2, oc3, oc4, hs, hne0, hne1, hne2, hne3, hne4, hne5, hne6, hne7, hne8, hne9⟩ := ho
  generalize (Tg.dec c0 (decM dkI Td.dfl c1.data) (Tq.dec c2 (decM dkI dkI c3) (decM dkI dkI c4))) = y0 at *
  subst oc0
  subst oc1
  subst oc2
  subst oc3
  subst oc4
  obtain ⟨r, hr⟩ := Option.isSome_iff_exists.1 hs
  simp only [hr, Option.getD_some]
  have q := Lk (M := M) [i0, i1, i2, i3, i4] (gT.can y0 x1 r hr) (by simp [hne0, hne1, hne2, hne3, hne4, hne5, hne6, hne7, hne8, hne9]) rfl (by intro k i hk; (cases k with | zero => (simp at hk; subst hk; simp [hM0, into]) | succ k => ((cases k with | zero => (simp at hk; subst hk; simp [hM1]) | succ k => ((cases k with | zero => (simp at hk; subst hk; simp [hM2, into]) | succ k => ((cases k with | zero => (simp at hk; subst hk; simp [hM3]) | succ k => ((cases k with | zero => (simp at hk; subst hk; simp [hM4]) | succ k => (simp at hk)))))))))))
  exact callOk_conv q trivial (by simp [into]) (by simp [frameOut, gT.out, into]) (by simp [frameOut, gT.out, into])
 ·cases h

@[simp] def gp.out (_x0 : Tg) (r : Int) : Out := { av := .lit (.int .i64 r), M := none }
theorem gp.can (x0 : Tg) (r : Int) (hr : gp x0 = some r) : CallOk Try.prog 16 [.ptr 0 0] [.blk (x0.fe.enc ++ [.mp 1, .ptr 2 0, .lit (.int .i64 x0.fc), .lit (.int .i64 x0.fd)]), .own (Td.own .i64 x0.fg none) none, .blk [.lit (.int .i64 x0.fa.fb), .mp 3, .mp 4, .lit (.int .i64 x0.fa.fAt), .lit (.bool x0.fa.ff)], .mapo (encM (kI .i64) (kI .i64) x0.fa.fj), .mapo (encM (kI .i64) (kI .i64) x0.fa.fk)] (gp.out x0 r) := by
 unfold gp at hr
 have hΓ := gamL_nil (P := Try.prog)
 refine Lg Try.tyOk Try.func16 rfl (by kernel_rfl) rfl rfl (by simp) ?_
 intro _ _ _
 refine Try.tg hΓ [] [] (by kernel_rfl) rfl (by simp; exact rr) ?_
 refine Try.tg hΓ [2] [0] (by kernel_rfl) rfl (by simp; exact rr) ?_
 refine AWp.ret ?_
 obtain rfl := La hr
 refine Lf ?_
 simp

@[simp] noncomputable def gp.S : Sp
 | [.ptr i0 0], M => match M[i0]? with
  | some (.blk c0) => (match nthE c0 5 with
  | some (.mp i1) => (match M[i1]? with
  | some (.own c1 none) => (match nthE c0 6 with
  | some (.ptr i2 0) => (match M[i2]? with
  | some (.blk c2) => (match nthE c2 1 with
  | some (.mp i3) => (match M[i3]? with
  | some (.mapo c3) => (match nthE c2 2 with
  | some (.mp i4) => (match M[i4]? with
  | some (.mapo c4) => (fun (y0 : Tg) => some { av := .lit (.int .i64 ((gp y0).getD dflt)), M := none, obl := c0 = Tg.enc y0 i1 i2 ∧ c1 = Td.own .i64 (y0.fg) none ∧ c2 = Tq.enc (y0.fa) i3 i4 ∧ c3 = encM (kI .i64) (kI .i64) (y0.fa.fj) ∧ c4 = encM (kI .i64) (kI .i64) (y0.fa.fk) ∧ (gp y0).isSome = true ∧ i0 ≠ i1 ∧ i0 ≠ i2 ∧ i0 ≠ i3 ∧ i0 ≠ i4 ∧ i1 ≠ i2 ∧ i1 ≠ i3 ∧ i1 ≠ i4 ∧ i2 ≠ i3 ∧ i2 ≠ i4 ∧ i3 ≠ i4 }) (Tg.dec c0 (decM dkI Td.dfl c1.data) (Tq.dec c2 (decM dkI dkI c3) (decM dkI dkI c4)))
  | _ => none)
  | _ => none)
  | _ => none)
  | _ => none)
  | _ => none)
  | _ => none)
  | _ => none)
  | _ => none)
  | _ => none
 | _, _ => none

theorem gp.ok : SpecOk Try.prog 16 gp.S := by
 intro l M out h
 unfold gp.S at h
 split at h
 ·rename_i i0
  split at h
  case h_2 => cases h
  rename_i c0 hM0
  split at h
  case h_2 => cases h
  rename_i i1 he1
  split at h
  case h_2 => cases h
  rename_i c1 hM1
  split at h
  case h_2 => cases h
  rename_i i2 he2
  split at h
  case h_2 => cases h
  rename_i c2 hM2
  split at h
  case h_2 => cases h
  rename_i i3 he3
  split at h
  case h_2 => cases h
  rename_i c3 hM3
  split at h
  case h_2 => cases h
  rename_i i4 he4
  split at h
  case h_2 => cases h
  rename_i c4 hM4
  try dsimp only at h
  cases h
  refine callOk_of fun ho => ?_
  obtain ⟨oc0, oc1, oc2, oc3, oc4, hs, hne0, hne1, hne2, hne3, hne4, hne5, hne6, hne7, hne8, hne9⟩ := ho
  generalize (Tg.dec c0 (decM dkI Td.dfl c1.data) (Tq.dec c2 (decM dkI dkI c3) (decM dkI dkI c4))) = y0 at *
  subst oc0
  subst oc1
  subst oc2
  subst oc3
  subst oc4
  obtain ⟨r, hr⟩ := Option.isSome_iff_exists.1 hs
  simp only [hr, Option.getD_some]
  have q := Lk (M := M) [i0, i1, i2, i3, i4] (gp.can y0 r hr) (by simp [hne0, hne1, hne2, hne3, hne4, hne5, hne6, hne7, hne8, hne9]) rfl (by intro k i hk; (cases k with | zero => (simp at hk; subst hk; simp [hM0, into]) | succ k => ((cases k with | zero => (simp at hk; subst hk; simp [hM1]) | succ k => ((cases k with | zero => (simp at hk; subst hk; simp [hM2, into]) | succ k => ((cases k with | zero => (simp at hk; subst hk; simp [hM3]) | succ k => ((cases k with | zero => (simp at hk; subst hk; simp [hM4]) | succ k => (simp at hk)))))))))))
  exact callOk_conv q trivial (by simp [into]) (by simp [frameOut, gp.out, into]) (by simp only [frameOut, gp.out, Option.getD_some, Option.getD_none]; simp [into, hM0, hM1, hM2, hM3, hM4, set_same])
 ·cases h

@[simp] def gu.out (_x0 : Tg) (_x1 : Int) (r : Bool × Tg) : Out := { av := .lit (.bool r.1), M := some [.blk [.lit (.int .i64 r.2.fe.fh), .lit (.int .i64 r.2.fe.fo), .lit (.int .i64 r.2.fe.fu), .lit (.int .i64 r.2.fe.fb), .lit (.int .i64 r.2.fe.fp), .mp 1, .ptr 2 0, .lit (.int .i64 r.2.fc), .lit (.int .i64 r.2.fd)], .own (Td.own .i64 r.2.fg none) none, .blk [.lit (.int .i64 r.2.fa.fb), .mp 3, .mp 4, .lit (.int .i64 r.2.fa.fAt), .lit (.bool r.2.fa.ff)], .mapo (encM (kI .i64) (kI .i64) r.2.fa.fj), .mapo (encM (kI .i64) (kI .i64) r.2.fa.fk)] }
theorem gu.can (x0 : Tg) (x1 : Int) (r : Bool × Tg) (hr : gu x0 x1 = some r) : CallOk Try.prog 17 [.ptr 0 0, .lit (.int .i64 x1)] [.blk (x0.fe.enc ++ [.mp 1, .ptr 2 0, .lit (.int .i64 x0.fc), .lit (.int .i64 x0.fd)]), .own (Td.own .i64 x0.fg none) none, .blk [.lit (.int .i64 x0.fa.fb), .mp 3, .mp 4, .lit (.int .i64 x0.fa.fAt), .lit (.bool x0.fa.ff)], .mapo (encM (kI .i64) (kI .i64) x0.fa.fj), .mapo (encM (kI .i64) (kI .i64) x0.fa.fk)] (gu.out x0 x1 r) := by
 unfold gu at hr
 have hΓ := gamL_nil (P := Try.prog)
 refine Lg Try.tyOk Try.func17 rfl (by kernel_rfl) rfl rfl (by simp) ?_
 intro _ _ _
 refine Try.tg hΓ [] [] (by kernel_rfl) rfl (by simp; exact rr) ?_
 refine AWp.seq ?_
 refine Try.tg hΓ [14] [] (by kernel_rfl) rfl (by simp; exact rr) ?_
 refine AWp.cond (b := (pickB (ltI x1 0) true (ltI x0.fc x1))) (by simp) (fun h2 => ?_) (fun h2 => ?_)
 ·have hr := Li h2 hr
  refine Try.tg hΓ [4] [14, 0, 1] (by kernel_rfl) rfl (by simp [h2]; exact rr) ?_
  refine AWp.ret ?_
  obtain rfl := La hr
  refine Lf ?_
  simp
 ·have hr := Lj h2 hr
  refine AWp.skip ?_
  refine Try.tg hΓ [] [14, 0, 1] (by kernel_rfl) rfl (by simp [h2]; exact rr) ?_
  refine Try.tg hΓ [4] [] (by kernel_rfl) rfl (by simp; exact rr) ?_
  refine AWp.ret ?_
  obtain rfl := La hr
  refine Lf ?_
  simp

@[simp] noncomputable def gu.S : Sp
 | [.ptr i0 0, .lit (.int .i64 x1)], M => match M[i0]? with
  | some (.blk c0) => (match nthE c0 5 with
  | some (.mp i1) => (match M[i1]? with
  | some (.own c1 none) => (match nthE c0 6 with
  | some (.ptr i2 0) => (match M[i2]? with
  | some (.blk c2) => (match nthE c2 1 with
  | some (.mp i3) => (match M[i3]? with
  | some (.mapo c3) => (match nthE c2 2 with
  | some (.mp i4) => (match M[i4]? with
  | some (.mapo c4) => (fun (y0 : Tg) => (fun (r : Bool × Tg) => some { av := .lit (.bool (r.1)), M := some (((((M.set i0 (.blk [.lit (.int .i64 (r.2.fe.fh)), .lit (.int .i64 (r.2.fe.fo)), .lit (.int .i64 (r.2.fe.fu)), .lit (.int .i64 (r.2.fe.fb)), .lit (.int .i64 (r.2.fe.fp)), .mp i1, .ptr i2 0, .lit (.int .i64 (r.2.fc)), .lit (.int .i64 (r.2.fd))])).set i1 (.own (Td.own .i64 (r.2.fg) none) none)).set i2 (.blk [.lit (.int .i64 (r.2.fa.fb)), .mp i3, .mp i4, .lit (.int .i64 (r.2.fa.fAt)), .lit (.bool (r.2.fa.ff))])).set i3 (.mapo (encM (kI .i64) (kI .i64) (r.2.fa.fj)))).set i4 (.mapo (encM (kI .i64) (kI .i64) (r.2.fa.fk)))), obl := c0 = Tg.enc y0 i1 i2 ∧ c1 = Td.own .i64 (y0.fg) none ∧ c2 = Tq.enc (y0.fa) i3 i4 ∧ c3 = encM (kI .i64) (kI .i64) (y0.fa.fj) ∧ c4 = encM (kI .i64) (kI .i64) (y0.fa.fk) ∧ (gu y0 x1).isSome = true ∧ i0 ≠ i1 ∧ i0 ≠ i2 ∧ i0 ≠ i3 ∧ i0 ≠ i4 ∧ i1 ≠ i2 ∧ i1 ≠ i3 ∧ i1 ≠ i4 ∧ i2 ≠ i3 ∧ i2 ≠ i4 ∧ i3 ≠ i4 }) ((gu y0 x1).getD dflt)) (Tg.dec c0 (decM dkI Td.dfl c1.data) (Tq.dec c2 (decM dkI dkI c3) (decM dkI dkI c4)))
  | _ => none)
  | _ => none)
  | _ => none)
  | _ => none)
  | _ => none)
  | _ => none)
  | _ => none)
  | _ => none)
  | _ => none
 | _, _ => none

theorem gu.ok : SpecOk Try.prog 17 gu.S := by
 intro l M out h
 unfold gu.S at h
 split at h
 ·rename_i i0 x1
  split at h
  case h_2 => cases h
  rename_i c0 hM0
  split at h
  case h_2 => cases h
  rename_i i1 he1
  split at h
  case h_2 => cases h
  rename_i c1 hM1
  split at h
  case h_2 => cases h
  rename_i i2 he2
  split at h
  case h_2 => cases h
  rename_i c2 hM2
  split at h
  case h_2 => cases h
  rename_i i3 he3
  split at h
  case h_2 => cases h
  rename_i c3 hM3
  split at h
  case h_2 => cases h
  rename_i i4 he4
  split at h
  case h_2 => cases h
  rename_i c4 hM4
  try dsimp only at h
  cases h
  refine callOk_of fun ho => ?_
  obtain ⟨oc0, oc1, oc2, oc3, oc4, hs, hne0, hne1, hne2, hne3, hne4, hne5, hne6, hne7, hne8, hne9⟩ := ho
  generalize (Tg.dec c0 (decM dkI Td.dfl c1.data) (Tq.dec c2 (decM dkI dkI c3) (decM dkI dkI c4))) = y0 at *
  subst oc0
  subst oc1
  subst oc2
  subst oc3
  subst oc4
  obtain ⟨r, hr⟩ := Option.isSome_iff_exists.1 hs
  simp only [hr, Option.getD_some]
  have q := Lk (M := M) [i0, i1, i2, i3, i4] (gu.can y0 x1 r hr) (by simp [hne0, hne1, hne2, hne3, hne4, hne5, hne6, hne7, hne8, hne9]) rfl (by intro k i hk; (cases k with | zero => (simp at hk; subst hk; simp [hM0, into]) | succ k => ((cases k with | zero => (simp at hk; subst hk; simp [hM1]) | succ k => ((cases k with | zero => (simp at hk; subst hk; simp [hM2, into]) | succ k => ((cases k with | zero => (simp at hk; subst hk; simp [hM3]) | succ k => ((cases k with | zero => (simp at hk; subst hk; simp [hM4]) | succ k => (simp at hk)))))))))))
  exact callOk_conv q trivial (by simp [into]) (by simp [frameOut, gu.out, into]) (by simp [frameOut, gu.out, into])
 ·cases h
end Go.Proofs

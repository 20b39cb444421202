/- That these functions compute what their plain functions do. No condition. -/
import Derived.Test.YtpjplfnapgpfmaaGreatM13
import Derived.Test.YtpjplfnapgpfmaaGreatTy
import Derived.Test.YtpjplfnapgpfmaaGreatDc
import Derived.Test.YtpjplfnapgpfmaaGreatQu
set_option maxRecDepth 100000
set_option maxHeartbeats 4000000
namespace Go.Proofs
open Go.Ab
@[simp] def gW.out (_x0 : Ts) (r : Int) : Out := { av := .lit (.int .i64 r), M := none }
theorem gW.can (x0 : Ts) (r : Int) (hr : gW x0 = some r) : CallOk Tryz.prog 52 [.agg [.lit (.int .i64 x0.fe), .lit (.int .i64 x0.fk), .lit (.int .i64 x0.fq), .lit (.int .i64 x0.fb), .lit (.int .i64 x0.fo)]] [] (gW.out x0 r) := by
 unfold gW at hr
 have hΓ := gamL_nil (P := Tryz.prog)
 refine cw Tryz.func52 rfl (by kernel_rfl) rfl rfl (by simp) fun _ _ _ => ?_
 refine tq hΓ [1] [0] ?_
 refine AWp.seq ?_
 refine AWp.block ?_
 refine tq hΓ [3] [] ?_
 refine AWp.cnd hr (by simp) (fun h3 hr => ?_) (fun h3 hr => ?_)
 ·refine tq hΓ [2] [3, 1] ?_ (by simp [h3]; exact rr)
  obtain rfl := La hr
  exact AWp.ret (Le (by simp))
 ·refine tq hΓ [32] [3, 1] ?_ (by simp [h3]; exact rr)
  refine AWp.cnd hr (by simp) (fun h4 hr => ?_) (fun h4 hr => ?_)
  ·refine tq hΓ [2] [32] ?_ (by simp [h4]; exact rr)
   obtain rfl := La hr
   exact AWp.ret (Le (by simp))
  ·refine AWp.skip ?_
   refine tq hΓ [2] [32] ?_ (by simp [h4]; exact rr)
   obtain rfl := La hr
   exact AWp.ret (Le (by simp))

@[simp] noncomputable def gW.S : Sp
  | [.agg e0], _ => some { av := .lit (.int .i64 ((gW (Ts.dec e0)).getD dflt)), M := none, obl := WeakL e0 (Ts.enc (Ts.dec e0)) ∧ (gW (Ts.dec e0)).isSome = true }
  | _, _ => none

theorem gW.ok : SpecOk Tryz.prog 52 gW.S := by
 intro l M out h
 unfold gW.S at h
 split at h
 ·rename_i e0
  cases h
  refine callOk_of fun ho => ?_
  obtain ⟨ox0, hs⟩ := ho
  generalize (Ts.dec e0) = x0 at *
  obtain ⟨r, hr⟩ := so1 hs
  simp only [hr, gd1]
  have q := Lg (M := M) [] (gW.can x0 r hr) (by simp) rfl ixn
  exact callOk_conv q trivial (by simp; exact ox0) (by simp [frameOut]) (by simp [frameOut])
 ·cases h

@[simp] def gaM.out (_x0 : Ts) (r : Option Tf × Int) : Out := { av := .tup [(optC r.1 (.lit (.pointer none)) fun _ => .ptr 5 0), .lit (.int .i64 r.2)], M := some (optC r.1 [] fun m0 => [.dead, .mapo (encM (kI .i64) (kI .i64) m0.fa.fm), .mapo (encM (kI .i64) (kI .i64) m0.fa.fp), .blk [.lit (.int .i64 m0.fa.fb), .mp 1, .mp 2, .lit (.int .i64 m0.fa.fAt), .lit (.bool m0.fa.fg)], .own (Tj.own .i64 m0.fh none) none, .blk [.lit (.int .i64 m0.fd.fe), .lit (.int .i64 m0.fd.fk), .lit (.int .i64 m0.fd.fq), .lit (.int .i64 m0.fd.fb), .lit (.int .i64 m0.fd.fo), .mp 4, .ptr 3 0, .lit (.int .i64 m0.fc), .lit (.int .i64 m0.ff)]]) }
theorem gaM.can (x0 : Ts) (r : Option Tf × Int) (hr : gaM x0 = some r) : CallOk Tryz.prog 17 [.agg [.lit (.int .i64 x0.fe), .lit (.int .i64 x0.fk), .lit (.int .i64 x0.fq), .lit (.int .i64 x0.fb), .lit (.int .i64 x0.fo)]] [] (gaM.out x0 r) := by
 unfold gaM at hr
 have hΓ := (gamL_cons gW.ok (gamL_cons gaX.ok (gamL_nil)) : GamOk Tryz.prog _)
 refine cw Tryz.func17 rfl (by kernel_rfl) rfl rfl (by simp) fun _ _ _ => ?_
 refine tq hΓ [1] [0] ?_
 refine AWp.seq ?_
 obtain ⟨r1, h7, hr⟩ := Lb hr
 refine tq hΓ [4] [] ?_ (by simp [h7]; exact rr)
 refine tq hΓ [10] [] ?_ (by simp; exact rr)
 refine AWp.cnd hr (by simp) (fun h8 hr => ?_) (fun h8 hr => ?_)
 ·refine tq hΓ [2, 3] [10, 4, 1] ?_ (by simp [h8]; exact rr)
  obtain rfl := La hr
  exact AWp.ret (Le (by simp))
 ·refine AWp.skip ?_
  obtain ⟨r2, h9, hr⟩ := Lb hr
  cases h10 : r2.1 with
  | none =>
    have hr := optC_n h10 hr
    refine tq hΓ [5, 6] [10, 4] ?_ (by simp [h8, h9, h10]; exact rr)
    refine AWp.seq ?_
    refine tq hΓ [19] [] ?_ (by simp; exact rr)
    refine AWp.cnd hr (by simp) (fun h11 hr => ?_) (fun h11 hr => ?_)
    ·refine tq hΓ [2, 3] [19, 5, 6, 1] ?_ (by simp [h11]; exact rr)
     obtain rfl := La hr
     exact AWp.ret (Le (by simp))
    ·refine AWp.skip ?_
     refine tq hΓ [2, 3] [19, 5, 6, 1] ?_ (by simp [h11]; exact rr)
     refine AWp.see (See.emptyM (key := intKey .i64) (kE := Value.int .i64) (fl := Tj.fl) (N := Tj.mem) (V := Tj.val) 1 (by rfl) (by simp; rfl)) ?_
     cases hr
  | some o1 =>
    have hr := optC_s h10 hr
    refine tq hΓ [5, 6] [10, 4] ?_ (by simp [h8, h9, h10]; exact rr)
    refine AWp.seq ?_
    refine tq hΓ [19] [] ?_ (by simp; exact rr)
    refine AWp.cnd hr (by simp) (fun h12 hr => ?_) (fun h12 hr => ?_)
    ·refine tq hΓ [2, 3] [19, 5, 6, 1] ?_ (by simp [h12]; exact rr)
     obtain rfl := La hr
     exact AWp.ret (Le (by simp))
    ·refine AWp.skip ?_
     refine tq hΓ [2, 3] [19, 5, 6, 1] ?_ (by simp [h12]; exact rr)
     refine AWp.see (See.emptyM (key := intKey .i64) (kE := Value.int .i64) (fl := Tj.fl) (N := Tj.mem) (V := Tj.val) 4 (by rfl) (by simp; rfl)) ?_
     obtain rfl := La hr
     exact AWp.ret (Le (by simp))

@[simp] noncomputable def gaM.S : Sp
  | [.agg e0], M => some { av := .tup [(optC (((gaM (Ts.dec e0)).getD dflt).1) (.lit (.pointer none)) fun _ => .ptr (M.length + 5) 0), .lit (.int .i64 (((gaM (Ts.dec e0)).getD dflt).2))], M := some (optC (((gaM (Ts.dec e0)).getD dflt).1) M fun m0 => M ++ [.dead, .mapo (encM (kI .i64) (kI .i64) m0.fa.fm), .mapo (encM (kI .i64) (kI .i64) m0.fa.fp), .blk [.lit (.int .i64 m0.fa.fb), .mp (M.length + 1), .mp (M.length + 2), .lit (.int .i64 m0.fa.fAt), .lit (.bool m0.fa.fg)], .own (Tj.own .i64 m0.fh none) none, .blk [.lit (.int .i64 m0.fd.fe), .lit (.int .i64 m0.fd.fk), .lit (.int .i64 m0.fd.fq), .lit (.int .i64 m0.fd.fb), .lit (.int .i64 m0.fd.fo), .mp (M.length + 4), .ptr (M.length + 3) 0, .lit (.int .i64 m0.fc), .lit (.int .i64 m0.ff)]]), obl := WeakL e0 (Ts.enc (Ts.dec e0)) ∧ (gaM (Ts.dec e0)).isSome = true }
  | _, _ => none

theorem gaM.ok : SpecOk Tryz.prog 17 gaM.S := by
 intro l M out h
 unfold gaM.S at h
 split at h
 ·rename_i e0
  cases h
  refine callOk_of fun ho => ?_
  obtain ⟨ox0, hs⟩ := ho
  generalize (Ts.dec e0) = x0 at *
  obtain ⟨r, hr⟩ := so1 hs
  simp only [hr, gd1]
  have q := Lg (M := M) [] (gaM.can x0 r hr) (by simp) rfl ixn
  cases hc : r.1 with
  | none => exact callOk_conv q trivial (by simp; exact ox0) (by simp [hc, frameOut]) (by simp [hc, frameOut])
  | some m0 => exact callOk_conv q trivial (by simp; exact ox0) (by simp [hc, frameOut, into]) (by simp [hc, frameOut, into])
 ·cases h

@[simp] def gaj.out (_x0 : Int) (_x1 : List Ta) (r : List Tb) : Out := { av := .sl (r.map Tb.enc) .no, M := none }
def gaj.fin (x0 : Int) (x1 : List Ta) (r : List Tb) (σ : St) : Prop := finK (gaj.out x0 x1 r) [] σ.M (resA Tryz.ty σ.A σ.M Tryz.f55.results.toList)
theorem gaj.can (x0 : Int) (x1 : List Ta) (r : List Tb) (hr : gaj x0 x1 = some r) : CallOk Tryz.prog 55 [.lit (.int .i64 x0), .sl (x1.map Ta.enc) .no] [] (gaj.out x0 x1 r) := by
 unfold gaj at hr
 have hΓ := gamL_nil (P := Tryz.prog)
 refine cw Tryz.func55 rfl (by kernel_rfl) rfl rfl (by simp) fun _ _ _ => ?_
 refine tq hΓ [] [] ?_
 refine tq hΓ [5] [] ?_
 refine AWp.seq ?_
 refine tq hΓ [8, 9, 10] [1] ?_
 refine AWp.equip 5 5 (els := []) (by simp) (by simp) ?_
 refine AWp.loopE (fun (s1 : Int × List Tb) (γ1 : Nat) => ⟨[⟨8, none, .sl (x1.map Ta.enc) .no⟩, ⟨9, none, .n (lenL x1)⟩, ⟨10, none, .n s1.1⟩, ⟨5, none, .sl (s1.2.map Tb.enc) (.own 0 (γ1) 5)⟩, ⟨0, none, .n x0⟩], [.room (γ1)]⟩) (fun (v1 : List Tb) (γ1a : Nat) => ⟨[⟨5, none, .sl (v1.map Tb.enc) (.own 0 (γ1a) 5)⟩], [.room (γ1a)]⟩) (gaj.fin x0 x1) hr 0 1 (by simp) (fun s1 f γ1 hr => ?_) (fun v1 γ1a σ1 m1 hr hc => ?_) (fun _ h => h)
 ·unfold gaj.loop1 at hr
  refine tq hΓ [11] [] ?_
  refine AWp.seq ?_
  refine AWp.cnd hr (by simp) (fun h4 hr => ?_) (fun h4 hr => ?_)
  ·refine AWp.skip ?_
   refine AWp.seq ?_
   refine AWp.block ?_
   obtain ⟨h5, hr⟩ := Lc hr
   refine tq hΓ [7] [11] ?_ (by simp [h4, h5]; exact rr)
   obtain ⟨h6, hr⟩ := Lc hr
   refine tl hΓ [5] [7] ?_ (by simp [h6]; exact rr)
   refine tl hΓ [10] [] ?_ (by simp; exact rr)
   obtain rfl := La hr
   exact Lk (γ1 + 1) 1 (by first | (simp; done) | simp [h4, h5, h6])
  ·refine AWp.exit ?_
   obtain rfl := La hr
   exact Ln (γ1) 1 (by first | (simp; done) | simp [h4])
 ·refine AWp.conv hc ?_
  refine tq hΓ [4] [5] ?_
  obtain rfl := La hr
  exact AWp.ret (Le (by simp))

@[simp] noncomputable def gaj.S : Sp
  | [.lit (.int .i64 x0), .sl e1 _], _ => some { av := .sl (((gaj x0 (e1.map Ta.dec)).getD dflt).map Tb.enc) .no, M := none, obl := e1 = (e1.map Ta.dec).map Ta.enc ∧ (gaj x0 (e1.map Ta.dec)).isSome = true }
  | _, _ => none

theorem gaj.ok : SpecOk Tryz.prog 55 gaj.S := by
 intro l M out h
 unfold gaj.S at h
 split at h
 ·rename_i x0 e1 k1
  cases h
  refine callOk_of fun ho => ?_
  obtain ⟨ox1, hs⟩ := ho
  generalize (e1.map Ta.dec) = x1 at *
  subst ox1
  obtain ⟨r, hr⟩ := so1 hs
  simp only [hr, gd1]
  have q := Lg (M := M) [] (gaj.can x0 x1 r hr) (by simp) rfl ixn
  exact callOk_conv q trivial (by simp) (by simp [frameOut]) (by simp [frameOut])
 ·cases h

@[simp] def gU.m (x0 : Tf) (_x1 : Int) (_x2 : Bool) (_x3 : Int) : List AObj := [.blk (x0.fd.enc ++ [.mp 1, .ptr 2 0, .lit (.int .i64 x0.fc), .lit (.int .i64 x0.ff)]), .own (Tj.own .i64 x0.fh none) none, .blk [.lit (.int .i64 x0.fa.fb), .mp 3, .mp 4, .lit (.int .i64 x0.fa.fAt), .lit (.bool x0.fa.fg)], .mapo (encM (kI .i64) (kI .i64) x0.fa.fm), .mapo (encM (kI .i64) (kI .i64) x0.fa.fp)]
@[simp] def gU.out (_x0 : Tf) (_x1 : Int) (_x2 : Bool) (_x3 : Int) (r : Int × Tf) : Out := { av := .lit (.int .i64 r.1), M := some [.blk [.lit (.int .i64 r.2.fd.fe), .lit (.int .i64 r.2.fd.fk), .lit (.int .i64 r.2.fd.fq), .lit (.int .i64 r.2.fd.fb), .lit (.int .i64 r.2.fd.fo), .mp 1, .ptr 2 0, .lit (.int .i64 r.2.fc), .lit (.int .i64 r.2.ff)], .own (Tj.own .i64 r.2.fh none) none, .blk [.lit (.int .i64 r.2.fa.fb), .mp 3, .mp 4, .lit (.int .i64 r.2.fa.fAt), .lit (.bool r.2.fa.fg)], .mapo (encM (kI .i64) (kI .i64) r.2.fa.fm), .mapo (encM (kI .i64) (kI .i64) r.2.fa.fp)] }
def gU.fin (x0 : Tf) (x1 : Int) (x2 : Bool) (x3 : Int) (r : Int × Tf) (σ : St) : Prop := finK (gU.out x0 x1 x2 x3 r) (gU.m x0 x1 x2 x3) σ.M (resA Tryz.ty σ.A σ.M Tryz.f66.results.toList)
theorem gU.can (x0 : Tf) (x1 : Int) (x2 : Bool) (x3 : Int) (r : Int × Tf) (hr : gU x0 x1 x2 x3 = some r) : CallOk Tryz.prog 66 [.ptr 0 0, .lit (.int .i64 x1), .lit (.bool x2), .lit (.int .i64 x3)] (gU.m x0 x1 x2 x3) (gU.out x0 x1 x2 x3 r) := by
 unfold gU at hr
 have hΓ := (gamL_cons gaq.ok (gamL_cons gaQ.ok (gamL_nil)) : GamOk Tryz.prog _)
 refine cw Tryz.func66 rfl (by kernel_rfl) rfl rfl (by simp) fun _ _ _ => ?_
 refine tq hΓ [] [] ?_
 refine AWp.seq ?_
 cases h9 : findM eqI x1 x0.fh with
 | none =>
   have hr := optC_n h9 hr
   refine AWp.see (See.missI 1 x1 x0.fh h9 (by rfl) (by simp; rfl)) ?_
   refine tq hΓ [10] [] ?_
   refine tq hΓ [23] [10] ?_
   refine AWp.cond (b := false) (by simp) (fun hb => ?_) (fun hb => ?_)
   ·cases hb
   ·refine AWp.skip ?_
    refine AWp.meetF (fun (v1 : Int × Int × Bool × (List (Int × Int)) × (List (Int × Int)) × Bool) (γ1 : Unit) => ⟨[⟨0, none, .ptr 0 0⟩, ⟨1, none, .n x1⟩, ⟨2, none, .b v1.2.2.2.2.2⟩], [.blk (x0.fd.enc ++ [.mp 1, .ptr 2 0, .n x0.fc, .n x0.ff]), .own (Tj.own .i64 x0.fh none) (some (.int .i64 x1, none)), .blk [.n v1.1, .mp 3, .mp 4, .n v1.2.1, .b v1.2.2.1], .mapo (encM (kI .i64) (kI .i64) v1.2.2.2.1), .mapo (encM (kI .i64) (kI .i64) v1.2.2.2.2.1), .blk [.lit (.pointer none), .b false]]⟩) (gU.fin x0 x1 x2 x3) hr (fun f hr => ?_) (fun v1 γ1 hr => ?_) (fun _ h => h)
    ·refine tq hΓ [24] [23] ?_
     refine AWp.cnd hr (by simp) (fun h10 hr => ?_) (fun h10 hr => ?_)
     ·obtain ⟨r1, h11, hr⟩ := Lb hr
      refine tq hΓ [11] [24, 3] ?_ (by simp [h10, h11]; exact rr)
      refine tq hΓ [33] [] ?_ (by simp; exact rr)
      refine AWp.cnd hr (by simp) (fun h12 hr => ?_) (fun h12 hr => ?_)
      ·refine tq hΓ [8] [33, 11, 0, 1, 2] ?_ (by simp [h12]; exact rr)
       refine AWp.see (See.shutM 1 (by rfl) (by simp; rfl)) ?_
       refine AWp.ret ?_
       obtain rfl := La hr
       refine meet_ret ?_
       refine Le ?_
       simp
      ·refine AWp.skip ?_
       obtain rfl := La hr
       exact Ll () 6 (by first | (simp; done) | simp [h10, h11, h12])
     ·refine AWp.skip ?_
      obtain rfl := La hr
      exact Ll () 6 (by first | (simp; done) | simp [h10])
    ·obtain ⟨r2, h13, hr⟩ := Lb hr
     cases h14 : r2.1 with
     | none =>
       have hr := optC_n h14 hr
       refine td hΓ [12, 13] [] [] [(false, []), (false, []), (false, []), (false, []), (false, []), (false, []), (false, []), (false, []), (false, []), (false, []), (true, []), (false, []), (false, []), (false, []), (false, []), (false, [])] (by simp [h13, h14]; exact rr) ?_
       refine AWp.seq ?_
       refine tq hΓ [50] [] ?_ (by simp; exact rr)
       refine AWp.cnd hr (by simp) (fun h15 hr => ?_) (fun h15 hr => ?_)
       ·refine tq hΓ [8] [50, 12, 13, 0, 1, 2] ?_ (by simp [h15]; exact rr)
        refine AWp.see (See.shutM 1 (by rfl) (by simp; rfl)) ?_
        obtain rfl := La hr
        exact AWp.ret (Le (by simp))
       ·refine AWp.skip ?_
        refine tq hΓ [] [50, 12, 13, 0, 1, 2] ?_ (by simp [h15]; exact rr)
        refine tq hΓ [8] [] ?_ (by simp; exact rr)
        cases hr
     | some o1 =>
       have hr := optC_s h14 hr
       refine td hΓ [12, 13] [] [] [(false, []), (false, []), (false, []), (false, []), (false, []), (false, []), (false, []), (false, []), (false, []), (false, []), (true, []), (false, []), (false, []), (false, []), (false, []), (false, [])] (by simp [h13, h14]; exact rr) ?_
       refine AWp.seq ?_
       refine tq hΓ [50] [] ?_ (by simp; exact rr)
       refine AWp.cnd hr (by simp) (fun h16 hr => ?_) (fun h16 hr => ?_)
       ·refine tq hΓ [8] [50, 12, 13, 0, 1, 2] ?_ (by simp [h16]; exact rr)
        refine AWp.see (See.shutM 1 (by rfl) (by simp; rfl)) ?_
        obtain rfl := La hr
        exact AWp.ret (Le (by simp))
       ·refine AWp.skip ?_
        refine tq hΓ [] [50, 12, 13, 0, 1, 2] ?_ (by simp [h16]; exact rr)
        refine tq hΓ [8] [] ?_ (by simp; exact rr)
        refine AWp.see (See.newI 1 x1 (Tj.mk o1 v1.2.2.2.2.2) x0.fh [6] (by rfl) (by decide) (by simp) (by simp [into]) (by simp) (by simp [killAll]; rfl)) ?_
        obtain rfl := La hr
        exact AWp.ret (Le (by simp))
 | some z1 =>
   have hr := optC_s h9 hr
   refine AWp.see (See.openI 1 x1 z1 x0.fh h9 (by rfl) (by simp; rfl)) ?_
   refine tq hΓ [10] [] ?_
   refine tq hΓ [23] [10] ?_
   refine AWp.cond (b := true) (by simp) (fun hb => ?_) (fun hb => ?_)
   ·refine tq hΓ [8] [23, 0, 1, 2, 3] ?_
    refine AWp.see (See.closeS 1 x1 z1 x0.fh [5] h9 (by rfl) (by decide) (by simp) (by simp [into]) (by simp) (by simp [killAll]; rfl)) ?_
    obtain rfl := La hr
    exact AWp.ret (Le (by simp))
   ·cases hb

@[simp] noncomputable def gU.S : Sp
  | [.ptr i0 0, .lit (.int .i64 x1), .lit (.bool x2), .lit (.int .i64 x3)], M => (rdB M i0).bind fun c0 => (rdM c0 5).bind fun i1 => (rdO M i1).bind fun c1 => (rdP c0 6).bind fun i2 => (rdB M i2).bind fun c2 => (rdM c2 1).bind fun i3 => (rdE M i3).bind fun c3 => (rdM c2 2).bind fun i4 => (rdE M i4).bind fun c4 => (fun (y0 : Tf) => (fun (r : Int × Tf) => some { av := .lit (.int .i64 (r.1)), M := some (((((M.set i0 (.blk [.lit (.int .i64 (r.2.fd.fe)), .lit (.int .i64 (r.2.fd.fk)), .lit (.int .i64 (r.2.fd.fq)), .lit (.int .i64 (r.2.fd.fb)), .lit (.int .i64 (r.2.fd.fo)), .mp i1, .ptr i2 0, .lit (.int .i64 (r.2.fc)), .lit (.int .i64 (r.2.ff))])).set i1 (.own (Tj.own .i64 (r.2.fh) none) none)).set i2 (.blk [.lit (.int .i64 (r.2.fa.fb)), .mp i3, .mp i4, .lit (.int .i64 (r.2.fa.fAt)), .lit (.bool (r.2.fa.fg))])).set i3 (.mapo (encM (kI .i64) (kI .i64) (r.2.fa.fm)))).set i4 (.mapo (encM (kI .i64) (kI .i64) (r.2.fa.fp)))), obl := c0 = Tf.enc y0 i1 i2 ∧ c1 = Tj.own .i64 (y0.fh) none ∧ c2 = Tp.enc (y0.fa) i3 i4 ∧ c3 = encM (kI .i64) (kI .i64) (y0.fa.fm) ∧ c4 = encM (kI .i64) (kI .i64) (y0.fa.fp) ∧ (gU y0 x1 x2 x3).isSome = true ∧ i0 ≠ i1 ∧ i0 ≠ i2 ∧ i0 ≠ i3 ∧ i0 ≠ i4 ∧ i1 ≠ i2 ∧ i1 ≠ i3 ∧ i1 ≠ i4 ∧ i2 ≠ i3 ∧ i2 ≠ i4 ∧ i3 ≠ i4 }) ((gU y0 x1 x2 x3).getD dflt)) (Tf.dec c0 (decM dkI Tj.dfl c1.data) (Tp.dec c2 (decM dkI dkI c3) (decM dkI dkI c4)))
  | _, _ => none

theorem gU.ok : SpecOk Tryz.prog 66 gU.S := by
 intro l M out h
 unfold gU.S at h
 split at h
 ·rename_i i0 x1 x2 x3
  obtain ⟨c0, hM0, h⟩ := bB h
  obtain ⟨i1, he1, h⟩ := bM h
  obtain ⟨c1, hM1, h⟩ := bO h
  obtain ⟨i2, he2, h⟩ := bP h
  obtain ⟨c2, hM2, h⟩ := bB h
  obtain ⟨i3, he3, h⟩ := bM h
  obtain ⟨c3, hM3, h⟩ := bE h
  obtain ⟨i4, he4, h⟩ := bM h
  obtain ⟨c4, hM4, h⟩ := bE h
  try dsimp only at h
  cases h
  refine callOk_of fun ho => ?_
  obtain ⟨oc0, oc1, oc2, oc3, oc4, hs, hne0, hne1, hne2, hne3, hne4, hne5, hne6, hne7, hne8, hne9⟩ := ho
  generalize (Tf.dec c0 (decM dkI Tj.dfl c1.data) (Tp.dec c2 (decM dkI dkI c3) (decM dkI dkI c4))) = y0 at *
  subst oc0
  subst oc1
  subst oc2
  subst oc3
  subst oc4
  obtain ⟨r, hr⟩ := so1 hs
  simp only [hr, gd1]
  have q := Lg (M := M) [i0, i1, i2, i3, i4] (gU.can y0 x1 x2 x3 r hr) (by simp [hne0, hne1, hne2, hne3, hne4, hne5, hne6, hne7, hne8, hne9]) rfl (ix (by simp [hM0, into]) (ix (by simp [hM1]) (ix (by simp [hM2, into]) (ix (by simp [hM3]) (ix (by simp [hM4]) ixn)))))
  exact callOk_conv q trivial (by simp [into]) (by simp [frameOut, into]) (by simp [frameOut, into])
 ·cases h

@[simp] def gG.m (x0 : Tf) (_x1 : Int) : List AObj := [.blk (x0.fd.enc ++ [.mp 1, .ptr 2 0, .lit (.int .i64 x0.fc), .lit (.int .i64 x0.ff)]), .own (Tj.own .i64 x0.fh none) none, .blk [.lit (.int .i64 x0.fa.fb), .mp 3, .mp 4, .lit (.int .i64 x0.fa.fAt), .lit (.bool x0.fa.fg)], .mapo (encM (kI .i64) (kI .i64) x0.fa.fm), .mapo (encM (kI .i64) (kI .i64) x0.fa.fp)]
@[simp] def gG.out (_x0 : Tf) (_x1 : Int) (r : List Tb × Int × Tf) : Out := { av := .tup [.sl (r.1.map Tb.enc) .no, .lit (.int .i64 r.2.1)], M := some [.blk [.lit (.int .i64 r.2.2.fd.fe), .lit (.int .i64 r.2.2.fd.fk), .lit (.int .i64 r.2.2.fd.fq), .lit (.int .i64 r.2.2.fd.fb), .lit (.int .i64 r.2.2.fd.fo), .mp 1, .ptr 2 0, .lit (.int .i64 r.2.2.fc), .lit (.int .i64 r.2.2.ff)], .own (Tj.own .i64 r.2.2.fh none) none, .blk [.lit (.int .i64 r.2.2.fa.fb), .mp 3, .mp 4, .lit (.int .i64 r.2.2.fa.fAt), .lit (.bool r.2.2.fa.fg)], .mapo (encM (kI .i64) (kI .i64) r.2.2.fa.fm), .mapo (encM (kI .i64) (kI .i64) r.2.2.fa.fp)] }
def gG.fin (x0 : Tf) (x1 : Int) (r : List Tb × Int × Tf) (σ : St) : Prop := finK (gG.out x0 x1 r) (gG.m x0 x1) σ.M (resA Tryz.ty σ.A σ.M Tryz.f68.results.toList)
theorem gG.can (x0 : Tf) (x1 : Int) (r : List Tb × Int × Tf) (hr : gG x0 x1 = some r) : CallOk Tryz.prog 68 [.ptr 0 0, .lit (.int .i64 x1)] (gG.m x0 x1) (gG.out x0 x1 r) := by
 unfold gG at hr
 have hΓ := (gamL_cons gF.ok (gamL_cons gX.ok (gamL_cons gaj.ok (gamL_nil))) : GamOk Tryz.prog _)
 refine cw Tryz.func68 rfl (by kernel_rfl) rfl rfl (by simp) fun _ _ _ => ?_
 refine tq hΓ [] [] ?_
 cases h6 : findM eqI x1 x0.fh with
 | none =>
   have hr := optC_n h6 hr
   refine AWp.see (See.missI 1 x1 x0.fh h6 (by rfl) (by simp; rfl)) ?_
   refine tq hΓ [6, 7] [] ?_
   refine AWp.seq ?_
   refine tq hΓ [18] [7] ?_
   refine AWp.cond (b := true) (by simp) (fun hb => ?_) (fun hb => ?_)
   ·refine tq hΓ [4, 5] [18, 6, 0, 1] ?_
    refine AWp.see (See.shutM 1 (by rfl) (by simp; rfl)) ?_
    obtain rfl := La hr
    exact AWp.ret (Le (by simp))
   ·cases hb
 | some z1 =>
   have hr := optC_s h6 hr
   refine AWp.see (See.openI 1 x1 z1 x0.fh h6 (by rfl) (by simp; rfl)) ?_
   refine tq hΓ [6, 7] [] ?_
   refine AWp.seq ?_
   refine tq hΓ [18] [7] ?_
   refine AWp.cond (b := false) (by simp) (fun hb => ?_) (fun hb => ?_)
   ·cases hb
   ·refine AWp.skip ?_
    refine AWp.meetF (fun (v1 : Int × Int × Bool × (List (Int × Int)) × (List (Int × Int)) × Bool) (γ1 : Unit) => ⟨[⟨6, none, .ptr 6 0⟩, ⟨0, none, .ptr 0 0⟩, ⟨1, none, .n x1⟩], [.blk (x0.fd.enc ++ [.mp 1, .ptr 2 0, .n x0.fc, .n x0.ff]), .own (Tj.own .i64 x0.fh (some (.int .i64 x1))) (some (.int .i64 x1, some (.agg [.ptr 5 0, .b z1.fu]))), .blk [.n v1.1, .mp 3, .mp 4, .n v1.2.1, .b v1.2.2.1], .mapo (encM (kI .i64) (kI .i64) v1.2.2.2.1), .mapo (encM (kI .i64) (kI .i64) v1.2.2.2.2.1), .blk z1.fA.enc, .blk [.ptr 5 0, .b v1.2.2.2.2.2]]⟩) (gG.fin x0 x1) hr (fun f hr => ?_) (fun v1 γ1 hr => ?_) (fun _ h => h)
    ·refine tq hΓ [20] [18] ?_
     refine AWp.cnd hr (by simp) (fun h7 hr => ?_) (fun h7 hr => ?_)
     ·obtain ⟨r1, h8, hr⟩ := Lb hr
      refine tl hΓ [] [20] ?_ (by simp [h7, h8]; exact rr)
      obtain rfl := La hr
      exact Ll () 7 (by first | (simp; done) | simp [h7])
     ·refine AWp.skip ?_
      obtain rfl := La hr
      exact Ll () 7 (by first | (simp; done) | simp [h7])
    ·refine tq hΓ [] [0] ?_
     obtain ⟨r2, h9, hr⟩ := Lb hr
     obtain ⟨r3, h10, hr⟩ := Lb hr
     refine tq hΓ [4, 5] [6, 1] ?_ (by simp [h9, h10]; exact rr)
     refine AWp.see (See.struckI 1 x1 x0.fh (by rfl) (by simp; rfl)) ?_
     obtain rfl := La hr
     exact AWp.ret (Le (by simp))

@[simp] noncomputable def gG.S : Sp
  | [.ptr i0 0, .lit (.int .i64 x1)], M => (rdB M i0).bind fun c0 => (rdM c0 5).bind fun i1 => (rdO M i1).bind fun c1 => (rdP c0 6).bind fun i2 => (rdB M i2).bind fun c2 => (rdM c2 1).bind fun i3 => (rdE M i3).bind fun c3 => (rdM c2 2).bind fun i4 => (rdE M i4).bind fun c4 => (fun (y0 : Tf) => (fun (r : List Tb × Int × Tf) => some { av := .tup [.sl ((r.1).map Tb.enc) .no, .lit (.int .i64 (r.2.1))], M := some (((((M.set i0 (.blk [.lit (.int .i64 (r.2.2.fd.fe)), .lit (.int .i64 (r.2.2.fd.fk)), .lit (.int .i64 (r.2.2.fd.fq)), .lit (.int .i64 (r.2.2.fd.fb)), .lit (.int .i64 (r.2.2.fd.fo)), .mp i1, .ptr i2 0, .lit (.int .i64 (r.2.2.fc)), .lit (.int .i64 (r.2.2.ff))])).set i1 (.own (Tj.own .i64 (r.2.2.fh) none) none)).set i2 (.blk [.lit (.int .i64 (r.2.2.fa.fb)), .mp i3, .mp i4, .lit (.int .i64 (r.2.2.fa.fAt)), .lit (.bool (r.2.2.fa.fg))])).set i3 (.mapo (encM (kI .i64) (kI .i64) (r.2.2.fa.fm)))).set i4 (.mapo (encM (kI .i64) (kI .i64) (r.2.2.fa.fp)))), obl := c0 = Tf.enc y0 i1 i2 ∧ c1 = Tj.own .i64 (y0.fh) none ∧ c2 = Tp.enc (y0.fa) i3 i4 ∧ c3 = encM (kI .i64) (kI .i64) (y0.fa.fm) ∧ c4 = encM (kI .i64) (kI .i64) (y0.fa.fp) ∧ (gG y0 x1).isSome = true ∧ i0 ≠ i1 ∧ i0 ≠ i2 ∧ i0 ≠ i3 ∧ i0 ≠ i4 ∧ i1 ≠ i2 ∧ i1 ≠ i3 ∧ i1 ≠ i4 ∧ i2 ≠ i3 ∧ i2 ≠ i4 ∧ i3 ≠ i4 }) ((gG y0 x1).getD dflt)) (Tf.dec c0 (decM dkI Tj.dfl c1.data) (Tp.dec c2 (decM dkI dkI c3) (decM dkI dkI c4)))
  | _, _ => none

theorem gG.ok : SpecOk Tryz.prog 68 gG.S := by
 intro l M out h
 unfold gG.S at h
 split at h
 ·rename_i i0 x1
  obtain ⟨c0, hM0, h⟩ := bB h
  obtain ⟨i1, he1, h⟩ := bM h
  obtain ⟨c1, hM1, h⟩ := bO h
  obtain ⟨i2, he2, h⟩ := bP h
  obtain ⟨c2, hM2, h⟩ := bB h
  obtain ⟨i3, he3, h⟩ := bM h
  obtain ⟨c3, hM3, h⟩ := bE h
  obtain ⟨i4, he4, h⟩ := bM h
  obtain ⟨c4, hM4, h⟩ := bE h
  try dsimp only at h
  cases h
  refine callOk_of fun ho => ?_
  obtain ⟨oc0, oc1, oc2, oc3, oc4, hs, hne0, hne1, hne2, hne3, hne4, hne5, hne6, hne7, hne8, hne9⟩ := ho
  generalize (Tf.dec c0 (decM dkI Tj.dfl c1.data) (Tp.dec c2 (decM dkI dkI c3) (decM dkI dkI c4))) = y0 at *
  subst oc0
  subst oc1
  subst oc2
  subst oc3
  subst oc4
  obtain ⟨r, hr⟩ := so1 hs
  simp only [hr, gd1]
  have q := Lg (M := M) [i0, i1, i2, i3, i4] (gG.can y0 x1 r hr) (by simp [hne0, hne1, hne2, hne3, hne4, hne5, hne6, hne7, hne8, hne9]) rfl (ix (by simp [hM0, into]) (ix (by simp [hM1]) (ix (by simp [hM2, into]) (ix (by simp [hM3]) (ix (by simp [hM4]) ixn)))))
  exact callOk_conv q trivial (by simp [into]) (by simp [frameOut, into]) (by simp [frameOut, into])
 ·cases h

@[simp] def gag.m (x0 : Tf) (_x1 : Int) : List AObj := [.blk (x0.fd.enc ++ [.mp 1, .ptr 2 0, .lit (.int .i64 x0.fc), .lit (.int .i64 x0.ff)]), .own (Tj.own .i64 x0.fh none) none, .blk [.lit (.int .i64 x0.fa.fb), .mp 3, .mp 4, .lit (.int .i64 x0.fa.fAt), .lit (.bool x0.fa.fg)], .mapo (encM (kI .i64) (kI .i64) x0.fa.fm), .mapo (encM (kI .i64) (kI .i64) x0.fa.fp)]
@[simp] def gag.out (_x0 : Tf) (_x1 : Int) (r : List Tb × Tf) : Out := { av := .sl (r.1.map Tb.enc) .no, M := some [.blk [.lit (.int .i64 r.2.fd.fe), .lit (.int .i64 r.2.fd.fk), .lit (.int .i64 r.2.fd.fq), .lit (.int .i64 r.2.fd.fb), .lit (.int .i64 r.2.fd.fo), .mp 1, .ptr 2 0, .lit (.int .i64 r.2.fc), .lit (.int .i64 r.2.ff)], .own (Tj.own .i64 r.2.fh none) none, .blk [.lit (.int .i64 r.2.fa.fb), .mp 3, .mp 4, .lit (.int .i64 r.2.fa.fAt), .lit (.bool r.2.fa.fg)], .mapo (encM (kI .i64) (kI .i64) r.2.fa.fm), .mapo (encM (kI .i64) (kI .i64) r.2.fa.fp)] }
theorem gag.can (x0 : Tf) (x1 : Int) (r : List Tb × Tf) (hr : gag x0 x1 = some r) : CallOk Tryz.prog 70 [.ptr 0 0, .lit (.int .i64 x1)] (gag.m x0 x1) (gag.out x0 x1 r) := by
 unfold gag at hr
 have hΓ := (gamL_cons gX.ok (gamL_cons gaj.ok (gamL_nil)) : GamOk Tryz.prog _)
 refine cw Tryz.func70 rfl (by kernel_rfl) rfl rfl (by simp) fun _ _ _ => ?_
 refine tq hΓ [] [] ?_
 cases h4 : findM eqI x1 x0.fh with
 | none =>
   have hr := optC_n h4 hr
   refine AWp.see (See.missI 1 x1 x0.fh h4 (by rfl) (by simp; rfl)) ?_
   refine tq hΓ [5, 6] [0] ?_
   refine AWp.seq ?_
   refine tq hΓ [17] [6] ?_
   refine AWp.cond (b := true) (by simp) (fun hb => ?_) (fun hb => ?_)
   ·refine tq hΓ [4] [17, 5, 1] ?_
    refine AWp.see (See.shutM 1 (by rfl) (by simp; rfl)) ?_
    obtain rfl := La hr
    exact AWp.ret (Le (by simp))
   ·cases hb
 | some z1 =>
   have hr := optC_s h4 hr
   refine AWp.see (See.openI 1 x1 z1 x0.fh h4 (by rfl) (by simp; rfl)) ?_
   refine tq hΓ [5, 6] [0] ?_
   refine AWp.seq ?_
   refine tq hΓ [17] [6] ?_
   refine AWp.cond (b := false) (by simp) (fun hb => ?_) (fun hb => ?_)
   ·cases hb
   ·refine AWp.skip ?_
    obtain ⟨r1, h5, hr⟩ := Lb hr
    obtain ⟨r2, h6, hr⟩ := Lb hr
    refine tq hΓ [4] [17, 5, 1] ?_ (by simp [h5, h6]; exact rr)
    refine AWp.see (See.closeI 1 x1 (Tj.mk r1.2 z1.fu) x0.fh [5] (by rfl) (by decide) (by simp) (by simp [into]) (by simp) (by simp [killAll]; rfl)) ?_
    obtain rfl := La hr
    exact AWp.ret (Le (by simp))

@[simp] noncomputable def gag.S : Sp
  | [.ptr i0 0, .lit (.int .i64 x1)], M => (rdB M i0).bind fun c0 => (rdM c0 5).bind fun i1 => (rdO M i1).bind fun c1 => (rdP c0 6).bind fun i2 => (rdB M i2).bind fun c2 => (rdM c2 1).bind fun i3 => (rdE M i3).bind fun c3 => (rdM c2 2).bind fun i4 => (rdE M i4).bind fun c4 => (fun (y0 : Tf) => (fun (r : List Tb × Tf) => some { av := .sl ((r.1).map Tb.enc) .no, M := some (((((M.set i0 (.blk [.lit (.int .i64 (r.2.fd.fe)), .lit (.int .i64 (r.2.fd.fk)), .lit (.int .i64 (r.2.fd.fq)), .lit (.int .i64 (r.2.fd.fb)), .lit (.int .i64 (r.2.fd.fo)), .mp i1, .ptr i2 0, .lit (.int .i64 (r.2.fc)), .lit (.int .i64 (r.2.ff))])).set i1 (.own (Tj.own .i64 (r.2.fh) none) none)).set i2 (.blk [.lit (.int .i64 (r.2.fa.fb)), .mp i3, .mp i4, .lit (.int .i64 (r.2.fa.fAt)), .lit (.bool (r.2.fa.fg))])).set i3 (.mapo (encM (kI .i64) (kI .i64) (r.2.fa.fm)))).set i4 (.mapo (encM (kI .i64) (kI .i64) (r.2.fa.fp)))), obl := c0 = Tf.enc y0 i1 i2 ∧ c1 = Tj.own .i64 (y0.fh) none ∧ c2 = Tp.enc (y0.fa) i3 i4 ∧ c3 = encM (kI .i64) (kI .i64) (y0.fa.fm) ∧ c4 = encM (kI .i64) (kI .i64) (y0.fa.fp) ∧ (gag y0 x1).isSome = true ∧ i0 ≠ i1 ∧ i0 ≠ i2 ∧ i0 ≠ i3 ∧ i0 ≠ i4 ∧ i1 ≠ i2 ∧ i1 ≠ i3 ∧ i1 ≠ i4 ∧ i2 ≠ i3 ∧ i2 ≠ i4 ∧ i3 ≠ i4 }) ((gag y0 x1).getD dflt)) (Tf.dec c0 (decM dkI Tj.dfl c1.data) (Tp.dec c2 (decM dkI dkI c3) (decM dkI dkI c4)))
  | _, _ => none

theorem gag.ok : SpecOk Tryz.prog 70 gag.S := by
 intro l M out h
 unfold gag.S at h
 split at h
 ·rename_i i0 x1
  obtain ⟨c0, hM0, h⟩ := bB h
  obtain ⟨i1, he1, h⟩ := bM h
  obtain ⟨c1, hM1, h⟩ := bO h
  obtain ⟨i2, he2, h⟩ := bP h
  obtain ⟨c2, hM2, h⟩ := bB h
  obtain ⟨i3, he3, h⟩ := bM h
  obtain ⟨c3, hM3, h⟩ := bE h
  obtain ⟨i4, he4, h⟩ := bM h
  obtain ⟨c4, hM4, h⟩ := bE h
  try dsimp only at h
  cases h
  refine callOk_of fun ho => ?_
  obtain ⟨oc0, oc1, oc2, oc3, oc4, hs, hne0, hne1, hne2, hne3, hne4, hne5, hne6, hne7, hne8, hne9⟩ := ho
  generalize (Tf.dec c0 (decM dkI Tj.dfl c1.data) (Tp.dec c2 (decM dkI dkI c3) (decM dkI dkI c4))) = y0 at *
  subst oc0
  subst oc1
  subst oc2
  subst oc3
  subst oc4
  obtain ⟨r, hr⟩ := so1 hs
  simp only [hr, gd1]
  have q := Lg (M := M) [i0, i1, i2, i3, i4] (gag.can y0 x1 r hr) (by simp [hne0, hne1, hne2, hne3, hne4, hne5, hne6, hne7, hne8, hne9]) rfl (ix (by simp [hM0, into]) (ix (by simp [hM1]) (ix (by simp [hM2, into]) (ix (by simp [hM3]) (ix (by simp [hM4]) ixn)))))
  exact callOk_conv q trivial (by simp [into]) (by simp [frameOut, into]) (by simp [frameOut, into])
 ·cases h

@[simp] def gar.m (x0 : Tf) (_x1 : Int) (_x2 : Ta) : List AObj := [.blk (x0.fd.enc ++ [.mp 1, .ptr 2 0, .lit (.int .i64 x0.fc), .lit (.int .i64 x0.ff)]), .own (Tj.own .i64 x0.fh none) none, .blk [.lit (.int .i64 x0.fa.fb), .mp 3, .mp 4, .lit (.int .i64 x0.fa.fAt), .lit (.bool x0.fa.fg)], .mapo (encM (kI .i64) (kI .i64) x0.fa.fm), .mapo (encM (kI .i64) (kI .i64) x0.fa.fp)]
@[simp] def gar.out (_x0 : Tf) (_x1 : Int) (_x2 : Ta) (r : List Tb × Bool × Tf) : Out := { av := .tup [.sl (r.1.map Tb.enc) .no, .lit (.bool r.2.1)], M := some [.blk [.lit (.int .i64 r.2.2.fd.fe), .lit (.int .i64 r.2.2.fd.fk), .lit (.int .i64 r.2.2.fd.fq), .lit (.int .i64 r.2.2.fd.fb), .lit (.int .i64 r.2.2.fd.fo), .mp 1, .ptr 2 0, .lit (.int .i64 r.2.2.fc), .lit (.int .i64 r.2.2.ff)], .own (Tj.own .i64 r.2.2.fh none) none, .blk [.lit (.int .i64 r.2.2.fa.fb), .mp 3, .mp 4, .lit (.int .i64 r.2.2.fa.fAt), .lit (.bool r.2.2.fa.fg)], .mapo (encM (kI .i64) (kI .i64) r.2.2.fa.fm), .mapo (encM (kI .i64) (kI .i64) r.2.2.fa.fp)] }
theorem gar.can (x0 : Tf) (x1 : Int) (x2 : Ta) (r : List Tb × Bool × Tf) (hr : gar x0 x1 x2 = some r) : CallOk Tryz.prog 18 [.ptr 0 0, .lit (.int .i64 x1), .agg [.lit (.int .i64 x2.fN), .lit (.int .i64 x2.fj), .lit (.int .i64 x2.fw), .lit (.bool x2.fy)]] (gar.m x0 x1 x2) (gar.out x0 x1 x2 r) := by
 unfold gar at hr
 have hΓ := (gamL_cons gv.ok (gamL_cons gaj.ok (gamL_nil)) : GamOk Tryz.prog _)
 refine cw Tryz.func18 rfl (by kernel_rfl) rfl rfl (by simp) fun _ _ _ => ?_
 refine tq hΓ [5] [2] ?_
 cases h5 : findM eqI x1 x0.fh with
 | none =>
   have hr := optC_n h5 hr
   refine AWp.see (See.missI 1 x1 x0.fh h5 (by rfl) (by simp; rfl)) ?_
   refine tq hΓ [8, 9] [] ?_
   refine AWp.seq ?_
   refine td hΓ [32] [9, 0] [] [(false, []), (false, []), (false, []), (false, [23]), (false, [23]), (false, [23]), (false, [23]), (false, [23]), (false, [23]), (false, [23]), (false, [23]), (false, [])] (by simp; exact rr) ?_
   refine AWp.cond (b := true) (by simp) (fun hb => ?_) (fun hb => ?_)
   ·refine tq hΓ [6, 7] [32, 8, 5, 1] ?_
    refine AWp.see (See.shutM 1 (by rfl) (by simp; rfl)) ?_
    obtain rfl := La hr
    exact AWp.ret (Le (by simp))
   ·cases hb
 | some z1 =>
   have hr := optC_s h5 hr
   refine AWp.see (See.openI 1 x1 z1 x0.fh h5 (by rfl) (by simp; rfl)) ?_
   refine tq hΓ [8, 9] [] ?_
   refine AWp.seq ?_
   refine td hΓ [32] [9, 0] [] [(false, []), (false, []), (false, []), (false, [23]), (false, [23]), (false, [23]), (false, [23]), (false, [23]), (false, [23]), (false, [23]), (false, [23]), (false, [])] (by simp; exact rr) ?_
   refine AWp.cnd hr (by simp) (fun h6 hr => ?_) (fun h6 hr => ?_)
   ·refine tq hΓ [6, 7] [32, 8, 5, 1] ?_ (by simp [h6]; exact rr)
    refine AWp.see (See.closeS 1 x1 z1 x0.fh [6] h5 (by rfl) (by decide) (by simp) (by simp [into]) (by simp) (by simp [killAll]; rfl)) ?_
    obtain rfl := La hr
    exact AWp.ret (Le (by simp))
   ·refine AWp.skip ?_
    refine tq hΓ [] [32] ?_ (by simp [h6]; exact rr)
    obtain ⟨r1, h7, hr⟩ := Lb hr
    refine tq hΓ [10, 11] [8, 5] ?_ (by simp [h7]; exact rr)
    obtain ⟨r2, h8, hr⟩ := Lb hr
    refine tq hΓ [6, 7] [10, 11, 1] ?_ (by simp [h8]; exact rr)
    refine AWp.see (See.closeI 1 x1 (Tj.mk r1.2.2 z1.fu) x0.fh [6] (by rfl) (by decide) (by simp) (by simp [into]) (by simp) (by simp [killAll]; rfl)) ?_
    obtain rfl := La hr
    exact AWp.ret (Le (by simp))

@[simp] noncomputable def gar.S : Sp
  | [.ptr i0 0, .lit (.int .i64 x1), .agg e2], M => (rdB M i0).bind fun c0 => (rdM c0 5).bind fun i1 => (rdO M i1).bind fun c1 => (rdP c0 6).bind fun i2 => (rdB M i2).bind fun c2 => (rdM c2 1).bind fun i3 => (rdE M i3).bind fun c3 => (rdM c2 2).bind fun i4 => (rdE M i4).bind fun c4 => (fun (y0 : Tf) => (fun (y1 : Ta) => (fun (r : List Tb × Bool × Tf) => some { av := .tup [.sl ((r.1).map Tb.enc) .no, .lit (.bool (r.2.1))], M := some (((((M.set i0 (.blk [.lit (.int .i64 (r.2.2.fd.fe)), .lit (.int .i64 (r.2.2.fd.fk)), .lit (.int .i64 (r.2.2.fd.fq)), .lit (.int .i64 (r.2.2.fd.fb)), .lit (.int .i64 (r.2.2.fd.fo)), .mp i1, .ptr i2 0, .lit (.int .i64 (r.2.2.fc)), .lit (.int .i64 (r.2.2.ff))])).set i1 (.own (Tj.own .i64 (r.2.2.fh) none) none)).set i2 (.blk [.lit (.int .i64 (r.2.2.fa.fb)), .mp i3, .mp i4, .lit (.int .i64 (r.2.2.fa.fAt)), .lit (.bool (r.2.2.fa.fg))])).set i3 (.mapo (encM (kI .i64) (kI .i64) (r.2.2.fa.fm)))).set i4 (.mapo (encM (kI .i64) (kI .i64) (r.2.2.fa.fp)))), obl := WeakL e2 (Ta.enc y1) ∧ c0 = Tf.enc y0 i1 i2 ∧ c1 = Tj.own .i64 (y0.fh) none ∧ c2 = Tp.enc (y0.fa) i3 i4 ∧ c3 = encM (kI .i64) (kI .i64) (y0.fa.fm) ∧ c4 = encM (kI .i64) (kI .i64) (y0.fa.fp) ∧ (gar y0 x1 y1).isSome = true ∧ i0 ≠ i1 ∧ i0 ≠ i2 ∧ i0 ≠ i3 ∧ i0 ≠ i4 ∧ i1 ≠ i2 ∧ i1 ≠ i3 ∧ i1 ≠ i4 ∧ i2 ≠ i3 ∧ i2 ≠ i4 ∧ i3 ≠ i4 }) ((gar y0 x1 y1).getD dflt)) (Ta.dec e2)) (Tf.dec c0 (decM dkI Tj.dfl c1.data) (Tp.dec c2 (decM dkI dkI c3) (decM dkI dkI c4)))
  | _, _ => none

theorem gar.ok : SpecOk Tryz.prog 18 gar.S := by
 intro l M out h
 unfold gar.S at h
 split at h
 ·rename_i i0 x1 e2
  obtain ⟨c0, hM0, h⟩ := bB h
  obtain ⟨i1, he1, h⟩ := bM h
  obtain ⟨c1, hM1, h⟩ := bO h
  obtain ⟨i2, he2, h⟩ := bP h
  obtain ⟨c2, hM2, h⟩ := bB h
  obtain ⟨i3, he3, h⟩ := bM h
  obtain ⟨c3, hM3, h⟩ := bE h
  obtain ⟨i4, he4, h⟩ := bM h
  obtain ⟨c4, hM4, h⟩ := bE h
  try dsimp only at h
  cases h
  refine callOk_of fun ho => ?_
  obtain ⟨ox2, oc0, oc1, oc2, oc3, oc4, hs, hne0, hne1, hne2, hne3, hne4, hne5, hne6, hne7, hne8, hne9⟩ := ho
  generalize (Tf.dec c0 (decM dkI Tj.dfl c1.data) (Tp.dec c2 (decM dkI dkI c3) (decM dkI dkI c4))) = y0 at *
  generalize (Ta.dec e2) = x2 at *
  subst oc0
  subst oc1
  subst oc2
  subst oc3
  subst oc4
  obtain ⟨r, hr⟩ := so1 hs
  simp only [hr, gd1]
  have q := Lg (M := M) [i0, i1, i2, i3, i4] (gar.can y0 x1 x2 r hr) (by simp [hne0, hne1, hne2, hne3, hne4, hne5, hne6, hne7, hne8, hne9]) rfl (ix (by simp [hM0, into]) (ix (by simp [hM1]) (ix (by simp [hM2, into]) (ix (by simp [hM3]) (ix (by simp [hM4]) ixn)))))
  exact callOk_conv q trivial (by simp [into]; exact ox2) (by simp [frameOut, into]) (by simp [frameOut, into])
 ·cases h

@[simp] def gaf.m (x0 : Tf) (_x1 : Int) : List AObj := [.blk (x0.fd.enc ++ [.mp 1, .ptr 2 0, .lit (.int .i64 x0.fc), .lit (.int .i64 x0.ff)]), .own (Tj.own .i64 x0.fh none) none, .blk [.lit (.int .i64 x0.fa.fb), .mp 3, .mp 4, .lit (.int .i64 x0.fa.fAt), .lit (.bool x0.fa.fg)], .mapo (encM (kI .i64) (kI .i64) x0.fa.fm), .mapo (encM (kI .i64) (kI .i64) x0.fa.fp)]
@[simp] def gaf.out (_x0 : Tf) (_x1 : Int) (r : Int × Int) : Out := { av := .tup [.lit (.int .i64 r.1), .lit (.int .i64 r.2)], M := none }
theorem gaf.can (x0 : Tf) (x1 : Int) (r : Int × Int) (hr : gaf x0 x1 = some r) : CallOk Tryz.prog 11 [.ptr 0 0, .lit (.int .i64 x1)] (gaf.m x0 x1) (gaf.out x0 x1 r) := by
 unfold gaf at hr
 have hΓ := (gamL_cons gae.ok (gamL_cons gan.ok (gamL_nil)) : GamOk Tryz.prog _)
 refine cw Tryz.func11 rfl (by kernel_rfl) rfl rfl (by simp) fun _ _ _ => ?_
 refine tq hΓ [] [] ?_
 cases h4 : findM eqI x1 x0.fh with
 | none =>
   have hr := optC_n h4 hr
   refine AWp.see (See.missI 1 x1 x0.fh h4 (by rfl) (by simp; rfl)) ?_
   refine tq hΓ [6, 7] [0, 1] ?_
   refine AWp.seq ?_
   refine tq hΓ [18] [7] ?_
   refine AWp.cond (b := true) (by simp) (fun hb => ?_) (fun hb => ?_)
   ·refine tq hΓ [4, 5] [18, 6] ?_
    refine AWp.see (See.shutM 1 (by rfl) (by simp; rfl)) ?_
    obtain rfl := La hr
    exact AWp.ret (Le (by simp))
   ·cases hb
 | some z1 =>
   have hr := optC_s h4 hr
   refine AWp.see (See.openI 1 x1 z1 x0.fh h4 (by rfl) (by simp; rfl)) ?_
   refine tq hΓ [6, 7] [0, 1] ?_
   refine AWp.seq ?_
   refine tq hΓ [18] [7] ?_
   refine AWp.cond (b := false) (by simp) (fun hb => ?_) (fun hb => ?_)
   ·cases hb
   ·refine AWp.skip ?_
    obtain ⟨r1, h5, hr⟩ := Lb hr
    obtain ⟨r2, h6, hr⟩ := Lb hr
    refine td hΓ [4, 5] [18, 6] [] [(false, []), (false, []), (false, []), (false, []), (false, []), (false, []), (false, []), (false, [])] (by simp [h5, h6]; exact rr) ?_
    refine AWp.see (See.closeS 1 x1 z1 x0.fh [5] h4 (by rfl) (by decide) (by simp) (by simp [into]) (by simp) (by simp [killAll]; rfl)) ?_
    obtain rfl := La hr
    exact AWp.ret (Le (by simp))

@[simp] noncomputable def gaf.S : Sp
  | [.ptr i0 0, .lit (.int .i64 x1)], M => (rdB M i0).bind fun c0 => (rdM c0 5).bind fun i1 => (rdO M i1).bind fun c1 => (rdP c0 6).bind fun i2 => (rdB M i2).bind fun c2 => (rdM c2 1).bind fun i3 => (rdE M i3).bind fun c3 => (rdM c2 2).bind fun i4 => (rdE M i4).bind fun c4 => (fun (y0 : Tf) => (fun (r : Int × Int) => some { av := .tup [.lit (.int .i64 (r.1)), .lit (.int .i64 (r.2))], M := none, obl := c0 = Tf.enc y0 i1 i2 ∧ c1 = Tj.own .i64 (y0.fh) none ∧ c2 = Tp.enc (y0.fa) i3 i4 ∧ c3 = encM (kI .i64) (kI .i64) (y0.fa.fm) ∧ c4 = encM (kI .i64) (kI .i64) (y0.fa.fp) ∧ (gaf y0 x1).isSome = true ∧ i0 ≠ i1 ∧ i0 ≠ i2 ∧ i0 ≠ i3 ∧ i0 ≠ i4 ∧ i1 ≠ i2 ∧ i1 ≠ i3 ∧ i1 ≠ i4 ∧ i2 ≠ i3 ∧ i2 ≠ i4 ∧ i3 ≠ i4 }) ((gaf y0 x1).getD dflt)) (Tf.dec c0 (decM dkI Tj.dfl c1.data) (Tp.dec c2 (decM dkI dkI c3) (decM dkI dkI c4)))
  | _, _ => none

theorem gaf.ok : SpecOk Tryz.prog 11 gaf.S := by
 intro l M out h
 unfold gaf.S at h
 split at h
 ·rename_i i0 x1
  obtain ⟨c0, hM0, h⟩ := bB h
  obtain ⟨i1, he1, h⟩ := bM h
  obtain ⟨c1, hM1, h⟩ := bO h
  obtain ⟨i2, he2, h⟩ := bP h
  obtain ⟨c2, hM2, h⟩ := bB h
  obtain ⟨i3, he3, h⟩ := bM h
  obtain ⟨c3, hM3, h⟩ := bE h
  obtain ⟨i4, he4, h⟩ := bM h
  obtain ⟨c4, hM4, h⟩ := bE h
  try dsimp only at h
  cases h
  refine callOk_of fun ho => ?_
  obtain ⟨oc0, oc1, oc2, oc3, oc4, hs, hne0, hne1, hne2, hne3, hne4, hne5, hne6, hne7, hne8, hne9⟩ := ho
  generalize (Tf.dec c0 (decM dkI Tj.dfl c1.data) (Tp.dec c2 (decM dkI dkI c3) (decM dkI dkI c4))) = y0 at *
  subst oc0
  subst oc1
  subst oc2
  subst oc3
  subst oc4
  obtain ⟨r, hr⟩ := so1 hs
  simp only [hr, gd1]
  have q := Lg (M := M) [i0, i1, i2, i3, i4] (gaf.can y0 x1 r hr) (by simp [hne0, hne1, hne2, hne3, hne4, hne5, hne6, hne7, hne8, hne9]) rfl (ix (by simp [hM0, into]) (ix (by simp [hM1]) (ix (by simp [hM2, into]) (ix (by simp [hM3]) (ix (by simp [hM4]) ixn)))))
  exact callOk_conv q trivial (by simp [into]) (by simp [frameOut, into]) (by simp only [frameOut, gaf.out, Option.getD_some, Option.getD_none]; simp [into, hM0, hM1, hM2, hM3, hM4, set_same])
 ·cases h

@[simp] def gK.m (x0 : Tf) (_x1 : Int) : List AObj := [.blk (x0.fd.enc ++ [.mp 1, .ptr 2 0, .lit (.int .i64 x0.fc), .lit (.int .i64 x0.ff)]), .own (Tj.own .i64 x0.fh none) none, .blk [.lit (.int .i64 x0.fa.fb), .mp 3, .mp 4, .lit (.int .i64 x0.fa.fAt), .lit (.bool x0.fa.fg)], .mapo (encM (kI .i64) (kI .i64) x0.fa.fm), .mapo (encM (kI .i64) (kI .i64) x0.fa.fp)]
@[simp] def gK.out (_x0 : Tf) (_x1 : Int) (r : Tf) : Out := { av := .tup [], M := some [.blk [.lit (.int .i64 r.fd.fe), .lit (.int .i64 r.fd.fk), .lit (.int .i64 r.fd.fq), .lit (.int .i64 r.fd.fb), .lit (.int .i64 r.fd.fo), .mp 1, .ptr 2 0, .lit (.int .i64 r.fc), .lit (.int .i64 r.ff)], .own (Tj.own .i64 r.fh none) none, .blk [.lit (.int .i64 r.fa.fb), .mp 3, .mp 4, .lit (.int .i64 r.fa.fAt), .lit (.bool r.fa.fg)], .mapo (encM (kI .i64) (kI .i64) r.fa.fm), .mapo (encM (kI .i64) (kI .i64) r.fa.fp)] }
theorem gK.can (x0 : Tf) (x1 : Int) (r : Tf) (hr : gK x0 x1 = some r) : CallOk Tryz.prog 9 [.ptr 0 0, .lit (.int .i64 x1)] (gK.m x0 x1) (gK.out x0 x1 r) := by
 unfold gK at hr
 have hΓ := gamL_nil (P := Tryz.prog)
 refine cw Tryz.func9 rfl (by kernel_rfl) rfl rfl (by simp) fun _ _ _ => ?_
 refine tl hΓ [] [0, 1] ?_
 obtain rfl := La hr
 exact fin_norm (by simp)

@[simp] noncomputable def gK.S : Sp
  | [.ptr i0 0, .lit (.int .i64 x1)], M => (rdB M i0).bind fun c0 => (rdM c0 5).bind fun i1 => (rdO M i1).bind fun c1 => (rdP c0 6).bind fun i2 => (rdB M i2).bind fun c2 => (rdM c2 1).bind fun i3 => (rdE M i3).bind fun c3 => (rdM c2 2).bind fun i4 => (rdE M i4).bind fun c4 => (fun (y0 : Tf) => (fun (r : Tf) => some { av := .tup [], M := some (((((M.set i0 (.blk [.lit (.int .i64 (r.fd.fe)), .lit (.int .i64 (r.fd.fk)), .lit (.int .i64 (r.fd.fq)), .lit (.int .i64 (r.fd.fb)), .lit (.int .i64 (r.fd.fo)), .mp i1, .ptr i2 0, .lit (.int .i64 (r.fc)), .lit (.int .i64 (r.ff))])).set i1 (.own (Tj.own .i64 (r.fh) none) none)).set i2 (.blk [.lit (.int .i64 (r.fa.fb)), .mp i3, .mp i4, .lit (.int .i64 (r.fa.fAt)), .lit (.bool (r.fa.fg))])).set i3 (.mapo (encM (kI .i64) (kI .i64) (r.fa.fm)))).set i4 (.mapo (encM (kI .i64) (kI .i64) (r.fa.fp)))), obl := c0 = Tf.enc y0 i1 i2 ∧ c1 = Tj.own .i64 (y0.fh) none ∧ c2 = Tp.enc (y0.fa) i3 i4 ∧ c3 = encM (kI .i64) (kI .i64) (y0.fa.fm) ∧ c4 = encM (kI .i64) (kI .i64) (y0.fa.fp) ∧ (gK y0 x1).isSome = true ∧ i0 ≠ i1 ∧ i0 ≠ i2 ∧ i0 ≠ i3 ∧ i0 ≠ i4 ∧ i1 ≠ i2 ∧ i1 ≠ i3 ∧ i1 ≠ i4 ∧ i2 ≠ i3 ∧ i2 ≠ i4 ∧ i3 ≠ i4 }) ((gK y0 x1).getD dflt)) (Tf.dec c0 (decM dkI Tj.dfl c1.data) (Tp.dec c2 (decM dkI dkI c3) (decM dkI dkI c4)))
  | _, _ => none

theorem gK.ok : SpecOk Tryz.prog 9 gK.S := by
 intro l M out h
 unfold gK.S at h
 split at h
 ·rename_i i0 x1
  obtain ⟨c0, hM0, h⟩ := bB h
  obtain ⟨i1, he1, h⟩ := bM h
  obtain ⟨c1, hM1, h⟩ := bO h
  obtain ⟨i2, he2, h⟩ := bP h
  obtain ⟨c2, hM2, h⟩ := bB h
  obtain ⟨i3, he3, h⟩ := bM h
  obtain ⟨c3, hM3, h⟩ := bE h
  obtain ⟨i4, he4, h⟩ := bM h
  obtain ⟨c4, hM4, h⟩ := bE h
  try dsimp only at h
  cases h
  refine callOk_of fun ho => ?_
  obtain ⟨oc0, oc1, oc2, oc3, oc4, hs, hne0, hne1, hne2, hne3, hne4, hne5, hne6, hne7, hne8, hne9⟩ := ho
  generalize (Tf.dec c0 (decM dkI Tj.dfl c1.data) (Tp.dec c2 (decM dkI dkI c3) (decM dkI dkI c4))) = y0 at *
  subst oc0
  subst oc1
  subst oc2
  subst oc3
  subst oc4
  obtain ⟨r, hr⟩ := so1 hs
  simp only [hr, gd1]
  have q := Lg (M := M) [i0, i1, i2, i3, i4] (gK.can y0 x1 r hr) (by simp [hne0, hne1, hne2, hne3, hne4, hne5, hne6, hne7, hne8, hne9]) rfl (ix (by simp [hM0, into]) (ix (by simp [hM1]) (ix (by simp [hM2, into]) (ix (by simp [hM3]) (ix (by simp [hM4]) ixn)))))
  exact callOk_conv q trivial (by simp [into]) (by simp [frameOut, into]) (by simp [frameOut, into])
 ·cases h

@[simp] def gab.m (x0 : Tf) (_x1 : Int) : List AObj := [.blk (x0.fd.enc ++ [.mp 1, .ptr 2 0, .lit (.int .i64 x0.fc), .lit (.int .i64 x0.ff)]), .own (Tj.own .i64 x0.fh none) none, .blk [.lit (.int .i64 x0.fa.fb), .mp 3, .mp 4, .lit (.int .i64 x0.fa.fAt), .lit (.bool x0.fa.fg)], .mapo (encM (kI .i64) (kI .i64) x0.fa.fm), .mapo (encM (kI .i64) (kI .i64) x0.fa.fp)]
@[simp] def gab.out (_x0 : Tf) (_x1 : Int) (r : Bool × Tf) : Out := { av := .lit (.bool r.1), M := some [.blk [.lit (.int .i64 r.2.fd.fe), .lit (.int .i64 r.2.fd.fk), .lit (.int .i64 r.2.fd.fq), .lit (.int .i64 r.2.fd.fb), .lit (.int .i64 r.2.fd.fo), .mp 1, .ptr 2 0, .lit (.int .i64 r.2.fc), .lit (.int .i64 r.2.ff)], .own (Tj.own .i64 r.2.fh none) none, .blk [.lit (.int .i64 r.2.fa.fb), .mp 3, .mp 4, .lit (.int .i64 r.2.fa.fAt), .lit (.bool r.2.fa.fg)], .mapo (encM (kI .i64) (kI .i64) r.2.fa.fm), .mapo (encM (kI .i64) (kI .i64) r.2.fa.fp)] }
theorem gab.can (x0 : Tf) (x1 : Int) (r : Bool × Tf) (hr : gab x0 x1 = some r) : CallOk Tryz.prog 21 [.ptr 0 0, .lit (.int .i64 x1)] (gab.m x0 x1) (gab.out x0 x1 r) := by
 unfold gab at hr
 have hΓ := gamL_nil (P := Tryz.prog)
 refine cw Tryz.func21 rfl (by kernel_rfl) rfl rfl (by simp) fun _ _ _ => ?_
 refine tq hΓ [] [] ?_
 refine AWp.seq ?_
 refine tq hΓ [14] [] ?_
 refine AWp.cnd hr (by simp) (fun h2 hr => ?_) (fun h2 hr => ?_)
 ·refine tq hΓ [4] [14, 0, 1] ?_ (by simp [h2]; exact rr)
  obtain rfl := La hr
  exact AWp.ret (Le (by simp))
 ·refine AWp.skip ?_
  refine tq hΓ [] [14, 0, 1] ?_ (by simp [h2]; exact rr)
  refine tq hΓ [4] [] ?_ (by simp; exact rr)
  obtain rfl := La hr
  exact AWp.ret (Le (by simp))

@[simp] noncomputable def gab.S : Sp
  | [.ptr i0 0, .lit (.int .i64 x1)], M => (rdB M i0).bind fun c0 => (rdM c0 5).bind fun i1 => (rdO M i1).bind fun c1 => (rdP c0 6).bind fun i2 => (rdB M i2).bind fun c2 => (rdM c2 1).bind fun i3 => (rdE M i3).bind fun c3 => (rdM c2 2).bind fun i4 => (rdE M i4).bind fun c4 => (fun (y0 : Tf) => (fun (r : Bool × Tf) => some { av := .lit (.bool (r.1)), M := some (((((M.set i0 (.blk [.lit (.int .i64 (r.2.fd.fe)), .lit (.int .i64 (r.2.fd.fk)), .lit (.int .i64 (r.2.fd.fq)), .lit (.int .i64 (r.2.fd.fb)), .lit (.int .i64 (r.2.fd.fo)), .mp i1, .ptr i2 0, .lit (.int .i64 (r.2.fc)), .lit (.int .i64 (r.2.ff))])).set i1 (.own (Tj.own .i64 (r.2.fh) none) none)).set i2 (.blk [.lit (.int .i64 (r.2.fa.fb)), .mp i3, .mp i4, .lit (.int .i64 (r.2.fa.fAt)), .lit (.bool (r.2.fa.fg))])).set i3 (.mapo (encM (kI .i64) (kI .i64) (r.2.fa.fm)))).set i4 (.mapo (encM (kI .i64) (kI .i64) (r.2.fa.fp)))), obl := c0 = Tf.enc y0 i1 i2 ∧ c1 = Tj.own .i64 (y0.fh) none ∧ c2 = Tp.enc (y0.fa) i3 i4 ∧ c3 = encM (kI .i64) (kI .i64) (y0.fa.fm) ∧ c4 = encM (kI .i64) (kI .i64) (y0.fa.fp) ∧ (gab y0 x1).isSome = true ∧ i0 ≠ i1 ∧ i0 ≠ i2 ∧ i0 ≠ i3 ∧ i0 ≠ i4 ∧ i1 ≠ i2 ∧ i1 ≠ i3 ∧ i1 ≠ i4 ∧ i2 ≠ i3 ∧ i2 ≠ i4 ∧ i3 ≠ i4 }) ((gab y0 x1).getD dflt)) (Tf.dec c0 (decM dkI Tj.dfl c1.data) (Tp.dec c2 (decM dkI dkI c3) (decM dkI dkI c4)))
  | _, _ => none

theorem gab.ok : SpecOk Tryz.prog 21 gab.S := by
 intro l M out h
 unfold gab.S at h
 split at h
 ·rename_i i0 x1
  obtain ⟨c0, hM0, h⟩ := bB h
  obtain ⟨i1, he1, h⟩ := bM h
  obtain ⟨c1, hM1, h⟩ := bO h
  obtain ⟨i2, he2, h⟩ := bP h
  obtain ⟨c2, hM2, h⟩ := bB h
  obtain ⟨i3, he3, h⟩ := bM h
  obtain ⟨c3, hM3, h⟩ := bE h
  obtain ⟨i4, he4, h⟩ := bM h
  obtain ⟨c4, hM4, h⟩ := bE h
  try dsimp only at h
  cases h
  refine callOk_of fun ho => ?_
  obtain ⟨oc0, oc1, oc2, oc3, oc4, hs, hne0, hne1, hne2, hne3, hne4, hne5, hne6, hne7, hne8, hne9⟩ := ho
  generalize (Tf.dec c0 (decM dkI Tj.dfl c1.data) (Tp.dec c2 (decM dkI dkI c3) (decM dkI dkI c4))) = y0 at *
  subst oc0
  subst oc1
  subst oc2
  subst oc3
  subst oc4
  obtain ⟨r, hr⟩ := so1 hs
  simp only [hr, gd1]
  have q := Lg (M := M) [i0, i1, i2, i3, i4] (gab.can y0 x1 r hr) (by simp [hne0, hne1, hne2, hne3, hne4, hne5, hne6, hne7, hne8, hne9]) rfl (ix (by simp [hM0, into]) (ix (by simp [hM1]) (ix (by simp [hM2, into]) (ix (by simp [hM3]) (ix (by simp [hM4]) ixn)))))
  exact callOk_conv q trivial (by simp [into]) (by simp [frameOut, into]) (by simp [frameOut, into])
 ·cases h
end Go.Proofs

/- That these functions compute what their plain functions do. No condition. -/
import Derived.Test.YtpjplfnapgpfmaaGreatM10
import Derived.Test.YtpjplfnapgpfmaaGreatTy
import Derived.Test.YtpjplfnapgpfmaaGreatDc
import Derived.Test.YtpjplfnapgpfmaaGreatQu
set_option maxRecDepth 100000
set_option maxHeartbeats 4000000
namespace Go.Proofs
open Go.Ab
@[simp] def gV.out (_x0 : Tt) (r : Int) : Out := { av := .lit (.int .i64 r), M := none }
theorem gV.can (x0 : Tt) (r : Int) (hr : gV x0 = some r) : CallOk Tryz.prog 52 [.agg [.lit (.int .i64 x0.fd), .lit (.int .i64 x0.fm), .lit (.int .i64 x0.fq), .lit (.int .i64 x0.fb), .lit (.int .i64 x0.fo)]] [] (gV.out x0 r) := by
 unfold gV at hr
 have hΓ := gamL_nil (P := Tryz.prog)
 refine cw Tryz.func52 rfl (by kernel_rfl) rfl rfl (by simp) fun _ _ _ => ?_
 refine tq hΓ [1] [0] ?_
 refine AWp.seq ?_
 refine AWp.block ?_
 refine tq hΓ [3] [] ?_
 refine AWp.cnd hr (by simp) (fun h3 hr => ?_) (fun h3 hr => ?_)
 ·refine tq hΓ [2] [3, 1] ?_ (by simp [h3]; exact rr)
  obtain rfl := La hr
  exact AWp.ret (Le (by simp))
 ·refine tq hΓ [32] [3, 1] ?_ (by simp [h3]; exact rr)
  refine AWp.cnd hr (by simp) (fun h4 hr => ?_) (fun h4 hr => ?_)
  ·refine tq hΓ [2] [32] ?_ (by simp [h4]; exact rr)
   obtain rfl := La hr
   exact AWp.ret (Le (by simp))
  ·refine AWp.skip ?_
   refine tq hΓ [2] [32] ?_ (by simp [h4]; exact rr)
   obtain rfl := La hr
   exact AWp.ret (Le (by simp))

@[simp] noncomputable def gV.S : Sp
  | [.agg e0], _ => some { av := .lit (.int .i64 ((gV (Tt.dec e0)).getD dflt)), M := none, obl := WeakL e0 (Tt.enc (Tt.dec e0)) ∧ (gV (Tt.dec e0)).isSome = true }
  | _, _ => none

theorem gV.ok : SpecOk Tryz.prog 52 gV.S := by
 intro l M out h
 unfold gV.S at h
 split at h
 ·rename_i e0
  cases h
  refine callOk_of fun ho => ?_
  obtain ⟨ox0, hs⟩ := ho
  generalize (Tt.dec e0) = x0 at *
  obtain ⟨r, hr⟩ := so1 hs
  simp only [hr, gd1]
  have q := Lh (M := M) [] (gV.can x0 r hr) (by simp) rfl ixn
  exact callOk_conv q trivial (by simp; exact ox0) (by simp [frameOut]) (by simp [frameOut])
 ·cases h

@[simp] def gaK.out (_x0 : Tt) (r : Option Th × Int) : Out := { av := .tup [(optC r.1 (.lit (.pointer none)) fun _ => .ptr 5 0), .lit (.int .i64 r.2)], M := some (optC r.1 [] fun m0 => [.dead, .mapo (encM (kI .i64) (kI .i64) m0.fa.fk), .mapo (encM (kI .i64) (kI .i64) m0.fa.fp), .blk [.lit (.int .i64 m0.fa.fb), .mp 1, .mp 2, .lit (.int .i64 m0.fa.fAt), .lit (.bool m0.fa.fg)], .own (Tk.own .i64 m0.fh none) none, .blk [.lit (.int .i64 m0.fe.fd), .lit (.int .i64 m0.fe.fm), .lit (.int .i64 m0.fe.fq), .lit (.int .i64 m0.fe.fb), .lit (.int .i64 m0.fe.fo), .mp 4, .ptr 3 0, .lit (.int .i64 m0.fc), .lit (.int .i64 m0.ff)]]) }
theorem gaK.can (x0 : Tt) (r : Option Th × Int) (hr : gaK x0 = some r) : CallOk Tryz.prog 17 [.agg [.lit (.int .i64 x0.fd), .lit (.int .i64 x0.fm), .lit (.int .i64 x0.fq), .lit (.int .i64 x0.fb), .lit (.int .i64 x0.fo)]] [] (gaK.out x0 r) := by
 unfold gaK at hr
 have hΓ := (gamL_cons gV.ok (gamL_cons gaV.ok (gamL_nil)) : GamOk Tryz.prog _)
 refine cw Tryz.func17 rfl (by kernel_rfl) rfl rfl (by simp) fun _ _ _ => ?_
 refine tq hΓ [1] [0] ?_
 refine AWp.seq ?_
 obtain ⟨r1, h7, hr⟩ := Lb hr
 refine tq hΓ [4] [] ?_ (by simp [h7]; exact rr)
 refine tq hΓ [10] [] ?_ (by simp; exact rr)
 refine AWp.cnd hr (by simp) (fun h8 hr => ?_) (fun h8 hr => ?_)
 ·refine tq hΓ [2, 3] [10, 4, 1] ?_ (by simp [h8]; exact rr)
  obtain rfl := La hr
  exact AWp.ret (Le (by simp))
 ·refine AWp.skip ?_
  obtain ⟨r2, h9, hr⟩ := Lb hr
  cases h10 : r2.1 with
  | none =>
    have hr := optC_n h10 hr
    refine tq hΓ [5, 6] [10, 4] ?_ (by simp [h8, h9, h10]; exact rr)
    refine AWp.seq ?_
    refine tq hΓ [19] [] ?_ (by simp; exact rr)
    refine AWp.cnd hr (by simp) (fun h11 hr => ?_) (fun h11 hr => ?_)
    ·refine tq hΓ [2, 3] [19, 5, 6, 1] ?_ (by simp [h11]; exact rr)
     obtain rfl := La hr
     exact AWp.ret (Le (by simp))
    ·refine AWp.skip ?_
     refine tq hΓ [2, 3] [19, 5, 6, 1] ?_ (by simp [h11]; exact rr)
     refine AWp.see (See.emptyM (key := intKey .i64) (kE := Value.int .i64) (fl := Tk.fl) (N := Tk.mem) (V := Tk.val) 1 (by rfl) (by simp; rfl)) ?_
     cases hr
  | some o1 =>
    have hr := optC_s h10 hr
    refine tq hΓ [5, 6] [10, 4] ?_ (by simp [h8, h9, h10]; exact rr)
    refine AWp.seq ?_
    refine tq hΓ [19] [] ?_ (by simp; exact rr)
    refine AWp.cnd hr (by simp) (fun h12 hr => ?_) (fun h12 hr => ?_)
    ·refine tq hΓ [2, 3] [19, 5, 6, 1] ?_ (by simp [h12]; exact rr)
     obtain rfl := La hr
     exact AWp.ret (Le (by simp))
    ·refine AWp.skip ?_
     refine tq hΓ [2, 3] [19, 5, 6, 1] ?_ (by simp [h12]; exact rr)
     refine AWp.see (See.emptyM (key := intKey .i64) (kE := Value.int .i64) (fl := Tk.fl) (N := Tk.mem) (V := Tk.val) 4 (by rfl) (by simp; rfl)) ?_
     obtain rfl := La hr
     exact AWp.ret (Le (by simp))

@[simp] noncomputable def gaK.S : Sp
  | [.agg e0], M => some { av := .tup [(optC (((gaK (Tt.dec e0)).getD dflt).1) (.lit (.pointer none)) fun _ => .ptr (M.length + 5) 0), .lit (.int .i64 (((gaK (Tt.dec e0)).getD dflt).2))], M := some (optC (((gaK (Tt.dec e0)).getD dflt).1) M fun m0 => M ++ [.dead, .mapo (encM (kI .i64) (kI .i64) m0.fa.fk), .mapo (encM (kI .i64) (kI .i64) m0.fa.fp), .blk [.lit (.int .i64 m0.fa.fb), .mp (M.length + 1), .mp (M.length + 2), .lit (.int .i64 m0.fa.fAt), .lit (.bool m0.fa.fg)], .own (Tk.own .i64 m0.fh none) none, .blk [.lit (.int .i64 m0.fe.fd), .lit (.int .i64 m0.fe.fm), .lit (.int .i64 m0.fe.fq), .lit (.int .i64 m0.fe.fb), .lit (.int .i64 m0.fe.fo), .mp (M.length + 4), .ptr (M.length + 3) 0, .lit (.int .i64 m0.fc), .lit (.int .i64 m0.ff)]]), obl := WeakL e0 (Tt.enc (Tt.dec e0)) ∧ (gaK (Tt.dec e0)).isSome = true }
  | _, _ => none

theorem gaK.ok : SpecOk Tryz.prog 17 gaK.S := by
 intro l M out h
 unfold gaK.S at h
 split at h
 ·rename_i e0
  cases h
  refine callOk_of fun ho => ?_
  obtain ⟨ox0, hs⟩ := ho
  generalize (Tt.dec e0) = x0 at *
  obtain ⟨r, hr⟩ := so1 hs
  simp only [hr, gd1]
  have q := Lh (M := M) [] (gaK.can x0 r hr) (by simp) rfl ixn
  cases hc : r.1 with
  | none => exact callOk_conv q trivial (by simp; exact ox0) (by simp [hc, frameOut]) (by simp [hc, frameOut])
  | some m0 => exact callOk_conv q trivial (by simp; exact ox0) (by simp [hc, frameOut, into]) (by simp [hc, frameOut, into])
 ·cases h

@[simp] def gag.out (_x0 : Int) (_x1 : List Ta) (r : List Tb) : Out := { av := .sl (r.map Tb.enc) .no, M := none }
def gag.fin (x0 : Int) (x1 : List Ta) (r : List Tb) (σ : St) : Prop := finK (gag.out x0 x1 r) [] σ.M (resA Tryz.ty σ.A σ.M Tryz.f55.results.toList)
theorem gag.can (x0 : Int) (x1 : List Ta) (r : List Tb) (hr : gag x0 x1 = some r) : CallOk Tryz.prog 55 [.lit (.int .i64 x0), .sl (x1.map Ta.enc) .no] [] (gag.out x0 x1 r) := by
 unfold gag at hr
 have hΓ := gamL_nil (P := Tryz.prog)
 refine cw Tryz.func55 rfl (by kernel_rfl) rfl rfl (by simp) fun _ _ _ => ?_
 refine tq hΓ [] [] ?_
 refine tq hΓ [5] [] ?_
 refine AWp.seq ?_
 refine tq hΓ [8, 9, 10] [1] ?_
 refine AWp.equip 5 5 (els := []) (by simp) (by simp) ?_
 refine AWp.loopE (fun (s1 : Int × List Tb) (γ1 : Nat) => ⟨[⟨8, none, .sl (x1.map Ta.enc) .no⟩, ⟨9, none, .n (lenL x1)⟩, ⟨10, none, .n s1.1⟩, ⟨5, none, .sl (s1.2.map Tb.enc) (.own 0 (γ1) 5)⟩, ⟨0, none, .n x0⟩], [.room (γ1)]⟩) (fun (v1 : List Tb) (γ1a : Nat) => ⟨[⟨5, none, .sl (v1.map Tb.enc) (.own 0 (γ1a) 5)⟩], [.room (γ1a)]⟩) (gag.fin x0 x1) hr 0 1 (by simp) (fun s1 f γ1 hr => ?_) (fun v1 γ1a σ1 m1 hr hc => ?_) (fun _ h => h)
 ·unfold gag.loop1 at hr
  refine tq hΓ [11] [] ?_
  refine AWp.seq ?_
  refine AWp.cnd hr (by simp) (fun h4 hr => ?_) (fun h4 hr => ?_)
  ·refine AWp.skip ?_
   refine AWp.seq ?_
   refine AWp.block ?_
   obtain ⟨h5, hr⟩ := Lc hr
   refine tq hΓ [7] [11] ?_ (by simp [h4, h5]; exact rr)
   obtain ⟨h6, hr⟩ := Lc hr
   refine tl hΓ [5] [7] ?_ (by simp [h6]; exact rr)
   refine tl hΓ [10] [] ?_ (by simp; exact rr)
   obtain rfl := La hr
   exact Lk (γ1 + 1) 1 (by first | (simp; done) | simp [h4, h5, h6])
  ·refine AWp.exit ?_
   obtain rfl := La hr
   exact Ln (γ1) 1 (by first | (simp; done) | simp [h4])
 ·refine AWp.conv hc ?_
  refine tq hΓ [4] [5] ?_
  obtain rfl := La hr
  exact AWp.ret (Le (by simp))

@[simp] noncomputable def gag.S : Sp
  | [.lit (.int .i64 x0), .sl e1 _], _ => some { av := .sl (((gag x0 (e1.map Ta.dec)).getD dflt).map Tb.enc) .no, M := none, obl := e1 = (e1.map Ta.dec).map Ta.enc ∧ (gag x0 (e1.map Ta.dec)).isSome = true }
  | _, _ => none

theorem gag.ok : SpecOk Tryz.prog 55 gag.S := by
 intro l M out h
 unfold gag.S at h
 split at h
 ·rename_i x0 e1 k1
  cases h
  refine callOk_of fun ho => ?_
  obtain ⟨ox1, hs⟩ := ho
  generalize (e1.map Ta.dec) = x1 at *
  subst ox1
  obtain ⟨r, hr⟩ := so1 hs
  simp only [hr, gd1]
  have q := Lh (M := M) [] (gag.can x0 x1 r hr) (by simp) rfl ixn
  exact callOk_conv q trivial (by simp) (by simp [frameOut]) (by simp [frameOut])
 ·cases h

@[simp] def gT.m (x0 : Th) (_x1 : Int) (_x2 : Bool) (_x3 : Int) : List AObj := [.blk (x0.fe.enc ++ [.mp 1, .ptr 2 0, .lit (.int .i64 x0.fc), .lit (.int .i64 x0.ff)]), .own (Tk.own .i64 x0.fh none) none, .blk [.lit (.int .i64 x0.fa.fb), .mp 3, .mp 4, .lit (.int .i64 x0.fa.fAt), .lit (.bool x0.fa.fg)], .mapo (encM (kI .i64) (kI .i64) x0.fa.fk), .mapo (encM (kI .i64) (kI .i64) x0.fa.fp)]
@[simp] def gT.out (_x0 : Th) (_x1 : Int) (_x2 : Bool) (_x3 : Int) (r : Int × Th) : Out := { av := .lit (.int .i64 r.1), M := some [.blk [.lit (.int .i64 r.2.fe.fd), .lit (.int .i64 r.2.fe.fm), .lit (.int .i64 r.2.fe.fq), .lit (.int .i64 r.2.fe.fb), .lit (.int .i64 r.2.fe.fo), .mp 1, .ptr 2 0, .lit (.int .i64 r.2.fc), .lit (.int .i64 r.2.ff)], .own (Tk.own .i64 r.2.fh none) none, .blk [.lit (.int .i64 r.2.fa.fb), .mp 3, .mp 4, .lit (.int .i64 r.2.fa.fAt), .lit (.bool r.2.fa.fg)], .mapo (encM (kI .i64) (kI .i64) r.2.fa.fk), .mapo (encM (kI .i64) (kI .i64) r.2.fa.fp)] }
def gT.fin (x0 : Th) (x1 : Int) (x2 : Bool) (x3 : Int) (r : Int × Th) (σ : St) : Prop := finK (gT.out x0 x1 x2 x3 r) (gT.m x0 x1 x2 x3) σ.M (resA Tryz.ty σ.A σ.M Tryz.f66.results.toList)
theorem gT.can (x0 : Th) (x1 : Int) (x2 : Bool) (x3 : Int) (r : Int × Th) (hr : gT x0 x1 x2 x3 = some r) : CallOk Tryz.prog 66 [.ptr 0 0, .lit (.int .i64 x1), .lit (.bool x2), .lit (.int .i64 x3)] (gT.m x0 x1 x2 x3) (gT.out x0 x1 x2 x3 r) := by
 unfold gT at hr
 have hΓ := (gamL_cons gao.ok (gamL_cons gaO.ok (gamL_nil)) : GamOk Tryz.prog _)
 refine cw Tryz.func66 rfl (by kernel_rfl) rfl rfl (by simp) fun _ _ _ => ?_
 refine tq hΓ [] [] ?_
 refine AWp.seq ?_
 cases h9 : findM eqI x1 x0.fh with
 | none =>
   have hr := optC_n h9 hr
   refine AWp.see (See.missI 1 x1 x0.fh h9 (by rfl) (by simp; rfl)) ?_
   refine tq hΓ [10] [] ?_
   refine tq hΓ [23] [10] ?_
   refine AWp.cond (b := false) (by simp) (fun hb => ?_) (fun hb => ?_)
   ·cases hb
   ·refine AWp.skip ?_
    refine AWp.meetF (fun (v1 : Int × Int × Bool × (List (Int × Int)) × (List (Int × Int)) × Bool) (γ1 : Unit) => ⟨[⟨0, none, .ptr 0 0⟩, ⟨1, none, .n x1⟩, ⟨2, none, .b v1.2.2.2.2.2⟩], [.blk (x0.fe.enc ++ [.mp 1, .ptr 2 0, .n x0.fc, .n x0.ff]), .own (Tk.own .i64 x0.fh none) (some (.int .i64 x1, none)), .blk [.n v1.1, .mp 3, .mp 4, .n v1.2.1, .b v1.2.2.1], .mapo (encM (kI .i64) (kI .i64) v1.2.2.2.1), .mapo (encM (kI .i64) (kI .i64) v1.2.2.2.2.1), .blk [.lit (.pointer none), .b false]]⟩) (gT.fin x0 x1 x2 x3) hr (fun f hr => ?_) (fun v1 γ1 hr => ?_) (fun _ h => h)
    ·refine tq hΓ [24] [23] ?_
     refine AWp.cnd hr (by simp) (fun h10 hr => ?_) (fun h10 hr => ?_)
     ·obtain ⟨r1, h11, hr⟩ := Lb hr
      refine tq hΓ [11] [24, 3] ?_ (by simp [h10, h11]; exact rr)
      refine tq hΓ [33] [] ?_ (by simp; exact rr)
      refine AWp.cnd hr (by simp) (fun h12 hr => ?_) (fun h12 hr => ?_)
      ·refine tq hΓ [8] [33, 11, 0, 1, 2] ?_ (by simp [h12]; exact rr)
       refine AWp.see (See.shutM 1 (by rfl) (by simp; rfl)) ?_
       refine AWp.ret ?_
       obtain rfl := La hr
       refine meet_ret ?_
       refine Le ?_
       simp
      ·refine AWp.skip ?_
       obtain rfl := La hr
       exact Ll () 6 (by first | (simp; done) | simp [h10, h11, h12])
     ·refine AWp.skip ?_
      obtain rfl := La hr
      exact Ll () 6 (by first | (simp; done) | simp [h10])
    ·obtain ⟨r2, h13, hr⟩ := Lb hr
     cases h14 : r2.1 with
     | none =>
       have hr := optC_n h14 hr
       refine td hΓ [12, 13] [] [] [(false, []), (false, []), (false, []), (false, []), (false, []), (false, []), (false, []), (false, []), (false, []), (false, []), (true, []), (false, []), (false, []), (false, []), (false, []), (false, [])] (by simp [h13, h14]; exact rr) ?_
       refine AWp.seq ?_
       refine tq hΓ [50] [] ?_ (by simp; exact rr)
       refine AWp.cnd hr (by simp) (fun h15 hr => ?_) (fun h15 hr => ?_)
       ·refine tq hΓ [8] [50, 12, 13, 0, 1, 2] ?_ (by simp [h15]; exact rr)
        refine AWp.see (See.shutM 1 (by rfl) (by simp; rfl)) ?_
        obtain rfl := La hr
        exact AWp.ret (Le (by simp))
       ·refine AWp.skip ?_
        refine tq hΓ [] [50, 12, 13, 0, 1, 2] ?_ (by simp [h15]; exact rr)
        refine tq hΓ [8] [] ?_ (by simp; exact rr)
        cases hr
     | some o1 =>
       have hr := optC_s h14 hr
       refine td hΓ [12, 13] [] [] [(false, []), (false, []), (false, []), (false, []), (false, []), (false, []), (false, []), (false, []), (false, []), (false, []), (true, []), (false, []), (false, []), (false, []), (false, []), (false, [])] (by simp [h13, h14]; exact rr) ?_
       refine AWp.seq ?_
       refine tq hΓ [50] [] ?_ (by simp; exact rr)
       refine AWp.cnd hr (by simp) (fun h16 hr => ?_) (fun h16 hr => ?_)
       ·refine tq hΓ [8] [50, 12, 13, 0, 1, 2] ?_ (by simp [h16]; exact rr)
        refine AWp.see (See.shutM 1 (by rfl) (by simp; rfl)) ?_
        obtain rfl := La hr
        exact AWp.ret (Le (by simp))
       ·refine AWp.skip ?_
        refine tq hΓ [] [50, 12, 13, 0, 1, 2] ?_ (by simp [h16]; exact rr)
        refine tq hΓ [8] [] ?_ (by simp; exact rr)
        refine AWp.see (See.newI 1 x1 (Tk.mk o1 v1.2.2.2.2.2) x0.fh [6] (by rfl) (by decide) (by simp) (by simp [into]) (by simp) (by simp [killAll]; rfl)) ?_
        obtain rfl := La hr
        exact AWp.ret (Le (by simp))
 | some z1 =>
   have hr := optC_s h9 hr
   refine AWp.see (See.openI 1 x1 z1 x0.fh h9 (by rfl) (by simp; rfl)) ?_
   refine tq hΓ [10] [] ?_
   refine tq hΓ [23] [10] ?_
   refine AWp.cond (b := true) (by simp) (fun hb => ?_) (fun hb => ?_)
   ·refine tq hΓ [8] [23, 0, 1, 2, 3] ?_
    refine AWp.see (See.closeS 1 x1 z1 x0.fh [5] h9 (by rfl) (by decide) (by simp) (by simp [into]) (by simp) (by simp [killAll]; rfl)) ?_
    obtain rfl := La hr
    exact AWp.ret (Le (by simp))
   ·cases hb

@[simp] noncomputable def gT.S : Sp
  | [.ptr i0 0, .lit (.int .i64 x1), .lit (.bool x2), .lit (.int .i64 x3)], M => (rdB M i0).bind fun c0 => (rdM c0 5).bind fun i1 => (rdO M i1).bind fun c1 => (rdP c0 6).bind fun i2 => (rdB M i2).bind fun c2 => (rdM c2 1).bind fun i3 => (rdE M i3).bind fun c3 => (rdM c2 2).bind fun i4 => (rdE M i4).bind fun c4 => (fun (y0 : Th) => (fun (r : Int × Th) => some { av := .lit (.int .i64 (r.1)), M := some (((((M.set i0 (.blk [.lit (.int .i64 (r.2.fe.fd)), .lit (.int .i64 (r.2.fe.fm)), .lit (.int .i64 (r.2.fe.fq)), .lit (.int .i64 (r.2.fe.fb)), .lit (.int .i64 (r.2.fe.fo)), .mp i1, .ptr i2 0, .lit (.int .i64 (r.2.fc)), .lit (.int .i64 (r.2.ff))])).set i1 (.own (Tk.own .i64 (r.2.fh) none) none)).set i2 (.blk [.lit (.int .i64 (r.2.fa.fb)), .mp i3, .mp i4, .lit (.int .i64 (r.2.fa.fAt)), .lit (.bool (r.2.fa.fg))])).set i3 (.mapo (encM (kI .i64) (kI .i64) (r.2.fa.fk)))).set i4 (.mapo (encM (kI .i64) (kI .i64) (r.2.fa.fp)))), obl := c0 = Th.enc y0 i1 i2 ∧ c1 = Tk.own .i64 (y0.fh) none ∧ c2 = Tp.enc (y0.fa) i3 i4 ∧ c3 = encM (kI .i64) (kI .i64) (y0.fa.fk) ∧ c4 = encM (kI .i64) (kI .i64) (y0.fa.fp) ∧ (gT y0 x1 x2 x3).isSome = true ∧ i0 ≠ i1 ∧ i0 ≠ i2 ∧ i0 ≠ i3 ∧ i0 ≠ i4 ∧ i1 ≠ i2 ∧ i1 ≠ i3 ∧ i1 ≠ i4 ∧ i2 ≠ i3 ∧ i2 ≠ i4 ∧ i3 ≠ i4 }) ((gT y0 x1 x2 x3).getD dflt)) (Th.dec c0 (decM dkI Tk.dfl c1.data) (Tp.dec c2 (decM dkI dkI c3) (decM dkI dkI c4)))
  | _, _ => none

theorem gT.ok : SpecOk Tryz.prog 66 gT.S := by
 intro l M out h
 unfold gT.S at h
 split at h
 ·rename_i i0 x1 x2 x3
  obtain ⟨c0, hM0, h⟩ := bB h
  obtain ⟨i1, he1, h⟩ := bM h
  obtain ⟨c1, hM1, h⟩ := bO h
  obtain ⟨i2, he2, h⟩ := bP h
  obtain ⟨c2, hM2, h⟩ := bB h
  obtain ⟨i3, he3, h⟩ := bM h
  obtain ⟨c3, hM3, h⟩ := bE h
  obtain ⟨i4, he4, h⟩ := bM h
  obtain ⟨c4, hM4, h⟩ := bE h
  try dsimp only at h
  cases h
  refine callOk_of fun ho => ?_
  obtain ⟨oc0, oc1, oc2, oc3, oc4, hs, hne0, hne1, hne2, hne3, hne4, hne5, hne6, hne7, hne8, hne9⟩ := ho
  generalize (Th.dec c0 (decM dkI Tk.dfl c1.data) (Tp.dec c2 (decM dkI dkI c3) (decM dkI dkI c4))) = y0 at *
  subst oc0
  subst oc1
  subst oc2
  subst oc3
  subst oc4
  obtain ⟨r, hr⟩ := so1 hs
  simp only [hr, gd1]
  have q := Lh (M := M) [i0, i1, i2, i3, i4] (gT.can y0 x1 x2 x3 r hr) (by simp [hne0, hne1, hne2, hne3, hne4, hne5, hne6, hne7, hne8, hne9]) rfl (ix (by simp [hM0, into]) (ix (by simp [hM1]) (ix (by simp [hM2, into]) (ix (by simp [hM3]) (ix (by simp [hM4]) ixn)))))
  exact callOk_conv q trivial (by simp [into]) (by simp [frameOut, into]) (by simp [frameOut, into])
 ·cases h

@[simp] def gG.m (x0 : Th) (_x1 : Int) : List AObj := [.blk (x0.fe.enc ++ [.mp 1, .ptr 2 0, .lit (.int .i64 x0.fc), .lit (.int .i64 x0.ff)]), .own (Tk.own .i64 x0.fh none) none, .blk [.lit (.int .i64 x0.fa.fb), .mp 3, .mp 4, .lit (.int .i64 x0.fa.fAt), .lit (.bool x0.fa.fg)], .mapo (encM (kI .i64) (kI .i64) x0.fa.fk), .mapo (encM (kI .i64) (kI .i64) x0.fa.fp)]
@[simp] def gG.out (_x0 : Th) (_x1 : Int) (r : List Tb × Int × Th) : Out := { av := .tup [.sl (r.1.map Tb.enc) .no, .lit (.int .i64 r.2.1)], M := some [.blk [.lit (.int .i64 r.2.2.fe.fd), .lit (.int .i64 r.2.2.fe.fm), .lit (.int .i64 r.2.2.fe.fq), .lit (.int .i64 r.2.2.fe.fb), .lit (.int .i64 r.2.2.fe.fo), .mp 1, .ptr 2 0, .lit (.int .i64 r.2.2.fc), .lit (.int .i64 r.2.2.ff)], .own (Tk.own .i64 r.2.2.fh none) none, .blk [.lit (.int .i64 r.2.2.fa.fb), .mp 3, .mp 4, .lit (.int .i64 r.2.2.fa.fAt), .lit (.bool r.2.2.fa.fg)], .mapo (encM (kI .i64) (kI .i64) r.2.2.fa.fk), .mapo (encM (kI .i64) (kI .i64) r.2.2.fa.fp)] }
def gG.fin (x0 : Th) (x1 : Int) (r : List Tb × Int × Th) (σ : St) : Prop := finK (gG.out x0 x1 r) (gG.m x0 x1) σ.M (resA Tryz.ty σ.A σ.M Tryz.f68.results.toList)
theorem gG.can (x0 : Th) (x1 : Int) (r : List Tb × Int × Th) (hr : gG x0 x1 = some r) : CallOk Tryz.prog 68 [.ptr 0 0, .lit (.int .i64 x1)] (gG.m x0 x1) (gG.out x0 x1 r) := by
 unfold gG at hr
 have hΓ := (gamL_cons gF.ok (gamL_cons gW.ok (gamL_cons gag.ok (gamL_nil))) : GamOk Tryz.prog _)
 refine cw Tryz.func68 rfl (by kernel_rfl) rfl rfl (by simp) fun _ _ _ => ?_
 refine tq hΓ [] [] ?_
 cases h6 : findM eqI x1 x0.fh with
 | none =>
   have hr := optC_n h6 hr
   refine AWp.see (See.missI 1 x1 x0.fh h6 (by rfl) (by simp; rfl)) ?_
   refine tq hΓ [6, 7] [] ?_
   refine AWp.seq ?_
   refine tq hΓ [18] [7] ?_
   refine AWp.cond (b := true) (by simp) (fun hb => ?_) (fun hb => ?_)
   ·refine tq hΓ [4, 5] [18, 6, 0, 1] ?_
    refine AWp.see (See.shutM 1 (by rfl) (by simp; rfl)) ?_
    obtain rfl := La hr
    exact AWp.ret (Le (by simp))
   ·cases hb
 | some z1 =>
   have hr := optC_s h6 hr
   refine AWp.see (See.openI 1 x1 z1 x0.fh h6 (by rfl) (by simp; rfl)) ?_
   refine tq hΓ [6, 7] [] ?_
   refine AWp.seq ?_
   refine tq hΓ [18] [7] ?_
   refine AWp.cond (b := false) (by simp) (fun hb => ?_) (fun hb => ?_)
   ·cases hb
   ·refine AWp.skip ?_
    refine AWp.meetF (fun (v1 : Int × Int × Bool × (List (Int × Int)) × (List (Int × Int)) × Bool) (γ1 : Unit) => ⟨[⟨6, none, .ptr 6 0⟩, ⟨0, none, .ptr 0 0⟩, ⟨1, none, .n x1⟩], [.blk (x0.fe.enc ++ [.mp 1, .ptr 2 0, .n x0.fc, .n x0.ff]), .own (Tk.own .i64 x0.fh (some (.int .i64 x1))) (some (.int .i64 x1, some (.agg [.ptr 5 0, .b z1.fu]))), .blk [.n v1.1, .mp 3, .mp 4, .n v1.2.1, .b v1.2.2.1], .mapo (encM (kI .i64) (kI .i64) v1.2.2.2.1), .mapo (encM (kI .i64) (kI .i64) v1.2.2.2.2.1), .blk z1.fB.enc, .blk [.ptr 5 0, .b v1.2.2.2.2.2]]⟩) (gG.fin x0 x1) hr (fun f hr => ?_) (fun v1 γ1 hr => ?_) (fun _ h => h)
    ·refine tq hΓ [20] [18] ?_
     refine AWp.cnd hr (by simp) (fun h7 hr => ?_) (fun h7 hr => ?_)
     ·obtain ⟨r1, h8, hr⟩ := Lb hr
      refine tl hΓ [] [20] ?_ (by simp [h7, h8]; exact rr)
      obtain rfl := La hr
      exact Ll () 7 (by first | (simp; done) | simp [h7])
     ·refine AWp.skip ?_
      obtain rfl := La hr
      exact Ll () 7 (by first | (simp; done) | simp [h7])
    ·refine tq hΓ [] [0] ?_
     obtain ⟨r2, h9, hr⟩ := Lb hr
     obtain ⟨r3, h10, hr⟩ := Lb hr
     refine tq hΓ [4, 5] [6, 1] ?_ (by simp [h9, h10]; exact rr)
     refine AWp.see (See.struckI 1 x1 x0.fh (by rfl) (by simp; rfl)) ?_
     obtain rfl := La hr
     exact AWp.ret (Le (by simp))

@[simp] noncomputable def gG.S : Sp
  | [.ptr i0 0, .lit (.int .i64 x1)], M => (rdB M i0).bind fun c0 => (rdM c0 5).bind fun i1 => (rdO M i1).bind fun c1 => (rdP c0 6).bind fun i2 => (rdB M i2).bind fun c2 => (rdM c2 1).bind fun i3 => (rdE M i3).bind fun c3 => (rdM c2 2).bind fun i4 => (rdE M i4).bind fun c4 => (fun (y0 : Th) => (fun (r : List Tb × Int × Th) => some { av := .tup [.sl ((r.1).map Tb.enc) .no, .lit (.int .i64 (r.2.1))], M := some (((((M.set i0 (.blk [.lit (.int .i64 (r.2.2.fe.fd)), .lit (.int .i64 (r.2.2.fe.fm)), .lit (.int .i64 (r.2.2.fe.fq)), .lit (.int .i64 (r.2.2.fe.fb)), .lit (.int .i64 (r.2.2.fe.fo)), .mp i1, .ptr i2 0, .lit (.int .i64 (r.2.2.fc)), .lit (.int .i64 (r.2.2.ff))])).set i1 (.own (Tk.own .i64 (r.2.2.fh) none) none)).set i2 (.blk [.lit (.int .i64 (r.2.2.fa.fb)), .mp i3, .mp i4, .lit (.int .i64 (r.2.2.fa.fAt)), .lit (.bool (r.2.2.fa.fg))])).set i3 (.mapo (encM (kI .i64) (kI .i64) (r.2.2.fa.fk)))).set i4 (.mapo (encM (kI .i64) (kI .i64) (r.2.2.fa.fp)))), obl := c0 = Th.enc y0 i1 i2 ∧ c1 = Tk.own .i64 (y0.fh) none ∧ c2 = Tp.enc (y0.fa) i3 i4 ∧ c3 = encM (kI .i64) (kI .i64) (y0.fa.fk) ∧ c4 = encM (kI .i64) (kI .i64) (y0.fa.fp) ∧ (gG y0 x1).isSome = true ∧ i0 ≠ i1 ∧ i0 ≠ i2 ∧ i0 ≠ i3 ∧ i0 ≠ i4 ∧ i1 ≠ i2 ∧ i1 ≠ i3 ∧ i1 ≠ i4 ∧ i2 ≠ i3 ∧ i2 ≠ i4 ∧ i3 ≠ i4 }) ((gG y0 x1).getD dflt)) (Th.dec c0 (decM dkI Tk.dfl c1.data) (Tp.dec c2 (decM dkI dkI c3) (decM dkI dkI c4)))
  | _, _ => none

theorem gG.ok : SpecOk Tryz.prog 68 gG.S := by
 intro l M out h
 unfold gG.S at h
 split at h
 ·rename_i i0 x1
  obtain ⟨c0, hM0, h⟩ := bB h
  obtain ⟨i1, he1, h⟩ := bM h
  obtain ⟨c1, hM1, h⟩ := bO h
  obtain ⟨i2, he2, h⟩ := bP h
  obtain ⟨c2, hM2, h⟩ := bB h
  obtain ⟨i3, he3, h⟩ := bM h
  obtain ⟨c3, hM3, h⟩ := bE h
  obtain ⟨i4, he4, h⟩ := bM h
  obtain ⟨c4, hM4, h⟩ := bE h
  try dsimp only at h
  cases h
  refine callOk_of fun ho => ?_
  obtain ⟨oc0, oc1, oc2, oc3, oc4, hs, hne0, hne1, hne2, hne3, hne4, hne5, hne6, hne7, hne8, hne9⟩ := ho
  generalize (Th.dec c0 (decM dkI Tk.dfl c1.data) (Tp.dec c2 (decM dkI dkI c3) (decM dkI dkI c4))) = y0 at *
  subst oc0
  subst oc1
  subst oc2
  subst oc3
  subst oc4
  obtain ⟨r, hr⟩ := so1 hs
  simp only [hr, gd1]
  have q := Lh (M := M) [i0, i1, i2, i3, i4] (gG.can y0 x1 r hr) (by simp [hne0, hne1, hne2, hne3, hne4, hne5, hne6, hne7, hne8, hne9]) rfl (ix (by simp [hM0, into]) (ix (by simp [hM1]) (ix (by simp [hM2, into]) (ix (by simp [hM3]) (ix (by simp [hM4]) ixn)))))
  exact callOk_conv q trivial (by simp [into]) (by simp [frameOut, into]) (by simp [frameOut, into])
 ·cases h

@[simp] def gad.m (x0 : Th) (_x1 : Int) : List AObj := [.blk (x0.fe.enc ++ [.mp 1, .ptr 2 0, .lit (.int .i64 x0.fc), .lit (.int .i64 x0.ff)]), .own (Tk.own .i64 x0.fh none) none, .blk [.lit (.int .i64 x0.fa.fb), .mp 3, .mp 4, .lit (.int .i64 x0.fa.fAt), .lit (.bool x0.fa.fg)], .mapo (encM (kI .i64) (kI .i64) x0.fa.fk), .mapo (encM (kI .i64) (kI .i64) x0.fa.fp)]
@[simp] def gad.out (_x0 : Th) (_x1 : Int) (r : List Tb × Th) : Out := { av := .sl (r.1.map Tb.enc) .no, M := some [.blk [.lit (.int .i64 r.2.fe.fd), .lit (.int .i64 r.2.fe.fm), .lit (.int .i64 r.2.fe.fq), .lit (.int .i64 r.2.fe.fb), .lit (.int .i64 r.2.fe.fo), .mp 1, .ptr 2 0, .lit (.int .i64 r.2.fc), .lit (.int .i64 r.2.ff)], .own (Tk.own .i64 r.2.fh none) none, .blk [.lit (.int .i64 r.2.fa.fb), .mp 3, .mp 4, .lit (.int .i64 r.2.fa.fAt), .lit (.bool r.2.fa.fg)], .mapo (encM (kI .i64) (kI .i64) r.2.fa.fk), .mapo (encM (kI .i64) (kI .i64) r.2.fa.fp)] }
theorem gad.can (x0 : Th) (x1 : Int) (r : List Tb × Th) (hr : gad x0 x1 = some r) : CallOk Tryz.prog 70 [.ptr 0 0, .lit (.int .i64 x1)] (gad.m x0 x1) (gad.out x0 x1 r) := by
 unfold gad at hr
 have hΓ := (gamL_cons gW.ok (gamL_cons gag.ok (gamL_nil)) : GamOk Tryz.prog _)
 refine cw Tryz.func70 rfl (by kernel_rfl) rfl rfl (by simp) fun _ _ _ => ?_
 refine tq hΓ [] [] ?_
 cases h4 : findM eqI x1 x0.fh with
 | none =>
   have hr := optC_n h4 hr
   refine AWp.see (See.missI 1 x1 x0.fh h4 (by rfl) (by simp; rfl)) ?_
   refine tq hΓ [5, 6] [0] ?_
   refine AWp.seq ?_
   refine tq hΓ [17] [6] ?_
   refine AWp.cond (b := true) (by simp) (fun hb => ?_) (fun hb => ?_)
   ·refine tq hΓ [4] [17, 5, 1] ?_
    refine AWp.see (See.shutM 1 (by rfl) (by simp; rfl)) ?_
    obtain rfl := La hr
    exact AWp.ret (Le (by simp))
   ·cases hb
 | some z1 =>
   have hr := optC_s h4 hr
   refine AWp.see (See.openI 1 x1 z1 x0.fh h4 (by rfl) (by simp; rfl)) ?_
   refine tq hΓ [5, 6] [0] ?_
   refine AWp.seq ?_
   refine tq hΓ [17] [6] ?_
   refine AWp.cond (b := false) (by simp) (fun hb => ?_) (fun hb => ?_)
   ·cases hb
   ·refine AWp.skip ?_
    obtain ⟨r1, h5, hr⟩ := Lb hr
    obtain ⟨r2, h6, hr⟩ := Lb hr
    refine tq hΓ [4] [17, 5, 1] ?_ (by simp [h5, h6]; exact rr)
    refine AWp.see (See.closeI 1 x1 (Tk.mk r1.2 z1.fu) x0.fh [5] (by rfl) (by decide) (by simp) (by simp [into]) (by simp) (by simp [killAll]; rfl)) ?_
    obtain rfl := La hr
    exact AWp.ret (Le (by simp))

@[simp] noncomputable def gad.S : Sp
  | [.ptr i0 0, .lit (.int .i64 x1)], M => (rdB M i0).bind fun c0 => (rdM c0 5).bind fun i1 => (rdO M i1).bind fun c1 => (rdP c0 6).bind fun i2 => (rdB M i2).bind fun c2 => (rdM c2 1).bind fun i3 => (rdE M i3).bind fun c3 => (rdM c2 2).bind fun i4 => (rdE M i4).bind fun c4 => (fun (y0 : Th) => (fun (r : List Tb × Th) => some { av := .sl ((r.1).map Tb.enc) .no, M := some (((((M.set i0 (.blk [.lit (.int .i64 (r.2.fe.fd)), .lit (.int .i64 (r.2.fe.fm)), .lit (.int .i64 (r.2.fe.fq)), .lit (.int .i64 (r.2.fe.fb)), .lit (.int .i64 (r.2.fe.fo)), .mp i1, .ptr i2 0, .lit (.int .i64 (r.2.fc)), .lit (.int .i64 (r.2.ff))])).set i1 (.own (Tk.own .i64 (r.2.fh) none) none)).set i2 (.blk [.lit (.int .i64 (r.2.fa.fb)), .mp i3, .mp i4, .lit (.int .i64 (r.2.fa.fAt)), .lit (.bool (r.2.fa.fg))])).set i3 (.mapo (encM (kI .i64) (kI .i64) (r.2.fa.fk)))).set i4 (.mapo (encM (kI .i64) (kI .i64) (r.2.fa.fp)))), obl := c0 = Th.enc y0 i1 i2 ∧ c1 = Tk.own .i64 (y0.fh) none ∧ c2 = Tp.enc (y0.fa) i3 i4 ∧ c3 = encM (kI .i64) (kI .i64) (y0.fa.fk) ∧ c4 = encM (kI .i64) (kI .i64) (y0.fa.fp) ∧ (gad y0 x1).isSome = true ∧ i0 ≠ i1 ∧ i0 ≠ i2 ∧ i0 ≠ i3 ∧ i0 ≠ i4 ∧ i1 ≠ i2 ∧ i1 ≠ i3 ∧ i1 ≠ i4 ∧ i2 ≠ i3 ∧ i2 ≠ i4 ∧ i3 ≠ i4 }) ((gad y0 x1).getD dflt)) (Th.dec c0 (decM dkI Tk.dfl c1.data) (Tp.dec c2 (decM dkI dkI c3) (decM dkI dkI c4)))
  | _, _ => none

theorem gad.ok : SpecOk Tryz.prog 70 gad.S := by
 intro l M out h
 unfold gad.S at h
 split at h
 ·rename_i i0 x1
  obtain ⟨c0, hM0, h⟩ := bB h
  obtain ⟨i1, he1, h⟩ := bM h
  obtain ⟨c1, hM1, h⟩ := bO h
  obtain ⟨i2, he2, h⟩ := bP h
  obtain ⟨c2, hM2, h⟩ := bB h
  obtain ⟨i3, he3, h⟩ := bM h
  obtain ⟨c3, hM3, h⟩ := bE h
  obtain ⟨i4, he4, h⟩ := bM h
  obtain ⟨c4, hM4, h⟩ := bE h
  try dsimp only at h
  cases h
  refine callOk_of fun ho => ?_
  obtain ⟨oc0, oc1, oc2, oc3, oc4, hs, hne0, hne1, hne2, hne3, hne4, hne5, hne6, hne7, hne8, hne9⟩ := ho
  generalize (Th.dec c0 (decM dkI Tk.dfl c1.data) (Tp.dec c2 (decM dkI dkI c3) (decM dkI dkI c4))) = y0 at *
  subst oc0
  subst oc1
  subst oc2
  subst oc3
  subst oc4
  obtain ⟨r, hr⟩ := so1 hs
  simp only [hr, gd1]
  have q := Lh (M := M) [i0, i1, i2, i3, i4] (gad.can y0 x1 r hr) (by simp [hne0, hne1, hne2, hne3, hne4, hne5, hne6, hne7, hne8, hne9]) rfl (ix (by simp [hM0, into]) (ix (by simp [hM1]) (ix (by simp [hM2, into]) (ix (by simp [hM3]) (ix (by simp [hM4]) ixn)))))
  exact callOk_conv q trivial (by simp [into]) (by simp [frameOut, into]) (by simp [frameOut, into])
 ·cases h

@[simp] def gap.m (x0 : Th) (_x1 : Int) (_x2 : Ta) : List AObj := [.blk (x0.fe.enc ++ [.mp 1, .ptr 2 0, .lit (.int .i64 x0.fc), .lit (.int .i64 x0.ff)]), .own (Tk.own .i64 x0.fh none) none, .blk [.lit (.int .i64 x0.fa.fb), .mp 3, .mp 4, .lit (.int .i64 x0.fa.fAt), .lit (.bool x0.fa.fg)], .mapo (encM (kI .i64) (kI .i64) x0.fa.fk), .mapo (encM (kI .i64) (kI .i64) x0.fa.fp)]
@[simp] def gap.out (_x0 : Th) (_x1 : Int) (_x2 : Ta) (r : List Tb × Bool × Th) : Out := { av := .tup [.sl (r.1.map Tb.enc) .no, .lit (.bool r.2.1)], M := some [.blk [.lit (.int .i64 r.2.2.fe.fd), .lit (.int .i64 r.2.2.fe.fm), .lit (.int .i64 r.2.2.fe.fq), .lit (.int .i64 r.2.2.fe.fb), .lit (.int .i64 r.2.2.fe.fo), .mp 1, .ptr 2 0, .lit (.int .i64 r.2.2.fc), .lit (.int .i64 r.2.2.ff)], .own (Tk.own .i64 r.2.2.fh none) none, .blk [.lit (.int .i64 r.2.2.fa.fb), .mp 3, .mp 4, .lit (.int .i64 r.2.2.fa.fAt), .lit (.bool r.2.2.fa.fg)], .mapo (encM (kI .i64) (kI .i64) r.2.2.fa.fk), .mapo (encM (kI .i64) (kI .i64) r.2.2.fa.fp)] }
theorem gap.can (x0 : Th) (x1 : Int) (x2 : Ta) (r : List Tb × Bool × Th) (hr : gap x0 x1 x2 = some r) : CallOk Tryz.prog 18 [.ptr 0 0, .lit (.int .i64 x1), .agg [.lit (.int .i64 x2.fN), .lit (.int .i64 x2.fj), .lit (.int .i64 x2.fw), .lit (.bool x2.fy)]] (gap.m x0 x1 x2) (gap.out x0 x1 x2 r) := by
 unfold gap at hr
 have hΓ := (gamL_cons gu.ok (gamL_cons gag.ok (gamL_nil)) : GamOk Tryz.prog _)
 refine cw Tryz.func18 rfl (by kernel_rfl) rfl rfl (by simp) fun _ _ _ => ?_
 refine tq hΓ [5] [2] ?_
 cases h5 : findM eqI x1 x0.fh with
 | none =>
   have hr := optC_n h5 hr
   refine AWp.see (See.missI 1 x1 x0.fh h5 (by rfl) (by simp; rfl)) ?_
   refine tq hΓ [8, 9] [] ?_
   refine AWp.seq ?_
   refine td hΓ [32] [9, 0] [] [(false, []), (false, []), (false, []), (false, [23]), (false, [23]), (false, [23]), (false, [23]), (false, [23]), (false, [23]), (false, [23]), (false, [23]), (false, [])] (by simp; exact rr) ?_
   refine AWp.cond (b := true) (by simp) (fun hb => ?_) (fun hb => ?_)
   ·refine tq hΓ [6, 7] [32, 8, 5, 1] ?_
    refine AWp.see (See.shutM 1 (by rfl) (by simp; rfl)) ?_
    obtain rfl := La hr
    exact AWp.ret (Le (by simp))
   ·cases hb
 | some z1 =>
   have hr := optC_s h5 hr
   refine AWp.see (See.openI 1 x1 z1 x0.fh h5 (by rfl) (by simp; rfl)) ?_
   refine tq hΓ [8, 9] [] ?_
   refine AWp.seq ?_
   refine td hΓ [32] [9, 0] [] [(false, []), (false, []), (false, []), (false, [23]), (false, [23]), (false, [23]), (false, [23]), (false, [23]), (false, [23]), (false, [23]), (false, [23]), (false, [])] (by simp; exact rr) ?_
   refine AWp.cnd hr (by simp) (fun h6 hr => ?_) (fun h6 hr => ?_)
   ·refine tq hΓ [6, 7] [32, 8, 5, 1] ?_ (by simp [h6]; exact rr)
    refine AWp.see (See.closeS 1 x1 z1 x0.fh [6] h5 (by rfl) (by decide) (by simp) (by simp [into]) (by simp) (by simp [killAll]; rfl)) ?_
    obtain rfl := La hr
    exact AWp.ret (Le (by simp))
   ·refine AWp.skip ?_
    refine tq hΓ [] [32] ?_ (by simp [h6]; exact rr)
    obtain ⟨r1, h7, hr⟩ := Lb hr
    refine tq hΓ [10, 11] [8, 5] ?_ (by simp [h7]; exact rr)
    obtain ⟨r2, h8, hr⟩ := Lb hr
    refine tq hΓ [6, 7] [10, 11, 1] ?_ (by simp [h8]; exact rr)
    refine AWp.see (See.closeI 1 x1 (Tk.mk r1.2.2 z1.fu) x0.fh [6] (by rfl) (by decide) (by simp) (by simp [into]) (by simp) (by simp [killAll]; rfl)) ?_
    obtain rfl := La hr
    exact AWp.ret (Le (by simp))

@[simp] noncomputable def gap.S : Sp
  | [.ptr i0 0, .lit (.int .i64 x1), .agg e2], M => (rdB M i0).bind fun c0 => (rdM c0 5).bind fun i1 => (rdO M i1).bind fun c1 => (rdP c0 6).bind fun i2 => (rdB M i2).bind fun c2 => (rdM c2 1).bind fun i3 => (rdE M i3).bind fun c3 => (rdM c2 2).bind fun i4 => (rdE M i4).bind fun c4 => (fun (y0 : Th) => (fun (y1 : Ta) => (fun (r : List Tb × Bool × Th) => some { av := .tup [.sl ((r.1).map Tb.enc) .no, .lit (.bool (r.2.1))], M := some (((((M.set i0 (.blk [.lit (.int .i64 (r.2.2.fe.fd)), .lit (.int .i64 (r.2.2.fe.fm)), .lit (.int .i64 (r.2.2.fe.fq)), .lit (.int .i64 (r.2.2.fe.fb)), .lit (.int .i64 (r.2.2.fe.fo)), .mp i1, .ptr i2 0, .lit (.int .i64 (r.2.2.fc)), .lit (.int .i64 (r.2.2.ff))])).set i1 (.own (Tk.own .i64 (r.2.2.fh) none) none)).set i2 (.blk [.lit (.int .i64 (r.2.2.fa.fb)), .mp i3, .mp i4, .lit (.int .i64 (r.2.2.fa.fAt)), .lit (.bool (r.2.2.fa.fg))])).set i3 (.mapo (encM (kI .i64) (kI .i64) (r.2.2.fa.fk)))).set i4 (.mapo (encM (kI .i64) (kI .i64) (r.2.2.fa.fp)))), obl := WeakL e2 (Ta.enc y1) ∧ c0 = Th.enc y0 i1 i2 ∧ c1 = Tk.own .i64 (y0.fh) none ∧ c2 = Tp.enc (y0.fa) i3 i4 ∧ c3 = encM (kI .i64) (kI .i64) (y0.fa.fk) ∧ c4 = encM (kI .i64) (kI .i64) (y0.fa.fp) ∧ (gap y0 x1 y1).isSome = true ∧ i0 ≠ i1 ∧ i0 ≠ i2 ∧ i0 ≠ i3 ∧ i0 ≠ i4 ∧ i1 ≠ i2 ∧ i1 ≠ i3 ∧ i1 ≠ i4 ∧ i2 ≠ i3 ∧ i2 ≠ i4 ∧ i3 ≠ i4 }) ((gap y0 x1 y1).getD dflt)) (Ta.dec e2)) (Th.dec c0 (decM dkI Tk.dfl c1.data) (Tp.dec c2 (decM dkI dkI c3) (decM dkI dkI c4)))
  | _, _ => none

theorem gap.ok : SpecOk Tryz.prog 18 gap.S := by
 intro l M out h
 unfold gap.S at h
 split at h
 ·rename_i i0 x1 e2
  obtain ⟨c0, hM0, h⟩ := bB h
  obtain ⟨i1, he1, h⟩ := bM h
  obtain ⟨c1, hM1, h⟩ := bO h
  obtain ⟨i2, he2, h⟩ := bP h
  obtain ⟨c2, hM2, h⟩ := bB h
  obtain ⟨i3, he3, h⟩ := bM h
  obtain ⟨c3, hM3, h⟩ := bE h
  obtain ⟨i4, he4, h⟩ := bM h
  obtain ⟨c4, hM4, h⟩ := bE h
  try dsimp only at h
  cases h
  refine callOk_of fun ho => ?_
  obtain ⟨ox2, oc0, oc1, oc2, oc3, oc4, hs, hne0, hne1, hne2, hne3, hne4, hne5, hne6, hne7, hne8, hne9⟩ := ho
  generalize (Th.dec c0 (decM dkI Tk.dfl c1.data) (Tp.dec c2 (decM dkI dkI c3) (decM dkI dkI c4))) = y0 at *
  generalize (Ta.dec e2) = x2 at *
  subst oc0
  subst oc1
  subst oc2
  subst oc3
  subst oc4
  obtain ⟨r, hr⟩ := so1 hs
  simp only [hr, gd1]
  have q := Lh (M := M) [i0, i1, i2, i3, i4] (gap.can y0 x1 x2 r hr) (by simp [hne0, hne1, hne2, hne3, hne4, hne5, hne6, hne7, hne8, hne9]) rfl (ix (by simp [hM0, into]) (ix (by simp [hM1]) (ix (by simp [hM2, into]) (ix (by simp [hM3]) (ix (by simp [hM4]) ixn)))))
  exact callOk_conv q trivial (by simp [into]; exact ox2) (by simp [frameOut, into]) (by simp [frameOut, into])
 ·cases h

@[simp] def gak.m (x0 : Th) (_x1 : Int) : List AObj := [.blk (x0.fe.enc ++ [.mp 1, .ptr 2 0, .lit (.int .i64 x0.fc), .lit (.int .i64 x0.ff)]), .own (Tk.own .i64 x0.fh none) none, .blk [.lit (.int .i64 x0.fa.fb), .mp 3, .mp 4, .lit (.int .i64 x0.fa.fAt), .lit (.bool x0.fa.fg)], .mapo (encM (kI .i64) (kI .i64) x0.fa.fk), .mapo (encM (kI .i64) (kI .i64) x0.fa.fp)]
@[simp] def gak.out (_x0 : Th) (_x1 : Int) (r : Th) : Out := { av := .tup [], M := some [.blk [.lit (.int .i64 r.fe.fd), .lit (.int .i64 r.fe.fm), .lit (.int .i64 r.fe.fq), .lit (.int .i64 r.fe.fb), .lit (.int .i64 r.fe.fo), .mp 1, .ptr 2 0, .lit (.int .i64 r.fc), .lit (.int .i64 r.ff)], .own (Tk.own .i64 r.fh none) none, .blk [.lit (.int .i64 r.fa.fb), .mp 3, .mp 4, .lit (.int .i64 r.fa.fAt), .lit (.bool r.fa.fg)], .mapo (encM (kI .i64) (kI .i64) r.fa.fk), .mapo (encM (kI .i64) (kI .i64) r.fa.fp)] }
theorem gak.can (x0 : Th) (x1 : Int) (r : Th) (hr : gak x0 x1 = some r) : CallOk Tryz.prog 9 [.ptr 0 0, .lit (.int .i64 x1)] (gak.m x0 x1) (gak.out x0 x1 r) := by
 unfold gak at hr
 have hΓ := gamL_nil (P := Tryz.prog)
 refine cw Tryz.func9 rfl (by kernel_rfl) rfl rfl (by simp) fun _ _ _ => ?_
 refine tl hΓ [] [0, 1] ?_
 obtain rfl := La hr
 exact fin_norm (by simp)

@[simp] noncomputable def gak.S : Sp
  | [.ptr i0 0, .lit (.int .i64 x1)], M => (rdB M i0).bind fun c0 => (rdM c0 5).bind fun i1 => (rdO M i1).bind fun c1 => (rdP c0 6).bind fun i2 => (rdB M i2).bind fun c2 => (rdM c2 1).bind fun i3 => (rdE M i3).bind fun c3 => (rdM c2 2).bind fun i4 => (rdE M i4).bind fun c4 => (fun (y0 : Th) => (fun (r : Th) => some { av := .tup [], M := some (((((M.set i0 (.blk [.lit (.int .i64 (r.fe.fd)), .lit (.int .i64 (r.fe.fm)), .lit (.int .i64 (r.fe.fq)), .lit (.int .i64 (r.fe.fb)), .lit (.int .i64 (r.fe.fo)), .mp i1, .ptr i2 0, .lit (.int .i64 (r.fc)), .lit (.int .i64 (r.ff))])).set i1 (.own (Tk.own .i64 (r.fh) none) none)).set i2 (.blk [.lit (.int .i64 (r.fa.fb)), .mp i3, .mp i4, .lit (.int .i64 (r.fa.fAt)), .lit (.bool (r.fa.fg))])).set i3 (.mapo (encM (kI .i64) (kI .i64) (r.fa.fk)))).set i4 (.mapo (encM (kI .i64) (kI .i64) (r.fa.fp)))), obl := c0 = Th.enc y0 i1 i2 ∧ c1 = Tk.own .i64 (y0.fh) none ∧ c2 = Tp.enc (y0.fa) i3 i4 ∧ c3 = encM (kI .i64) (kI .i64) (y0.fa.fk) ∧ c4 = encM (kI .i64) (kI .i64) (y0.fa.fp) ∧ (gak y0 x1).isSome = true ∧ i0 ≠ i1 ∧ i0 ≠ i2 ∧ i0 ≠ i3 ∧ i0 ≠ i4 ∧ i1 ≠ i2 ∧ i1 ≠ i3 ∧ i1 ≠ i4 ∧ i2 ≠ i3 ∧ i2 ≠ i4 ∧ i3 ≠ i4 }) ((gak y0 x1).getD dflt)) (Th.dec c0 (decM dkI Tk.dfl c1.data) (Tp.dec c2 (decM dkI dkI c3) (decM dkI dkI c4)))
  | _, _ => none

theorem gak.ok : SpecOk Tryz.prog 9 gak.S := by
 intro l M out h
 unfold gak.S at h
 split at h
 ·rename_i i0 x1
  obtain ⟨c0, hM0, h⟩ := bB h
  obtain ⟨i1, he1, h⟩ := bM h
  obtain ⟨c1, hM1, h⟩ := bO h
  obtain ⟨i2, he2, h⟩ := bP h
  obtain ⟨c2, hM2, h⟩ := bB h
  obtain ⟨i3, he3, h⟩ := bM h
  obtain ⟨c3, hM3, h⟩ := bE h
  obtain ⟨i4, he4, h⟩ := bM h
  obtain ⟨c4, hM4, h⟩ := bE h
  try dsimp only at h
  cases h
  refine callOk_of fun ho => ?_
  obtain ⟨oc0, oc1, oc2, oc3, oc4, hs, hne0, hne1, hne2, hne3, hne4, hne5, hne6, hne7, hne8, hne9⟩ := ho
  generalize (Th.dec c0 (decM dkI Tk.dfl c1.data) (Tp.dec c2 (decM dkI dkI c3) (decM dkI dkI c4))) = y0 at *
  subst oc0
  subst oc1
  subst oc2
  subst oc3
  subst oc4
  obtain ⟨r, hr⟩ := so1 hs
  simp only [hr, gd1]
  have q := Lh (M := M) [i0, i1, i2, i3, i4] (gak.can y0 x1 r hr) (by simp [hne0, hne1, hne2, hne3, hne4, hne5, hne6, hne7, hne8, hne9]) rfl (ix (by simp [hM0, into]) (ix (by simp [hM1]) (ix (by simp [hM2, into]) (ix (by simp [hM3]) (ix (by simp [hM4]) ixn)))))
  exact callOk_conv q trivial (by simp [into]) (by simp [frameOut, into]) (by simp [frameOut, into])
 ·cases h

@[simp] def gaa.m (x0 : Th) (_x1 : Int) : List AObj := [.blk (x0.fe.enc ++ [.mp 1, .ptr 2 0, .lit (.int .i64 x0.fc), .lit (.int .i64 x0.ff)]), .own (Tk.own .i64 x0.fh none) none, .blk [.lit (.int .i64 x0.fa.fb), .mp 3, .mp 4, .lit (.int .i64 x0.fa.fAt), .lit (.bool x0.fa.fg)], .mapo (encM (kI .i64) (kI .i64) x0.fa.fk), .mapo (encM (kI .i64) (kI .i64) x0.fa.fp)]
@[simp] def gaa.out (_x0 : Th) (_x1 : Int) (r : Bool × Th) : Out := { av := .lit (.bool r.1), M := some [.blk [.lit (.int .i64 r.2.fe.fd), .lit (.int .i64 r.2.fe.fm), .lit (.int .i64 r.2.fe.fq), .lit (.int .i64 r.2.fe.fb), .lit (.int .i64 r.2.fe.fo), .mp 1, .ptr 2 0, .lit (.int .i64 r.2.fc), .lit (.int .i64 r.2.ff)], .own (Tk.own .i64 r.2.fh none) none, .blk [.lit (.int .i64 r.2.fa.fb), .mp 3, .mp 4, .lit (.int .i64 r.2.fa.fAt), .lit (.bool r.2.fa.fg)], .mapo (encM (kI .i64) (kI .i64) r.2.fa.fk), .mapo (encM (kI .i64) (kI .i64) r.2.fa.fp)] }
theorem gaa.can (x0 : Th) (x1 : Int) (r : Bool × Th) (hr : gaa x0 x1 = some r) : CallOk Tryz.prog 21 [.ptr 0 0, .lit (.int .i64 x1)] (gaa.m x0 x1) (gaa.out x0 x1 r) := by
 unfold gaa at hr
 have hΓ := gamL_nil (P := Tryz.prog)
 refine cw Tryz.func21 rfl (by kernel_rfl) rfl rfl (by simp) fun _ _ _ => ?_
 refine tq hΓ [] [] ?_
 refine AWp.seq ?_
 refine tq hΓ [14] [] ?_
 refine AWp.cnd hr (by simp) (fun h2 hr => ?_) (fun h2 hr => ?_)
 ·refine tq hΓ [4] [14, 0, 1] ?_ (by simp [h2]; exact rr)
  obtain rfl := La hr
  exact AWp.ret (Le (by simp))
 ·refine AWp.skip ?_
  refine tq hΓ [] [14, 0, 1] ?_ (by simp [h2]; exact rr)
  refine tq hΓ [4] [] ?_ (by simp; exact rr)
  obtain rfl := La hr
  exact AWp.ret (Le (by simp))

@[simp] noncomputable def gaa.S : Sp
  | [.ptr i0 0, .lit (.int .i64 x1)], M => (rdB M i0).bind fun c0 => (rdM c0 5).bind fun i1 => (rdO M i1).bind fun c1 => (rdP c0 6).bind fun i2 => (rdB M i2).bind fun c2 => (rdM c2 1).bind fun i3 => (rdE M i3).bind fun c3 => (rdM c2 2).bind fun i4 => (rdE M i4).bind fun c4 => (fun (y0 : Th) => (fun (r : Bool × Th) => some { av := .lit (.bool (r.1)), M := some (((((M.set i0 (.blk [.lit (.int .i64 (r.2.fe.fd)), .lit (.int .i64 (r.2.fe.fm)), .lit (.int .i64 (r.2.fe.fq)), .lit (.int .i64 (r.2.fe.fb)), .lit (.int .i64 (r.2.fe.fo)), .mp i1, .ptr i2 0, .lit (.int .i64 (r.2.fc)), .lit (.int .i64 (r.2.ff))])).set i1 (.own (Tk.own .i64 (r.2.fh) none) none)).set i2 (.blk [.lit (.int .i64 (r.2.fa.fb)), .mp i3, .mp i4, .lit (.int .i64 (r.2.fa.fAt)), .lit (.bool (r.2.fa.fg))])).set i3 (.mapo (encM (kI .i64) (kI .i64) (r.2.fa.fk)))).set i4 (.mapo (encM (kI .i64) (kI .i64) (r.2.fa.fp)))), obl := c0 = Th.enc y0 i1 i2 ∧ c1 = Tk.own .i64 (y0.fh) none ∧ c2 = Tp.enc (y0.fa) i3 i4 ∧ c3 = encM (kI .i64) (kI .i64) (y0.fa.fk) ∧ c4 = encM (kI .i64) (kI .i64) (y0.fa.fp) ∧ (gaa y0 x1).isSome = true ∧ i0 ≠ i1 ∧ i0 ≠ i2 ∧ i0 ≠ i3 ∧ i0 ≠ i4 ∧ i1 ≠ i2 ∧ i1 ≠ i3 ∧ i1 ≠ i4 ∧ i2 ≠ i3 ∧ i2 ≠ i4 ∧ i3 ≠ i4 }) ((gaa y0 x1).getD dflt)) (Th.dec c0 (decM dkI Tk.dfl c1.data) (Tp.dec c2 (decM dkI dkI c3) (decM dkI dkI c4)))
  | _, _ => none

theorem gaa.ok : SpecOk Tryz.prog 21 gaa.S := by
 intro l M out h
 unfold gaa.S at h
 split at h
 ·rename_i i0 x1
  obtain ⟨c0, hM0, h⟩ := bB h
  obtain ⟨i1, he1, h⟩ := bM h
  obtain ⟨c1, hM1, h⟩ := bO h
  obtain ⟨i2, he2, h⟩ := bP h
  obtain ⟨c2, hM2, h⟩ := bB h
  obtain ⟨i3, he3, h⟩ := bM h
  obtain ⟨c3, hM3, h⟩ := bE h
  obtain ⟨i4, he4, h⟩ := bM h
  obtain ⟨c4, hM4, h⟩ := bE h
  try dsimp only at h
  cases h
  refine callOk_of fun ho => ?_
  obtain ⟨oc0, oc1, oc2, oc3, oc4, hs, hne0, hne1, hne2, hne3, hne4, hne5, hne6, hne7, hne8, hne9⟩ := ho
  generalize (Th.dec c0 (decM dkI Tk.dfl c1.data) (Tp.dec c2 (decM dkI dkI c3) (decM dkI dkI c4))) = y0 at *
  subst oc0
  subst oc1
  subst oc2
  subst oc3
  subst oc4
  obtain ⟨r, hr⟩ := so1 hs
  simp only [hr, gd1]
  have q := Lh (M := M) [i0, i1, i2, i3, i4] (gaa.can y0 x1 r hr) (by simp [hne0, hne1, hne2, hne3, hne4, hne5, hne6, hne7, hne8, hne9]) rfl (ix (by simp [hM0, into]) (ix (by simp [hM1]) (ix (by simp [hM2, into]) (ix (by simp [hM3]) (ix (by simp [hM4]) ixn)))))
  exact callOk_conv q trivial (by simp [into]) (by simp [frameOut, into]) (by simp [frameOut, into])
 ·cases h
end Go.Proofs

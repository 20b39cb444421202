/- That these functions compute what their plain functions do. No condition. -/
import Derived.Test.YtpjplfnapgpfmaaGreatM13
import Derived.Test.YtpjplfnapgpfmaaGreatTy
import Derived.Test.YtpjplfnapgpfmaaGreatQu
import Derived.Test.YtpjplfnapgpfmaaGreatM03
set_option maxRecDepth 100000
set_option maxHeartbeats 4000000
namespace Go.Proofs
open Go.Ab
@[simp] def gy.m (x0 : Tf) (_x1 : Bool) : List AObj := [.blk (x0.fd.enc ++ [.mp 1, .ptr 2 0, .lit (.int .i64 x0.fc), .lit (.int .i64 x0.ff)]), .own (Tj.own .i64 x0.fh none) none, .blk [.lit (.int .i64 x0.fa.fb), .mp 3, .mp 4, .lit (.int .i64 x0.fa.fAt), .lit (.bool x0.fa.fg)], .mapo (encM (kI .i64) (kI .i64) x0.fa.fm), .mapo (encM (kI .i64) (kI .i64) x0.fa.fp)]
@[simp] def gy.out (_x0 : Tf) (_x1 : Bool) (r : List Int) : Out := { av := .sl (r.map (eNum .i64)) .no, M := none }
def gy.fin (x0 : Tf) (x1 : Bool) (r : List Int) (σ : St) : Prop := finK (gy.out x0 x1 r) (gy.m x0 x1) σ.M (resA Tryz.ty σ.A σ.M Tryz.f72.results.toList)
theorem gy.can (x0 : Tf) (x1 : Bool) (r : List Int) (hr : gy x0 x1 = some r) : CallOk Tryz.prog 72 [.ptr 0 0, .lit (.bool x1)] (gy.m x0 x1) (gy.out x0 x1 r) := by
 unfold gy at hr
 have hΓ := (gamL_cons gae.ok (gamL_cons libKeys.gaY.ok (gamL_cons libSorted.ga0.ok (gamL_nil))) : GamOk Tryz.prog _)
 refine cw Tryz.func72 rfl (by kernel_rfl) rfl rfl (by simp) fun _ _ _ => ?_
 refine tq hΓ [] [] ?_
 refine tq hΓ [5] [] ?_
 refine AWp.seq ?_
 obtain ⟨h9, hr⟩ := Lc hr
 refine tq hΓ [14, 15, 16] [] ?_ (by simp [h9]; exact rr)
 refine AWp.equip 5 1 (els := []) (by simp) (by simp) ?_
 refine AWp.loopE (fun (s1 : Int × List Int) (γ1 : Nat) => ⟨[⟨14, none, .sl ((sortL (keysM x0.fh)).map (eNum .i64)) .no⟩, ⟨15, none, .n (lenL (sortL (keysM x0.fh)))⟩, ⟨16, none, .n s1.1⟩, ⟨5, none, .sl (s1.2.map (eNum .i64)) (.own 5 (γ1) 1)⟩, ⟨0, none, .ptr 0 0⟩, ⟨1, none, .b x1⟩], [.blk (x0.fd.enc ++ [.mp 1, .ptr 2 0, .n x0.fc, .n x0.ff]), .own (Tj.own .i64 x0.fh none) none, .blk [.n x0.fa.fb, .mp 3, .mp 4, .n x0.fa.fAt, .b x0.fa.fg], .mapo (encM (kI .i64) (kI .i64) x0.fa.fm), .mapo (encM (kI .i64) (kI .i64) x0.fa.fp), .room (γ1)]⟩) (fun (v1 : List Int) (γ1a : Nat) => ⟨[⟨5, none, .sl (v1.map (eNum .i64)) (.own 5 (γ1a) 1)⟩], [.blk (x0.fd.enc ++ [.mp 1, .ptr 2 0, .n x0.fc, .n x0.ff]), .own (Tj.own .i64 x0.fh none) none, .blk [.n x0.fa.fb, .mp 3, .mp 4, .n x0.fa.fAt, .b x0.fa.fg], .mapo (encM (kI .i64) (kI .i64) x0.fa.fm), .mapo (encM (kI .i64) (kI .i64) x0.fa.fp), .room (γ1a)]⟩) (gy.fin x0 x1) hr 0 6 (by simp) (fun s1 f γ1 hr => ?_) (fun v1 γ1a σ1 m1 hr hc => ?_) (fun _ h => h)
 ·unfold gy.loop1 at hr
  refine tq hΓ [17] [] ?_ (by simp; exact rr)
  refine AWp.seq ?_
  refine AWp.cnd hr (by simp) (fun h10 hr => ?_) (fun h10 hr => ?_)
  ·refine AWp.skip ?_
   refine AWp.seq ?_
   refine AWp.block ?_
   obtain ⟨h11, hr⟩ := Lc hr
   refine tq hΓ [7] [17] ?_ (by simp [h10, h11]; exact rr)
   cases h12 : findM eqI (nthI (sortL (keysM x0.fh)) s1.1) x0.fh with
   | none =>
     have hr := optC_n h12 hr
     refine AWp.see (See.missI 1 (nthI (sortL (keysM x0.fh)) s1.1) x0.fh h12 (by rfl) (by simp; rfl)) ?_
     refine tq hΓ [8] [] ?_ (by simp; exact rr)
     cases h13 : (eqB false x1) with
     | true =>
       have hr := cond_t h13 hr
       cases hr
     | false =>
       have hr := cond_f h13 hr
       refine AWp.thn (AWp.regG Tryz.tyOk hΓ [(30, false)] (keep := [35]) (dead := [8]) (by kernel_rfl) rfl (by simp [h13]; exact rr)) ?_
       refine AWp.cond (b := false) (by simp) (fun hb => ?_) (fun hb => ?_)
       ·cases hb
       ·refine AWp.skip ?_
        refine AWp.lstE (AWp.reg Tryz.tyOk hΓ [16] [35, 7] (by kernel_rfl) rfl (by simp; exact rr)) ?_
        refine Eps.see (See.shutM 1 (by rfl) (by simp; rfl)) ?_
        refine Eps.done ?_
        obtain rfl := La hr
        exact Lk (γ1) 6 (by first | (simp; done) | simp [h9, h10, h11, h13])
   | some z3 =>
     have hr := optC_s h12 hr
     refine AWp.see (See.openI 1 (nthI (sortL (keysM x0.fh)) s1.1) z3 x0.fh h12 (by rfl) (by simp; rfl)) ?_
     refine tq hΓ [8] [] ?_ (by simp; exact rr)
     obtain ⟨h14, hr⟩ := Lc hr
     refine tq hΓ [35] [8] ?_ (by simp [h14]; exact rr)
     refine AWp.cnd hr (by simp) (fun h15 hr => ?_) (fun h15 hr => ?_)
     ·obtain ⟨h16, hr⟩ := Lc hr
      refine tl hΓ [5] [35, 7] ?_ (by simp [h15, h16]; exact rr)
      refine AWp.lstE (AWp.reg Tryz.tyOk hΓ [16] [] (by kernel_rfl) rfl (by simp; exact rr)) ?_
      refine Eps.see (See.closeS 1 (nthI (sortL (keysM x0.fh)) s1.1) z3 x0.fh [6] h12 (by rfl) (by decide) (by simp) (by simp [into]) (by simp) (by simp [killAll]; rfl)) ?_
      refine Eps.done ?_
      obtain rfl := La hr
      exact Lk (γ1 + 1) 6 (by first | (simp; done) | simp [h9, h10, h11, h14, h15, h16])
     ·refine AWp.skip ?_
      refine AWp.lstE (AWp.reg Tryz.tyOk hΓ [16] [35, 7] (by kernel_rfl) rfl (by simp [h15]; exact rr)) ?_
      refine Eps.see (See.closeS 1 (nthI (sortL (keysM x0.fh)) s1.1) z3 x0.fh [6] h12 (by rfl) (by decide) (by simp) (by simp [into]) (by simp) (by simp [killAll]; rfl)) ?_
      refine Eps.done ?_
      obtain rfl := La hr
      exact Lk (γ1) 6 (by first | (simp; done) | simp [h9, h10, h11, h14, h15])
  ·refine AWp.exit ?_
   obtain rfl := La hr
   exact Ln (γ1) 6 (by first | (simp; done) | simp [h9, h10])
 ·refine AWp.conv hc ?_
  refine tq hΓ [4] [5] ?_ (by simp; exact rr)
  obtain rfl := La hr
  exact AWp.ret (Le (by simp))

@[simp] noncomputable def gy.S : Sp
  | [.ptr i0 0, .lit (.bool x1)], M => (rdB M i0).bind fun c0 => (rdM c0 5).bind fun i1 => (rdO M i1).bind fun c1 => (rdP c0 6).bind fun i2 => (rdB M i2).bind fun c2 => (rdM c2 1).bind fun i3 => (rdE M i3).bind fun c3 => (rdM c2 2).bind fun i4 => (rdE M i4).bind fun c4 => (fun (y0 : Tf) => some { av := .sl (((gy y0 x1).getD dflt).map (eNum .i64)) .no, M := none, obl := c0 = Tf.enc y0 i1 i2 ∧ c1 = Tj.own .i64 (y0.fh) none ∧ c2 = Tp.enc (y0.fa) i3 i4 ∧ c3 = encM (kI .i64) (kI .i64) (y0.fa.fm) ∧ c4 = encM (kI .i64) (kI .i64) (y0.fa.fp) ∧ (gy y0 x1).isSome = true ∧ i0 ≠ i1 ∧ i0 ≠ i2 ∧ i0 ≠ i3 ∧ i0 ≠ i4 ∧ i1 ≠ i2 ∧ i1 ≠ i3 ∧ i1 ≠ i4 ∧ i2 ≠ i3 ∧ i2 ≠ i4 ∧ i3 ≠ i4 }) (Tf.dec c0 (decM dkI Tj.dfl c1.data) (Tp.dec c2 (decM dkI dkI c3) (decM dkI dkI c4)))
  | _, _ => none

theorem gy.ok : SpecOk Tryz.prog 72 gy.S := by
 intro l M out h
 unfold gy.S at h
 split at h
 ·rename_i i0 x1
  obtain ⟨c0, hM0, h⟩ := bB h
  obtain ⟨i1, he1, h⟩ := bM h
  obtain ⟨c1, hM1, h⟩ := bO h
  obtain ⟨i2, he2, h⟩ := bP h
  obtain ⟨c2, hM2, h⟩ := bB h
  obtain ⟨i3, he3, h⟩ := bM h
  obtain ⟨c3, hM3, h⟩ := bE h
  obtain ⟨i4, he4, h⟩ := bM h
  obtain ⟨c4, hM4, h⟩ := bE h
  try dsimp only at h
  cases h
  refine callOk_of fun ho => ?_
  obtain ⟨oc0, oc1, oc2, oc3, oc4, hs, hne0, hne1, hne2, hne3, hne4, hne5, hne6, hne7, hne8, hne9⟩ := ho
  generalize (Tf.dec c0 (decM dkI Tj.dfl c1.data) (Tp.dec c2 (decM dkI dkI c3) (decM dkI dkI c4))) = y0 at *
  subst oc0
  subst oc1
  subst oc2
  subst oc3
  subst oc4
  obtain ⟨r, hr⟩ := so1 hs
  simp only [hr, gd1]
  have q := Lg (M := M) [i0, i1, i2, i3, i4] (gy.can y0 x1 r hr) (by simp [hne0, hne1, hne2, hne3, hne4, hne5, hne6, hne7, hne8, hne9]) rfl (ix (by simp [hM0, into]) (ix (by simp [hM1]) (ix (by simp [hM2, into]) (ix (by simp [hM3]) (ix (by simp [hM4]) ixn)))))
  exact callOk_conv q trivial (by simp [into]) (by simp [frameOut, into]) (by simp only [frameOut, gy.out, Option.getD_some, Option.getD_none]; simp [into, hM0, hM1, hM2, hM3, hM4, set_same])
 ·cases h

@[simp] def gY.m (_x0 : Int) (_x1 : Int) (x2 : Tf) : List AObj := [.blk [.ptr 1 0], .blk (x2.fd.enc ++ [.mp 2, .ptr 3 0, .lit (.int .i64 x2.fc), .lit (.int .i64 x2.ff)]), .own (Tj.own .i64 x2.fh none) none, .blk [.lit (.int .i64 x2.fa.fb), .mp 4, .mp 5, .lit (.int .i64 x2.fa.fAt), .lit (.bool x2.fa.fg)], .mapo (encM (kI .i64) (kI .i64) x2.fa.fm), .mapo (encM (kI .i64) (kI .i64) x2.fa.fp)]
@[simp] def gY.out (_x0 : Int) (_x1 : Int) (_x2 : Tf) (r : Int) : Out := { av := .lit (.int .i64 r), M := none }
theorem gY.can (x0 : Int) (x1 : Int) (x2 : Tf) (r : Int) (hr : gY x0 x1 x2 = some r) : CallOk Tryz.prog 99 [.lit (.int .i64 x0), .lit (.int .i64 x1), .ptr 0 0] (gY.m x0 x1 x2) (gY.out x0 x1 x2 r) := by
 unfold gY at hr
 have hΓ := (gamL_cons gD.ok (gamL_nil) : GamOk Tryz.prog _)
 refine cw Tryz.func99 rfl (by kernel_rfl) rfl rfl (by simp) fun _ _ _ => ?_
 refine tq hΓ [] [] ?_
 cases h5 : findM eqI x0 x2.fh with
 | none =>
   have hr := optC_n h5 hr
   refine AWp.see (See.missI 2 x0 x2.fh h5 (by rfl) (by simp; rfl)) ?_
   cases hr
 | some z1 =>
   have hr := optC_s h5 hr
   refine AWp.see (See.openI 2 x0 z1 x2.fh h5 (by rfl) (by simp; rfl)) ?_
   obtain ⟨r1, h6, hr⟩ := Lb hr
   refine tq hΓ [6] [0] ?_ (by simp [h6]; exact rr)
   refine AWp.see (See.closeS 2 x0 z1 x2.fh [6] h5 (by rfl) (by decide) (by simp) (by simp [into]) (by simp) (by simp [killAll]; rfl)) ?_
   cases h7 : findM eqI x1 x2.fh with
   | none =>
     have hr := optC_n h7 hr
     refine AWp.see (See.missI 2 x1 x2.fh h7 (by rfl) (by simp; rfl)) ?_
     cases hr
   | some z2 =>
     have hr := optC_s h7 hr
     refine AWp.see (See.openI 2 x1 z2 x2.fh h7 (by rfl) (by simp; rfl)) ?_
     obtain ⟨r2, h8, hr⟩ := Lb hr
     refine tq hΓ [8] [1, 2] ?_ (by simp [h8]; exact rr)
     refine tq hΓ [5] [8, 6] ?_ (by simp; exact rr)
     refine AWp.see (See.closeS 2 x1 z2 x2.fh [8] h7 (by rfl) (by decide) (by simp) (by simp [into]) (by simp) (by simp [killAll]; rfl)) ?_
     obtain rfl := La hr
     exact AWp.ret (Le (by simp))

@[simp] noncomputable def gY.S : Sp
  | [.lit (.int .i64 x0), .lit (.int .i64 x1), .ptr i0 0], M => (rdB M i0).bind fun c0 => (rdP c0 0).bind fun i1 => (rdB M i1).bind fun c1 => (rdM c1 5).bind fun i2 => (rdO M i2).bind fun c2 => (rdP c1 6).bind fun i3 => (rdB M i3).bind fun c3 => (rdM c3 1).bind fun i4 => (rdE M i4).bind fun c4 => (rdM c3 2).bind fun i5 => (rdE M i5).bind fun c5 => (fun (y0 : Tf) => some { av := .lit (.int .i64 ((gY x0 x1 y0).getD dflt)), M := none, obl := c0 = [.ptr i1 0] ∧ c1 = Tf.enc y0 i2 i3 ∧ c2 = Tj.own .i64 (y0.fh) none ∧ c3 = Tp.enc (y0.fa) i4 i5 ∧ c4 = encM (kI .i64) (kI .i64) (y0.fa.fm) ∧ c5 = encM (kI .i64) (kI .i64) (y0.fa.fp) ∧ (gY x0 x1 y0).isSome = true ∧ i0 ≠ i1 ∧ i0 ≠ i2 ∧ i0 ≠ i3 ∧ i0 ≠ i4 ∧ i0 ≠ i5 ∧ i1 ≠ i2 ∧ i1 ≠ i3 ∧ i1 ≠ i4 ∧ i1 ≠ i5 ∧ i2 ≠ i3 ∧ i2 ≠ i4 ∧ i2 ≠ i5 ∧ i3 ≠ i4 ∧ i3 ≠ i5 ∧ i4 ≠ i5 }) (Tf.dec c1 (decM dkI Tj.dfl c2.data) (Tp.dec c3 (decM dkI dkI c4) (decM dkI dkI c5)))
  | _, _ => none

theorem gY.ok : SpecOk Tryz.prog 99 gY.S := by
 intro l M out h
 unfold gY.S at h
 split at h
 ·rename_i x0 x1 i0
  obtain ⟨c0, hM0, h⟩ := bB h
  obtain ⟨i1, he1, h⟩ := bP h
  obtain ⟨c1, hM1, h⟩ := bB h
  obtain ⟨i2, he2, h⟩ := bM h
  obtain ⟨c2, hM2, h⟩ := bO h
  obtain ⟨i3, he3, h⟩ := bP h
  obtain ⟨c3, hM3, h⟩ := bB h
  obtain ⟨i4, he4, h⟩ := bM h
  obtain ⟨c4, hM4, h⟩ := bE h
  obtain ⟨i5, he5, h⟩ := bM h
  obtain ⟨c5, hM5, h⟩ := bE h
  try dsimp only at h
  cases h
  refine callOk_of fun ho => ?_
  obtain ⟨oc0, oc1, oc2, oc3, oc4, oc5, hs, hne0, hne1, hne2, hne3, hne4, hne5, hne6, hne7, hne8, hne9, hne10, hne11, hne12, hne13, hne14⟩ := ho
  generalize (Tf.dec c1 (decM dkI Tj.dfl c2.data) (Tp.dec c3 (decM dkI dkI c4) (decM dkI dkI c5))) = y0 at *
  subst oc0
  subst oc1
  subst oc2
  subst oc3
  subst oc4
  subst oc5
  obtain ⟨r, hr⟩ := so1 hs
  simp only [hr, gd1]
  have q := Lg (M := M) [i0, i1, i2, i3, i4, i5] (gY.can x0 x1 y0 r hr) (by simp [hne0, hne1, hne2, hne3, hne4, hne5, hne6, hne7, hne8, hne9, hne10, hne11, hne12, hne13, hne14]) rfl (ix (by simp [hM0, into]) (ix (by simp [hM1, into]) (ix (by simp [hM2]) (ix (by simp [hM3, into]) (ix (by simp [hM4]) (ix (by simp [hM5]) ixn))))))
  exact callOk_conv q trivial (by simp [into]) (by simp [frameOut, into]) (by simp only [frameOut, gY.out, Option.getD_some, Option.getD_none]; simp [into, hM0, hM1, hM2, hM3, hM4, hM5, set_same])
 ·cases h

@[simp] def ga.m (_x0 : List Int) (x1c0 : Tf) : List AObj := [.blk [.ptr 1 0], .blk (x1c0.fd.enc ++ [.mp 2, .ptr 3 0, .lit (.int .i64 x1c0.fc), .lit (.int .i64 x1c0.ff)]), .own (Tj.own .i64 x1c0.fh none) none, .blk [.lit (.int .i64 x1c0.fa.fb), .mp 4, .mp 5, .lit (.int .i64 x1c0.fa.fAt), .lit (.bool x1c0.fa.fg)], .mapo (encM (kI .i64) (kI .i64) x1c0.fa.fm), .mapo (encM (kI .i64) (kI .i64) x1c0.fa.fp)]
@[simp] def ga.out (_x0 : List Int) (_x1c0 : Tf) (r : Int) : Out := { av := .lit (.int .i64 r), M := none }
def ga.fin (x0 : List Int) (x1c0 : Tf) (r : Int) (σ : St) : Prop := finK (ga.out x0 x1c0 r) (ga.m x0 x1c0) σ.M (resA Tryz.ty σ.A σ.M Tryz.f98.results.toList)
theorem ga.can (x0 : List Int) (x1c0 : Tf) (r : Int) (hr : ga x0 x1c0 = some r) : CallOk Tryz.prog 98 [.sl (x0.map (eNum .i64)) .no, .clo 99 [.ptr 0 0]] (ga.m x0 x1c0) (ga.out x0 x1c0 r) := by
 unfold ga at hr
 have hΓ := (gamL_cons gY.ok (gamL_nil) : GamOk Tryz.prog _)
 refine cw Tryz.func98 rfl (by kernel_rfl) rfl rfl (by simp) fun _ _ _ => ?_
 refine tq hΓ [] [] ?_
 refine AWp.meetF (fun (v1 : Unit) (γ1 : Unit) => ⟨[⟨0, none, .sl (x0.map (eNum .i64)) .no⟩, ⟨1, none, .clo 99 [.ptr 0 0]⟩], [.blk [.ptr 1 0], .blk (x1c0.fd.enc ++ [.mp 2, .ptr 3 0, .n x1c0.fc, .n x1c0.ff]), .own (Tj.own .i64 x1c0.fh none) none, .blk [.n x1c0.fa.fb, .mp 4, .mp 5, .n x1c0.fa.fAt, .b x1c0.fa.fg], .mapo (encM (kI .i64) (kI .i64) x1c0.fa.fm), .mapo (encM (kI .i64) (kI .i64) x1c0.fa.fp)]⟩) (ga.fin x0 x1c0) hr (fun f hr => ?_) (fun v1 γ1 hr => ?_) (fun _ h => h)
 ·refine tq hΓ [9] [] ?_
  refine AWp.cnd hr (by simp) (fun h8 hr => ?_) (fun h8 hr => ?_)
  ·cases hr
  ·refine AWp.skip ?_
   obtain rfl := La hr
   exact Ll () 6 (by first | (simp; done) | simp [h8])
 ·obtain ⟨h9, hr⟩ := Lc hr
  refine tq hΓ [5] [] ?_ (by simp [h9]; exact rr)
  refine AWp.seq ?_
  refine tq hΓ [6] [] ?_ (by simp; exact rr)
  refine AWp.loopE (fun (s2 : Int × Int) (γ2 : Unit) => ⟨[⟨6, none, .n s2.1⟩, ⟨5, none, .n s2.2⟩, ⟨0, none, .sl (x0.map (eNum .i64)) .no⟩, ⟨1, none, .clo 99 [.ptr 0 0]⟩], [.blk [.ptr 1 0], .blk (x1c0.fd.enc ++ [.mp 2, .ptr 3 0, .n x1c0.fc, .n x1c0.ff]), .own (Tj.own .i64 x1c0.fh none) none, .blk [.n x1c0.fa.fb, .mp 4, .mp 5, .n x1c0.fa.fAt, .b x1c0.fa.fg], .mapo (encM (kI .i64) (kI .i64) x1c0.fa.fm), .mapo (encM (kI .i64) (kI .i64) x1c0.fa.fp)]⟩) (fun (v2 : Int) (γ2a : Unit) => ⟨[⟨5, none, .n v2⟩], [.blk [.ptr 1 0], .blk (x1c0.fd.enc ++ [.mp 2, .ptr 3 0, .n x1c0.fc, .n x1c0.ff]), .own (Tj.own .i64 x1c0.fh none) none, .blk [.n x1c0.fa.fb, .mp 4, .mp 5, .n x1c0.fa.fAt, .b x1c0.fa.fg], .mapo (encM (kI .i64) (kI .i64) x1c0.fa.fm), .mapo (encM (kI .i64) (kI .i64) x1c0.fa.fp)]⟩) (ga.fin x0 x1c0) hr () 6 (by simp) (fun s2 f γ2 hr => ?_) (fun v2 γ2a σ1 m1 hr hc => ?_) (fun _ h => h)
  ·unfold ga.loop2 at hr
   refine AWp.seq ?_
   refine tq hΓ [17] [] ?_ (by simp; exact rr)
   refine AWp.cnd hr (by simp) (fun h10 hr => ?_) (fun h10 hr => ?_)
   ·refine AWp.skip ?_
    refine AWp.meetF (fun (v3 : Int) (γ3 : Unit) => ⟨[⟨6, none, .n s2.1⟩, ⟨5, none, .n v3⟩, ⟨0, none, .sl (x0.map (eNum .i64)) .no⟩, ⟨1, none, .clo 99 [.ptr 0 0]⟩], [.blk [.ptr 1 0], .blk (x1c0.fd.enc ++ [.mp 2, .ptr 3 0, .n x1c0.fc, .n x1c0.ff]), .own (Tj.own .i64 x1c0.fh none) none, .blk [.n x1c0.fa.fb, .mp 4, .mp 5, .n x1c0.fa.fAt, .b x1c0.fa.fg], .mapo (encM (kI .i64) (kI .i64) x1c0.fa.fm), .mapo (encM (kI .i64) (kI .i64) x1c0.fa.fp)]⟩) (QRr (ga.fin x0 x1c0)) hr (fun f hr => ?_) (fun v3 γ3 hr => ?_) (fun _ h => QRr_ret h)
    ·refine AWp.block ?_
     obtain ⟨h11, hr⟩ := Lc hr
     obtain ⟨r1, h12, hr⟩ := Lb hr
     refine tq hΓ [27] [17] ?_ (by simp [h10, h11, h12]; exact rr)
     refine AWp.cnd hr (by simp) (fun h13 hr => ?_) (fun h13 hr => ?_)
     ·obtain ⟨h14, hr⟩ := Lc hr
      refine tl hΓ [5] [27] ?_ (by simp [h11, h13]; exact rr)
      obtain rfl := La hr
      exact Ll () 6 (by first | (simp; done) | simp [h9, h10, h11, h12, h13, h14])
     ·refine AWp.skip ?_
      obtain rfl := La hr
      exact Ll () 6 (by first | (simp; done) | simp [h9, h10, h11, h12, h13])
    ·refine tl hΓ [6] [] ?_ (by simp; exact rr)
     obtain rfl := La hr
     exact Lk () 6 (by first | (simp; done) | simp [h9, h10])
   ·refine AWp.exit ?_
    obtain rfl := La hr
    exact Ln () 6 (by first | (simp; done) | simp [h9, h10])
  ·refine AWp.conv hc ?_
   refine tq hΓ [4] [5] ?_ (by simp; exact rr)
   obtain rfl := La hr
   exact AWp.ret (Le (by simp))

@[simp] noncomputable def ga.S : Sp
  | [.sl e0 _, .clo 99 [.ptr i0 0]], M => (rdB M i0).bind fun c0 => (rdP c0 0).bind fun i1 => (rdB M i1).bind fun c1 => (rdM c1 5).bind fun i2 => (rdO M i2).bind fun c2 => (rdP c1 6).bind fun i3 => (rdB M i3).bind fun c3 => (rdM c3 1).bind fun i4 => (rdE M i4).bind fun c4 => (rdM c3 2).bind fun i5 => (rdE M i5).bind fun c5 => (fun (y0 : Tf) => some { av := .lit (.int .i64 ((ga (e0.map decI) y0).getD dflt)), M := none, obl := e0 = (e0.map decI).map (eNum .i64) ∧ c0 = [.ptr i1 0] ∧ c1 = Tf.enc y0 i2 i3 ∧ c2 = Tj.own .i64 (y0.fh) none ∧ c3 = Tp.enc (y0.fa) i4 i5 ∧ c4 = encM (kI .i64) (kI .i64) (y0.fa.fm) ∧ c5 = encM (kI .i64) (kI .i64) (y0.fa.fp) ∧ (ga (e0.map decI) y0).isSome = true ∧ i0 ≠ i1 ∧ i0 ≠ i2 ∧ i0 ≠ i3 ∧ i0 ≠ i4 ∧ i0 ≠ i5 ∧ i1 ≠ i2 ∧ i1 ≠ i3 ∧ i1 ≠ i4 ∧ i1 ≠ i5 ∧ i2 ≠ i3 ∧ i2 ≠ i4 ∧ i2 ≠ i5 ∧ i3 ≠ i4 ∧ i3 ≠ i5 ∧ i4 ≠ i5 }) (Tf.dec c1 (decM dkI Tj.dfl c2.data) (Tp.dec c3 (decM dkI dkI c4) (decM dkI dkI c5)))
  | _, _ => none

theorem ga.ok : SpecOk Tryz.prog 98 ga.S := by
 intro l M out h
 unfold ga.S at h
 split at h
 ·rename_i e0 k0 i0
  obtain ⟨c0, hM0, h⟩ := bB h
  obtain ⟨i1, he1, h⟩ := bP h
  obtain ⟨c1, hM1, h⟩ := bB h
  obtain ⟨i2, he2, h⟩ := bM h
  obtain ⟨c2, hM2, h⟩ := bO h
  obtain ⟨i3, he3, h⟩ := bP h
  obtain ⟨c3, hM3, h⟩ := bB h
  obtain ⟨i4, he4, h⟩ := bM h
  obtain ⟨c4, hM4, h⟩ := bE h
  obtain ⟨i5, he5, h⟩ := bM h
  obtain ⟨c5, hM5, h⟩ := bE h
  try dsimp only at h
  cases h
  refine callOk_of fun ho => ?_
  obtain ⟨ox0, oc0, oc1, oc2, oc3, oc4, oc5, hs, hne0, hne1, hne2, hne3, hne4, hne5, hne6, hne7, hne8, hne9, hne10, hne11, hne12, hne13, hne14⟩ := ho
  generalize (e0.map decI) = x0 at *
  generalize (Tf.dec c1 (decM dkI Tj.dfl c2.data) (Tp.dec c3 (decM dkI dkI c4) (decM dkI dkI c5))) = y0 at *
  subst ox0
  subst oc0
  subst oc1
  subst oc2
  subst oc3
  subst oc4
  subst oc5
  obtain ⟨r, hr⟩ := so1 hs
  simp only [hr, gd1]
  have q := Lg (M := M) [i0, i1, i2, i3, i4, i5] (ga.can x0 y0 r hr) (by simp [hne0, hne1, hne2, hne3, hne4, hne5, hne6, hne7, hne8, hne9, hne10, hne11, hne12, hne13, hne14]) rfl (ix (by simp [hM0, into]) (ix (by simp [hM1, into]) (ix (by simp [hM2]) (ix (by simp [hM3, into]) (ix (by simp [hM4]) (ix (by simp [hM5]) ixn))))))
  exact callOk_conv q trivial (by simp [into]) (by simp [frameOut, into]) (by simp only [frameOut, ga.out, Option.getD_some, Option.getD_none]; simp [into, hM0, hM1, hM2, hM3, hM4, hM5, set_same])
 ·cases h

@[simp] def gai.m (x0 : Tf) (_x1 : List Int) : List AObj := [.blk (x0.fd.enc ++ [.mp 1, .ptr 2 0, .lit (.int .i64 x0.fc), .lit (.int .i64 x0.ff)]), .own (Tj.own .i64 x0.fh none) none, .blk [.lit (.int .i64 x0.fa.fb), .mp 3, .mp 4, .lit (.int .i64 x0.fa.fAt), .lit (.bool x0.fa.fg)], .mapo (encM (kI .i64) (kI .i64) x0.fa.fm), .mapo (encM (kI .i64) (kI .i64) x0.fa.fp)]
@[simp] def gai.out (_x0 : Tf) (_x1 : List Int) (r : Int) : Out := { av := .lit (.int .i64 r), M := none }
theorem gai.can (x0 : Tf) (x1 : List Int) (r : Int) (hr : gai x0 x1 = some r) : CallOk Tryz.prog 73 [.ptr 0 0, .sl (x1.map (eNum .i64)) .no] (gai.m x0 x1) (gai.out x0 x1 r) := by
 unfold gai at hr
 have hΓ := (gamL_cons ga.ok (gamL_nil) : GamOk Tryz.prog _)
 refine cw Tryz.func73 rfl (by kernel_rfl) rfl rfl (by simp) fun _ _ _ => ?_
 refine tq hΓ [2] [0] ?_
 obtain ⟨r1, h2, hr⟩ := Lb hr
 refine tq hΓ [4] [2, 1] ?_ (by simp [h2]; exact rr)
 obtain rfl := La hr
 exact AWp.ret (Le (by simp))

@[simp] noncomputable def gai.S : Sp
  | [.ptr i0 0, .sl e1 _], M => (rdB M i0).bind fun c0 => (rdM c0 5).bind fun i1 => (rdO M i1).bind fun c1 => (rdP c0 6).bind fun i2 => (rdB M i2).bind fun c2 => (rdM c2 1).bind fun i3 => (rdE M i3).bind fun c3 => (rdM c2 2).bind fun i4 => (rdE M i4).bind fun c4 => (fun (y0 : Tf) => some { av := .lit (.int .i64 ((gai y0 (e1.map decI)).getD dflt)), M := none, obl := e1 = (e1.map decI).map (eNum .i64) ∧ c0 = Tf.enc y0 i1 i2 ∧ c1 = Tj.own .i64 (y0.fh) none ∧ c2 = Tp.enc (y0.fa) i3 i4 ∧ c3 = encM (kI .i64) (kI .i64) (y0.fa.fm) ∧ c4 = encM (kI .i64) (kI .i64) (y0.fa.fp) ∧ (gai y0 (e1.map decI)).isSome = true ∧ i0 ≠ i1 ∧ i0 ≠ i2 ∧ i0 ≠ i3 ∧ i0 ≠ i4 ∧ i1 ≠ i2 ∧ i1 ≠ i3 ∧ i1 ≠ i4 ∧ i2 ≠ i3 ∧ i2 ≠ i4 ∧ i3 ≠ i4 }) (Tf.dec c0 (decM dkI Tj.dfl c1.data) (Tp.dec c2 (decM dkI dkI c3) (decM dkI dkI c4)))
  | _, _ => none

theorem gai.ok : SpecOk Tryz.prog 73 gai.S := by
 intro l M out h
 unfold gai.S at h
 split at h
 ·rename_i i0 e1 k1
  obtain ⟨c0, hM0, h⟩ := bB h
  obtain ⟨i1, he1, h⟩ := bM h
  obtain ⟨c1, hM1, h⟩ := bO h
  obtain ⟨i2, he2, h⟩ := bP h
  obtain ⟨c2, hM2, h⟩ := bB h
  obtain ⟨i3, he3, h⟩ := bM h
  obtain ⟨c3, hM3, h⟩ := bE h
  obtain ⟨i4, he4, h⟩ := bM h
  obtain ⟨c4, hM4, h⟩ := bE h
  try dsimp only at h
  cases h
  refine callOk_of fun ho => ?_
  obtain ⟨ox1, oc0, oc1, oc2, oc3, oc4, hs, hne0, hne1, hne2, hne3, hne4, hne5, hne6, hne7, hne8, hne9⟩ := ho
  generalize (Tf.dec c0 (decM dkI Tj.dfl c1.data) (Tp.dec c2 (decM dkI dkI c3) (decM dkI dkI c4))) = y0 at *
  generalize (e1.map decI) = x1 at *
  subst ox1
  subst oc0
  subst oc1
  subst oc2
  subst oc3
  subst oc4
  obtain ⟨r, hr⟩ := so1 hs
  simp only [hr, gd1]
  have q := Lg (M := M) [i0, i1, i2, i3, i4] (gai.can y0 x1 r hr) (by simp [hne0, hne1, hne2, hne3, hne4, hne5, hne6, hne7, hne8, hne9]) rfl (ix (by simp [hM0, into]) (ix (by simp [hM1]) (ix (by simp [hM2, into]) (ix (by simp [hM3]) (ix (by simp [hM4]) ixn)))))
  exact callOk_conv q trivial (by simp [into]) (by simp [frameOut, into]) (by simp only [frameOut, gai.out, Option.getD_some, Option.getD_none]; simp [into, hM0, hM1, hM2, hM3, hM4, set_same])
 ·cases h
end Go.Proofs

/- That these functions compute what their plain functions do. No condition. -/
import Derived.Test.YtpjplfnapgpfmaaGreatM04
import Derived.Test.YtpjplfnapgpfmaaGreatTy
import Derived.Test.YtpjplfnapgpfmaaGreatDc
import Derived.Test.YtpjplfnapgpfmaaGreatEc
import Derived.Test.YtpjplfnapgpfmaaGreatQu
import Derived.Test.YtpjplfnapgpfmaaGreatEa
import Derived.Test.YtpjplfnapgpfmaaGreatM03
set_option maxRecDepth 100000
set_option maxHeartbeats 4000000
namespace Go.Proofs
open Go.Ab
@[simp] def gh.m (x0 : Tf) : List AObj := [.blk (x0.fd.enc ++ [.mp 1, .ptr 2 0, .lit (.int .i64 x0.fc), .lit (.int .i64 x0.ff)]), .own (Tj.own .i64 x0.fh none) none, .blk [.lit (.int .i64 x0.fa.fb), .mp 3, .mp 4, .lit (.int .i64 x0.fa.fAt), .lit (.bool x0.fa.fg)], .mapo (encM (kI .i64) (kI .i64) x0.fa.fm), .mapo (encM (kI .i64) (kI .i64) x0.fa.fp)]
@[simp] def gh.out (_x0 : Tf) (r : Int × Bool × Tf) : Out := { av := .tup [.lit (.int .i64 r.1), .lit (.bool r.2.1)], M := some [.blk [.lit (.int .i64 r.2.2.fd.fe), .lit (.int .i64 r.2.2.fd.fk), .lit (.int .i64 r.2.2.fd.fq), .lit (.int .i64 r.2.2.fd.fb), .lit (.int .i64 r.2.2.fd.fo), .mp 1, .ptr 2 0, .lit (.int .i64 r.2.2.fc), .lit (.int .i64 r.2.2.ff)], .own (Tj.own .i64 r.2.2.fh none) none, .blk [.lit (.int .i64 r.2.2.fa.fb), .mp 3, .mp 4, .lit (.int .i64 r.2.2.fa.fAt), .lit (.bool r.2.2.fa.fg)], .mapo (encM (kI .i64) (kI .i64) r.2.2.fa.fm), .mapo (encM (kI .i64) (kI .i64) r.2.2.fa.fp)] }
def gh.fin (x0 : Tf) (r : Int × Bool × Tf) (σ : St) : Prop := finK (gh.out x0 r) (gh.m x0) σ.M (resA Tryz.ty σ.A σ.M Tryz.f26.results.toList)
theorem gh.can (x0 : Tf) (r : Int × Bool × Tf) (hr : gh x0 = some r) : CallOk Tryz.prog 26 [.ptr 0 0] (gh.m x0) (gh.out x0 r) := by
 unfold gh at hr
 have hΓ := (gamL_cons gf.ok (gamL_cons gy.ok (gamL_cons gai.ok (gamL_cons gD.ok (gamL_nil)))) : GamOk Tryz.prog _)
 refine cw Tryz.func26 rfl (by kernel_rfl) rfl rfl (by simp) fun _ _ _ => ?_
 refine tq hΓ [] [] ?_
 obtain ⟨r1, h11, hr⟩ := Lb hr
 obtain ⟨r2, h12, hr⟩ := Lb hr
 refine tq hΓ [4, 5] [] ?_ (by simp [h11, h12]; exact rr)
 refine AWp.seq ?_
 refine td hΓ [34] [] [] [(false, []), (false, []), (false, []), (false, []), (false, [18]), (false, [18]), (false, [18]), (false, [18]), (false, [18]), (false, [18]), (false, [18]), (false, [18]), (false, [18]), (false, [18]), (false, [18]), (false, [29, 18]), (false, [29, 18]), (false, [29, 18]), (false, [18]), (false, [])] (by simp; exact rr) ?_
 refine AWp.cnd hr (by simp) (fun h13 hr => ?_) (fun h13 hr => ?_)
 ·obtain ⟨r3, h14, hr⟩ := Lb hr
  refine tq hΓ [2, 3] [34, 4, 5, 0] ?_ (by simp [h13, h14]; exact rr)
  obtain rfl := La hr
  exact AWp.ret (Le (by simp))
 ·refine AWp.skip ?_
  refine tq hΓ [6] [34, 4] ?_ (by simp [h13]; exact rr)
  refine AWp.seq ?_
  refine tq hΓ [38, 39, 40] [5] ?_ (by simp; exact rr)
  refine AWp.equip 6 2 (els := []) (by simp) (by simp) ?_
  refine AWp.loopE (fun (s1 : Int × List Tg) (γ1 : Nat) => ⟨[⟨38, none, .sl (r2.map (eNum .i64)) .no⟩, ⟨39, none, .n (lenL r2)⟩, ⟨40, none, .n s1.1⟩, ⟨6, none, .sl (s1.2.map Tg.enc) (.own 5 (γ1) 2)⟩, ⟨0, none, .ptr 0 0⟩], [.blk (x0.fd.enc ++ [.mp 1, .ptr 2 0, .n x0.fc, .n x0.ff]), .own (Tj.own .i64 x0.fh none) none, .blk [.n x0.fa.fb, .mp 3, .mp 4, .n x0.fa.fAt, .b x0.fa.fg], .mapo (encM (kI .i64) (kI .i64) x0.fa.fm), .mapo (encM (kI .i64) (kI .i64) x0.fa.fp), .room (γ1)]⟩) (fun (v1 : List Tg) (γ1a : Nat) => ⟨[⟨6, none, .sl (v1.map Tg.enc) (.own 5 (γ1a) 2)⟩, ⟨0, none, .ptr 0 0⟩], [.blk (x0.fd.enc ++ [.mp 1, .ptr 2 0, .n x0.fc, .n x0.ff]), .own (Tj.own .i64 x0.fh none) none, .blk [.n x0.fa.fb, .mp 3, .mp 4, .n x0.fa.fAt, .b x0.fa.fg], .mapo (encM (kI .i64) (kI .i64) x0.fa.fm), .mapo (encM (kI .i64) (kI .i64) x0.fa.fp), .room (γ1a)]⟩) (gh.fin x0) hr 0 6 (by simp) (fun s1 f γ1 hr => ?_) (fun v1 γ1a σ1 m1 hr hc => ?_) (fun _ h => h)
  ·unfold gh.loop1 at hr
   refine tq hΓ [41] [] ?_ (by simp; exact rr)
   refine AWp.seq ?_
   refine AWp.cnd hr (by simp) (fun h15 hr => ?_) (fun h15 hr => ?_)
   ·refine AWp.skip ?_
    refine AWp.seq ?_
    refine AWp.block ?_
    obtain ⟨h16, hr⟩ := Lc hr
    refine tq hΓ [8] [41] ?_ (by simp [h15, h16]; exact rr)
    cases h17 : findM eqI (nthI r2 s1.1) x0.fh with
    | none =>
      have hr := optC_n h17 hr
      refine AWp.see (See.missI 1 (nthI r2 s1.1) x0.fh h17 (by rfl) (by simp; rfl)) ?_
      cases hr
    | some z3 =>
      have hr := optC_s h17 hr
      refine AWp.see (See.openI 1 (nthI r2 s1.1) z3 x0.fh h17 (by rfl) (by simp; rfl)) ?_
      obtain ⟨r4, h18, hr⟩ := Lb hr
      refine tq hΓ [9] [] ?_ (by simp [h18]; exact rr)
      obtain ⟨h19, hr⟩ := Lc hr
      refine tl hΓ [6] [9, 8] ?_ (by simp [h19]; exact rr)
      refine AWp.lstE (AWp.reg Tryz.tyOk hΓ [40] [] (by kernel_rfl) rfl (by simp; exact rr)) ?_
      refine Eps.see (See.closeS 1 (nthI r2 s1.1) z3 x0.fh [6] h17 (by rfl) (by decide) (by simp) (by simp [into]) (by simp) (by simp [killAll]; rfl)) ?_
      refine Eps.done ?_
      obtain rfl := La hr
      exact Lk (γ1 + 1) 6 (by first | (simp; done) | simp [h11, h12, h13, h15, h16, h18, h19])
   ·refine AWp.exit ?_
    obtain rfl := La hr
    exact Ln (γ1) 6 (by first | (simp; done) | simp [h11, h12, h13, h15])
  ·refine AWp.conv hc ?_
   obtain ⟨r5, h20, hr⟩ := Lb hr
   refine tq hΓ [2, 3] [6, 0] ?_ (by simp [h20]; exact rr)
   obtain rfl := La hr
   exact AWp.ret (Le (by simp))

@[simp] noncomputable def gh.S : Sp
  | [.ptr i0 0], M => (rdB M i0).bind fun c0 => (rdM c0 5).bind fun i1 => (rdO M i1).bind fun c1 => (rdP c0 6).bind fun i2 => (rdB M i2).bind fun c2 => (rdM c2 1).bind fun i3 => (rdE M i3).bind fun c3 => (rdM c2 2).bind fun i4 => (rdE M i4).bind fun c4 => (fun (y0 : Tf) => (fun (r : Int × Bool × Tf) => some { av := .tup [.lit (.int .i64 (r.1)), .lit (.bool (r.2.1))], M := some (((((M.set i0 (.blk [.lit (.int .i64 (r.2.2.fd.fe)), .lit (.int .i64 (r.2.2.fd.fk)), .lit (.int .i64 (r.2.2.fd.fq)), .lit (.int .i64 (r.2.2.fd.fb)), .lit (.int .i64 (r.2.2.fd.fo)), .mp i1, .ptr i2 0, .lit (.int .i64 (r.2.2.fc)), .lit (.int .i64 (r.2.2.ff))])).set i1 (.own (Tj.own .i64 (r.2.2.fh) none) none)).set i2 (.blk [.lit (.int .i64 (r.2.2.fa.fb)), .mp i3, .mp i4, .lit (.int .i64 (r.2.2.fa.fAt)), .lit (.bool (r.2.2.fa.fg))])).set i3 (.mapo (encM (kI .i64) (kI .i64) (r.2.2.fa.fm)))).set i4 (.mapo (encM (kI .i64) (kI .i64) (r.2.2.fa.fp)))), obl := c0 = Tf.enc y0 i1 i2 ∧ c1 = Tj.own .i64 (y0.fh) none ∧ c2 = Tp.enc (y0.fa) i3 i4 ∧ c3 = encM (kI .i64) (kI .i64) (y0.fa.fm) ∧ c4 = encM (kI .i64) (kI .i64) (y0.fa.fp) ∧ (gh y0).isSome = true ∧ i0 ≠ i1 ∧ i0 ≠ i2 ∧ i0 ≠ i3 ∧ i0 ≠ i4 ∧ i1 ≠ i2 ∧ i1 ≠ i3 ∧ i1 ≠ i4 ∧ i2 ≠ i3 ∧ i2 ≠ i4 ∧ i3 ≠ i4 }) ((gh y0).getD dflt)) (Tf.dec c0 (decM dkI Tj.dfl c1.data) (Tp.dec c2 (decM dkI dkI c3) (decM dkI dkI c4)))
  | _, _ => none

theorem gh.ok : SpecOk Tryz.prog 26 gh.S := by
 intro l M out h
 unfold gh.S at h
 split at h
 ·rename_i i0
  obtain ⟨c0, hM0, h⟩ := bB h
  obtain ⟨i1, he1, h⟩ := bM h
  obtain ⟨c1, hM1, h⟩ := bO h
  obtain ⟨i2, he2, h⟩ := bP h
  obtain ⟨c2, hM2, h⟩ := bB h
  obtain ⟨i3, he3, h⟩ := bM h
  obtain ⟨c3, hM3, h⟩ := bE h
  obtain ⟨i4, he4, h⟩ := bM h
  obtain ⟨c4, hM4, h⟩ := bE h
  try dsimp only at h
  cases h
  refine callOk_of fun ho => ?_
  obtain ⟨oc0, oc1, oc2, oc3, oc4, hs, hne0, hne1, hne2, hne3, hne4, hne5, hne6, hne7, hne8, hne9⟩ := ho
  generalize (Tf.dec c0 (decM dkI Tj.dfl c1.data) (Tp.dec c2 (decM dkI dkI c3) (decM dkI dkI c4))) = y0 at *
  subst oc0
  subst oc1
  subst oc2
  subst oc3
  subst oc4
  obtain ⟨r, hr⟩ := so1 hs
  simp only [hr, gd1]
  have q := Lg (M := M) [i0, i1, i2, i3, i4] (gh.can y0 r hr) (by simp [hne0, hne1, hne2, hne3, hne4, hne5, hne6, hne7, hne8, hne9]) rfl (ix (by simp [hM0, into]) (ix (by simp [hM1]) (ix (by simp [hM2, into]) (ix (by simp [hM3]) (ix (by simp [hM4]) ixn)))))
  exact callOk_conv q trivial (by simp [into]) (by simp [frameOut, into]) (by simp [frameOut, into])
 ·cases h

@[simp] def gu.m (x0 : Tf) : List AObj := [.blk (x0.fd.enc ++ [.mp 1, .ptr 2 0, .lit (.int .i64 x0.fc), .lit (.int .i64 x0.ff)]), .own (Tj.own .i64 x0.fh none) none, .blk [.lit (.int .i64 x0.fa.fb), .mp 3, .mp 4, .lit (.int .i64 x0.fa.fAt), .lit (.bool x0.fa.fg)], .mapo (encM (kI .i64) (kI .i64) x0.fa.fm), .mapo (encM (kI .i64) (kI .i64) x0.fa.fp)]
@[simp] def gu.out (_x0 : Tf) (r : List Tb × Tf) : Out := { av := .sl (r.1.map Tb.enc) .no, M := some [.blk [.lit (.int .i64 r.2.fd.fe), .lit (.int .i64 r.2.fd.fk), .lit (.int .i64 r.2.fd.fq), .lit (.int .i64 r.2.fd.fb), .lit (.int .i64 r.2.fd.fo), .mp 1, .ptr 2 0, .lit (.int .i64 r.2.fc), .lit (.int .i64 r.2.ff)], .own (Tj.own .i64 r.2.fh none) none, .blk [.lit (.int .i64 r.2.fa.fb), .mp 3, .mp 4, .lit (.int .i64 r.2.fa.fAt), .lit (.bool r.2.fa.fg)], .mapo (encM (kI .i64) (kI .i64) r.2.fa.fm), .mapo (encM (kI .i64) (kI .i64) r.2.fa.fp)] }
def gu.fin (x0 : Tf) (r : List Tb × Tf) (σ : St) : Prop := finK (gu.out x0 r) (gu.m x0) σ.M (resA Tryz.ty σ.A σ.M Tryz.f10.results.toList)
theorem gu.can (x0 : Tf) (r : List Tb × Tf) (hr : gu x0 = some r) : CallOk Tryz.prog 10 [.ptr 0 0] (gu.m x0) (gu.out x0 r) := by
 unfold gu at hr
 have hΓ := (gamL_cons gam.ok (gamL_cons gh.ok (gamL_cons gD.ok (gamL_cons gaw.ok (gamL_nil)))) : GamOk Tryz.prog _)
 refine cw Tryz.func10 rfl (by kernel_rfl) rfl rfl (by simp) fun _ _ _ => ?_
 refine tq hΓ [] [] ?_
 refine tq hΓ [3] [] ?_
 refine AWp.equip 3 5 (els := []) (by simp) (by simp) ?_
 refine AWp.loopE (fun (s1 : List Tb × Ts × Int × Int × (List (Int × Tj)) × Int × Int × Bool × (List (Int × Int)) × (List (Int × Int))) (γ1 : Nat) => ⟨[⟨3, none, .sl (s1.1.map Tb.enc) (.own 5 (γ1) 5)⟩, ⟨0, none, .ptr 0 0⟩], [.blk (s1.2.1.enc ++ [.mp 1, .ptr 2 0, .n s1.2.2.1, .n s1.2.2.2.1]), .own (Tj.own .i64 s1.2.2.2.2.1 none) none, .blk [.n s1.2.2.2.2.2.1, .mp 3, .mp 4, .n s1.2.2.2.2.2.2.1, .b s1.2.2.2.2.2.2.2.1], .mapo (encM (kI .i64) (kI .i64) s1.2.2.2.2.2.2.2.2.1), .mapo (encM (kI .i64) (kI .i64) s1.2.2.2.2.2.2.2.2.2), .room (γ1)]⟩) (fun (v1 : Unit) (γ1a : Unit) => ⟨[], []⟩) (gu.fin x0) hr 0 6 (by simp) (fun s1 f γ1 hr => ?_) (fun v1 γ1a σ1 m1 hr hc => ?_) (fun _ h => h)
 ·unfold gu.loop1 at hr
  refine AWp.block ?_
  obtain ⟨r1, h10, hr⟩ := Lb hr
  refine tq hΓ [4, 5] [] ?_ (by simp [h10]; exact rr)
  refine AWp.seq ?_
  refine tq hΓ [15] [5] ?_ (by simp; exact rr)
  refine AWp.cnd hr (by simp) (fun h11 hr => ?_) (fun h11 hr => ?_)
  ·refine tq hΓ [2] [15, 4, 3, 0] ?_ (by simp [h11]; exact rr)
   refine AWp.ret ?_
   obtain rfl := La hr
   refine round_ret ?_
   refine Le ?_
   simp
  ·refine AWp.skip ?_
   cases h12 : findM eqI r1.1 r1.2.2.fh with
   | none =>
     have hr := optC_n h12 hr
     refine AWp.see (See.missI 1 r1.1 r1.2.2.fh h12 (by rfl) (by simp; rfl)) ?_
     refine tq hΓ [6] [15] ?_ (by simp [h11]; exact rr)
     refine AWp.seq ?_
     cases hr
   | some z3 =>
     have hr := optC_s h12 hr
     refine AWp.see (See.openI 1 r1.1 z3 r1.2.2.fh h12 (by rfl) (by simp; rfl)) ?_
     refine tq hΓ [6] [15] ?_ (by simp [h11]; exact rr)
     obtain ⟨r2, h13, hr⟩ := Lb hr
     refine tq hΓ [7] [] ?_ (by simp [h13]; exact rr)
     refine AWp.seq ?_
     refine td hΓ [35] [] [] [(false, []), (false, []), (false, []), (false, []), (false, []), (false, []), (false, [])] (by simp; exact rr) ?_
     refine AWp.cnd hr (by simp) (fun h14 hr => ?_) (fun h14 hr => ?_)
     ·refine tq hΓ [2] [35, 7, 6, 4, 3, 0] ?_ (by simp [h14]; exact rr)
      refine AWp.see (See.closeS 1 r1.1 z3 r1.2.2.fh [6] h12 (by rfl) (by decide) (by simp) (by simp [into]) (by simp) (by simp [killAll]; rfl)) ?_
      refine AWp.ret ?_
      obtain rfl := La hr
      refine round_ret ?_
      refine Le ?_
      simp
     ·refine AWp.skip ?_
      obtain ⟨r3, h15, hr⟩ := Lb hr
      refine tq hΓ [] [35] ?_ (by simp [h14, h15]; exact rr)
      refine td hΓ [] [] [] [(false, []), (false, []), (false, []), (false, []), (false, []), (false, []), (false, []), (false, []), (false, []), (true, [])] (by simp; exact rr) ?_
      refine AWp.meetF (fun (v2 : Int × Int × Bool × (List (Int × Int)) × (List (Int × Int)) × Int × Bool) (γ2 : Unit) => ⟨[⟨7, none, .ptr 8 0⟩, ⟨4, none, .n r1.1⟩, ⟨3, none, .sl (s1.1.map Tb.enc) (.own 5 (γ1) 5)⟩, ⟨0, none, .ptr 0 0⟩], [.blk (r1.2.2.fd.enc ++ [.mp 1, .ptr 2 0, .n (subI .i64 r1.2.2.fc r2.1.fj), .n v2.2.2.2.2.2.1]), .own (Tj.own .i64 r1.2.2.fh (some (.int .i64 r1.1))) (some (.int .i64 r1.1, some (.agg [.ptr 6 0, .b z3.fu]))), .blk [.n v2.1, .mp 3, .mp 4, .n v2.2.1, .b v2.2.2.1], .mapo (encM (kI .i64) (kI .i64) v2.2.2.2.1), .mapo (encM (kI .i64) (kI .i64) v2.2.2.2.2.1), .room (γ1), .blk r3.2.2.enc, .blk [.ptr 6 0, .b v2.2.2.2.2.2.2], .blk r2.1.enc]⟩) (QRr (gu.fin x0)) hr (fun f hr => ?_) (fun v2 γ2 hr => ?_) (fun _ h => QRr_ret h)
      ·refine tq hΓ [50] [6] ?_ (by simp; exact rr)
       refine AWp.cnd hr (by simp) (fun h16 hr => ?_) (fun h16 hr => ?_)
       ·obtain ⟨r4, h17, hr⟩ := Lb hr
        refine td hΓ [] [50] [] [(false, []), (false, []), (false, []), (false, []), (false, []), (false, []), (true, [])] (by simp [h16, h17]; exact rr) ?_
        refine tl hΓ [] [] ?_ (by simp; exact rr)
        obtain rfl := La hr
        exact Ll () 9 (by first | (simp; done) | simp [h16])
       ·refine tl hΓ [] [50] ?_ (by simp [h16]; exact rr)
        obtain rfl := La hr
        exact Ll () 9 (by first | (simp; done) | simp [h16])
      ·obtain ⟨h18, hr⟩ := Lc hr
       refine AWp.lstE (AWp.reg Tryz.tyOk hΓ [3] [7, 4] (by kernel_rfl) rfl (by simp [h18]; exact rr)) ?_
       refine Eps.see (See.closeI 1 r1.1 (Tj.mk r3.2.2 z3.fu) r1.2.2.fh [6] (by rfl) (by decide) (by simp) (by simp [into]) (by simp) (by simp [killAll]; rfl)) ?_
       refine Eps.done ?_
       obtain rfl := La hr
       exact Lk (γ1 + 1) 6 (by first | (simp; done) | simp [h10, h11, h13, h14, h15, h18])
 ·cases hr

@[simp] noncomputable def gu.S : Sp
  | [.ptr i0 0], M => (rdB M i0).bind fun c0 => (rdM c0 5).bind fun i1 => (rdO M i1).bind fun c1 => (rdP c0 6).bind fun i2 => (rdB M i2).bind fun c2 => (rdM c2 1).bind fun i3 => (rdE M i3).bind fun c3 => (rdM c2 2).bind fun i4 => (rdE M i4).bind fun c4 => (fun (y0 : Tf) => (fun (r : List Tb × Tf) => some { av := .sl ((r.1).map Tb.enc) .no, M := some (((((M.set i0 (.blk [.lit (.int .i64 (r.2.fd.fe)), .lit (.int .i64 (r.2.fd.fk)), .lit (.int .i64 (r.2.fd.fq)), .lit (.int .i64 (r.2.fd.fb)), .lit (.int .i64 (r.2.fd.fo)), .mp i1, .ptr i2 0, .lit (.int .i64 (r.2.fc)), .lit (.int .i64 (r.2.ff))])).set i1 (.own (Tj.own .i64 (r.2.fh) none) none)).set i2 (.blk [.lit (.int .i64 (r.2.fa.fb)), .mp i3, .mp i4, .lit (.int .i64 (r.2.fa.fAt)), .lit (.bool (r.2.fa.fg))])).set i3 (.mapo (encM (kI .i64) (kI .i64) (r.2.fa.fm)))).set i4 (.mapo (encM (kI .i64) (kI .i64) (r.2.fa.fp)))), obl := c0 = Tf.enc y0 i1 i2 ∧ c1 = Tj.own .i64 (y0.fh) none ∧ c2 = Tp.enc (y0.fa) i3 i4 ∧ c3 = encM (kI .i64) (kI .i64) (y0.fa.fm) ∧ c4 = encM (kI .i64) (kI .i64) (y0.fa.fp) ∧ (gu y0).isSome = true ∧ i0 ≠ i1 ∧ i0 ≠ i2 ∧ i0 ≠ i3 ∧ i0 ≠ i4 ∧ i1 ≠ i2 ∧ i1 ≠ i3 ∧ i1 ≠ i4 ∧ i2 ≠ i3 ∧ i2 ≠ i4 ∧ i3 ≠ i4 }) ((gu y0).getD dflt)) (Tf.dec c0 (decM dkI Tj.dfl c1.data) (Tp.dec c2 (decM dkI dkI c3) (decM dkI dkI c4)))
  | _, _ => none

theorem gu.ok : SpecOk Tryz.prog 10 gu.S := by
 intro l M out h
 unfold gu.S at h
 split at h
 ·rename_i i0
  obtain ⟨c0, hM0, h⟩ := bB h
  obtain ⟨i1, he1, h⟩ := bM h
  obtain ⟨c1, hM1, h⟩ := bO h
  obtain ⟨i2, he2, h⟩ := bP h
  obtain ⟨c2, hM2, h⟩ := bB h
  obtain ⟨i3, he3, h⟩ := bM h
  obtain ⟨c3, hM3, h⟩ := bE h
  obtain ⟨i4, he4, h⟩ := bM h
  obtain ⟨c4, hM4, h⟩ := bE h
  try dsimp only at h
  cases h
  refine callOk_of fun ho => ?_
  obtain ⟨oc0, oc1, oc2, oc3, oc4, hs, hne0, hne1, hne2, hne3, hne4, hne5, hne6, hne7, hne8, hne9⟩ := ho
  generalize (Tf.dec c0 (decM dkI Tj.dfl c1.data) (Tp.dec c2 (decM dkI dkI c3) (decM dkI dkI c4))) = y0 at *
  subst oc0
  subst oc1
  subst oc2
  subst oc3
  subst oc4
  obtain ⟨r, hr⟩ := so1 hs
  simp only [hr, gd1]
  have q := Lg (M := M) [i0, i1, i2, i3, i4] (gu.can y0 r hr) (by simp [hne0, hne1, hne2, hne3, hne4, hne5, hne6, hne7, hne8, hne9]) rfl (ix (by simp [hM0, into]) (ix (by simp [hM1]) (ix (by simp [hM2, into]) (ix (by simp [hM3]) (ix (by simp [hM4]) ixn)))))
  exact callOk_conv q trivial (by simp [into]) (by simp [frameOut, into]) (by simp [frameOut, into])
 ·cases h

@[simp] def gA.m (x0 : Tf) (_x1 : Int) : List AObj := [.blk (x0.fd.enc ++ [.mp 1, .ptr 2 0, .lit (.int .i64 x0.fc), .lit (.int .i64 x0.ff)]), .own (Tj.own .i64 x0.fh none) none, .blk [.lit (.int .i64 x0.fa.fb), .mp 3, .mp 4, .lit (.int .i64 x0.fa.fAt), .lit (.bool x0.fa.fg)], .mapo (encM (kI .i64) (kI .i64) x0.fa.fm), .mapo (encM (kI .i64) (kI .i64) x0.fa.fp)]
@[simp] def gA.out (_x0 : Tf) (_x1 : Int) (r : List Tb × Tf) : Out := { av := .sl (r.1.map Tb.enc) .no, M := some [.blk [.lit (.int .i64 r.2.fd.fe), .lit (.int .i64 r.2.fd.fk), .lit (.int .i64 r.2.fd.fq), .lit (.int .i64 r.2.fd.fb), .lit (.int .i64 r.2.fd.fo), .mp 1, .ptr 2 0, .lit (.int .i64 r.2.fc), .lit (.int .i64 r.2.ff)], .own (Tj.own .i64 r.2.fh none) none, .blk [.lit (.int .i64 r.2.fa.fb), .mp 3, .mp 4, .lit (.int .i64 r.2.fa.fAt), .lit (.bool r.2.fa.fg)], .mapo (encM (kI .i64) (kI .i64) r.2.fa.fm), .mapo (encM (kI .i64) (kI .i64) r.2.fa.fp)] }
def gA.fin (x0 : Tf) (x1 : Int) (r : List Tb × Tf) (σ : St) : Prop := finK (gA.out x0 x1 r) (gA.m x0 x1) σ.M (resA Tryz.ty σ.A σ.M Tryz.f23.results.toList)
theorem gA.can (x0 : Tf) (x1 : Int) (r : List Tb × Tf) (hr : gA x0 x1 = some r) : CallOk Tryz.prog 23 [.ptr 0 0, .lit (.int .i64 x1)] (gA.m x0 x1) (gA.out x0 x1 r) := by
 unfold gA at hr
 have hΓ := (gamL_cons gn.ok (gamL_cons gaj.ok (gamL_cons libKeys.gaY.ok (gamL_cons libSorted.ga0.ok (gamL_nil)))) : GamOk Tryz.prog _)
 refine cw Tryz.func23 rfl (by kernel_rfl) rfl rfl (by simp) fun _ _ _ => ?_
 refine tq hΓ [] [] ?_
 refine tq hΓ [5] [] ?_
 refine AWp.seq ?_
 obtain ⟨h8, hr⟩ := Lc hr
 refine tq hΓ [13, 14, 15] [] ?_ (by simp [h8]; exact rr)
 refine AWp.equip 5 5 (els := []) (by simp) (by simp) ?_
 refine AWp.loopE (fun (s1 : Int × List Tb × (List (Int × Tj))) (γ1 : Nat) => ⟨[⟨13, none, .sl ((sortL (keysM x0.fh)).map (eNum .i64)) .no⟩, ⟨14, none, .n (lenL (sortL (keysM x0.fh)))⟩, ⟨15, none, .n s1.1⟩, ⟨5, none, .sl (s1.2.1.map Tb.enc) (.own 5 (γ1) 5)⟩, ⟨0, none, .ptr 0 0⟩, ⟨1, none, .n x1⟩], [.blk (x0.fd.enc ++ [.mp 1, .ptr 2 0, .n x0.fc, .n x0.ff]), .own (Tj.own .i64 s1.2.2 none) none, .blk [.n x0.fa.fb, .mp 3, .mp 4, .n x0.fa.fAt, .b x0.fa.fg], .mapo (encM (kI .i64) (kI .i64) x0.fa.fm), .mapo (encM (kI .i64) (kI .i64) x0.fa.fp), .room (γ1)]⟩) (fun (v1 : List Tb × (List (Int × Tj))) (γ1a : Nat) => ⟨[⟨5, none, .sl (v1.1.map Tb.enc) (.own 5 (γ1a) 5)⟩], [.blk (x0.fd.enc ++ [.mp 1, .ptr 2 0, .n x0.fc, .n x0.ff]), .own (Tj.own .i64 v1.2 none) none, .blk [.n x0.fa.fb, .mp 3, .mp 4, .n x0.fa.fAt, .b x0.fa.fg], .mapo (encM (kI .i64) (kI .i64) x0.fa.fm), .mapo (encM (kI .i64) (kI .i64) x0.fa.fp), .room (γ1a)]⟩) (gA.fin x0 x1) hr 0 6 (by simp) (fun s1 f γ1 hr => ?_) (fun v1 γ1a σ1 m1 hr hc => ?_) (fun _ h => h)
 ·unfold gA.loop1 at hr
  refine tq hΓ [16] [] ?_ (by simp; exact rr)
  refine AWp.seq ?_
  refine AWp.cnd hr (by simp) (fun h9 hr => ?_) (fun h9 hr => ?_)
  ·refine AWp.skip ?_
   refine AWp.seq ?_
   refine AWp.block ?_
   obtain ⟨h10, hr⟩ := Lc hr
   refine tq hΓ [7] [16] ?_ (by simp [h9, h10]; exact rr)
   cases h11 : findM eqI (nthI (sortL (keysM x0.fh)) s1.1) s1.2.2 with
   | none =>
     have hr := optC_n h11 hr
     refine AWp.see (See.missI 1 (nthI (sortL (keysM x0.fh)) s1.1) s1.2.2 h11 (by rfl) (by simp; rfl)) ?_
     cases hr
   | some z3 =>
     have hr := optC_s h11 hr
     refine AWp.see (See.openI 1 (nthI (sortL (keysM x0.fh)) s1.1) z3 s1.2.2 h11 (by rfl) (by simp; rfl)) ?_
     obtain ⟨r1, h12, hr⟩ := Lb hr
     obtain ⟨r2, h13, hr⟩ := Lb hr
     obtain ⟨h14, hr⟩ := Lc hr
     refine AWp.lst (AWp.regD Tryz.mixed Tryz.tyOk hΓ [5] [7] [(0, 16), (1, 16)] [(false, []), (false, []), (false, []), (false, []), (false, []), (false, []), (false, []), (false, []), (false, []), (false, []), (false, []), (false, []), (false, []), (false, []), (false, []), (true, []), (false, []), (true, []), (false, [])] (by kernel_rfl) rfl (by simp [h12, h13, h14]; exact rr)) ?_
     refine AWp.lstE (AWp.reg Tryz.tyOk hΓ [15] [] (by kernel_rfl) rfl (by simp; exact rr)) ?_
     refine Eps.see (See.closeI 1 (nthI (sortL (keysM x0.fh)) s1.1) (Tj.mk r1.2 z3.fu) s1.2.2 [6] (by rfl) (by decide) (by simp) (by simp [into]) (by simp) (by simp [killAll]; rfl)) ?_
     refine Eps.done ?_
     obtain rfl := La hr
     exact Lk (γ1 + 1) 6 (by first | (simp; done) | simp [h8, h9, h10, h12, h13, h14])
  ·refine AWp.exit ?_
   obtain rfl := La hr
   exact Ln (γ1) 6 (by first | (simp; done) | simp [h8, h9])
 ·refine AWp.conv hc ?_
  refine tq hΓ [4] [5] ?_ (by simp; exact rr)
  obtain rfl := La hr
  exact AWp.ret (Le (by simp))

@[simp] noncomputable def gA.S : Sp
  | [.ptr i0 0, .lit (.int .i64 x1)], M => (rdB M i0).bind fun c0 => (rdM c0 5).bind fun i1 => (rdO M i1).bind fun c1 => (rdP c0 6).bind fun i2 => (rdB M i2).bind fun c2 => (rdM c2 1).bind fun i3 => (rdE M i3).bind fun c3 => (rdM c2 2).bind fun i4 => (rdE M i4).bind fun c4 => (fun (y0 : Tf) => (fun (r : List Tb × Tf) => some { av := .sl ((r.1).map Tb.enc) .no, M := some (((((M.set i0 (.blk [.lit (.int .i64 (r.2.fd.fe)), .lit (.int .i64 (r.2.fd.fk)), .lit (.int .i64 (r.2.fd.fq)), .lit (.int .i64 (r.2.fd.fb)), .lit (.int .i64 (r.2.fd.fo)), .mp i1, .ptr i2 0, .lit (.int .i64 (r.2.fc)), .lit (.int .i64 (r.2.ff))])).set i1 (.own (Tj.own .i64 (r.2.fh) none) none)).set i2 (.blk [.lit (.int .i64 (r.2.fa.fb)), .mp i3, .mp i4, .lit (.int .i64 (r.2.fa.fAt)), .lit (.bool (r.2.fa.fg))])).set i3 (.mapo (encM (kI .i64) (kI .i64) (r.2.fa.fm)))).set i4 (.mapo (encM (kI .i64) (kI .i64) (r.2.fa.fp)))), obl := c0 = Tf.enc y0 i1 i2 ∧ c1 = Tj.own .i64 (y0.fh) none ∧ c2 = Tp.enc (y0.fa) i3 i4 ∧ c3 = encM (kI .i64) (kI .i64) (y0.fa.fm) ∧ c4 = encM (kI .i64) (kI .i64) (y0.fa.fp) ∧ (gA y0 x1).isSome = true ∧ i0 ≠ i1 ∧ i0 ≠ i2 ∧ i0 ≠ i3 ∧ i0 ≠ i4 ∧ i1 ≠ i2 ∧ i1 ≠ i3 ∧ i1 ≠ i4 ∧ i2 ≠ i3 ∧ i2 ≠ i4 ∧ i3 ≠ i4 }) ((gA y0 x1).getD dflt)) (Tf.dec c0 (decM dkI Tj.dfl c1.data) (Tp.dec c2 (decM dkI dkI c3) (decM dkI dkI c4)))
  | _, _ => none

theorem gA.ok : SpecOk Tryz.prog 23 gA.S := by
 intro l M out h
 unfold gA.S at h
 split at h
 ·rename_i i0 x1
  obtain ⟨c0, hM0, h⟩ := bB h
  obtain ⟨i1, he1, h⟩ := bM h
  obtain ⟨c1, hM1, h⟩ := bO h
  obtain ⟨i2, he2, h⟩ := bP h
  obtain ⟨c2, hM2, h⟩ := bB h
  obtain ⟨i3, he3, h⟩ := bM h
  obtain ⟨c3, hM3, h⟩ := bE h
  obtain ⟨i4, he4, h⟩ := bM h
  obtain ⟨c4, hM4, h⟩ := bE h
  try dsimp only at h
  cases h
  refine callOk_of fun ho => ?_
  obtain ⟨oc0, oc1, oc2, oc3, oc4, hs, hne0, hne1, hne2, hne3, hne4, hne5, hne6, hne7, hne8, hne9⟩ := ho
  generalize (Tf.dec c0 (decM dkI Tj.dfl c1.data) (Tp.dec c2 (decM dkI dkI c3) (decM dkI dkI c4))) = y0 at *
  subst oc0
  subst oc1
  subst oc2
  subst oc3
  subst oc4
  obtain ⟨r, hr⟩ := so1 hs
  simp only [hr, gd1]
  have q := Lg (M := M) [i0, i1, i2, i3, i4] (gA.can y0 x1 r hr) (by simp [hne0, hne1, hne2, hne3, hne4, hne5, hne6, hne7, hne8, hne9]) rfl (ix (by simp [hM0, into]) (ix (by simp [hM1]) (ix (by simp [hM2, into]) (ix (by simp [hM3]) (ix (by simp [hM4]) ixn)))))
  exact callOk_conv q trivial (by simp [into]) (by simp [frameOut, into]) (by simp [frameOut, into])
 ·cases h
end Go.Proofs

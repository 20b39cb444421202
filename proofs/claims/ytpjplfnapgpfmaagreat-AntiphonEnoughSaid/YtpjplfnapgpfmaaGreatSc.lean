/- That these functions compute what their plain functions do. No condition. -/
import Derived.Test.YtpjplfnapgpfmaaGreatM06
import Derived.Test.YtpjplfnapgpfmaaGreatTy
set_option maxRecDepth 100000
set_option maxHeartbeats 4000000
namespace Go.Proofs
open Go.Ab
@[simp] def gT.out (_x0 : Te) (_x1 : Int) (r : Int) : Out := { av := .lit (.int .i64 r), M := none }
def gT.fin (x0 : Te) (x1 : Int) (r : Int) (σ : St) : Prop := finK (gT.out x0 x1 r) [] σ.M (resA Tryz.ty σ.A σ.M Tryz.f88.results.toList)
theorem gT.can (x0 : Te) (x1 : Int) (r : Int) (hr : gT x0 x1 = some r) : CallOk Tryz.prog 88 [.agg [.lit (.int .i64 x0.fb), .sl (x0.fL.map Td.enc) .no, .lit (.int .i64 x0.fAt), .lit (.bool x0.fg)], .lit (.int .i64 x1)] [] (gT.out x0 x1 r) := by
 unfold gT at hr
 have hΓ := gamL_nil (P := Tryz.prog)
 refine cw Tryz.func88 rfl (by kernel_rfl) rfl rfl (by simp) fun _ _ _ => ?_
 refine tq hΓ [2] [0] ?_
 refine AWp.seq ?_
 refine tq hΓ [8, 9, 10] [2] ?_
 refine AWp.loopE (fun (s1 : Int) (γ1 : Unit) => ⟨[⟨8, none, .sl (x0.fL.map Td.enc) .no⟩, ⟨9, none, .n (lenL x0.fL)⟩, ⟨10, none, .n s1⟩, ⟨1, none, .n x1⟩], [.blk x0.enc]⟩) (fun (v1 : Unit) (γ1a : Unit) => ⟨[], [.blk x0.enc]⟩) (gT.fin x0 x1) hr () 1 (by simp) (fun s1 f γ1 hr => ?_) (fun v1 γ1a σ1 m1 hr hc => ?_) (fun _ h => h)
 ·unfold gT.loop1 at hr
  refine tq hΓ [11] [] ?_
  refine AWp.seq ?_
  refine AWp.cnd hr (by simp) (fun h4 hr => ?_) (fun h4 hr => ?_)
  ·refine AWp.skip ?_
   refine AWp.seq ?_
   refine AWp.block ?_
   obtain ⟨h5, hr⟩ := Lc hr
   refine tq hΓ [6, 5] [11] ?_ (by simp [h4, h5]; exact rr)
   refine tq hΓ [18] [6] ?_ (by simp; exact rr)
   refine AWp.cnd hr (by simp) (fun h6 hr => ?_) (fun h6 hr => ?_)
   ·refine tq hΓ [4] [18, 5, 8, 9, 10, 1] ?_ (by simp [h6]; exact rr)
    refine AWp.ret ?_
    obtain rfl := La hr
    refine round_ret ?_
    refine Le ?_
    simp
   ·refine AWp.skip ?_
    refine tl hΓ [10] [18, 5] ?_ (by simp [h6]; exact rr)
    obtain rfl := La hr
    exact Lk () 1 (by first | (simp; done) | simp [h4, h5, h6])
  ·refine AWp.exit ?_
   obtain rfl := La hr
   exact Ln () 1 (by first | (simp; done) | simp [h4])
 ·refine AWp.conv hc ?_
  refine tq hΓ [4] [] ?_
  obtain rfl := La hr
  exact AWp.ret (Le (by simp))

@[simp] noncomputable def gT.S : Sp
  | [.agg e0, .lit (.int .i64 x1)], _ => some { av := .lit (.int .i64 ((gT (Te.dec e0) x1).getD dflt)), M := none, obl := WeakL e0 (Te.enc (Te.dec e0)) ∧ (gT (Te.dec e0) x1).isSome = true }
  | _, _ => none

theorem gT.ok : SpecOk Tryz.prog 88 gT.S := by
 intro l M out h
 unfold gT.S at h
 split at h
 ·rename_i e0 x1
  cases h
  refine callOk_of fun ho => ?_
  obtain ⟨ox0, hs⟩ := ho
  generalize (Te.dec e0) = x0 at *
  obtain ⟨r, hr⟩ := so1 hs
  simp only [hr, gd1]
  have q := Lg (M := M) [] (gT.can x0 x1 r hr) (by simp) rfl ixn
  exact callOk_conv q trivial (by simp; exact ox0) (by simp [frameOut]) (by simp [frameOut])
 ·cases h

@[simp] def gax.out (_x0 : Te) (_x1 : Int) (_x2 : Int) (r : Te × Int) : Out := { av := .tup [.agg [.lit (.int .i64 r.1.fb), .sl (r.1.fL.map Td.enc) .no, .lit (.int .i64 r.1.fAt), .lit (.bool r.1.fg)], .lit (.int .i64 r.2)], M := none }
def gax.fin (x0 : Te) (x1 : Int) (x2 : Int) (r : Te × Int) (σ : St) : Prop := finK (gax.out x0 x1 x2 r) [] σ.M (resA Tryz.ty σ.A σ.M Tryz.f94.results.toList)
theorem gax.can (x0 : Te) (x1 : Int) (x2 : Int) (r : Te × Int) (hr : gax x0 x1 x2 = some r) : CallOk Tryz.prog 94 [.agg [.lit (.int .i64 x0.fb), .sl (x0.fL.map Td.enc) .no, .lit (.int .i64 x0.fAt), .lit (.bool x0.fg)], .lit (.int .i64 x1), .lit (.int .i64 x2)] [] (gax.out x0 x1 x2 r) := by
 unfold gax at hr
 have hΓ := (gamL_cons gT.ok (gamL_nil) : GamOk Tryz.prog _)
 refine cw Tryz.func94 rfl (by kernel_rfl) rfl rfl (by simp) fun _ _ _ => ?_
 refine tq hΓ [3, 6] [0] ?_
 refine AWp.seq ?_
 refine tq hΓ [19] [] ?_
 refine AWp.cnd hr (by simp) (fun h11 hr => ?_) (fun h11 hr => ?_)
 ·refine tq hΓ [7] [19, 3, 1, 2] ?_ (by simp [h11]; exact rr)
  obtain rfl := La hr
  exact AWp.ret (Le (by simp))
 ·refine AWp.skip ?_
  refine AWp.seq ?_
  obtain ⟨r1, h12, hr⟩ := Lb hr
  refine tq hΓ [24] [19] ?_ (by simp [h11, h12]; exact rr)
  refine AWp.cnd hr (by simp) (fun h13 hr => ?_) (fun h13 hr => ?_)
  ·refine tq hΓ [7] [24, 3, 1, 2] ?_ (by simp [h13]; exact rr)
   obtain rfl := La hr
   exact AWp.ret (Le (by simp))
  ·refine AWp.skip ?_
   refine tq hΓ [8] [24] ?_ (by simp [h13]; exact rr)
   refine tq hΓ [9] [] ?_ (by simp; exact rr)
   refine AWp.seq ?_
   refine tq hΓ [28, 29, 30] [] ?_ (by simp; exact rr)
   refine AWp.equip 8 3 (els := []) (by simp) (by simp) ?_
   refine AWp.loopE (fun (s1 : Int × Bool × List Td) (γ1 : Nat) => ⟨[⟨28, none, .sl (x0.fL.map Td.enc) .no⟩, ⟨29, none, .n (lenL x0.fL)⟩, ⟨30, none, .n s1.1⟩, ⟨9, none, .b s1.2.1⟩, ⟨8, none, .sl (s1.2.2.map Td.enc) (.own 2 (γ1) 3)⟩, ⟨3, none, .ptr 0 0⟩, ⟨6, none, .ptr 1 0⟩, ⟨1, none, .n x1⟩, ⟨2, none, .n x2⟩], [.blk x0.enc, .blk [.n 0, .sl [] .full, .n 0, .b false], .room (γ1)]⟩) (fun (v1 : Bool × List Td) (γ1a : Nat) => ⟨[⟨9, none, .b v1.1⟩, ⟨8, none, .sl (v1.2.map Td.enc) (.own 2 (γ1a) 3)⟩, ⟨3, none, .ptr 0 0⟩, ⟨6, none, .ptr 1 0⟩, ⟨1, none, .n x1⟩, ⟨2, none, .n x2⟩], [.blk x0.enc, .blk [.n 0, .sl [] .full, .n 0, .b false], .room (γ1a)]⟩) (gax.fin x0 x1 x2) hr 0 3 (by simp) (fun s1 f γ1 hr => ?_) (fun v1 γ1a σ1 m1 hr hc => ?_) (fun _ h => h)
   ·unfold gax.loop1 at hr
    refine tq hΓ [31] [] ?_ (by simp; exact rr)
    refine AWp.seq ?_
    refine AWp.cnd hr (by simp) (fun h14 hr => ?_) (fun h14 hr => ?_)
    ·refine AWp.skip ?_
     refine AWp.seq ?_
     refine AWp.block ?_
     obtain ⟨h15, hr⟩ := Lc hr
     refine tq hΓ [11] [31] ?_ (by simp [h14, h15]; exact rr)
     refine AWp.meetF (fun (v2 : Bool × List Td) (γ2 : Nat) => ⟨[⟨11, none, .ptr 3 0⟩, ⟨28, none, .sl (x0.fL.map Td.enc) .no⟩, ⟨29, none, .n (lenL x0.fL)⟩, ⟨30, none, .n s1.1⟩, ⟨9, none, .b v2.1⟩, ⟨8, none, .sl (v2.2.map Td.enc) (.own 2 (γ2) 3)⟩, ⟨3, none, .ptr 0 0⟩, ⟨6, none, .ptr 1 0⟩, ⟨1, none, .n x1⟩, ⟨2, none, .n x2⟩], [.blk x0.enc, .blk [.n 0, .sl [] .full, .n 0, .b false], .room (γ2), .blk (nthI x0.fL s1.1).enc]⟩) (QRr (gax.fin x0 x1 x2)) hr (fun f hr => ?_) (fun v2 γ2 hr => ?_) (fun _ h => QRr_ret h)
     ·refine tq hΓ [41] [] ?_ (by simp; exact rr)
      refine AWp.cnd hr (by simp) (fun h16 hr => ?_) (fun h16 hr => ?_)
      ·obtain ⟨h17, hr⟩ := Lc hr
       refine tq hΓ [8] [41, 9] ?_ (by simp [h16, h17]; exact rr)
       refine tl hΓ [9] [] ?_ (by simp; exact rr)
       obtain rfl := La hr
       exact Ll (γ1 + 1) 4 (by first | (simp; done) | simp [h11, h12, h13, h14, h15, h16, h17])
      ·refine AWp.skip ?_
       obtain rfl := La hr
       exact Ll (γ1) 4 (by first | (simp; done) | simp [h11, h12, h13, h14, h15, h16])
     ·obtain ⟨h18, hr⟩ := Lc hr
      refine tl hΓ [8] [11] ?_ (by simp [h18]; exact rr)
      refine tl hΓ [30] [] ?_ (by simp; exact rr)
      obtain rfl := La hr
      exact Lk (γ2 + 1) 3 (by first | (simp; done) | simp [h11, h12, h13, h14, h15, h18])
    ·refine AWp.exit ?_
     obtain rfl := La hr
     exact Ln (γ1) 3 (by first | (simp; done) | simp [h11, h12, h13, h14])
   ·refine AWp.conv hc ?_
    refine AWp.meetF (fun (v3 : List Td) (γ3 : Nat) => ⟨[⟨8, none, .sl (v3.map Td.enc) (.own 2 (γ3) 3)⟩, ⟨3, none, .ptr 0 0⟩, ⟨6, none, .ptr 1 0⟩], [.blk x0.enc, .blk [.n 0, .sl [] .full, .n 0, .b false], .room (γ3)]⟩) (gax.fin x0 x1 x2) hr (fun f hr => ?_) (fun v3 γ3 hr => ?_) (fun _ h => h)
    ·refine tq hΓ [54] [9] ?_ (by simp; exact rr)
     refine AWp.cnd hr (by simp) (fun h19 hr => ?_) (fun h19 hr => ?_)
     ·obtain ⟨h20, hr⟩ := Lc hr
      refine tl hΓ [8] [54, 1, 2] ?_ (by simp [h19, h20]; exact rr)
      obtain rfl := La hr
      exact Ll (γ1a + 1) 3 (by first | (simp; done) | simp [h11, h12, h13, h19, h20])
     ·refine AWp.skip ?_
      obtain rfl := La hr
      exact Ll (γ1a) 3 (by first | (simp; done) | simp [h11, h12, h13, h19])
    ·refine tq hΓ [] [8] ?_ (by simp; exact rr)
     refine tq hΓ [7] [3] ?_ (by simp; exact rr)
     obtain rfl := La hr
     exact AWp.ret (Le (by simp))

@[simp] noncomputable def gax.S : Sp
  | [.agg e0, .lit (.int .i64 x1), .lit (.int .i64 x2)], _ => (fun (y0 : Te) => (fun (r : Te × Int) => some { av := .tup [.agg [.lit (.int .i64 (r.1.fb)), .sl ((r.1.fL).map Td.enc) .no, .lit (.int .i64 (r.1.fAt)), .lit (.bool (r.1.fg))], .lit (.int .i64 (r.2))], M := none, obl := WeakL e0 (Te.enc y0) ∧ (gax y0 x1 x2).isSome = true }) ((gax y0 x1 x2).getD dflt)) (Te.dec e0)
  | _, _ => none

theorem gax.ok : SpecOk Tryz.prog 94 gax.S := by
 intro l M out h
 unfold gax.S at h
 split at h
 ·rename_i e0 x1 x2
  try dsimp only at h
  cases h
  refine callOk_of fun ho => ?_
  obtain ⟨ox0, hs⟩ := ho
  generalize (Te.dec e0) = x0 at *
  obtain ⟨r, hr⟩ := so1 hs
  simp only [hr, gd1]
  have q := Lg (M := M) [] (gax.can x0 x1 x2 r hr) (by simp) rfl ixn
  exact callOk_conv q trivial (by simp; exact ox0) (by simp [frameOut]) (by simp [frameOut])
 ·cases h

@[simp] def gap.out (_x0 : Te) (_x1 : Int) (r : Te × Int) : Out := { av := .tup [.agg [.lit (.int .i64 r.1.fb), .sl (r.1.fL.map Td.enc) .no, .lit (.int .i64 r.1.fAt), .lit (.bool r.1.fg)], .lit (.int .i64 r.2)], M := none }
def gap.fin (x0 : Te) (x1 : Int) (r : Te × Int) (σ : St) : Prop := finK (gap.out x0 x1 r) [] σ.M (resA Tryz.ty σ.A σ.M Tryz.f97.results.toList)
theorem gap.can (x0 : Te) (x1 : Int) (r : Te × Int) (hr : gap x0 x1 = some r) : CallOk Tryz.prog 97 [.agg [.lit (.int .i64 x0.fb), .sl (x0.fL.map Td.enc) .no, .lit (.int .i64 x0.fAt), .lit (.bool x0.fg)], .lit (.int .i64 x1)] [] (gap.out x0 x1 r) := by
 unfold gap at hr
 have hΓ := (gamL_cons gT.ok (gamL_nil) : GamOk Tryz.prog _)
 refine cw Tryz.func97 rfl (by kernel_rfl) rfl rfl (by simp) fun _ _ _ => ?_
 refine tq hΓ [2, 4] [0] ?_
 obtain ⟨r1, h8, hr⟩ := Lb hr
 refine tq hΓ [6] [] ?_ (by simp [h8]; exact rr)
 refine AWp.seq ?_
 refine tq hΓ [11] [] ?_ (by simp; exact rr)
 refine AWp.cnd hr (by simp) (fun h9 hr => ?_) (fun h9 hr => ?_)
 ·refine tq hΓ [5] [11, 6, 2, 1] ?_ (by simp [h9]; exact rr)
  obtain rfl := La hr
  exact AWp.ret (Le (by simp))
 ·refine AWp.skip ?_
  obtain ⟨h10, hr⟩ := Lc hr
  obtain ⟨h11, hr⟩ := Lc hr
  obtain ⟨h12, hr⟩ := Lc hr
  obtain ⟨h13, hr⟩ := Lc hr
  refine td hΓ [] [11, 6] [(6, 0), (7, 0), (8, 0), (9, 0), (10, 0)] [(false, []), (false, []), (false, []), (false, []), (false, []), (true, []), (false, []), (false, []), (false, []), (false, []), (false, []), (true, []), (false, []), (true, [])] (by simp [h9, h10, h11, h12, h13]; exact rr) ?_
  refine AWp.meetF (fun (v1 : Bool) (γ1 : Unit) => ⟨[⟨2, none, .ptr 0 0⟩, ⟨4, none, .ptr 1 0⟩], [.blk [.n x0.fb, .sl ((appL (appL [] (cutL x0.fL 0 r1)) (cutL x0.fL (addI .i64 r1 1) (lenL x0.fL))).map Td.enc) (.own 2 2 3), .n x0.fAt, .b v1], .blk [.n 0, .sl [] .full, .n 0, .b false], .room 2]⟩) (gap.fin x0 x1) hr (fun f hr => ?_) (fun v1 γ1 hr => ?_) (fun _ h => h)
  ·refine tq hΓ [29] [1] ?_ (by simp; exact rr)
   refine AWp.cnd hr (by simp) (fun h14 hr => ?_) (fun h14 hr => ?_)
   ·refine tl hΓ [] [29] ?_ (by simp [h14]; exact rr)
    obtain rfl := La hr
    exact Ll () 3 (by first | (simp; done) | simp [h8, h9, h10, h11, h12, h13, h14])
   ·refine AWp.skip ?_
    obtain rfl := La hr
    exact Ll () 3 (by first | (simp; done) | simp [h8, h9, h10, h11, h12, h13, h14])
  ·refine tq hΓ [5] [2] ?_ (by simp; exact rr)
   obtain rfl := La hr
   exact AWp.ret (Le (by simp))

@[simp] noncomputable def gap.S : Sp
  | [.agg e0, .lit (.int .i64 x1)], _ => (fun (y0 : Te) => (fun (r : Te × Int) => some { av := .tup [.agg [.lit (.int .i64 (r.1.fb)), .sl ((r.1.fL).map Td.enc) .no, .lit (.int .i64 (r.1.fAt)), .lit (.bool (r.1.fg))], .lit (.int .i64 (r.2))], M := none, obl := WeakL e0 (Te.enc y0) ∧ (gap y0 x1).isSome = true }) ((gap y0 x1).getD dflt)) (Te.dec e0)
  | _, _ => none

theorem gap.ok : SpecOk Tryz.prog 97 gap.S := by
 intro l M out h
 unfold gap.S at h
 split at h
 ·rename_i e0 x1
  try dsimp only at h
  cases h
  refine callOk_of fun ho => ?_
  obtain ⟨ox0, hs⟩ := ho
  generalize (Te.dec e0) = x0 at *
  obtain ⟨r, hr⟩ := so1 hs
  simp only [hr, gd1]
  have q := Lg (M := M) [] (gap.can x0 x1 r hr) (by simp) rfl ixn
  exact callOk_conv q trivial (by simp; exact ox0) (by simp [frameOut]) (by simp [frameOut])
 ·cases h

@[simp] def gI.out (_x0 : Te) (_x1 : List Tg) (_x2 : Int) (r : Int) : Out := { av := .lit (.int .i64 r), M := none }
def gI.fin (x0 : Te) (x1 : List Tg) (x2 : Int) (r : Int) (σ : St) : Prop := finK (gI.out x0 x1 x2 r) [] σ.M (resA Tryz.ty σ.A σ.M Tryz.f104.results.toList)
theorem gI.can (x0 : Te) (x1 : List Tg) (x2 : Int) (r : Int) (hr : gI x0 x1 x2 = some r) : CallOk Tryz.prog 104 [.agg [.lit (.int .i64 x0.fb), .sl (x0.fL.map Td.enc) .no, .lit (.int .i64 x0.fAt), .lit (.bool x0.fg)], .sl (x1.map Tg.enc) .no, .lit (.int .i64 x2)] [] (gI.out x0 x1 x2 r) := by
 unfold gI at hr
 have hΓ := gamL_nil (P := Tryz.prog)
 refine cw Tryz.func104 rfl (by kernel_rfl) rfl rfl (by simp) fun _ _ _ => ?_
 refine tq hΓ [3] [0] ?_
 refine tq hΓ [7] [] ?_
 refine AWp.seq ?_
 refine tq hΓ [10, 11, 12] [1] ?_
 refine AWp.loopE (fun (s1 : Int × Int) (γ1 : Unit) => ⟨[⟨10, none, .sl (x1.map Tg.enc) .no⟩, ⟨11, none, .n (lenL x1)⟩, ⟨12, none, .n s1.1⟩, ⟨7, none, .n s1.2⟩, ⟨3, none, .ptr 0 0⟩, ⟨2, none, .n x2⟩], [.blk x0.enc]⟩) (fun (v1 : Int) (γ1a : Unit) => ⟨[⟨7, none, .n v1⟩], [.blk x0.enc]⟩) (gI.fin x0 x1 x2) hr () 1 (by simp) (fun s1 f γ1 hr => ?_) (fun v1 γ1a σ1 m1 hr hc => ?_) (fun _ h => h)
 ·unfold gI.loop1 at hr
  refine tq hΓ [13] [] ?_
  refine AWp.seq ?_
  refine AWp.cnd hr (by simp) (fun h4 hr => ?_) (fun h4 hr => ?_)
  ·refine AWp.skip ?_
   refine AWp.seq ?_
   refine AWp.block ?_
   obtain ⟨h5, hr⟩ := Lc hr
   refine tq hΓ [9] [13] ?_ (by simp [h4, h5]; exact rr)
   refine tq hΓ [31] [] ?_ (by simp; exact rr)
   refine AWp.cnd hr (by simp) (fun h6 hr => ?_) (fun h6 hr => ?_)
   ·refine tl hΓ [7] [31, 9] ?_ (by simp [h6]; exact rr)
    refine tl hΓ [12] [] ?_ (by simp; exact rr)
    obtain rfl := La hr
    exact Lk () 1 (by first | (simp; done) | simp [h4, h5, h6])
   ·refine AWp.skip ?_
    refine tl hΓ [12] [31, 9] ?_ (by simp [h6]; exact rr)
    obtain rfl := La hr
    exact Lk () 1 (by first | (simp; done) | simp [h4, h5, h6])
  ·refine AWp.exit ?_
   obtain rfl := La hr
   exact Ln () 1 (by first | (simp; done) | simp [h4])
 ·refine AWp.conv hc ?_
  refine tq hΓ [6] [7] ?_
  obtain rfl := La hr
  exact AWp.ret (Le (by simp))

@[simp] noncomputable def gI.S : Sp
  | [.agg e0, .sl e1 _, .lit (.int .i64 x2)], _ => some { av := .lit (.int .i64 ((gI (Te.dec e0) (e1.map Tg.dec) x2).getD dflt)), M := none, obl := WeakL e0 (Te.enc (Te.dec e0)) ∧ e1 = (e1.map Tg.dec).map Tg.enc ∧ (gI (Te.dec e0) (e1.map Tg.dec) x2).isSome = true }
  | _, _ => none

theorem gI.ok : SpecOk Tryz.prog 104 gI.S := by
 intro l M out h
 unfold gI.S at h
 split at h
 ·rename_i e0 e1 k1 x2
  cases h
  refine callOk_of fun ho => ?_
  obtain ⟨ox0, ox1, hs⟩ := ho
  generalize (Te.dec e0) = x0 at *
  generalize (e1.map Tg.dec) = x1 at *
  subst ox1
  obtain ⟨r, hr⟩ := so1 hs
  simp only [hr, gd1]
  have q := Lg (M := M) [] (gI.can x0 x1 x2 r hr) (by simp) rfl ixn
  exact callOk_conv q trivial (by simp; exact ox0) (by simp [frameOut]) (by simp [frameOut])
 ·cases h

@[simp] def gt.out (_x0 : Te) (_x1 : List Tg) (_x2 : Int) (r : Int) : Out := { av := .lit (.int .i64 r), M := none }
def gt.fin (x0 : Te) (x1 : List Tg) (x2 : Int) (r : Int) (σ : St) : Prop := finK (gt.out x0 x1 x2 r) [] σ.M (resA Tryz.ty σ.A σ.M Tryz.f105.results.toList)
theorem gt.can (x0 : Te) (x1 : List Tg) (x2 : Int) (r : Int) (hr : gt x0 x1 x2 = some r) : CallOk Tryz.prog 105 [.agg [.lit (.int .i64 x0.fb), .sl (x0.fL.map Td.enc) .no, .lit (.int .i64 x0.fAt), .lit (.bool x0.fg)], .sl (x1.map Tg.enc) .no, .lit (.int .i64 x2)] [] (gt.out x0 x1 x2 r) := by
 unfold gt at hr
 have hΓ := (gamL_cons gI.ok (gamL_nil) : GamOk Tryz.prog _)
 refine cw Tryz.func105 rfl (by kernel_rfl) rfl rfl (by simp) fun _ _ _ => ?_
 refine tq hΓ [3] [0] ?_
 refine AWp.seq ?_
 refine tq hΓ [12, 13, 14] [] ?_
 refine AWp.loopE (fun (s1 : Int) (γ1 : Unit) => ⟨[⟨12, none, .sl (x0.fL.map Td.enc) .no⟩, ⟨13, none, .n (lenL x0.fL)⟩, ⟨14, none, .n s1⟩, ⟨3, none, .ptr 0 0⟩, ⟨1, none, .sl (x1.map Tg.enc) .no⟩, ⟨2, none, .n x2⟩], [.blk x0.enc]⟩) (fun (v1 : Unit) (γ1a : Unit) => ⟨[⟨3, none, .ptr 0 0⟩, ⟨1, none, .sl (x1.map Tg.enc) .no⟩], [.blk x0.enc]⟩) (gt.fin x0 x1 x2) hr () 1 (by simp) (fun s1 f γ1 hr => ?_) (fun v1 γ1a σ1 m1 hr hc => ?_) (fun _ h => h)
 ·unfold gt.loop1 at hr
  refine tq hΓ [15] [] ?_
  refine AWp.seq ?_
  refine AWp.cnd hr (by simp) (fun h9 hr => ?_) (fun h9 hr => ?_)
  ·refine AWp.skip ?_
   refine AWp.seq ?_
   refine AWp.block ?_
   obtain ⟨h10, hr⟩ := Lc hr
   refine tq hΓ [8, 7] [15] ?_ (by simp [h9, h10]; exact rr)
   obtain ⟨h11, hr⟩ := Lc hr
   refine tq hΓ [30] [8] ?_ (by simp [h11]; exact rr)
   refine AWp.cnd hr (by simp) (fun h12 hr => ?_) (fun h12 hr => ?_)
   ·refine tq hΓ [6] [30, 7, 12, 13, 14, 3, 1, 2] ?_ (by simp [h12]; exact rr)
    refine AWp.ret ?_
    obtain rfl := La hr
    refine round_ret ?_
    refine Le ?_
    simp
   ·refine AWp.skip ?_
    refine tl hΓ [14] [30, 7] ?_ (by simp [h12]; exact rr)
    obtain rfl := La hr
    exact Lk () 1 (by first | (simp; done) | simp [h9, h10, h11, h12])
  ·refine AWp.exit ?_
   obtain rfl := La hr
   exact Ln () 1 (by first | (simp; done) | simp [h9])
 ·refine AWp.conv hc ?_
  refine AWp.seq ?_
  refine tq hΓ [34, 35, 36] [] ?_
  refine AWp.loopE (fun (s2 : Int) (γ2 : Unit) => ⟨[⟨34, none, .sl (x0.fL.map Td.enc) .no⟩, ⟨35, none, .n (lenL x0.fL)⟩, ⟨36, none, .n s2⟩, ⟨3, none, .ptr 0 0⟩, ⟨1, none, .sl (x1.map Tg.enc) .no⟩], [.blk x0.enc]⟩) (fun (v2 : Unit) (γ2a : Unit) => ⟨[], [.blk x0.enc]⟩) (gt.fin x0 x1 x2) hr () 1 (by simp) (fun s2 f γ2 hr => ?_) (fun v2 γ2a σ1 m1 hr hc => ?_) (fun _ h => h)
  ·unfold gt.loop2 at hr
   refine tq hΓ [37] [] ?_
   refine AWp.seq ?_
   refine AWp.cnd hr (by simp) (fun h13 hr => ?_) (fun h13 hr => ?_)
   ·refine AWp.skip ?_
    refine AWp.seq ?_
    refine AWp.block ?_
    obtain ⟨h14, hr⟩ := Lc hr
    refine tq hΓ [10, 9] [37] ?_ (by simp [h13, h14]; exact rr)
    obtain ⟨r1, h15, hr⟩ := Lb hr
    refine tq hΓ [46] [10] ?_ (by simp [h15]; exact rr)
    refine AWp.cnd hr (by simp) (fun h16 hr => ?_) (fun h16 hr => ?_)
    ·refine tq hΓ [6] [46, 9, 34, 35, 36, 3, 1] ?_ (by simp [h16]; exact rr)
     refine AWp.ret ?_
     obtain rfl := La hr
     refine round_ret ?_
     refine Le ?_
     simp
    ·refine AWp.skip ?_
     refine tl hΓ [36] [46, 9] ?_ (by simp [h16]; exact rr)
     obtain rfl := La hr
     exact Lk () 1 (by first | (simp; done) | simp [h13, h14, h15, h16])
   ·refine AWp.exit ?_
    obtain rfl := La hr
    exact Ln () 1 (by first | (simp; done) | simp [h13])
  ·refine AWp.conv hc ?_
   refine tq hΓ [6] [] ?_
   obtain rfl := La hr
   exact AWp.ret (Le (by simp))

@[simp] noncomputable def gt.S : Sp
  | [.agg e0, .sl e1 _, .lit (.int .i64 x2)], _ => some { av := .lit (.int .i64 ((gt (Te.dec e0) (e1.map Tg.dec) x2).getD dflt)), M := none, obl := WeakL e0 (Te.enc (Te.dec e0)) ∧ e1 = (e1.map Tg.dec).map Tg.enc ∧ (gt (Te.dec e0) (e1.map Tg.dec) x2).isSome = true }
  | _, _ => none

theorem gt.ok : SpecOk Tryz.prog 105 gt.S := by
 intro l M out h
 unfold gt.S at h
 split at h
 ·rename_i e0 e1 k1 x2
  cases h
  refine callOk_of fun ho => ?_
  obtain ⟨ox0, ox1, hs⟩ := ho
  generalize (Te.dec e0) = x0 at *
  generalize (e1.map Tg.dec) = x1 at *
  subst ox1
  obtain ⟨r, hr⟩ := so1 hs
  simp only [hr, gd1]
  have q := Lg (M := M) [] (gt.can x0 x1 x2 r hr) (by simp) rfl ixn
  exact callOk_conv q trivial (by simp; exact ox0) (by simp [frameOut]) (by simp [frameOut])
 ·cases h

@[simp] def gg.out (_x0 : Te) (_x1 : List Tg) (r : Te × Int × Bool) : Out := { av := .tup [.agg [.lit (.int .i64 r.1.fb), .sl (r.1.fL.map Td.enc) .no, .lit (.int .i64 r.1.fAt), .lit (.bool r.1.fg)], .lit (.int .i64 r.2.1), .lit (.bool r.2.2)], M := none }
def gg.fin (x0 : Te) (x1 : List Tg) (r : Te × Int × Bool) (σ : St) : Prop := finK (gg.out x0 x1 r) [] σ.M (resA Tryz.ty σ.A σ.M Tryz.f87.results.toList)
theorem gg.can (x0 : Te) (x1 : List Tg) (r : Te × Int × Bool) (hr : gg x0 x1 = some r) : CallOk Tryz.prog 87 [.agg [.lit (.int .i64 x0.fb), .sl (x0.fL.map Td.enc) .no, .lit (.int .i64 x0.fAt), .lit (.bool x0.fg)], .sl (x1.map Tg.enc) .no] [] (gg.out x0 x1 r) := by
 unfold gg at hr
 have hΓ := (gamL_cons gT.ok (gamL_cons gt.ok (gamL_cons gI.ok (gamL_nil))) : GamOk Tryz.prog _)
 refine cw Tryz.func87 rfl (by kernel_rfl) rfl rfl (by simp) fun _ _ _ => ?_
 refine tq hΓ [2, 4] [0] ?_
 refine AWp.see (See.markA (by simp; rfl)) ?_
 obtain ⟨h39, hr⟩ := Lc hr
 refine tq hΓ [7] [] ?_ (by simp [h39]; exact rr)
 refine AWp.seq ?_
 refine tq hΓ [16, 17, 18] [] ?_ (by simp; exact rr)
 refine AWp.loopE (fun (s1 : Int × List Td) (γ1 : Unit) => ⟨[⟨16, none, .asl 3 (lenL x0.fL) 3⟩, ⟨17, none, .n (lenL x0.fL)⟩, ⟨18, none, .n s1.1⟩, ⟨7, none, .asl 3 (lenL x0.fL) 3⟩, ⟨2, none, .ptr 0 0⟩, ⟨4, none, .ptr 1 0⟩, ⟨1, none, .sl (x1.map Tg.enc) .no⟩], [.blk x0.enc, .blk [.n 0, .sl [] .full, .n 0, .b false], .arr 0 [], .arr 3 (s1.2.map Td.enc)]⟩) (fun (v1 : List Td) (γ1a : Unit) => ⟨[⟨7, none, .asl 3 (lenL x0.fL) 3⟩, ⟨2, none, .ptr 0 0⟩, ⟨4, none, .ptr 1 0⟩, ⟨1, none, .sl (x1.map Tg.enc) .no⟩], [.blk x0.enc, .blk [.n 0, .sl [] .full, .n 0, .b false], .arr 0 [], .arr 3 (v1.map Td.enc)]⟩) (gg.fin x0 x1) hr () 4 (by simp) (fun s1 f γ1 hr => ?_) (fun v1 γ1a σ1 m1 hr hc => ?_) (fun _ h => h)
 ·unfold gg.loop1 at hr
  refine tq hΓ [19] [] ?_ (by simp; exact rr)
  refine AWp.seq ?_
  refine AWp.cnd hr (by simp) (fun h40 hr => ?_) (fun h40 hr => ?_)
  ·refine AWp.skip ?_
   refine AWp.seq ?_
   refine AWp.block ?_
   obtain ⟨h41, hr⟩ := Lc hr
   obtain ⟨h42, hr⟩ := Lc hr
   refine tq hΓ [9, 8] [19] ?_ (by simp [h40, h41, h42]; exact rr)
   obtain ⟨r1, h43, hr⟩ := Lb hr
   refine tq hΓ [28] [9] ?_ (by simp [h43]; exact rr)
   refine AWp.cnd hr (by simp) (fun h44 hr => ?_) (fun h44 hr => ?_)
   ·obtain ⟨h45, hr⟩ := Lc hr
    obtain ⟨h46, hr⟩ := Lc hr
    refine tl hΓ [] [28, 8] ?_ (by simp [h41, h42, h44]; exact rr)
    refine tl hΓ [18] [] ?_ (by simp; exact rr)
    obtain rfl := La hr
    exact Lk () 4 (by first | (simp; done) | simp [h39, h40, h41, h42, h43, h44, h45, h46])
   ·refine AWp.skip ?_
    refine tl hΓ [18] [28, 8] ?_ (by simp [h44]; exact rr)
    obtain rfl := La hr
    exact Lk () 4 (by first | (simp; done) | simp [h39, h40, h41, h42, h43, h44])
  ·refine AWp.exit ?_
   obtain rfl := La hr
   exact Ln () 4 (by first | (simp; done) | simp [h39, h40])
 ·refine AWp.conv hc ?_
  refine tq hΓ [] [] ?_ (by simp; exact rr)
  refine AWp.seq ?_
  obtain ⟨h47, hr⟩ := Lc hr
  obtain ⟨r2, h48, hr⟩ := Lb hr
  refine tq hΓ [39] [] ?_ (by simp [h47, h48]; exact rr)
  refine AWp.cnd hr (by simp) (fun h49 hr => ?_) (fun h49 hr => ?_)
  ·refine tq hΓ [] [39, 7, 1] ?_ (by simp [h49]; exact rr)
   refine tq hΓ [5, 6] [2] ?_ (by simp; exact rr)
   obtain ⟨h50, hr⟩ := Lc hr
   refine AWp.see (See.freeze 3 (σ' := ⟨[⟨5, none, .n 0⟩, ⟨6, none, .b false⟩, ⟨4, none, .ptr 1 0⟩], [.blk [.n x0.fb, .sl (v1.map Td.enc) .no, .n x0.fAt, .b false], .blk [.n x0.fb, .sl (v1.map Td.enc) .no, .n x0.fAt, .b false], .arr 0 [], .dead]⟩) (by rfl) (by simp) (by simp [h47]) (by simp)) ?_
   obtain rfl := La hr
   exact AWp.ret (Le (by simp))
  ·refine AWp.skip ?_
   obtain ⟨h51, hr⟩ := Lc hr
   obtain ⟨r3, h52, hr⟩ := Lb hr
   refine tq hΓ [10] [39] ?_ (by simp [h47, h49, h52]; exact rr)
   refine AWp.meetF (fun (v2 : Int × Bool) (γ2 : Unit) => ⟨[⟨10, none, .n v2.1⟩, ⟨7, none, .asl 3 (lenL x0.fL) 3⟩, ⟨2, none, .ptr 0 0⟩, ⟨4, none, .ptr 1 0⟩, ⟨1, none, .sl (x1.map Tg.enc) .no⟩], [.blk [.n x0.fb, .asl 3 (lenL x0.fL) 3, .n x0.fAt, .b v2.2], .blk [.n 0, .sl [] .full, .n 0, .b false], .arr 0 [], .arr 3 (v1.map Td.enc)]⟩) (gg.fin x0 x1) hr (fun f hr => ?_) (fun v2 γ2 hr => ?_) (fun _ h => h)
   ·obtain ⟨h53, hr⟩ := Lc hr
    obtain ⟨h54, hr⟩ := Lc hr
    refine tq hΓ [55] [] ?_ (by simp [h47, h54]; exact rr)
    refine AWp.cnd hr (by simp) (fun h55 hr => ?_) (fun h55 hr => ?_)
    ·obtain ⟨h56, hr⟩ := Lc hr
     obtain ⟨r4, h57, hr⟩ := Lb hr
     refine tq hΓ [10] [55] ?_ (by simp [h47, h55, h57]; exact rr)
     refine tl hΓ [] [] ?_ (by simp; exact rr)
     obtain rfl := La hr
     exact Ll () 4 (by first | (simp; done) | simp [h39, h47, h48, h49, h51, h52, h53, h54, h55, h56, h57])
    ·refine AWp.skip ?_
     obtain rfl := La hr
     exact Ll () 4 (by first | (simp; done) | simp [h39, h47, h48, h49, h51, h52, h53, h54, h55])
   ·refine AWp.seq ?_
    refine tq hΓ [11] [] ?_ (by simp; exact rr)
    refine AWp.loopE (fun (s3 : Int × Int × Int × Bool × List Td) (γ3 : Unit) => ⟨[⟨11, none, .n s3.1⟩, ⟨10, none, .n s3.2.1⟩, ⟨7, none, .asl 3 (lenL x0.fL) 3⟩, ⟨2, none, .ptr 0 0⟩, ⟨4, none, .ptr 1 0⟩, ⟨1, none, .sl (x1.map Tg.enc) .no⟩], [.blk [.n x0.fb, .asl 3 (lenL x0.fL) 3, .n s3.2.2.1, .b s3.2.2.2.1], .blk [.n 0, .sl [] .full, .n 0, .b false], .arr 0 [], .arr 3 (s3.2.2.2.2.map Td.enc)]⟩) (fun (v3 : Int × Bool × List Td) (γ3a : Unit) => ⟨[⟨2, none, .ptr 0 0⟩, ⟨4, none, .ptr 1 0⟩], [.blk [.n x0.fb, .asl 3 (lenL x0.fL) 3, .n v3.1, .b v3.2.1], .blk [.n 0, .sl [] .full, .n 0, .b false], .arr 0 [], .arr 3 (v3.2.2.map Td.enc)]⟩) (gg.fin x0 x1) hr () 4 (by simp) (fun s3 f γ3 hr => ?_) (fun v3 γ3a σ1 m1 hr hc => ?_) (fun _ h => h)
    ·unfold gg.loop3 at hr
     refine AWp.seq ?_
     refine tq hΓ [63] [] ?_ (by simp; exact rr)
     refine AWp.cnd hr (by simp) (fun h58 hr => ?_) (fun h58 hr => ?_)
     ·refine AWp.skip ?_
      refine AWp.meetF (fun (v4 : Int × List Td) (γ4 : Unit) => ⟨[⟨11, none, .n s3.1⟩, ⟨10, none, .n v4.1⟩, ⟨7, none, .asl 3 (lenL x0.fL) 3⟩, ⟨2, none, .ptr 0 0⟩, ⟨4, none, .ptr 1 0⟩, ⟨1, none, .sl (x1.map Tg.enc) .no⟩], [.blk [.n x0.fb, .asl 3 (lenL x0.fL) 3, .n ((nthI s3.2.2.2.2 s3.2.1).fId), .b false], .blk [.n 0, .sl [] .full, .n 0, .b false], .arr 0 [], .arr 3 (v4.2.map Td.enc)]⟩) (QRr (gg.fin x0 x1)) hr (fun f hr => ?_) (fun v4 γ4 hr => ?_) (fun _ h => QRr_ret h)
      ·refine AWp.block ?_
       obtain ⟨h59, hr⟩ := Lc hr
       obtain ⟨h60, hr⟩ := Lc hr
       refine tq hΓ [] [63] ?_ (by simp [h58, h59, h60]; exact rr)
       refine AWp.meetF (fun (v5 : Bool × List Td) (γ5 : Unit) => ⟨[⟨11, none, .n s3.1⟩, ⟨10, none, .n s3.2.1⟩, ⟨7, none, .asl 3 (lenL x0.fL) 3⟩, ⟨2, none, .ptr 0 0⟩, ⟨4, none, .ptr 1 0⟩, ⟨1, none, .sl (x1.map Tg.enc) .no⟩], [.blk [.n x0.fb, .asl 3 (lenL x0.fL) 3, .n ((nthI s3.2.2.2.2 s3.2.1).fId), .b v5.1], .blk [.n 0, .sl [] .full, .n 0, .b false], .arr 0 [], .arr 3 (v5.2.map Td.enc)]⟩) (QRm (QRr (gg.fin x0 x1))) hr (fun f hr => ?_) (fun v5 γ5 hr => ?_) (fun _ h => QRm_ret h)
       ·refine tq hΓ [75] [] ?_ (by simp; exact rr)
        refine AWp.cnd hr (by simp) (fun h61 hr => ?_) (fun h61 hr => ?_)
        ·obtain ⟨h62, hr⟩ := Lc hr
         obtain ⟨h63, hr⟩ := Lc hr
         obtain ⟨h64, hr⟩ := Lc hr
         obtain ⟨h65, hr⟩ := Lc hr
         obtain ⟨h66, hr⟩ := Lc hr
         obtain ⟨h67, hr⟩ := Lc hr
         refine td hΓ [] [75] [] [(false, []), (false, []), (false, []), (false, []), (false, []), (false, []), (false, []), (false, []), (false, []), (false, []), (false, []), (false, []), (false, []), (true, [])] (by simp [h59, h60, h61]; exact rr) ?_
         refine tl hΓ [] [] ?_ (by simp; exact rr)
         obtain rfl := La hr
         exact Ll () 4 (by first | (simp; done) | simp [h39, h47, h48, h49, h51, h52, h58, h59, h60, h61, h62, h63, h64, h65, h66, h67])
        ·refine AWp.skip ?_
         obtain rfl := La hr
         exact Ll () 4 (by first | (simp; done) | simp [h39, h47, h48, h49, h51, h52, h58, h59, h60, h61])
       ·refine AWp.seq ?_
        obtain ⟨h68, hr⟩ := Lc hr
        obtain ⟨h69, hr⟩ := Lc hr
        obtain ⟨h70, hr⟩ := Lc hr
        obtain ⟨r5, h71, hr⟩ := Lb hr
        refine td hΓ [100] [10] [] [(false, []), (false, []), (false, []), (false, []), (false, []), (false, []), (false, []), (false, []), (false, []), (false, []), (false, [])] (by simp [h59, h70, h71]; exact rr) ?_
        refine AWp.cnd hr (by simp) (fun h72 hr => ?_) (fun h72 hr => ?_)
        ·refine td hΓ [5, 6] [100, 11, 7, 2, 1] [(1, 4), (2, 4)] [(false, []), (false, []), (false, []), (true, []), (false, []), (false, [])] (by simp [h72]; exact rr) ?_
         obtain ⟨h73, hr⟩ := Lc hr
         refine AWp.see (See.freeze 3 (σ' := ⟨[⟨5, none, .n ((nthI s3.2.2.2.2 s3.2.1).fId)⟩, ⟨6, none, .b true⟩, ⟨4, none, .ptr 1 0⟩], [.blk [.n x0.fb, .sl (v5.2.map Td.enc) .no, .n ((nthI s3.2.2.2.2 s3.2.1).fId), .b v5.1], .blk [.n x0.fb, .sl (v5.2.map Td.enc) .no, .n ((nthI s3.2.2.2.2 s3.2.1).fId), .b v5.1], .arr 0 [], .dead]⟩) (by rfl) (by simp) (by simp [h70]) (by simp)) ?_
         refine AWp.ret ?_
         obtain rfl := La hr
         refine meet_ret ?_
         refine ⟨_, rfl, ?_⟩
         refine Le ?_
         simp
        ·refine AWp.skip ?_
         obtain ⟨h74, hr⟩ := Lc hr
         obtain ⟨r6, h75, hr⟩ := Lb hr
         refine tq hΓ [10] [100] ?_ (by simp [h70, h72, h75]; exact rr)
         refine tl hΓ [] [] ?_ (by simp; exact rr)
         obtain rfl := La hr
         exact Ll () 4 (by first | (simp; done) | simp [h39, h47, h48, h49, h51, h52, h58, h59, h60, h68, h69, h70, h71, h72, h74, h75])
      ·refine tl hΓ [11] [] ?_ (by simp; exact rr)
       obtain rfl := La hr
       exact Lk () 4 (by first | (simp; done) | simp [h39, h47, h48, h49, h51, h52, h58])
     ·refine AWp.exit ?_
      obtain rfl := La hr
      exact Ln () 4 (by first | (simp; done) | simp [h39, h47, h48, h49, h51, h52, h58])
    ·refine AWp.conv hc ?_
     refine tq hΓ [5, 6] [2] ?_ (by simp; exact rr)
     obtain ⟨h76, hr⟩ := Lc hr
     refine AWp.see (See.freeze 3 (σ' := ⟨[⟨5, none, .n 0⟩, ⟨6, none, .b false⟩, ⟨4, none, .ptr 1 0⟩], [.blk [.n x0.fb, .sl (v3.2.2.map Td.enc) .no, .n v3.1, .b v3.2.1], .blk [.n x0.fb, .sl (v3.2.2.map Td.enc) .no, .n v3.1, .b v3.2.1], .arr 0 [], .dead]⟩) (by rfl) (by simp) (by simp [h76]) (by simp)) ?_
     obtain rfl := La hr
     exact AWp.ret (Le (by simp))

@[simp] noncomputable def gg.S : Sp
  | [.agg e0, .sl e1 _], _ => (fun (y0 : Te) => (fun (r : Te × Int × Bool) => some { av := .tup [.agg [.lit (.int .i64 (r.1.fb)), .sl ((r.1.fL).map Td.enc) .no, .lit (.int .i64 (r.1.fAt)), .lit (.bool (r.1.fg))], .lit (.int .i64 (r.2.1)), .lit (.bool (r.2.2))], M := none, obl := WeakL e0 (Te.enc y0) ∧ e1 = (e1.map Tg.dec).map Tg.enc ∧ (gg y0 (e1.map Tg.dec)).isSome = true }) ((gg y0 (e1.map Tg.dec)).getD dflt)) (Te.dec e0)
  | _, _ => none

theorem gg.ok : SpecOk Tryz.prog 87 gg.S := by
 intro l M out h
 unfold gg.S at h
 split at h
 ·rename_i e0 e1 k1
  try dsimp only at h
  cases h
  refine callOk_of fun ho => ?_
  obtain ⟨ox0, ox1, hs⟩ := ho
  generalize (Te.dec e0) = x0 at *
  generalize (e1.map Tg.dec) = x1 at *
  subst ox1
  obtain ⟨r, hr⟩ := so1 hs
  simp only [hr, gd1]
  have q := Lg (M := M) [] (gg.can x0 x1 r hr) (by simp) rfl ixn
  exact callOk_conv q trivial (by simp; exact ox0) (by simp [frameOut]) (by simp [frameOut])
 ·cases h

@[simp] def gaA.out (_x0 : Te) (_x1 : Int) (r : Te) : Out := { av := .agg [.lit (.int .i64 r.fb), .sl (r.fL.map Td.enc) .no, .lit (.int .i64 r.fAt), .lit (.bool r.fg)], M := none }
theorem gaA.can (x0 : Te) (x1 : Int) (r : Te) (hr : gaA x0 x1 = some r) : CallOk Tryz.prog 61 [.agg [.lit (.int .i64 x0.fb), .sl (x0.fL.map Td.enc) .no, .lit (.int .i64 x0.fAt), .lit (.bool x0.fg)], .lit (.int .i64 x1)] [] (gaA.out x0 x1 r) := by
 unfold gaA at hr
 have hΓ := (gamL_cons gT.ok (gamL_nil) : GamOk Tryz.prog _)
 refine cw Tryz.func61 rfl (by kernel_rfl) rfl rfl (by simp) fun _ _ _ => ?_
 refine tq hΓ [2, 4] [0] ?_
 obtain ⟨r1, h7, hr⟩ := Lb hr
 refine tq hΓ [5] [] ?_ (by simp [h7]; exact rr)
 refine AWp.seq ?_
 obtain ⟨h8, hr⟩ := Lc hr
 refine tq hΓ [31] [] ?_ (by simp [h8]; exact rr)
 refine AWp.cnd hr (by simp) (fun h9 hr => ?_) (fun h9 hr => ?_)
 ·refine tq hΓ [] [31, 5, 2, 1] ?_ (by simp [h9]; exact rr)
  obtain rfl := La hr
  exact AWp.ret (Le (by simp))
 ·refine AWp.skip ?_
  refine AWp.see (See.markA (by simp; rfl)) ?_
  obtain ⟨h10, hr⟩ := Lc hr
  refine tq hΓ [6] [31] ?_ (by simp [h9, h10]; exact rr)
  obtain ⟨h11, hr⟩ := Lc hr
  obtain ⟨h12, hr⟩ := Lc hr
  refine tq hΓ [] [5, 1] ?_ (by simp [h11]; exact rr)
  refine tq hΓ [] [6] ?_ (by simp; exact rr)
  refine tq hΓ [] [2] ?_ (by simp; exact rr)
  refine AWp.see (See.freeze 3 (σ' := ⟨[⟨4, none, .ptr 1 0⟩], [.blk [.n x0.fb, .sl ((setI x0.fL r1 (Td.mk ((nthI x0.fL r1).fId) ((nthI x0.fL r1).fm) (subI .i64 ((nthI x0.fL r1).fp) x1))).map Td.enc) .no, .n x0.fAt, .b x0.fg], .blk [.n x0.fb, .sl ((setI x0.fL r1 (Td.mk ((nthI x0.fL r1).fId) ((nthI x0.fL r1).fm) (subI .i64 ((nthI x0.fL r1).fp) x1))).map Td.enc) .no, .n x0.fAt, .b x0.fg], .arr 0 [], .dead]⟩) (by rfl) (by simp) (by simp) (by simp)) ?_
  obtain rfl := La hr
  exact AWp.ret (Le (by simp))

@[simp] noncomputable def gaA.S : Sp
  | [.agg e0, .lit (.int .i64 x1)], _ => some { av := .agg [.lit (.int .i64 (((gaA (Te.dec e0) x1).getD dflt).fb)), .sl ((((gaA (Te.dec e0) x1).getD dflt).fL).map Td.enc) .no, .lit (.int .i64 (((gaA (Te.dec e0) x1).getD dflt).fAt)), .lit (.bool (((gaA (Te.dec e0) x1).getD dflt).fg))], M := none, obl := WeakL e0 (Te.enc (Te.dec e0)) ∧ (gaA (Te.dec e0) x1).isSome = true }
  | _, _ => none

theorem gaA.ok : SpecOk Tryz.prog 61 gaA.S := by
 intro l M out h
 unfold gaA.S at h
 split at h
 ·rename_i e0 x1
  cases h
  refine callOk_of fun ho => ?_
  obtain ⟨ox0, hs⟩ := ho
  generalize (Te.dec e0) = x0 at *
  obtain ⟨r, hr⟩ := so1 hs
  simp only [hr, gd1]
  have q := Lg (M := M) [] (gaA.can x0 x1 r hr) (by simp) rfl ixn
  exact callOk_conv q trivial (by simp; exact ox0) (by simp [frameOut]) (by simp [frameOut])
 ·cases h
end Go.Proofs

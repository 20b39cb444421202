/- That these functions compute what their plain functions do. No condition. -/
import Derived.Test.YtpjplfnapgpfmaaGreatM07
import Derived.Test.YtpjplfnapgpfmaaGreatTy
import Derived.Test.YtpjplfnapgpfmaaGreatSc
import Derived.Test.YtpjplfnapgpfmaaGreatM13
set_option maxRecDepth 100000
set_option maxHeartbeats 4000000
namespace Go.Proofs
open Go.Ab
@[simp] def gH.out (_x0 : Tc) (_x1 : Int) (r : Int) : Out := { av := .lit (.int .i64 r), M := none }
def gH.fin (x0 : Tc) (x1 : Int) (r : Int) (σ : St) : Prop := finK (gH.out x0 x1 r) [] σ.M (resA Tryz.ty σ.A σ.M Tryz.f56.results.toList)
theorem gH.can (x0 : Tc) (x1 : Int) (r : Int) (hr : gH x0 x1 = some r) : CallOk Tryz.prog 56 [.agg [.lit (.int .i64 x0.fe), .lit (.int .i64 x0.fk), .lit (.int .i64 x0.fq), .lit (.int .i64 x0.fb), .lit (.int .i64 x0.fo), .sl (x0.fL.map Th.enc) .no, .lit (.int .i64 x0.fS.fb), .sl (x0.fS.fL.map Td.enc) .no, .lit (.int .i64 x0.fS.fAt), .lit (.bool x0.fS.fg), .lit (.int .i64 x0.fc), .lit (.int .i64 x0.ff)], .lit (.int .i64 x1)] [] (gH.out x0 x1 r) := by
 unfold gH at hr
 have hΓ := gamL_nil (P := Tryz.prog)
 refine cw Tryz.func56 rfl (by kernel_rfl) rfl rfl (by simp) fun _ _ _ => ?_
 refine tq hΓ [2] [0] ?_
 refine AWp.seq ?_
 refine tq hΓ [8, 9, 10] [2] ?_
 refine AWp.loopE (fun (s1 : Int) (γ1 : Unit) => ⟨[⟨8, none, .sl (x0.fL.map Th.enc) .no⟩, ⟨9, none, .n (lenL x0.fL)⟩, ⟨10, none, .n s1⟩, ⟨1, none, .n x1⟩], [.blk x0.enc]⟩) (fun (v1 : Unit) (γ1a : Unit) => ⟨[], [.blk x0.enc]⟩) (gH.fin x0 x1) hr () 1 (by simp) (fun s1 f γ1 hr => ?_) (fun v1 γ1a σ1 m1 hr hc => ?_) (fun _ h => h)
 ·unfold gH.loop1 at hr
  refine tq hΓ [11] [] ?_
  refine AWp.seq ?_
  refine AWp.cnd hr (by simp) (fun h4 hr => ?_) (fun h4 hr => ?_)
  ·refine AWp.skip ?_
   refine AWp.seq ?_
   refine AWp.block ?_
   obtain ⟨h5, hr⟩ := Lc hr
   refine tq hΓ [6, 5] [11] ?_ (by simp [h4, h5]; exact rr)
   refine tq hΓ [18] [6] ?_ (by simp; exact rr)
   refine AWp.cnd hr (by simp) (fun h6 hr => ?_) (fun h6 hr => ?_)
   ·refine tq hΓ [4] [18, 5, 8, 9, 10, 1] ?_ (by simp [h6]; exact rr)
    refine AWp.ret ?_
    obtain rfl := La hr
    refine round_ret ?_
    refine Le ?_
    simp
   ·refine AWp.skip ?_
    refine tl hΓ [10] [18, 5] ?_ (by simp [h6]; exact rr)
    obtain rfl := La hr
    exact Lk () 1 (by first | (simp; done) | simp [h4, h5, h6])
  ·refine AWp.exit ?_
   obtain rfl := La hr
   exact Ln () 1 (by first | (simp; done) | simp [h4])
 ·refine AWp.conv hc ?_
  refine tq hΓ [4] [] ?_
  obtain rfl := La hr
  exact AWp.ret (Le (by simp))

@[simp] noncomputable def gH.S : Sp
  | [.agg e0, .lit (.int .i64 x1)], _ => some { av := .lit (.int .i64 ((gH (Tc.dec e0) x1).getD dflt)), M := none, obl := WeakL e0 (Tc.enc (Tc.dec e0)) ∧ (gH (Tc.dec e0) x1).isSome = true }
  | _, _ => none

theorem gH.ok : SpecOk Tryz.prog 56 gH.S := by
 intro l M out h
 unfold gH.S at h
 split at h
 ·rename_i e0 x1
  cases h
  refine callOk_of fun ho => ?_
  obtain ⟨ox0, hs⟩ := ho
  generalize (Tc.dec e0) = x0 at *
  obtain ⟨r, hr⟩ := so1 hs
  simp only [hr, gd1]
  have q := Lg (M := M) [] (gH.can x0 x1 r hr) (by simp) rfl ixn
  exact callOk_conv q trivial (by simp; exact ox0) (by simp [frameOut]) (by simp [frameOut])
 ·cases h

@[simp] def gas.out (_x0 : Int) (_x1 : List Ta) (r : List Tb) : Out := { av := .sl (r.map Tb.enc) .no, M := none }
def gas.fin (x0 : Int) (x1 : List Ta) (r : List Tb) (σ : St) : Prop := finK (gas.out x0 x1 r) [] σ.M (resA Tryz.ty σ.A σ.M Tryz.f59.results.toList)
theorem gas.can (x0 : Int) (x1 : List Ta) (r : List Tb) (hr : gas x0 x1 = some r) : CallOk Tryz.prog 59 [.lit (.int .i64 x0), .sl (x1.map Ta.enc) .no] [] (gas.out x0 x1 r) := by
 unfold gas at hr
 have hΓ := gamL_nil (P := Tryz.prog)
 refine cw Tryz.func59 rfl (by kernel_rfl) rfl rfl (by simp) fun _ _ _ => ?_
 refine tq hΓ [] [] ?_
 refine tq hΓ [5] [] ?_
 refine AWp.seq ?_
 refine tq hΓ [9, 10, 11] [1] ?_
 refine AWp.equip 5 5 (els := []) (by simp) (by simp) ?_
 refine AWp.loopE (fun (s1 : Int × List Tb) (γ1 : Nat) => ⟨[⟨9, none, .sl (x1.map Ta.enc) .no⟩, ⟨10, none, .n (lenL x1)⟩, ⟨11, none, .n s1.1⟩, ⟨5, none, .sl (s1.2.map Tb.enc) (.own 0 (γ1) 5)⟩, ⟨0, none, .n x0⟩], [.room (γ1)]⟩) (fun (v1 : List Tb) (γ1a : Nat) => ⟨[⟨5, none, .sl (v1.map Tb.enc) (.own 0 (γ1a) 5)⟩], [.room (γ1a)]⟩) (gas.fin x0 x1) hr 0 1 (by simp) (fun s1 f γ1 hr => ?_) (fun v1 γ1a σ1 m1 hr hc => ?_) (fun _ h => h)
 ·unfold gas.loop1 at hr
  refine tq hΓ [12] [] ?_
  refine AWp.seq ?_
  refine AWp.cnd hr (by simp) (fun h4 hr => ?_) (fun h4 hr => ?_)
  ·refine AWp.skip ?_
   refine AWp.seq ?_
   refine AWp.block ?_
   obtain ⟨h5, hr⟩ := Lc hr
   refine tq hΓ [7] [12] ?_ (by simp [h4, h5]; exact rr)
   obtain ⟨h6, hr⟩ := Lc hr
   refine tl hΓ [5] [7] ?_ (by simp [h6]; exact rr)
   refine tl hΓ [11] [] ?_ (by simp; exact rr)
   obtain rfl := La hr
   exact Lk (γ1 + 1) 1 (by first | (simp; done) | simp [h4, h5, h6])
  ·refine AWp.exit ?_
   obtain rfl := La hr
   exact Ln (γ1) 1 (by first | (simp; done) | simp [h4])
 ·refine AWp.conv hc ?_
  refine tq hΓ [4] [5] ?_
  obtain rfl := La hr
  exact AWp.ret (Le (by simp))

@[simp] noncomputable def gas.S : Sp
  | [.lit (.int .i64 x0), .sl e1 _], _ => some { av := .sl (((gas x0 (e1.map Ta.dec)).getD dflt).map Tb.enc) .no, M := none, obl := e1 = (e1.map Ta.dec).map Ta.enc ∧ (gas x0 (e1.map Ta.dec)).isSome = true }
  | _, _ => none

theorem gas.ok : SpecOk Tryz.prog 59 gas.S := by
 intro l M out h
 unfold gas.S at h
 split at h
 ·rename_i x0 e1 k1
  cases h
  refine callOk_of fun ho => ?_
  obtain ⟨ox1, hs⟩ := ho
  generalize (e1.map Ta.dec) = x1 at *
  subst ox1
  obtain ⟨r, hr⟩ := so1 hs
  simp only [hr, gd1]
  have q := Lg (M := M) [] (gas.can x0 x1 r hr) (by simp) rfl ixn
  exact callOk_conv q trivial (by simp) (by simp [frameOut]) (by simp [frameOut])
 ·cases h

@[simp] def gav.out (_x0 : Tc) (_x1 : Int) (_x2 : Bool) (_x3 : Int) (r : Tc × Int) : Out := { av := .tup [.agg [.lit (.int .i64 r.1.fe), .lit (.int .i64 r.1.fk), .lit (.int .i64 r.1.fq), .lit (.int .i64 r.1.fb), .lit (.int .i64 r.1.fo), .sl (r.1.fL.map Th.enc) .no, .lit (.int .i64 r.1.fS.fb), .sl (r.1.fS.fL.map Td.enc) .no, .lit (.int .i64 r.1.fS.fAt), .lit (.bool r.1.fS.fg), .lit (.int .i64 r.1.fc), .lit (.int .i64 r.1.ff)], .lit (.int .i64 r.2)], M := none }
def gav.fin (x0 : Tc) (x1 : Int) (x2 : Bool) (x3 : Int) (r : Tc × Int) (σ : St) : Prop := finK (gav.out x0 x1 x2 x3 r) [] σ.M (resA Tryz.ty σ.A σ.M Tryz.f67.results.toList)
theorem gav.can (x0 : Tc) (x1 : Int) (x2 : Bool) (x3 : Int) (r : Tc × Int) (hr : gav x0 x1 x2 x3 = some r) : CallOk Tryz.prog 67 [.agg [.lit (.int .i64 x0.fe), .lit (.int .i64 x0.fk), .lit (.int .i64 x0.fq), .lit (.int .i64 x0.fb), .lit (.int .i64 x0.fo), .sl (x0.fL.map Th.enc) .no, .lit (.int .i64 x0.fS.fb), .sl (x0.fS.fL.map Td.enc) .no, .lit (.int .i64 x0.fS.fAt), .lit (.bool x0.fS.fg), .lit (.int .i64 x0.fc), .lit (.int .i64 x0.ff)], .lit (.int .i64 x1), .lit (.bool x2), .lit (.int .i64 x3)] [] (gav.out x0 x1 x2 x3 r) := by
 unfold gav at hr
 have hΓ := (gamL_cons gax.ok (gamL_cons gH.ok (gamL_nil)) : GamOk Tryz.prog _)
 refine cw Tryz.func67 rfl (by kernel_rfl) rfl rfl (by simp) fun _ _ _ => ?_
 refine tq hΓ [4, 8] [0] ?_
 refine AWp.seq ?_
 obtain ⟨r1, h13, hr⟩ := Lb hr
 refine tq hΓ [20] [] ?_ (by simp [h13]; exact rr)
 refine AWp.cnd hr (by simp) (fun h14 hr => ?_) (fun h14 hr => ?_)
 ·refine tq hΓ [9] [20, 4, 1, 2, 3] ?_ (by simp [h14]; exact rr)
  obtain rfl := La hr
  exact AWp.ret (Le (by simp))
 ·refine AWp.skip ?_
  refine AWp.meetF (fun (v1 : Tc × Bool) (γ1 : Unit) => ⟨[⟨4, none, .ptr 0 0⟩, ⟨8, none, .ptr 1 0⟩, ⟨1, none, .n x1⟩, ⟨2, none, .b v1.2⟩], [.blk v1.1.enc, .blk [.n 0, .n 0, .n 0, .n 0, .n 0, .sl [] .full, .n 0, .sl [] .full, .n 0, .b false, .n 0, .n 0]]⟩) (gav.fin x0 x1 x2 x3) hr (fun f hr => ?_) (fun v1 γ1 hr => ?_) (fun _ h => h)
  ·refine tq hΓ [22] [20] ?_ (by simp [h14]; exact rr)
   refine AWp.cnd hr (by simp) (fun h15 hr => ?_) (fun h15 hr => ?_)
   ·obtain ⟨r2, h16, hr⟩ := Lb hr
    refine tq hΓ [10, 11] [22, 3] ?_ (by simp [h15, h16]; exact rr)
    refine AWp.seq ?_
    refine tq hΓ [32] [] ?_ (by simp; exact rr)
    refine AWp.cnd hr (by simp) (fun h17 hr => ?_) (fun h17 hr => ?_)
    ·refine tq hΓ [9] [32, 10, 11, 4, 1, 2] ?_ (by simp [h17]; exact rr)
     refine AWp.ret ?_
     obtain rfl := La hr
     refine meet_ret ?_
     refine Le ?_
     simp
    ·refine AWp.skip ?_
     refine tl hΓ [] [32, 10, 11] ?_ (by simp [h17]; exact rr)
     obtain rfl := La hr
     exact Ll () 2 (by first | (simp; done) | simp [h13, h14, h15, h16, h17])
   ·refine AWp.skip ?_
    obtain rfl := La hr
    exact Ll () 2 (by first | (simp; done) | simp [h15])
  ·refine tq hΓ [12] [2] ?_ (by simp; exact rr)
   refine tq hΓ [13] [] ?_ (by simp; exact rr)
   refine tq hΓ [14] [] ?_ (by simp; exact rr)
   refine AWp.seq ?_
   refine tq hΓ [47, 48, 49] [] ?_ (by simp; exact rr)
   refine AWp.equip 13 6 (els := []) (by simp) (by simp) ?_
   refine AWp.loopE (fun (s2 : Int × Bool × List Th) (γ2 : Nat) => ⟨[⟨47, none, .sl (v1.1.fL.map Th.enc) .no⟩, ⟨48, none, .n (lenL v1.1.fL)⟩, ⟨49, none, .n s2.1⟩, ⟨14, none, .b s2.2.1⟩, ⟨13, none, .sl (s2.2.2.map Th.enc) (.own 3 (γ2) 6)⟩, ⟨12, none, .ptr 2 0⟩, ⟨4, none, .ptr 0 0⟩, ⟨8, none, .ptr 1 0⟩, ⟨1, none, .n x1⟩], [.blk v1.1.enc, .blk [.n 0, .n 0, .n 0, .n 0, .n 0, .sl [] .full, .n 0, .sl [] .full, .n 0, .b false, .n 0, .n 0], .blk [.n x1, .b v1.2, .n v1.1.fe, .n v1.1.fk, .sl [] .full, .b true], .room (γ2)]⟩) (fun (v2 : Bool × List Th) (γ2a : Nat) => ⟨[⟨14, none, .b v2.1⟩, ⟨13, none, .sl (v2.2.map Th.enc) (.own 3 (γ2a) 6)⟩, ⟨12, none, .ptr 2 0⟩, ⟨4, none, .ptr 0 0⟩, ⟨8, none, .ptr 1 0⟩], [.blk v1.1.enc, .blk [.n 0, .n 0, .n 0, .n 0, .n 0, .sl [] .full, .n 0, .sl [] .full, .n 0, .b false, .n 0, .n 0], .blk [.n x1, .b v1.2, .n v1.1.fe, .n v1.1.fk, .sl [] .full, .b true], .room (γ2a)]⟩) (gav.fin x0 x1 x2 x3) hr 0 4 (by simp) (fun s2 f γ2 hr => ?_) (fun v2 γ2a σ1 m1 hr hc => ?_) (fun _ h => h)
   ·unfold gav.loop2 at hr
    refine tq hΓ [50] [] ?_ (by simp; exact rr)
    refine AWp.seq ?_
    refine AWp.cnd hr (by simp) (fun h18 hr => ?_) (fun h18 hr => ?_)
    ·refine AWp.skip ?_
     refine AWp.seq ?_
     refine AWp.block ?_
     obtain ⟨h19, hr⟩ := Lc hr
     refine tq hΓ [16] [50] ?_ (by simp [h18, h19]; exact rr)
     refine AWp.meetF (fun (v3 : Bool × List Th) (γ3 : Nat) => ⟨[⟨16, none, .ptr 4 0⟩, ⟨47, none, .sl (v1.1.fL.map Th.enc) .no⟩, ⟨48, none, .n (lenL v1.1.fL)⟩, ⟨49, none, .n s2.1⟩, ⟨14, none, .b v3.1⟩, ⟨13, none, .sl (v3.2.map Th.enc) (.own 3 (γ3) 6)⟩, ⟨12, none, .ptr 2 0⟩, ⟨4, none, .ptr 0 0⟩, ⟨8, none, .ptr 1 0⟩, ⟨1, none, .n x1⟩], [.blk v1.1.enc, .blk [.n 0, .n 0, .n 0, .n 0, .n 0, .sl [] .full, .n 0, .sl [] .full, .n 0, .b false, .n 0, .n 0], .blk [.n x1, .b v1.2, .n v1.1.fe, .n v1.1.fk, .sl [] .full, .b true], .room (γ3), .blk (nthI v1.1.fL s2.1).enc]⟩) (QRr (gav.fin x0 x1 x2 x3)) hr (fun f hr => ?_) (fun v3 γ3 hr => ?_) (fun _ h => QRr_ret h)
     ·refine tq hΓ [60] [] ?_ (by simp; exact rr)
      refine AWp.cnd hr (by simp) (fun h20 hr => ?_) (fun h20 hr => ?_)
      ·obtain ⟨h21, hr⟩ := Lc hr
       refine tq hΓ [13] [60, 14] ?_ (by simp [h20, h21]; exact rr)
       refine tl hΓ [14] [] ?_ (by simp; exact rr)
       obtain rfl := La hr
       exact Ll (γ2 + 1) 5 (by first | (simp; done) | simp [h13, h14, h18, h19, h20, h21])
      ·refine AWp.skip ?_
       obtain rfl := La hr
       exact Ll (γ2) 5 (by first | (simp; done) | simp [h13, h14, h18, h19, h20])
     ·obtain ⟨h22, hr⟩ := Lc hr
      refine tl hΓ [13] [16] ?_ (by simp [h22]; exact rr)
      refine tl hΓ [49] [] ?_ (by simp; exact rr)
      obtain rfl := La hr
      exact Lk (γ3 + 1) 4 (by first | (simp; done) | simp [h13, h14, h18, h19, h22])
    ·refine AWp.exit ?_
     obtain rfl := La hr
     exact Ln (γ2) 4 (by first | (simp; done) | simp [h13, h14, h18])
   ·refine AWp.conv hc ?_
    refine AWp.meetF (fun (v4 : List Th) (γ4 : Nat) => ⟨[⟨13, none, .sl (v4.map Th.enc) (.own 3 (γ4) 6)⟩, ⟨4, none, .ptr 0 0⟩, ⟨8, none, .ptr 1 0⟩], [.blk v1.1.enc, .blk [.n 0, .n 0, .n 0, .n 0, .n 0, .sl [] .full, .n 0, .sl [] .full, .n 0, .b false, .n 0, .n 0], .blk [.n x1, .b v1.2, .n v1.1.fe, .n v1.1.fk, .sl [] .full, .b true], .room (γ4)]⟩) (gav.fin x0 x1 x2 x3) hr (fun f hr => ?_) (fun v4 γ4 hr => ?_) (fun _ h => h)
    ·refine tq hΓ [71] [14] ?_ (by simp; exact rr)
     refine AWp.cnd hr (by simp) (fun h23 hr => ?_) (fun h23 hr => ?_)
     ·obtain ⟨h24, hr⟩ := Lc hr
      refine tl hΓ [13] [71, 12] ?_ (by simp [h23, h24]; exact rr)
      obtain rfl := La hr
      exact Ll (γ2a + 1) 4 (by first | (simp; done) | simp [h13, h14, h23, h24])
     ·refine AWp.skip ?_
      obtain rfl := La hr
      exact Ll (γ2a) 4 (by first | (simp; done) | simp [h13, h14, h23])
    ·refine tq hΓ [] [13] ?_ (by simp; exact rr)
     refine tq hΓ [9] [4] ?_ (by simp; exact rr)
     obtain rfl := La hr
     exact AWp.ret (Le (by simp))

@[simp] noncomputable def gav.S : Sp
  | [.agg e0, .lit (.int .i64 x1), .lit (.bool x2), .lit (.int .i64 x3)], _ => (fun (y0 : Tc) => (fun (r : Tc × Int) => some { av := .tup [.agg [.lit (.int .i64 (r.1.fe)), .lit (.int .i64 (r.1.fk)), .lit (.int .i64 (r.1.fq)), .lit (.int .i64 (r.1.fb)), .lit (.int .i64 (r.1.fo)), .sl ((r.1.fL).map Th.enc) .no, .lit (.int .i64 (r.1.fS.fb)), .sl ((r.1.fS.fL).map Td.enc) .no, .lit (.int .i64 (r.1.fS.fAt)), .lit (.bool (r.1.fS.fg)), .lit (.int .i64 (r.1.fc)), .lit (.int .i64 (r.1.ff))], .lit (.int .i64 (r.2))], M := none, obl := WeakL e0 (Tc.enc y0) ∧ (gav y0 x1 x2 x3).isSome = true }) ((gav y0 x1 x2 x3).getD dflt)) (Tc.dec e0)
  | _, _ => none

theorem gav.ok : SpecOk Tryz.prog 67 gav.S := by
 intro l M out h
 unfold gav.S at h
 split at h
 ·rename_i e0 x1 x2 x3
  try dsimp only at h
  cases h
  refine callOk_of fun ho => ?_
  obtain ⟨ox0, hs⟩ := ho
  generalize (Tc.dec e0) = x0 at *
  obtain ⟨r, hr⟩ := so1 hs
  simp only [hr, gd1]
  have q := Lg (M := M) [] (gav.can x0 x1 x2 x3 r hr) (by simp) rfl ixn
  exact callOk_conv q trivial (by simp; exact ox0) (by simp [frameOut]) (by simp [frameOut])
 ·cases h

@[simp] def gaE.out (_x0 : Tc) (_x1 : Int) (_x2 : Tl) (r : Tc) : Out := { av := .agg [.lit (.int .i64 r.fe), .lit (.int .i64 r.fk), .lit (.int .i64 r.fq), .lit (.int .i64 r.fb), .lit (.int .i64 r.fo), .sl (r.fL.map Th.enc) .no, .lit (.int .i64 r.fS.fb), .sl (r.fS.fL.map Td.enc) .no, .lit (.int .i64 r.fS.fAt), .lit (.bool r.fS.fg), .lit (.int .i64 r.fc), .lit (.int .i64 r.ff)], M := none }
theorem gaE.can (x0 : Tc) (x1 : Int) (x2 : Tl) (r : Tc) (hr : gaE x0 x1 x2 = some r) : CallOk Tryz.prog 58 [.agg [.lit (.int .i64 x0.fe), .lit (.int .i64 x0.fk), .lit (.int .i64 x0.fq), .lit (.int .i64 x0.fb), .lit (.int .i64 x0.fo), .sl (x0.fL.map Th.enc) .no, .lit (.int .i64 x0.fS.fb), .sl (x0.fS.fL.map Td.enc) .no, .lit (.int .i64 x0.fS.fAt), .lit (.bool x0.fS.fg), .lit (.int .i64 x0.fc), .lit (.int .i64 x0.ff)], .lit (.int .i64 x1), .agg [.lit (.int .i64 x2.fe), .lit (.int .i64 x2.fb), .sl (x2.fL.map Ta.enc) .no, .lit (.bool x2.fv)]] [] (gaE.out x0 x1 x2 r) := by
 unfold gaE at hr
 have hΓ := gamL_nil (P := Tryz.prog)
 refine cw Tryz.func58 rfl (by kernel_rfl) rfl rfl (by simp) fun _ _ _ => ?_
 refine tq hΓ [3, 5, 6] [0, 2] ?_
 refine AWp.see (See.markA (by simp; rfl)) ?_
 obtain ⟨h3, hr⟩ := Lc hr
 refine tq hΓ [7] [] ?_ (by simp [h3]; exact rr)
 obtain ⟨h4, hr⟩ := Lc hr
 refine tq hΓ [] [5, 1] ?_ (by simp [h4]; exact rr)
 refine tq hΓ [] [7] ?_ (by simp; exact rr)
 refine tq hΓ [] [3] ?_ (by simp; exact rr)
 refine AWp.see (See.freeze 4 (σ' := ⟨[⟨6, none, .ptr 2 0⟩], [.blk ([.n x0.fe, .n x0.fk, .n x0.fq, .n x0.fb, .n x0.fo, .sl ((setI x0.fL x1 (Th.mk ((nthI x0.fL x1).fId) ((nthI x0.fL x1).fu) x2)).map Th.enc) .no] ++ x0.fS.enc ++ [.n x0.fc, .n x0.ff]), .blk x2.enc, .blk ([.n x0.fe, .n x0.fk, .n x0.fq, .n x0.fb, .n x0.fo, .sl ((setI x0.fL x1 (Th.mk ((nthI x0.fL x1).fId) ((nthI x0.fL x1).fu) x2)).map Th.enc) .no] ++ x0.fS.enc ++ [.n x0.fc, .n x0.ff]), .arr 0 [], .dead]⟩) (by rfl) (by simp) (by simp) (by simp)) ?_
 obtain rfl := La hr
 exact AWp.ret (Le (by simp))

@[simp] noncomputable def gaE.S : Sp
  | [.agg e0, .lit (.int .i64 x1), .agg e2], _ => (fun (y0 : Tc) => (fun (y1 : Tl) => (fun (r : Tc) => some { av := .agg [.lit (.int .i64 (r.fe)), .lit (.int .i64 (r.fk)), .lit (.int .i64 (r.fq)), .lit (.int .i64 (r.fb)), .lit (.int .i64 (r.fo)), .sl ((r.fL).map Th.enc) .no, .lit (.int .i64 (r.fS.fb)), .sl ((r.fS.fL).map Td.enc) .no, .lit (.int .i64 (r.fS.fAt)), .lit (.bool (r.fS.fg)), .lit (.int .i64 (r.fc)), .lit (.int .i64 (r.ff))], M := none, obl := WeakL e0 (Tc.enc y0) ∧ WeakL e2 (Tl.enc y1) ∧ (gaE y0 x1 y1).isSome = true }) ((gaE y0 x1 y1).getD dflt)) (Tl.dec e2)) (Tc.dec e0)
  | _, _ => none

theorem gaE.ok : SpecOk Tryz.prog 58 gaE.S := by
 intro l M out h
 unfold gaE.S at h
 split at h
 ·rename_i e0 x1 e2
  try dsimp only at h
  cases h
  refine callOk_of fun ho => ?_
  obtain ⟨ox0, ox2, hs⟩ := ho
  generalize (Tc.dec e0) = x0 at *
  generalize (Tl.dec e2) = x2 at *
  obtain ⟨r, hr⟩ := so1 hs
  simp only [hr, gd1]
  have q := Lg (M := M) [] (gaE.can x0 x1 x2 r hr) (by simp) rfl ixn
  exact callOk_conv q trivial (by simp; exact ⟨ox0, ox2⟩) (by simp [frameOut]) (by simp [frameOut])
 ·cases h

@[simp] def gaG.out (_x0 : Tc) (_x1 : Int) (r : Tc × List Tb × Int) : Out := { av := .tup [.agg [.lit (.int .i64 r.1.fe), .lit (.int .i64 r.1.fk), .lit (.int .i64 r.1.fq), .lit (.int .i64 r.1.fb), .lit (.int .i64 r.1.fo), .sl (r.1.fL.map Th.enc) .no, .lit (.int .i64 r.1.fS.fb), .sl (r.1.fS.fL.map Td.enc) .no, .lit (.int .i64 r.1.fS.fAt), .lit (.bool r.1.fS.fg), .lit (.int .i64 r.1.fc), .lit (.int .i64 r.1.ff)], .sl (r.2.1.map Tb.enc) .no, .lit (.int .i64 r.2.2)], M := none }
theorem gaG.can (x0 : Tc) (x1 : Int) (r : Tc × List Tb × Int) (hr : gaG x0 x1 = some r) : CallOk Tryz.prog 69 [.agg [.lit (.int .i64 x0.fe), .lit (.int .i64 x0.fk), .lit (.int .i64 x0.fq), .lit (.int .i64 x0.fb), .lit (.int .i64 x0.fo), .sl (x0.fL.map Th.enc) .no, .lit (.int .i64 x0.fS.fb), .sl (x0.fS.fL.map Td.enc) .no, .lit (.int .i64 x0.fS.fAt), .lit (.bool x0.fS.fg), .lit (.int .i64 x0.fc), .lit (.int .i64 x0.ff)], .lit (.int .i64 x1)] [] (gaG.out x0 x1 r) := by
 unfold gaG at hr
 have hΓ := (gamL_cons gap.ok (gamL_cons gas.ok (gamL_cons gH.ok (gamL_nil))) : GamOk Tryz.prog _)
 refine cw Tryz.func69 rfl (by kernel_rfl) rfl rfl (by simp) fun _ _ _ => ?_
 refine tq hΓ [2, 4] [0] ?_
 obtain ⟨r1, h10, hr⟩ := Lb hr
 refine tq hΓ [7] [] ?_ (by simp [h10]; exact rr)
 refine AWp.seq ?_
 refine tq hΓ [15] [] ?_ (by simp; exact rr)
 refine AWp.cnd hr (by simp) (fun h11 hr => ?_) (fun h11 hr => ?_)
 ·refine tq hΓ [5, 6] [15, 7, 2, 1] ?_ (by simp [h11]; exact rr)
  obtain rfl := La hr
  exact AWp.ret (Le (by simp))
 ·refine AWp.skip ?_
  obtain ⟨h12, hr⟩ := Lc hr
  refine tq hΓ [8] [15] ?_ (by simp [h11, h12]; exact rr)
  obtain ⟨r2, h13, hr⟩ := Lb hr
  refine tq hΓ [9] [] ?_ (by simp [h13]; exact rr)
  refine tq hΓ [] [9] ?_ (by simp; exact rr)
  obtain ⟨h14, hr⟩ := Lc hr
  obtain ⟨h15, hr⟩ := Lc hr
  obtain ⟨h16, hr⟩ := Lc hr
  obtain ⟨h17, hr⟩ := Lc hr
  refine td hΓ [] [7] [(6, 0), (7, 0), (8, 0), (9, 0), (10, 0)] [(false, []), (false, []), (false, []), (false, []), (false, []), (true, []), (false, []), (false, []), (false, []), (false, []), (false, []), (true, []), (false, []), (true, [])] (by simp [h14, h15, h16, h17]; exact rr) ?_
  obtain ⟨r3, h18, hr⟩ := Lb hr
  refine td hΓ [5, 6] [8, 2, 1] [] [(false, []), (false, []), (false, []), (false, []), (false, []), (false, []), (true, []), (false, []), (false, [])] (by simp [h18]; exact rr) ?_
  obtain rfl := La hr
  exact AWp.ret (Le (by simp))

@[simp] noncomputable def gaG.S : Sp
  | [.agg e0, .lit (.int .i64 x1)], _ => (fun (y0 : Tc) => (fun (r : Tc × List Tb × Int) => some { av := .tup [.agg [.lit (.int .i64 (r.1.fe)), .lit (.int .i64 (r.1.fk)), .lit (.int .i64 (r.1.fq)), .lit (.int .i64 (r.1.fb)), .lit (.int .i64 (r.1.fo)), .sl ((r.1.fL).map Th.enc) .no, .lit (.int .i64 (r.1.fS.fb)), .sl ((r.1.fS.fL).map Td.enc) .no, .lit (.int .i64 (r.1.fS.fAt)), .lit (.bool (r.1.fS.fg)), .lit (.int .i64 (r.1.fc)), .lit (.int .i64 (r.1.ff))], .sl ((r.2.1).map Tb.enc) .no, .lit (.int .i64 (r.2.2))], M := none, obl := WeakL e0 (Tc.enc y0) ∧ (gaG y0 x1).isSome = true }) ((gaG y0 x1).getD dflt)) (Tc.dec e0)
  | _, _ => none

theorem gaG.ok : SpecOk Tryz.prog 69 gaG.S := by
 intro l M out h
 unfold gaG.S at h
 split at h
 ·rename_i e0 x1
  try dsimp only at h
  cases h
  refine callOk_of fun ho => ?_
  obtain ⟨ox0, hs⟩ := ho
  generalize (Tc.dec e0) = x0 at *
  obtain ⟨r, hr⟩ := so1 hs
  simp only [hr, gd1]
  have q := Lg (M := M) [] (gaG.can x0 x1 r hr) (by simp) rfl ixn
  exact callOk_conv q trivial (by simp; exact ox0) (by simp [frameOut]) (by simp [frameOut])
 ·cases h

@[simp] def gaJ.out (_x0 : Tc) (_x1 : Int) (r : Tc × List Tb) : Out := { av := .tup [.agg [.lit (.int .i64 r.1.fe), .lit (.int .i64 r.1.fk), .lit (.int .i64 r.1.fq), .lit (.int .i64 r.1.fb), .lit (.int .i64 r.1.fo), .sl (r.1.fL.map Th.enc) .no, .lit (.int .i64 r.1.fS.fb), .sl (r.1.fS.fL.map Td.enc) .no, .lit (.int .i64 r.1.fS.fAt), .lit (.bool r.1.fS.fg), .lit (.int .i64 r.1.fc), .lit (.int .i64 r.1.ff)], .sl (r.2.map Tb.enc) .no], M := none }
theorem gaJ.can (x0 : Tc) (x1 : Int) (r : Tc × List Tb) (hr : gaJ x0 x1 = some r) : CallOk Tryz.prog 71 [.agg [.lit (.int .i64 x0.fe), .lit (.int .i64 x0.fk), .lit (.int .i64 x0.fq), .lit (.int .i64 x0.fb), .lit (.int .i64 x0.fo), .sl (x0.fL.map Th.enc) .no, .lit (.int .i64 x0.fS.fb), .sl (x0.fS.fL.map Td.enc) .no, .lit (.int .i64 x0.fS.fAt), .lit (.bool x0.fS.fg), .lit (.int .i64 x0.fc), .lit (.int .i64 x0.ff)], .lit (.int .i64 x1)] [] (gaJ.out x0 x1 r) := by
 unfold gaJ at hr
 have hΓ := (gamL_cons gas.ok (gamL_cons gH.ok (gamL_cons gaE.ok (gamL_nil))) : GamOk Tryz.prog _)
 refine cw Tryz.func71 rfl (by kernel_rfl) rfl rfl (by simp) fun _ _ _ => ?_
 refine tq hΓ [2, 4] [0] ?_
 obtain ⟨r1, h6, hr⟩ := Lb hr
 refine tq hΓ [6] [] ?_ (by simp [h6]; exact rr)
 refine AWp.seq ?_
 refine tq hΓ [13] [] ?_ (by simp; exact rr)
 refine AWp.cnd hr (by simp) (fun h7 hr => ?_) (fun h7 hr => ?_)
 ·refine tq hΓ [5] [13, 6, 2, 1] ?_ (by simp [h7]; exact rr)
  obtain rfl := La hr
  exact AWp.ret (Le (by simp))
 ·refine AWp.skip ?_
  obtain ⟨h8, hr⟩ := Lc hr
  refine tq hΓ [7] [13] ?_ (by simp [h7, h8]; exact rr)
  obtain ⟨r2, h9, hr⟩ := Lb hr
  refine tq hΓ [8] [1] ?_ (by simp [h9]; exact rr)
  refine tq hΓ [] [] ?_ (by simp; exact rr)
  refine tq hΓ [] [] ?_ (by simp; exact rr)
  obtain ⟨r3, h10, hr⟩ := Lb hr
  refine tq hΓ [5] [8, 7, 6, 2] ?_ (by simp [h10]; exact rr)
  obtain rfl := La hr
  exact AWp.ret (Le (by simp))

@[simp] noncomputable def gaJ.S : Sp
  | [.agg e0, .lit (.int .i64 x1)], _ => (fun (y0 : Tc) => (fun (r : Tc × List Tb) => some { av := .tup [.agg [.lit (.int .i64 (r.1.fe)), .lit (.int .i64 (r.1.fk)), .lit (.int .i64 (r.1.fq)), .lit (.int .i64 (r.1.fb)), .lit (.int .i64 (r.1.fo)), .sl ((r.1.fL).map Th.enc) .no, .lit (.int .i64 (r.1.fS.fb)), .sl ((r.1.fS.fL).map Td.enc) .no, .lit (.int .i64 (r.1.fS.fAt)), .lit (.bool (r.1.fS.fg)), .lit (.int .i64 (r.1.fc)), .lit (.int .i64 (r.1.ff))], .sl ((r.2).map Tb.enc) .no], M := none, obl := WeakL e0 (Tc.enc y0) ∧ (gaJ y0 x1).isSome = true }) ((gaJ y0 x1).getD dflt)) (Tc.dec e0)
  | _, _ => none

theorem gaJ.ok : SpecOk Tryz.prog 71 gaJ.S := by
 intro l M out h
 unfold gaJ.S at h
 split at h
 ·rename_i e0 x1
  try dsimp only at h
  cases h
  refine callOk_of fun ho => ?_
  obtain ⟨ox0, hs⟩ := ho
  generalize (Tc.dec e0) = x0 at *
  obtain ⟨r, hr⟩ := so1 hs
  simp only [hr, gd1]
  have q := Lg (M := M) [] (gaJ.can x0 x1 r hr) (by simp) rfl ixn
  exact callOk_conv q trivial (by simp; exact ox0) (by simp [frameOut]) (by simp [frameOut])
 ·cases h

@[simp] def gaP.out (_x0 : Tc) (_x1 : Int) (_x2 : Ta) (r : Tc × List Tb × Bool) : Out := { av := .tup [.agg [.lit (.int .i64 r.1.fe), .lit (.int .i64 r.1.fk), .lit (.int .i64 r.1.fq), .lit (.int .i64 r.1.fb), .lit (.int .i64 r.1.fo), .sl (r.1.fL.map Th.enc) .no, .lit (.int .i64 r.1.fS.fb), .sl (r.1.fS.fL.map Td.enc) .no, .lit (.int .i64 r.1.fS.fAt), .lit (.bool r.1.fS.fg), .lit (.int .i64 r.1.fc), .lit (.int .i64 r.1.ff)], .sl (r.2.1.map Tb.enc) .no, .lit (.bool r.2.2)], M := none }
theorem gaP.can (x0 : Tc) (x1 : Int) (x2 : Ta) (r : Tc × List Tb × Bool) (hr : gaP x0 x1 x2 = some r) : CallOk Tryz.prog 19 [.agg [.lit (.int .i64 x0.fe), .lit (.int .i64 x0.fk), .lit (.int .i64 x0.fq), .lit (.int .i64 x0.fb), .lit (.int .i64 x0.fo), .sl (x0.fL.map Th.enc) .no, .lit (.int .i64 x0.fS.fb), .sl (x0.fS.fL.map Td.enc) .no, .lit (.int .i64 x0.fS.fAt), .lit (.bool x0.fS.fg), .lit (.int .i64 x0.fc), .lit (.int .i64 x0.ff)], .lit (.int .i64 x1), .agg [.lit (.int .i64 x2.fN), .lit (.int .i64 x2.fj), .lit (.int .i64 x2.fw), .lit (.bool x2.fy)]] [] (gaP.out x0 x1 x2 r) := by
 unfold gaP at hr
 have hΓ := (gamL_cons gat.ok (gamL_cons gas.ok (gamL_cons gH.ok (gamL_cons gaE.ok (gamL_nil)))) : GamOk Tryz.prog _)
 refine cw Tryz.func19 rfl (by kernel_rfl) rfl rfl (by simp) fun _ _ _ => ?_
 refine tq hΓ [3, 5, 6] [0, 2] ?_
 obtain ⟨r1, h8, hr⟩ := Lb hr
 refine tq hΓ [9] [] ?_ (by simp [h8]; exact rr)
 refine AWp.seq ?_
 refine tq hΓ [24] [] ?_ (by simp; exact rr)
 refine AWp.cnd hr (by simp) (fun h9 hr => ?_) (fun h9 hr => ?_)
 ·refine tq hΓ [7, 8] [24, 9, 3, 5, 1] ?_ (by simp [h9]; exact rr)
  obtain rfl := La hr
  exact AWp.ret (Le (by simp))
 ·refine AWp.skip ?_
  obtain ⟨h10, hr⟩ := Lc hr
  refine tq hΓ [] [24] ?_ (by simp [h9, h10]; exact rr)
  obtain ⟨h11, hr⟩ := Lc hr
  obtain ⟨r2, h12, hr⟩ := Lb hr
  refine td hΓ [10, 11, 12] [5] [(0, 13), (1, 13), (2, 13), (3, 13), (4, 13), (5, 13), (6, 13), (7, 13), (8, 13), (9, 13), (10, 13), (10, 14), (11, 13), (11, 14)] [(false, []), (false, []), (false, []), (false, []), (false, []), (false, []), (false, []), (false, []), (false, []), (false, []), (false, []), (false, []), (true, []), (true, []), (false, []), (false, [])] (by simp [h11, h12]; exact rr) ?_
  obtain ⟨r3, h13, hr⟩ := Lb hr
  obtain ⟨r4, h14, hr⟩ := Lb hr
  refine tq hΓ [7, 8] [10, 11, 12, 9, 3, 1] ?_ (by simp [h13, h14]; exact rr)
  obtain rfl := La hr
  exact AWp.ret (Le (by simp))

@[simp] noncomputable def gaP.S : Sp
  | [.agg e0, .lit (.int .i64 x1), .agg e2], _ => (fun (y0 : Tc) => (fun (y1 : Ta) => (fun (r : Tc × List Tb × Bool) => some { av := .tup [.agg [.lit (.int .i64 (r.1.fe)), .lit (.int .i64 (r.1.fk)), .lit (.int .i64 (r.1.fq)), .lit (.int .i64 (r.1.fb)), .lit (.int .i64 (r.1.fo)), .sl ((r.1.fL).map Th.enc) .no, .lit (.int .i64 (r.1.fS.fb)), .sl ((r.1.fS.fL).map Td.enc) .no, .lit (.int .i64 (r.1.fS.fAt)), .lit (.bool (r.1.fS.fg)), .lit (.int .i64 (r.1.fc)), .lit (.int .i64 (r.1.ff))], .sl ((r.2.1).map Tb.enc) .no, .lit (.bool (r.2.2))], M := none, obl := WeakL e0 (Tc.enc y0) ∧ WeakL e2 (Ta.enc y1) ∧ (gaP y0 x1 y1).isSome = true }) ((gaP y0 x1 y1).getD dflt)) (Ta.dec e2)) (Tc.dec e0)
  | _, _ => none

theorem gaP.ok : SpecOk Tryz.prog 19 gaP.S := by
 intro l M out h
 unfold gaP.S at h
 split at h
 ·rename_i e0 x1 e2
  try dsimp only at h
  cases h
  refine callOk_of fun ho => ?_
  obtain ⟨ox0, ox2, hs⟩ := ho
  generalize (Tc.dec e0) = x0 at *
  generalize (Ta.dec e2) = x2 at *
  obtain ⟨r, hr⟩ := so1 hs
  simp only [hr, gd1]
  have q := Lg (M := M) [] (gaP.can x0 x1 x2 r hr) (by simp) rfl ixn
  exact callOk_conv q trivial (by simp; exact ⟨ox0, ox2⟩) (by simp [frameOut]) (by simp [frameOut])
 ·cases h

@[simp] def gE.out (_x0 : Tc) (r : Tc × Int) : Out := { av := .tup [.agg [.lit (.int .i64 r.1.fe), .lit (.int .i64 r.1.fk), .lit (.int .i64 r.1.fq), .lit (.int .i64 r.1.fb), .lit (.int .i64 r.1.fo), .sl (r.1.fL.map Th.enc) .no, .lit (.int .i64 r.1.fS.fb), .sl (r.1.fS.fL.map Td.enc) .no, .lit (.int .i64 r.1.fS.fAt), .lit (.bool r.1.fS.fg), .lit (.int .i64 r.1.fc), .lit (.int .i64 r.1.ff)], .lit (.int .i64 r.2)], M := none }
def gE.fin (x0 : Tc) (r : Tc × Int) (σ : St) : Prop := finK (gE.out x0 r) [] σ.M (resA Tryz.ty σ.A σ.M Tryz.f60.results.toList)
theorem gE.can (x0 : Tc) (r : Tc × Int) (hr : gE x0 = some r) : CallOk Tryz.prog 60 [.agg [.lit (.int .i64 x0.fe), .lit (.int .i64 x0.fk), .lit (.int .i64 x0.fq), .lit (.int .i64 x0.fb), .lit (.int .i64 x0.fo), .sl (x0.fL.map Th.enc) .no, .lit (.int .i64 x0.fS.fb), .sl (x0.fS.fL.map Td.enc) .no, .lit (.int .i64 x0.fS.fAt), .lit (.bool x0.fS.fg), .lit (.int .i64 x0.fc), .lit (.int .i64 x0.ff)]] [] (gE.out x0 r) := by
 unfold gE at hr
 have hΓ := (gamL_cons gg.ok (gamL_cons gH.ok (gamL_nil)) : GamOk Tryz.prog _)
 refine cw Tryz.func60 rfl (by kernel_rfl) rfl rfl (by simp) fun _ _ _ => ?_
 refine tq hΓ [1, 2] [0] ?_
 refine tq hΓ [4] [] ?_
 refine tq hΓ [5] [] ?_
 refine AWp.seq ?_
 refine tq hΓ [13, 14, 15] [] ?_
 refine AWp.equip 5 2 (els := []) (by simp) (by simp) ?_
 refine AWp.loopE (fun (s1 : Int × List Tg × Int) (γ1 : Nat) => ⟨[⟨13, none, .sl (x0.fL.map Th.enc) .no⟩, ⟨14, none, .n (lenL x0.fL)⟩, ⟨15, none, .n s1.1⟩, ⟨5, none, .sl (s1.2.1.map Tg.enc) (.own 2 (γ1) 2)⟩, ⟨4, none, .n s1.2.2⟩, ⟨1, none, .ptr 0 0⟩, ⟨2, none, .ptr 1 0⟩], [.blk x0.enc, .blk [.n 0, .n 0, .n 0, .n 0, .n 0, .sl [] .full, .n 0, .sl [] .full, .n 0, .b false, .n 0, .n 0], .room (γ1)]⟩) (fun (v1 : List Tg × Int) (γ1a : Nat) => ⟨[⟨5, none, .sl (v1.1.map Tg.enc) (.own 2 (γ1a) 2)⟩, ⟨4, none, .n v1.2⟩, ⟨1, none, .ptr 0 0⟩, ⟨2, none, .ptr 1 0⟩], [.blk x0.enc, .blk [.n 0, .n 0, .n 0, .n 0, .n 0, .sl [] .full, .n 0, .sl [] .full, .n 0, .b false, .n 0, .n 0], .room (γ1a)]⟩) (gE.fin x0) hr 0 3 (by simp) (fun s1 f γ1 hr => ?_) (fun v1 γ1a σ1 m1 hr hc => ?_) (fun _ h => h)
 ·unfold gE.loop1 at hr
  refine tq hΓ [16] [] ?_
  refine AWp.seq ?_
  refine AWp.cnd hr (by simp) (fun h15 hr => ?_) (fun h15 hr => ?_)
  ·refine AWp.skip ?_
   refine AWp.seq ?_
   refine AWp.block ?_
   obtain ⟨h16, hr⟩ := Lc hr
   refine tq hΓ [7, 6] [16] ?_ (by simp [h15, h16]; exact rr)
   refine AWp.seq ?_
   refine tq hΓ [24] [] ?_ (by simp; exact rr)
   refine AWp.cnd hr (by simp) (fun h17 hr => ?_) (fun h17 hr => ?_)
   ·refine AWp.exit ?_
    refine blockS_same ?_
    refine tl hΓ [15] [24, 7, 6] ?_ (by simp [h17]; exact rr)
    obtain rfl := La hr
    exact Lk (γ1) 3 (by first | (simp; done) | simp [h15, h16, h17])
   ·refine AWp.skip ?_
    refine tq hΓ [26] [24] ?_ (by simp [h17]; exact rr)
    refine AWp.cnd hr (by simp) (fun h18 hr => ?_) (fun h18 hr => ?_)
    ·obtain ⟨h19, hr⟩ := Lc hr
     obtain ⟨h20, hr⟩ := Lc hr
     refine AWp.lst (AWp.regD Tryz.mixed Tryz.tyOk hΓ [5] [26, 7, 6] [] [(false, []), (false, []), (false, []), (false, []), (false, []), (false, []), (false, []), (false, []), (false, []), (false, []), (false, []), (true, []), (false, [])] (by kernel_rfl) rfl (by simp [h18, h19, h20]; exact rr)) ?_
     refine tl hΓ [15] [] ?_ (by simp; exact rr)
     obtain rfl := La hr
     exact Lk (γ1 + 1) 3 (by first | (simp; done) | simp [h15, h16, h17, h18, h19, h20])
    ·obtain ⟨h21, hr⟩ := Lc hr
     obtain ⟨h22, hr⟩ := Lc hr
     obtain ⟨h23, hr⟩ := Lc hr
     refine td hΓ [59] [26, 7] [] [(false, []), (false, []), (false, []), (false, [41]), (false, [41]), (false, [41]), (false, [41]), (false, [41]), (false, [41]), (false, [41]), (false, [41]), (false, [41]), (false, [41]), (false, [41]), (false, [41]), (false, [41]), (false, [41]), (false, [41]), (false, [41]), (false, [41]), (false, [])] (by simp [h18, h21, h22, h23]; exact rr) ?_
     refine AWp.cnd hr (by simp) (fun h24 hr => ?_) (fun h24 hr => ?_)
     ·refine tl hΓ [4] [59, 6] ?_ (by simp [h24]; exact rr)
      refine tl hΓ [15] [] ?_ (by simp; exact rr)
      obtain rfl := La hr
      exact Lk (γ1) 3 (by first | (simp; done) | simp [h15, h16, h17, h18, h21, h22, h23, h24])
     ·refine AWp.skip ?_
      refine tl hΓ [15] [59, 6] ?_ (by simp [h24]; exact rr)
      obtain rfl := La hr
      exact Lk (γ1) 3 (by first | (simp; done) | simp [h15, h16, h17, h18, h21, h22, h23, h24])
  ·refine AWp.exit ?_
   obtain rfl := La hr
   exact Ln (γ1) 3 (by first | (simp; done) | simp [h15])
 ·refine AWp.conv hc ?_
  refine AWp.seq ?_
  refine tq hΓ [75] [] ?_
  refine AWp.cnd hr (by simp) (fun h25 hr => ?_) (fun h25 hr => ?_)
  ·refine tq hΓ [3] [75, 5, 4, 1] ?_ (by simp [h25]; exact rr)
   obtain rfl := La hr
   exact AWp.ret (Le (by simp))
  ·refine AWp.skip ?_
   obtain ⟨r1, h26, hr⟩ := Lb hr
   refine tq hΓ [8, 9, 10] [75, 5, 4] ?_ (by simp [h25, h26]; exact rr)
   refine tq hΓ [] [8] ?_ (by simp; exact rr)
   refine AWp.seq ?_
   refine tq hΓ [89] [10] ?_ (by simp; exact rr)
   refine AWp.cnd hr (by simp) (fun h27 hr => ?_) (fun h27 hr => ?_)
   ·refine tq hΓ [3] [89, 9, 1] ?_ (by simp [h27]; exact rr)
    obtain rfl := La hr
    exact AWp.ret (Le (by simp))
   ·refine AWp.skip ?_
    obtain ⟨r2, h28, hr⟩ := Lb hr
    refine td hΓ [3] [89, 9, 1] [] [(false, []), (false, []), (false, []), (false, []), (true, []), (false, [])] (by simp [h27, h28]; exact rr) ?_
    obtain rfl := La hr
    exact AWp.ret (Le (by simp))

@[simp] noncomputable def gE.S : Sp
  | [.agg e0], _ => (fun (y0 : Tc) => (fun (r : Tc × Int) => some { av := .tup [.agg [.lit (.int .i64 (r.1.fe)), .lit (.int .i64 (r.1.fk)), .lit (.int .i64 (r.1.fq)), .lit (.int .i64 (r.1.fb)), .lit (.int .i64 (r.1.fo)), .sl ((r.1.fL).map Th.enc) .no, .lit (.int .i64 (r.1.fS.fb)), .sl ((r.1.fS.fL).map Td.enc) .no, .lit (.int .i64 (r.1.fS.fAt)), .lit (.bool (r.1.fS.fg)), .lit (.int .i64 (r.1.fc)), .lit (.int .i64 (r.1.ff))], .lit (.int .i64 (r.2))], M := none, obl := WeakL e0 (Tc.enc y0) ∧ (gE y0).isSome = true }) ((gE y0).getD dflt)) (Tc.dec e0)
  | _, _ => none

theorem gE.ok : SpecOk Tryz.prog 60 gE.S := by
 intro l M out h
 unfold gE.S at h
 split at h
 ·rename_i e0
  try dsimp only at h
  cases h
  refine callOk_of fun ho => ?_
  obtain ⟨ox0, hs⟩ := ho
  generalize (Tc.dec e0) = x0 at *
  obtain ⟨r, hr⟩ := so1 hs
  simp only [hr, gd1]
  have q := Lg (M := M) [] (gE.can x0 r hr) (by simp) rfl ixn
  exact callOk_conv q trivial (by simp; exact ox0) (by simp [frameOut]) (by simp [frameOut])
 ·cases h

@[simp] def gal.out (_x0 : Tc) (r : Tc × List Tb) : Out := { av := .tup [.agg [.lit (.int .i64 r.1.fe), .lit (.int .i64 r.1.fk), .lit (.int .i64 r.1.fq), .lit (.int .i64 r.1.fb), .lit (.int .i64 r.1.fo), .sl (r.1.fL.map Th.enc) .no, .lit (.int .i64 r.1.fS.fb), .sl (r.1.fS.fL.map Td.enc) .no, .lit (.int .i64 r.1.fS.fAt), .lit (.bool r.1.fS.fg), .lit (.int .i64 r.1.fc), .lit (.int .i64 r.1.ff)], .sl (r.2.map Tb.enc) .no], M := none }
def gal.fin (x0 : Tc) (r : Tc × List Tb) (σ : St) : Prop := finK (gal.out x0 r) [] σ.M (resA Tryz.ty σ.A σ.M Tryz.f22.results.toList)
theorem gal.can (x0 : Tc) (r : Tc × List Tb) (hr : gal x0 = some r) : CallOk Tryz.prog 22 [.agg [.lit (.int .i64 x0.fe), .lit (.int .i64 x0.fk), .lit (.int .i64 x0.fq), .lit (.int .i64 x0.fb), .lit (.int .i64 x0.fo), .sl (x0.fL.map Th.enc) .no, .lit (.int .i64 x0.fS.fb), .sl (x0.fS.fL.map Td.enc) .no, .lit (.int .i64 x0.fS.fAt), .lit (.bool x0.fS.fg), .lit (.int .i64 x0.fc), .lit (.int .i64 x0.ff)]] [] (gal.out x0 r) := by
 unfold gal at hr
 have hΓ := (gamL_cons gaA.ok (gamL_cons gE.ok (gamL_cons gaE.ok (gamL_nil))) : GamOk Tryz.prog _)
 refine cw Tryz.func22 rfl (by kernel_rfl) rfl rfl (by simp) fun _ _ _ => ?_
 refine tq hΓ [1, 2] [0] ?_
 refine tq hΓ [4] [] ?_
 refine AWp.seq ?_
 refine tq hΓ [5] [] ?_
 refine AWp.equip 4 5 (els := []) (by simp) (by simp) ?_
 refine AWp.loopE (fun (s1 : Int × List Tb × Tc) (γ1 : Nat) => ⟨[⟨5, none, .n s1.1⟩, ⟨4, none, .sl (s1.2.1.map Tb.enc) (.own 2 (γ1) 5)⟩, ⟨1, none, .ptr 0 0⟩, ⟨2, none, .ptr 1 0⟩], [.blk s1.2.2.enc, .blk [.n 0, .n 0, .n 0, .n 0, .n 0, .sl [] .full, .n 0, .sl [] .full, .n 0, .b false, .n 0, .n 0], .room (γ1)]⟩) (fun (v1 : List Tb × Tc) (γ1a : Nat) => ⟨[⟨4, none, .sl (v1.1.map Tb.enc) (.own 2 (γ1a) 5)⟩, ⟨1, none, .ptr 0 0⟩, ⟨2, none, .ptr 1 0⟩], [.blk v1.2.enc, .blk [.n 0, .n 0, .n 0, .n 0, .n 0, .sl [] .full, .n 0, .sl [] .full, .n 0, .b false, .n 0, .n 0], .room (γ1a)]⟩) (gal.fin x0) hr 0 3 (by simp) (fun s1 f γ1 hr => ?_) (fun v1 γ1a σ1 m1 hr hc => ?_) (fun _ h => h)
 ·unfold gal.loop1 at hr
  refine AWp.seq ?_
  refine tq hΓ [13] [] ?_
  refine AWp.cnd hr (by simp) (fun h12 hr => ?_) (fun h12 hr => ?_)
  ·refine AWp.skip ?_
   refine AWp.meetF (fun (v2 : List Tb × Tc) (γ2 : Unit) => ⟨[⟨5, none, .n s1.1⟩, ⟨4, none, .sl (v2.1.map Tb.enc) (.own 2 (γ1 + 1) 5)⟩, ⟨1, none, .ptr 0 0⟩, ⟨2, none, .ptr 1 0⟩], [.blk v2.2.enc, .blk [.n 0, .n 0, .n 0, .n 0, .n 0, .sl [] .full, .n 0, .sl [] .full, .n 0, .b false, .n 0, .n 0], .room (γ1 + 1)]⟩) (QRr (gal.fin x0)) hr (fun f hr => ?_) (fun v2 γ2 hr => ?_) (fun _ h => QRr_ret h)
   ·refine AWp.block ?_
    obtain ⟨r1, h13, hr⟩ := Lb hr
    refine tq hΓ [6, 7] [13] ?_ (by simp [h12, h13]; exact rr)
    refine tq hΓ [] [6] ?_ (by simp; exact rr)
    refine AWp.seq ?_
    refine tq hΓ [23] [] ?_ (by simp; exact rr)
    refine AWp.cnd hr (by simp) (fun h14 hr => ?_) (fun h14 hr => ?_)
    ·refine tq hΓ [3] [23, 7, 5, 4, 1] ?_ (by simp [h14]; exact rr)
     refine AWp.ret ?_
     obtain rfl := La hr
     refine meet_ret ?_
     refine ⟨_, rfl, ?_⟩
     refine Le ?_
     simp
    ·refine AWp.skip ?_
     obtain ⟨h15, hr⟩ := Lc hr
     refine tq hΓ [8] [23] ?_ (by simp [h14, h15]; exact rr)
     obtain ⟨h16, hr⟩ := Lc hr
     refine tq hΓ [9] [] ?_ (by simp [h16]; exact rr)
     refine AWp.seq ?_
     refine tq hΓ [40] [] ?_ (by simp; exact rr)
     refine AWp.cnd hr (by simp) (fun h17 hr => ?_) (fun h17 hr => ?_)
     ·refine tq hΓ [3] [40, 9, 8, 7, 5, 4, 1] ?_ (by simp [h17]; exact rr)
      refine AWp.ret ?_
      obtain rfl := La hr
      refine meet_ret ?_
      refine ⟨_, rfl, ?_⟩
      refine Le ?_
      simp
     ·refine AWp.skip ?_
      refine tq hΓ [10] [40] ?_ (by simp [h17]; exact rr)
      obtain ⟨h18, hr⟩ := Lc hr
      refine tq hΓ [] [] ?_ (by simp [h18]; exact rr)
      obtain ⟨r2, h19, hr⟩ := Lb hr
      refine tq hΓ [] [10, 7] ?_ (by simp [h19]; exact rr)
      refine tq hΓ [] [] ?_ (by simp; exact rr)
      refine tq hΓ [] [] ?_ (by simp; exact rr)
      refine AWp.meetF (fun (v3 : Tc × Th) (γ3 : Unit) => ⟨[⟨9, none, .ptr 5 0⟩, ⟨8, none, .ptr 4 0⟩, ⟨5, none, .n s1.1⟩, ⟨4, none, .sl (s1.2.1.map Tb.enc) (.own 2 (γ1) 5)⟩, ⟨1, none, .ptr 0 0⟩, ⟨2, none, .ptr 1 0⟩], [.blk v3.1.enc, .blk [.n 0, .n 0, .n 0, .n 0, .n 0, .sl [] .full, .n 0, .sl [] .full, .n 0, .b false, .n 0, .n 0], .room (γ1), .blk r1.1.enc, .blk v3.2.enc, .blk (nthI ((nthI r1.1.fL r1.2).fQ.fL) 0).enc, .blk [.n ((nthI r1.1.fL r1.2).fQ.fe), .n ((nthI r1.1.fL r1.2).fQ.fb), .sl ((cutL ((nthI r1.1.fL r1.2).fQ.fL) 1 (lenL ((nthI r1.1.fL r1.2).fQ.fL))).map Ta.enc) .no, .b ((nthI r1.1.fL r1.2).fQ.fv)]]⟩) (QRm (QRr (gal.fin x0))) hr (fun f hr => ?_) (fun v3 γ3 hr => ?_) (fun _ h => QRm_ret h)
      ·refine tq hΓ [64] [] ?_ (by simp; exact rr)
       refine AWp.cnd hr (by simp) (fun h20 hr => ?_) (fun h20 hr => ?_)
       ·obtain ⟨r3, h21, hr⟩ := Lb hr
        refine tq hΓ [] [64] ?_ (by simp [h20, h21]; exact rr)
        refine tl hΓ [] [] ?_ (by simp; exact rr)
        obtain rfl := La hr
        exact Ll () 7 (by first | (simp; done) | simp [h12, h13, h14, h15, h16, h17, h18, h19, h20, h21])
       ·refine AWp.skip ?_
        obtain rfl := La hr
        exact Ll () 7 (by first | (simp; done) | simp [h20])
      ·obtain ⟨h22, hr⟩ := Lc hr
       refine tl hΓ [4] [9, 8] ?_ (by simp [h22]; exact rr)
       obtain rfl := La hr
       exact Ll () 3 (by first | (simp; done) | simp [h12, h13, h14, h15, h16, h17, h18, h19, h22])
   ·refine tl hΓ [5] [] ?_ (by simp; exact rr)
    obtain rfl := La hr
    exact Lk (γ1 + 1) 3 (by first | (simp; done) | simp [h12])
  ·refine AWp.exit ?_
   obtain rfl := La hr
   exact Ln (γ1) 3 (by first | (simp; done) | simp [h12])
 ·refine AWp.conv hc ?_
  refine tq hΓ [3] [4, 1] ?_
  obtain rfl := La hr
  exact AWp.ret (Le (by simp))

@[simp] noncomputable def gal.S : Sp
  | [.agg e0], _ => (fun (y0 : Tc) => (fun (r : Tc × List Tb) => some { av := .tup [.agg [.lit (.int .i64 (r.1.fe)), .lit (.int .i64 (r.1.fk)), .lit (.int .i64 (r.1.fq)), .lit (.int .i64 (r.1.fb)), .lit (.int .i64 (r.1.fo)), .sl ((r.1.fL).map Th.enc) .no, .lit (.int .i64 (r.1.fS.fb)), .sl ((r.1.fS.fL).map Td.enc) .no, .lit (.int .i64 (r.1.fS.fAt)), .lit (.bool (r.1.fS.fg)), .lit (.int .i64 (r.1.fc)), .lit (.int .i64 (r.1.ff))], .sl ((r.2).map Tb.enc) .no], M := none, obl := WeakL e0 (Tc.enc y0) ∧ (gal y0).isSome = true }) ((gal y0).getD dflt)) (Tc.dec e0)
  | _, _ => none

theorem gal.ok : SpecOk Tryz.prog 22 gal.S := by
 intro l M out h
 unfold gal.S at h
 split at h
 ·rename_i e0
  try dsimp only at h
  cases h
  refine callOk_of fun ho => ?_
  obtain ⟨ox0, hs⟩ := ho
  generalize (Tc.dec e0) = x0 at *
  obtain ⟨r, hr⟩ := so1 hs
  simp only [hr, gd1]
  have q := Lg (M := M) [] (gal.can x0 r hr) (by simp) rfl ixn
  exact callOk_conv q trivial (by simp; exact ox0) (by simp [frameOut]) (by simp [frameOut])
 ·cases h

@[simp] def gau.out (_x0 : Tc) (_x1 : Int) (r : Tc × List Tb) : Out := { av := .tup [.agg [.lit (.int .i64 r.1.fe), .lit (.int .i64 r.1.fk), .lit (.int .i64 r.1.fq), .lit (.int .i64 r.1.fb), .lit (.int .i64 r.1.fo), .sl (r.1.fL.map Th.enc) .no, .lit (.int .i64 r.1.fS.fb), .sl (r.1.fS.fL.map Td.enc) .no, .lit (.int .i64 r.1.fS.fAt), .lit (.bool r.1.fS.fg), .lit (.int .i64 r.1.fc), .lit (.int .i64 r.1.ff)], .sl (r.2.map Tb.enc) .no], M := none }
def gau.fin (x0 : Tc) (x1 : Int) (r : Tc × List Tb) (σ : St) : Prop := finK (gau.out x0 x1 r) [] σ.M (resA Tryz.ty σ.A σ.M Tryz.f24.results.toList)
theorem gau.can (x0 : Tc) (x1 : Int) (r : Tc × List Tb) (hr : gau x0 x1 = some r) : CallOk Tryz.prog 24 [.agg [.lit (.int .i64 x0.fe), .lit (.int .i64 x0.fk), .lit (.int .i64 x0.fq), .lit (.int .i64 x0.fb), .lit (.int .i64 x0.fo), .sl (x0.fL.map Th.enc) .no, .lit (.int .i64 x0.fS.fb), .sl (x0.fS.fL.map Td.enc) .no, .lit (.int .i64 x0.fS.fAt), .lit (.bool x0.fS.fg), .lit (.int .i64 x0.fc), .lit (.int .i64 x0.ff)], .lit (.int .i64 x1)] [] (gau.out x0 x1 r) := by
 unfold gau at hr
 have hΓ := (gamL_cons gV.ok (gamL_cons gas.ok (gamL_cons gaE.ok (gamL_nil))) : GamOk Tryz.prog _)
 refine cw Tryz.func24 rfl (by kernel_rfl) rfl rfl (by simp) fun _ _ _ => ?_
 refine tq hΓ [2, 4] [0] ?_
 refine tq hΓ [6] [] ?_
 refine AWp.seq ?_
 refine tq hΓ [13, 14, 15] [] ?_
 refine AWp.equip 6 5 (els := []) (by simp) (by simp) ?_
 refine AWp.loopE (fun (s1 : Int × List Tb × Tc) (γ1 : Nat) => ⟨[⟨13, none, .sl (x0.fL.map Th.enc) .no⟩, ⟨14, none, .n (lenL x0.fL)⟩, ⟨15, none, .n s1.1⟩, ⟨6, none, .sl (s1.2.1.map Tb.enc) (.own 2 (γ1) 5)⟩, ⟨2, none, .ptr 0 0⟩, ⟨4, none, .ptr 1 0⟩, ⟨1, none, .n x1⟩], [.blk s1.2.2.enc, .blk [.n 0, .n 0, .n 0, .n 0, .n 0, .sl [] .full, .n 0, .sl [] .full, .n 0, .b false, .n 0, .n 0], .room (γ1)]⟩) (fun (v1 : List Tb × Tc) (γ1a : Nat) => ⟨[⟨6, none, .sl (v1.1.map Tb.enc) (.own 2 (γ1a) 5)⟩, ⟨2, none, .ptr 0 0⟩, ⟨4, none, .ptr 1 0⟩], [.blk v1.2.enc, .blk [.n 0, .n 0, .n 0, .n 0, .n 0, .sl [] .full, .n 0, .sl [] .full, .n 0, .b false, .n 0, .n 0], .room (γ1a)]⟩) (gau.fin x0 x1) hr 0 3 (by simp) (fun s1 f γ1 hr => ?_) (fun v1 γ1a σ1 m1 hr hc => ?_) (fun _ h => h)
 ·unfold gau.loop1 at hr
  refine tq hΓ [16] [] ?_
  refine AWp.seq ?_
  refine AWp.cnd hr (by simp) (fun h7 hr => ?_) (fun h7 hr => ?_)
  ·refine AWp.skip ?_
   refine AWp.seq ?_
   refine AWp.block ?_
   obtain ⟨h8, hr⟩ := Lc hr
   refine tq hΓ [8, 7] [16] ?_ (by simp [h7, h8]; exact rr)
   obtain ⟨r1, h9, hr⟩ := Lb hr
   refine tq hΓ [9, 10] [] ?_ (by simp [h9]; exact rr)
   obtain ⟨r2, h10, hr⟩ := Lb hr
   refine tq hΓ [] [9, 7] ?_ (by simp [h10]; exact rr)
   obtain ⟨r3, h11, hr⟩ := Lb hr
   obtain ⟨h12, hr⟩ := Lc hr
   refine tl hΓ [6] [10, 8] ?_ (by simp [h11, h12]; exact rr)
   refine tl hΓ [15] [] ?_ (by simp; exact rr)
   obtain rfl := La hr
   exact Lk (γ1 + 1) 3 (by first | (simp; done) | simp [h7, h8, h9, h10, h11, h12])
  ·refine AWp.exit ?_
   obtain rfl := La hr
   exact Ln (γ1) 3 (by first | (simp; done) | simp [h7])
 ·refine AWp.conv hc ?_
  refine tq hΓ [5] [6, 2] ?_
  obtain rfl := La hr
  exact AWp.ret (Le (by simp))

@[simp] noncomputable def gau.S : Sp
  | [.agg e0, .lit (.int .i64 x1)], _ => (fun (y0 : Tc) => (fun (r : Tc × List Tb) => some { av := .tup [.agg [.lit (.int .i64 (r.1.fe)), .lit (.int .i64 (r.1.fk)), .lit (.int .i64 (r.1.fq)), .lit (.int .i64 (r.1.fb)), .lit (.int .i64 (r.1.fo)), .sl ((r.1.fL).map Th.enc) .no, .lit (.int .i64 (r.1.fS.fb)), .sl ((r.1.fS.fL).map Td.enc) .no, .lit (.int .i64 (r.1.fS.fAt)), .lit (.bool (r.1.fS.fg)), .lit (.int .i64 (r.1.fc)), .lit (.int .i64 (r.1.ff))], .sl ((r.2).map Tb.enc) .no], M := none, obl := WeakL e0 (Tc.enc y0) ∧ (gau y0 x1).isSome = true }) ((gau y0 x1).getD dflt)) (Tc.dec e0)
  | _, _ => none

theorem gau.ok : SpecOk Tryz.prog 24 gau.S := by
 intro l M out h
 unfold gau.S at h
 split at h
 ·rename_i e0 x1
  try dsimp only at h
  cases h
  refine callOk_of fun ho => ?_
  obtain ⟨ox0, hs⟩ := ho
  generalize (Tc.dec e0) = x0 at *
  obtain ⟨r, hr⟩ := so1 hs
  simp only [hr, gd1]
  have q := Lg (M := M) [] (gau.can x0 x1 r hr) (by simp) rfl ixn
  exact callOk_conv q trivial (by simp; exact ox0) (by simp [frameOut]) (by simp [frameOut])
 ·cases h
end Go.Proofs

import Derived.Test.YtoiieebljbhpbaaGreatDoorM13
import Derived.Test.YtoiieebljbhpbaaGreatDoorTy
import Derived.Test.YtoiieebljbhpbaaGreatDoorM19
set_option maxRecDepth 100000
set_option maxHeartbeats 4000000
namespace Go.Proofs
open Go.Ab
@[simp] def gas.out (_x0 : Int) (r : ByteArray) : Out := { av := .lit (.string r), M := none }
theorem gas.can (x0 : Int) (r : ByteArray) (hr : gas x0 = some r) : CallOk Tryz.prog 76 [.lit (.int .i64 x0)] [] (gas.out x0 r) := by
 unfold gas at hr;have hΓ := gamL_nil (P := Tryz.prog);refine cw Tryz.func76 rfl (by kernel_rfl) rfl rfl (by simp) fun _ _ _ => ?_;refine tq hΓ [] [] ?_;refine AWp.seq ?_;refine tq hΓ [3] [0] ?_;refine AWp.block ?_;refine tq hΓ [4] [] ?_;refine AWp.cnd hr (by simp) (fun h9 hr => ?_) (fun h9 hr => ?_)
 ·refine tq hΓ [2] [4, 3] ?_ (by simp [h9]; exact rr);obtain rfl := La hr;exact AWp.ret (Lb (by simp))
 ·refine tq hΓ [6] [4] ?_ (by simp [h9]; exact rr);refine AWp.cnd hr (by simp) (fun h10 hr => ?_) (fun h10 hr => ?_)
  ·refine tq hΓ [2] [6, 3] ?_ (by simp [h10]; exact rr);obtain rfl := La hr;exact AWp.ret (Lb (by simp))
  ·refine tq hΓ [8] [6] ?_ (by simp [h10]; exact rr);refine AWp.cnd hr (by simp) (fun h11 hr => ?_) (fun h11 hr => ?_)
   ·refine tq hΓ [2] [8, 3] ?_ (by simp [h11]; exact rr);obtain rfl := La hr;exact AWp.ret (Lb (by simp))
   ·refine tq hΓ [10] [8] ?_ (by simp [h11]; exact rr);refine AWp.cnd hr (by simp) (fun h12 hr => ?_) (fun h12 hr => ?_)
    ·refine tq hΓ [2] [10, 3] ?_ (by simp [h12]; exact rr);obtain rfl := La hr;exact AWp.ret (Lb (by simp))
    ·refine tq hΓ [12] [10] ?_ (by simp [h12]; exact rr);refine AWp.cnd hr (by simp) (fun h13 hr => ?_) (fun h13 hr => ?_)
     ·refine tq hΓ [2] [12, 3] ?_ (by simp [h13]; exact rr);obtain rfl := La hr;exact AWp.ret (Lb (by simp))
     ·refine tq hΓ [14] [12] ?_ (by simp [h13]; exact rr);refine AWp.cnd hr (by simp) (fun h14 hr => ?_) (fun h14 hr => ?_)
      ·refine tq hΓ [2] [14, 3] ?_ (by simp [h14]; exact rr);obtain rfl := La hr;exact AWp.ret (Lb (by simp))
      ·refine tq hΓ [16] [14] ?_ (by simp [h14]; exact rr);refine AWp.cnd hr (by simp) (fun h15 hr => ?_) (fun h15 hr => ?_)
       ·refine tq hΓ [2] [16, 3] ?_ (by simp [h15]; exact rr);obtain rfl := La hr;exact AWp.ret (Lb (by simp))
       ·refine tq hΓ [18] [16, 3] ?_ (by simp [h15]; exact rr);refine AWp.cnd hr (by simp) (fun h16 hr => ?_) (fun h16 hr => ?_)
        ·refine tq hΓ [2] [18] ?_ (by simp [h16]; exact rr);obtain rfl := La hr;exact AWp.ret (Lb (by simp))
        ·refine AWp.skip ?_;refine tq hΓ [2] [18] ?_ (by simp [h16]; exact rr);obtain rfl := La hr;exact AWp.ret (Lb (by simp))
@[simp] noncomputable def gas.S : Sp
  | [.lit (.int .i64 x0)], _ => some { av := .lit (.string ((gas x0).getD dflt)), M := none, obl := (gas x0).isSome = true }
  | _, _ => none
theorem gas.ok : SpecOk Tryz.prog 76 gas.S := by
 intro l M out h;unfold gas.S at h;split at h
 ·rename_i x0;cases h;refine callOk_of fun ho => ?_;have hs := ho;obtain ⟨r, hr⟩ := so1 hs;simp only [hr, gd1];have q := Lf (M := M) [] (gas.can x0 r hr) (by simp) rfl ixn;exact callOk_conv q trivial (by simp) (by simp [frameOut]) (by simp [frameOut])
 ·cases h
@[simp] def gC.out (_x0 : Int) (_x1 : Int) (r : Bool) : Out := { av := .lit (.bool r), M := none }
def gC.fin (x0 : Int) (x1 : Int) (r : Bool) (σ : St) : Prop := finK (gC.out x0 x1 r) [] σ.M (resA Tryz.ty σ.A σ.M Tryz.f118.results.toList)
theorem gC.can (x0 : Int) (x1 : Int) (r : Bool) (hr : gC x0 x1 = some r) : CallOk Tryz.prog 118 [.lit (.int .i64 x0), .lit (.int .i32 x1)] [] (gC.out x0 x1 r) := by
 unfold gC at hr;have hΓ := (gamL_cons gas.ok (gamL_nil) : GamOk Tryz.prog _);refine cw Tryz.func118 rfl (by kernel_rfl) rfl rfl (by simp) fun _ _ _ => ?_;refine tq hΓ [] [] ?_;refine AWp.seq ?_;obtain ⟨r1, h4, hr⟩ := Lc hr;refine tq hΓ [9] [0] ?_ (by simp [h4]; exact rr);refine AWp.loopE (fun (s1 : Nat) (γ1 : Unit) => ⟨[⟨9, none, .it 0⟩, ⟨1, none, .lit (.int .i32 x1)⟩], [.iter r1 s1]⟩) (fun (v1 : Unit) (γ1a : Unit) => ⟨[], [.dead]⟩) (gC.fin x0 x1) hr () 1 (by simp) (fun s1 f γ1 hr => ?_) (fun v1 γ1a σ1 m1 hr hc => ?_) (fun _ h => h)
 ·unfold gC.loop1 at hr;cases h5 : (nextB r1 s1) with
  | true =>
    have hr := cond_t h5 hr;refine tq hΓ [10, 11] [] ?_ (by simp [h5]; exact rr);refine AWp.seq ?_;refine AWp.cond (b := true) (by simp) (fun hb => ?_) (fun hb => ?_)
    ·refine AWp.skip ?_;refine AWp.block ?_;refine tq hΓ [6] [10, 11] ?_ (by simp; exact rr);refine tq hΓ [15] [6] ?_ (by simp; exact rr);refine AWp.cnd hr (by simp) (fun h6 hr => ?_) (fun h6 hr => ?_)
     ·refine tq hΓ [4] [15, 9, 1] ?_ (by simp [h6]; exact rr);refine AWp.ret ?_;obtain rfl := La hr;refine Lr ?_;refine Lb ?_;simp
     ·refine AWp.skip ?_;obtain rfl := La hr;exact Lj () 1 (by first | (simp; done) | simp [h4, h5, h6])
    ·cases hb
  | false =>
    have hr := cond_f h5 hr;refine tq hΓ [10, 11] [] ?_ (by simp [h5]; exact rr);refine AWp.seq ?_;refine AWp.cond (b := false) (by simp) (fun hb => ?_) (fun hb => ?_)
    ·cases hb
    ·refine AWp.exit ?_;obtain rfl := La hr;exact Ll () 1 (by first | (simp; done) | simp [h4, h5])
 ·refine AWp.conv hc ?_;refine tq hΓ [4] [] ?_ (by simp; exact rr);obtain rfl := La hr;exact AWp.ret (Lb (by simp))
@[simp] noncomputable def gC.S : Sp
  | [.lit (.int .i64 x0), .lit (.int .i32 x1)], _ => some { av := .lit (.bool ((gC x0 x1).getD dflt)), M := none, obl := (gC x0 x1).isSome = true }
  | _, _ => none
theorem gC.ok : SpecOk Tryz.prog 118 gC.S := by
 intro l M out h;unfold gC.S at h;split at h
 ·rename_i x0 x1;cases h;refine callOk_of fun ho => ?_;have hs := ho;obtain ⟨r, hr⟩ := so1 hs;simp only [hr, gd1];have q := Lf (M := M) [] (gC.can x0 x1 r hr) (by simp) rfl ixn;exact callOk_conv q trivial (by simp) (by simp [frameOut]) (by simp [frameOut])
 ·cases h
@[simp] def gao.out (_x0 : Int) (r : Bool) : Out := { av := .lit (.bool r), M := none }
theorem gao.can (x0 : Int) (r : Bool) (hr : gao x0 = some r) : CallOk Tryz.prog 78 [.lit (.int .i64 x0)] [] (gao.out x0 r) := by
 unfold gao at hr;have hΓ := gamL_nil (P := Tryz.prog);refine cw Tryz.func78 rfl (by kernel_rfl) rfl rfl (by simp) fun _ _ _ => ?_;refine tq hΓ [] [] ?_;refine tq hΓ [2] [0] ?_;obtain rfl := La hr;exact AWp.ret (Lb (by simp))
@[simp] noncomputable def gao.S : Sp
  | [.lit (.int .i64 x0)], _ => some { av := .lit (.bool ((gao x0).getD dflt)), M := none, obl := (gao x0).isSome = true }
  | _, _ => none
theorem gao.ok : SpecOk Tryz.prog 78 gao.S := by
 intro l M out h;unfold gao.S at h;split at h
 ·rename_i x0;cases h;refine callOk_of fun ho => ?_;have hs := ho;obtain ⟨r, hr⟩ := so1 hs;simp only [hr, gd1];have q := Lf (M := M) [] (gao.can x0 r hr) (by simp) rfl ixn;exact callOk_conv q trivial (by simp) (by simp [frameOut]) (by simp [frameOut])
 ·cases h
@[simp] def gv.out (_x0 : Tc) (r : Bool) : Out := { av := .lit (.bool r), M := none }
def gv.fin (x0 : Tc) (r : Bool) (σ : St) : Prop := finK (gv.out x0 r) [] σ.M (resA Tryz.ty σ.A σ.M Tryz.f77.results.toList)
theorem gv.can (x0 : Tc) (r : Bool) (hr : gv x0 = some r) : CallOk Tryz.prog 77 [.agg [.lit (.int .i64 x0.fm), .lit (.string x0.fk), .lit (.string x0.fo), .lit (.int .i64 x0.fc), .lit (.int .i64 x0.fOf), .lit (.int .i64 x0.ff), .lit (.int .i64 x0.fp), .lit (.bool x0.fOn), .lit (.bool x0.fq), .sl (x0.fb.map (eNum .u32)) .no]] [] (gv.out x0 r) := by
 unfold gv at hr;have hΓ := (gamL_cons gC.ok (gamL_nil) : GamOk Tryz.prog _);refine cw Tryz.func77 rfl (by kernel_rfl) rfl rfl (by simp) fun _ _ _ => ?_;refine tq hΓ [1] [0] ?_;refine tq hΓ [3] [] ?_;refine AWp.meetF (fun (v1 : Unit) (γ1 : Unit) => ⟨[], [.blk x0.enc]⟩) (gv.fin x0) hr (fun f hr => ?_) (fun v1 γ1 hr => ?_) (fun _ h => h)
 ·refine AWp.block ?_;refine AWp.meetF (fun (v2 : Bool) (γ2 : Unit) => ⟨[⟨3, none, .n x0.fm⟩, ⟨1, none, .ptr 0 0⟩, ⟨6, none, .b v2⟩], [.blk x0.enc]⟩) (QRm (gv.fin x0)) hr (fun f hr => ?_) (fun v2 γ2 hr => ?_) (fun _ h => QRm_ret h)
  ·obtain ⟨r1, h16, hr⟩ := Lc hr;obtain ⟨h17, hr⟩ := Ld hr;refine tq hΓ [6] [] ?_ (by simp [h16, h17]; exact rr);refine AWp.cnd hr (by simp) (fun h18 hr => ?_) (fun h18 hr => ?_)
   ·refine AWp.skip ?_;obtain rfl := La hr;exact meet_go () 1 (by first | (simp; done) | simp [h18])
   ·obtain ⟨r2, h19, hr⟩ := Lc hr;refine tq hΓ [6] [] ?_ (by simp [h18, h19]; exact rr);refine AWp.cnd hr (by simp) (fun h20 hr => ?_) (fun h20 hr => ?_)
    ·refine AWp.skip ?_;obtain rfl := La hr;exact meet_go () 1 (by first | (simp; done) | simp [h20])
    ·obtain ⟨r3, h21, hr⟩ := Lc hr;refine tq hΓ [6] [] ?_ (by simp [h20, h21]; exact rr);refine AWp.cnd hr (by simp) (fun h22 hr => ?_) (fun h22 hr => ?_)
     ·refine AWp.skip ?_;obtain rfl := La hr;exact meet_go () 1 (by first | (simp; done) | simp [h22])
     ·obtain ⟨r4, h23, hr⟩ := Lc hr;refine tl hΓ [6] [] ?_ (by simp [h22, h23]; exact rr);obtain rfl := La hr;exact meet_go () 1 (by first | (simp; done) | simp [h16, h17, h18, h19, h20, h21, h22, h23])
  ·refine AWp.cnd hr (by simp) (fun h24 hr => ?_) (fun h24 hr => ?_)
   ·refine tq hΓ [2] [3, 1, 6] ?_ (by simp [h24]; exact rr);refine AWp.ret ?_;obtain rfl := La hr;refine meet_ret ?_;refine Lb ?_;simp
   ·refine AWp.meetF (fun (v3 : Bool) (γ3 : Unit) => ⟨[⟨42, none, .b v3⟩], [.blk x0.enc]⟩) (QRm (gv.fin x0)) hr (fun f hr => ?_) (fun v3 γ3 hr => ?_) (fun _ h => QRm_ret h)
    ·obtain ⟨r5, h25, hr⟩ := Lc hr;refine tq hΓ [42] [6] ?_ (by simp [h24, h25]; exact rr);refine AWp.cnd hr (by simp) (fun h26 hr => ?_) (fun h26 hr => ?_)
     ·refine AWp.skip ?_;obtain rfl := La hr;exact meet_go () 1 (by first | (simp; done) | simp [h26])
     ·obtain ⟨r6, h27, hr⟩ := Lc hr;refine tq hΓ [42] [] ?_ (by simp [h26, h27]; exact rr);refine AWp.cnd hr (by simp) (fun h28 hr => ?_) (fun h28 hr => ?_)
      ·refine AWp.skip ?_;obtain rfl := La hr;exact meet_go () 1 (by first | (simp; done) | simp [h28])
      ·obtain ⟨r7, h29, hr⟩ := Lc hr;refine tl hΓ [42] [3, 1] ?_ (by simp [h28, h29]; exact rr);obtain rfl := La hr;exact meet_go () 1 (by first | (simp; done) | simp [h24, h25, h26, h27, h28, h29])
    ·refine AWp.cnd hr (by simp) (fun h30 hr => ?_) (fun h30 hr => ?_)
     ·refine tq hΓ [2] [42] ?_ (by simp [h30]; exact rr);refine AWp.ret ?_;obtain rfl := La hr;refine meet_ret ?_;refine Lb ?_;simp
     ·refine AWp.skip ?_;obtain rfl := La hr;exact meet_go () 1 (by first | (simp; done) | simp [h24, h30])
 ·refine tq hΓ [2] [] ?_;obtain rfl := La hr;exact AWp.ret (Lb (by simp))
@[simp] noncomputable def gv.S : Sp
  | [.agg e0], _ => some { av := .lit (.bool ((gv (Tc.dec e0)).getD dflt)), M := none, obl := WeakL e0 (Tc.enc (Tc.dec e0)) ∧ (gv (Tc.dec e0)).isSome = true }
  | _, _ => none
theorem gv.ok : SpecOk Tryz.prog 77 gv.S := by
 intro l M out h;unfold gv.S at h;split at h
 ·rename_i e0;cases h;refine callOk_of fun ho => ?_;obtain ⟨ox0, hs⟩ := ho;generalize (Tc.dec e0) = x0 at *
  obtain ⟨r, hr⟩ := so1 hs;simp only [hr, gd1];have q := Lf (M := M) [] (gv.can x0 r hr) (by simp) rfl ixn;exact callOk_conv q trivial (by simp; exact ox0) (by simp [frameOut]) (by simp [frameOut])
 ·cases h
@[simp] def gg.out (_x0 : Tc) (r : Int) : Out := { av := .lit (.int .i64 r), M := none }
def gg.fin (x0 : Tc) (r : Int) (σ : St) : Prop := finK (gg.out x0 r) [] σ.M (resA Tryz.ty σ.A σ.M Tryz.f80.results.toList)
theorem gg.can (x0 : Tc) (r : Int) (hr : gg x0 = some r) : CallOk Tryz.prog 80 [.agg [.lit (.int .i64 x0.fm), .lit (.string x0.fk), .lit (.string x0.fo), .lit (.int .i64 x0.fc), .lit (.int .i64 x0.fOf), .lit (.int .i64 x0.ff), .lit (.int .i64 x0.fp), .lit (.bool x0.fOn), .lit (.bool x0.fq), .sl (x0.fb.map (eNum .u32)) .no]] [] (gg.out x0 r) := by
 unfold gg at hr;have hΓ := gamL_nil (P := Tryz.prog);refine cw Tryz.func80 rfl (by kernel_rfl) rfl rfl (by simp) fun _ _ _ => ?_;refine tq hΓ [1] [0] ?_;refine tq hΓ [3] [] ?_;refine AWp.seq ?_;refine AWp.block ?_;refine tq hΓ [11] [3] ?_;refine AWp.cnd hr (by simp) (fun h8 hr => ?_) (fun h8 hr => ?_)
 ·refine tq hΓ [2] [11, 1] ?_ (by simp [h8]; exact rr);obtain rfl := La hr;exact AWp.ret (Lb (by simp))
 ·refine AWp.skip ?_;refine AWp.seq ?_;refine tq hΓ [28, 29, 30] [11] ?_ (by simp [h8]; exact rr);refine AWp.loopE (fun (s1 : Int) (γ1 : Unit) => ⟨[⟨28, none, .sl (x0.fb.map (eNum .u32)) .no⟩, ⟨29, none, .n (lenL x0.fb)⟩, ⟨30, none, .n s1⟩, ⟨1, none, .ptr 0 0⟩], [.blk x0.enc]⟩) (fun (v1 : Unit) (γ1a : Unit) => ⟨[], [.blk x0.enc]⟩) (gg.fin x0) hr () 1 (by simp) (fun s1 f γ1 hr => ?_) (fun v1 γ1a σ1 m1 hr hc => ?_) (fun _ h => h)
  ·unfold gg.loop1 at hr;refine tq hΓ [31] [] ?_ (by simp; exact rr);refine AWp.seq ?_;refine AWp.cnd hr (by simp) (fun h9 hr => ?_) (fun h9 hr => ?_)
   ·refine AWp.skip ?_;refine AWp.seq ?_;refine AWp.block ?_;obtain ⟨h10, hr⟩ := Ld hr;refine tq hΓ [4, 5] [31] ?_ (by simp [h9, h10]; exact rr);obtain ⟨h11, hr⟩ := Ld hr;refine tq hΓ [38, 39, 40] [4] ?_ (by simp [h11]; exact rr);refine AWp.loopE (fun (s2 : Int) (γ2 : Unit) => ⟨[⟨38, none, .sl ((cutL x0.fb 0 s1).map (eNum .u32)) .no⟩, ⟨39, none, .n (lenL (cutL x0.fb 0 s1))⟩, ⟨40, none, .n s2⟩, ⟨5, none, .lit (.int .u32 (nthI x0.fb s1))⟩, ⟨28, none, .sl (x0.fb.map (eNum .u32)) .no⟩, ⟨29, none, .n (lenL x0.fb)⟩, ⟨30, none, .n s1⟩, ⟨1, none, .ptr 0 0⟩], [.blk x0.enc]⟩) (fun (v2 : Unit) (γ2a : Unit) => ⟨[⟨28, none, .sl (x0.fb.map (eNum .u32)) .no⟩, ⟨29, none, .n (lenL x0.fb)⟩, ⟨30, none, .n s1⟩, ⟨1, none, .ptr 0 0⟩], [.blk x0.enc]⟩) (QRr (gg.fin x0)) hr () 1 (by simp) (fun s2 f γ2 hr => ?_) (fun v2 γ2a σ1 m1 hr hc => ?_) (fun _ h => QRr_ret h)
    ·unfold gg.loop2 at hr;refine tq hΓ [41] [] ?_ (by simp; exact rr);refine AWp.seq ?_;refine AWp.cnd hr (by simp) (fun h12 hr => ?_) (fun h12 hr => ?_)
     ·refine AWp.skip ?_;refine AWp.seq ?_;refine AWp.block ?_;obtain ⟨h13, hr⟩ := Ld hr;refine tq hΓ [7] [41] ?_ (by simp [h12, h13]; exact rr);refine tq hΓ [46] [7] ?_ (by simp; exact rr);refine AWp.cnd hr (by simp) (fun h14 hr => ?_) (fun h14 hr => ?_)
      ·refine tq hΓ [2] [46, 38, 39, 40, 5, 28, 29, 30, 1] ?_ (by simp [h14]; exact rr);refine AWp.ret ?_;obtain rfl := La hr;refine Lr ?_;refine ⟨_, rfl, ?_⟩;refine Lb ?_;simp
      ·refine AWp.skip ?_;refine tl hΓ [40] [46] ?_ (by simp [h14]; exact rr);obtain rfl := La hr;exact Lj () 1 (by first | (simp; done) | simp [h8, h9, h10, h11, h12, h13, h14])
     ·refine AWp.exit ?_;obtain rfl := La hr;exact Ll () 1 (by first | (simp; done) | simp [h8, h9, h10, h11, h12])
    ·refine AWp.conv hc ?_;refine tl hΓ [30] [] ?_ (by simp; exact rr);obtain rfl := La hr;exact Lj () 1 (by first | (simp; done) | simp [h8, h9, h10, h11])
   ·refine AWp.exit ?_;obtain rfl := La hr;exact Ll () 1 (by first | (simp; done) | simp [h8, h9])
  ·refine AWp.conv hc ?_;refine tq hΓ [2] [] ?_ (by simp; exact rr);obtain rfl := La hr;exact AWp.ret (Lb (by simp))
@[simp] noncomputable def gg.S : Sp
  | [.agg e0], _ => some { av := .lit (.int .i64 ((gg (Tc.dec e0)).getD dflt)), M := none, obl := WeakL e0 (Tc.enc (Tc.dec e0)) ∧ (gg (Tc.dec e0)).isSome = true }
  | _, _ => none
theorem gg.ok : SpecOk Tryz.prog 80 gg.S := by
 intro l M out h;unfold gg.S at h;split at h
 ·rename_i e0;cases h;refine callOk_of fun ho => ?_;obtain ⟨ox0, hs⟩ := ho;generalize (Tc.dec e0) = x0 at *
  obtain ⟨r, hr⟩ := so1 hs;simp only [hr, gd1];have q := Lf (M := M) [] (gg.can x0 r hr) (by simp) rfl ixn;exact callOk_conv q trivial (by simp; exact ox0) (by simp [frameOut]) (by simp [frameOut])
 ·cases h
@[simp] def gP.out (_x0 : Tc) (r : Int) : Out := { av := .lit (.int .i64 r), M := none }
theorem gP.can (x0 : Tc) (r : Int) (hr : gP x0 = some r) : CallOk Tryz.prog 33 [.agg [.lit (.int .i64 x0.fm), .lit (.string x0.fk), .lit (.string x0.fo), .lit (.int .i64 x0.fc), .lit (.int .i64 x0.fOf), .lit (.int .i64 x0.ff), .lit (.int .i64 x0.fp), .lit (.bool x0.fOn), .lit (.bool x0.fq), .sl (x0.fb.map (eNum .u32)) .no]] [] (gP.out x0 r) := by
 unfold gP at hr;have hΓ := (gamL_cons gv.ok (gamL_cons gg.ok (gamL_cons gas.ok (gamL_cons gao.ok (gamL_cons gB.ok (gamL_nil))))) : GamOk Tryz.prog _);refine cw Tryz.func33 rfl (by kernel_rfl) rfl rfl (by simp) fun _ _ _ => ?_;refine tq hΓ [1] [0] ?_;refine AWp.seq ?_;refine AWp.block ?_;obtain ⟨r1, h13, hr⟩ := Lc hr;refine tq hΓ [3] [] ?_ (by simp [h13]; exact rr);refine AWp.cnd hr (by simp) (fun h14 hr => ?_) (fun h14 hr => ?_)
 ·refine tq hΓ [2] [3, 1] ?_ (by simp [h14]; exact rr);obtain rfl := La hr;exact AWp.ret (Lb (by simp))
 ·obtain ⟨r2, h15, hr⟩ := Lc hr;refine tq hΓ [8] [3] ?_ (by simp [h14, h15]; exact rr);refine AWp.cnd hr (by simp) (fun h16 hr => ?_) (fun h16 hr => ?_)
  ·refine tq hΓ [2] [8, 1] ?_ (by simp [h16]; exact rr);obtain rfl := La hr;exact AWp.ret (Lb (by simp))
  ·obtain ⟨r3, h17, hr⟩ := Lc hr;obtain ⟨h18, hr⟩ := Ld hr;refine tq hΓ [12] [8] ?_ (by simp [h16, h17, h18]; exact rr);refine AWp.cnd hr (by simp) (fun h19 hr => ?_) (fun h19 hr => ?_)
   ·refine tq hΓ [2] [12, 1] ?_ (by simp [h19]; exact rr);obtain rfl := La hr;exact AWp.ret (Lb (by simp))
   ·obtain ⟨h20, hr⟩ := Ld hr;obtain ⟨h21, hr⟩ := Ld hr;refine tq hΓ [43] [12] ?_ (by simp [h19, h20, h21]; exact rr);refine AWp.cnd hr (by simp) (fun h22 hr => ?_) (fun h22 hr => ?_)
    ·refine tq hΓ [2] [43, 1] ?_ (by simp [h22]; exact rr);obtain rfl := La hr;exact AWp.ret (Lb (by simp))
    ·refine tq hΓ [59] [43] ?_ (by simp [h22]; exact rr);refine AWp.cnd hr (by simp) (fun h23 hr => ?_) (fun h23 hr => ?_)
     ·obtain ⟨r4, h24, hr⟩ := Lc hr;refine tq hΓ [2] [59, 1] ?_ (by simp [h23, h24]; exact rr);obtain rfl := La hr;exact AWp.ret (Lb (by simp))
     ·refine AWp.skip ?_;refine tq hΓ [2] [59, 1] ?_ (by simp [h23]; exact rr);obtain rfl := La hr;exact AWp.ret (Lb (by simp))
@[simp] noncomputable def gP.S : Sp
  | [.agg e0], _ => some { av := .lit (.int .i64 ((gP (Tc.dec e0)).getD dflt)), M := none, obl := WeakL e0 (Tc.enc (Tc.dec e0)) ∧ (gP (Tc.dec e0)).isSome = true }
  | _, _ => none
theorem gP.ok : SpecOk Tryz.prog 33 gP.S := by
 intro l M out h;unfold gP.S at h;split at h
 ·rename_i e0;cases h;refine callOk_of fun ho => ?_;obtain ⟨ox0, hs⟩ := ho;generalize (Tc.dec e0) = x0 at *
  obtain ⟨r, hr⟩ := so1 hs;simp only [hr, gd1];have q := Lf (M := M) [] (gP.can x0 r hr) (by simp) rfl ixn;exact callOk_conv q trivial (by simp; exact ox0) (by simp [frameOut]) (by simp [frameOut])
 ·cases h
end Go.Proofs

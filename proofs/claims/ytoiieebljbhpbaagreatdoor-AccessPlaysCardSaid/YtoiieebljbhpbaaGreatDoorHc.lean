import Derived.Test.YtoiieebljbhpbaaGreatDoorM13
import Derived.Test.YtoiieebljbhpbaaGreatDoorTy
import Derived.Test.YtoiieebljbhpbaaGreatDoorM19
set_option maxRecDepth 100000
set_option maxHeartbeats 4000000
namespace Go.Proofs
open Go.Ab
@[simp] def gQ.out (_x0 : Tl) (_x1 : Int) (r : Ta × Bool) : Out := { av := .tup [.agg [.lit (.int .i64 r.1.fN), .lit (.string r.1.fo), .lit (.string r.1.fk)], .lit (.bool r.2)], M := none }
def gQ.fin (x0 : Tl) (x1 : Int) (r : Ta × Bool) (σ : St) : Prop := finK (gQ.out x0 x1 r) [] σ.M (resA Tryz.ty σ.A σ.M Tryz.f50.results.toList)
theorem gQ.can (x0 : Tl) (x1 : Int) (r : Ta × Bool) (hr : gQ x0 x1 = some r) : CallOk Tryz.prog 50 [.agg [.sl (x0.fL.map Ta.enc) .no, .lit (.int .i64 x0.fh)], .lit (.int .i64 x1)] [] (gQ.out x0 x1 r) := by
 unfold gQ at hr;have hΓ := gamL_nil (P := Tryz.prog);refine cw Tryz.func50 rfl (by kernel_rfl) rfl rfl (by simp) fun _ _ _ => ?_;refine tq hΓ [2, 4] [0] ?_;refine AWp.seq ?_;refine tq hΓ [9, 10, 11] [2] ?_;refine AWp.loopE (fun (s1 : Int) (γ1 : Unit) => ⟨[⟨9, none, .sl (x0.fL.map Ta.enc) .no⟩, ⟨10, none, .n (lenL x0.fL)⟩, ⟨11, none, .n s1⟩, ⟨4, none, .ptr 1 0⟩, ⟨1, none, .n x1⟩], [.blk x0.enc, .blk [.n 0, .s ⟨#[]⟩, .s ⟨#[]⟩]]⟩) (fun (v1 : Unit) (γ1a : Unit) => ⟨[⟨4, none, .ptr 1 0⟩], [.blk x0.enc, .blk [.n 0, .s ⟨#[]⟩, .s ⟨#[]⟩]]⟩) (gQ.fin x0 x1) hr () 2 (by simp) (fun s1 f γ1 hr => ?_) (fun v1 γ1a σ1 m1 hr hc => ?_) (fun _ h => h)
 ·unfold gQ.loop1 at hr;refine tq hΓ [12] [] ?_;refine AWp.seq ?_;refine AWp.cnd hr (by simp) (fun h4 hr => ?_) (fun h4 hr => ?_)
  ·refine AWp.skip ?_;refine AWp.seq ?_;refine AWp.block ?_;obtain ⟨h5, hr⟩ := Ld hr;refine tq hΓ [7] [12] ?_ (by simp [h4, h5]; exact rr);refine tq hΓ [18] [] ?_ (by simp; exact rr);refine AWp.cnd hr (by simp) (fun h6 hr => ?_) (fun h6 hr => ?_)
   ·refine tq hΓ [5] [18, 7, 9, 10, 11, 1] ?_ (by simp [h6]; exact rr);refine AWp.ret ?_;obtain rfl := La hr;refine Lr ?_;refine Lb ?_;simp
   ·refine AWp.skip ?_;refine tl hΓ [11] [18, 7] ?_ (by simp [h6]; exact rr);obtain rfl := La hr;exact Lj () 2 (by first | (simp; done) | simp [h4, h5, h6])
  ·refine AWp.exit ?_;obtain rfl := La hr;exact Ll () 2 (by first | (simp; done) | simp [h4])
 ·refine AWp.conv hc ?_;refine tq hΓ [5] [] ?_;obtain rfl := La hr;exact AWp.ret (Lb (by simp))
@[simp] noncomputable def gQ.S : Sp
  | [.agg e0, .lit (.int .i64 x1)], _ => some { av := .tup [.agg [.lit (.int .i64 (((gQ (Tl.dec e0) x1).getD dflt).1.fN)), .lit (.string (((gQ (Tl.dec e0) x1).getD dflt).1.fo)), .lit (.string (((gQ (Tl.dec e0) x1).getD dflt).1.fk))], .lit (.bool (((gQ (Tl.dec e0) x1).getD dflt).2))], M := none, obl := WeakL e0 (Tl.enc (Tl.dec e0)) ∧ (gQ (Tl.dec e0) x1).isSome = true }
  | _, _ => none
theorem gQ.ok : SpecOk Tryz.prog 50 gQ.S := by
 intro l M out h;unfold gQ.S at h;split at h
 ·rename_i e0 x1;cases h;refine callOk_of fun ho => ?_;obtain ⟨ox0, hs⟩ := ho;generalize (Tl.dec e0) = x0 at *
  obtain ⟨r, hr⟩ := so1 hs;simp only [hr, gd1];have q := Lf (M := M) [] (gQ.can x0 x1 r hr) (by simp) rfl ixn;exact callOk_conv q trivial (by simp; exact ox0) (by simp [frameOut]) (by simp [frameOut])
 ·cases h
@[simp] def gak.out (_x0 : Tl) (_x1 : ByteArray) (r : List Ta) : Out := { av := .sl (r.map Ta.enc) .no, M := none }
def gak.fin (x0 : Tl) (x1 : ByteArray) (r : List Ta) (σ : St) : Prop := finK (gak.out x0 x1 r) [] σ.M (resA Tryz.ty σ.A σ.M Tryz.f101.results.toList)
theorem gak.can (x0 : Tl) (x1 : ByteArray) (r : List Ta) (hr : gak x0 x1 = some r) : CallOk Tryz.prog 101 [.agg [.sl (x0.fL.map Ta.enc) .no, .lit (.int .i64 x0.fh)], .lit (.string x1)] [] (gak.out x0 x1 r) := by
 unfold gak at hr;have hΓ := (gamL_cons gF.ok (gamL_nil) : GamOk Tryz.prog _);refine cw Tryz.func101 rfl (by kernel_rfl) rfl rfl (by simp) fun _ _ _ => ?_;refine tq hΓ [2] [0] ?_;refine tq hΓ [5] [] ?_;refine AWp.seq ?_;refine tq hΓ [10, 11, 12] [2] ?_;refine AWp.equip 5 3 (els := []) (by simp) (by simp) ?_;refine AWp.loopE (fun (s1 : Int × List Ta) (γ1 : Nat) => ⟨[⟨10, none, .sl (x0.fL.map Ta.enc) .no⟩, ⟨11, none, .n (lenL x0.fL)⟩, ⟨12, none, .n s1.1⟩, ⟨5, none, .sl (s1.2.map Ta.enc) (.own 1 (γ1) 3)⟩, ⟨1, none, .s x1⟩], [.blk x0.enc, .room (γ1)]⟩) (fun (v1 : List Ta) (γ1a : Nat) => ⟨[⟨5, none, .sl (v1.map Ta.enc) (.own 1 (γ1a) 3)⟩], [.blk x0.enc, .room (γ1a)]⟩) (gak.fin x0 x1) hr 0 2 (by simp) (fun s1 f γ1 hr => ?_) (fun v1 γ1a σ1 m1 hr hc => ?_) (fun _ h => h)
 ·unfold gak.loop1 at hr;refine tq hΓ [13] [] ?_;refine AWp.seq ?_;refine AWp.cnd hr (by simp) (fun h7 hr => ?_) (fun h7 hr => ?_)
  ·refine AWp.skip ?_;refine AWp.seq ?_;refine AWp.block ?_;obtain ⟨h8, hr⟩ := Ld hr;refine tq hΓ [7] [13] ?_ (by simp [h7, h8]; exact rr);obtain ⟨r1, h9, hr⟩ := Lc hr;obtain ⟨r2, h10, hr⟩ := Lc hr;refine tq hΓ [21] [] ?_ (by simp [h9, h10]; exact rr);refine AWp.cnd hr (by simp) (fun h11 hr => ?_) (fun h11 hr => ?_)
   ·obtain ⟨h12, hr⟩ := Ld hr;refine tl hΓ [5] [21, 7] ?_ (by simp [h11, h12]; exact rr);refine tl hΓ [12] [] ?_ (by simp; exact rr);obtain rfl := La hr;exact Lj (γ1 + 1) 2 (by first | (simp; done) | simp [h7, h8, h9, h10, h11, h12])
   ·refine AWp.skip ?_;refine tl hΓ [12] [21, 7] ?_ (by simp [h11]; exact rr);obtain rfl := La hr;exact Lj (γ1) 2 (by first | (simp; done) | simp [h7, h8, h9, h10, h11])
  ·refine AWp.exit ?_;obtain rfl := La hr;exact Ll (γ1) 2 (by first | (simp; done) | simp [h7])
 ·refine AWp.conv hc ?_;refine tq hΓ [4] [5] ?_;obtain rfl := La hr;exact AWp.ret (Lb (by simp))
@[simp] noncomputable def gak.S : Sp
  | [.agg e0, .lit (.string x1)], _ => some { av := .sl (((gak (Tl.dec e0) x1).getD dflt).map Ta.enc) .no, M := none, obl := WeakL e0 (Tl.enc (Tl.dec e0)) ∧ (gak (Tl.dec e0) x1).isSome = true }
  | _, _ => none
theorem gak.ok : SpecOk Tryz.prog 101 gak.S := by
 intro l M out h;unfold gak.S at h;split at h
 ·rename_i e0 x1;cases h;refine callOk_of fun ho => ?_;obtain ⟨ox0, hs⟩ := ho;generalize (Tl.dec e0) = x0 at *
  obtain ⟨r, hr⟩ := so1 hs;simp only [hr, gd1];have q := Lf (M := M) [] (gak.can x0 x1 r hr) (by simp) rfl ixn;exact callOk_conv q trivial (by simp; exact ox0) (by simp [frameOut]) (by simp [frameOut])
 ·cases h
@[simp] def gY.out (_x0 : Tl) (r : List ByteArray) : Out := { av := .sl (r.map eTxt) .no, M := none }
def gY.fin (x0 : Tl) (r : List ByteArray) (σ : St) : Prop := finK (gY.out x0 r) [] σ.M (resA Tryz.ty σ.A σ.M Tryz.f103.results.toList)
theorem gY.can (x0 : Tl) (r : List ByteArray) (hr : gY x0 = some r) : CallOk Tryz.prog 103 [.agg [.sl (x0.fL.map Ta.enc) .no, .lit (.int .i64 x0.fh)]] [] (gY.out x0 r) := by
 unfold gY at hr;have hΓ := (gamL_cons gF.ok (gamL_cons gak.ok (gamL_nil)) : GamOk Tryz.prog _);refine cw Tryz.func103 rfl (by kernel_rfl) rfl rfl (by simp) fun _ _ _ => ?_;refine tq hΓ [1] [0] ?_;refine tq hΓ [3] [] ?_;refine AWp.seq ?_;refine tq hΓ [8, 9, 10] [] ?_;refine AWp.equip 3 1 (els := []) (by simp) (by simp) ?_;refine AWp.loopE (fun (s1 : Int × List ByteArray) (γ1 : Nat) => ⟨[⟨8, none, .sl (x0.fL.map Ta.enc) .no⟩, ⟨9, none, .n (lenL x0.fL)⟩, ⟨10, none, .n s1.1⟩, ⟨3, none, .sl (s1.2.map eTxt) (.own 1 (γ1) 1)⟩, ⟨1, none, .ptr 0 0⟩], [.blk x0.enc, .room (γ1)]⟩) (fun (v1 : List ByteArray) (γ1a : Nat) => ⟨[⟨3, none, .sl (v1.map eTxt) (.own 1 (γ1a) 1)⟩], [.blk x0.enc, .room (γ1a)]⟩) (gY.fin x0) hr 0 2 (by simp) (fun s1 f γ1 hr => ?_) (fun v1 γ1a σ1 m1 hr hc => ?_) (fun _ h => h)
 ·unfold gY.loop1 at hr;refine tq hΓ [11] [] ?_;refine AWp.seq ?_;refine AWp.cnd hr (by simp) (fun h8 hr => ?_) (fun h8 hr => ?_)
  ·refine AWp.skip ?_;refine AWp.seq ?_;refine AWp.block ?_;obtain ⟨h9, hr⟩ := Ld hr;refine tq hΓ [5, 4] [11] ?_ (by simp [h8, h9]; exact rr);obtain ⟨h10, hr⟩ := Ld hr;obtain ⟨r1, h11, hr⟩ := Lc hr;refine td hΓ [24] [4] [] [(false, []), (false, []), (false, []), (false, []), (false, []), (false, []), (false, []), (false, []), (false, []), (false, [])] (by simp [h10, h11]; exact rr) ?_;refine AWp.cnd hr (by simp) (fun h12 hr => ?_) (fun h12 hr => ?_)
   ·obtain ⟨r2, h13, hr⟩ := Lc hr;obtain ⟨h14, hr⟩ := Ld hr;refine tl hΓ [3] [24, 5] ?_ (by simp [h12, h13, h14]; exact rr);refine tl hΓ [10] [] ?_ (by simp; exact rr);obtain rfl := La hr;exact Lj (γ1 + 1) 2 (by first | (simp; done) | simp [h8, h9, h10, h11, h12, h13, h14])
   ·refine AWp.skip ?_;refine tl hΓ [10] [24, 5] ?_ (by simp [h12]; exact rr);obtain rfl := La hr;exact Lj (γ1) 2 (by first | (simp; done) | simp [h8, h9, h10, h11, h12])
  ·refine AWp.exit ?_;obtain rfl := La hr;exact Ll (γ1) 2 (by first | (simp; done) | simp [h8])
 ·refine AWp.conv hc ?_;refine tq hΓ [2] [3] ?_;obtain rfl := La hr;exact AWp.ret (Lb (by simp))
@[simp] noncomputable def gY.S : Sp
  | [.agg e0], _ => some { av := .sl (((gY (Tl.dec e0)).getD dflt).map eTxt) .no, M := none, obl := WeakL e0 (Tl.enc (Tl.dec e0)) ∧ (gY (Tl.dec e0)).isSome = true }
  | _, _ => none
theorem gY.ok : SpecOk Tryz.prog 103 gY.S := by
 intro l M out h;unfold gY.S at h;split at h
 ·rename_i e0;cases h;refine callOk_of fun ho => ?_;obtain ⟨ox0, hs⟩ := ho;generalize (Tl.dec e0) = x0 at *
  obtain ⟨r, hr⟩ := so1 hs;simp only [hr, gd1];have q := Lf (M := M) [] (gY.can x0 r hr) (by simp) rfl ixn;exact callOk_conv q trivial (by simp; exact ox0) (by simp [frameOut]) (by simp [frameOut])
 ·cases h
@[simp] def gae.out (_x0 : Tl) (_x1 : ByteArray) (_x2 : ByteArray) (r : Tl × Int × Int) : Out := { av := .tup [.agg [.sl (r.1.fL.map Ta.enc) .no, .lit (.int .i64 r.1.fh)], .lit (.int .i64 r.2.1), .lit (.int .i64 r.2.2)], M := none }
def gae.fin (x0 : Tl) (x1 : ByteArray) (x2 : ByteArray) (r : Tl × Int × Int) (σ : St) : Prop := finK (gae.out x0 x1 x2 r) [] σ.M (resA Tryz.ty σ.A σ.M Tryz.f49.results.toList)
theorem gae.can (x0 : Tl) (x1 : ByteArray) (x2 : ByteArray) (r : Tl × Int × Int) (hr : gae x0 x1 x2 = some r) : CallOk Tryz.prog 49 [.agg [.sl (x0.fL.map Ta.enc) .no, .lit (.int .i64 x0.fh)], .lit (.string x1), .lit (.string x2)] [] (gae.out x0 x1 x2 r) := by
 unfold gae at hr;have hΓ := (gamL_cons gF.ok (gamL_cons gM.ok (gamL_cons gak.ok (gamL_cons gY.ok (gamL_nil)))) : GamOk Tryz.prog _);refine cw Tryz.func49 rfl (by kernel_rfl) rfl rfl (by simp) fun _ _ _ => ?_;refine tq hΓ [3, 6] [0] ?_;refine AWp.seq ?_;obtain ⟨r1, h14, hr⟩ := Lc hr;obtain ⟨h15, hr⟩ := Ld hr;refine tq hΓ [19] [] ?_ (by simp [h14, h15]; exact rr);refine AWp.cnd hr (by simp) (fun h16 hr => ?_) (fun h16 hr => ?_)
 ·refine tq hΓ [7, 8] [19, 3, 1, 2] ?_ (by simp [h16]; exact rr);obtain rfl := La hr;exact AWp.ret (Lb (by simp))
 ·refine AWp.skip ?_;obtain ⟨r2, h17, hr⟩ := Lc hr;refine tq hΓ [9] [19] ?_ (by simp [h16, h17]; exact rr);refine AWp.seq ?_;refine tq hΓ [24, 25, 26] [] ?_ (by simp; exact rr);refine AWp.loopE (fun (s1 : Int) (γ1 : Unit) => ⟨[⟨24, none, .sl (r2.map Ta.enc) .no⟩, ⟨25, none, .n (lenL r2)⟩, ⟨26, none, .n s1⟩, ⟨9, none, .sl (r2.map Ta.enc) .no⟩, ⟨3, none, .ptr 0 0⟩, ⟨6, none, .ptr 1 0⟩, ⟨1, none, .s x1⟩, ⟨2, none, .s x2⟩], [.blk x0.enc, .blk [.sl [] .full, .n 0]]⟩) (fun (v1 : Unit) (γ1a : Unit) => ⟨[⟨9, none, .sl (r2.map Ta.enc) .no⟩, ⟨3, none, .ptr 0 0⟩, ⟨6, none, .ptr 1 0⟩, ⟨1, none, .s x1⟩, ⟨2, none, .s x2⟩], [.blk x0.enc, .blk [.sl [] .full, .n 0]]⟩) (gae.fin x0 x1 x2) hr () 2 (by simp) (fun s1 f γ1 hr => ?_) (fun v1 γ1a σ1 m1 hr hc => ?_) (fun _ h => h)
  ·unfold gae.loop1 at hr;refine tq hΓ [27] [] ?_ (by simp; exact rr);refine AWp.seq ?_;refine AWp.cnd hr (by simp) (fun h18 hr => ?_) (fun h18 hr => ?_)
   ·refine AWp.skip ?_;refine AWp.seq ?_;refine AWp.block ?_;obtain ⟨h19, hr⟩ := Ld hr;refine tq hΓ [11] [27] ?_ (by simp [h18, h19]; exact rr);obtain ⟨r3, h20, hr⟩ := Lc hr;obtain ⟨r4, h21, hr⟩ := Lc hr;refine tq hΓ [35] [11] ?_ (by simp [h20, h21]; exact rr);refine AWp.cnd hr (by simp) (fun h22 hr => ?_) (fun h22 hr => ?_)
    ·refine tq hΓ [7, 8] [35, 24, 25, 26, 9, 3, 1, 2] ?_ (by simp [h22]; exact rr);refine AWp.ret ?_;obtain rfl := La hr;refine Lr ?_;refine Lb ?_;simp
    ·refine AWp.skip ?_;refine tl hΓ [26] [35] ?_ (by simp [h22]; exact rr);obtain rfl := La hr;exact Lj () 2 (by first | (simp; done) | simp [h14, h15, h16, h17, h18, h19, h20, h21, h22])
   ·refine AWp.exit ?_;obtain rfl := La hr;exact Ll () 2 (by first | (simp; done) | simp [h14, h15, h16, h17, h18])
  ·refine AWp.conv hc ?_;refine AWp.seq ?_;obtain ⟨h23, hr⟩ := Ld hr;refine tq hΓ [56] [9] ?_ (by simp [h23]; exact rr);refine AWp.cnd hr (by simp) (fun h24 hr => ?_) (fun h24 hr => ?_)
   ·refine tq hΓ [7, 8] [56, 3, 1, 2] ?_ (by simp [h24]; exact rr);obtain rfl := La hr;exact AWp.ret (Lb (by simp))
   ·refine AWp.skip ?_;obtain ⟨h25, hr⟩ := Ld hr;obtain ⟨h26, hr⟩ := Ld hr;refine td hΓ [7, 8] [56, 3, 1, 2] [(4, 0), (5, 0), (6, 0), (7, 0), (8, 0), (9, 0), (11, 0), (11, 4), (12, 0), (12, 4), (13, 0), (13, 4), (15, 0), (15, 4), (15, 18), (16, 0), (16, 4), (16, 18)] [(false, []), (false, []), (false, []), (true, []), (false, []), (false, []), (false, []), (false, []), (false, []), (false, []), (true, []), (false, []), (false, []), (false, []), (false, []), (false, []), (false, []), (true, []), (false, []), (false, [])] (by simp [h24, h25, h26]; exact rr) ?_;obtain rfl := La hr;exact AWp.ret (Lb (by simp))
@[simp] noncomputable def gae.S : Sp
  | [.agg e0, .lit (.string x1), .lit (.string x2)], _ => some { av := .tup [.agg [.sl ((((gae (Tl.dec e0) x1 x2).getD dflt).1.fL).map Ta.enc) .no, .lit (.int .i64 (((gae (Tl.dec e0) x1 x2).getD dflt).1.fh))], .lit (.int .i64 (((gae (Tl.dec e0) x1 x2).getD dflt).2.1)), .lit (.int .i64 (((gae (Tl.dec e0) x1 x2).getD dflt).2.2))], M := none, obl := WeakL e0 (Tl.enc (Tl.dec e0)) ∧ (gae (Tl.dec e0) x1 x2).isSome = true }
  | _, _ => none
theorem gae.ok : SpecOk Tryz.prog 49 gae.S := by
 intro l M out h;unfold gae.S at h;split at h
 ·rename_i e0 x1 x2;cases h;refine callOk_of fun ho => ?_;obtain ⟨ox0, hs⟩ := ho;generalize (Tl.dec e0) = x0 at *
  obtain ⟨r, hr⟩ := so1 hs;simp only [hr, gd1];have q := Lf (M := M) [] (gae.can x0 x1 x2 r hr) (by simp) rfl ixn;exact callOk_conv q trivial (by simp; exact ox0) (by simp [frameOut]) (by simp [frameOut])
 ·cases h
@[simp] def gac.out (_x0 : Tl) (_x1 : Int) (r : Tl × Int) : Out := { av := .tup [.agg [.sl (r.1.fL.map Ta.enc) .no, .lit (.int .i64 r.1.fh)], .lit (.int .i64 r.2)], M := none }
def gac.fin (x0 : Tl) (x1 : Int) (r : Tl × Int) (σ : St) : Prop := finK (gac.out x0 x1 r) [] σ.M (resA Tryz.ty σ.A σ.M Tryz.f104.results.toList)
theorem gac.can (x0 : Tl) (x1 : Int) (r : Tl × Int) (hr : gac x0 x1 = some r) : CallOk Tryz.prog 104 [.agg [.sl (x0.fL.map Ta.enc) .no, .lit (.int .i64 x0.fh)], .lit (.int .i64 x1)] [] (gac.out x0 x1 r) := by
 unfold gac at hr;have hΓ := gamL_nil (P := Tryz.prog);refine cw Tryz.func104 rfl (by kernel_rfl) rfl rfl (by simp) fun _ _ _ => ?_;refine tq hΓ [2, 4] [0] ?_;refine tq hΓ [6] [] ?_;refine AWp.seq ?_;refine tq hΓ [11, 12, 13] [] ?_;refine AWp.equip 6 3 (els := []) (by simp) (by simp) ?_;refine AWp.loopE (fun (s1 : Int × List Ta) (γ1 : Nat) => ⟨[⟨11, none, .sl (x0.fL.map Ta.enc) .no⟩, ⟨12, none, .n (lenL x0.fL)⟩, ⟨13, none, .n s1.1⟩, ⟨6, none, .sl (s1.2.map Ta.enc) (.own 2 (γ1) 3)⟩, ⟨2, none, .ptr 0 0⟩, ⟨4, none, .ptr 1 0⟩, ⟨1, none, .n x1⟩], [.blk x0.enc, .blk [.sl [] .full, .n 0], .room (γ1)]⟩) (fun (v1 : List Ta) (γ1a : Nat) => ⟨[⟨6, none, .sl (v1.map Ta.enc) (.own 2 (γ1a) 3)⟩, ⟨2, none, .ptr 0 0⟩, ⟨4, none, .ptr 1 0⟩], [.blk x0.enc, .blk [.sl [] .full, .n 0], .room (γ1a)]⟩) (gac.fin x0 x1) hr 0 3 (by simp) (fun s1 f γ1 hr => ?_) (fun v1 γ1a σ1 m1 hr hc => ?_) (fun _ h => h)
 ·unfold gac.loop1 at hr;refine tq hΓ [14] [] ?_;refine AWp.seq ?_;refine AWp.cnd hr (by simp) (fun h6 hr => ?_) (fun h6 hr => ?_)
  ·refine AWp.skip ?_;refine AWp.seq ?_;refine AWp.block ?_;obtain ⟨h7, hr⟩ := Ld hr;refine tq hΓ [8] [14] ?_ (by simp [h6, h7]; exact rr);refine tq hΓ [20] [] ?_ (by simp; exact rr);refine AWp.cnd hr (by simp) (fun h8 hr => ?_) (fun h8 hr => ?_)
   ·obtain ⟨h9, hr⟩ := Ld hr;refine tl hΓ [6] [20, 8] ?_ (by simp [h8, h9]; exact rr);refine tl hΓ [13] [] ?_ (by simp; exact rr);obtain rfl := La hr;exact Lj (γ1 + 1) 3 (by first | (simp; done) | simp [h6, h7, h8, h9])
   ·refine AWp.skip ?_;refine tl hΓ [13] [20, 8] ?_ (by simp [h8]; exact rr);obtain rfl := La hr;exact Lj (γ1) 3 (by first | (simp; done) | simp [h6, h7, h8])
  ·refine AWp.exit ?_;obtain rfl := La hr;exact Ll (γ1) 3 (by first | (simp; done) | simp [h6])
 ·refine AWp.conv hc ?_;refine AWp.seq ?_;refine tq hΓ [31] [] ?_;refine AWp.cnd hr (by simp) (fun h10 hr => ?_) (fun h10 hr => ?_)
  ·refine tq hΓ [5] [31, 6, 2] ?_ (by simp [h10]; exact rr);obtain rfl := La hr;exact AWp.ret (Lb (by simp))
  ·refine AWp.skip ?_;refine tq hΓ [5] [31, 6, 2] ?_ (by simp [h10]; exact rr);obtain rfl := La hr;exact AWp.ret (Lb (by simp))
@[simp] noncomputable def gac.S : Sp
  | [.agg e0, .lit (.int .i64 x1)], _ => some { av := .tup [.agg [.sl ((((gac (Tl.dec e0) x1).getD dflt).1.fL).map Ta.enc) .no, .lit (.int .i64 (((gac (Tl.dec e0) x1).getD dflt).1.fh))], .lit (.int .i64 (((gac (Tl.dec e0) x1).getD dflt).2))], M := none, obl := WeakL e0 (Tl.enc (Tl.dec e0)) ∧ (gac (Tl.dec e0) x1).isSome = true }
  | _, _ => none
theorem gac.ok : SpecOk Tryz.prog 104 gac.S := by
 intro l M out h;unfold gac.S at h;split at h
 ·rename_i e0 x1;cases h;refine callOk_of fun ho => ?_;obtain ⟨ox0, hs⟩ := ho;generalize (Tl.dec e0) = x0 at *
  obtain ⟨r, hr⟩ := so1 hs;simp only [hr, gd1];have q := Lf (M := M) [] (gac.can x0 x1 r hr) (by simp) rfl ixn;exact callOk_conv q trivial (by simp; exact ox0) (by simp [frameOut]) (by simp [frameOut])
 ·cases h
@[simp] def gal.out (_x0 : Tl) (_x1 : Int) (_x2 : Int) (r : Bool) : Out := { av := .lit (.bool r), M := none }
theorem gal.can (x0 : Tl) (x1 : Int) (x2 : Int) (r : Bool) (hr : gal x0 x1 x2 = some r) : CallOk Tryz.prog 107 [.agg [.sl (x0.fL.map Ta.enc) .no, .lit (.int .i64 x0.fh)], .lit (.int .i64 x1), .lit (.int .i64 x2)] [] (gal.out x0 x1 x2 r) := by
 unfold gal at hr;have hΓ := (gamL_cons gF.ok (gamL_cons gQ.ok (gamL_nil)) : GamOk Tryz.prog _);refine cw Tryz.func107 rfl (by kernel_rfl) rfl rfl (by simp) fun _ _ _ => ?_;refine tq hΓ [3] [0] ?_;obtain ⟨r1, h5, hr⟩ := Lc hr;refine tq hΓ [7, 8] [] ?_ (by simp [h5]; exact rr);obtain ⟨r2, h6, hr⟩ := Lc hr;refine tq hΓ [9, 10] [3] ?_ (by simp [h6]; exact rr);obtain ⟨h7, hr⟩ := Ld hr;obtain ⟨h8, hr⟩ := Ld hr;refine td hΓ [6] [9, 10, 7, 8, 1, 2] [] [(false, []), (false, []), (false, [24]), (false, []), (false, []), (false, [27]), (false, [27]), (false, [27]), (false, []), (false, []), (false, [32]), (false, [32]), (false, [32]), (false, [32]), (false, [32]), (false, [32]), (false, [32]), (false, []), (false, [])] (by simp [h7, h8]; exact rr) ?_;obtain rfl := La hr;exact AWp.ret (Lb (by simp))
@[simp] noncomputable def gal.S : Sp
  | [.agg e0, .lit (.int .i64 x1), .lit (.int .i64 x2)], _ => some { av := .lit (.bool ((gal (Tl.dec e0) x1 x2).getD dflt)), M := none, obl := WeakL e0 (Tl.enc (Tl.dec e0)) ∧ (gal (Tl.dec e0) x1 x2).isSome = true }
  | _, _ => none
theorem gal.ok : SpecOk Tryz.prog 107 gal.S := by
 intro l M out h;unfold gal.S at h;split at h
 ·rename_i e0 x1 x2;cases h;refine callOk_of fun ho => ?_;obtain ⟨ox0, hs⟩ := ho;generalize (Tl.dec e0) = x0 at *
  obtain ⟨r, hr⟩ := so1 hs;simp only [hr, gd1];have q := Lf (M := M) [] (gal.can x0 x1 x2 r hr) (by simp) rfl ixn;exact callOk_conv q trivial (by simp; exact ox0) (by simp [frameOut]) (by simp [frameOut])
 ·cases h
end Go.Proofs

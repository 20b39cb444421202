import Derived.Test.YtoiieebljbhpbaaGreatDoorM14
import Derived.Test.YtoiieebljbhpbaaGreatDoorTy
import Derived.Test.YtoiieebljbhpbaaGreatDoorM02
import Derived.Test.YtoiieebljbhpbaaGreatDoorHc
import Derived.Test.YtoiieebljbhpbaaGreatDoorM17
set_option maxRecDepth 100000
set_option maxHeartbeats 4000000
namespace Go.Proofs
open Go.Ab
@[simp] def gu.out (_x0 : Te) (_x1 : Int) (_x2 : Int) (r : Te) : Out := { av := .agg [.sl (r.fT.fL.map Ta.enc) .no, .lit (.int .i64 r.fT.fh), .sl (r.fa.map Tp.enc) .no, .sl (r.fd.map Tg.enc) .no], M := none }
def gu.fin (x0 : Te) (x1 : Int) (x2 : Int) (r : Te) (σ : St) : Prop := finK (gu.out x0 x1 x2 r) [] σ.M (resA Tryz.ty σ.A σ.M Tryz.f105.results.toList)
theorem gu.can (x0 : Te) (x1 : Int) (x2 : Int) (r : Te) (hr : gu x0 x1 x2 = some r) : CallOk Tryz.prog 105 [.agg [.sl (x0.fT.fL.map Ta.enc) .no, .lit (.int .i64 x0.fT.fh), .sl (x0.fa.map Tp.enc) .no, .sl (x0.fd.map Tg.enc) .no], .lit (.int .i64 x1), .lit (.int .i64 x2)] [] (gu.out x0 x1 x2 r) := by
 unfold gu at hr;have hΓ := gamL_nil (P := Tryz.prog);refine cw Tryz.func105 rfl (by kernel_rfl) rfl rfl (by simp) fun _ _ _ => ?_;refine tq hΓ [3, 6] [0] ?_;refine tq hΓ [7] [] ?_;refine AWp.seq ?_;refine tq hΓ [15, 16, 17] [] ?_;refine AWp.equip 7 5 (els := []) (by simp) (by simp) ?_;refine AWp.loopE (fun (s1 : Int × List Tp) (γ1 : Nat) => ⟨[⟨15, none, .sl (x0.fa.map Tp.enc) .no⟩, ⟨16, none, .n (lenL x0.fa)⟩, ⟨17, none, .n s1.1⟩, ⟨7, none, .sl (s1.2.map Tp.enc) (.own 2 (γ1) 5)⟩, ⟨3, none, .ptr 0 0⟩, ⟨6, none, .ptr 1 0⟩, ⟨1, none, .n x1⟩, ⟨2, none, .n x2⟩], [.blk x0.enc, .blk [.sl [] .full, .n 0, .sl [] .full, .sl [] .full], .room (γ1)]⟩) (fun (v1 : List Tp) (γ1a : Nat) => ⟨[⟨7, none, .sl (v1.map Tp.enc) (.own 2 (γ1a) 5)⟩, ⟨3, none, .ptr 0 0⟩, ⟨6, none, .ptr 1 0⟩, ⟨1, none, .n x1⟩, ⟨2, none, .n x2⟩], [.blk x0.enc, .blk [.sl [] .full, .n 0, .sl [] .full, .sl [] .full], .room (γ1a)]⟩) (gu.fin x0 x1 x2) hr 0 3 (by simp) (fun s1 f γ1 hr => ?_) (fun v1 γ1a σ1 m1 hr hc => ?_) (fun _ h => h)
 ·unfold gu.loop1 at hr;refine tq hΓ [18] [] ?_;refine AWp.seq ?_;refine AWp.cnd hr (by simp) (fun h9 hr => ?_) (fun h9 hr => ?_)
  ·refine AWp.skip ?_;refine AWp.seq ?_;refine AWp.block ?_;obtain ⟨h10, hr⟩ := Ld hr;refine tq hΓ [9] [18] ?_ (by simp [h9, h10]; exact rr);refine tq hΓ [30] [] ?_ (by simp; exact rr);refine AWp.cnd hr (by simp) (fun h11 hr => ?_) (fun h11 hr => ?_)
   ·obtain ⟨h12, hr⟩ := Ld hr;refine tl hΓ [7] [30, 9] ?_ (by simp [h11, h12]; exact rr);refine tl hΓ [17] [] ?_ (by simp; exact rr);obtain rfl := La hr;exact Lj (γ1 + 1) 3 (by first | (simp; done) | simp [h9, h10, h11, h12])
   ·refine AWp.skip ?_;refine tl hΓ [17] [30, 9] ?_ (by simp [h11]; exact rr);obtain rfl := La hr;exact Lj (γ1) 3 (by first | (simp; done) | simp [h9, h10, h11])
  ·refine AWp.exit ?_;obtain rfl := La hr;exact Ll (γ1) 3 (by first | (simp; done) | simp [h9])
 ·refine AWp.conv hc ?_;refine tq hΓ [10] [] ?_;refine AWp.seq ?_;refine tq hΓ [38, 39, 40] [] ?_;refine AWp.equip 10 5 (els := []) (by simp) (by simp) ?_;refine AWp.loopE (fun (s2 : Int × List Tg) (γ2 : Nat) => ⟨[⟨38, none, .sl (x0.fd.map Tg.enc) .no⟩, ⟨39, none, .n (lenL x0.fd)⟩, ⟨40, none, .n s2.1⟩, ⟨10, none, .sl (s2.2.map Tg.enc) (.own 3 (γ2) 5)⟩, ⟨7, none, .sl (v1.map Tp.enc) (.own 2 (γ1a) 5)⟩, ⟨3, none, .ptr 0 0⟩, ⟨6, none, .ptr 1 0⟩, ⟨1, none, .n x1⟩, ⟨2, none, .n x2⟩], [.blk x0.enc, .blk [.sl [] .full, .n 0, .sl [] .full, .sl [] .full], .room (γ1a), .room (γ2)]⟩) (fun (v2 : List Tg) (γ2a : Nat) => ⟨[⟨10, none, .sl (v2.map Tg.enc) (.own 3 (γ2a) 5)⟩, ⟨7, none, .sl (v1.map Tp.enc) (.own 2 (γ1a) 5)⟩, ⟨3, none, .ptr 0 0⟩, ⟨6, none, .ptr 1 0⟩], [.blk x0.enc, .blk [.sl [] .full, .n 0, .sl [] .full, .sl [] .full], .room (γ1a), .room (γ2a)]⟩) (gu.fin x0 x1 x2) hr 0 4 (by simp) (fun s2 f γ2 hr => ?_) (fun v2 γ2a σ1 m1 hr hc => ?_) (fun _ h => h)
  ·unfold gu.loop2 at hr;refine tq hΓ [41] [] ?_;refine AWp.seq ?_;refine AWp.cnd hr (by simp) (fun h13 hr => ?_) (fun h13 hr => ?_)
   ·refine AWp.skip ?_;refine AWp.seq ?_;refine AWp.block ?_;obtain ⟨h14, hr⟩ := Ld hr;refine tq hΓ [12] [41] ?_ (by simp [h13, h14]; exact rr);refine tq hΓ [53] [] ?_ (by simp; exact rr);refine AWp.cnd hr (by simp) (fun h15 hr => ?_) (fun h15 hr => ?_)
    ·obtain ⟨h16, hr⟩ := Ld hr;refine tl hΓ [10] [53, 12] ?_ (by simp [h15, h16]; exact rr);refine tl hΓ [40] [] ?_ (by simp; exact rr);obtain rfl := La hr;exact Lj (γ2 + 1) 4 (by first | (simp; done) | simp [h13, h14, h15, h16])
    ·refine AWp.skip ?_;refine tl hΓ [40] [53, 12] ?_ (by simp [h15]; exact rr);obtain rfl := La hr;exact Lj (γ2) 4 (by first | (simp; done) | simp [h13, h14, h15])
   ·refine AWp.exit ?_;obtain rfl := La hr;exact Ll (γ2) 4 (by first | (simp; done) | simp [h13])
  ·refine AWp.conv hc ?_;refine tq hΓ [] [10, 7, 3] ?_;obtain rfl := La hr;exact AWp.ret (Lb (by simp))
@[simp] noncomputable def gu.S : Sp
  | [.agg e0, .lit (.int .i64 x1), .lit (.int .i64 x2)], _ => (fun (y0 : Te) => (fun (r : Te) => some { av := .agg [.sl ((r.fT.fL).map Ta.enc) .no, .lit (.int .i64 (r.fT.fh)), .sl ((r.fa).map Tp.enc) .no, .sl ((r.fd).map Tg.enc) .no], M := none, obl := WeakL e0 (Te.enc y0) ∧ (gu y0 x1 x2).isSome = true }) ((gu y0 x1 x2).getD dflt)) (Te.dec e0)
  | _, _ => none
theorem gu.ok : SpecOk Tryz.prog 105 gu.S := by
 intro l M out h;unfold gu.S at h;split at h
 ·rename_i e0 x1 x2
  try dsimp only at h
  cases h;refine callOk_of fun ho => ?_;obtain ⟨ox0, hs⟩ := ho;generalize (Te.dec e0) = x0 at *
  obtain ⟨r, hr⟩ := so1 hs;simp only [hr, gd1];have q := Lf (M := M) [] (gu.can x0 x1 x2 r hr) (by simp) rfl ixn;exact callOk_conv q trivial (by simp; exact ox0) (by simp [frameOut]) (by simp [frameOut])
 ·cases h
@[simp] def gz.out (_x0 : Te) (_x1 : Int) (r : Te) : Out := { av := .agg [.sl (r.fT.fL.map Ta.enc) .no, .lit (.int .i64 r.fT.fh), .sl (r.fa.map Tp.enc) .no, .sl (r.fd.map Tg.enc) .no], M := none }
def gz.fin (x0 : Te) (x1 : Int) (r : Te) (σ : St) : Prop := finK (gz.out x0 x1 r) [] σ.M (resA Tryz.ty σ.A σ.M Tryz.f51.results.toList)
theorem gz.can (x0 : Te) (x1 : Int) (r : Te) (hr : gz x0 x1 = some r) : CallOk Tryz.prog 51 [.agg [.sl (x0.fT.fL.map Ta.enc) .no, .lit (.int .i64 x0.fT.fh), .sl (x0.fa.map Tp.enc) .no, .sl (x0.fd.map Tg.enc) .no], .lit (.int .i64 x1)] [] (gz.out x0 x1 r) := by
 unfold gz at hr;have hΓ := (gamL_cons gac.ok (gamL_cons gu.ok (gamL_nil)) : GamOk Tryz.prog _);refine cw Tryz.func51 rfl (by kernel_rfl) rfl rfl (by simp) fun _ _ _ => ?_;refine tq hΓ [2, 4] [0] ?_;obtain ⟨r1, h8, hr⟩ := Lc hr;refine tq hΓ [5] [] ?_ (by simp [h8]; exact rr);refine tq hΓ [] [5] ?_ (by simp; exact rr);refine AWp.seq ?_;refine tq hΓ [7] [] ?_ (by simp; exact rr);refine AWp.loopE (fun (s1 : Int × Te) (γ1 : Unit) => ⟨[⟨7, none, .n s1.1⟩, ⟨2, none, .ptr 0 0⟩, ⟨4, none, .ptr 1 0⟩, ⟨1, none, .n x1⟩], [.blk s1.2.enc, .blk [.sl [] .full, .n 0, .sl [] .full, .sl [] .full], .blk [.sl (r1.1.fL.map Ta.enc) .no, .n r1.1.fh]]⟩) (fun (v1 : Te) (γ1a : Unit) => ⟨[⟨2, none, .ptr 0 0⟩, ⟨4, none, .ptr 1 0⟩, ⟨1, none, .n x1⟩], [.blk v1.enc, .blk [.sl [] .full, .n 0, .sl [] .full, .sl [] .full], .blk [.sl (r1.1.fL.map Ta.enc) .no, .n r1.1.fh]]⟩) (gz.fin x0 x1) hr () 3 (by simp) (fun s1 f γ1 hr => ?_) (fun v1 γ1a σ1 m1 hr hc => ?_) (fun _ h => h)
 ·unfold gz.loop1 at hr;refine AWp.seq ?_;refine tq hΓ [21] [] ?_ (by simp; exact rr);refine AWp.cnd hr (by simp) (fun h9 hr => ?_) (fun h9 hr => ?_)
  ·refine AWp.skip ?_;refine AWp.seq ?_;refine AWp.block ?_;obtain ⟨r2, h10, hr⟩ := Lc hr;refine tl hΓ [] [21] ?_ (by simp [h9, h10]; exact rr);refine tl hΓ [7] [] ?_ (by simp; exact rr);obtain rfl := La hr;exact Lj () 3 (by first | (simp; done) | simp [h8, h9, h10])
  ·refine AWp.exit ?_;obtain rfl := La hr;exact Ll () 3 (by first | (simp; done) | simp [h8, h9])
 ·refine AWp.conv hc ?_;refine tq hΓ [8] [] ?_ (by simp; exact rr);refine AWp.seq ?_;refine tq hΓ [30, 31, 32] [] ?_ (by simp; exact rr);refine AWp.equip 8 5 (els := []) (by simp) (by simp) ?_;refine AWp.loopE (fun (s2 : Int × List Tg) (γ2 : Nat) => ⟨[⟨30, none, .sl (v1.fd.map Tg.enc) .no⟩, ⟨31, none, .n (lenL v1.fd)⟩, ⟨32, none, .n s2.1⟩, ⟨8, none, .sl (s2.2.map Tg.enc) (.own 3 (γ2) 5)⟩, ⟨2, none, .ptr 0 0⟩, ⟨4, none, .ptr 1 0⟩, ⟨1, none, .n x1⟩], [.blk v1.enc, .blk [.sl [] .full, .n 0, .sl [] .full, .sl [] .full], .blk [.sl (r1.1.fL.map Ta.enc) .no, .n r1.1.fh], .room (γ2)]⟩) (fun (v2 : List Tg) (γ2a : Nat) => ⟨[⟨8, none, .sl (v2.map Tg.enc) (.own 3 (γ2a) 5)⟩, ⟨2, none, .ptr 0 0⟩, ⟨4, none, .ptr 1 0⟩], [.blk v1.enc, .blk [.sl [] .full, .n 0, .sl [] .full, .sl [] .full], .blk [.sl (r1.1.fL.map Ta.enc) .no, .n r1.1.fh], .room (γ2a)]⟩) (gz.fin x0 x1) hr 0 4 (by simp) (fun s2 f γ2 hr => ?_) (fun v2 γ2a σ1 m1 hr hc => ?_) (fun _ h => h)
  ·unfold gz.loop2 at hr;refine tq hΓ [33] [] ?_ (by simp; exact rr);refine AWp.seq ?_;refine AWp.cnd hr (by simp) (fun h11 hr => ?_) (fun h11 hr => ?_)
   ·refine AWp.skip ?_;refine AWp.seq ?_;refine AWp.block ?_;obtain ⟨h12, hr⟩ := Ld hr;refine tq hΓ [10] [33] ?_ (by simp [h11, h12]; exact rr);refine tq hΓ [39] [] ?_ (by simp; exact rr);refine AWp.cnd hr (by simp) (fun h13 hr => ?_) (fun h13 hr => ?_)
    ·obtain ⟨h14, hr⟩ := Ld hr;refine tl hΓ [8] [39, 10] ?_ (by simp [h13, h14]; exact rr);refine tl hΓ [32] [] ?_ (by simp; exact rr);obtain rfl := La hr;exact Lj (γ2 + 1) 4 (by first | (simp; done) | simp [h8, h11, h12, h13, h14])
    ·refine AWp.skip ?_;refine tl hΓ [32] [39, 10] ?_ (by simp [h13]; exact rr);obtain rfl := La hr;exact Lj (γ2) 4 (by first | (simp; done) | simp [h8, h11, h12, h13])
   ·refine AWp.exit ?_;obtain rfl := La hr;exact Ll (γ2) 4 (by first | (simp; done) | simp [h8, h11])
  ·refine AWp.conv hc ?_;refine tq hΓ [] [8] ?_ (by simp; exact rr);refine tq hΓ [] [2] ?_ (by simp; exact rr);obtain rfl := La hr;exact AWp.ret (Lb (by simp))
@[simp] noncomputable def gz.S : Sp
  | [.agg e0, .lit (.int .i64 x1)], _ => some { av := .agg [.sl ((((gz (Te.dec e0) x1).getD dflt).fT.fL).map Ta.enc) .no, .lit (.int .i64 (((gz (Te.dec e0) x1).getD dflt).fT.fh)), .sl ((((gz (Te.dec e0) x1).getD dflt).fa).map Tp.enc) .no, .sl ((((gz (Te.dec e0) x1).getD dflt).fd).map Tg.enc) .no], M := none, obl := WeakL e0 (Te.enc (Te.dec e0)) ∧ (gz (Te.dec e0) x1).isSome = true }
  | _, _ => none
theorem gz.ok : SpecOk Tryz.prog 51 gz.S := by
 intro l M out h;unfold gz.S at h;split at h
 ·rename_i e0 x1;cases h;refine callOk_of fun ho => ?_;obtain ⟨ox0, hs⟩ := ho;generalize (Te.dec e0) = x0 at *
  obtain ⟨r, hr⟩ := so1 hs;simp only [hr, gd1];have q := Lf (M := M) [] (gz.can x0 x1 r hr) (by simp) rfl ixn;exact callOk_conv q trivial (by simp; exact ox0) (by simp [frameOut]) (by simp [frameOut])
 ·cases h
@[simp] def gk.out (_x0 : Te) (_x1 : Int) (_x2 : Int) (r : Int) : Out := { av := .lit (.int .i64 r), M := none }
def gk.fin (x0 : Te) (x1 : Int) (x2 : Int) (r : Int) (σ : St) : Prop := finK (gk.out x0 x1 x2 r) [] σ.M (resA Tryz.ty σ.A σ.M Tryz.f26.results.toList)
theorem gk.can (x0 : Te) (x1 : Int) (x2 : Int) (r : Int) (hr : gk x0 x1 x2 = some r) : CallOk Tryz.prog 26 [.agg [.sl (x0.fT.fL.map Ta.enc) .no, .lit (.int .i64 x0.fT.fh), .sl (x0.fa.map Tp.enc) .no, .sl (x0.fd.map Tg.enc) .no], .lit (.int .i64 x1), .lit (.int .i64 x2)] [] (gk.out x0 x1 x2 r) := by
 unfold gk at hr;have hΓ := gamL_nil (P := Tryz.prog);refine cw Tryz.func26 rfl (by kernel_rfl) rfl rfl (by simp) fun _ _ _ => ?_;refine tq hΓ [3] [0] ?_;refine AWp.seq ?_;refine tq hΓ [10, 11, 12] [3] ?_;refine AWp.loopE (fun (s1 : Int) (γ1 : Unit) => ⟨[⟨10, none, .sl (x0.fa.map Tp.enc) .no⟩, ⟨11, none, .n (lenL x0.fa)⟩, ⟨12, none, .n s1⟩, ⟨1, none, .n x1⟩, ⟨2, none, .n x2⟩], [.blk x0.enc]⟩) (fun (v1 : Unit) (γ1a : Unit) => ⟨[], [.blk x0.enc]⟩) (gk.fin x0 x1 x2) hr () 1 (by simp) (fun s1 f γ1 hr => ?_) (fun v1 γ1a σ1 m1 hr hc => ?_) (fun _ h => h)
 ·unfold gk.loop1 at hr;refine tq hΓ [13] [] ?_;refine AWp.seq ?_;refine AWp.cnd hr (by simp) (fun h4 hr => ?_) (fun h4 hr => ?_)
  ·refine AWp.skip ?_;refine AWp.seq ?_;refine AWp.block ?_;obtain ⟨h5, hr⟩ := Ld hr;refine tq hΓ [8, 7] [13] ?_ (by simp [h4, h5]; exact rr);refine tq hΓ [26] [8] ?_ (by simp; exact rr);refine AWp.cnd hr (by simp) (fun h6 hr => ?_) (fun h6 hr => ?_)
   ·refine tq hΓ [6] [26, 7, 10, 11, 12, 1, 2] ?_ (by simp [h6]; exact rr);refine AWp.ret ?_;obtain rfl := La hr;refine Lr ?_;refine Lb ?_;simp
   ·refine AWp.skip ?_;refine tl hΓ [12] [26, 7] ?_ (by simp [h6]; exact rr);obtain rfl := La hr;exact Lj () 1 (by first | (simp; done) | simp [h4, h5, h6])
  ·refine AWp.exit ?_;obtain rfl := La hr;exact Ll () 1 (by first | (simp; done) | simp [h4])
 ·refine AWp.conv hc ?_;refine tq hΓ [6] [] ?_;obtain rfl := La hr;exact AWp.ret (Lb (by simp))
@[simp] noncomputable def gk.S : Sp
  | [.agg e0, .lit (.int .i64 x1), .lit (.int .i64 x2)], _ => some { av := .lit (.int .i64 ((gk (Te.dec e0) x1 x2).getD dflt)), M := none, obl := WeakL e0 (Te.enc (Te.dec e0)) ∧ (gk (Te.dec e0) x1 x2).isSome = true }
  | _, _ => none
theorem gk.ok : SpecOk Tryz.prog 26 gk.S := by
 intro l M out h;unfold gk.S at h;split at h
 ·rename_i e0 x1 x2;cases h;refine callOk_of fun ho => ?_;obtain ⟨ox0, hs⟩ := ho;generalize (Te.dec e0) = x0 at *
  obtain ⟨r, hr⟩ := so1 hs;simp only [hr, gd1];have q := Lf (M := M) [] (gk.can x0 x1 x2 r hr) (by simp) rfl ixn;exact callOk_conv q trivial (by simp; exact ox0) (by simp [frameOut]) (by simp [frameOut])
 ·cases h
@[simp] def gp.out (_x0 : Te) (_x1 : Int) (r : Int × Int) : Out := { av := .tup [.lit (.int .i64 r.1), .lit (.int .i64 r.2)], M := none }
def gp.fin (x0 : Te) (x1 : Int) (r : Int × Int) (σ : St) : Prop := finK (gp.out x0 x1 r) [] σ.M (resA Tryz.ty σ.A σ.M Tryz.f106.results.toList)
theorem gp.can (x0 : Te) (x1 : Int) (r : Int × Int) (hr : gp x0 x1 = some r) : CallOk Tryz.prog 106 [.agg [.sl (x0.fT.fL.map Ta.enc) .no, .lit (.int .i64 x0.fT.fh), .sl (x0.fa.map Tp.enc) .no, .sl (x0.fd.map Tg.enc) .no], .lit (.int .u32 x1)] [] (gp.out x0 x1 r) := by
 unfold gp at hr;have hΓ := gamL_nil (P := Tryz.prog);refine cw Tryz.func106 rfl (by kernel_rfl) rfl rfl (by simp) fun _ _ _ => ?_;refine tq hΓ [2] [0] ?_;refine AWp.seq ?_;refine tq hΓ [11, 12, 13] [2] ?_;refine AWp.loopE (fun (s1 : Int) (γ1 : Unit) => ⟨[⟨11, none, .sl (x0.fa.map Tp.enc) .no⟩, ⟨12, none, .n (lenL x0.fa)⟩, ⟨13, none, .n s1⟩, ⟨1, none, .lit (.int .u32 x1)⟩], [.blk x0.enc]⟩) (fun (v1 : Unit) (γ1a : Unit) => ⟨[], [.blk x0.enc]⟩) (gp.fin x0 x1) hr () 1 (by simp) (fun s1 f γ1 hr => ?_) (fun v1 γ1a σ1 m1 hr hc => ?_) (fun _ h => h)
 ·unfold gp.loop1 at hr;refine tq hΓ [14] [] ?_;refine AWp.seq ?_;refine AWp.cnd hr (by simp) (fun h6 hr => ?_) (fun h6 hr => ?_)
  ·refine AWp.skip ?_;refine AWp.seq ?_;refine AWp.block ?_;obtain ⟨h7, hr⟩ := Ld hr;refine tq hΓ [7, 6] [14] ?_ (by simp [h6, h7]; exact rr);refine tq hΓ [19, 20, 21] [7] ?_ (by simp; exact rr);refine AWp.loopE (fun (s2 : Int) (γ2 : Unit) => ⟨[⟨19, none, .sl (((nthI x0.fa s1).fb).map (eNum .u32)) .no⟩, ⟨20, none, .n (lenL ((nthI x0.fa s1).fb))⟩, ⟨21, none, .n s2⟩, ⟨6, none, .n s1⟩, ⟨11, none, .sl (x0.fa.map Tp.enc) .no⟩, ⟨12, none, .n (lenL x0.fa)⟩, ⟨13, none, .n s1⟩, ⟨1, none, .lit (.int .u32 x1)⟩], [.blk x0.enc, .blk (nthI x0.fa s1).enc]⟩) (fun (v2 : Unit) (γ2a : Unit) => ⟨[⟨11, none, .sl (x0.fa.map Tp.enc) .no⟩, ⟨12, none, .n (lenL x0.fa)⟩, ⟨13, none, .n s1⟩, ⟨1, none, .lit (.int .u32 x1)⟩], [.blk x0.enc, .blk (nthI x0.fa s1).enc]⟩) (QRr (gp.fin x0 x1)) hr () 2 (by simp) (fun s2 f γ2 hr => ?_) (fun v2 γ2a σ1 m1 hr hc => ?_) (fun _ h => QRr_ret h)
   ·unfold gp.loop2 at hr;refine tq hΓ [22] [] ?_ (by simp; exact rr);refine AWp.seq ?_;refine AWp.cnd hr (by simp) (fun h8 hr => ?_) (fun h8 hr => ?_)
    ·refine AWp.skip ?_;refine AWp.seq ?_;refine AWp.block ?_;obtain ⟨h9, hr⟩ := Ld hr;refine tq hΓ [8, 9] [22] ?_ (by simp [h8, h9]; exact rr);refine tq hΓ [28] [9] ?_ (by simp; exact rr);refine AWp.cnd hr (by simp) (fun h10 hr => ?_) (fun h10 hr => ?_)
     ·refine tq hΓ [4, 5] [28, 8, 19, 20, 21, 6, 11, 12, 13, 1] ?_ (by simp [h10]; exact rr);refine AWp.ret ?_;obtain rfl := La hr;refine Lr ?_;refine ⟨_, rfl, ?_⟩;refine Lb ?_;simp
     ·refine AWp.skip ?_;refine tl hΓ [21] [28, 8] ?_ (by simp [h10]; exact rr);obtain rfl := La hr;exact Lj () 2 (by first | (simp; done) | simp [h6, h7, h8, h9, h10])
    ·refine AWp.exit ?_;obtain rfl := La hr;exact Ll () 2 (by first | (simp; done) | simp [h6, h7, h8])
   ·refine AWp.conv hc ?_;refine tl hΓ [13] [] ?_ (by simp; exact rr);obtain rfl := La hr;exact Lj () 1 (by first | (simp; done) | simp [h6, h7])
  ·refine AWp.exit ?_;obtain rfl := La hr;exact Ll () 1 (by first | (simp; done) | simp [h6])
 ·refine AWp.conv hc ?_;refine tq hΓ [4, 5] [] ?_;obtain rfl := La hr;exact AWp.ret (Lb (by simp))
@[simp] noncomputable def gp.S : Sp
  | [.agg e0, .lit (.int .u32 x1)], _ => some { av := .tup [.lit (.int .i64 (((gp (Te.dec e0) x1).getD dflt).1)), .lit (.int .i64 (((gp (Te.dec e0) x1).getD dflt).2))], M := none, obl := WeakL e0 (Te.enc (Te.dec e0)) ∧ (gp (Te.dec e0) x1).isSome = true }
  | _, _ => none
theorem gp.ok : SpecOk Tryz.prog 106 gp.S := by
 intro l M out h;unfold gp.S at h;split at h
 ·rename_i e0 x1;cases h;refine callOk_of fun ho => ?_;obtain ⟨ox0, hs⟩ := ho;generalize (Te.dec e0) = x0 at *
  obtain ⟨r, hr⟩ := so1 hs;simp only [hr, gd1];have q := Lf (M := M) [] (gp.can x0 x1 r hr) (by simp) rfl ixn;exact callOk_conv q trivial (by simp; exact ox0) (by simp [frameOut]) (by simp [frameOut])
 ·cases h
@[simp] def gS.out (_x0 : Te) (_x1 : Tc) (r : Te × Int) : Out := { av := .tup [.agg [.sl (r.1.fT.fL.map Ta.enc) .no, .lit (.int .i64 r.1.fT.fh), .sl (r.1.fa.map Tp.enc) .no, .sl (r.1.fd.map Tg.enc) .no], .lit (.int .i64 r.2)], M := none }
def gS.fin (x0 : Te) (x1 : Tc) (r : Te × Int) (σ : St) : Prop := finK (gS.out x0 x1 r) [] σ.M (resA Tryz.ty σ.A σ.M Tryz.f52.results.toList)
theorem gS.can (x0 : Te) (x1 : Tc) (r : Te × Int) (hr : gS x0 x1 = some r) : CallOk Tryz.prog 52 [.agg [.sl (x0.fT.fL.map Ta.enc) .no, .lit (.int .i64 x0.fT.fh), .sl (x0.fa.map Tp.enc) .no, .sl (x0.fd.map Tg.enc) .no], .agg [.lit (.int .i64 x1.fm), .lit (.string x1.fk), .lit (.string x1.fo), .lit (.int .i64 x1.fc), .lit (.int .i64 x1.fOf), .lit (.int .i64 x1.ff), .lit (.int .i64 x1.fp), .lit (.bool x1.fOn), .lit (.bool x1.fq), .sl (x1.fb.map (eNum .u32)) .no]] [] (gS.out x0 x1 r) := by
 unfold gS at hr;have hΓ := (gamL_cons gk.ok (gamL_cons gp.ok (gamL_nil)) : GamOk Tryz.prog _);refine cw Tryz.func52 rfl (by kernel_rfl) rfl rfl (by simp) fun _ _ _ => ?_;refine tq hΓ [2, 3, 4] [0, 1] ?_;refine AWp.seq ?_;obtain ⟨r1, h9, hr⟩ := Lc hr;refine tq hΓ [16] [] ?_ (by simp [h9]; exact rr);refine AWp.cnd hr (by simp) (fun h10 hr => ?_) (fun h10 hr => ?_)
 ·refine tq hΓ [5] [16, 2, 3] ?_ (by simp [h10]; exact rr);obtain rfl := La hr;exact AWp.ret (Lb (by simp))
 ·refine AWp.skip ?_;refine AWp.seq ?_;refine tq hΓ [19, 20, 21] [16] ?_ (by simp [h10]; exact rr);refine AWp.loopE (fun (s1 : Int) (γ1 : Unit) => ⟨[⟨19, none, .sl (x1.fb.map (eNum .u32)) .no⟩, ⟨20, none, .n (lenL x1.fb)⟩, ⟨21, none, .n s1⟩, ⟨2, none, .ptr 0 0⟩, ⟨3, none, .ptr 1 0⟩, ⟨4, none, .ptr 2 0⟩], [.blk x0.enc, .blk x1.enc, .blk [.sl [] .full, .n 0, .sl [] .full, .sl [] .full]]⟩) (fun (v1 : Unit) (γ1a : Unit) => ⟨[⟨2, none, .ptr 0 0⟩, ⟨3, none, .ptr 1 0⟩, ⟨4, none, .ptr 2 0⟩], [.blk x0.enc, .blk x1.enc, .blk [.sl [] .full, .n 0, .sl [] .full, .sl [] .full]]⟩) (gS.fin x0 x1) hr () 3 (by simp) (fun s1 f γ1 hr => ?_) (fun v1 γ1a σ1 m1 hr hc => ?_) (fun _ h => h)
  ·unfold gS.loop1 at hr;refine tq hΓ [22] [] ?_ (by simp; exact rr);refine AWp.seq ?_;refine AWp.cnd hr (by simp) (fun h11 hr => ?_) (fun h11 hr => ?_)
   ·refine AWp.skip ?_;refine AWp.seq ?_;refine AWp.block ?_;obtain ⟨h12, hr⟩ := Ld hr;refine tq hΓ [7] [22] ?_ (by simp [h11, h12]; exact rr);obtain ⟨r2, h13, hr⟩ := Lc hr;refine tq hΓ [8] [7] ?_ (by simp [h13]; exact rr);refine tq hΓ [32] [8] ?_ (by simp; exact rr);refine AWp.cnd hr (by simp) (fun h14 hr => ?_) (fun h14 hr => ?_)
    ·refine tq hΓ [5] [32, 19, 20, 21, 2, 3] ?_ (by simp [h14]; exact rr);refine AWp.ret ?_;obtain rfl := La hr;refine Lr ?_;refine Lb ?_;simp
    ·refine AWp.skip ?_;refine tl hΓ [21] [32] ?_ (by simp [h14]; exact rr);obtain rfl := La hr;exact Lj () 3 (by first | (simp; done) | simp [h9, h10, h11, h12, h13, h14])
   ·refine AWp.exit ?_;obtain rfl := La hr;exact Ll () 3 (by first | (simp; done) | simp [h9, h10, h11])
  ·refine AWp.conv hc ?_;obtain ⟨h15, hr⟩ := Ld hr;obtain ⟨h16, hr⟩ := Ld hr;refine td hΓ [] [3] [(4, 0), (5, 0), (6, 0), (7, 0), (8, 0), (9, 0), (10, 0), (11, 0), (12, 0), (13, 0)] [(false, []), (false, []), (false, []), (true, []), (false, []), (false, []), (false, []), (false, []), (false, []), (false, []), (false, []), (false, []), (false, []), (false, []), (true, []), (false, []), (true, [])] (by simp [h15, h16]; exact rr) ?_;refine tq hΓ [5] [2] ?_ (by simp; exact rr);obtain rfl := La hr;exact AWp.ret (Lb (by simp))
@[simp] noncomputable def gS.S : Sp
  | [.agg e0, .agg e1], _ => (fun (y0 : Te) => (fun (y1 : Tc) => (fun (r : Te × Int) => some { av := .tup [.agg [.sl ((r.1.fT.fL).map Ta.enc) .no, .lit (.int .i64 (r.1.fT.fh)), .sl ((r.1.fa).map Tp.enc) .no, .sl ((r.1.fd).map Tg.enc) .no], .lit (.int .i64 (r.2))], M := none, obl := WeakL e0 (Te.enc y0) ∧ WeakL e1 (Tc.enc y1) ∧ (gS y0 y1).isSome = true }) ((gS y0 y1).getD dflt)) (Tc.dec e1)) (Te.dec e0)
  | _, _ => none
theorem gS.ok : SpecOk Tryz.prog 52 gS.S := by
 intro l M out h;unfold gS.S at h;split at h
 ·rename_i e0 e1
  try dsimp only at h
  cases h;refine callOk_of fun ho => ?_;obtain ⟨ox0, ox1, hs⟩ := ho;generalize (Te.dec e0) = x0 at *
  generalize (Tc.dec e1) = x1 at *
  obtain ⟨r, hr⟩ := so1 hs;simp only [hr, gd1];have q := Lf (M := M) [] (gS.can x0 x1 r hr) (by simp) rfl ixn;exact callOk_conv q trivial (by simp; exact ⟨ox0, ox1⟩) (by simp [frameOut]) (by simp [frameOut])
 ·cases h
@[simp] def gG.out (_x0 : Te) (_x1 : Int) (_x2 : Int) (_x3 : Int) (r : Int) : Out := { av := .lit (.int .i64 r), M := none }
def gG.fin (x0 : Te) (x1 : Int) (x2 : Int) (x3 : Int) (r : Int) (σ : St) : Prop := finK (gG.out x0 x1 x2 x3 r) [] σ.M (resA Tryz.ty σ.A σ.M Tryz.f108.results.toList)
theorem gG.can (x0 : Te) (x1 : Int) (x2 : Int) (x3 : Int) (r : Int) (hr : gG x0 x1 x2 x3 = some r) : CallOk Tryz.prog 108 [.agg [.sl (x0.fT.fL.map Ta.enc) .no, .lit (.int .i64 x0.fT.fh), .sl (x0.fa.map Tp.enc) .no, .sl (x0.fd.map Tg.enc) .no], .lit (.int .i64 x1), .lit (.int .i64 x2), .lit (.int .i64 x3)] [] (gG.out x0 x1 x2 x3 r) := by
 unfold gG at hr;have hΓ := gamL_nil (P := Tryz.prog);refine cw Tryz.func108 rfl (by kernel_rfl) rfl rfl (by simp) fun _ _ _ => ?_;refine tq hΓ [4] [0] ?_;refine AWp.seq ?_;refine tq hΓ [12, 13, 14] [4] ?_;refine AWp.loopE (fun (s1 : Int) (γ1 : Unit) => ⟨[⟨12, none, .sl (x0.fd.map Tg.enc) .no⟩, ⟨13, none, .n (lenL x0.fd)⟩, ⟨14, none, .n s1⟩, ⟨1, none, .n x1⟩, ⟨2, none, .n x2⟩, ⟨3, none, .n x3⟩], [.blk x0.enc]⟩) (fun (v1 : Unit) (γ1a : Unit) => ⟨[], [.blk x0.enc]⟩) (gG.fin x0 x1 x2 x3) hr () 1 (by simp) (fun s1 f γ1 hr => ?_) (fun v1 γ1a σ1 m1 hr hc => ?_) (fun _ h => h)
 ·unfold gG.loop1 at hr;refine tq hΓ [15] [] ?_;refine AWp.seq ?_;refine AWp.cnd hr (by simp) (fun h4 hr => ?_) (fun h4 hr => ?_)
  ·refine AWp.skip ?_;refine AWp.seq ?_;refine AWp.block ?_;obtain ⟨h5, hr⟩ := Ld hr;refine tq hΓ [10, 9] [15] ?_ (by simp [h4, h5]; exact rr);refine tq hΓ [34] [10] ?_ (by simp; exact rr);refine AWp.cnd hr (by simp) (fun h6 hr => ?_) (fun h6 hr => ?_)
   ·refine tq hΓ [8] [34, 9, 12, 13, 14, 1, 2, 3] ?_ (by simp [h6]; exact rr);refine AWp.ret ?_;obtain rfl := La hr;refine Lr ?_;refine Lb ?_;simp
   ·refine AWp.skip ?_;refine tl hΓ [14] [34, 9] ?_ (by simp [h6]; exact rr);obtain rfl := La hr;exact Lj () 1 (by first | (simp; done) | simp [h4, h5, h6])
  ·refine AWp.exit ?_;obtain rfl := La hr;exact Ll () 1 (by first | (simp; done) | simp [h4])
 ·refine AWp.conv hc ?_;refine tq hΓ [8] [] ?_;obtain rfl := La hr;exact AWp.ret (Lb (by simp))
@[simp] noncomputable def gG.S : Sp
  | [.agg e0, .lit (.int .i64 x1), .lit (.int .i64 x2), .lit (.int .i64 x3)], _ => some { av := .lit (.int .i64 ((gG (Te.dec e0) x1 x2 x3).getD dflt)), M := none, obl := WeakL e0 (Te.enc (Te.dec e0)) ∧ (gG (Te.dec e0) x1 x2 x3).isSome = true }
  | _, _ => none
theorem gG.ok : SpecOk Tryz.prog 108 gG.S := by
 intro l M out h;unfold gG.S at h;split at h
 ·rename_i e0 x1 x2 x3;cases h;refine callOk_of fun ho => ?_;obtain ⟨ox0, hs⟩ := ho;generalize (Te.dec e0) = x0 at *
  obtain ⟨r, hr⟩ := so1 hs;simp only [hr, gd1];have q := Lf (M := M) [] (gG.can x0 x1 x2 x3 r hr) (by simp) rfl ixn;exact callOk_conv q trivial (by simp; exact ox0) (by simp [frameOut]) (by simp [frameOut])
 ·cases h
@[simp] def gaw.out (_x0 : Tg) (_x1 : Tg) (r : Bool) : Out := { av := .lit (.bool r), M := none }
theorem gaw.can (x0 : Tg) (x1 : Tg) (r : Bool) (hr : gaw x0 x1 = some r) : CallOk Tryz.prog 134 [.agg [.lit (.int .i64 x0.fu), .lit (.int .i64 x0.fc), .lit (.int .i64 x0.fN), .lit (.int .i64 x0.fp), .lit (.bool x0.fw)], .agg [.lit (.int .i64 x1.fu), .lit (.int .i64 x1.fc), .lit (.int .i64 x1.fN), .lit (.int .i64 x1.fp), .lit (.bool x1.fw)]] [] (gaw.out x0 x1 r) := by
 unfold gaw at hr;have hΓ := gamL_nil (P := Tryz.prog);refine cw Tryz.func134 rfl (by kernel_rfl) rfl rfl (by simp) fun _ _ _ => ?_;refine tq hΓ [2, 3] [0, 1] ?_;refine AWp.seq ?_;refine tq hΓ [9] [] ?_;refine AWp.cnd hr (by simp) (fun h3 hr => ?_) (fun h3 hr => ?_)
 ·refine tq hΓ [4] [9, 2, 3] ?_ (by simp [h3]; exact rr);obtain rfl := La hr;exact AWp.ret (Lb (by simp))
 ·refine AWp.skip ?_;refine AWp.seq ?_;refine tq hΓ [19] [9] ?_ (by simp [h3]; exact rr);refine AWp.cnd hr (by simp) (fun h4 hr => ?_) (fun h4 hr => ?_)
  ·refine tq hΓ [4] [19, 2, 3] ?_ (by simp [h4]; exact rr);obtain rfl := La hr;exact AWp.ret (Lb (by simp))
  ·refine AWp.skip ?_;refine tq hΓ [4] [19, 2, 3] ?_ (by simp [h4]; exact rr);obtain rfl := La hr;exact AWp.ret (Lb (by simp))
@[simp] noncomputable def gaw.S : Sp
  | [.agg e0, .agg e1], _ => some { av := .lit (.bool ((gaw (Tg.dec e0) (Tg.dec e1)).getD dflt)), M := none, obl := WeakL e0 (Tg.enc (Tg.dec e0)) ∧ WeakL e1 (Tg.enc (Tg.dec e1)) ∧ (gaw (Tg.dec e0) (Tg.dec e1)).isSome = true }
  | _, _ => none
theorem gaw.ok : SpecOk Tryz.prog 134 gaw.S := by
 intro l M out h;unfold gaw.S at h;split at h
 ·rename_i e0 e1;cases h;refine callOk_of fun ho => ?_;obtain ⟨ox0, ox1, hs⟩ := ho;generalize (Tg.dec e0) = x0 at *
  generalize (Tg.dec e1) = x1 at *
  obtain ⟨r, hr⟩ := so1 hs;simp only [hr, gd1];have q := Lf (M := M) [] (gaw.can x0 x1 r hr) (by simp) rfl ixn;exact callOk_conv q trivial (by simp; exact ⟨ox0, ox1⟩) (by simp [frameOut]) (by simp [frameOut])
 ·cases h
@[simp] def gR.out (_x0 : List Tg) (_x1 : Tg) (r : List Tg) : Out := { av := .sl (r.map Tg.enc) .no, M := none }
def gR.fin (x0 : List Tg) (x1 : Tg) (r : List Tg) (σ : St) : Prop := finK (gR.out x0 x1 r) [] σ.M (resA Tryz.ty σ.A σ.M Tryz.f109.results.toList)
theorem gR.can (x0 : List Tg) (x1 : Tg) (r : List Tg) (hr : gR x0 x1 = some r) : CallOk Tryz.prog 109 [.sl (x0.map Tg.enc) .no, .agg [.lit (.int .i64 x1.fu), .lit (.int .i64 x1.fc), .lit (.int .i64 x1.fN), .lit (.int .i64 x1.fp), .lit (.bool x1.fw)]] [] (gR.out x0 x1 r) := by
 unfold gR at hr;have hΓ := (gamL_cons gaw.ok (gamL_nil) : GamOk Tryz.prog _);refine cw Tryz.func109 rfl (by kernel_rfl) rfl rfl (by simp) fun _ _ _ => ?_;refine tq hΓ [3] [1] ?_;refine tq hΓ [5] [] ?_;refine tq hΓ [6] [] ?_;refine AWp.seq ?_;refine tq hΓ [10, 11, 12] [0] ?_;refine AWp.equip 5 5 (els := []) (by simp) (by simp) ?_;refine AWp.loopE (fun (s1 : Int × Bool × List Tg) (γ1 : Nat) => ⟨[⟨10, none, .sl (x0.map Tg.enc) .no⟩, ⟨11, none, .n (lenL x0)⟩, ⟨12, none, .n s1.1⟩, ⟨6, none, .b s1.2.1⟩, ⟨5, none, .sl (s1.2.2.map Tg.enc) (.own 1 (γ1) 5)⟩, ⟨3, none, .ptr 0 0⟩], [.blk x1.enc, .room (γ1)]⟩) (fun (v1 : Bool × List Tg) (γ1a : Nat) => ⟨[⟨6, none, .b v1.1⟩, ⟨5, none, .sl (v1.2.map Tg.enc) (.own 1 (γ1a) 5)⟩, ⟨3, none, .ptr 0 0⟩], [.blk x1.enc, .room (γ1a)]⟩) (gR.fin x0 x1) hr 0 2 (by simp) (fun s1 f γ1 hr => ?_) (fun v1 γ1a σ1 m1 hr hc => ?_) (fun _ h => h)
 ·unfold gR.loop1 at hr;refine tq hΓ [13] [] ?_;refine AWp.seq ?_;refine AWp.cnd hr (by simp) (fun h9 hr => ?_) (fun h9 hr => ?_)
  ·refine AWp.skip ?_;refine AWp.seq ?_;refine AWp.block ?_;obtain ⟨h10, hr⟩ := Ld hr;refine tq hΓ [8] [13] ?_ (by simp [h9, h10]; exact rr);refine AWp.meetF (fun (v2 : Bool × List Tg) (γ2 : Nat) => ⟨[⟨8, none, .ptr 2 0⟩, ⟨10, none, .sl (x0.map Tg.enc) .no⟩, ⟨11, none, .n (lenL x0)⟩, ⟨12, none, .n s1.1⟩, ⟨6, none, .b v2.1⟩, ⟨5, none, .sl (v2.2.map Tg.enc) (.own 1 (γ2) 5)⟩, ⟨3, none, .ptr 0 0⟩], [.blk x1.enc, .room (γ2), .blk (nthI x0 s1.1).enc]⟩) (QRr (gR.fin x0 x1)) hr (fun f hr => ?_) (fun v2 γ2 hr => ?_) (fun _ h => QRr_ret h)
   ·obtain ⟨h11, hr⟩ := Ld hr;refine tq hΓ [22] [] ?_ (by simp [h11]; exact rr);refine AWp.cnd hr (by simp) (fun h12 hr => ?_) (fun h12 hr => ?_)
    ·obtain ⟨h13, hr⟩ := Ld hr;refine tq hΓ [5] [22, 6] ?_ (by simp [h12, h13]; exact rr);refine tl hΓ [6] [] ?_ (by simp; exact rr);obtain rfl := La hr;exact meet_go (γ1 + 1) 3 (by first | (simp; done) | simp [h9, h10, h11, h12, h13])
    ·refine AWp.skip ?_;obtain rfl := La hr;exact meet_go (γ1) 3 (by first | (simp; done) | simp [h9, h10, h11, h12])
   ·obtain ⟨h14, hr⟩ := Ld hr;refine tl hΓ [5] [8] ?_ (by simp [h14]; exact rr);refine tl hΓ [12] [] ?_ (by simp; exact rr);obtain rfl := La hr;exact Lj (γ2 + 1) 2 (by first | (simp; done) | simp [h9, h10, h14])
  ·refine AWp.exit ?_;obtain rfl := La hr;exact Ll (γ1) 2 (by first | (simp; done) | simp [h9])
 ·refine AWp.conv hc ?_;refine AWp.meetF (fun (v3 : List Tg) (γ3 : Nat) => ⟨[⟨5, none, .sl (v3.map Tg.enc) (.own 1 (γ3) 5)⟩], [.blk x1.enc, .room (γ3)]⟩) (gR.fin x0 x1) hr (fun f hr => ?_) (fun v3 γ3 hr => ?_) (fun _ h => h)
  ·refine tq hΓ [33] [6] ?_;refine AWp.cnd hr (by simp) (fun h15 hr => ?_) (fun h15 hr => ?_)
   ·obtain ⟨h16, hr⟩ := Ld hr;refine tl hΓ [5] [33, 3] ?_ (by simp [h15, h16]; exact rr);obtain rfl := La hr;exact meet_go (γ1a + 1) 2 (by first | (simp; done) | simp [h15, h16])
   ·refine AWp.skip ?_;obtain rfl := La hr;exact meet_go (γ1a) 2 (by first | (simp; done) | simp [h15])
  ·refine tq hΓ [4] [5] ?_;obtain rfl := La hr;exact AWp.ret (Lb (by simp))
@[simp] noncomputable def gR.S : Sp
  | [.sl e0 _, .agg e1], _ => some { av := .sl (((gR (e0.map Tg.dec) (Tg.dec e1)).getD dflt).map Tg.enc) .no, M := none, obl := e0 = (e0.map Tg.dec).map Tg.enc ∧ WeakL e1 (Tg.enc (Tg.dec e1)) ∧ (gR (e0.map Tg.dec) (Tg.dec e1)).isSome = true }
  | _, _ => none
theorem gR.ok : SpecOk Tryz.prog 109 gR.S := by
 intro l M out h;unfold gR.S at h;split at h
 ·rename_i e0 k0 e1;cases h;refine callOk_of fun ho => ?_;obtain ⟨ox0, ox1, hs⟩ := ho;generalize (e0.map Tg.dec) = x0 at *
  generalize (Tg.dec e1) = x1 at *
  subst ox0;obtain ⟨r, hr⟩ := so1 hs;simp only [hr, gd1];have q := Lf (M := M) [] (gR.can x0 x1 r hr) (by simp) rfl ixn;exact callOk_conv q trivial (by simp; exact ox1) (by simp [frameOut]) (by simp [frameOut])
 ·cases h
@[simp] def gD.out (_x0 : Te) (_x1 : Tc) (r : Te × Int) : Out := { av := .tup [.agg [.sl (r.1.fT.fL.map Ta.enc) .no, .lit (.int .i64 r.1.fT.fh), .sl (r.1.fa.map Tp.enc) .no, .sl (r.1.fd.map Tg.enc) .no], .lit (.int .i64 r.2)], M := none }
def gD.fin (x0 : Te) (x1 : Tc) (r : Te × Int) (σ : St) : Prop := finK (gD.out x0 x1 r) [] σ.M (resA Tryz.ty σ.A σ.M Tryz.f53.results.toList)
theorem gD.can (x0 : Te) (x1 : Tc) (r : Te × Int) (hr : gD x0 x1 = some r) : CallOk Tryz.prog 53 [.agg [.sl (x0.fT.fL.map Ta.enc) .no, .lit (.int .i64 x0.fT.fh), .sl (x0.fa.map Tp.enc) .no, .sl (x0.fd.map Tg.enc) .no], .agg [.lit (.int .i64 x1.fm), .lit (.string x1.fk), .lit (.string x1.fo), .lit (.int .i64 x1.fc), .lit (.int .i64 x1.fOf), .lit (.int .i64 x1.ff), .lit (.int .i64 x1.fp), .lit (.bool x1.fOn), .lit (.bool x1.fq), .sl (x1.fb.map (eNum .u32)) .no]] [] (gD.out x0 x1 r) := by
 unfold gD at hr;have hΓ := (gamL_cons gal.ok (gamL_cons gG.ok (gamL_cons gk.ok (gamL_cons gR.ok (gamL_nil)))) : GamOk Tryz.prog _);refine cw Tryz.func53 rfl (by kernel_rfl) rfl rfl (by simp) fun _ _ _ => ?_;refine tq hΓ [2, 3, 4] [0, 1] ?_;refine AWp.seq ?_;refine tq hΓ [15] [] ?_;refine AWp.cnd hr (by simp) (fun h15 hr => ?_) (fun h15 hr => ?_)
 ·refine tq hΓ [5] [15, 2, 3] ?_ (by simp [h15]; exact rr);obtain rfl := La hr;exact AWp.ret (Lb (by simp))
 ·refine AWp.skip ?_;refine AWp.seq ?_;obtain ⟨r1, h16, hr⟩ := Lc hr;refine tq hΓ [24] [15] ?_ (by simp [h15, h16]; exact rr);refine AWp.cnd hr (by simp) (fun h17 hr => ?_) (fun h17 hr => ?_)
  ·refine tq hΓ [5] [24, 2, 3] ?_ (by simp [h17]; exact rr);obtain rfl := La hr;exact AWp.ret (Lb (by simp))
  ·refine AWp.skip ?_;refine AWp.seq ?_;obtain ⟨r2, h18, hr⟩ := Lc hr;refine tq hΓ [32] [24] ?_ (by simp [h17, h18]; exact rr);refine AWp.cnd hr (by simp) (fun h19 hr => ?_) (fun h19 hr => ?_)
   ·refine tq hΓ [5] [32, 2, 3] ?_ (by simp [h19]; exact rr);obtain rfl := La hr;exact AWp.ret (Lb (by simp))
   ·refine AWp.skip ?_;obtain ⟨r3, h20, hr⟩ := Lc hr;refine tq hΓ [6] [32] ?_ (by simp [h19, h20]; exact rr);refine AWp.seq ?_;refine tq hΓ [43] [] ?_ (by simp; exact rr);refine AWp.cnd hr (by simp) (fun h21 hr => ?_) (fun h21 hr => ?_)
    ·refine AWp.see (See.markA (by simp; rfl)) ?_;obtain ⟨h22, hr⟩ := Ld hr;refine tq hΓ [7] [43] ?_ (by simp [h21, h22]; exact rr);obtain ⟨h23, hr⟩ := Ld hr;refine tq hΓ [] [6, 3] ?_ (by simp [h23]; exact rr);refine tq hΓ [] [7] ?_ (by simp; exact rr);refine tq hΓ [5] [2] ?_ (by simp; exact rr);refine AWp.see (See.freeze 4 (σ' := ⟨[⟨5, none, .n 0⟩, ⟨4, none, .ptr 2 0⟩], [.blk (x0.fT.enc ++ [.sl (x0.fa.map Tp.enc) .no, .sl ((setI x0.fd r3 (Tg.mk ((nthI x0.fd r3).fu) ((nthI x0.fd r3).fc) ((nthI x0.fd r3).fN) x1.fp ((nthI x0.fd r3).fw))).map Tg.enc) .no]), .blk x1.enc, .blk (x0.fT.enc ++ [.sl (x0.fa.map Tp.enc) .no, .sl ((setI x0.fd r3 (Tg.mk ((nthI x0.fd r3).fu) ((nthI x0.fd r3).fc) ((nthI x0.fd r3).fN) x1.fp ((nthI x0.fd r3).fw))).map Tg.enc) .no]), .arr 0 [], .dead]⟩) (by rfl) (by simp) (by simp) (by simp)) ?_;obtain rfl := La hr;exact AWp.ret (Lb (by simp))
    ·refine AWp.skip ?_;refine tq hΓ [8] [43, 6] ?_ (by simp [h21]; exact rr);refine AWp.seq ?_;refine tq hΓ [58, 59, 60] [] ?_ (by simp; exact rr);refine AWp.loopE (fun (s1 : Int × Int) (γ1 : Unit) => ⟨[⟨58, none, .sl (x0.fd.map Tg.enc) .no⟩, ⟨59, none, .n (lenL x0.fd)⟩, ⟨60, none, .n s1.1⟩, ⟨8, none, .n s1.2⟩, ⟨2, none, .ptr 0 0⟩, ⟨3, none, .ptr 1 0⟩, ⟨4, none, .ptr 2 0⟩], [.blk x0.enc, .blk x1.enc, .blk [.sl [] .full, .n 0, .sl [] .full, .sl [] .full]]⟩) (fun (v1 : Int) (γ1a : Unit) => ⟨[⟨8, none, .n v1⟩, ⟨2, none, .ptr 0 0⟩, ⟨3, none, .ptr 1 0⟩, ⟨4, none, .ptr 2 0⟩], [.blk x0.enc, .blk x1.enc, .blk [.sl [] .full, .n 0, .sl [] .full, .sl [] .full]]⟩) (gD.fin x0 x1) hr () 3 (by simp) (fun s1 f γ1 hr => ?_) (fun v1 γ1a σ1 m1 hr hc => ?_) (fun _ h => h)
     ·unfold gD.loop1 at hr;refine tq hΓ [61] [] ?_ (by simp; exact rr);refine AWp.seq ?_;refine AWp.cnd hr (by simp) (fun h24 hr => ?_) (fun h24 hr => ?_)
      ·refine AWp.skip ?_;refine AWp.seq ?_;refine AWp.block ?_;obtain ⟨h25, hr⟩ := Ld hr;refine tq hΓ [10] [61] ?_ (by simp [h24, h25]; exact rr);refine tq hΓ [68] [10] ?_ (by simp; exact rr);refine AWp.cnd hr (by simp) (fun h26 hr => ?_) (fun h26 hr => ?_)
       ·refine tl hΓ [8] [68] ?_ (by simp [h26]; exact rr);refine tl hΓ [60] [] ?_ (by simp; exact rr);obtain rfl := La hr;exact Lj () 3 (by first | (simp; done) | simp [h15, h16, h17, h18, h19, h20, h21, h24, h25, h26])
       ·refine AWp.skip ?_;refine tl hΓ [60] [68] ?_ (by simp [h26]; exact rr);obtain rfl := La hr;exact Lj () 3 (by first | (simp; done) | simp [h15, h16, h17, h18, h19, h20, h21, h24, h25, h26])
      ·refine AWp.exit ?_;obtain rfl := La hr;exact Ll () 3 (by first | (simp; done) | simp [h15, h16, h17, h18, h19, h20, h21, h24])
     ·refine AWp.conv hc ?_;refine AWp.seq ?_;refine tq hΓ [73] [8] ?_ (by simp; exact rr);refine AWp.cnd hr (by simp) (fun h27 hr => ?_) (fun h27 hr => ?_)
      ·refine tq hΓ [5] [73, 2, 3] ?_ (by simp [h27]; exact rr);obtain rfl := La hr;exact AWp.ret (Lb (by simp))
      ·refine AWp.skip ?_;obtain ⟨r4, h28, hr⟩ := Lc hr;refine tq hΓ [] [73, 3] ?_ (by simp [h27, h28]; exact rr);refine tq hΓ [5] [2] ?_ (by simp; exact rr);obtain rfl := La hr;exact AWp.ret (Lb (by simp))
@[simp] noncomputable def gD.S : Sp
  | [.agg e0, .agg e1], _ => (fun (y0 : Te) => (fun (y1 : Tc) => (fun (r : Te × Int) => some { av := .tup [.agg [.sl ((r.1.fT.fL).map Ta.enc) .no, .lit (.int .i64 (r.1.fT.fh)), .sl ((r.1.fa).map Tp.enc) .no, .sl ((r.1.fd).map Tg.enc) .no], .lit (.int .i64 (r.2))], M := none, obl := WeakL e0 (Te.enc y0) ∧ WeakL e1 (Tc.enc y1) ∧ (gD y0 y1).isSome = true }) ((gD y0 y1).getD dflt)) (Tc.dec e1)) (Te.dec e0)
  | _, _ => none
theorem gD.ok : SpecOk Tryz.prog 53 gD.S := by
 intro l M out h;unfold gD.S at h;split at h
 ·rename_i e0 e1
  try dsimp only at h
  cases h;refine callOk_of fun ho => ?_;obtain ⟨ox0, ox1, hs⟩ := ho;generalize (Te.dec e0) = x0 at *
  generalize (Tc.dec e1) = x1 at *
  obtain ⟨r, hr⟩ := so1 hs;simp only [hr, gd1];have q := Lf (M := M) [] (gD.can x0 x1 r hr) (by simp) rfl ixn;exact callOk_conv q trivial (by simp; exact ⟨ox0, ox1⟩) (by simp [frameOut]) (by simp [frameOut])
 ·cases h
@[simp] def gaj.out (_x0 : Te) (_x1 : Tc) (r : Te × Int) : Out := { av := .tup [.agg [.sl (r.1.fT.fL.map Ta.enc) .no, .lit (.int .i64 r.1.fT.fh), .sl (r.1.fa.map Tp.enc) .no, .sl (r.1.fd.map Tg.enc) .no], .lit (.int .i64 r.2)], M := none }
def gaj.fin (x0 : Te) (x1 : Tc) (r : Te × Int) (σ : St) : Prop := finK (gaj.out x0 x1 r) [] σ.M (resA Tryz.ty σ.A σ.M Tryz.f54.results.toList)
theorem gaj.can (x0 : Te) (x1 : Tc) (r : Te × Int) (hr : gaj x0 x1 = some r) : CallOk Tryz.prog 54 [.agg [.sl (x0.fT.fL.map Ta.enc) .no, .lit (.int .i64 x0.fT.fh), .sl (x0.fa.map Tp.enc) .no, .sl (x0.fd.map Tg.enc) .no], .agg [.lit (.int .i64 x1.fm), .lit (.string x1.fk), .lit (.string x1.fo), .lit (.int .i64 x1.fc), .lit (.int .i64 x1.fOf), .lit (.int .i64 x1.ff), .lit (.int .i64 x1.fp), .lit (.bool x1.fOn), .lit (.bool x1.fq), .sl (x1.fb.map (eNum .u32)) .no]] [] (gaj.out x0 x1 r) := by
 unfold gaj at hr;have hΓ := (gamL_cons gG.ok (gamL_cons gk.ok (gamL_cons gu.ok (gamL_nil))) : GamOk Tryz.prog _);refine cw Tryz.func54 rfl (by kernel_rfl) rfl rfl (by simp) fun _ _ _ => ?_;refine tq hΓ [2, 3, 4] [0, 1] ?_;refine AWp.seq ?_;refine tq hΓ [17] [] ?_;refine AWp.cnd hr (by simp) (fun h17 hr => ?_) (fun h17 hr => ?_)
 ·obtain ⟨r1, h18, hr⟩ := Lc hr;refine tq hΓ [6] [17] ?_ (by simp [h17, h18]; exact rr);refine AWp.seq ?_;refine tq hΓ [27] [] ?_ (by simp; exact rr);refine AWp.cnd hr (by simp) (fun h19 hr => ?_) (fun h19 hr => ?_)
  ·refine tq hΓ [5] [27, 6, 2, 3] ?_ (by simp [h19]; exact rr);obtain rfl := La hr;exact AWp.ret (Lb (by simp))
  ·refine AWp.skip ?_;refine AWp.see (See.markA (by simp; rfl)) ?_;obtain ⟨h20, hr⟩ := Ld hr;refine tq hΓ [7] [27] ?_ (by simp [h19, h20]; exact rr);obtain ⟨h21, hr⟩ := Ld hr;refine tq hΓ [] [] ?_ (by simp [h21]; exact rr);refine AWp.meetF (fun (v1 : List Tg) (γ1 : Unit) => ⟨[⟨7, none, .sl (v1.map Tg.enc) .no⟩, ⟨2, none, .ptr 0 0⟩, ⟨4, none, .ptr 2 0⟩], [.blk x0.enc, .blk x1.enc, .blk [.sl [] .full, .n 0, .sl [] .full, .sl [] .full], .arr 0 [], .dead]⟩) (gaj.fin x0 x1) hr (fun f hr => ?_) (fun v1 γ1 hr => ?_) (fun _ h => h)
   ·refine tq hΓ [41] [3] ?_ (by simp; exact rr);refine AWp.cnd hr (by simp) (fun h22 hr => ?_) (fun h22 hr => ?_)
    ·obtain ⟨h23, hr⟩ := Ld hr;obtain ⟨h24, hr⟩ := Ld hr;obtain ⟨h25, hr⟩ := Ld hr;obtain ⟨h26, hr⟩ := Ld hr;refine AWp.lstE (AWp.regD Tryz.mixed Tryz.tyOk hΓ [7] [41, 6] [(6, 0), (7, 0), (8, 0), (9, 0), (10, 0)] [(false, []), (false, []), (false, []), (false, []), (false, []), (true, []), (false, []), (false, []), (false, []), (false, []), (false, []), (true, []), (false, [])] (by kernel_rfl) rfl (by simp [h22, h23, h24, h25, h26]; exact rr)) ?_;refine Eps.see (See.freeze 4 (σ' := ⟨[⟨7, none, .sl ((appL (appL [] (cutL x0.fd 0 r1)) (cutL x0.fd (addI .i64 r1 1) (lenL x0.fd))).map Tg.enc) (.own 5 2 5)⟩, ⟨2, none, .ptr 0 0⟩, ⟨4, none, .ptr 2 0⟩], [.blk x0.enc, .blk x1.enc, .blk [.sl [] .full, .lit (.int .i64 0), .sl [] .full, .sl [] .full], .arr 0 [], .dead, .room 2]⟩) (by rfl) (by simp) (by simp) (by simp)) ?_;refine Eps.done ?_;obtain rfl := La hr;exact meet_go () 5 (by first | (simp; done) | simp [h17, h18, h19, h20, h21, h22, h23, h24, h25, h26])
    ·refine AWp.see (See.freeze 4 (σ' := ⟨[⟨41, none, .b false⟩, ⟨7, none, .sl ((setI x0.fd r1 (Tg.mk ((nthI x0.fd r1).fu) ((nthI x0.fd r1).fc) ((nthI x0.fd r1).fN) ((nthI x0.fd r1).fp) x1.fOn)).map Tg.enc) .no⟩, ⟨6, none, .n r1⟩, ⟨2, none, .ptr 0 0⟩, ⟨4, none, .ptr 2 0⟩], [.blk x0.enc, .blk x1.enc, .blk [.sl [] .full, .n 0, .sl [] .full, .sl [] .full], .arr 0 [], .dead]⟩) (by rfl) (by simp [h22]) (by simp) (by simp [h22])) ?_;refine AWp.skip ?_;obtain rfl := La hr;exact meet_go () 5 (by first | (simp; done) | simp [h17, h18, h19, h20, h21, h22])
   ·refine tq hΓ [] [7] ?_ (by simp; exact rr);refine tq hΓ [5] [2] ?_ (by simp; exact rr);obtain rfl := La hr;exact AWp.ret (Lb (by simp))
 ·refine AWp.skip ?_;obtain ⟨r2, h27, hr⟩ := Lc hr;refine tq hΓ [8] [17] ?_ (by simp [h17, h27]; exact rr);refine AWp.seq ?_;refine tq hΓ [64] [] ?_ (by simp; exact rr);refine AWp.cnd hr (by simp) (fun h28 hr => ?_) (fun h28 hr => ?_)
  ·refine tq hΓ [5] [64, 8, 2, 3] ?_ (by simp [h28]; exact rr);obtain rfl := La hr;exact AWp.ret (Lb (by simp))
  ·refine AWp.skip ?_;refine AWp.seq ?_;refine tq hΓ [68] [64] ?_ (by simp [h28]; exact rr);refine AWp.cnd hr (by simp) (fun h29 hr => ?_) (fun h29 hr => ?_)
   ·obtain ⟨r3, h30, hr⟩ := Lc hr;refine tq hΓ [5] [68, 8, 2, 3] ?_ (by simp [h29, h30]; exact rr);obtain rfl := La hr;exact AWp.ret (Lb (by simp))
   ·refine AWp.skip ?_;refine AWp.see (See.markA (by simp; rfl)) ?_;obtain ⟨h31, hr⟩ := Ld hr;refine tq hΓ [9] [68] ?_ (by simp [h29, h31]; exact rr);obtain ⟨h32, hr⟩ := Ld hr;refine tq hΓ [] [8, 3] ?_ (by simp [h32]; exact rr);refine tq hΓ [] [9] ?_ (by simp; exact rr);refine tq hΓ [5] [2] ?_ (by simp; exact rr);refine AWp.see (See.freeze 4 (σ' := ⟨[⟨5, none, .n 0⟩, ⟨4, none, .ptr 2 0⟩], [.blk (x0.fT.enc ++ [.sl ((setI x0.fa r2 (Tp.mk ((nthI x0.fa r2).fc) ((nthI x0.fa r2).fN) ((nthI x0.fa r2).fq) x1.fOn ((nthI x0.fa r2).fb))).map Tp.enc) .no, .sl (x0.fd.map Tg.enc) .no]), .blk x1.enc, .blk (x0.fT.enc ++ [.sl ((setI x0.fa r2 (Tp.mk ((nthI x0.fa r2).fc) ((nthI x0.fa r2).fN) ((nthI x0.fa r2).fq) x1.fOn ((nthI x0.fa r2).fb))).map Tp.enc) .no, .sl (x0.fd.map Tg.enc) .no]), .arr 0 [], .dead]⟩) (by rfl) (by simp) (by simp) (by simp)) ?_;obtain rfl := La hr;exact AWp.ret (Lb (by simp))
@[simp] noncomputable def gaj.S : Sp
  | [.agg e0, .agg e1], _ => (fun (y0 : Te) => (fun (y1 : Tc) => (fun (r : Te × Int) => some { av := .tup [.agg [.sl ((r.1.fT.fL).map Ta.enc) .no, .lit (.int .i64 (r.1.fT.fh)), .sl ((r.1.fa).map Tp.enc) .no, .sl ((r.1.fd).map Tg.enc) .no], .lit (.int .i64 (r.2))], M := none, obl := WeakL e0 (Te.enc y0) ∧ WeakL e1 (Tc.enc y1) ∧ (gaj y0 y1).isSome = true }) ((gaj y0 y1).getD dflt)) (Tc.dec e1)) (Te.dec e0)
  | _, _ => none
theorem gaj.ok : SpecOk Tryz.prog 54 gaj.S := by
 intro l M out h;unfold gaj.S at h;split at h
 ·rename_i e0 e1
  try dsimp only at h
  cases h;refine callOk_of fun ho => ?_;obtain ⟨ox0, ox1, hs⟩ := ho;generalize (Te.dec e0) = x0 at *
  generalize (Tc.dec e1) = x1 at *
  obtain ⟨r, hr⟩ := so1 hs;simp only [hr, gd1];have q := Lf (M := M) [] (gaj.can x0 x1 r hr) (by simp) rfl ixn;exact callOk_conv q trivial (by simp; exact ⟨ox0, ox1⟩) (by simp [frameOut]) (by simp [frameOut])
 ·cases h
@[simp] def gaE.out (_x0 : Te) (_x1 : Tc) (r : Te × Int × Int) : Out := { av := .tup [.agg [.sl (r.1.fT.fL.map Ta.enc) .no, .lit (.int .i64 r.1.fT.fh), .sl (r.1.fa.map Tp.enc) .no, .sl (r.1.fd.map Tg.enc) .no], .lit (.int .i64 r.2.1), .lit (.int .i64 r.2.2)], M := none }
theorem gaE.can (x0 : Te) (x1 : Tc) (r : Te × Int × Int) (hr : gaE x0 x1 = some r) : CallOk Tryz.prog 23 [.agg [.sl (x0.fT.fL.map Ta.enc) .no, .lit (.int .i64 x0.fT.fh), .sl (x0.fa.map Tp.enc) .no, .sl (x0.fd.map Tg.enc) .no], .agg [.lit (.int .i64 x1.fm), .lit (.string x1.fk), .lit (.string x1.fo), .lit (.int .i64 x1.fc), .lit (.int .i64 x1.fOf), .lit (.int .i64 x1.ff), .lit (.int .i64 x1.fp), .lit (.bool x1.fOn), .lit (.bool x1.fq), .sl (x1.fb.map (eNum .u32)) .no]] [] (gaE.out x0 x1 r) := by
 unfold gaE at hr;have hΓ := (gamL_cons gX.ok (gamL_cons gQ.ok (gamL_cons gae.ok (gamL_cons gaj.ok (gamL_cons gz.ok (gamL_cons gS.ok (gamL_cons gD.ok (gamL_nil))))))) : GamOk Tryz.prog _);refine cw Tryz.func23 rfl (by kernel_rfl) rfl rfl (by simp) fun _ _ _ => ?_;refine tq hΓ [2, 3, 4] [0, 1] ?_;refine AWp.seq ?_;obtain ⟨r1, h14, hr⟩ := Lc hr;refine tq hΓ [20] [] ?_ (by simp [h14]; exact rr);refine AWp.cnd hr (by simp) (fun h15 hr => ?_) (fun h15 hr => ?_)
 ·refine td hΓ [5, 6] [20, 2, 3] [] [(false, []), (false, []), (false, []), (true, []), (false, []), (false, [])] (by simp [h14, h15]; exact rr) ?_;obtain rfl := La hr;exact AWp.ret (Lb (by simp))
 ·refine AWp.skip ?_;refine AWp.seq ?_;refine tq hΓ [26] [20] ?_ (by simp [h15]; exact rr);refine AWp.cnd hr (by simp) (fun h16 hr => ?_) (fun h16 hr => ?_)
  ·obtain ⟨r2, h17, hr⟩ := Lc hr;refine tq hΓ [7, 8, 9] [26, 3] ?_ (by simp [h16, h17]; exact rr);refine tq hΓ [] [7] ?_ (by simp; exact rr);refine tq hΓ [5, 6] [8, 9, 2] ?_ (by simp; exact rr);obtain rfl := La hr;exact AWp.ret (Lb (by simp))
  ·refine AWp.skip ?_;obtain ⟨r3, h18, hr⟩ := Lc hr;refine tq hΓ [11] [26] ?_ (by simp [h16, h18]; exact rr);refine AWp.seq ?_;refine tq hΓ [52] [11] ?_ (by simp; exact rr);refine AWp.cnd hr (by simp) (fun h19 hr => ?_) (fun h19 hr => ?_)
   ·refine tq hΓ [5, 6] [52, 2, 3] ?_ (by simp [h19]; exact rr);obtain rfl := La hr;exact AWp.ret (Lb (by simp))
   ·refine AWp.skip ?_;refine AWp.seq ?_;refine tq hΓ [55] [52] ?_ (by simp [h19]; exact rr);refine AWp.block ?_;refine tq hΓ [56] [] ?_ (by simp; exact rr);refine AWp.cnd hr (by simp) (fun h20 hr => ?_) (fun h20 hr => ?_)
    ·obtain ⟨r4, h21, hr⟩ := Lc hr;refine tq hΓ [5, 6] [56, 55, 2, 3] ?_ (by simp [h20, h21]; exact rr);obtain rfl := La hr;exact AWp.ret (Lb (by simp))
    ·refine tq hΓ [62] [56] ?_ (by simp [h20]; exact rr);refine AWp.cnd hr (by simp) (fun h22 hr => ?_) (fun h22 hr => ?_)
     ·obtain ⟨r5, h23, hr⟩ := Lc hr;refine tq hΓ [12, 13] [62, 55, 2, 3] ?_ (by simp [h22, h23]; exact rr);refine tq hΓ [5, 6] [12, 13] ?_ (by simp; exact rr);obtain rfl := La hr;exact AWp.ret (Lb (by simp))
     ·refine tq hΓ [72] [62, 55] ?_ (by simp [h22]; exact rr);refine AWp.cnd hr (by simp) (fun h24 hr => ?_) (fun h24 hr => ?_)
      ·obtain ⟨r6, h25, hr⟩ := Lc hr;refine tq hΓ [14, 15] [72, 2, 3] ?_ (by simp [h24, h25]; exact rr);refine tq hΓ [5, 6] [14, 15] ?_ (by simp; exact rr);obtain rfl := La hr;exact AWp.ret (Lb (by simp))
      ·refine AWp.skip ?_;obtain ⟨r7, h26, hr⟩ := Lc hr;refine tq hΓ [16, 17] [72, 2, 3] ?_ (by simp [h24, h26]; exact rr);refine tq hΓ [5, 6] [16, 17] ?_ (by simp; exact rr);obtain rfl := La hr;exact AWp.ret (Lb (by simp))
@[simp] noncomputable def gaE.S : Sp
  | [.agg e0, .agg e1], _ => (fun (y0 : Te) => (fun (y1 : Tc) => (fun (r : Te × Int × Int) => some { av := .tup [.agg [.sl ((r.1.fT.fL).map Ta.enc) .no, .lit (.int .i64 (r.1.fT.fh)), .sl ((r.1.fa).map Tp.enc) .no, .sl ((r.1.fd).map Tg.enc) .no], .lit (.int .i64 (r.2.1)), .lit (.int .i64 (r.2.2))], M := none, obl := WeakL e0 (Te.enc y0) ∧ WeakL e1 (Tc.enc y1) ∧ (gaE y0 y1).isSome = true }) ((gaE y0 y1).getD dflt)) (Tc.dec e1)) (Te.dec e0)
  | _, _ => none
theorem gaE.ok : SpecOk Tryz.prog 23 gaE.S := by
 intro l M out h;unfold gaE.S at h;split at h
 ·rename_i e0 e1
  try dsimp only at h
  cases h;refine callOk_of fun ho => ?_;obtain ⟨ox0, ox1, hs⟩ := ho;generalize (Te.dec e0) = x0 at *
  generalize (Tc.dec e1) = x1 at *
  obtain ⟨r, hr⟩ := so1 hs;simp only [hr, gd1];have q := Lf (M := M) [] (gaE.can x0 x1 r hr) (by simp) rfl ixn;exact callOk_conv q trivial (by simp; exact ⟨ox0, ox1⟩) (by simp [frameOut]) (by simp [frameOut])
 ·cases h
end Go.Proofs

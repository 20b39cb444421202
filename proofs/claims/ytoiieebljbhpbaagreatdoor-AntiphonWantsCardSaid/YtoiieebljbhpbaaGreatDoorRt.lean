import Derived.Test.YtoiieebljbhpbaaGreatDoorM21
import Derived.Test.YtoiieebljbhpbaaGreatDoorTy
import Derived.Test.YtoiieebljbhpbaaGreatDoorM23
import Derived.Test.YtoiieebljbhpbaaGreatDoorM12
import Derived.Test.YtoiieebljbhpbaaGreatDoorOx
set_option maxRecDepth 100000
set_option maxHeartbeats 4000000
namespace Go.Proofs
open Go.Ab
@[simp] def gaB.out (_x0 : Bool) (_x1 : Int) (r : Int) : Out := { av := .lit (.int .u8 r), M := none }
theorem gaB.can (x0 : Bool) (x1 : Int) (r : Int) (hr : gaB x0 x1 = some r) : qao Tryz.prog 66 [.lit (.bool x0), .lit (.int .u8 x1)] [] (gaB.out x0 x1 r) := by
 unfold gaB at hr;have hΓ := qae (P := Tryz.prog);refine cw Tryz.func66 rfl (by kernel_rfl) rfl rfl (by simp) fun _ _ _ => ?_;refine tq hΓ [] [] ?_;refine AWp.seq ?_;refine tq hΓ [5] [0] ?_;refine AWp.cnd hr (by simp) (fun h2 hr => ?_) (fun h2 hr => ?_)
 ·refine tq hΓ [4] [5, 1] ?_ (by simp [h2]; exact rr);obtain rfl := La hr;exact AWp.ret (Ld (by simp))
 ·refine AWp.skip ?_;refine tq hΓ [4] [5, 1] ?_ (by simp [h2]; exact rr);obtain rfl := La hr;exact AWp.ret (Ld (by simp))
@[simp] noncomputable def gaB.S : Sp
  | [.lit (.bool x0), .lit (.int .u8 x1)], _ => some { av := .lit (.int .u8 ((gaB x0 x1).getD dflt)), M := none, obl := (gaB x0 x1).isSome = true }
  | _, _ => none
theorem gaB.ok : qap Tryz.prog 66 gaB.S := by
 intro l M out h;unfold gaB.S at h;split at h
 ·rename_i x0 x1;cases h;refine qad fun ho => ?_;have hs := ho;obtain ⟨r, hr⟩ := so1 hs;simp only [hr, gd1];have q := Lf (M := M) [] (gaB.can x0 x1 r hr) (by simp) rfl ixn;exact qac q trivial (by simp) (by simp [qaa]) (by simp [qaa])
 ·cases h
@[simp] def gaO.out (_x0 : ByteArray) (r : Int × Int) : Out := { av := .tup [.lit (.int .i64 r.1), .lit (.int .i64 r.2)], M := none }
theorem gaO.can (x0 : ByteArray) (r : Int × Int) (hr : gaO x0 = some r) : qao Tryz.prog 63 [.lit (.string x0)] [] (gaO.out x0 r) := by
 unfold gaO at hr;have hΓ := qae (P := Tryz.prog);refine cw Tryz.func63 rfl (by kernel_rfl) rfl rfl (by simp) fun _ _ _ => ?_;refine tq hΓ [] [] ?_;refine AWp.seq ?_;refine tq hΓ [6] [] ?_;refine AWp.cnd hr (by simp) (fun h5 hr => ?_) (fun h5 hr => ?_)
 ·refine tq hΓ [2, 3] [6, 0] ?_ (by simp [h5]; exact rr);obtain rfl := La hr;exact AWp.ret (Ld (by simp))
 ·refine AWp.skip ?_;obtain ⟨h6, hr⟩ := Lg hr;refine tq hΓ [4] [6] ?_ (by simp [h5, h6]; exact rr);refine AWp.seq ?_;refine AWp.block ?_;refine tq hΓ [13] [] ?_ (by simp; exact rr);refine AWp.cnd hr (by simp) (fun h7 hr => ?_) (fun h7 hr => ?_)
  ·refine tq hΓ [2, 3] [13, 4, 0] ?_ (by simp [h7]; exact rr);obtain rfl := La hr;exact AWp.ret (Ld (by simp))
  ·refine tq hΓ [16] [13, 0] ?_ (by simp [h7]; exact rr);refine AWp.cnd hr (by simp) (fun h8 hr => ?_) (fun h8 hr => ?_)
   ·refine tq hΓ [2, 3] [16, 4] ?_ (by simp [h8]; exact rr);obtain rfl := La hr;exact AWp.ret (Ld (by simp))
   ·refine AWp.skip ?_;refine tq hΓ [2, 3] [16, 4] ?_ (by simp [h8]; exact rr);obtain rfl := La hr;exact AWp.ret (Ld (by simp))
@[simp] noncomputable def gaO.S : Sp
  | [.lit (.string x0)], _ => some { av := .tup [.lit (.int .i64 (((gaO x0).getD dflt).1)), .lit (.int .i64 (((gaO x0).getD dflt).2))], M := none, obl := (gaO x0).isSome = true }
  | _, _ => none
theorem gaO.ok : qap Tryz.prog 63 gaO.S := by
 intro l M out h;unfold gaO.S at h;split at h
 ·rename_i x0;cases h;refine qad fun ho => ?_;have hs := ho;obtain ⟨r, hr⟩ := so1 hs;simp only [hr, gd1];have q := Lf (M := M) [] (gaO.can x0 r hr) (by simp) rfl ixn;exact qac q trivial (by simp) (by simp [qaa]) (by simp [qaa])
 ·cases h
@[simp] def gK.out (_x0 : Tl) (r : ByteArray) : Out := { av := .lit (.string r), M := none }
def gK.fin (x0 : Tl) (r : ByteArray) (σ : St) : Prop := finK (gK.out x0 r) [] σ.M (resA Tryz.ty σ.A σ.M Tryz.f28.results.toList)
theorem gK.can (x0 : Tl) (r : ByteArray) (hr : gK x0 = some r) : qao Tryz.prog 28 [.agg [.lit (.bool x0.fG), .lit (.int .u8 x0.fD), .lit (.int .u16 x0.fW), .lit (.int .u32 x0.fP), .lit (.int .u32 x0.fQ), .sl (x0.fH.map (eNum .u32)) .no, .lit (.bool x0.fX), .lit (.int .u16 x0.fC), .lit (.string x0.fK), .lit (.string x0.fy), .lit (.int .i64 x0.fz)]] [] (gK.out x0 r) := by
 unfold gK at hr;have hΓ := (qab gu.ok (qab gaz.Text.ok (qab gp.ok (qab gt.ok (qab gaz.U8.ok (qab gaB.ok (qae)))))) : qbc Tryz.prog _);refine cw Tryz.func28 rfl (by kernel_rfl) rfl rfl (by simp) fun _ _ _ => ?_;refine tq hΓ [1] [0] ?_;refine AWp.then ⟨[⟨3, none, .ptr 1 0⟩, ⟨1, none, .ptr 0 0⟩], [.blk x0.enc, .opq (wrO 143 5 [])]⟩ (gaz.alloc rfl rfl rfl rfl (by kernel_rfl) rfl (dead := []) (by simp [exS])) ?_;obtain ⟨r1, h17, hr⟩ := Lb hr;obtain ⟨r2, h18, hr⟩ := Lb hr;obtain ⟨r3, h19, hr⟩ := Lb hr;obtain ⟨h20, hr⟩ := Lg hr;refine td hΓ [] [] [] [(false, []), (false, []), (false, []), (false, []), (false, []), (false, []), (false, []), (false, []), (false, []), (false, []), (false, []), (false, []), (false, []), (false, []), (false, []), (false, []), (false, []), (false, []), (false, []), (false, []), (false, []), (true, [])] (by simp [h17, h18, h19, h20]; exact rr) ?_;obtain ⟨r4, h21, hr⟩ := Lb hr;obtain ⟨r5, h22, hr⟩ := Lb hr;obtain ⟨r6, h23, hr⟩ := Lb hr;refine td hΓ [] [] [(4, 0), (5, 0), (6, 0), (7, 0), (8, 0), (10, 0), (10, 4), (11, 0), (11, 4)] [(false, []), (false, []), (false, []), (true, []), (false, []), (false, []), (false, []), (false, []), (false, []), (true, []), (false, []), (false, []), (true, [])] (by simp [h21, h22, h23]; exact rr) ?_;refine AWp.meetF (fun (v1 : List Int × Tl) (γ1 : Unit) => ⟨[⟨3, none, .ptr 1 0⟩, ⟨1, none, .ptr 0 0⟩], [.blk v1.2.enc, .opq (wrO 143 5 v1.1)]⟩) (gK.fin x0) hr (fun f hr => ?_) (fun v1 γ1 hr => ?_) (fun _ h => h)
 ·refine tq hΓ [41] [] ?_ (by simp; exact rr);refine AWp.cnd hr (by simp) (fun h24 hr => ?_) (fun h24 hr => ?_)
  ·obtain ⟨h25, hr⟩ := Lg hr;obtain ⟨r7, h26, hr⟩ := Lb hr;obtain ⟨r8, h27, hr⟩ := Lb hr;refine AWp.lst (AWp.regD Tryz.mixed Tryz.tyOk hΓ [] [41] [(9, 0), (10, 0), (11, 0)] [(false, []), (false, []), (false, []), (false, []), (false, []), (false, []), (false, []), (false, []), (true, []), (false, []), (false, []), (false, []), (true, [])] (by kernel_rfl) rfl (by simp [h24, h25, h26, h27]; exact rr)) ?_;obtain rfl := La hr;exact Lp () 2 (by first | (simp; done) | simp [h17, h18, h19, h20, h21, h22, h23, h24, h25, h26, h27])
  ·refine AWp.skip ?_;obtain rfl := La hr;exact Lp () 2 (by first | (simp; done) | simp [h24])
 ·obtain ⟨r9, h28, hr⟩ := Lb hr;refine tq hΓ [] [] ?_ (by simp [h28]; exact rr);refine AWp.seq ?_;refine tq hΓ [60, 61] [] ?_ (by simp; exact rr);refine AWp.loopE (fun (s2 : Int × List Int) (γ2 : Unit) => ⟨[⟨60, none, .n v1.2.fz⟩, ⟨61, none, .n s2.1⟩, ⟨3, none, .ptr 1 0⟩, ⟨1, none, .ptr 0 0⟩], [.blk v1.2.enc, .opq (wrO 143 5 s2.2)]⟩) (fun (v2 : List Int) (γ2a : Unit) => ⟨[⟨3, none, .ptr 1 0⟩], [.blk v1.2.enc, .opq (wrO 143 5 v2)]⟩) (gK.fin x0) hr () 2 (by simp) (fun s2 f γ2 hr => ?_) (fun v2 γ2a σ1 m1 hr hc => ?_) (fun _ h => h)
  ·unfold gK.loop2 at hr;refine tq hΓ [62] [] ?_ (by simp; exact rr);refine AWp.seq ?_;refine AWp.cnd hr (by simp) (fun h29 hr => ?_) (fun h29 hr => ?_)
   ·refine AWp.skip ?_;refine AWp.seq ?_;refine AWp.block ?_;refine tq hΓ [4] [62] ?_ (by simp [h29]; exact rr);obtain ⟨r10, h30, hr⟩ := Lb hr;obtain ⟨h31, hr⟩ := Lg hr;refine tl hΓ [] [4] ?_ (by simp [h30, h31]; exact rr);refine tl hΓ [61] [] ?_ (by simp; exact rr);obtain rfl := La hr;exact Lq () 2 (by first | (simp; done) | simp [h17, h18, h19, h20, h21, h22, h23, h28, h29, h30, h31])
   ·refine AWp.exit ?_;obtain rfl := La hr;exact Ln () 2 (by first | (simp; done) | simp [h17, h18, h19, h20, h21, h22, h23, h28, h29])
  ·refine AWp.conv hc ?_;obtain ⟨h32, hr⟩ := Lg hr;refine tq hΓ [2] [3] ?_ (by simp [h32]; exact rr);obtain rfl := La hr;exact AWp.ret (Ld (by simp))
@[simp] noncomputable def gK.S : Sp
  | [.agg e0], _ => some { av := .lit (.string ((gK (Tl.dec e0)).getD dflt)), M := none, obl := WeakL e0 (Tl.enc (Tl.dec e0)) ∧ (gK (Tl.dec e0)).isSome = true }
  | _, _ => none
theorem gK.ok : qap Tryz.prog 28 gK.S := by
 intro l M out h;unfold gK.S at h;split at h
 ·rename_i e0;cases h;refine qad fun ho => ?_;obtain ⟨ox0, hs⟩ := ho;generalize (Tl.dec e0) = x0 at *
  obtain ⟨r, hr⟩ := so1 hs;simp only [hr, gd1];have q := Lf (M := M) [] (gK.can x0 r hr) (by simp) rfl ixn;exact qac q trivial (by simp; exact ox0) (by simp [qaa]) (by simp [qaa])
 ·cases h
@[simp] def gae.out (_x0 : ByteArray) (r : Tl × Int) : Out := { av := .tup [.agg [.lit (.bool r.1.fG), .lit (.int .u8 r.1.fD), .lit (.int .u16 r.1.fW), .lit (.int .u32 r.1.fP), .lit (.int .u32 r.1.fQ), .sl (r.1.fH.map (eNum .u32)) .no, .lit (.bool r.1.fX), .lit (.int .u16 r.1.fC), .lit (.string r.1.fK), .lit (.string r.1.fy), .lit (.int .i64 r.1.fz)], .lit (.int .i64 r.2)], M := none }
def gae.fin (x0 : ByteArray) (r : Tl × Int) (σ : St) : Prop := finK (gae.out x0 r) [] σ.M (resA Tryz.ty σ.A σ.M Tryz.f27.results.toList)
theorem gae.can (x0 : ByteArray) (r : Tl × Int) (hr : gae x0 = some r) : qao Tryz.prog 27 [.lit (.string x0)] [] (gae.out x0 r) := by
 unfold gae at hr;have hΓ := (qab gy.ok (qab gW.ok (qab gI.ok (qab gQ.ok (qab gL.ok (qab gM.ok (qab gX.ok (qab gau.ok (qab gaO.ok (qae))))))))) : qbc Tryz.prog _);refine cw Tryz.func27 rfl (by kernel_rfl) rfl rfl (by simp) fun _ _ _ => ?_;refine tq hΓ [2] [] ?_;refine AWp.seq ?_;refine tq hΓ [13] [] ?_;refine AWp.cnd hr (by simp) (fun h26 hr => ?_) (fun h26 hr => ?_)
 ·refine tq hΓ [3] [13, 0] ?_ (by simp [h26]; exact rr);obtain rfl := La hr;exact AWp.ret (Ld (by simp))
 ·refine AWp.skip ?_;obtain ⟨r1, h27, hr⟩ := Lb hr;refine tq hΓ [4] [13, 0] ?_ (by simp [h26, h27]; exact rr);obtain ⟨r2, h28, hr⟩ := Lb hr;obtain ⟨r3, h29, hr⟩ := Lb hr;refine tq hΓ [5, 6] [] ?_ (by simp [h28, h29]; exact rr);refine AWp.seq ?_;obtain ⟨r4, h30, hr⟩ := Lb hr;obtain ⟨h31, hr⟩ := Lg hr;refine tq hΓ [28] [] ?_ (by simp [h30, h31]; exact rr);refine AWp.cnd hr (by simp) (fun h32 hr => ?_) (fun h32 hr => ?_)
  ·refine tq hΓ [3] [28, 5, 6, 4] ?_ (by simp [h32]; exact rr);obtain rfl := La hr;exact AWp.ret (Ld (by simp))
  ·refine AWp.skip ?_;obtain ⟨r5, h33, hr⟩ := Lb hr;obtain ⟨r6, h34, hr⟩ := Lb hr;obtain ⟨r7, h35, hr⟩ := Lb hr;refine tq hΓ [7] [28, 6] ?_ (by simp [h32, h33, h34, h35]; exact rr);refine AWp.seq ?_;refine tq hΓ [45, 46] [] ?_ (by simp; exact rr);refine AWp.equipC 2 5 1 (els := []) (cells := _) rfl (by simp) (by simp) ?_;refine AWp.loopE (fun (s1 : Int × Tj × List Int) (γ1 : Nat) => ⟨[⟨45, none, .lit (.int .u8 (qaq .and .u8 r2.1 15))⟩, ⟨46, none, .lit (.int .u8 s1.1)⟩, ⟨7, none, .ptr 2 0⟩, ⟨5, none, .lit (.int .u8 r2.1)⟩, ⟨4, none, .ptr 1 0⟩, ⟨2, none, .ptr 0 0⟩], [.blk [.b false, .lit (.int .u8 0), .lit (.int .u16 0), .lit (.int .u32 0), .lit (.int .u32 0), .sl [] .full, .b false, .lit (.int .u16 0), .s ⟨#[]⟩, .s ⟨#[]⟩, .n 0], .blk s1.2.1.enc, .blk [.b (ltI 127 r3.1), .lit (.int .u8 (qaq .and .u8 r3.1 127)), .lit (.int .u16 r5.1), .lit (.int .u32 r6.1), .lit (.int .u32 r7.1), .sl (s1.2.2.map (eNum .u32)) (.own 3 (γ1) 1), .b (ltI 0 (qaq .and .u8 r2.1 16)), .lit (.int .u16 0), .s ⟨#[]⟩, .s ⟨#[]⟩, .n 0], .room (γ1)]⟩) (fun (v1 : Tj × List Int) (γ1a : Nat) => ⟨[⟨7, none, .ptr 2 0⟩, ⟨5, none, .lit (.int .u8 r2.1)⟩, ⟨4, none, .ptr 1 0⟩, ⟨2, none, .ptr 0 0⟩], [.blk [.b false, .lit (.int .u8 0), .lit (.int .u16 0), .lit (.int .u32 0), .lit (.int .u32 0), .sl [] .full, .b false, .lit (.int .u16 0), .s ⟨#[]⟩, .s ⟨#[]⟩, .n 0], .blk v1.1.enc, .blk [.b (ltI 127 r3.1), .lit (.int .u8 (qaq .and .u8 r3.1 127)), .lit (.int .u16 r5.1), .lit (.int .u32 r6.1), .lit (.int .u32 r7.1), .sl (v1.2.map (eNum .u32)) (.own 3 (γ1a) 1), .b (ltI 0 (qaq .and .u8 r2.1 16)), .lit (.int .u16 0), .s ⟨#[]⟩, .s ⟨#[]⟩, .n 0], .room (γ1a)]⟩) (gae.fin x0) hr 0 4 (by simp) (fun s1 f γ1 hr => ?_) (fun v1 γ1a σ1 m1 hr hc => ?_) (fun _ h => h)
   ·unfold gae.loop1 at hr;refine tq hΓ [47] [] ?_ (by simp; exact rr);refine AWp.seq ?_;refine AWp.cnd hr (by simp) (fun h36 hr => ?_) (fun h36 hr => ?_)
    ·refine AWp.skip ?_;refine AWp.seq ?_;refine AWp.block ?_;obtain ⟨r8, h37, hr⟩ := Lb hr;obtain ⟨h38, hr⟩ := Lg hr;refine AWp.lst (AWp.regD Tryz.mixed Tryz.tyOk hΓ [] [47] [(0, 4), (1, 4)] [(false, []), (false, []), (false, []), (true, []), (false, []), (true, []), (false, []), (true, [])] (by kernel_rfl) rfl (by simp [h36, h37, h38]; exact rr)) ?_;refine tl hΓ [46] [] ?_ (by simp; exact rr);obtain rfl := La hr;exact Lq (γ1 + 1) 4 (by first | (simp; done) | simp [h26, h27, h28, h29, h30, h31, h32, h33, h34, h35, h36, h37, h38])
    ·refine AWp.exit ?_;obtain rfl := La hr;exact Ln (γ1) 4 (by first | (simp; done) | simp [h26, h27, h28, h29, h30, h31, h32, h33, h34, h35, h36])
   ·refine AWp.conv hc ?_;refine AWp.meetF (fun (v2 : Tj × Int × ByteArray × Bool) (γ2 : Unit) => ⟨[⟨7, none, .ptr 2 0⟩, ⟨5, none, .lit (.int .u8 r2.1)⟩, ⟨4, none, .ptr 1 0⟩, ⟨2, none, .ptr 0 0⟩], [.blk [.b false, .lit (.int .u8 0), .lit (.int .u16 0), .lit (.int .u32 0), .lit (.int .u32 0), .sl [] .full, .b false, .lit (.int .u16 0), .s ⟨#[]⟩, .s ⟨#[]⟩, .n 0], .blk v2.1.enc, .blk [.b (ltI 127 r3.1), .lit (.int .u8 (qaq .and .u8 r3.1 127)), .lit (.int .u16 r5.1), .lit (.int .u32 r6.1), .lit (.int .u32 r7.1), .sl (v1.2.map (eNum .u32)) (.own 3 (γ1a) 1), .b v2.2.2.2, .lit (.int .u16 v2.2.1), .s v2.2.2.1, .s ⟨#[]⟩, .n 0], .room (γ1a)]⟩) (gae.fin x0) hr (fun f hr => ?_) (fun v2 γ2 hr => ?_) (fun _ h => h)
    ·refine tq hΓ [57] [] ?_ (by simp; exact rr);refine AWp.cnd hr (by simp) (fun h39 hr => ?_) (fun h39 hr => ?_)
     ·obtain ⟨r9, h40, hr⟩ := Lb hr;refine tq hΓ [] [57] ?_ (by simp [h39, h40]; exact rr);obtain ⟨r10, h41, hr⟩ := Lb hr;obtain ⟨r11, h42, hr⟩ := Lb hr;refine tl hΓ [] [] ?_ (by simp [h41, h42]; exact rr);obtain rfl := La hr;exact Lp () 4 (by first | (simp; done) | simp [h26, h27, h28, h29, h30, h31, h32, h33, h34, h35, h39, h40, h41, h42])
     ·refine AWp.skip ?_;obtain rfl := La hr;exact Lp () 4 (by first | (simp; done) | simp [h39])
    ·obtain ⟨r12, h43, hr⟩ := Lb hr;refine tq hΓ [] [] ?_ (by simp [h43]; exact rr);refine AWp.meetF (fun (v3 : Tj × ByteArray × Int) (γ3 : Unit) => ⟨[⟨7, none, .ptr 2 0⟩, ⟨4, none, .ptr 1 0⟩, ⟨2, none, .ptr 0 0⟩], [.blk [.b false, .lit (.int .u8 0), .lit (.int .u16 0), .lit (.int .u32 0), .lit (.int .u32 0), .sl [] .full, .b false, .lit (.int .u16 0), .s ⟨#[]⟩, .s ⟨#[]⟩, .n 0], .blk v3.1.enc, .blk [.b (ltI 127 r3.1), .lit (.int .u8 (qaq .and .u8 r3.1 127)), .lit (.int .u16 r5.1), .lit (.int .u32 r6.1), .lit (.int .u32 r7.1), .sl (v1.2.map (eNum .u32)) (.own 3 (γ1a) 1), .b v2.2.2.2, .lit (.int .u16 v2.2.1), .s v2.2.2.1, .s v3.2.1, .n v3.2.2], .room (γ1a)]⟩) (gae.fin x0) hr (fun f hr => ?_) (fun v3 γ3 hr => ?_) (fun _ h => h)
     ·obtain ⟨r13, h44, hr⟩ := Lb hr;refine tq hΓ [78] [5] ?_ (by simp [h44]; exact rr);refine AWp.cnd hr (by simp) (fun h45 hr => ?_) (fun h45 hr => ?_)
      ·obtain ⟨r14, h46, hr⟩ := Lb hr;refine tq hΓ [8, 9] [78] ?_ (by simp [h45, h46]; exact rr);obtain ⟨r15, h47, hr⟩ := Lb hr;refine tq hΓ [] [9] ?_ (by simp [h47]; exact rr);obtain ⟨h48, hr⟩ := Lg hr;refine AWp.lst (AWp.regD Tryz.mixed Tryz.tyOk hΓ [] [8] [(5, 11), (6, 11), (7, 11), (8, 11)] [(false, []), (false, []), (false, []), (false, []), (false, []), (false, []), (false, []), (false, []), (false, []), (false, []), (true, []), (false, []), (true, [])] (by kernel_rfl) rfl (by simp [h48]; exact rr)) ?_;obtain rfl := La hr;exact Lp () 4 (by first | (simp; done) | simp [h26, h27, h28, h29, h30, h31, h32, h33, h34, h35, h43, h44, h45, h46, h47, h48])
      ·refine AWp.skip ?_;obtain rfl := La hr;exact Lp () 4 (by first | (simp; done) | simp [h26, h27, h28, h29, h30, h31, h32, h33, h34, h35, h43, h44, h45])
     ·refine AWp.seq ?_;obtain ⟨r16, h49, hr⟩ := Lb hr;refine tq hΓ [10] [4] ?_ (by simp [h49]; exact rr);refine tq hΓ [102] [] ?_ (by simp; exact rr);refine AWp.cnd hr (by simp) (fun h50 hr => ?_) (fun h50 hr => ?_)
      ·refine tq hΓ [3] [102, 10, 7] ?_ (by simp [h50]; exact rr);obtain rfl := La hr;exact AWp.ret (Ld (by simp))
      ·refine AWp.skip ?_;refine tq hΓ [3] [102, 10, 7] ?_ (by simp [h50]; exact rr);obtain rfl := La hr;exact AWp.ret (Ld (by simp))
@[simp] noncomputable def gae.S : Sp
  | [.lit (.string x0)], _ => (fun (r : Tl × Int) => some { av := .tup [.agg [.lit (.bool (r.1.fG)), .lit (.int .u8 (r.1.fD)), .lit (.int .u16 (r.1.fW)), .lit (.int .u32 (r.1.fP)), .lit (.int .u32 (r.1.fQ)), .sl ((r.1.fH).map (eNum .u32)) .no, .lit (.bool (r.1.fX)), .lit (.int .u16 (r.1.fC)), .lit (.string (r.1.fK)), .lit (.string (r.1.fy)), .lit (.int .i64 (r.1.fz))], .lit (.int .i64 (r.2))], M := none, obl := (gae x0).isSome = true }) ((gae x0).getD dflt)
  | _, _ => none
theorem gae.ok : qap Tryz.prog 27 gae.S := by
 intro l M out h;unfold gae.S at h;split at h
 ·rename_i x0
  try dsimp only at h
  cases h;refine qad fun ho => ?_;have hs := ho;obtain ⟨r, hr⟩ := so1 hs;simp only [hr, gd1];have q := Lf (M := M) [] (gae.can x0 r hr) (by simp) rfl ixn;exact qac q trivial (by simp) (by simp [qaa]) (by simp [qaa])
 ·cases h
end Go.Proofs

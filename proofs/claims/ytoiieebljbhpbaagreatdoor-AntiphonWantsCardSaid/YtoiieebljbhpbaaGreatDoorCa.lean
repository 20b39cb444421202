import Derived.Test.YtoiieebljbhpbaaGreatDoorM20
import Derived.Test.YtoiieebljbhpbaaGreatDoorTy
import Derived.Test.YtoiieebljbhpbaaGreatDoorM14
set_option maxRecDepth 100000
set_option maxHeartbeats 4000000
namespace Go.Proofs
open Go.Ab
@[simp] def gaj.out (_x0 : Int) (r : ByteArray) : Out := { av := .lit (.string r), M := none }
theorem gaj.can (x0 : Int) (r : ByteArray) (hr : gaj x0 = some r) : qao Tryz.prog 76 [.lit (.int .i64 x0)] [] (gaj.out x0 r) := by
 unfold gaj at hr;have hΓ := qae (P := Tryz.prog);refine cw Tryz.func76 rfl (by kernel_rfl) rfl rfl (by simp) fun _ _ _ => ?_;refine tq hΓ [] [] ?_;refine AWp.seq ?_;refine tq hΓ [3] [0] ?_;refine AWp.block ?_;refine tq hΓ [4] [] ?_;refine AWp.cnd hr (by simp) (fun h9 hr => ?_) (fun h9 hr => ?_)
 ·refine tq hΓ [2] [4, 3] ?_ (by simp [h9]; exact rr);obtain rfl := La hr;exact AWp.ret (Ld (by simp))
 ·refine tq hΓ [6] [4] ?_ (by simp [h9]; exact rr);refine AWp.cnd hr (by simp) (fun h10 hr => ?_) (fun h10 hr => ?_)
  ·refine tq hΓ [2] [6, 3] ?_ (by simp [h10]; exact rr);obtain rfl := La hr;exact AWp.ret (Ld (by simp))
  ·refine tq hΓ [8] [6] ?_ (by simp [h10]; exact rr);refine AWp.cnd hr (by simp) (fun h11 hr => ?_) (fun h11 hr => ?_)
   ·refine tq hΓ [2] [8, 3] ?_ (by simp [h11]; exact rr);obtain rfl := La hr;exact AWp.ret (Ld (by simp))
   ·refine tq hΓ [10] [8] ?_ (by simp [h11]; exact rr);refine AWp.cnd hr (by simp) (fun h12 hr => ?_) (fun h12 hr => ?_)
    ·refine tq hΓ [2] [10, 3] ?_ (by simp [h12]; exact rr);obtain rfl := La hr;exact AWp.ret (Ld (by simp))
    ·refine tq hΓ [12] [10] ?_ (by simp [h12]; exact rr);refine AWp.cnd hr (by simp) (fun h13 hr => ?_) (fun h13 hr => ?_)
     ·refine tq hΓ [2] [12, 3] ?_ (by simp [h13]; exact rr);obtain rfl := La hr;exact AWp.ret (Ld (by simp))
     ·refine tq hΓ [14] [12] ?_ (by simp [h13]; exact rr);refine AWp.cnd hr (by simp) (fun h14 hr => ?_) (fun h14 hr => ?_)
      ·refine tq hΓ [2] [14, 3] ?_ (by simp [h14]; exact rr);obtain rfl := La hr;exact AWp.ret (Ld (by simp))
      ·refine tq hΓ [16] [14] ?_ (by simp [h14]; exact rr);refine AWp.cnd hr (by simp) (fun h15 hr => ?_) (fun h15 hr => ?_)
       ·refine tq hΓ [2] [16, 3] ?_ (by simp [h15]; exact rr);obtain rfl := La hr;exact AWp.ret (Ld (by simp))
       ·refine tq hΓ [18] [16, 3] ?_ (by simp [h15]; exact rr);refine AWp.cnd hr (by simp) (fun h16 hr => ?_) (fun h16 hr => ?_)
        ·refine tq hΓ [2] [18] ?_ (by simp [h16]; exact rr);obtain rfl := La hr;exact AWp.ret (Ld (by simp))
        ·refine AWp.skip ?_;refine tq hΓ [2] [18] ?_ (by simp [h16]; exact rr);obtain rfl := La hr;exact AWp.ret (Ld (by simp))
@[simp] noncomputable def gaj.S : Sp
  | [.lit (.int .i64 x0)], _ => some { av := .lit (.string ((gaj x0).getD dflt)), M := none, obl := (gaj x0).isSome = true }
  | _, _ => none
theorem gaj.ok : qap Tryz.prog 76 gaj.S := by
 intro l M out h;unfold gaj.S at h;split at h
 ·rename_i x0;cases h;refine qad fun ho => ?_;have hs := ho;obtain ⟨r, hr⟩ := so1 hs;simp only [hr, gd1];have q := Lf (M := M) [] (gaj.can x0 r hr) (by simp) rfl ixn;exact qac q trivial (by simp) (by simp [qaa]) (by simp [qaa])
 ·cases h
@[simp] def gF.out (_x0 : Int) (_x1 : Int) (r : Bool) : Out := { av := .lit (.bool r), M := none }
def gF.fin (x0 : Int) (x1 : Int) (r : Bool) (σ : St) : Prop := finK (gF.out x0 x1 r) [] σ.M (resA Tryz.ty σ.A σ.M Tryz.f118.results.toList)
theorem gF.can (x0 : Int) (x1 : Int) (r : Bool) (hr : gF x0 x1 = some r) : qao Tryz.prog 118 [.lit (.int .i64 x0), .lit (.int .i32 x1)] [] (gF.out x0 x1 r) := by
 unfold gF at hr;have hΓ := (qab gaj.ok (qae) : qbc Tryz.prog _);refine cw Tryz.func118 rfl (by kernel_rfl) rfl rfl (by simp) fun _ _ _ => ?_;refine tq hΓ [] [] ?_;refine AWp.seq ?_;obtain ⟨r1, h4, hr⟩ := Lb hr;refine tq hΓ [9] [0] ?_ (by simp [h4]; exact rr);refine AWp.loopE (fun (s1 : Nat) (γ1 : Unit) => ⟨[⟨9, none, .it 0⟩, ⟨1, none, .lit (.int .i32 x1)⟩], [.iter r1 s1]⟩) (fun (v1 : Unit) (γ1a : Unit) => ⟨[], [.dead]⟩) (gF.fin x0 x1) hr () 1 (by simp) (fun s1 f γ1 hr => ?_) (fun v1 γ1a σ1 m1 hr hc => ?_) (fun _ h => h)
 ·unfold gF.loop1 at hr;cases h5 : (nextB r1 s1) with
  | true =>
    have hr := cond_t h5 hr;refine tq hΓ [10, 11] [] ?_ (by simp [h5]; exact rr);refine AWp.seq ?_;refine AWp.cond (b := true) (by simp) (fun hb => ?_) (fun hb => ?_)
    ·refine AWp.skip ?_;refine AWp.block ?_;refine tq hΓ [6] [10, 11] ?_ (by simp; exact rr);refine tq hΓ [15] [6] ?_ (by simp; exact rr);refine AWp.cnd hr (by simp) (fun h6 hr => ?_) (fun h6 hr => ?_)
     ·refine tq hΓ [4] [15, 9, 1] ?_ (by simp [h6]; exact rr);refine AWp.ret ?_;obtain rfl := La hr;refine round_ret ?_;refine Ld ?_;simp
     ·refine AWp.skip ?_;obtain rfl := La hr;exact Lq () 1 (by first | (simp; done) | simp [h4, h5, h6])
    ·cases hb
  | false =>
    have hr := cond_f h5 hr;refine tq hΓ [10, 11] [] ?_ (by simp [h5]; exact rr);refine AWp.seq ?_;refine AWp.cond (b := false) (by simp) (fun hb => ?_) (fun hb => ?_)
    ·cases hb
    ·refine AWp.exit ?_;obtain rfl := La hr;exact Ln () 1 (by first | (simp; done) | simp [h4, h5])
 ·refine AWp.conv hc ?_;refine tq hΓ [4] [] ?_ (by simp; exact rr);obtain rfl := La hr;exact AWp.ret (Ld (by simp))
@[simp] noncomputable def gF.S : Sp
  | [.lit (.int .i64 x0), .lit (.int .i32 x1)], _ => some { av := .lit (.bool ((gF x0 x1).getD dflt)), M := none, obl := (gF x0 x1).isSome = true }
  | _, _ => none
theorem gF.ok : qap Tryz.prog 118 gF.S := by
 intro l M out h;unfold gF.S at h;split at h
 ·rename_i x0 x1;cases h;refine qad fun ho => ?_;have hs := ho;obtain ⟨r, hr⟩ := so1 hs;simp only [hr, gd1];have q := Lf (M := M) [] (gF.can x0 x1 r hr) (by simp) rfl ixn;exact qac q trivial (by simp) (by simp [qaa]) (by simp [qaa])
 ·cases h
@[simp] def gai.out (_x0 : Int) (r : Bool) : Out := { av := .lit (.bool r), M := none }
theorem gai.can (x0 : Int) (r : Bool) (hr : gai x0 = some r) : qao Tryz.prog 78 [.lit (.int .i64 x0)] [] (gai.out x0 r) := by
 unfold gai at hr;have hΓ := qae (P := Tryz.prog);refine cw Tryz.func78 rfl (by kernel_rfl) rfl rfl (by simp) fun _ _ _ => ?_;refine tq hΓ [] [] ?_;refine tq hΓ [2] [0] ?_;obtain rfl := La hr;exact AWp.ret (Ld (by simp))
@[simp] noncomputable def gai.S : Sp
  | [.lit (.int .i64 x0)], _ => some { av := .lit (.bool ((gai x0).getD dflt)), M := none, obl := (gai x0).isSome = true }
  | _, _ => none
theorem gai.ok : qap Tryz.prog 78 gai.S := by
 intro l M out h;unfold gai.S at h;split at h
 ·rename_i x0;cases h;refine qad fun ho => ?_;have hs := ho;obtain ⟨r, hr⟩ := so1 hs;simp only [hr, gd1];have q := Lf (M := M) [] (gai.can x0 r hr) (by simp) rfl ixn;exact qac q trivial (by simp) (by simp [qaa]) (by simp [qaa])
 ·cases h
@[simp] def gz.out (_x0 : Td) (r : Bool) : Out := { av := .lit (.bool r), M := none }
def gz.fin (x0 : Td) (r : Bool) (σ : St) : Prop := finK (gz.out x0 r) [] σ.M (resA Tryz.ty σ.A σ.M Tryz.f77.results.toList)
theorem gz.can (x0 : Td) (r : Bool) (hr : gz x0 = some r) : qao Tryz.prog 77 [.agg [.lit (.int .i64 x0.fk), .lit (.string x0.fm), .lit (.string x0.fp), .lit (.int .i64 x0.fc), .lit (.int .i64 x0.fOf), .lit (.int .i64 x0.ff), .lit (.int .i64 x0.fo), .lit (.bool x0.fOn), .lit (.bool x0.fq), .sl (x0.fa.map (eNum .u32)) .no]] [] (gz.out x0 r) := by
 unfold gz at hr;have hΓ := (qab gF.ok (qae) : qbc Tryz.prog _);refine cw Tryz.func77 rfl (by kernel_rfl) rfl rfl (by simp) fun _ _ _ => ?_;refine tq hΓ [1] [0] ?_;refine tq hΓ [3] [] ?_;refine AWp.meetF (fun (v1 : Unit) (γ1 : Unit) => ⟨[], [.blk x0.enc]⟩) (gz.fin x0) hr (fun f hr => ?_) (fun v1 γ1 hr => ?_) (fun _ h => h)
 ·refine AWp.block ?_;refine AWp.meetF (fun (v2 : Bool) (γ2 : Unit) => ⟨[⟨3, none, .n x0.fk⟩, ⟨1, none, .ptr 0 0⟩, ⟨6, none, .b v2⟩], [.blk x0.enc]⟩) (QRm (gz.fin x0)) hr (fun f hr => ?_) (fun v2 γ2 hr => ?_) (fun _ h => QRm_ret h)
  ·obtain ⟨r1, h16, hr⟩ := Lb hr;obtain ⟨h17, hr⟩ := Lg hr;refine tq hΓ [6] [] ?_ (by simp [h16, h17]; exact rr);refine AWp.cnd hr (by simp) (fun h18 hr => ?_) (fun h18 hr => ?_)
   ·refine AWp.skip ?_;obtain rfl := La hr;exact Lp () 1 (by first | (simp; done) | simp [h18])
   ·obtain ⟨r2, h19, hr⟩ := Lb hr;refine tq hΓ [6] [] ?_ (by simp [h18, h19]; exact rr);refine AWp.cnd hr (by simp) (fun h20 hr => ?_) (fun h20 hr => ?_)
    ·refine AWp.skip ?_;obtain rfl := La hr;exact Lp () 1 (by first | (simp; done) | simp [h20])
    ·obtain ⟨r3, h21, hr⟩ := Lb hr;refine tq hΓ [6] [] ?_ (by simp [h20, h21]; exact rr);refine AWp.cnd hr (by simp) (fun h22 hr => ?_) (fun h22 hr => ?_)
     ·refine AWp.skip ?_;obtain rfl := La hr;exact Lp () 1 (by first | (simp; done) | simp [h22])
     ·obtain ⟨r4, h23, hr⟩ := Lb hr;refine tl hΓ [6] [] ?_ (by simp [h22, h23]; exact rr);obtain rfl := La hr;exact Lp () 1 (by first | (simp; done) | simp [h16, h17, h18, h19, h20, h21, h22, h23])
  ·refine AWp.cnd hr (by simp) (fun h24 hr => ?_) (fun h24 hr => ?_)
   ·refine tq hΓ [2] [3, 1, 6] ?_ (by simp [h24]; exact rr);refine AWp.ret ?_;obtain rfl := La hr;refine meet_ret ?_;refine Ld ?_;simp
   ·refine AWp.meetF (fun (v3 : Bool) (γ3 : Unit) => ⟨[⟨42, none, .b v3⟩], [.blk x0.enc]⟩) (QRm (gz.fin x0)) hr (fun f hr => ?_) (fun v3 γ3 hr => ?_) (fun _ h => QRm_ret h)
    ·obtain ⟨r5, h25, hr⟩ := Lb hr;refine tq hΓ [42] [6] ?_ (by simp [h24, h25]; exact rr);refine AWp.cnd hr (by simp) (fun h26 hr => ?_) (fun h26 hr => ?_)
     ·refine AWp.skip ?_;obtain rfl := La hr;exact Lp () 1 (by first | (simp; done) | simp [h26])
     ·obtain ⟨r6, h27, hr⟩ := Lb hr;refine tq hΓ [42] [] ?_ (by simp [h26, h27]; exact rr);refine AWp.cnd hr (by simp) (fun h28 hr => ?_) (fun h28 hr => ?_)
      ·refine AWp.skip ?_;obtain rfl := La hr;exact Lp () 1 (by first | (simp; done) | simp [h28])
      ·obtain ⟨r7, h29, hr⟩ := Lb hr;refine tl hΓ [42] [3, 1] ?_ (by simp [h28, h29]; exact rr);obtain rfl := La hr;exact Lp () 1 (by first | (simp; done) | simp [h24, h25, h26, h27, h28, h29])
    ·refine AWp.cnd hr (by simp) (fun h30 hr => ?_) (fun h30 hr => ?_)
     ·refine tq hΓ [2] [42] ?_ (by simp [h30]; exact rr);refine AWp.ret ?_;obtain rfl := La hr;refine meet_ret ?_;refine Ld ?_;simp
     ·refine AWp.skip ?_;obtain rfl := La hr;exact Lp () 1 (by first | (simp; done) | simp [h24, h30])
 ·refine tq hΓ [2] [] ?_;obtain rfl := La hr;exact AWp.ret (Ld (by simp))
@[simp] noncomputable def gz.S : Sp
  | [.agg e0], _ => some { av := .lit (.bool ((gz (Td.dec e0)).getD dflt)), M := none, obl := WeakL e0 (Td.enc (Td.dec e0)) ∧ (gz (Td.dec e0)).isSome = true }
  | _, _ => none
theorem gz.ok : qap Tryz.prog 77 gz.S := by
 intro l M out h;unfold gz.S at h;split at h
 ·rename_i e0;cases h;refine qad fun ho => ?_;obtain ⟨ox0, hs⟩ := ho;generalize (Td.dec e0) = x0 at *
  obtain ⟨r, hr⟩ := so1 hs;simp only [hr, gd1];have q := Lf (M := M) [] (gz.can x0 r hr) (by simp) rfl ixn;exact qac q trivial (by simp; exact ox0) (by simp [qaa]) (by simp [qaa])
 ·cases h
@[simp] def gf.out (_x0 : Td) (r : Int) : Out := { av := .lit (.int .i64 r), M := none }
def gf.fin (x0 : Td) (r : Int) (σ : St) : Prop := finK (gf.out x0 r) [] σ.M (resA Tryz.ty σ.A σ.M Tryz.f80.results.toList)
theorem gf.can (x0 : Td) (r : Int) (hr : gf x0 = some r) : qao Tryz.prog 80 [.agg [.lit (.int .i64 x0.fk), .lit (.string x0.fm), .lit (.string x0.fp), .lit (.int .i64 x0.fc), .lit (.int .i64 x0.fOf), .lit (.int .i64 x0.ff), .lit (.int .i64 x0.fo), .lit (.bool x0.fOn), .lit (.bool x0.fq), .sl (x0.fa.map (eNum .u32)) .no]] [] (gf.out x0 r) := by
 unfold gf at hr;have hΓ := qae (P := Tryz.prog);refine cw Tryz.func80 rfl (by kernel_rfl) rfl rfl (by simp) fun _ _ _ => ?_;refine tq hΓ [1] [0] ?_;refine tq hΓ [3] [] ?_;refine AWp.seq ?_;refine AWp.block ?_;refine tq hΓ [11] [3] ?_;refine AWp.cnd hr (by simp) (fun h8 hr => ?_) (fun h8 hr => ?_)
 ·refine tq hΓ [2] [11, 1] ?_ (by simp [h8]; exact rr);obtain rfl := La hr;exact AWp.ret (Ld (by simp))
 ·refine AWp.skip ?_;refine AWp.seq ?_;refine tq hΓ [28, 29, 30] [11] ?_ (by simp [h8]; exact rr);refine AWp.loopE (fun (s1 : Int) (γ1 : Unit) => ⟨[⟨28, none, .sl (x0.fa.map (eNum .u32)) .no⟩, ⟨29, none, .n (qat x0.fa)⟩, ⟨30, none, .n s1⟩, ⟨1, none, .ptr 0 0⟩], [.blk x0.enc]⟩) (fun (v1 : Unit) (γ1a : Unit) => ⟨[], [.blk x0.enc]⟩) (gf.fin x0) hr () 1 (by simp) (fun s1 f γ1 hr => ?_) (fun v1 γ1a σ1 m1 hr hc => ?_) (fun _ h => h)
  ·unfold gf.loop1 at hr;refine tq hΓ [31] [] ?_ (by simp; exact rr);refine AWp.seq ?_;refine AWp.cnd hr (by simp) (fun h9 hr => ?_) (fun h9 hr => ?_)
   ·refine AWp.skip ?_;refine AWp.seq ?_;refine AWp.block ?_;obtain ⟨h10, hr⟩ := Lg hr;refine tq hΓ [4, 5] [31] ?_ (by simp [h9, h10]; exact rr);obtain ⟨h11, hr⟩ := Lg hr;refine tq hΓ [38, 39, 40] [4] ?_ (by simp [h11]; exact rr);refine AWp.loopE (fun (s2 : Int) (γ2 : Unit) => ⟨[⟨38, none, .sl ((cutL x0.fa 0 s1).map (eNum .u32)) .no⟩, ⟨39, none, .n (qat (cutL x0.fa 0 s1))⟩, ⟨40, none, .n s2⟩, ⟨5, none, .lit (.int .u32 (nthI x0.fa s1))⟩, ⟨28, none, .sl (x0.fa.map (eNum .u32)) .no⟩, ⟨29, none, .n (qat x0.fa)⟩, ⟨30, none, .n s1⟩, ⟨1, none, .ptr 0 0⟩], [.blk x0.enc]⟩) (fun (v2 : Unit) (γ2a : Unit) => ⟨[⟨28, none, .sl (x0.fa.map (eNum .u32)) .no⟩, ⟨29, none, .n (qat x0.fa)⟩, ⟨30, none, .n s1⟩, ⟨1, none, .ptr 0 0⟩], [.blk x0.enc]⟩) (QRr (gf.fin x0)) hr () 1 (by simp) (fun s2 f γ2 hr => ?_) (fun v2 γ2a σ1 m1 hr hc => ?_) (fun _ h => QRr_ret h)
    ·unfold gf.loop2 at hr;refine tq hΓ [41] [] ?_ (by simp; exact rr);refine AWp.seq ?_;refine AWp.cnd hr (by simp) (fun h12 hr => ?_) (fun h12 hr => ?_)
     ·refine AWp.skip ?_;refine AWp.seq ?_;refine AWp.block ?_;obtain ⟨h13, hr⟩ := Lg hr;refine tq hΓ [7] [41] ?_ (by simp [h12, h13]; exact rr);refine tq hΓ [46] [7] ?_ (by simp; exact rr);refine AWp.cnd hr (by simp) (fun h14 hr => ?_) (fun h14 hr => ?_)
      ·refine tq hΓ [2] [46, 38, 39, 40, 5, 28, 29, 30, 1] ?_ (by simp [h14]; exact rr);refine AWp.ret ?_;obtain rfl := La hr;refine round_ret ?_;refine ⟨_, rfl, ?_⟩;refine Ld ?_;simp
      ·refine AWp.skip ?_;refine tl hΓ [40] [46] ?_ (by simp [h14]; exact rr);obtain rfl := La hr;exact Lq () 1 (by first | (simp; done) | simp [h8, h9, h10, h11, h12, h13, h14])
     ·refine AWp.exit ?_;obtain rfl := La hr;exact Ln () 1 (by first | (simp; done) | simp [h8, h9, h10, h11, h12])
    ·refine AWp.conv hc ?_;refine tl hΓ [30] [] ?_ (by simp; exact rr);obtain rfl := La hr;exact Lq () 1 (by first | (simp; done) | simp [h8, h9, h10, h11])
   ·refine AWp.exit ?_;obtain rfl := La hr;exact Ln () 1 (by first | (simp; done) | simp [h8, h9])
  ·refine AWp.conv hc ?_;refine tq hΓ [2] [] ?_ (by simp; exact rr);obtain rfl := La hr;exact AWp.ret (Ld (by simp))
@[simp] noncomputable def gf.S : Sp
  | [.agg e0], _ => some { av := .lit (.int .i64 ((gf (Td.dec e0)).getD dflt)), M := none, obl := WeakL e0 (Td.enc (Td.dec e0)) ∧ (gf (Td.dec e0)).isSome = true }
  | _, _ => none
theorem gf.ok : qap Tryz.prog 80 gf.S := by
 intro l M out h;unfold gf.S at h;split at h
 ·rename_i e0;cases h;refine qad fun ho => ?_;obtain ⟨ox0, hs⟩ := ho;generalize (Td.dec e0) = x0 at *
  obtain ⟨r, hr⟩ := so1 hs;simp only [hr, gd1];have q := Lf (M := M) [] (gf.can x0 r hr) (by simp) rfl ixn;exact qac q trivial (by simp; exact ox0) (by simp [qaa]) (by simp [qaa])
 ·cases h
@[simp] def gO.out (_x0 : Td) (r : Int) : Out := { av := .lit (.int .i64 r), M := none }
theorem gO.can (x0 : Td) (r : Int) (hr : gO x0 = some r) : qao Tryz.prog 33 [.agg [.lit (.int .i64 x0.fk), .lit (.string x0.fm), .lit (.string x0.fp), .lit (.int .i64 x0.fc), .lit (.int .i64 x0.fOf), .lit (.int .i64 x0.ff), .lit (.int .i64 x0.fo), .lit (.bool x0.fOn), .lit (.bool x0.fq), .sl (x0.fa.map (eNum .u32)) .no]] [] (gO.out x0 r) := by
 unfold gO at hr;have hΓ := (qab gz.ok (qab gf.ok (qab gaj.ok (qab gai.ok (qab gE.ok (qae))))) : qbc Tryz.prog _);refine cw Tryz.func33 rfl (by kernel_rfl) rfl rfl (by simp) fun _ _ _ => ?_;refine tq hΓ [1] [0] ?_;refine AWp.seq ?_;refine AWp.block ?_;obtain ⟨r1, h13, hr⟩ := Lb hr;refine tq hΓ [3] [] ?_ (by simp [h13]; exact rr);refine AWp.cnd hr (by simp) (fun h14 hr => ?_) (fun h14 hr => ?_)
 ·refine tq hΓ [2] [3, 1] ?_ (by simp [h14]; exact rr);obtain rfl := La hr;exact AWp.ret (Ld (by simp))
 ·obtain ⟨r2, h15, hr⟩ := Lb hr;refine tq hΓ [8] [3] ?_ (by simp [h14, h15]; exact rr);refine AWp.cnd hr (by simp) (fun h16 hr => ?_) (fun h16 hr => ?_)
  ·refine tq hΓ [2] [8, 1] ?_ (by simp [h16]; exact rr);obtain rfl := La hr;exact AWp.ret (Ld (by simp))
  ·obtain ⟨r3, h17, hr⟩ := Lb hr;obtain ⟨h18, hr⟩ := Lg hr;refine tq hΓ [12] [8] ?_ (by simp [h16, h17, h18]; exact rr);refine AWp.cnd hr (by simp) (fun h19 hr => ?_) (fun h19 hr => ?_)
   ·refine tq hΓ [2] [12, 1] ?_ (by simp [h19]; exact rr);obtain rfl := La hr;exact AWp.ret (Ld (by simp))
   ·obtain ⟨h20, hr⟩ := Lg hr;obtain ⟨h21, hr⟩ := Lg hr;refine tq hΓ [43] [12] ?_ (by simp [h19, h20, h21]; exact rr);refine AWp.cnd hr (by simp) (fun h22 hr => ?_) (fun h22 hr => ?_)
    ·refine tq hΓ [2] [43, 1] ?_ (by simp [h22]; exact rr);obtain rfl := La hr;exact AWp.ret (Ld (by simp))
    ·refine tq hΓ [59] [43] ?_ (by simp [h22]; exact rr);refine AWp.cnd hr (by simp) (fun h23 hr => ?_) (fun h23 hr => ?_)
     ·obtain ⟨r4, h24, hr⟩ := Lb hr;refine tq hΓ [2] [59, 1] ?_ (by simp [h23, h24]; exact rr);obtain rfl := La hr;exact AWp.ret (Ld (by simp))
     ·refine AWp.skip ?_;refine tq hΓ [2] [59, 1] ?_ (by simp [h23]; exact rr);obtain rfl := La hr;exact AWp.ret (Ld (by simp))
@[simp] noncomputable def gO.S : Sp
  | [.agg e0], _ => some { av := .lit (.int .i64 ((gO (Td.dec e0)).getD dflt)), M := none, obl := WeakL e0 (Td.enc (Td.dec e0)) ∧ (gO (Td.dec e0)).isSome = true }
  | _, _ => none
theorem gO.ok : qap Tryz.prog 33 gO.S := by
 intro l M out h;unfold gO.S at h;split at h
 ·rename_i e0;cases h;refine qad fun ho => ?_;obtain ⟨ox0, hs⟩ := ho;generalize (Td.dec e0) = x0 at *
  obtain ⟨r, hr⟩ := so1 hs;simp only [hr, gd1];have q := Lf (M := M) [] (gO.can x0 r hr) (by simp) rfl ixn;exact qac q trivial (by simp; exact ox0) (by simp [qaa]) (by simp [qaa])
 ·cases h
end Go.Proofs

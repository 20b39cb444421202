import Derived.Test.YtoiieebljbhpbaaGreatDoorM15
import Derived.Test.YtoiieebljbhpbaaGreatDoorTy
import Derived.Test.YtoiieebljbhpbaaGreatDoorM11
import Derived.Test.YtoiieebljbhpbaaGreatDoorBu
section
set_option maxRecDepth 100000
set_option maxHeartbeats 4000000
namespace Go.Proofs
open Go.Ab
@[simp] def gq.out (_x0 : ByteArray) (_x1 : ByteArray) (r : Bool) : Out := { av := .lit (.bool r), M := none }
theorem gq.can (x0 : ByteArray) (x1 : ByteArray) (r : Bool) (hr : gq x0 x1 = some r) : CallOk Tryz.prog 138 [.lit (.string x0), .lit (.string x1)] [] (gq.out x0 x1 r) := by
 unfold gq at hr;have hΓ := gamL_nil (P := Tryz.prog);refine cw Tryz.func138 rfl (by kernel_rfl) rfl rfl (by simp) fun _ _ _ => ?_;refine tq hΓ [] [] ?_;obtain ⟨h2, hr⟩ := Ld hr;refine tq hΓ [4] [0, 1] ?_ (by simp [h2]; exact rr);obtain rfl := La hr;exact AWp.ret (Lb (by simp))
@[simp] noncomputable def gq.S : Sp
  | [.lit (.string x0), .lit (.string x1)], _ => some { av := .lit (.bool ((gq x0 x1).getD dflt)), M := none, obl := (gq x0 x1).isSome = true }
  | _, _ => none
theorem gq.ok : SpecOk Tryz.prog 138 gq.S := by
 intro l M out h;unfold gq.S at h;split at h
 ·rename_i x0 x1;cases h;refine callOk_of fun ho => ?_;have hs := ho;obtain ⟨r, hr⟩ := so1 hs;simp only [hr, gd1];have q := Lf (M := M) [] (gq.can x0 x1 r hr) (by simp) rfl ixn;exact callOk_conv q trivial (by simp) (by simp [frameOut]) (by simp [frameOut])
 ·cases h
@[simp] def gai.out (_x0 : ByteArray) (_x1 : ByteArray) (r : Bool) : Out := { av := .lit (.bool r), M := none }
theorem gai.can (x0 : ByteArray) (x1 : ByteArray) (r : Bool) (hr : gai x0 x1 = some r) : CallOk Tryz.prog 120 [.lit (.string x0), .lit (.string x1)] [] (gai.out x0 x1 r) := by
 unfold gai at hr;have hΓ := (gamL_cons gq.ok (gamL_nil) : GamOk Tryz.prog _);refine cw Tryz.func120 rfl (by kernel_rfl) rfl rfl (by simp) fun _ _ _ => ?_;refine tq hΓ [] [] ?_;obtain ⟨r1, h2, hr⟩ := Lc hr;refine tq hΓ [4] [0, 1] ?_ (by simp [h2]; exact rr);obtain rfl := La hr;exact AWp.ret (Lb (by simp))
@[simp] noncomputable def gai.S : Sp
  | [.lit (.string x0), .lit (.string x1)], _ => some { av := .lit (.bool ((gai x0 x1).getD dflt)), M := none, obl := (gai x0 x1).isSome = true }
  | _, _ => none
theorem gai.ok : SpecOk Tryz.prog 120 gai.S := by
 intro l M out h;unfold gai.S at h;split at h
 ·rename_i x0 x1;cases h;refine callOk_of fun ho => ?_;have hs := ho;obtain ⟨r, hr⟩ := so1 hs;simp only [hr, gd1];have q := Lf (M := M) [] (gai.can x0 x1 r hr) (by simp) rfl ixn;exact callOk_conv q trivial (by simp) (by simp [frameOut]) (by simp [frameOut])
 ·cases h
@[simp] def gav.out (_x0 : Int) (r : Int) : Out := { av := .lit (.int .i64 r), M := none }
theorem gav.can (x0 : Int) (r : Int) (hr : gav x0 = some r) : CallOk Tryz.prog 119 [.lit (.int .i32 x0)] [] (gav.out x0 r) := by
 unfold gav at hr;have hΓ := (gamL_cons gaJ.ok (gamL_cons gaI.ok (gamL_nil)) : GamOk Tryz.prog _);refine cw Tryz.func119 rfl (by kernel_rfl) rfl rfl (by simp) fun _ _ _ => ?_;refine tq hΓ [] [] ?_;refine AWp.seq ?_;refine AWp.block ?_;refine tq hΓ [3] [] ?_;refine AWp.cnd hr (by simp) (fun h6 hr => ?_) (fun h6 hr => ?_)
 ·refine tq hΓ [2] [3, 0] ?_ (by simp [h6]; exact rr);obtain rfl := La hr;exact AWp.ret (Lb (by simp))
 ·obtain ⟨h7, hr⟩ := Ld hr;refine tq hΓ [14] [3] ?_ (by simp [h6, h7]; exact rr);refine AWp.cnd hr (by simp) (fun h8 hr => ?_) (fun h8 hr => ?_)
  ·refine tq hΓ [2] [14, 0] ?_ (by simp [h8]; exact rr);obtain rfl := La hr;exact AWp.ret (Lb (by simp))
  ·obtain ⟨h9, hr⟩ := Ld hr;refine tq hΓ [17] [14, 0] ?_ (by simp [h7, h8]; exact rr);refine AWp.cnd hr (by simp) (fun h10 hr => ?_) (fun h10 hr => ?_)
   ·refine tq hΓ [2] [17] ?_ (by simp [h10]; exact rr);obtain rfl := La hr;exact AWp.ret (Lb (by simp))
   ·refine AWp.skip ?_;refine tq hΓ [2] [17] ?_ (by simp [h10]; exact rr);obtain rfl := La hr;exact AWp.ret (Lb (by simp))
@[simp] noncomputable def gav.S : Sp
  | [.lit (.int .i32 x0)], _ => some { av := .lit (.int .i64 ((gav x0).getD dflt)), M := none, obl := (gav x0).isSome = true }
  | _, _ => none
theorem gav.ok : SpecOk Tryz.prog 119 gav.S := by
 intro l M out h;unfold gav.S at h;split at h
 ·rename_i x0;cases h;refine callOk_of fun ho => ?_;have hs := ho;obtain ⟨r, hr⟩ := so1 hs;simp only [hr, gd1];have q := Lf (M := M) [] (gav.can x0 r hr) (by simp) rfl ixn;exact callOk_conv q trivial (by simp) (by simp [frameOut]) (by simp [frameOut])
 ·cases h
@[simp] def gB.out (_x0 : ByteArray) (r : Int) : Out := { av := .lit (.int .i64 r), M := none }
def gB.fin (x0 : ByteArray) (r : Int) (σ : St) : Prop := finK (gB.out x0 r) [] σ.M (resA Tryz.ty σ.A σ.M Tryz.f79.results.toList)
theorem gB.can (x0 : ByteArray) (r : Int) (hr : gB x0 = some r) : CallOk Tryz.prog 79 [.lit (.string x0)] [] (gB.out x0 r) := by
 unfold gB at hr;have hΓ := (gamL_cons gav.ok (gamL_cons gai.ok (gamL_nil)) : GamOk Tryz.prog _);refine cw Tryz.func79 rfl (by kernel_rfl) rfl rfl (by simp) fun _ _ _ => ?_;refine tq hΓ [] [] ?_;refine AWp.seq ?_;refine tq hΓ [14] [] ?_;refine AWp.cnd hr (by simp) (fun h8 hr => ?_) (fun h8 hr => ?_)
 ·refine tq hΓ [2] [14, 0] ?_ (by simp [h8]; exact rr);obtain rfl := La hr;exact AWp.ret (Lb (by simp))
 ·refine AWp.skip ?_;refine tq hΓ [3, 4] [14] ?_ (by simp [h8]; exact rr);refine AWp.seq ?_;refine tq hΓ [16] [] ?_ (by simp; exact rr);refine AWp.loopE (fun (s1 : Int × Int × Nat) (γ1 : Unit) => ⟨[⟨16, none, .it 0⟩, ⟨3, none, .n s1.1⟩, ⟨4, none, .n s1.2.1⟩, ⟨0, none, .s x0⟩], [.iter x0 s1.2.2]⟩) (fun (v1 : Int × Int) (γ1a : Unit) => ⟨[⟨3, none, .n v1.1⟩, ⟨4, none, .n v1.2⟩], [.dead]⟩) (gB.fin x0) hr () 1 (by simp) (fun s1 f γ1 hr => ?_) (fun v1 γ1a σ1 m1 hr hc => ?_) (fun _ h => h)
  ·unfold gB.loop1 at hr;cases h9 : (nextB x0 s1.2.2) with
   | true =>
     have hr := cond_t h9 hr;refine tq hΓ [17, 18] [] ?_ (by simp [h9]; exact rr);refine AWp.seq ?_;refine AWp.cond (b := true) (by simp) (fun hb => ?_) (fun hb => ?_)
     ·refine AWp.skip ?_;refine AWp.block ?_;refine tq hΓ [5, 6] [17, 18] ?_ (by simp; exact rr);obtain ⟨r1, h10, hr⟩ := Lc hr;refine tq hΓ [7] [] ?_ (by simp [h10]; exact rr);refine AWp.seq ?_;obtain ⟨h11, hr⟩ := Ld hr;obtain ⟨h12, hr⟩ := Ld hr;refine tq hΓ [43] [5, 6, 4] ?_ (by simp [h11, h12]; exact rr);refine AWp.cnd hr (by simp) (fun h13 hr => ?_) (fun h13 hr => ?_)
      ·refine tq hΓ [2] [43, 7, 16, 3, 0] ?_ (by simp [h13]; exact rr);refine AWp.ret ?_;obtain rfl := La hr;refine Lr ?_;refine Lb ?_;simp
      ·refine AWp.skip ?_;refine tl hΓ [3, 4] [43, 7] ?_ (by simp [h13]; exact rr);obtain rfl := La hr;exact Lj () 1 (by first | (simp; done) | simp [h8, h9, h10, h11, h12, h13])
     ·cases hb
   | false =>
     have hr := cond_f h9 hr;refine tq hΓ [17, 18] [] ?_ (by simp [h9]; exact rr);refine AWp.seq ?_;refine AWp.cond (b := false) (by simp) (fun hb => ?_) (fun hb => ?_)
     ·cases hb
     ·refine AWp.exit ?_;obtain rfl := La hr;exact Ll () 1 (by first | (simp; done) | simp [h8, h9])
  ·refine AWp.conv hc ?_;refine AWp.seq ?_;refine tq hΓ [52] [3, 4] ?_ (by simp; exact rr);refine AWp.cnd hr (by simp) (fun h14 hr => ?_) (fun h14 hr => ?_)
   ·refine tq hΓ [2] [52] ?_ (by simp [h14]; exact rr);obtain rfl := La hr;exact AWp.ret (Lb (by simp))
   ·refine AWp.skip ?_;refine tq hΓ [2] [52] ?_ (by simp [h14]; exact rr);obtain rfl := La hr;exact AWp.ret (Lb (by simp))
@[simp] noncomputable def gB.S : Sp
  | [.lit (.string x0)], _ => some { av := .lit (.int .i64 ((gB x0).getD dflt)), M := none, obl := (gB x0).isSome = true }
  | _, _ => none
theorem gB.ok : SpecOk Tryz.prog 79 gB.S := by
 intro l M out h;unfold gB.S at h;split at h
 ·rename_i x0;cases h;refine callOk_of fun ho => ?_;have hs := ho;obtain ⟨r, hr⟩ := so1 hs;simp only [hr, gd1];have q := Lf (M := M) [] (gB.can x0 r hr) (by simp) rfl ixn;exact callOk_conv q trivial (by simp) (by simp [frameOut]) (by simp [frameOut])
 ·cases h
@[simp] def gW.out (_x0 : ByteArray) (r : ByteArray) : Out := { av := .lit (.string r), M := none }
def gW.fin (x0 : ByteArray) (r : ByteArray) (σ : St) : Prop := finK (gW.out x0 r) [] σ.M (resA Tryz.ty σ.A σ.M Tryz.f90.results.toList)
theorem gW.can (x0 : ByteArray) (r : ByteArray) (hr : gW x0 = some r) : CallOk Tryz.prog 90 [.lit (.string x0)] [] (gW.out x0 r) := by
 unfold gW at hr;have hΓ := (gamL_cons gaH.String.ok (gamL_cons gaH.WriteRune.ok (gamL_cons gaK.ok (gamL_nil))) : GamOk Tryz.prog _);refine cw Tryz.func90 rfl (by kernel_rfl) rfl rfl (by simp) fun _ _ _ => ?_;refine tq hΓ [] [] ?_;refine AWp.then ⟨[⟨3, none, .ptr 0 0⟩, ⟨0, none, .s x0⟩], [.opq (wrO 141 5 [])]⟩ (gaH.alloc rfl rfl rfl rfl (by kernel_rfl) rfl (dead := []) (by simp [exS])) ?_;refine AWp.seq ?_;refine tq hΓ [7] [0] ?_;refine AWp.loopE (fun (s1 : List Int × Nat) (γ1 : Unit) => ⟨[⟨7, none, .it 1⟩, ⟨3, none, .ptr 0 0⟩], [.opq (wrO 141 5 s1.1), .iter x0 s1.2]⟩) (fun (v1 : List Int) (γ1a : Unit) => ⟨[⟨3, none, .ptr 0 0⟩], [.opq (wrO 141 5 v1), .dead]⟩) (gW.fin x0) hr () 2 (by simp) (fun s1 f γ1 hr => ?_) (fun v1 γ1a σ1 m1 hr hc => ?_) (fun _ h => h)
 ·unfold gW.loop1 at hr;cases h5 : (nextB x0 s1.2) with
  | true =>
    have hr := cond_t h5 hr;refine tq hΓ [8, 9] [] ?_ (by simp [h5]; exact rr);refine AWp.seq ?_;refine AWp.cond (b := true) (by simp) (fun hb => ?_) (fun hb => ?_)
    ·refine AWp.skip ?_;refine AWp.block ?_;refine tq hΓ [5] [8, 9] ?_ (by simp; exact rr);obtain ⟨h6, hr⟩ := Ld hr;obtain ⟨h7, hr⟩ := Ld hr;refine tl hΓ [] [5] ?_ (by simp [h6, h7]; exact rr);obtain rfl := La hr;exact Lj () 2 (by first | (simp; done) | simp [h5, h6, h7])
    ·cases hb
  | false =>
    have hr := cond_f h5 hr;refine tq hΓ [8, 9] [] ?_ (by simp [h5]; exact rr);refine AWp.seq ?_;refine AWp.cond (b := false) (by simp) (fun hb => ?_) (fun hb => ?_)
    ·cases hb
    ·refine AWp.exit ?_;obtain rfl := La hr;exact Ll () 2 (by first | (simp; done) | simp [h5])
 ·refine AWp.conv hc ?_;obtain ⟨h8, hr⟩ := Ld hr;refine tq hΓ [2] [3] ?_ (by simp [h8]; exact rr);obtain rfl := La hr;exact AWp.ret (Lb (by simp))
@[simp] noncomputable def gW.S : Sp
  | [.lit (.string x0)], _ => some { av := .lit (.string ((gW x0).getD dflt)), M := none, obl := (gW x0).isSome = true }
  | _, _ => none
theorem gW.ok : SpecOk Tryz.prog 90 gW.S := by
 intro l M out h;unfold gW.S at h;split at h
 ·rename_i x0;cases h;refine callOk_of fun ho => ?_;have hs := ho;obtain ⟨r, hr⟩ := so1 hs;simp only [hr, gd1];have q := Lf (M := M) [] (gW.can x0 r hr) (by simp) rfl ixn;exact callOk_conv q trivial (by simp) (by simp [frameOut]) (by simp [frameOut])
 ·cases h
@[simp] def gan.out (_x0 : ByteArray) (_x1 : ByteArray) (r : Bool) : Out := { av := .lit (.bool r), M := none }
theorem gan.can (x0 : ByteArray) (x1 : ByteArray) (r : Bool) (hr : gan x0 x1 = some r) : CallOk Tryz.prog 41 [.lit (.string x0), .lit (.string x1)] [] (gan.out x0 x1 r) := by
 unfold gan at hr;have hΓ := (gamL_cons gW.ok (gamL_nil) : GamOk Tryz.prog _);refine cw Tryz.func41 rfl (by kernel_rfl) rfl rfl (by simp) fun _ _ _ => ?_;refine tq hΓ [] [] ?_;obtain ⟨r1, h3, hr⟩ := Lc hr;obtain ⟨r2, h4, hr⟩ := Lc hr;refine tq hΓ [4] [0, 1] ?_ (by simp [h3, h4]; exact rr);obtain rfl := La hr;exact AWp.ret (Lb (by simp))
@[simp] noncomputable def gan.S : Sp
  | [.lit (.string x0), .lit (.string x1)], _ => some { av := .lit (.bool ((gan x0 x1).getD dflt)), M := none, obl := (gan x0 x1).isSome = true }
  | _, _ => none
theorem gan.ok : SpecOk Tryz.prog 41 gan.S := by
 intro l M out h;unfold gan.S at h;split at h
 ·rename_i x0 x1;cases h;refine callOk_of fun ho => ?_;have hs := ho;obtain ⟨r, hr⟩ := so1 hs;simp only [hr, gd1];have q := Lf (M := M) [] (gan.can x0 x1 r hr) (by simp) rfl ixn;exact callOk_conv q trivial (by simp) (by simp [frameOut]) (by simp [frameOut])
 ·cases h
end Go.Proofs
end
section
set_option maxRecDepth 100000
set_option maxHeartbeats 4000000
namespace Go.Proofs
open Go.Ab
@[simp] def gay.out (_x0 : Int) (r : Int) : Out := { av := .lit (.int .i64 r), M := none }
theorem gay.can (x0 : Int) (r : Int) (hr : gay x0 = some r) : CallOk Tryz.prog 157 [.lit (.int .i32 x0)] [] (gay.out x0 r) := by
 unfold gay at hr;have hΓ := gamL_nil (P := Tryz.prog);refine cw Tryz.func157 rfl (by kernel_rfl) rfl rfl (by simp) fun _ _ _ => ?_;refine tq hΓ [] [] ?_;refine AWp.seq ?_;refine tq hΓ [4] [] ?_;refine AWp.cnd hr (by simp) (fun h4 hr => ?_) (fun h4 hr => ?_)
 ·refine tq hΓ [2] [4, 0] ?_ (by simp [h4]; exact rr);obtain rfl := La hr;exact AWp.ret (Lb (by simp))
 ·refine AWp.skip ?_;refine AWp.seq ?_;refine tq hΓ [6] [4] ?_ (by simp [h4]; exact rr);refine AWp.cnd hr (by simp) (fun h5 hr => ?_) (fun h5 hr => ?_)
  ·refine tq hΓ [2] [6, 0] ?_ (by simp [h5]; exact rr);obtain rfl := La hr;exact AWp.ret (Lb (by simp))
  ·refine AWp.skip ?_;refine AWp.seq ?_;refine tq hΓ [8] [6, 0] ?_ (by simp [h5]; exact rr);refine AWp.cnd hr (by simp) (fun h6 hr => ?_) (fun h6 hr => ?_)
   ·refine tq hΓ [2] [8] ?_ (by simp [h6]; exact rr);obtain rfl := La hr;exact AWp.ret (Lb (by simp))
   ·refine AWp.skip ?_;refine tq hΓ [2] [8] ?_ (by simp [h6]; exact rr);obtain rfl := La hr;exact AWp.ret (Lb (by simp))
@[simp] noncomputable def gay.S : Sp
  | [.lit (.int .i32 x0)], _ => some { av := .lit (.int .i64 ((gay x0).getD dflt)), M := none, obl := (gay x0).isSome = true }
  | _, _ => none
theorem gay.ok : SpecOk Tryz.prog 157 gay.S := by
 intro l M out h;unfold gay.S at h;split at h
 ·rename_i x0;cases h;refine callOk_of fun ho => ?_;have hs := ho;obtain ⟨r, hr⟩ := so1 hs;simp only [hr, gd1];have q := Lf (M := M) [] (gay.can x0 r hr) (by simp) rfl ixn;exact callOk_conv q trivial (by simp) (by simp [frameOut]) (by simp [frameOut])
 ·cases h
@[simp] def gar.out (_x0 : Int) (r : Int) : Out := { av := .lit (.int .i64 r), M := none }
theorem gar.can (x0 : Int) (r : Int) (hr : gar x0 = some r) : CallOk Tryz.prog 133 [.lit (.int .i32 x0)] [] (gar.out x0 r) := by
 unfold gar at hr;have hΓ := (gamL_cons gaJ.ok (gamL_cons gaI.ok (gamL_nil)) : GamOk Tryz.prog _);refine cw Tryz.func133 rfl (by kernel_rfl) rfl rfl (by simp) fun _ _ _ => ?_;refine tq hΓ [] [] ?_;refine AWp.seq ?_;refine tq hΓ [12] [] ?_;refine AWp.cnd hr (by simp) (fun h6 hr => ?_) (fun h6 hr => ?_)
 ·refine tq hΓ [2] [12, 0] ?_ (by simp [h6]; exact rr);obtain rfl := La hr;exact AWp.ret (Lb (by simp))
 ·refine AWp.skip ?_;refine AWp.seq ?_;obtain ⟨h7, hr⟩ := Ld hr;refine tq hΓ [14] [12] ?_ (by simp [h6, h7]; exact rr);refine AWp.cnd hr (by simp) (fun h8 hr => ?_) (fun h8 hr => ?_)
  ·refine tq hΓ [2] [14, 0] ?_ (by simp [h8]; exact rr);obtain rfl := La hr;exact AWp.ret (Lb (by simp))
  ·refine AWp.skip ?_;refine AWp.seq ?_;obtain ⟨h9, hr⟩ := Ld hr;refine tq hΓ [16] [14, 0] ?_ (by simp [h7, h8]; exact rr);refine AWp.cnd hr (by simp) (fun h10 hr => ?_) (fun h10 hr => ?_)
   ·refine tq hΓ [2] [16] ?_ (by simp [h10]; exact rr);obtain rfl := La hr;exact AWp.ret (Lb (by simp))
   ·refine AWp.skip ?_;refine tq hΓ [2] [16] ?_ (by simp [h10]; exact rr);obtain rfl := La hr;exact AWp.ret (Lb (by simp))
@[simp] noncomputable def gar.S : Sp
  | [.lit (.int .i32 x0)], _ => some { av := .lit (.int .i64 ((gar x0).getD dflt)), M := none, obl := (gar x0).isSome = true }
  | _, _ => none
theorem gar.ok : SpecOk Tryz.prog 133 gar.S := by
 intro l M out h;unfold gar.S at h;split at h
 ·rename_i x0;cases h;refine callOk_of fun ho => ?_;have hs := ho;obtain ⟨r, hr⟩ := so1 hs;simp only [hr, gd1];have q := Lf (M := M) [] (gar.can x0 r hr) (by simp) rfl ixn;exact callOk_conv q trivial (by simp) (by simp [frameOut]) (by simp [frameOut])
 ·cases h
@[simp] def gab.out (_x0 : ByteArray) (r : List Int × Bool) : Out := { av := .tup [.sl (r.1.map (eNum .i32)) .no, .lit (.bool r.2)], M := none }
def gab.fin (x0 : ByteArray) (r : List Int × Bool) (σ : St) : Prop := finK (gab.out x0 r) [] σ.M (resA Tryz.ty σ.A σ.M Tryz.f132.results.toList)
theorem gab.can (x0 : ByteArray) (r : List Int × Bool) (hr : gab x0 = some r) : CallOk Tryz.prog 132 [.lit (.string x0)] [] (gab.out x0 r) := by
 unfold gab at hr;have hΓ := (gamL_cons gay.ok (gamL_nil) : GamOk Tryz.prog _);refine cw Tryz.func132 rfl (by kernel_rfl) rfl rfl (by simp) fun _ _ _ => ?_;refine tq hΓ [] [] ?_;refine tq hΓ [4] [] ?_;refine tq hΓ [5] [] ?_;refine AWp.seq ?_;refine tq hΓ [11] [] ?_;refine AWp.equip 4 1 (els := []) (by simp) (by simp) ?_;refine AWp.loopE (fun (s1 : Int × List Int × Nat) (γ1 : Nat) => ⟨[⟨11, none, .it 0⟩, ⟨5, none, .n s1.1⟩, ⟨4, none, .sl (s1.2.1.map (eNum .i32)) (.own 1 (γ1) 1)⟩, ⟨0, none, .s x0⟩], [.iter x0 s1.2.2, .room (γ1)]⟩) (fun (v1 : List Int) (γ1a : Nat) => ⟨[⟨4, none, .sl (v1.map (eNum .i32)) (.own 1 (γ1a) 1)⟩], [.dead, .room (γ1a)]⟩) (gab.fin x0) hr 0 2 (by simp) (fun s1 f γ1 hr => ?_) (fun v1 γ1a σ1 m1 hr hc => ?_) (fun _ h => h)
 ·unfold gab.loop1 at hr;cases h6 : (nextB x0 s1.2.2) with
  | true =>
    have hr := cond_t h6 hr;refine tq hΓ [12, 13] [] ?_ (by simp [h6]; exact rr);refine AWp.seq ?_;refine AWp.cond (b := true) (by simp) (fun hb => ?_) (fun hb => ?_)
    ·refine AWp.skip ?_;refine AWp.block ?_;refine tq hΓ [7] [12, 13] ?_ (by simp; exact rr);obtain ⟨r1, h7, hr⟩ := Lc hr;refine tq hΓ [8] [] ?_ (by simp [h7]; exact rr);refine AWp.seq ?_;obtain ⟨h8, hr⟩ := Ld hr;refine td hΓ [34] [] [] [(false, []), (false, []), (false, []), (false, []), (false, []), (false, []), (false, []), (false, [23]), (false, [23]), (false, [23]), (false, [23]), (false, [23]), (false, [23]), (false, [23]), (false, [23]), (false, [23]), (false, [23]), (false, [])] (by simp [h8]; exact rr) ?_;refine AWp.cnd hr (by simp) (fun h9 hr => ?_) (fun h9 hr => ?_)
     ·refine tq hΓ [2, 3] [34, 8, 7, 11, 5, 4, 0] ?_ (by simp [h9]; exact rr);refine AWp.ret ?_;obtain rfl := La hr;refine Lr ?_;refine Lb ?_;simp
     ·refine AWp.skip ?_;refine tq hΓ [5] [34, 8] ?_ (by simp [h9]; exact rr);obtain ⟨h10, hr⟩ := Ld hr;refine tl hΓ [4] [7] ?_ (by simp [h10]; exact rr);obtain rfl := La hr;exact Lj (γ1 + 1) 2 (by first | (simp; done) | simp [h6, h7, h8, h9, h10])
    ·cases hb
  | false =>
    have hr := cond_f h6 hr;refine tq hΓ [12, 13] [] ?_ (by simp [h6]; exact rr);refine AWp.seq ?_;refine AWp.cond (b := false) (by simp) (fun hb => ?_) (fun hb => ?_)
    ·cases hb
    ·refine AWp.exit ?_;obtain rfl := La hr;exact Ll (γ1) 2 (by first | (simp; done) | simp [h6])
 ·refine AWp.conv hc ?_;refine tq hΓ [2, 3] [4] ?_;obtain rfl := La hr;exact AWp.ret (Lb (by simp))
@[simp] noncomputable def gab.S : Sp
  | [.lit (.string x0)], _ => some { av := .tup [.sl ((((gab x0).getD dflt).1).map (eNum .i32)) .no, .lit (.bool (((gab x0).getD dflt).2))], M := none, obl := (gab x0).isSome = true }
  | _, _ => none
theorem gab.ok : SpecOk Tryz.prog 132 gab.S := by
 intro l M out h;unfold gab.S at h;split at h
 ·rename_i x0;cases h;refine callOk_of fun ho => ?_;have hs := ho;obtain ⟨r, hr⟩ := so1 hs;simp only [hr, gd1];have q := Lf (M := M) [] (gab.can x0 r hr) (by simp) rfl ixn;exact callOk_conv q trivial (by simp) (by simp [frameOut]) (by simp [frameOut])
 ·cases h
@[simp] def gM.out (_x0 : ByteArray) (r : Bool) : Out := { av := .lit (.bool r), M := none }
def gM.fin (x0 : ByteArray) (r : Bool) (σ : St) : Prop := finK (gM.out x0 r) [] σ.M (resA Tryz.ty σ.A σ.M Tryz.f99.results.toList)
theorem gM.can (x0 : ByteArray) (r : Bool) (hr : gM x0 = some r) : CallOk Tryz.prog 99 [.lit (.string x0)] [] (gM.out x0 r) := by
 unfold gM at hr;have hΓ := (gamL_cons gar.ok (gamL_cons gab.ok (gamL_nil)) : GamOk Tryz.prog _);refine cw Tryz.func99 rfl (by kernel_rfl) rfl rfl (by simp) fun _ _ _ => ?_;refine tq hΓ [] [] ?_;obtain ⟨r1, h9, hr⟩ := Lc hr;refine tq hΓ [3, 4] [0] ?_ (by simp [h9]; exact rr);refine AWp.seq ?_;refine tq hΓ [24] [4] ?_ (by simp; exact rr);refine AWp.cnd hr (by simp) (fun h10 hr => ?_) (fun h10 hr => ?_)
 ·refine tq hΓ [2] [24, 3] ?_ (by simp [h10]; exact rr);obtain rfl := La hr;exact AWp.ret (Lb (by simp))
 ·refine AWp.skip ?_;refine AWp.seq ?_;refine tq hΓ [25, 26, 27] [24] ?_ (by simp [h10]; exact rr);refine AWp.loopE (fun (s1 : Int) (γ1 : Unit) => ⟨[⟨25, none, .sl (r1.1.map (eNum .i32)) .no⟩, ⟨26, none, .n (lenL r1.1)⟩, ⟨27, none, .n s1⟩, ⟨3, none, .sl (r1.1.map (eNum .i32)) .no⟩], []⟩) (fun (v1 : Unit) (γ1a : Unit) => ⟨[], []⟩) (gM.fin x0) hr () 0 (by simp) (fun s1 f γ1 hr => ?_) (fun v1 γ1a σ1 m1 hr hc => ?_) (fun _ h => h)
  ·unfold gM.loop1 at hr;refine tq hΓ [28] [] ?_ (by simp; exact rr);refine AWp.seq ?_;refine AWp.cnd hr (by simp) (fun h11 hr => ?_) (fun h11 hr => ?_)
   ·refine AWp.skip ?_;refine AWp.seq ?_;refine AWp.block ?_;obtain ⟨h12, hr⟩ := Ld hr;refine tq hΓ [5, 6] [28] ?_ (by simp [h11, h12]; exact rr);obtain ⟨r2, h13, hr⟩ := Lc hr;refine tq hΓ [7] [6] ?_ (by simp [h13]; exact rr);obtain ⟨h14, hr⟩ := Ld hr;obtain ⟨h15, hr⟩ := Ld hr;refine tq hΓ [59] [7, 5] ?_ (by simp [h14, h15]; exact rr);refine AWp.cnd hr (by simp) (fun h16 hr => ?_) (fun h16 hr => ?_)
    ·refine tq hΓ [2] [59, 25, 26, 27, 3] ?_ (by simp [h16]; exact rr);refine AWp.ret ?_;obtain rfl := La hr;refine Lr ?_;refine Lb ?_;simp
    ·refine AWp.skip ?_;refine tl hΓ [27] [59] ?_ (by simp [h16]; exact rr);obtain rfl := La hr;exact Lj () 0 (by first | (simp; done) | simp [h9, h10, h11, h12, h13, h14, h15, h16])
   ·refine AWp.exit ?_;obtain rfl := La hr;exact Ll () 0 (by first | (simp; done) | simp [h9, h10, h11])
  ·refine AWp.conv hc ?_;refine tq hΓ [2] [] ?_ (by simp; exact rr);obtain rfl := La hr;exact AWp.ret (Lb (by simp))
@[simp] noncomputable def gM.S : Sp
  | [.lit (.string x0)], _ => some { av := .lit (.bool ((gM x0).getD dflt)), M := none, obl := (gM x0).isSome = true }
  | _, _ => none
theorem gM.ok : SpecOk Tryz.prog 99 gM.S := by
 intro l M out h;unfold gM.S at h;split at h
 ·rename_i x0;cases h;refine callOk_of fun ho => ?_;have hs := ho;obtain ⟨r, hr⟩ := so1 hs;simp only [hr, gd1];have q := Lf (M := M) [] (gM.can x0 r hr) (by simp) rfl ixn;exact callOk_conv q trivial (by simp) (by simp [frameOut]) (by simp [frameOut])
 ·cases h
@[simp] def gF.out (_x0 : ByteArray) (r : ByteArray) : Out := { av := .lit (.string r), M := none }
def gF.fin (x0 : ByteArray) (r : ByteArray) (σ : St) : Prop := finK (gF.out x0 r) [] σ.M (resA Tryz.ty σ.A σ.M Tryz.f102.results.toList)
theorem gF.can (x0 : ByteArray) (r : ByteArray) (hr : gF x0 = some r) : CallOk Tryz.prog 102 [.lit (.string x0)] [] (gF.out x0 r) := by
 unfold gF at hr;have hΓ := (gamL_cons gaK.ok (gamL_nil) : GamOk Tryz.prog _);refine cw Tryz.func102 rfl (by kernel_rfl) rfl rfl (by simp) fun _ _ _ => ?_;refine tq hΓ [] [] ?_;refine tq hΓ [3] [] ?_;refine AWp.seq ?_;refine tq hΓ [8] [0] ?_;refine AWp.equip 3 1 (els := []) (by simp) (by simp) ?_;refine AWp.loopE (fun (s1 : List Int × Nat) (γ1 : Nat) => ⟨[⟨8, none, .it 0⟩, ⟨3, none, .sl (s1.1.map (eNum .i32)) (.own 1 (γ1) 1)⟩], [.iter x0 s1.2, .room (γ1)]⟩) (fun (v1 : List Int) (γ1a : Nat) => ⟨[⟨3, none, .sl (v1.map (eNum .i32)) (.own 1 (γ1a) 1)⟩], [.dead, .room (γ1a)]⟩) (gF.fin x0) hr 0 2 (by simp) (fun s1 f γ1 hr => ?_) (fun v1 γ1a σ1 m1 hr hc => ?_) (fun _ h => h)
 ·unfold gF.loop1 at hr;cases h3 : (nextB x0 s1.2) with
  | true =>
    have hr := cond_t h3 hr;refine tq hΓ [9, 10] [] ?_ (by simp [h3]; exact rr);refine AWp.seq ?_;refine AWp.cond (b := true) (by simp) (fun hb => ?_) (fun hb => ?_)
    ·refine AWp.skip ?_;refine AWp.block ?_;refine tq hΓ [5] [9, 10] ?_ (by simp; exact rr);obtain ⟨h4, hr⟩ := Ld hr;refine tl hΓ [3] [5] ?_ (by simp [h4]; exact rr);obtain rfl := La hr;exact Lj (γ1 + 1) 2 (by first | (simp; done) | simp [h3, h4])
    ·cases hb
  | false =>
    have hr := cond_f h3 hr;refine tq hΓ [9, 10] [] ?_ (by simp [h3]; exact rr);refine AWp.seq ?_;refine AWp.cond (b := false) (by simp) (fun hb => ?_) (fun hb => ?_)
    ·cases hb
    ·refine AWp.exit ?_;obtain rfl := La hr;exact Ll (γ1) 2 (by first | (simp; done) | simp [h3])
 ·refine AWp.conv hc ?_;refine tq hΓ [2] [3] ?_;obtain rfl := La hr;exact AWp.ret (Lb (by simp))
@[simp] noncomputable def gF.S : Sp
  | [.lit (.string x0)], _ => some { av := .lit (.string ((gF x0).getD dflt)), M := none, obl := (gF x0).isSome = true }
  | _, _ => none
theorem gF.ok : SpecOk Tryz.prog 102 gF.S := by
 intro l M out h;unfold gF.S at h;split at h
 ·rename_i x0;cases h;refine callOk_of fun ho => ?_;have hs := ho;obtain ⟨r, hr⟩ := so1 hs;simp only [hr, gd1];have q := Lf (M := M) [] (gF.can x0 r hr) (by simp) rfl ixn;exact callOk_conv q trivial (by simp) (by simp [frameOut]) (by simp [frameOut])
 ·cases h
end Go.Proofs
end

/- That these functions compute what their plain functions do. No condition. -/
import Derived.Test.YtoiieebljbhpbaaGreatDoorM16
import Derived.Test.YtoiieebljbhpbaaGreatDoorTy
import Derived.Test.YtoiieebljbhpbaaGreatDoorM15
import Derived.Test.YtoiieebljbhpbaaGreatDoorBu
set_option maxRecDepth 100000
set_option maxHeartbeats 4000000
namespace Go.Proofs
open Go.Ab
@[simp] def gv.out (_x0 : ByteArray) (_x1 : ByteArray) (r : Bool) : Out := { av := .lit (.bool r), M := none }
theorem gv.can (x0 : ByteArray) (x1 : ByteArray) (r : Bool) (hr : gv x0 x1 = some r) : CallOk Tryz.prog 138 [.lit (.string x0), .lit (.string x1)] [] (gv.out x0 x1 r) := by
 unfold gv at hr
 have hΓ := gamL_nil (P := Tryz.prog)
 refine cw Tryz.func138 rfl (by kernel_rfl) rfl rfl (by simp) fun _ _ _ => ?_
 refine tq hΓ [] [] ?_
 obtain ⟨h2, hr⟩ := Lg hr
 refine tq hΓ [4] [0, 1] ?_ (by simp [h2]; exact rr)
 obtain rfl := La hr
 exact AWp.ret (Le (by simp))

@[simp] noncomputable def gv.S : Sp
  | [.lit (.string x0), .lit (.string x1)], _ => some { av := .lit (.bool ((gv x0 x1).getD dflt)), M := none, obl := (gv x0 x1).isSome = true }
  | _, _ => none

theorem gv.ok : SpecOk Tryz.prog 138 gv.S := by
 intro l M out h
 unfold gv.S at h
 split at h
 ·rename_i x0 x1
  cases h
  refine callOk_of fun ho => ?_
  have hs := ho
  obtain ⟨r, hr⟩ := so1 hs
  simp only [hr, gd1]
  have q := Lh (M := M) [] (gv.can x0 x1 r hr) (by simp) rfl ixn
  exact callOk_conv q trivial (by simp) (by simp [frameOut]) (by simp [frameOut])
 ·cases h

@[simp] def gT.out (_x0 : ByteArray) (_x1 : ByteArray) (r : Bool) : Out := { av := .lit (.bool r), M := none }
theorem gT.can (x0 : ByteArray) (x1 : ByteArray) (r : Bool) (hr : gT x0 x1 = some r) : CallOk Tryz.prog 120 [.lit (.string x0), .lit (.string x1)] [] (gT.out x0 x1 r) := by
 unfold gT at hr
 have hΓ := (gamL_cons gv.ok (gamL_nil) : GamOk Tryz.prog _)
 refine cw Tryz.func120 rfl (by kernel_rfl) rfl rfl (by simp) fun _ _ _ => ?_
 refine tq hΓ [] [] ?_
 obtain ⟨r1, h2, hr⟩ := Ld hr
 refine tq hΓ [4] [0, 1] ?_ (by simp [h2]; exact rr)
 obtain rfl := La hr
 exact AWp.ret (Le (by simp))

@[simp] noncomputable def gT.S : Sp
  | [.lit (.string x0), .lit (.string x1)], _ => some { av := .lit (.bool ((gT x0 x1).getD dflt)), M := none, obl := (gT x0 x1).isSome = true }
  | _, _ => none

theorem gT.ok : SpecOk Tryz.prog 120 gT.S := by
 intro l M out h
 unfold gT.S at h
 split at h
 ·rename_i x0 x1
  cases h
  refine callOk_of fun ho => ?_
  have hs := ho
  obtain ⟨r, hr⟩ := so1 hs
  simp only [hr, gd1]
  have q := Lh (M := M) [] (gT.can x0 x1 r hr) (by simp) rfl ixn
  exact callOk_conv q trivial (by simp) (by simp [frameOut]) (by simp [frameOut])
 ·cases h

@[simp] def gad.out (_x0 : Int) (r : Int) : Out := { av := .lit (.int .i64 r), M := none }
theorem gad.can (x0 : Int) (r : Int) (hr : gad x0 = some r) : CallOk Tryz.prog 119 [.lit (.int .i32 x0)] [] (gad.out x0 r) := by
 unfold gad at hr
 have hΓ := (gamL_cons gIsDigit.ok (gamL_cons gIsLetter.ok (gamL_nil)) : GamOk Tryz.prog _)
 refine cw Tryz.func119 rfl (by kernel_rfl) rfl rfl (by simp) fun _ _ _ => ?_
 refine tq hΓ [] [] ?_
 refine AWp.seq ?_
 refine AWp.block ?_
 refine tq hΓ [3] [] ?_
 refine AWp.cnd hr (by simp) (fun h6 hr => ?_) (fun h6 hr => ?_)
 ·refine tq hΓ [2] [3, 0] ?_ (by simp [h6]; exact rr)
  obtain rfl := La hr
  exact AWp.ret (Le (by simp))
 ·obtain ⟨h7, hr⟩ := Lg hr
  refine tq hΓ [14] [3] ?_ (by simp [h6, h7]; exact rr)
  refine AWp.cnd hr (by simp) (fun h8 hr => ?_) (fun h8 hr => ?_)
  ·refine tq hΓ [2] [14, 0] ?_ (by simp [h8]; exact rr)
   obtain rfl := La hr
   exact AWp.ret (Le (by simp))
  ·obtain ⟨h9, hr⟩ := Lg hr
   refine tq hΓ [17] [14, 0] ?_ (by simp [h7, h8]; exact rr)
   refine AWp.cnd hr (by simp) (fun h10 hr => ?_) (fun h10 hr => ?_)
   ·refine tq hΓ [2] [17] ?_ (by simp [h10]; exact rr)
    obtain rfl := La hr
    exact AWp.ret (Le (by simp))
   ·refine AWp.skip ?_
    refine tq hΓ [2] [17] ?_ (by simp [h10]; exact rr)
    obtain rfl := La hr
    exact AWp.ret (Le (by simp))

@[simp] noncomputable def gad.S : Sp
  | [.lit (.int .i32 x0)], _ => some { av := .lit (.int .i64 ((gad x0).getD dflt)), M := none, obl := (gad x0).isSome = true }
  | _, _ => none

theorem gad.ok : SpecOk Tryz.prog 119 gad.S := by
 intro l M out h
 unfold gad.S at h
 split at h
 ·rename_i x0
  cases h
  refine callOk_of fun ho => ?_
  have hs := ho
  obtain ⟨r, hr⟩ := so1 hs
  simp only [hr, gd1]
  have q := Lh (M := M) [] (gad.can x0 r hr) (by simp) rfl ixn
  exact callOk_conv q trivial (by simp) (by simp [frameOut]) (by simp [frameOut])
 ·cases h

@[simp] def gC.out (_x0 : ByteArray) (r : Int) : Out := { av := .lit (.int .i64 r), M := none }
def gC.fin (x0 : ByteArray) (r : Int) (σ : St) : Prop := finK (gC.out x0 r) [] σ.M (resA Tryz.ty σ.A σ.M Tryz.f79.results.toList)
theorem gC.can (x0 : ByteArray) (r : Int) (hr : gC x0 = some r) : CallOk Tryz.prog 79 [.lit (.string x0)] [] (gC.out x0 r) := by
 unfold gC at hr
 have hΓ := (gamL_cons gad.ok (gamL_cons gT.ok (gamL_nil)) : GamOk Tryz.prog _)
 refine cw Tryz.func79 rfl (by kernel_rfl) rfl rfl (by simp) fun _ _ _ => ?_
 refine tq hΓ [] [] ?_
 refine AWp.seq ?_
 refine tq hΓ [14] [] ?_
 refine AWp.cnd hr (by simp) (fun h8 hr => ?_) (fun h8 hr => ?_)
 ·refine tq hΓ [2] [14, 0] ?_ (by simp [h8]; exact rr)
  obtain rfl := La hr
  exact AWp.ret (Le (by simp))
 ·refine AWp.skip ?_
  refine tq hΓ [3, 4] [14] ?_ (by simp [h8]; exact rr)
  refine AWp.seq ?_
  refine tq hΓ [16] [] ?_ (by simp; exact rr)
  refine AWp.loopE (fun (s1 : Int × Int × Nat) (γ1 : Unit) => ⟨[⟨16, none, .it 0⟩, ⟨3, none, .n s1.1⟩, ⟨4, none, .n s1.2.1⟩, ⟨0, none, .s x0⟩], [.iter x0 s1.2.2]⟩) (fun (v1 : Int × Int) (γ1a : Unit) => ⟨[⟨3, none, .n v1.1⟩, ⟨4, none, .n v1.2⟩], [.dead]⟩) (gC.fin x0) hr () 1 (by simp) (fun s1 f γ1 hr => ?_) (fun v1 γ1a σ1 m1 hr hc => ?_) (fun _ h => h)
  ·unfold gC.loop1 at hr
   cases h9 : (nextB x0 s1.2.2) with
   | true =>
     have hr := cond_t h9 hr
     refine tq hΓ [17, 18] [] ?_ (by simp [h9]; exact rr)
     refine AWp.seq ?_
     refine AWp.cond (b := true) (by simp) (fun hb => ?_) (fun hb => ?_)
     ·refine AWp.skip ?_
      refine AWp.block ?_
      refine tq hΓ [5, 6] [17, 18] ?_ (by simp; exact rr)
      obtain ⟨r1, h10, hr⟩ := Ld hr
      refine tq hΓ [7] [] ?_ (by simp [h10]; exact rr)
      refine AWp.seq ?_
      obtain ⟨h11, hr⟩ := Lg hr
      obtain ⟨h12, hr⟩ := Lg hr
      refine tq hΓ [43] [5, 6, 4] ?_ (by simp [h11, h12]; exact rr)
      refine AWp.cnd hr (by simp) (fun h13 hr => ?_) (fun h13 hr => ?_)
      ·refine tq hΓ [2] [43, 7, 16, 3, 0] ?_ (by simp [h13]; exact rr)
       refine AWp.ret ?_
       obtain rfl := La hr
       refine round_ret ?_
       refine Le ?_
       simp
      ·refine AWp.skip ?_
       refine tl hΓ [3, 4] [43, 7] ?_ (by simp [h13]; exact rr)
       obtain rfl := La hr
       exact Lq () 1 (by first | (simp; done) | simp [h8, h9, h10, h11, h12, h13])
     ·cases hb
   | false =>
     have hr := cond_f h9 hr
     refine tq hΓ [17, 18] [] ?_ (by simp [h9]; exact rr)
     refine AWp.seq ?_
     refine AWp.cond (b := false) (by simp) (fun hb => ?_) (fun hb => ?_)
     ·cases hb
     ·refine AWp.exit ?_
      obtain rfl := La hr
      exact Lo () 1 (by first | (simp; done) | simp [h8, h9])
  ·refine AWp.conv hc ?_
   refine AWp.seq ?_
   refine tq hΓ [52] [3, 4] ?_ (by simp; exact rr)
   refine AWp.cnd hr (by simp) (fun h14 hr => ?_) (fun h14 hr => ?_)
   ·refine tq hΓ [2] [52] ?_ (by simp [h14]; exact rr)
    obtain rfl := La hr
    exact AWp.ret (Le (by simp))
   ·refine AWp.skip ?_
    refine tq hΓ [2] [52] ?_ (by simp [h14]; exact rr)
    obtain rfl := La hr
    exact AWp.ret (Le (by simp))

@[simp] noncomputable def gC.S : Sp
  | [.lit (.string x0)], _ => some { av := .lit (.int .i64 ((gC x0).getD dflt)), M := none, obl := (gC x0).isSome = true }
  | _, _ => none

theorem gC.ok : SpecOk Tryz.prog 79 gC.S := by
 intro l M out h
 unfold gC.S at h
 split at h
 ·rename_i x0
  cases h
  refine callOk_of fun ho => ?_
  have hs := ho
  obtain ⟨r, hr⟩ := so1 hs
  simp only [hr, gd1]
  have q := Lh (M := M) [] (gC.can x0 r hr) (by simp) rfl ixn
  exact callOk_conv q trivial (by simp) (by simp [frameOut]) (by simp [frameOut])
 ·cases h

@[simp] def gQ.out (_x0 : ByteArray) (r : ByteArray) : Out := { av := .lit (.string r), M := none }
def gQ.fin (x0 : ByteArray) (r : ByteArray) (σ : St) : Prop := finK (gQ.out x0 r) [] σ.M (resA Tryz.ty σ.A σ.M Tryz.f90.results.toList)
theorem gQ.can (x0 : ByteArray) (r : ByteArray) (hr : gQ x0 = some r) : CallOk Tryz.prog 90 [.lit (.string x0)] [] (gQ.out x0 r) := by
 unfold gQ at hr
 have hΓ := (gamL_cons gaH.String.ok (gamL_cons gaH.WriteRune.ok (gamL_cons gToLower.ok (gamL_nil))) : GamOk Tryz.prog _)
 refine cw Tryz.func90 rfl (by kernel_rfl) rfl rfl (by simp) fun _ _ _ => ?_
 refine tq hΓ [] [] ?_
 refine AWp.then ⟨[⟨3, none, .ptr 0 0⟩, ⟨0, none, .s x0⟩], [.opq (wrO 141 5 [])]⟩ (gaH.alloc rfl rfl rfl rfl (by kernel_rfl) rfl (dead := []) (by simp [exS])) ?_
 refine AWp.seq ?_
 refine tq hΓ [7] [0] ?_
 refine AWp.loopE (fun (s1 : List Int × Nat) (γ1 : Unit) => ⟨[⟨7, none, .it 1⟩, ⟨3, none, .ptr 0 0⟩], [.opq (wrO 141 5 s1.1), .iter x0 s1.2]⟩) (fun (v1 : List Int) (γ1a : Unit) => ⟨[⟨3, none, .ptr 0 0⟩], [.opq (wrO 141 5 v1), .dead]⟩) (gQ.fin x0) hr () 2 (by simp) (fun s1 f γ1 hr => ?_) (fun v1 γ1a σ1 m1 hr hc => ?_) (fun _ h => h)
 ·unfold gQ.loop1 at hr
  cases h5 : (nextB x0 s1.2) with
  | true =>
    have hr := cond_t h5 hr
    refine tq hΓ [8, 9] [] ?_ (by simp [h5]; exact rr)
    refine AWp.seq ?_
    refine AWp.cond (b := true) (by simp) (fun hb => ?_) (fun hb => ?_)
    ·refine AWp.skip ?_
     refine AWp.block ?_
     refine tq hΓ [5] [8, 9] ?_ (by simp; exact rr)
     obtain ⟨h6, hr⟩ := Lg hr
     obtain ⟨h7, hr⟩ := Lg hr
     refine tl hΓ [] [5] ?_ (by simp [h6, h7]; exact rr)
     obtain rfl := La hr
     exact Lq () 2 (by first | (simp; done) | simp [h5, h6, h7])
    ·cases hb
  | false =>
    have hr := cond_f h5 hr
    refine tq hΓ [8, 9] [] ?_ (by simp [h5]; exact rr)
    refine AWp.seq ?_
    refine AWp.cond (b := false) (by simp) (fun hb => ?_) (fun hb => ?_)
    ·cases hb
    ·refine AWp.exit ?_
     obtain rfl := La hr
     exact Lo () 2 (by first | (simp; done) | simp [h5])
 ·refine AWp.conv hc ?_
  obtain ⟨h8, hr⟩ := Lg hr
  refine tq hΓ [2] [3] ?_ (by simp [h8]; exact rr)
  obtain rfl := La hr
  exact AWp.ret (Le (by simp))

@[simp] noncomputable def gQ.S : Sp
  | [.lit (.string x0)], _ => some { av := .lit (.string ((gQ x0).getD dflt)), M := none, obl := (gQ x0).isSome = true }
  | _, _ => none

theorem gQ.ok : SpecOk Tryz.prog 90 gQ.S := by
 intro l M out h
 unfold gQ.S at h
 split at h
 ·rename_i x0
  cases h
  refine callOk_of fun ho => ?_
  have hs := ho
  obtain ⟨r, hr⟩ := so1 hs
  simp only [hr, gd1]
  have q := Lh (M := M) [] (gQ.can x0 r hr) (by simp) rfl ixn
  exact callOk_conv q trivial (by simp) (by simp [frameOut]) (by simp [frameOut])
 ·cases h

@[simp] def gW.out (_x0 : ByteArray) (_x1 : ByteArray) (r : Bool) : Out := { av := .lit (.bool r), M := none }
theorem gW.can (x0 : ByteArray) (x1 : ByteArray) (r : Bool) (hr : gW x0 x1 = some r) : CallOk Tryz.prog 41 [.lit (.string x0), .lit (.string x1)] [] (gW.out x0 x1 r) := by
 unfold gW at hr
 have hΓ := (gamL_cons gQ.ok (gamL_nil) : GamOk Tryz.prog _)
 refine cw Tryz.func41 rfl (by kernel_rfl) rfl rfl (by simp) fun _ _ _ => ?_
 refine tq hΓ [] [] ?_
 obtain ⟨r1, h3, hr⟩ := Ld hr
 obtain ⟨r2, h4, hr⟩ := Ld hr
 refine tq hΓ [4] [0, 1] ?_ (by simp [h3, h4]; exact rr)
 obtain rfl := La hr
 exact AWp.ret (Le (by simp))

@[simp] noncomputable def gW.S : Sp
  | [.lit (.string x0), .lit (.string x1)], _ => some { av := .lit (.bool ((gW x0 x1).getD dflt)), M := none, obl := (gW x0 x1).isSome = true }
  | _, _ => none

theorem gW.ok : SpecOk Tryz.prog 41 gW.S := by
 intro l M out h
 unfold gW.S at h
 split at h
 ·rename_i x0 x1
  cases h
  refine callOk_of fun ho => ?_
  have hs := ho
  obtain ⟨r, hr⟩ := so1 hs
  simp only [hr, gd1]
  have q := Lh (M := M) [] (gW.can x0 x1 r hr) (by simp) rfl ixn
  exact callOk_conv q trivial (by simp) (by simp [frameOut]) (by simp [frameOut])
 ·cases h
end Go.Proofs

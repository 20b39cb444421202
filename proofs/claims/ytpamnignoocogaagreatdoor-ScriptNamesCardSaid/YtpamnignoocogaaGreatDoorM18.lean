import Derived.Test.YtpamnignoocogaaGreatDoorM15
import Derived.Test.YtpamnignoocogaaGreatDoorM02
import Derived.Test.YtpamnignoocogaaGreatDoorM04
import Derived.Test.YtpamnignoocogaaGreatDoorM08
import Derived.Test.YtpamnignoocogaaGreatDoorM14
import Derived.Test.YtpamnignoocogaaGreatDoorTy
import Derived.Test.YtpamnignoocogaaGreatDoorBu
import Derived.Test.YtpamnignoocogaaGreatDoorM20
import Derived.Test.YtpamnignoocogaaGreatDoorCb
import Derived.Test.YtpamnignoocogaaGreatDoorCa
import Derived.Test.YtpamnignoocogaaGreatDoorSg
section
namespace Go.Proofs
open Go.Ab
noncomputable def ge.loop1 (r2 : List ByteArray) (s1 : Int) : Option (Fl Int (Fl Unit Bool)) :=
 bif (ltI s1 (lenL r2)) then (
  need (InB s1 (lenL r2)) <|
  ((ga (nthI r2 s1))).bind fun r3 =>
  need (Under (ltI 0 s1) true (Under (eqI r3.2 3) false (InB (subI .i64 s1 1) (lenL r2)))) <|
  bif (pickB (eqI r3.2 3) true (pickB (ltI 0 s1) (notB (ltS (nthI r2 (subI .i64 s1 1)) (nthI r2 s1))) false)) then (
   some (.out (.out false))
  ) else (
    some (.go (addI .i64 s1 1))
  )
 ) else (
   some (.out (.go ()))
 )
noncomputable def ge.loop2 (x0 : List ByteArray) (x1 : List ByteArray) (s2 : Int × List ByteArray × ByteArray) : Option (Fl (Int × List ByteArray × ByteArray) (Fl (List ByteArray × ByteArray) Bool)) :=
 bif (pickB (pickB (ltI s2.1 (lenL x0)) (ltI s2.1 (lenL x1)) false) (ltI s2.1 9) false) then (
  ((
   need (InB s2.1 (lenL x0)) <|
   ((gX (nthI x0 s2.1) 60)).bind fun r4 =>
   need (InB s2.1 (lenL x1)) <|
   ((gX (nthI x1 s2.1) 60)).bind fun r5 =>
   ((gE r4)).bind fun r6 =>
   need (Under (notB r6) false ((gE r5).isSome = true)) <|
   bif (pickB (notB r6) true (notB ((gE r5).getD dflt))) then (
    some (.go (s2.2.1, s2.2.2))
   ) else (
     need (CatB ⟨#[106, 111, 105, 110, 32]⟩ r4) <|
     need (CatB (catS ⟨#[106, 111, 105, 110, 32]⟩ r4) ⟨#[32]⟩) <|
     need (CatB (catS (catS ⟨#[106, 111, 105, 110, 32]⟩ r4) ⟨#[32]⟩) r5) <|
     need (CatB (catS (catS (catS ⟨#[106, 111, 105, 110, 32]⟩ r4) ⟨#[32]⟩) r5) ⟨#[10, 116, 105, 99, 107, 10]⟩) <|
     need (CatB s2.2.2 (catS (catS (catS (catS ⟨#[106, 111, 105, 110, 32]⟩ r4) ⟨#[32]⟩) r5) ⟨#[10, 116, 105, 99, 107, 10]⟩)) <|
     ((gM r4)).bind fun r7 =>
     need (CatB r7 ⟨#[47]⟩) <|
     ((gM r5)).bind fun r8 =>
     need (CatB (catS r7 ⟨#[47]⟩) r8) <|
     need (AppB (lenL s2.2.1) 1 16) <|
     some (.go ((appL s2.2.1 [(catS (catS r7 ⟨#[47]⟩) r8)]), (catS s2.2.2 (catS (catS (catS (catS ⟨#[106, 111, 105, 110, 32]⟩ r4) ⟨#[32]⟩) r5) ⟨#[10, 116, 105, 99, 107, 10]⟩))))
   )
   : Option (Fl (List ByteArray × ByteArray) (Fl (Int × List ByteArray × ByteArray) (Fl (List ByteArray × ByteArray) Bool)))).bind fun f => flC f fun (v3 : List ByteArray × ByteArray) =>
   some (.go ((addI .i64 s2.1 1), v3.1, v3.2))
  )
 ) else (
   some (.out (.go (s2.2.1, s2.2.2)))
 )
noncomputable def ge.loop4 (r10 : List ByteArray) (v2 : List ByteArray × ByteArray) (s4 : Int) : Option (Fl Int (Fl Unit Bool)) :=
 bif (ltI s4 (lenL v2.1)) then (
  need (InB s4 (lenL r10)) <|
  need (InB s4 (lenL v2.1)) <|
  bif (neS (nthI r10 s4) (nthI v2.1 s4)) then (
   some (.out (.out false))
  ) else (
    some (.go (addI .i64 s4 1))
  )
 ) else (
   some (.out (.go ()))
 )
noncomputable def ge (x0 : List ByteArray) (x1 : List ByteArray) : Option Bool :=
 (gZ).bind fun r1 =>
 bif (notB r1) then (
  some false
 ) else (
   (gB).bind fun r2 =>
   ((loopF (ge.loop1 r2) 0).bind fun f => flC f fun (_v1 : Unit) =>
     ((loopF (ge.loop2 x0 x1) (0, [], ⟨#[]⟩)).bind fun f => flC f fun (v2 : List ByteArray × ByteArray) =>
       ((gy v2.2)).bind fun r9 =>
       ((gD r9.1)).bind fun r10 =>
       bif (pickB (pickB (pickB (neI r9.2.2 0) true (neI (lenL r2) 12)) true (neI (lenL r9.1) (mulI .i64 2 (lenL v2.1)))) true (neI (lenL r10) (lenL v2.1))) then (
        some false
       ) else (
         ((loopF (ge.loop4 r10 v2) 0).bind fun f => flC f fun (_v4 : Unit) =>
           some true
         )
       )
     )
   )
 )
end Go.Proofs
end
section
set_option maxRecDepth 100000
set_option maxHeartbeats 4000000
namespace Go.Proofs
open Go.Ab
@[simp] def gL.out (_x0 : ByteArray) (r : ByteArray) : Out := { av := .lit (.string r), M := none }
def gL.fin (x0 : ByteArray) (r : ByteArray) (σ : St) : Prop := finK (gL.out x0 r) [] σ.M (resA Tryz.ty σ.A σ.M Tryz.f41.results.toList)
theorem gL.can (x0 : ByteArray) (r : ByteArray) (hr : gL x0 = some r) : CallOk Tryz.prog 41 [.lit (.string x0)] [] (gL.out x0 r) := by
 unfold gL at hr;have hΓ := (gamL_cons gan.String.ok (gamL_cons gan.WriteRune.ok (gamL_cons gaC.ok (gamL_nil))) : GamOk Tryz.prog _);refine cw Tryz.func41 rfl (by kernel_rfl) rfl rfl (by simp) fun _ _ _ => ?_;refine tq hΓ [] [] ?_;refine AWp.then ⟨[⟨3, none, .ptr 0 0⟩, ⟨0, none, .s x0⟩], [.opq (wrO 81 5 [])]⟩ (gan.alloc rfl rfl rfl rfl (by kernel_rfl) rfl (dead := []) (by simp [exS])) ?_;refine AWp.seq ?_;refine tq hΓ [7] [0] ?_;refine AWp.loopE (fun (s1 : List Int × Nat) (γ1 : Unit) => ⟨[⟨7, none, .it 1⟩, ⟨3, none, .ptr 0 0⟩], [.opq (wrO 81 5 s1.1), .iter x0 s1.2]⟩) (fun (v1 : List Int) (γ1a : Unit) => ⟨[⟨3, none, .ptr 0 0⟩], [.opq (wrO 81 5 v1), .dead]⟩) (gL.fin x0) hr () 2 (by simp) (fun s1 f γ1 hr => ?_) (fun v1 γ1a σ1 m1 hr hc => ?_) (fun _ h => h)
 ·unfold gL.loop1 at hr;cases h5 : (nextB x0 s1.2) with
  | true =>
    have hr := cond_t h5 hr;refine tq hΓ [8, 9] [] ?_ (by simp [h5]; exact rr);refine AWp.seq ?_;refine AWp.cond (b := true) (by simp) (fun hb => ?_) (fun hb => ?_)
    ·refine AWp.skip ?_;refine AWp.block ?_;refine tq hΓ [5] [8, 9] ?_ (by simp; exact rr);obtain ⟨h6, hr⟩ := Lb hr;obtain ⟨h7, hr⟩ := Lb hr;refine tl hΓ [] [5] ?_ (by simp [h6, h7]; exact rr);obtain rfl := La hr;exact Lo () 2 (by first | (simp; done) | simp [h5, h6, h7])
    ·cases hb
  | false =>
    have hr := cond_f h5 hr;refine tq hΓ [8, 9] [] ?_ (by simp [h5]; exact rr);refine AWp.seq ?_;refine AWp.cond (b := false) (by simp) (fun hb => ?_) (fun hb => ?_)
    ·cases hb
    ·refine AWp.exit ?_;obtain rfl := La hr;exact Lr () 2 (by first | (simp; done) | simp [h5])
 ·refine AWp.conv hc ?_;obtain ⟨h8, hr⟩ := Lb hr;refine tq hΓ [2] [3] ?_ (by simp [h8]; exact rr);obtain rfl := La hr;exact AWp.ret (Le (by simp))
@[simp] noncomputable def gL.S : Sp
  | [.lit (.string x0)], _ => some { av := .lit (.string ((gL x0).getD dflt)), M := none, obl := (gL x0).isSome = true }
  | _, _ => none
theorem gL.ok : SpecOk Tryz.prog 41 gL.S := by
 intro l M out h;unfold gL.S at h;split at h
 ·rename_i x0;cases h;refine callOk_of fun ho => ?_;have hs := ho;obtain ⟨r, hr⟩ := so1 hs;simp only [hr, gd1];have q := Lh (M := M) [] (gL.can x0 r hr) (by simp) rfl ixn;exact callOk_conv q trivial (by simp) (by simp [frameOut]) (by simp [frameOut])
 ·cases h
@[simp] def gM.out (_x0 : ByteArray) (r : ByteArray) : Out := { av := .lit (.string r), M := none }
def gM.fin (x0 : ByteArray) (r : ByteArray) (σ : St) : Prop := finK (gM.out x0 r) [] σ.M (resA Tryz.ty σ.A σ.M Tryz.f18.results.toList)
theorem gM.can (x0 : ByteArray) (r : ByteArray) (hr : gM x0 = some r) : CallOk Tryz.prog 18 [.lit (.string x0)] [] (gM.out x0 r) := by
 unfold gM at hr;have hΓ := (gamL_cons gaC.ok (gamL_nil) : GamOk Tryz.prog _);refine cw Tryz.func18 rfl (by kernel_rfl) rfl rfl (by simp) fun _ _ _ => ?_;refine tq hΓ [] [] ?_;refine tq hΓ [3] [] ?_;refine AWp.seq ?_;refine tq hΓ [8] [0] ?_;refine AWp.equip 3 1 (els := []) (by simp) (by simp) ?_;refine AWp.loopE (fun (s1 : List Int × Nat) (γ1 : Nat) => ⟨[⟨8, none, .it 0⟩, ⟨3, none, .sl (s1.1.map (eNum .i32)) (.own 1 (γ1) 1)⟩], [.iter x0 s1.2, .room (γ1)]⟩) (fun (v1 : List Int) (γ1a : Nat) => ⟨[⟨3, none, .sl (v1.map (eNum .i32)) (.own 1 (γ1a) 1)⟩], [.dead, .room (γ1a)]⟩) (gM.fin x0) hr 0 2 (by simp) (fun s1 f γ1 hr => ?_) (fun v1 γ1a σ1 m1 hr hc => ?_) (fun _ h => h)
 ·unfold gM.loop1 at hr;cases h3 : (nextB x0 s1.2) with
  | true =>
    have hr := cond_t h3 hr;refine tq hΓ [9, 10] [] ?_ (by simp [h3]; exact rr);refine AWp.seq ?_;refine AWp.cond (b := true) (by simp) (fun hb => ?_) (fun hb => ?_)
    ·refine AWp.skip ?_;refine AWp.block ?_;refine tq hΓ [5] [9, 10] ?_ (by simp; exact rr);obtain ⟨h4, hr⟩ := Lb hr;refine tl hΓ [3] [5] ?_ (by simp [h4]; exact rr);obtain rfl := La hr;exact Lo (γ1 + 1) 2 (by first | (simp; done) | simp [h3, h4])
    ·cases hb
  | false =>
    have hr := cond_f h3 hr;refine tq hΓ [9, 10] [] ?_ (by simp [h3]; exact rr);refine AWp.seq ?_;refine AWp.cond (b := false) (by simp) (fun hb => ?_) (fun hb => ?_)
    ·cases hb
    ·refine AWp.exit ?_;obtain rfl := La hr;exact Lr (γ1) 2 (by first | (simp; done) | simp [h3])
 ·refine AWp.conv hc ?_;refine tq hΓ [2] [3] ?_;obtain rfl := La hr;exact AWp.ret (Le (by simp))
@[simp] noncomputable def gM.S : Sp
  | [.lit (.string x0)], _ => some { av := .lit (.string ((gM x0).getD dflt)), M := none, obl := (gM x0).isSome = true }
  | _, _ => none
theorem gM.ok : SpecOk Tryz.prog 18 gM.S := by
 intro l M out h;unfold gM.S at h;split at h
 ·rename_i x0;cases h;refine callOk_of fun ho => ?_;have hs := ho;obtain ⟨r, hr⟩ := so1 hs;simp only [hr, gd1];have q := Lh (M := M) [] (gM.can x0 r hr) (by simp) rfl ixn;exact callOk_conv q trivial (by simp) (by simp [frameOut]) (by simp [frameOut])
 ·cases h
@[simp] def gD.out (_x0 : List Tc) (r : List ByteArray) : Out := { av := .sl (r.map eTxt) .no, M := none }
def gD.fin (x0 : List Tc) (r : List ByteArray) (σ : St) : Prop := finK (gD.out x0 r) [] σ.M (resA Tryz.ty σ.A σ.M Tryz.f19.results.toList)
theorem gD.can (x0 : List Tc) (r : List ByteArray) (hr : gD x0 = some r) : CallOk Tryz.prog 19 [.sl (x0.map Tc.enc) .no] [] (gD.out x0 r) := by
 unfold gD at hr;have hΓ := (gamL_cons gw.ok (gamL_cons gL.ok (gamL_nil)) : GamOk Tryz.prog _);refine cw Tryz.func19 rfl (by kernel_rfl) rfl rfl (by simp) fun _ _ _ => ?_;refine tq hΓ [] [] ?_;refine tq hΓ [3] [] ?_;refine AWp.seq ?_;refine tq hΓ [8, 9, 10] [0] ?_;refine AWp.equip 3 1 (els := []) (by simp) (by simp) ?_;refine AWp.loopE (fun (s1 : Int × List ByteArray) (γ1 : Nat) => ⟨[⟨8, none, .sl (x0.map Tc.enc) .no⟩, ⟨9, none, .n (lenL x0)⟩, ⟨10, none, .n s1.1⟩, ⟨3, none, .sl (s1.2.map eTxt) (.own 0 (γ1) 1)⟩], [.room (γ1)]⟩) (fun (v1 : List ByteArray) (γ1a : Nat) => ⟨[⟨3, none, .sl (v1.map eTxt) (.own 0 (γ1a) 1)⟩], [.room (γ1a)]⟩) (gD.fin x0) hr 0 1 (by simp) (fun s1 f γ1 hr => ?_) (fun v1 γ1a σ1 m1 hr hc => ?_) (fun _ h => h)
 ·unfold gD.loop1 at hr;refine tq hΓ [11] [] ?_;refine AWp.seq ?_;refine AWp.cnd hr (by simp) (fun h10 hr => ?_) (fun h10 hr => ?_)
  ·refine AWp.skip ?_;refine AWp.seq ?_;refine AWp.block ?_;obtain ⟨h11, hr⟩ := Lb hr;refine tq hΓ [5] [11] ?_ (by simp [h10, h11]; exact rr);obtain ⟨r1, h12, hr⟩ := Ld hr;refine tq hΓ [6, 7] [] ?_ (by simp [h12]; exact rr);refine tq hΓ [31] [7, 5] ?_ (by simp; exact rr);refine AWp.cnd hr (by simp) (fun h13 hr => ?_) (fun h13 hr => ?_)
   ·obtain ⟨r2, h14, hr⟩ := Ld hr;obtain ⟨h15, hr⟩ := Lb hr;obtain ⟨r3, h16, hr⟩ := Ld hr;obtain ⟨h17, hr⟩ := Lb hr;obtain ⟨h18, hr⟩ := Lb hr;refine AWp.lst (AWp.regD Tryz.mixed Tryz.tyOk hΓ [3] [31, 6] [] [(false, []), (false, []), (false, []), (false, []), (false, []), (false, []), (false, []), (false, []), (false, []), (false, []), (true, []), (false, [])] (by kernel_rfl) rfl (by simp [h13, h14, h15, h16, h17, h18]; exact rr)) ?_;refine tl hΓ [10] [] ?_ (by simp; exact rr);obtain rfl := La hr;exact Lo (γ1 + 1) 1 (by first | (simp; done) | simp [h10, h11, h12, h13, h14, h15, h16, h17, h18])
   ·refine AWp.skip ?_;refine tl hΓ [10] [31, 6] ?_ (by simp [h13]; exact rr);obtain rfl := La hr;exact Lo (γ1) 1 (by first | (simp; done) | simp [h10, h11, h12, h13])
  ·refine AWp.exit ?_;obtain rfl := La hr;exact Lr (γ1) 1 (by first | (simp; done) | simp [h10])
 ·refine AWp.conv hc ?_;refine tq hΓ [2] [3] ?_;obtain rfl := La hr;exact AWp.ret (Le (by simp))
@[simp] noncomputable def gD.S : Sp
  | [.sl e0 _], _ => some { av := .sl (((gD (e0.map Tc.dec)).getD dflt).map eTxt) .no, M := none, obl := e0 = (e0.map Tc.dec).map Tc.enc ∧ (gD (e0.map Tc.dec)).isSome = true }
  | _, _ => none
theorem gD.ok : SpecOk Tryz.prog 19 gD.S := by
 intro l M out h;unfold gD.S at h;split at h
 ·rename_i e0 k0;cases h;refine callOk_of fun ho => ?_;obtain ⟨ox0, hs⟩ := ho;generalize (e0.map Tc.dec) = x0 at *
  subst ox0;obtain ⟨r, hr⟩ := so1 hs;simp only [hr, gd1];have q := Lh (M := M) [] (gD.can x0 r hr) (by simp) rfl ixn;exact callOk_conv q trivial (by simp) (by simp [frameOut]) (by simp [frameOut])
 ·cases h
end Go.Proofs
end
section
set_option maxRecDepth 100000
set_option maxHeartbeats 4000000
namespace Go.Proofs
open Go.Ab
@[simp] def gab.out (_x0 : Int) (r : Int) : Out := { av := .lit (.int .i64 r), M := none }
theorem gab.can (x0 : Int) (r : Int) (hr : gab x0 = some r) : CallOk Tryz.prog 74 [.lit (.int .i32 x0)] [] (gab.out x0 r) := by
 unfold gab at hr;have hΓ := gamL_nil (P := Tryz.prog);refine cw Tryz.func74 rfl (by kernel_rfl) rfl rfl (by simp) fun _ _ _ => ?_;refine tq hΓ [] [] ?_;refine AWp.seq ?_;refine tq hΓ [4] [] ?_;refine AWp.cnd hr (by simp) (fun h4 hr => ?_) (fun h4 hr => ?_)
 ·refine tq hΓ [2] [4, 0] ?_ (by simp [h4]; exact rr);obtain rfl := La hr;exact AWp.ret (Le (by simp))
 ·refine AWp.skip ?_;refine AWp.seq ?_;refine tq hΓ [6] [4] ?_ (by simp [h4]; exact rr);refine AWp.cnd hr (by simp) (fun h5 hr => ?_) (fun h5 hr => ?_)
  ·refine tq hΓ [2] [6, 0] ?_ (by simp [h5]; exact rr);obtain rfl := La hr;exact AWp.ret (Le (by simp))
  ·refine AWp.skip ?_;refine AWp.seq ?_;refine tq hΓ [8] [6, 0] ?_ (by simp [h5]; exact rr);refine AWp.cnd hr (by simp) (fun h6 hr => ?_) (fun h6 hr => ?_)
   ·refine tq hΓ [2] [8] ?_ (by simp [h6]; exact rr);obtain rfl := La hr;exact AWp.ret (Le (by simp))
   ·refine AWp.skip ?_;refine tq hΓ [2] [8] ?_ (by simp [h6]; exact rr);obtain rfl := La hr;exact AWp.ret (Le (by simp))
@[simp] noncomputable def gab.S : Sp
  | [.lit (.int .i32 x0)], _ => some { av := .lit (.int .i64 ((gab x0).getD dflt)), M := none, obl := (gab x0).isSome = true }
  | _, _ => none
theorem gab.ok : SpecOk Tryz.prog 74 gab.S := by
 intro l M out h;unfold gab.S at h;split at h
 ·rename_i x0;cases h;refine callOk_of fun ho => ?_;have hs := ho;obtain ⟨r, hr⟩ := so1 hs;simp only [hr, gd1];have q := Lh (M := M) [] (gab.can x0 r hr) (by simp) rfl ixn;exact callOk_conv q trivial (by simp) (by simp [frameOut]) (by simp [frameOut])
 ·cases h
@[simp] def gW.out (_x0 : Int) (r : Int) : Out := { av := .lit (.int .i64 r), M := none }
theorem gW.can (x0 : Int) (r : Int) (hr : gW x0 = some r) : CallOk Tryz.prog 38 [.lit (.int .i32 x0)] [] (gW.out x0 r) := by
 unfold gW at hr;have hΓ := (gamL_cons gay.ok (gamL_cons gax.ok (gamL_nil)) : GamOk Tryz.prog _);refine cw Tryz.func38 rfl (by kernel_rfl) rfl rfl (by simp) fun _ _ _ => ?_;refine tq hΓ [] [] ?_;refine AWp.seq ?_;refine tq hΓ [12] [] ?_;refine AWp.cnd hr (by simp) (fun h6 hr => ?_) (fun h6 hr => ?_)
 ·refine tq hΓ [2] [12, 0] ?_ (by simp [h6]; exact rr);obtain rfl := La hr;exact AWp.ret (Le (by simp))
 ·refine AWp.skip ?_;refine AWp.seq ?_;obtain ⟨h7, hr⟩ := Lb hr;refine tq hΓ [14] [12] ?_ (by simp [h6, h7]; exact rr);refine AWp.cnd hr (by simp) (fun h8 hr => ?_) (fun h8 hr => ?_)
  ·refine tq hΓ [2] [14, 0] ?_ (by simp [h8]; exact rr);obtain rfl := La hr;exact AWp.ret (Le (by simp))
  ·refine AWp.skip ?_;refine AWp.seq ?_;obtain ⟨h9, hr⟩ := Lb hr;refine tq hΓ [16] [14, 0] ?_ (by simp [h7, h8]; exact rr);refine AWp.cnd hr (by simp) (fun h10 hr => ?_) (fun h10 hr => ?_)
   ·refine tq hΓ [2] [16] ?_ (by simp [h10]; exact rr);obtain rfl := La hr;exact AWp.ret (Le (by simp))
   ·refine AWp.skip ?_;refine tq hΓ [2] [16] ?_ (by simp [h10]; exact rr);obtain rfl := La hr;exact AWp.ret (Le (by simp))
@[simp] noncomputable def gW.S : Sp
  | [.lit (.int .i32 x0)], _ => some { av := .lit (.int .i64 ((gW x0).getD dflt)), M := none, obl := (gW x0).isSome = true }
  | _, _ => none
theorem gW.ok : SpecOk Tryz.prog 38 gW.S := by
 intro l M out h;unfold gW.S at h;split at h
 ·rename_i x0;cases h;refine callOk_of fun ho => ?_;have hs := ho;obtain ⟨r, hr⟩ := so1 hs;simp only [hr, gd1];have q := Lh (M := M) [] (gW.can x0 r hr) (by simp) rfl ixn;exact callOk_conv q trivial (by simp) (by simp [frameOut]) (by simp [frameOut])
 ·cases h
@[simp] def gI.out (_x0 : ByteArray) (r : List Int × Bool) : Out := { av := .tup [.sl (r.1.map (eNum .i32)) .no, .lit (.bool r.2)], M := none }
def gI.fin (x0 : ByteArray) (r : List Int × Bool) (σ : St) : Prop := finK (gI.out x0 r) [] σ.M (resA Tryz.ty σ.A σ.M Tryz.f37.results.toList)
theorem gI.can (x0 : ByteArray) (r : List Int × Bool) (hr : gI x0 = some r) : CallOk Tryz.prog 37 [.lit (.string x0)] [] (gI.out x0 r) := by
 unfold gI at hr;have hΓ := (gamL_cons gab.ok (gamL_nil) : GamOk Tryz.prog _);refine cw Tryz.func37 rfl (by kernel_rfl) rfl rfl (by simp) fun _ _ _ => ?_;refine tq hΓ [] [] ?_;refine tq hΓ [4] [] ?_;refine tq hΓ [5] [] ?_;refine AWp.seq ?_;refine tq hΓ [11] [] ?_;refine AWp.equip 4 1 (els := []) (by simp) (by simp) ?_;refine AWp.loopE (fun (s1 : Int × List Int × Nat) (γ1 : Nat) => ⟨[⟨11, none, .it 0⟩, ⟨5, none, .n s1.1⟩, ⟨4, none, .sl (s1.2.1.map (eNum .i32)) (.own 1 (γ1) 1)⟩, ⟨0, none, .s x0⟩], [.iter x0 s1.2.2, .room (γ1)]⟩) (fun (v1 : List Int) (γ1a : Nat) => ⟨[⟨4, none, .sl (v1.map (eNum .i32)) (.own 1 (γ1a) 1)⟩], [.dead, .room (γ1a)]⟩) (gI.fin x0) hr 0 2 (by simp) (fun s1 f γ1 hr => ?_) (fun v1 γ1a σ1 m1 hr hc => ?_) (fun _ h => h)
 ·unfold gI.loop1 at hr;cases h6 : (nextB x0 s1.2.2) with
  | true =>
    have hr := cond_t h6 hr;refine tq hΓ [12, 13] [] ?_ (by simp [h6]; exact rr);refine AWp.seq ?_;refine AWp.cond (b := true) (by simp) (fun hb => ?_) (fun hb => ?_)
    ·refine AWp.skip ?_;refine AWp.block ?_;refine tq hΓ [7] [12, 13] ?_ (by simp; exact rr);obtain ⟨r1, h7, hr⟩ := Ld hr;refine tq hΓ [8] [] ?_ (by simp [h7]; exact rr);refine AWp.seq ?_;obtain ⟨h8, hr⟩ := Lb hr;refine td hΓ [34] [] [] [(false, []), (false, []), (false, []), (false, []), (false, []), (false, []), (false, []), (false, [23]), (false, [23]), (false, [23]), (false, [23]), (false, [23]), (false, [23]), (false, [23]), (false, [23]), (false, [23]), (false, [23]), (false, [])] (by simp [h8]; exact rr) ?_;refine AWp.cnd hr (by simp) (fun h9 hr => ?_) (fun h9 hr => ?_)
     ·refine tq hΓ [2, 3] [34, 8, 7, 11, 5, 4, 0] ?_ (by simp [h9]; exact rr);refine AWp.ret ?_;obtain rfl := La hr;refine round_ret ?_;refine Le ?_;simp
     ·refine AWp.skip ?_;refine tq hΓ [5] [34, 8] ?_ (by simp [h9]; exact rr);obtain ⟨h10, hr⟩ := Lb hr;refine tl hΓ [4] [7] ?_ (by simp [h10]; exact rr);obtain rfl := La hr;exact Lo (γ1 + 1) 2 (by first | (simp; done) | simp [h6, h7, h8, h9, h10])
    ·cases hb
  | false =>
    have hr := cond_f h6 hr;refine tq hΓ [12, 13] [] ?_ (by simp [h6]; exact rr);refine AWp.seq ?_;refine AWp.cond (b := false) (by simp) (fun hb => ?_) (fun hb => ?_)
    ·cases hb
    ·refine AWp.exit ?_;obtain rfl := La hr;exact Lr (γ1) 2 (by first | (simp; done) | simp [h6])
 ·refine AWp.conv hc ?_;refine tq hΓ [2, 3] [4] ?_;obtain rfl := La hr;exact AWp.ret (Le (by simp))
@[simp] noncomputable def gI.S : Sp
  | [.lit (.string x0)], _ => some { av := .tup [.sl ((((gI x0).getD dflt).1).map (eNum .i32)) .no, .lit (.bool (((gI x0).getD dflt).2))], M := none, obl := (gI x0).isSome = true }
  | _, _ => none
theorem gI.ok : SpecOk Tryz.prog 37 gI.S := by
 intro l M out h;unfold gI.S at h;split at h
 ·rename_i x0;cases h;refine callOk_of fun ho => ?_;have hs := ho;obtain ⟨r, hr⟩ := so1 hs;simp only [hr, gd1];have q := Lh (M := M) [] (gI.can x0 r hr) (by simp) rfl ixn;exact callOk_conv q trivial (by simp) (by simp [frameOut]) (by simp [frameOut])
 ·cases h
@[simp] def gE.out (_x0 : ByteArray) (r : Bool) : Out := { av := .lit (.bool r), M := none }
def gE.fin (x0 : ByteArray) (r : Bool) (σ : St) : Prop := finK (gE.out x0 r) [] σ.M (resA Tryz.ty σ.A σ.M Tryz.f17.results.toList)
theorem gE.can (x0 : ByteArray) (r : Bool) (hr : gE x0 = some r) : CallOk Tryz.prog 17 [.lit (.string x0)] [] (gE.out x0 r) := by
 unfold gE at hr;have hΓ := (gamL_cons gW.ok (gamL_cons gI.ok (gamL_nil)) : GamOk Tryz.prog _);refine cw Tryz.func17 rfl (by kernel_rfl) rfl rfl (by simp) fun _ _ _ => ?_;refine tq hΓ [] [] ?_;obtain ⟨r1, h9, hr⟩ := Ld hr;refine tq hΓ [3, 4] [0] ?_ (by simp [h9]; exact rr);refine AWp.seq ?_;refine tq hΓ [24] [4] ?_ (by simp; exact rr);refine AWp.cnd hr (by simp) (fun h10 hr => ?_) (fun h10 hr => ?_)
 ·refine tq hΓ [2] [24, 3] ?_ (by simp [h10]; exact rr);obtain rfl := La hr;exact AWp.ret (Le (by simp))
 ·refine AWp.skip ?_;refine AWp.seq ?_;refine tq hΓ [25, 26, 27] [24] ?_ (by simp [h10]; exact rr);refine AWp.loopE (fun (s1 : Int) (γ1 : Unit) => ⟨[⟨25, none, .sl (r1.1.map (eNum .i32)) .no⟩, ⟨26, none, .n (lenL r1.1)⟩, ⟨27, none, .n s1⟩, ⟨3, none, .sl (r1.1.map (eNum .i32)) .no⟩], []⟩) (fun (v1 : Unit) (γ1a : Unit) => ⟨[], []⟩) (gE.fin x0) hr () 0 (by simp) (fun s1 f γ1 hr => ?_) (fun v1 γ1a σ1 m1 hr hc => ?_) (fun _ h => h)
  ·unfold gE.loop1 at hr;refine tq hΓ [28] [] ?_ (by simp; exact rr);refine AWp.seq ?_;refine AWp.cnd hr (by simp) (fun h11 hr => ?_) (fun h11 hr => ?_)
   ·refine AWp.skip ?_;refine AWp.seq ?_;refine AWp.block ?_;obtain ⟨h12, hr⟩ := Lb hr;refine tq hΓ [5, 6] [28] ?_ (by simp [h11, h12]; exact rr);obtain ⟨r2, h13, hr⟩ := Ld hr;refine tq hΓ [7] [6] ?_ (by simp [h13]; exact rr);obtain ⟨h14, hr⟩ := Lb hr;obtain ⟨h15, hr⟩ := Lb hr;refine tq hΓ [59] [7, 5] ?_ (by simp [h14, h15]; exact rr);refine AWp.cnd hr (by simp) (fun h16 hr => ?_) (fun h16 hr => ?_)
    ·refine tq hΓ [2] [59, 25, 26, 27, 3] ?_ (by simp [h16]; exact rr);refine AWp.ret ?_;obtain rfl := La hr;refine round_ret ?_;refine Le ?_;simp
    ·refine AWp.skip ?_;refine tl hΓ [27] [59] ?_ (by simp [h16]; exact rr);obtain rfl := La hr;exact Lo () 0 (by first | (simp; done) | simp [h9, h10, h11, h12, h13, h14, h15, h16])
   ·refine AWp.exit ?_;obtain rfl := La hr;exact Lr () 0 (by first | (simp; done) | simp [h9, h10, h11])
  ·refine AWp.conv hc ?_;refine tq hΓ [2] [] ?_ (by simp; exact rr);obtain rfl := La hr;exact AWp.ret (Le (by simp))
@[simp] noncomputable def gE.S : Sp
  | [.lit (.string x0)], _ => some { av := .lit (.bool ((gE x0).getD dflt)), M := none, obl := (gE x0).isSome = true }
  | _, _ => none
theorem gE.ok : SpecOk Tryz.prog 17 gE.S := by
 intro l M out h;unfold gE.S at h;split at h
 ·rename_i x0;cases h;refine callOk_of fun ho => ?_;have hs := ho;obtain ⟨r, hr⟩ := so1 hs;simp only [hr, gd1];have q := Lh (M := M) [] (gE.can x0 r hr) (by simp) rfl ixn;exact callOk_conv q trivial (by simp) (by simp [frameOut]) (by simp [frameOut])
 ·cases h
end Go.Proofs
end
section
namespace Go.Proofs
open Go.Ab
@[simp] def ga.out (_x0 : ByteArray) (r : Tc × Int) : Out := { av := .tup [.agg [.lit (.int .i64 r.1.fa), .lit (.int .i64 r.1.fd), .lit (.string r.1.fj), .lit (.int .i64 r.1.fN)], .lit (.int .i64 r.2)], M := none }
set_option maxHeartbeats 4000000 in
set_option maxRecDepth 100000 in
theorem ga.can (x0 : ByteArray) (r : Tc × Int) (hr : ga x0 = some r) : CallOk Tryz.prog 16 [.lit (.string x0)] [] (ga.out x0 r) := by
 unfold ga at hr;have hΓ := (gamL_cons gt.ok (gamL_cons gi.ok (gamL_cons gB.ok (gamL_cons gN.ok (gamL_cons gj.ok (gamL_cons gHas.ok (gamL_cons gaD.ok (gamL_nil))))))) : GamOk Tryz.prog _);refine cw Tryz.func16 rfl (by kernel_rfl) rfl rfl (by simp) fun _ _ _ => ?_;refine tq hΓ [2] [] ?_;obtain ⟨h17, hr⟩ := Lb hr;refine tq hΓ [4] [0] ?_ (by simp [h17]; exact rr);refine AWp.seq ?_;obtain ⟨r1, h18, hr⟩ := Ld hr;obtain ⟨h19, hr⟩ := Lb hr;obtain ⟨h20, hr⟩ := Lb hr;refine td hΓ [17] [] [] [(false, []), (false, []), (false, []), (false, []), (false, []), (false, [])] (by simp [h18, h19, h20]; exact rr) ?_;refine AWp.cnd hr (by simp) (fun h21 hr => ?_) (fun h21 hr => ?_)
 ·refine tq hΓ [3] [17, 4] ?_ (by simp [h21]; exact rr);obtain rfl := La hr;exact AWp.ret (Le (by simp))
 ·refine AWp.skip ?_;refine AWp.seq ?_;obtain ⟨h22, hr⟩ := Lb hr;obtain ⟨h23, hr⟩ := Lb hr;obtain ⟨r2, h24, hr⟩ := Ld hr;refine td hΓ [5, 6] [17] [(0, 10), (1, 10), (2, 10), (3, 10), (4, 10), (5, 10), (6, 10), (7, 10), (8, 10), (8, 11)] [(false, []), (false, []), (false, []), (false, []), (false, []), (false, []), (false, []), (false, []), (false, []), (true, []), (true, []), (false, [])] (by simp [h19, h21, h23, h24]; exact rr) ?_;refine tq hΓ [28] [6] ?_ (by simp; exact rr);refine AWp.cnd hr (by simp) (fun h25 hr => ?_) (fun h25 hr => ?_)
  ·refine tq hΓ [3] [28, 5, 4] ?_ (by simp [h25]; exact rr);obtain rfl := La hr;exact AWp.ret (Le (by simp))
  ·refine AWp.skip ?_;obtain ⟨h26, hr⟩ := Lb hr;obtain ⟨h27, hr⟩ := Lb hr;obtain ⟨r3, h28, hr⟩ := Ld hr;refine td hΓ [7, 8] [28, 5, 4] [(0, 10), (1, 10), (2, 10), (3, 10), (4, 10), (5, 10), (6, 10), (7, 10), (8, 10), (8, 11)] [(false, []), (false, []), (false, []), (false, []), (false, []), (false, []), (false, []), (false, []), (false, []), (true, []), (true, []), (false, [])] (by simp [h19, h23, h25, h28]; exact rr) ?_;refine AWp.seq ?_;refine tq hΓ [40] [8] ?_ (by simp; exact rr);refine AWp.cnd hr (by simp) (fun h29 hr => ?_) (fun h29 hr => ?_)
   ·refine tq hΓ [3] [40, 7] ?_ (by simp [h29]; exact rr);obtain rfl := La hr;exact AWp.ret (Le (by simp))
   ·refine AWp.skip ?_;refine AWp.seq ?_;obtain ⟨r4, h30, hr⟩ := Ld hr;refine tq hΓ [9] [40] ?_ (by simp [h29, h30]; exact rr);refine tq hΓ [45] [] ?_ (by simp; exact rr);refine AWp.cnd hr (by simp) (fun h31 hr => ?_) (fun h31 hr => ?_)
    ·refine tq hΓ [3] [45, 9, 7] ?_ (by simp [h31]; exact rr);obtain rfl := La hr;exact AWp.ret (Le (by simp))
    ·refine AWp.skip ?_;obtain ⟨r5, h32, hr⟩ := Ld hr;refine tq hΓ [3] [45, 9, 7] ?_ (by simp [h31, h32]; exact rr);obtain rfl := La hr;exact AWp.ret (Le (by simp))
@[simp] noncomputable def ga.S : Sp
  | [.lit (.string x0)], _ => some { av := .tup [.agg [.lit (.int .i64 (((ga x0).getD dflt).1.fa)), .lit (.int .i64 (((ga x0).getD dflt).1.fd)), .lit (.string (((ga x0).getD dflt).1.fj)), .lit (.int .i64 (((ga x0).getD dflt).1.fN))], .lit (.int .i64 (((ga x0).getD dflt).2))], M := none, obl := (ga x0).isSome = true }
  | _, _ => none
set_option maxHeartbeats 1000000 in
theorem ga.ok : SpecOk Tryz.prog 16 ga.S := by
 intro l M out h;unfold ga.S at h;split at h
 ·rename_i x0;cases h;refine callOk_of fun ho => ?_;have hs := ho;obtain ⟨r, hr⟩ := so1 hs;simp only [hr, gd1];have q := Lh (M := M) [] (ga.can x0 r hr) (by simp) rfl ixn;exact callOk_conv q trivial (by simp) (by simp [frameOut]) (by simp [frameOut])
 ·cases h
end Go.Proofs
end
section
namespace Go.Proofs
open Go.Ab
abbrev Cmd := Ta
def tstp (l : List UInt8) (e : Int) : Bool × List UInt8 × Int :=
 if 1 < val (stp 1 l e).1 then (false, flt 2 (stp 1 l e).2.1 (stp 1 l e).2.2) else (decide (val (stp 1 l e).1 = 1), (stp 1 l e).2)
def mstp : Nat → List Int → List UInt8 → Int → List Int × List UInt8 × Int
 | 0, acc, l, e => (acc, l, e)
 | m + 1, acc, l, e => mstp m (acc ++ [val (stp 4 l e).1]) (stp 4 l e).2.1 (stp 4 l e).2.2
theorem run_rd {α : Type} {n : Nat} {k : List UInt8 → Rd α} {l : List UInt8} {e : Int} : (Rd.rd n k).run l e = (k (stp n l e).1).run (stp n l e).2.1 (stp n l e).2.2 := rfl
theorem run_num {α : Type} {n : Nat} {k : Int → Rd α} {l : List UInt8} {e : Int} : (num n k).run l e = (k (val (stp n l e).1)).run (stp n l e).2.1 (stp n l e).2.2 := rfl
theorem run_tru {α : Type} {k : Bool → Rd α} {l : List UInt8} {e : Int} : (tru k).run l e = (k (tstp l e).1).run (tstp l e).2.1 (tstp l e).2.2 := by
 unfold tru tstp;rw [run_rd];split
 ·rfl
 ·rfl
theorem run_many {α : Type} : ∀ {m : Nat} {acc : List Int} {k : List Int → Rd α} {l : List UInt8} {e : Int}, (many m acc k).run l e = (k (mstp m acc l e).1).run (mstp m acc l e).2.1 (mstp m acc l e).2.2
 | 0, _, _, _, _ => rfl
 | m + 1, acc, k, l, e => by
   rw [many, run_num, run_many];rfl
def tkK {α : Type} (c : Cmd) (x : Int) (k : Cmd → Rd α) : Rd α :=
 if x = 114 then num 1 fun a => .rd a.toNat fun r => num 1 fun b => .rd b.toNat fun n => k (.mk c.fa (ofB r) (ofB n) c.fd c.fOf c.fg c.fh c.fOn c.ff c.fb)
 else if x = 112 then num 2 fun a => k (.mk c.fa c.fc c.fe a c.fOf c.fg c.fh c.fOn c.ff c.fb)
 else if x = 111 then num 2 fun a => k (.mk c.fa c.fc c.fe c.fd a c.fg c.fh c.fOn c.ff c.fb)
 else if x = 116 then num 1 fun a => k (.mk c.fa c.fc c.fe c.fd c.fOf a c.fh c.fOn c.ff c.fb)
 else if x = 108 then num 1 fun a => k (.mk c.fa c.fc c.fe c.fd c.fOf c.fg a c.fOn c.ff c.fb)
 else if x = 98 then tru fun a => k (.mk c.fa c.fc c.fe c.fd c.fOf c.fg c.fh a c.ff c.fb)
 else if x = 115 then tru fun a => num 1 fun m => many m.toNat c.fb fun ss => k (.mk c.fa c.fc c.fe c.fd c.fOf c.fg c.fh c.fOn a ss)
 else k c
def partsP : List Int → Cmd → Rd Cmd
 | [], c => .ret c
 | x :: xs, c => tkK c x (partsP xs)
def newC (k : Int) : Cmd := .mk k noS noS 0 0 0 0 false false []
def prog (k : Int) : Rd Cmd := partsP (runesL (hasL k)) (newC k)
theorem cvt64 {x : Int} (h0 : 0 ≤ x) (h1 : x < 9223372036854775808) : cvtI .i64 x = x := by
 unfold cvtI;rw [IntKind.wrap_i64];omega
theorem v1 (l : List UInt8) (e : Int) : 0 ≤ val (stp 1 l e).1 ∧ val (stp 1 l e).1 < 256 := stp_rng 1 l e
theorem v2 (l : List UInt8) (e : Int) : 0 ≤ val (stp 2 l e).1 ∧ val (stp 2 l e).1 < 65536 := stp_rng 2 l e
theorem v4 (l : List UInt8) (e : Int) : 0 ≤ val (stp 4 l e).1 ∧ val (stp 4 l e).1 < 4294967296 := stp_rng 4 l e
theorem c1 (l : List UInt8) (e : Int) : cvtI .i64 (val (stp 1 l e).1) = val (stp 1 l e).1 := cvt64 (v1 l e).1 (by have := (v1 l e).2; omega)
theorem c2 (l : List UInt8) (e : Int) : cvtI .i64 (val (stp 2 l e).1) = val (stp 2 l e).1 := cvt64 (v2 l e).1 (by have := (v2 l e).2; omega)
theorem c4 (l : List UInt8) (e : Int) : cvtI .u32 (val (stp 4 l e).1) = val (stp 4 l e).1 := by
 unfold cvtI;rw [IntKind.wrap_u32', Int.emod_eq_of_lt (v4 l e).1 (v4 l e).2]
theorem bytes_i {x : Int} (hx : 0 ≤ x) (l : List UInt8) (e : Int) : gr (Tb.mk (ofB l) e) x = some (ofB (stp x.toNat l e).1, Tb.mk (ofB (stp x.toNat l e).2.1) (stp x.toNat l e).2.2) := by
 have := bytes_d x.toNat l e
 rwa [Int.toNat_of_nonneg hx] at this
theorem truth_d (l : List UInt8) (e : Int) : gF (Tb.mk (ofB l) e) = some ((tstp l e).1, Tb.mk (ofB (tstp l e).2.1) (tstp l e).2.2) := by
 unfold gF tstp;rw [u8_d];simp only [Lg];by_cases h : 1 < val (stp 1 l e).1
 ·rw [ltI_t h, fail_d _ _ _ (by omega), if_pos h];simp only [cond_true, Lg, flC_go];rw [eqI_f (by omega)]
 ·rw [ltI_f h, if_neg h, eqI_d];rfl
theorem mloop (r11 : Int × Tb) (h : r11.1 < 256) : ∀ (m : Nat) (i : Int) (acc : List Int) (l : List UInt8) (e : Int), i + m = r11.1 → 0 ≤ i → lenL acc ≤ i →
  loopF (gg.loop1 r11) (i, acc, Tb.mk (ofB l) e) = some (.go ((mstp m acc l e).1, Tb.mk (ofB (mstp m acc l e).2.1) (mstp m acc l e).2.2))
 | 0, i, acc, l, e, h1, h2, h3 => by
   rw [loopF_eq];simp only [gg.loop1];rw [ltI_f (by omega)];rfl
 | m + 1, i, acc, l, e, h1, h2, h3 => by
   rw [loopF_eq];simp only [gg.loop1];rw [ltI_t (by omega), u32_d];simp only [cond_true, Lg];rw [Lf (show AppB _ _ _ from ⟨by omega, by omega⟩)]
   have ha : addI .u8 i 1 = i + 1 := by
    unfold addI;rw [IntKind.wrap_u8', Int.emod_eq_of_lt (by omega) (by omega)]
   rw [ha]
   exact mloop r11 h m (i + 1) _ _ _ (by omega) (by omega) (by
    unfold lenL at h3 ⊢;unfold appL;rw [List.length_append];simp;omega)
theorem take_t (c : Cmd) (f : Bool) (l : List UInt8) (e : Int) (x : Int) (hx : x = 115 → f = true ∧ c.fb = []) (k : Cmd → Rd Cmd) :
  ∃ c' l' e', gg c f (Tb.mk (ofB l) e) x = some (c', (if x = 115 then false else f), Tb.mk (ofB l') e') ∧ (tkK c x k).run l e = (k c').run l' e' ∧ (x ≠ 115 → c'.fb = c.fb) := by
 obtain ⟨kd, room, name, p, o, t, ly, on, v, ss⟩ := c;unfold gg tkK;simp only [eqI_d];by_cases h1 : x = 114
 ·subst h1;simp only [decide_true, cond_true, u8_d, Lg, c1, bytes_i (v1 _ _).1];exact ⟨_, _, _, rfl, rfl, fun _ => rfl⟩
 by_cases h2 : x = 112
 ·subst h2;simp only [decide_true, cond_true, u16_d, Lg, c2];exact ⟨_, _, _, rfl, rfl, fun _ => rfl⟩
 by_cases h3 : x = 111
 ·subst h3;simp only [decide_true, cond_true, u16_d, Lg, c2];exact ⟨_, _, _, rfl, rfl, fun _ => rfl⟩
 by_cases h4 : x = 116
 ·subst h4;simp only [decide_true, cond_true, u8_d, Lg, c1];exact ⟨_, _, _, rfl, rfl, fun _ => rfl⟩
 by_cases h5 : x = 108
 ·subst h5;simp only [decide_true, cond_true, u8_d, Lg, c1];exact ⟨_, _, _, rfl, rfl, fun _ => rfl⟩
 by_cases h6 : x = 98
 ·subst h6;simp only [decide_true, cond_true, truth_d, Lg];exact ⟨_, _, _, rfl, by simp only [Int.reduceEq, if_false, if_true]; rw [run_tru], fun _ => rfl⟩
 by_cases h7 : x = 115
 ·subst h7;obtain ⟨rfl, hs⟩ := hx rfl;simp only at hs;subst hs;simp only [decide_true, cond_true, truth_d, u8_d, Lg];rw [Lf trivial, mloop _ (v1 _ _).2 (val (stp 1 (tstp l e).2.1 (tstp l e).2.2).1).toNat 0 [] _ _ (by have := (v1 (tstp l e).2.1 (tstp l e).2.2).1; omega) (by omega) (by unfold lenL; simp)];refine ⟨_, _, _, rfl, ?_, fun h => absurd rfl h⟩;simp only [Int.reduceEq, if_false, if_true];rw [run_tru, run_num, run_many]
 ·simp only [h1, h2, h3, h4, h5, h6, h7, decide_false, cond_false, if_false];exact ⟨_, _, _, rfl, rfl, fun _ => rfl⟩
theorem parts_loop (r : ByteArray) : ∀ (xs : List Int) (pos : Nat) (c : Cmd) (f : Bool) (l : List UInt8) (e : Int), scan r pos = xs → ((f = true ∧ c.fb = [] ∧ xs.Nodup) ∨ 115 ∉ xs) →
  ∃ f', loopF (gw.loop2 r) (Tb.mk (ofB l) e, c.fa, c.fc, c.fe, c.fd, c.fOf, c.fg, c.fh, c.fOn, c.ff, f, c.fb, pos) =
    some (.go (Tb.mk (ofB ((partsP xs c).run l e).2.1) ((partsP xs c).run l e).2.2, ((partsP xs c).run l e).1.fa, ((partsP xs c).run l e).1.fc, ((partsP xs c).run l e).1.fe, ((partsP xs c).run l e).1.fd, ((partsP xs c).run l e).1.fOf, ((partsP xs c).run l e).1.fg, ((partsP xs c).run l e).1.fh, ((partsP xs c).run l e).1.fOn, ((partsP xs c).run l e).1.ff, f', ((partsP xs c).run l e).1.fb)) := by
 intro xs
 induction xs with
 | nil =>
   intro pos c f l e hs hx
   have h : restS r pos = [] := by
    by_cases h : restS r pos = []
    ·exact h
    ·rw [scan_t h] at hs; cases hs
   rw [loopF_eq];simp only [gw.loop2, nextB_f h];exact ⟨f, rfl⟩
 | cons x xs ih =>
   intro pos c f l e hs hx;have h : restS r pos ≠ [] := fun h => by rw [scan_f h] at hs; cases hs
   rw [scan_t h] at hs;obtain ⟨hr, hs2⟩ := List.cons.inj hs;subst hr;have hc : Ta.mk c.fa c.fc c.fe c.fd c.fOf c.fg c.fh c.fOn c.ff c.fb = c := rfl
   obtain ⟨c', l', e', h1, h2, h3⟩ := take_t c f l e (runeS r pos) (fun q => by
    rcases hx with hx | hx
    ·exact ⟨hx.1, hx.2.1⟩
    ·rw [q] at hx; simp at hx) (partsP xs)
   rw [loopF_eq];simp only [gw.loop2, nextB_t h, cond_true, hc, h1, Lg, partsP, h2];refine ih (stepS r pos) c' _ l' e' hs2 ?_;by_cases q : runeS r pos = 115
   ·right;rcases hx with hx | hx
    ·rw [q] at hx;exact (List.nodup_cons.1 hx.2.2).1
    ·rw [q] at hx; simp at hx
   ·rw [if_neg q, h3 q];rcases hx with hx | hx
    ·exact .inl ⟨hx.1, hx.2.1, (List.nodup_cons.1 hx.2.2).2⟩
    ·exact .inr fun m => hx (List.mem_cons_of_mem _ m)
theorem kinds {k : Int} (h : 1 ≤ k ∧ k ≤ 8) : k = 1 ∨ k = 2 ∨ k = 3 ∨ k = 4 ∨ k = 5 ∨ k = 6 ∨ k = 7 ∨ k = 8 := by omega
end Go.Proofs
end

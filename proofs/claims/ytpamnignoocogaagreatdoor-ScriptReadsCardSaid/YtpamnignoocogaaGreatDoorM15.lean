import Derived.Test.YtpamnignoocogaaGreatDoorM16
import Derived.Test.YtpamnignoocogaaGreatDoorM10
import Derived.Test.YtpamnignoocogaaGreatDoorM04
import Derived.Test.YtpamnignoocogaaGreatDoorM06
import Derived.Test.YtpamnignoocogaaGreatDoorTy
import Derived.Test.YtpamnignoocogaaGreatDoorSw
import Derived.Test.YtpamnignoocogaaGreatDoorCc
import Derived.Test.YtpamnignoocogaaGreatDoorM18
import Derived.Test.YtpamnignoocogaaGreatDoorSk
import Derived.Test.YtpamnignoocogaaGreatDoorCa
import Derived.Test.YtpamnignoocogaaGreatDoorSg
import Derived.Test.YtpamnignoocogaaGreatDoorM05
import Derived.Test.YtpamnignoocogaaGreatDoorM17
import Derived.Laws.Bits64
import Derived.Laws.BitsAllLaws
import Derived.Test.YtpamnignoocogaaGreatDoorM12
section
namespace Go.Proofs
open Go.Ab
noncomputable def gah (x0 : Tc) (x1 : Tb) : Option Bool :=
 some (pickB (pickB (pickB (eqI x0.fb x1.fb) (eqI x0.fc x1.fc) false) (eqI x0.fN x1.fN) false) (eqS x0.fj x1.fj) false)
noncomputable def gv.loop2 (r2 : List Tc × Int × Int) (v1 : List ByteArray) (s2 : Int) : Option (Fl Int (Fl Unit Bool)) :=
 bif (ltI s2 (lenL v1)) then (
  need (InB s2 (lenL v1)) <|
  ((gI (nthI v1 s2))).bind fun r4 =>
  bif (neI r4.2 0) then (
   need ((neI r2.2.2 0) = true) <|
   some (.out (.out (pickB (eqI r2.2.1 s2) (eqI r2.2.2 r4.2) false)))
  ) else (
    need (Under (leqI (lenL r2.1) s2) false (Under (eqI r2.2.2 0) true (InB s2 (lenL r2.1)))) <|
    need (Under (leqI (lenL r2.1) s2) false (Under (eqI r2.2.2 0) true ((gah (Tc.mk ((nthI r2.1 s2).fb) ((nthI r2.1 s2).fc) ((nthI r2.1 s2).fj) ((nthI r2.1 s2).fN)) r4.1).isSome = true))) <|
    bif (pickB (eqI r2.2.2 0) (pickB (leqI (lenL r2.1) s2) true (notB ((gah (Tc.mk ((nthI r2.1 s2).fb) ((nthI r2.1 s2).fc) ((nthI r2.1 s2).fj) ((nthI r2.1 s2).fN)) r4.1).getD dflt))) false) then (
     some (.out (.out false))
    ) else (
      some (.go (addI .i64 s2 1))
    )
  )
 ) else (
   some (.out (.go ()))
 )
noncomputable def gv (x0 : ByteArray) : Option Bool :=
 ((gaf x0 400)).bind fun r1 =>
 ((gt r1)).bind fun r2 =>
 need (lenS r1 ≤ 400) <|
 ((
  need (InB (subI .i64 (lenL (splitT r1 10)) 1) (lenL (splitT r1 10))) <|
  bif (eqS (nthI (splitT r1 10) (subI .i64 (lenL (splitT r1 10)) 1)) ⟨#[]⟩) then (
   need (CutB 0 (subI .i64 (lenL (splitT r1 10)) 1) (lenL (splitT r1 10))) <|
   some (.go (cutL (splitT r1 10) 0 (subI .i64 (lenL (splitT r1 10)) 1)))
  ) else (
    some (.go (splitT r1 10))
  )
  : Option (Fl (List ByteArray) Bool)).bind fun f => flC f fun (v1 : List ByteArray) =>
  (gac).bind fun r3 =>
  bif (notB r3) then (
   some false
  ) else (
    ((loopF (gv.loop2 r2 v1) 0).bind fun f => flC f fun (_v2 : Unit) =>
      some (pickB (pickB (eqI r2.2.2 0) (eqI (lenL r2.1) (lenL v1)) false) (eqI r2.2.1 0) false)
    )
  )
 )
end Go.Proofs
end
section
namespace Go.Proofs
open Go.Ab
@[simp] def gac.out  (r : Bool) : Out := { av := .lit (.bool r), M := none }
set_option maxHeartbeats 4000000 in
set_option maxRecDepth 100000 in
theorem gac.can  (r : Bool) (hr : gac = some r) : CallOk Tryz.prog 9 [] [] (gac.out  r) := by
 unfold gac at hr;obtain ⟨r1, h1, hr⟩ := Le (show (gap ).bind (fun r1 => some r1) = some r from hr);obtain rfl := La hr;exact gap.can  _ h1
@[simp] noncomputable def gac.S : Sp
  | [], _ => some { av := .lit (.bool (gac.getD dflt)), M := none, obl := gac.isSome = true }
  | _, _ => none
set_option maxHeartbeats 1000000 in
theorem gac.ok : SpecOk Tryz.prog 9 gac.S := by
 intro l M out h;unfold gac.S at h;split at h
 ·cases h;refine callOk_of fun ho => ?_;have hs := ho;obtain ⟨r, hr⟩ := so1 hs;simp only [hr, gd1];have q := Lg (M := M) [] (gac.can r hr) (by simp) rfl ixn;exact callOk_conv q trivial (by simp) (by simp [frameOut]) (by simp [frameOut])
 ·cases h
end Go.Proofs
end
section
namespace Go.Proofs
open Go.Ab
@[simp] def gI.out (_x0 : ByteArray) (r : Tb × Int) : Out := { av := .tup [.agg [.lit (.int .i64 r.1.fb), .lit (.int .i64 r.1.fc), .lit (.int .i64 r.1.fN), .lit (.string r.1.fj), .lit (.int .i64 r.1.fC.fb), .lit (.string r.1.fC.fd), .lit (.string r.1.fC.ff), .lit (.int .i64 r.1.fC.fc), .lit (.int .i64 r.1.fC.fOf), .lit (.int .i64 r.1.fC.fg), .lit (.int .i64 r.1.fC.fh), .lit (.bool r.1.fC.fOn), .lit (.bool r.1.fC.fe), .sl (r.1.fC.fa.map (eNum .u32)) .no], .lit (.int .i64 r.2)], M := none }
set_option maxHeartbeats 4000000 in
set_option maxRecDepth 100000 in
theorem gI.can (x0 : ByteArray) (r : Tb × Int) (hr : gI x0 = some r) : CallOk Tryz.prog 10 [.lit (.string x0)] [] (gI.out x0 r) := by
 unfold gI at hr;have hΓ := (gamL_cons gP.ok (gamL_cons gD.ok (gamL_cons gaw.ok (gamL_cons gA.ok (gamL_cons gK.ok (gamL_cons gV.ok (gamL_nil)))))) : GamOk Tryz.prog _);refine cw Tryz.func10 rfl (by kernel_rfl) rfl rfl (by simp) fun _ _ _ => ?_;refine tq hΓ [2] [] ?_;obtain ⟨h15, hr⟩ := Lb hr;refine tq hΓ [4] [0] ?_ (by simp [h15]; exact rr);obtain ⟨h16, hr⟩ := Lb hr;refine tq hΓ [5] [] ?_ (by simp [h16]; exact rr);refine AWp.seq ?_;obtain ⟨r1, h17, hr⟩ := Le hr;refine tq hΓ [17] [] ?_ (by simp [h17]; exact rr);refine AWp.cnd hr (by simp) (fun h18 hr => ?_) (fun h18 hr => ?_)
 ·refine tq hΓ [3] [17, 5, 4] ?_ (by simp [h18]; exact rr);obtain rfl := La hr;exact AWp.ret (Ld (by simp))
 ·refine AWp.skip ?_;refine AWp.seq ?_;refine tq hΓ [28] [17] ?_ (by simp [h18]; exact rr);refine AWp.cnd hr (by simp) (fun h19 hr => ?_) (fun h19 hr => ?_)
  ·obtain ⟨h20, hr⟩ := Lb hr;obtain ⟨r2, h21, hr⟩ := Le hr;refine tq hΓ [6, 7] [28, 5, 4] ?_ (by simp [h19, h20, h21]; exact rr);refine AWp.seq ?_;refine tq hΓ [37] [7] ?_ (by simp; exact rr);refine AWp.cnd hr (by simp) (fun h22 hr => ?_) (fun h22 hr => ?_)
   ·refine tq hΓ [3] [37, 6] ?_ (by simp [h22]; exact rr);obtain rfl := La hr;exact AWp.ret (Ld (by simp))
   ·refine AWp.skip ?_;refine tq hΓ [3] [37, 6] ?_ (by simp [h22]; exact rr);obtain rfl := La hr;exact AWp.ret (Ld (by simp))
  ·refine AWp.skip ?_;obtain ⟨h23, hr⟩ := Lb hr;obtain ⟨r3, h24, hr⟩ := Le hr;refine tq hΓ [8, 9] [28, 5, 4] ?_ (by simp [h19, h23, h24]; exact rr);refine AWp.seq ?_;refine tq hΓ [48] [9] ?_ (by simp; exact rr);refine AWp.cnd hr (by simp) (fun h25 hr => ?_) (fun h25 hr => ?_)
   ·refine tq hΓ [3] [48, 8] ?_ (by simp [h25]; exact rr);obtain rfl := La hr;exact AWp.ret (Ld (by simp))
   ·refine AWp.skip ?_;refine AWp.seq ?_;obtain ⟨r4, h26, hr⟩ := Le hr;refine tq hΓ [52] [48] ?_ (by simp [h25, h26]; exact rr);refine AWp.cnd hr (by simp) (fun h27 hr => ?_) (fun h27 hr => ?_)
    ·refine tq hΓ [3] [52, 8] ?_ (by simp [h26, h27]; exact rr);obtain rfl := La hr;exact AWp.ret (Ld (by simp))
    ·refine AWp.skip ?_;obtain ⟨r5, h28, hr⟩ := Le hr;refine tq hΓ [3] [52, 8] ?_ (by simp [h27, h28]; exact rr);obtain rfl := La hr;exact AWp.ret (Ld (by simp))
@[simp] noncomputable def gI.S : Sp
  | [.lit (.string x0)], _ => (fun (r : Tb × Int) => some { av := .tup [.agg [.lit (.int .i64 (r.1.fb)), .lit (.int .i64 (r.1.fc)), .lit (.int .i64 (r.1.fN)), .lit (.string (r.1.fj)), .lit (.int .i64 (r.1.fC.fb)), .lit (.string (r.1.fC.fd)), .lit (.string (r.1.fC.ff)), .lit (.int .i64 (r.1.fC.fc)), .lit (.int .i64 (r.1.fC.fOf)), .lit (.int .i64 (r.1.fC.fg)), .lit (.int .i64 (r.1.fC.fh)), .lit (.bool (r.1.fC.fOn)), .lit (.bool (r.1.fC.fe)), .sl ((r.1.fC.fa).map (eNum .u32)) .no], .lit (.int .i64 (r.2))], M := none, obl := (gI x0).isSome = true }) ((gI x0).getD dflt)
  | _, _ => none
set_option maxHeartbeats 1000000 in
theorem gI.ok : SpecOk Tryz.prog 10 gI.S := by
 intro l M out h;unfold gI.S at h;split at h
 ·rename_i x0
  try dsimp only at h
  cases h;refine callOk_of fun ho => ?_;have hs := ho;obtain ⟨r, hr⟩ := so1 hs;simp only [hr, gd1];have q := Lg (M := M) [] (gI.can x0 r hr) (by simp) rfl ixn;exact callOk_conv q trivial (by simp) (by simp [frameOut]) (by simp [frameOut])
 ·cases h
end Go.Proofs
end
section
namespace Go.Proofs
open Go.Ab
@[simp] def gp.out (_x0 : ByteArray) (r : Tc × Int) : Out := { av := .tup [.agg [.lit (.int .i64 r.1.fb), .lit (.int .i64 r.1.fc), .lit (.string r.1.fj), .lit (.int .i64 r.1.fN)], .lit (.int .i64 r.2)], M := none }
set_option maxHeartbeats 4000000 in
set_option maxRecDepth 100000 in
theorem gp.can (x0 : ByteArray) (r : Tc × Int) (hr : gp x0 = some r) : CallOk Tryz.prog 16 [.lit (.string x0)] [] (gp.out x0 r) := by
 unfold gp at hr;have hΓ := (gamL_cons gq.ok (gamL_cons gf.ok (gamL_cons gW.ok (gamL_cons gi.ok (gamL_cons gg.ok (gamL_cons gHas.ok (gamL_cons gaz.ok (gamL_nil))))))) : GamOk Tryz.prog _);refine cw Tryz.func16 rfl (by kernel_rfl) rfl rfl (by simp) fun _ _ _ => ?_;refine tq hΓ [2] [] ?_;obtain ⟨h17, hr⟩ := Lb hr;refine tq hΓ [4] [0] ?_ (by simp [h17]; exact rr);refine AWp.seq ?_;obtain ⟨r1, h18, hr⟩ := Le hr;obtain ⟨h19, hr⟩ := Lb hr;obtain ⟨h20, hr⟩ := Lb hr;refine td hΓ [17] [] [] [(false, []), (false, []), (false, []), (false, []), (false, []), (false, [])] (by simp [h18, h19, h20]; exact rr) ?_;refine AWp.cnd hr (by simp) (fun h21 hr => ?_) (fun h21 hr => ?_)
 ·refine tq hΓ [3] [17, 4] ?_ (by simp [h21]; exact rr);obtain rfl := La hr;exact AWp.ret (Ld (by simp))
 ·refine AWp.skip ?_;refine AWp.seq ?_;obtain ⟨h22, hr⟩ := Lb hr;obtain ⟨h23, hr⟩ := Lb hr;obtain ⟨r2, h24, hr⟩ := Le hr;refine td hΓ [5, 6] [17] [(0, 10), (1, 10), (2, 10), (3, 10), (4, 10), (5, 10), (6, 10), (7, 10), (8, 10), (8, 11)] [(false, []), (false, []), (false, []), (false, []), (false, []), (false, []), (false, []), (false, []), (false, []), (true, []), (true, []), (false, [])] (by simp [h19, h21, h23, h24]; exact rr) ?_;refine tq hΓ [28] [6] ?_ (by simp; exact rr);refine AWp.cnd hr (by simp) (fun h25 hr => ?_) (fun h25 hr => ?_)
  ·refine tq hΓ [3] [28, 5, 4] ?_ (by simp [h25]; exact rr);obtain rfl := La hr;exact AWp.ret (Ld (by simp))
  ·refine AWp.skip ?_;obtain ⟨h26, hr⟩ := Lb hr;obtain ⟨h27, hr⟩ := Lb hr;obtain ⟨r3, h28, hr⟩ := Le hr;refine td hΓ [7, 8] [28, 5, 4] [(0, 10), (1, 10), (2, 10), (3, 10), (4, 10), (5, 10), (6, 10), (7, 10), (8, 10), (8, 11)] [(false, []), (false, []), (false, []), (false, []), (false, []), (false, []), (false, []), (false, []), (false, []), (true, []), (true, []), (false, [])] (by simp [h19, h23, h25, h28]; exact rr) ?_;refine AWp.seq ?_;refine tq hΓ [40] [8] ?_ (by simp; exact rr);refine AWp.cnd hr (by simp) (fun h29 hr => ?_) (fun h29 hr => ?_)
   ·refine tq hΓ [3] [40, 7] ?_ (by simp [h29]; exact rr);obtain rfl := La hr;exact AWp.ret (Ld (by simp))
   ·refine AWp.skip ?_;refine AWp.seq ?_;obtain ⟨r4, h30, hr⟩ := Le hr;refine tq hΓ [9] [40] ?_ (by simp [h29, h30]; exact rr);refine tq hΓ [45] [] ?_ (by simp; exact rr);refine AWp.cnd hr (by simp) (fun h31 hr => ?_) (fun h31 hr => ?_)
    ·refine tq hΓ [3] [45, 9, 7] ?_ (by simp [h31]; exact rr);obtain rfl := La hr;exact AWp.ret (Ld (by simp))
    ·refine AWp.skip ?_;obtain ⟨r5, h32, hr⟩ := Le hr;refine tq hΓ [3] [45, 9, 7] ?_ (by simp [h31, h32]; exact rr);obtain rfl := La hr;exact AWp.ret (Ld (by simp))
@[simp] noncomputable def gp.S : Sp
  | [.lit (.string x0)], _ => some { av := .tup [.agg [.lit (.int .i64 (((gp x0).getD dflt).1.fb)), .lit (.int .i64 (((gp x0).getD dflt).1.fc)), .lit (.string (((gp x0).getD dflt).1.fj)), .lit (.int .i64 (((gp x0).getD dflt).1.fN))], .lit (.int .i64 (((gp x0).getD dflt).2))], M := none, obl := (gp x0).isSome = true }
  | _, _ => none
set_option maxHeartbeats 1000000 in
theorem gp.ok : SpecOk Tryz.prog 16 gp.S := by
 intro l M out h;unfold gp.S at h;split at h
 ·rename_i x0;cases h;refine callOk_of fun ho => ?_;have hs := ho;obtain ⟨r, hr⟩ := so1 hs;simp only [hr, gd1];have q := Lg (M := M) [] (gp.can x0 r hr) (by simp) rfl ixn;exact callOk_conv q trivial (by simp) (by simp [frameOut]) (by simp [frameOut])
 ·cases h
end Go.Proofs
end
section
namespace Go.Proofs
open Go.Ab
@[simp] def gt.out (_x0 : ByteArray) (r : List Tc × Int × Int) : Out := { av := .tup [.sl (r.1.map Tc.enc) (tokN (neI r.2.2 0)), .lit (.int .i64 r.2.1), .lit (.int .i64 r.2.2)], M := none }
def gt.fin (x0 : ByteArray) (r : List Tc × Int × Int) (σ : St) : Prop := finK (gt.out x0 r) [] σ.M (resA Tryz.tyN σ.A σ.M Tryz.f7.results.toList)
set_option maxHeartbeats 4000000 in
set_option maxRecDepth 100000 in
theorem gt.can (x0 : ByteArray) (r : List Tc × Int × Int) (hr : gt x0 = some r) : CallOk Tryz.prog 7 [.lit (.string x0)] [] (gt.out x0 r) := by
 unfold gt at hr;have hΓ := (gamL_cons gp.ok (gamL_cons gaz.ok (gamL_nil)) : GamOk Tryz.prog _);refine cwN Tryz.func7 rfl (by kernel_rfl) rfl rfl (by simp) fun _ _ _ => ?_;refine tqN hΓ [] [] ?_;obtain ⟨h11, hr⟩ := Lb hr;refine tqN hΓ [5] [0] ?_ (by simp [h11]; exact rr);refine AWp.meetF (fun (v1 : List ByteArray) (γ1 : Unit) => ⟨[⟨5, none, .sl (v1.map eTxt) .no⟩], []⟩) (gt.fin x0) hr (fun f hr => ?_) (fun v1 γ1 hr => ?_) (fun _ h => h)
 ·obtain ⟨h12, hr⟩ := Lb hr;refine tqN hΓ [19] [] ?_ (by simp [h12]; exact rr);refine AWp.cnd hr (by simp) (fun h13 hr => ?_) (fun h13 hr => ?_)
  ·obtain ⟨h14, hr⟩ := Lb hr;refine tlN hΓ [5] [19] ?_ (by simp [h13, h14]; exact rr);obtain rfl := La hr;exact meet_go () 0 (by first | (simp; done) | simp [h11, h12, h13, h14])
  ·refine AWp.skip ?_;obtain rfl := La hr;exact meet_go () 0 (by first | (simp; done) | simp [h11, h12, h13])
 ·refine AWp.seq ?_;refine tqN hΓ [27] [] ?_ (by simp; exact rr);refine AWp.cnd hr (by simp) (fun h15 hr => ?_) (fun h15 hr => ?_)
  ·refine tqN hΓ [2, 3, 4] [27, 5] ?_ (by simp [h15]; exact rr);obtain rfl := La hr;exact AWp.ret (Ld (by simp [*]))
  ·refine AWp.skip ?_;refine tqN hΓ [6] [27] ?_ (by simp [h15]; exact rr);refine AWp.seq ?_;refine tqN hΓ [30, 31, 32] [5] ?_ (by simp; exact rr);refine AWp.equip 6 4 (els := []) (by simp) (by simp) ?_;refine AWp.loopE (fun (s2 : Int × List Tc) (γ2 : Nat) => ⟨[⟨30, none, .sl (v1.map eTxt) .no⟩, ⟨31, none, .n (lenL v1)⟩, ⟨32, none, .n s2.1⟩, ⟨6, none, .sl (s2.2.map Tc.enc) (.own 0 (γ2) 4)⟩], [.room (γ2)]⟩) (fun (v2 : List Tc) (γ2a : Nat) => ⟨[⟨6, none, .sl (v2.map Tc.enc) (.own 0 (γ2a) 4)⟩], [.room (γ2a)]⟩) (gt.fin x0) hr 0 1 (by simp) (fun s2 f γ2 hr => ?_) (fun v2 γ2a σ1 m1 hr hc => ?_) (fun _ h => h)
   ·unfold gt.loop2 at hr;refine tqN hΓ [33] [] ?_ (by simp; exact rr);refine AWp.seq ?_;refine AWp.cnd hr (by simp) (fun h16 hr => ?_) (fun h16 hr => ?_)
    ·refine AWp.skip ?_;refine AWp.seq ?_;refine AWp.block ?_;obtain ⟨h17, hr⟩ := Lb hr;refine tqN hΓ [7, 8] [33] ?_ (by simp [h16, h17]; exact rr);obtain ⟨r1, h18, hr⟩ := Le hr;refine tqN hΓ [9, 10] [8] ?_ (by simp [h18]; exact rr);refine AWp.seq ?_;refine tqN hΓ [43] [] ?_ (by simp; exact rr);refine AWp.cnd hr (by simp) (fun h19 hr => ?_) (fun h19 hr => ?_)
     ·refine tqN hΓ [2, 3, 4] [43, 9, 10, 7, 30, 31, 32, 6] ?_ (by simp [h19]; exact rr);refine AWp.ret ?_;obtain rfl := La hr;refine round_ret ?_;refine Ld ?_;simp [h19]
     ·refine AWp.skip ?_;obtain ⟨h20, hr⟩ := Lb hr;refine tlN hΓ [6] [43, 9, 10, 7] ?_ (by simp [h19, h20]; exact rr);refine tlN hΓ [32] [] ?_ (by simp; exact rr);obtain rfl := La hr;exact Lo (γ2 + 1) 1 (by first | (simp; done) | simp [h11, h15, h16, h17, h18, h19, h20])
    ·refine AWp.exit ?_;obtain rfl := La hr;exact Lp (γ2) 1 (by first | (simp; done) | simp [h11, h15, h16])
   ·refine AWp.conv hc ?_;refine tqN hΓ [2, 3, 4] [6] ?_ (by simp; exact rr);obtain rfl := La hr;exact AWp.ret (Ld (by simp [*]))
@[simp] noncomputable def gt.S : Sp
  | [.lit (.string x0)], _ => some { av := .tup [.sl ((((gt x0).getD dflt).1).map Tc.enc) (tokN (neI (((gt x0).getD dflt).2.2) 0)), .lit (.int .i64 (((gt x0).getD dflt).2.1)), .lit (.int .i64 (((gt x0).getD dflt).2.2))], M := none, obl := (gt x0).isSome = true }
  | _, _ => none
set_option maxHeartbeats 1000000 in
theorem gt.ok : SpecOk Tryz.prog 7 gt.S := by
 intro l M out h;unfold gt.S at h;split at h
 ·rename_i x0;cases h;refine callOk_of fun ho => ?_;have hs := ho;obtain ⟨r, hr⟩ := so1 hs;simp only [hr, gd1];have q := Lg (M := M) [] (gt.can x0 r hr) (by simp) rfl ixn;exact callOk_conv q trivial (by simp) (by simp only [gt.out]; cases neI r.2.2 0 <;> simp [frameOut]) (by simp only [gt.out]; cases neI r.2.2 0 <;> simp [frameOut])
 ·cases h
end Go.Proofs
end
section
namespace Go.Proofs
open Go.Ab
theorem nil_ofB : (⟨#[]⟩ : ByteArray) = ofB [] := rfl
theorem numsOf_ofB (l : List UInt8) : numsOf (ofB l) = l.map fun b => (b.toNat : Int) := by
 unfold numsOf;rw [show (ofB l).data.toList = l from ofB_b l]
theorem eqS_ofB (l : List UInt8) : eqS (ofB l) ⟨#[]⟩ = l.isEmpty := by
 rw [eqS_b, nil_ofB, ofB_b, ofB_b];cases l <;> simp
theorem wrapU64 {x : Int} (h0 : 0 ≤ x) (h1 : x < 18446744073709551616) : IntKind.u64.wrap x = x := by
 rw [IntKind.wrap_u64]; omega
theorem stp_rng (n : Nat) (l : List UInt8) (e : Int) : 0 ≤ val (stp n l e).1 ∧ val (stp n l e).1 < 256 ^ n := by
 have hp : (0 : Int) < 256 ^ n := Int.pow_pos (by omega);unfold stp;split
 ·exact ⟨by simp [val], by simpa [val] using hp⟩
 ·split
  ·exact ⟨by simp [val], by simpa [val] using hp⟩
  ·exact val_rng n _ (by rw [List.length_take]; omega)
end Go.Proofs
end
section
namespace Go.Proofs
open Go.Ab
theorem loop_congr {S T : Type} {f g : S → Option (Fl S T)} (I : S → Prop) (h : ∀ s, I s → f s = g s ∧ ∀ s', f s = some (.go s') → I s') (s : S) (hs : I s) : loopF f s = loopF g s := by
 have key : ∀ (f g : S → Option (Fl S T)), (∀ s, I s → f s = g s ∧ ∀ s', f s = some (.go s') → I s') → ∀ (n : Nat) (s : S) (t : T), I s → iterF f n s = some t → iterF g n s = some t := by
  intro f g h n
  induction n with
  | zero => intro s t _ hn; cases hn
  | succ n ih =>
    intro s t hI hn;obtain ⟨h1, h2⟩ := h s hI;unfold iterF at hn ⊢;rw [← h1];cases hf : f s with
    | none => rw [hf] at hn; cases hn
    | some r =>
      rw [hf] at hn;cases r with
      | go s' => exact ih s' t (h2 s' hf) hn
      | out t' => exact hn
 apply Option.ext;intro t;constructor
 ·intro q;obtain ⟨n, hn⟩ := loopF_iff.1 q;exact loopF_iff.2 ⟨n, key f g h n s t hs hn⟩
 ·intro q;obtain ⟨n, hn⟩ := loopF_iff.1 q;exact loopF_iff.2 ⟨n, key g f (fun s hI => ⟨(h s hI).1.symm, fun s' e => (h s hI).2 s' (by rw [(h s hI).1]; exact e)⟩) n s t hs hn⟩
def hasL (k : Int) : List UInt8 :=
 if k = 1 then [114] else if k = 2 then [112] else if k = 3 then [112, 116, 115] else if k = 4 then [112, 116] else if k = 5 then [112, 111, 116, 108] else if k = 6 then [112, 111, 116] else if k = 7 then [112, 116, 98] else if k = 8 then [112, 111, 116, 98] else []
theorem has_d (k : Int) : gN k = some (ofB (hasL k)) := by
 unfold gN hasL;simp only [eqI_d];by_cases h1 : k = 1
 ·simp [h1]; rfl
 by_cases h2 : k = 2
 ·simp [h2]; rfl
 by_cases h3 : k = 3
 ·simp [h3]; rfl
 by_cases h4 : k = 4
 ·simp [h4]; rfl
 by_cases h5 : k = 5
 ·simp [h5]; rfl
 by_cases h6 : k = 6
 ·simp [h6]; rfl
 by_cases h7 : k = 7
 ·simp [h7]; rfl
 by_cases h8 : k = 8
 ·simp [h8]; rfl
 simp [h1, h2, h3, h4, h5, h6, h7, h8]; rfl
theorem part_loop (x : Int) (r : ByteArray) : ∀ (m pos : Nat), (restS r pos).length ≤ m → loopF (gr.loop1 x r) pos = some (if x ∈ scan r pos then .out true else .go ()) := by
 intro m
 induction m with
 | zero =>
   intro pos hm;have h : restS r pos = [] := List.eq_nil_of_length_eq_zero (by omega);rw [loopF_eq];simp [gr.loop1, nextB_f h, scan_f h]
 | succ m ih =>
   intro pos hm;by_cases h : restS r pos = []
   ·rw [loopF_eq];simp [gr.loop1, nextB_f h, scan_f h]
   have hst := step_gt r pos;have hl := restS_len r pos;have hl' := restS_len r (stepS r pos);have hpos := List.length_pos_iff.2 h;rw [loopF_eq, scan_t h];simp only [gr.loop1, nextB_t h, cond_true];by_cases he : runeS r pos = x
   ·rw [eqI_t he];simp [he]
   ·rw [eqI_f he];simp only [cond_false];rw [ih _ (by omega)]
    have : (x ∈ runeS r pos :: scan r (stepS r pos)) ↔ x ∈ scan r (stepS r pos) := by
     rw [List.mem_cons];exact ⟨fun q => q.resolve_left fun e => he e.symm, .inr⟩
    simp only [this]
theorem part_d (k x : Int) : gr k x = some (decide (x ∈ runesL (hasL k))) := by
 unfold gr;rw [has_d];simp only [Lh];rw [part_loop x (ofB (hasL k)) (ofB (hasL k)).size 0 (by rw [restS_len]; exact Nat.le_refl _)];have : scan (ofB (hasL k)) 0 = runesL (hasL k) := by unfold scan; rw [restS_0, ofB_b]
 rw [this];by_cases h : x ∈ runesL (hasL k) <;> simp [h]
theorem r1 : runesL (hasL 1) = [114] := by decide +kernel
theorem r2 : runesL (hasL 2) = [112] := by decide +kernel
theorem r3 : runesL (hasL 3) = [112, 116, 115] := by decide +kernel
theorem r4 : runesL (hasL 4) = [112, 116] := by decide +kernel
theorem r5 : runesL (hasL 5) = [112, 111, 116, 108] := by decide +kernel
theorem r6 : runesL (hasL 6) = [112, 111, 116] := by decide +kernel
theorem r7 : runesL (hasL 7) = [112, 116, 98] := by decide +kernel
theorem r8 : runesL (hasL 8) = [112, 111, 116, 98] := by decide +kernel
theorem sources_eq (c : Ta) (hl : c.fa.length ≤ 1000000) : ga c = gc c := by
 unfold ga gc
 have inner : ∀ i : Int, 0 ≤ i → i < lenL c.fa → loopF (ga.loop2 c i) 0 = loopF (gc.loop2 c i) 0 := by
  intro i h0 h1;refine loop_congr (fun j : Int => 0 ≤ j) (fun j hj => ?_) 0 (by omega);unfold ga.loop2 gc.loop2
  have hlen : lenL (cutL c.fa 0 i) = i := by
   unfold lenL cutL at *
   simp only [Int.toNat_zero, List.drop_zero, Nat.sub_zero, List.length_take];omega
  rw [hlen];by_cases h : j < i
  ·rw [ltI_t h, Lf (show InB _ _ from ⟨hj, h⟩), Lf (show InB _ _ from ⟨h0, h1⟩), Lf (show InB _ _ from ⟨hj, by omega⟩)]
   have hn : nthI (cutL c.fa 0 i) j = nthI c.fa j := by
    unfold nthI cutL;simp only [Int.toNat_zero, List.drop_zero, Nat.sub_zero];rw [List.getD_eq_getElem?_getD, List.getD_eq_getElem?_getD, List.getElem?_take_of_lt (by omega)]
   rw [hn];refine ⟨rfl, fun s' e => ?_⟩;simp only [cond_true] at e;cases he : eqI (nthI c.fa i) (nthI c.fa j) with
   | true => rw [he] at e; cases e
   | false =>
     rw [he] at e;simp only [cond_false, Option.some.injEq, Fl.go.injEq] at e;rw [← e, addI_n (by omega) (by unfold lenL at h1; omega)];omega
  ·rw [ltI_f h];exact ⟨rfl, fun s' e => by cases e⟩
 have outer : loopF (ga.loop1 c) 0 = loopF (gc.loop1 c) 0 := by
  refine loop_congr (fun i : Int => 0 ≤ i) (fun i hi => ?_) 0 (by omega);unfold ga.loop1 gc.loop1;by_cases h : i < lenL c.fa
  ·rw [ltI_t h, Lf (show InB _ _ from ⟨hi, h⟩), Lf (show CutB _ _ _ from ⟨by omega, hi, by omega⟩), inner i hi h];refine ⟨rfl, fun s' e => ?_⟩;simp only [cond_true] at e;cases hl : loopF (gc.loop2 c i) 0 with
   | none => rw [hl] at e; cases e
   | some f =>
     rw [hl] at e;cases f with
     | go v =>
       simp only [Lh, flC_go, Option.some.injEq, Fl.go.injEq] at e;rw [← e, addI_n (by omega) (by unfold lenL at h; omega)];omega
     | out x =>
       simp only [Lh, flC_out, Option.some.injEq] at e;subst e;exfalso
       have : ∀ t, loopF (gc.loop2 c i) 0 = some t → (∃ v, t = .go v) ∨ ∃ n, t = .out (.out (.out n)) := by
        obtain ⟨t, h1, h2⟩ := loop_ends (body := gc.loop2 c i) (fun j : Int => 0 ≤ j ∧ j ≤ i) (fun t => (∃ v, t = .go v) ∨ ∃ n, t = .out (.out (.out n))) (fun j => (i - j).toNat) (fun j hj => by
         unfold gc.loop2;by_cases q : j < i
         ·rw [ltI_t q, Lf (show InB _ _ from ⟨hi, h⟩), Lf (show InB _ _ from ⟨hj.1, by omega⟩)];simp only [cond_true];cases eqI (nthI c.fa i) (nthI c.fa j) with
          | true => exact .inr ⟨_, rfl⟩
          | false =>
            simp only [cond_false];rw [addI_n (by omega) (by unfold lenL at h; omega)];exact ⟨⟨by omega, by omega⟩, by show (i - (j + 1)).toNat < (i - j).toNat; omega⟩
         ·rw [ltI_f q];exact .inl ⟨_, rfl⟩) 0 ⟨by omega, by omega⟩
        intro t' ht';rw [h1] at ht';cases ht';exact h2
       rcases this _ hl with ⟨v, q⟩ | ⟨n, q⟩ <;> cases q
  ·rw [ltI_f h];exact ⟨rfl, fun s' e => by cases e⟩
 rw [outer]
theorem sources_some (c : Ta) (hl : c.fa.length ≤ 1000000) : ∃ v, gc c = some v := by
 unfold gc
 have inner : ∀ i : Int, 0 ≤ i → i < lenL c.fa → ∃ t, loopF (gc.loop2 c i) 0 = some t ∧ ((∃ v, t = .go v) ∨ ∃ n, t = .out (.out (.out n))) := by
  intro i hi h
  exact loop_ends (body := gc.loop2 c i) (fun j : Int => 0 ≤ j ∧ j ≤ i) (fun t => (∃ v, t = .go v) ∨ ∃ n, t = .out (.out (.out n))) (fun j => (i - j).toNat) (fun j hj => by
   unfold gc.loop2;by_cases q : j < i
   ·rw [ltI_t q, Lf (show InB _ _ from ⟨hi, h⟩), Lf (show InB _ _ from ⟨hj.1, by omega⟩)];simp only [cond_true];cases eqI (nthI c.fa i) (nthI c.fa j) with
    | true => exact .inr ⟨_, rfl⟩
    | false =>
      simp only [cond_false];rw [addI_n (by omega) (by unfold lenL at h; omega)];exact ⟨⟨by omega, by omega⟩, by show (i - (j + 1)).toNat < (i - j).toNat; omega⟩
   ·rw [ltI_f q];exact .inl ⟨_, rfl⟩) 0 ⟨by omega, by omega⟩
 have outer : ∃ t, loopF (gc.loop1 c) 0 = some t ∧ True := by
  refine loop_ends (fun i : Int => 0 ≤ i ∧ i ≤ lenL c.fa) (fun _ => True) (fun i => (lenL c.fa - i).toNat) (fun i hi => ?_) 0 ⟨by omega, by unfold lenL; omega⟩;unfold gc.loop1;by_cases h : i < lenL c.fa
  ·obtain ⟨t, h1, h2⟩ := inner i hi.1 h;rw [ltI_t h, h1];simp only [cond_true, Lh];rcases h2 with ⟨v, rfl⟩ | ⟨n, rfl⟩
   ·simp only [flC_go];rw [addI_n (by omega) (by unfold lenL at h; omega)];exact ⟨⟨by omega, by omega⟩, by show (lenL c.fa - (i + 1)).toNat < (lenL c.fa - i).toNat; omega⟩
   ·exact trivial
  ·rw [ltI_f h];exact trivial
 obtain ⟨t, h1, _⟩ := outer;rw [h1];cases pickB (pickB (ltI (lenL c.fa) 1) true (ltI 3 (lenL c.fa))) true (pickB (ltI 1 (lenL c.fa)) (notB c.fe) false) with
 | true => exact ⟨_, rfl⟩
 | false =>
   cases t with
   | go v => exact ⟨_, rfl⟩
   | out x => exact ⟨_, rfl⟩
theorem neS_cat (a b : ByteArray) : neS (catS a b) ⟨#[]⟩ = (neS a ⟨#[]⟩ || neS b ⟨#[]⟩) := by
 simp only [neS_b, eqS_b, catS_b, nil_ofB, ofB_b];cases bytesOf a <;> cases bytesOf b <;> simp
theorem label_eq {s : ByteArray} (hs : s.size ≤ 1000) : gw s = some (if goodB (scan s 0) = true then 0 else 6) ∧ gF s = some (goodB (scan s 0)) :=
 ⟨check_d (by omega), good_d hs⟩
theorem le4 (x : Int) : leqI 4 x = ltI 3 x := by rw [leI_d, ltI_d]; exact decide_eq_decide.2 (by omega)
theorem le_3 (x : Int) : leqI 3 x = ltI 2 x := by rw [leI_d, ltI_d]; exact decide_eq_decide.2 (by omega)
theorem check_eq (c : Ta) (hr : c.fd.size ≤ 1000) (hn : c.ff.size ≤ 1000) (hl : c.fa.length ≤ 1000000) : gq c = gP c := by
 obtain ⟨k, room, name, p, o, t, l, on, v, ss⟩ := c;simp only at hr hn hl;obtain ⟨a1, a2⟩ := label_eq hr;obtain ⟨b1, b2⟩ := label_eq hn;have hs := sources_eq (Ta.mk k room name p o t l on v ss) hl;unfold gq gP gn;simp only [has_d, part_d, Lh, a1, a2, b1, b2, getD_so, hs, le4, le_3, neS_cat];by_cases hk : k < 1 ∨ 8 < k
 ·have hl : hasL k = [] := by
   unfold hasL;rw [if_neg (by omega), if_neg (by omega), if_neg (by omega), if_neg (by omega), if_neg (by omega), if_neg (by omega), if_neg (by omega), if_neg (by omega)]
  have e1 : pickB (ltI k 1) true (ltI 8 k) = true := by
   rw [pickB_or, ltI_d, ltI_d];rcases hk with h | h <;> simp [h]
  rw [hl, e1];simp only [eqS_ofB, List.isEmpty_nil, cond_true]
 ·have : k = 1 ∨ k = 2 ∨ k = 3 ∨ k = 4 ∨ k = 5 ∨ k = 6 ∨ k = 7 ∨ k = 8 := by omega
  have hg : ∀ g : Bool, neI (if g = true then 0 else 6) 0 = notB g := fun g => by cases g <;> rfl
  simp only [hg];generalize goodB (scan room 0) = g1;generalize goodB (scan name 0) = g2;generalize gc _ = S;generalize neS room ⟨#[]⟩ = q1;generalize neS name ⟨#[]⟩ = q2;have hc : ∀ x : ByteArray, CatB room name := fun _ => by unfold CatB; omega
  have hcat : CatB room name := hc room
  rcases this with h | h | h | h | h | h | h | h <;> subst h <;> simp only [r1, r2, r3, r4, r5, r6, r7, r8] <;>
   simp [gR, gX, gU, gab, gQ, need, Under, hcat, eqI_d, neI_d, ltI_d, leI_d, notB_d, hasL, eqS_ofB, pickB]
  all_goals
   generalize decide (p = 0) = A1;generalize decide (o = 0) = A2;generalize decide (t = 0) = A3;generalize decide (l = 0) = A4;generalize decide (0 < lenL ss) = A5;cases A1 <;> cases A2 <;> cases A3 <;> cases A4 <;> cases A5 <;> cases on <;> cases v <;> cases q1 <;> cases q2 <;> rfl
def noS : ByteArray := ⟨#[]⟩
inductive Valid : Ta → Prop
 | join (r n : ByteArray) (hr : goodB (scan r 0) = true) (hn : goodB (scan n 0) = true) : Valid (.mk 1 r n 0 0 0 0 false false [])
 | leave (p : Int) (hp : 0 ≤ p ∧ p ≤ 65535) : Valid (.mk 2 noS noS p 0 0 0 false false [])
 | publish (p t : Int) (v : Bool) (ss : List Int) (hp : 0 ≤ p ∧ p ≤ 65535) (ht : 0 ≤ t ∧ t ≤ 3) (hs : 1 ≤ ss.length ∧ ss.length ≤ 3) : Valid (.mk 3 noS noS p 0 t 0 false v ss)
 | unpublish (p t : Int) (hp : 0 ≤ p ∧ p ≤ 65535) (ht : 0 ≤ t ∧ t ≤ 3) : Valid (.mk 4 noS noS p 0 t 0 false false [])
 | subscribe (p o t l : Int) (hp : 0 ≤ p ∧ p ≤ 65535) (ho : 0 ≤ o ∧ o ≤ 65535) (ht : 0 ≤ t ∧ t ≤ 3) (hl : 0 ≤ l ∧ l ≤ 2) : Valid (.mk 5 noS noS p o t l false false [])
 | unsubscribe (p o t : Int) (hp : 0 ≤ p ∧ p ≤ 65535) (ho : 0 ≤ o ∧ o ≤ 65535) (ht : 0 ≤ t ∧ t ≤ 3) : Valid (.mk 6 noS noS p o t 0 false false [])
 | mute (p t : Int) (b : Bool) (hp : 0 ≤ p ∧ p ≤ 65535) (ht : 0 ≤ t ∧ t ≤ 3) : Valid (.mk 7 noS noS p 0 t 0 b false [])
 | pause (p o t : Int) (b : Bool) (hp : 0 ≤ p ∧ p ≤ 65535) (ho : 0 ≤ o ∧ o ≤ 65535) (ht : 0 ≤ t ∧ t ≤ 3) : Valid (.mk 8 noS noS p o t 0 b false [])
theorem neS_nil (s : ByteArray) : neS s ⟨#[]⟩ = decide (s ≠ noS) := by
 rw [neS_b];by_cases h : s = noS
 ·subst h;rw [show eqS noS ⟨#[]⟩ = true from (eqS_iff _ _).2 rfl];simp
 ·have : eqS s ⟨#[]⟩ = false := by
   cases e : eqS s ⟨#[]⟩ with
   | false => rfl
   | true => exact absurd ((eqS_iff _ _).1 e) h
  rw [this];simp [h]
theorem sources_len {c : Ta} (h : gc c = some 0) : 1 ≤ c.fa.length ∧ c.fa.length ≤ 3 := by
 unfold gc at h
 have e : pickB (pickB (ltI (lenL c.fa) 1) true (ltI 3 (lenL c.fa))) true (pickB (ltI 1 (lenL c.fa)) (notB c.fe) false) = false := by
  cases q : pickB (pickB (ltI (lenL c.fa) 1) true (ltI 3 (lenL c.fa))) true (pickB (ltI 1 (lenL c.fa)) (notB c.fe) false) with
  | false => rfl
  | true => rw [q] at h; cases h
 rw [pickB_or, pickB_or, ltI_d, ltI_d] at e;simp only [Bool.or_eq_false_iff, decide_eq_false_iff_not] at e;have := e.1;unfold lenL at this;omega
theorem nilL {ss : List Int} (h : lenL ss ≤ 0) : ss = [] := List.eq_nil_of_length_eq_zero (by unfold lenL at h; omega)
theorem check_some (c : Ta) (hr : c.fd.size ≤ 1000) (hn : c.ff.size ≤ 1000) (hl : c.fa.length ≤ 1000000) : ∃ v, gP c = some v ∧ (v = 0 → Valid c) := by
 obtain ⟨k, room, name, p, o, t, l, on, v, ss⟩ := c;simp only at hr hn hl;obtain ⟨S, hS⟩ := sources_some (Ta.mk k room name p o t l on v ss) hl;have hlen := sources_len (c := Ta.mk k room name p o t l on v ss);rw [hS] at hlen;unfold gP;simp only [hS, Lh, (label_eq hr).2, (label_eq hn).2, getD_so, neS_nil];by_cases hk : k < 1 ∨ 8 < k
 ·have e1 : pickB (ltI k 1) true (ltI 8 k) = true := by
   rw [pickB_or, ltI_d, ltI_d];rcases hk with h | h <;> simp [h]
  rw [e1];exact ⟨3, rfl, by omega⟩
 ·have : k = 1 ∨ k = 2 ∨ k = 3 ∨ k = 4 ∨ k = 5 ∨ k = 6 ∨ k = 7 ∨ k = 8 := by omega
  generalize hg1 : goodB (scan room 0) = g1 at *
  generalize hg2 : goodB (scan name 0) = g2 at *
  have fin : ∀ (b1 b2 b3 b4 b5 : Bool), ((b1 = false ∧ b2 = false ∧ b3 = false ∧ b4 = false ∧ (b5 = true → S = 0)) → Valid (Ta.mk k room name p o t l on v ss)) →
    ∃ w, (bif b1 then some 2 else bif b2 then some 2 else bif b3 then some 5 else bif b4 then some 6 else bif b5 then some S else some 0) = some w ∧ (w = 0 → Valid (Ta.mk k room name p o t l on v ss)) := by
   intro b1 b2 b3 b4 b5 hz;cases b1
   case true => exact ⟨_, rfl, by omega⟩
   cases b2
   case true => exact ⟨_, rfl, by omega⟩
   cases b3
   case true => exact ⟨_, rfl, by omega⟩
   cases b4
   case true => exact ⟨_, rfl, by omega⟩
   cases b5
   case true => exact ⟨_, rfl, fun h => hz ⟨rfl, rfl, rfl, rfl, fun _ => h⟩⟩
   case false => exact ⟨_, rfl, fun _ => hz ⟨rfl, rfl, rfl, rfl, fun h => by cases h⟩⟩
  have e0 : pickB (ltI k 1) true (ltI 8 k) = false := by
   rw [pickB_or, ltI_f (by omega), ltI_f (by omega)]; rfl
  rw [e0];simp only [cond_false, gX, gU, gab, gQ, Lh, getD_so, need_s, need_ss];refine fin _ _ _ _ _ ?_;rintro ⟨h1, h2, h3, h4, h5⟩
  rcases this with h | h | h | h | h | h | h | h <;> subst h <;>
   simp [eqI_d, neI_d, leI_d, ltI_d, pickB_and, pickB_or, notB_d] at h1 h2 h3 h4 h5 hlen
  all_goals obtain ⟨⟨⟨⟨⟨⟨p0, p1⟩, o0, o1⟩, t0⟩, t1⟩, l0⟩, l1⟩ := h3
  ·obtain ⟨⟨rfl, rfl⟩, rfl⟩ := h1;obtain ⟨⟨rfl, rfl⟩, rfl, hs⟩ := h2;cases nilL hs;exact Valid.join room name (hg1.trans h4.1) (hg2.trans h4.2)
  ·obtain ⟨⟨⟨rfl, rfl⟩, rfl⟩, rfl⟩ := h1;obtain ⟨⟨rfl, rfl⟩, rfl, hs⟩ := h2;cases nilL hs;exact Valid.leave p ⟨p0, p1⟩
  ·obtain ⟨⟨rfl, rfl⟩, rfl⟩ := h1;obtain ⟨rfl, rfl⟩ := h2;exact Valid.publish p t v ss ⟨p0, p1⟩ ⟨t0, t1⟩ (hlen h5)
  ·obtain ⟨⟨rfl, rfl⟩, rfl⟩ := h1;obtain ⟨⟨rfl, rfl⟩, rfl, hs⟩ := h2;cases nilL hs;exact Valid.unpublish p t ⟨p0, p1⟩ ⟨t0, t1⟩
  ·obtain ⟨rfl, rfl⟩ := h1;obtain ⟨rfl, rfl, hs⟩ := h2;cases nilL hs;exact Valid.subscribe p o t l ⟨p0, p1⟩ ⟨o0, o1⟩ ⟨t0, t1⟩ ⟨l0, l1⟩
  ·obtain ⟨rfl, rfl⟩ := h1;obtain ⟨⟨rfl, rfl⟩, rfl, hs⟩ := h2;cases nilL hs;exact Valid.unsubscribe p o t ⟨p0, p1⟩ ⟨o0, o1⟩ ⟨t0, t1⟩
  ·obtain ⟨⟨rfl, rfl⟩, rfl⟩ := h1;obtain ⟨rfl, rfl, hs⟩ := h2;cases nilL hs;exact Valid.mute p t on ⟨p0, p1⟩ ⟨t0, t1⟩
  ·obtain ⟨rfl, rfl⟩ := h1;obtain ⟨rfl, rfl, hs⟩ := h2;cases nilL hs;exact Valid.pause p o t on ⟨p0, p1⟩ ⟨o0, o1⟩ ⟨t0, t1⟩
end Go.Proofs
end

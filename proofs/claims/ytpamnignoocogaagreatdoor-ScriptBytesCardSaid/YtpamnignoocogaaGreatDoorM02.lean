/- What these functions compute, as plain functions. No condition. -/
import Derived.Test.YtpamnignoocogaaGreatDoorM11
import Derived.Test.YtpamnignoocogaaGreatDoorM10
import Derived.Test.YtpamnignoocogaaGreatDoorTy
import Derived.Test.YtpamnignoocogaaGreatDoorSw
import Derived.Test.YtpamnignoocogaaGreatDoorM05
import Derived.Test.YtpamnignoocogaaGreatDoorSa
section
namespace Go.Proofs
open Go.Ab
noncomputable def gLaw27ScriptBytes (x0 : ByteArray) (x1 : ByteArray) : Option Bool :=
  ((gLaw01Cut x0 100)).bind fun r1 =>
  ((gLaw01Cut x1 40)).bind fun r2 =>
  ((gScriptDigits r1)).bind fun r3 =>
  ((gScriptBytes r3)).bind fun r4 =>
  ((gScriptBytes r2)).bind fun r5 =>
  ((gRef27Bytes r2)).bind fun r6 =>
  (gLaw27Awake).bind fun r7 =>
  need (Under (notB r5.2) false (Under (pickB (pickB (pickB (pickB (pickB r7 (eqS r4.1 r1) false) r4.2 false) (eqI (lenS r3) (mulI .i64 2 (lenS r1))) false) (eqS r5.1 r6.1) false) (eqB r5.2 r6.2) false) true ((gScriptDigits r5.1).isSome = true))) <|
  some (pickB (pickB (pickB (pickB (pickB (pickB r7 (eqS r4.1 r1) false) r4.2 false) (eqI (lenS r3) (mulI .i64 2 (lenS r1))) false) (eqS r5.1 r6.1) false) (eqB r5.2 r6.2) false) (pickB (notB r5.2) true (eqS ((gScriptDigits r5.1).getD dflt) r2)) false)
end Go.Proofs
end
section
namespace Go.Proofs
open Go.Ab
@[simp] def gLaw27Awake.out  (r : Bool) : Out := { av := .lit (.bool r), M := none }
def gLaw27Awake.fin  (r : Bool) (σ : St) : Prop := finK (gLaw27Awake.out  r) [] σ.M (resA Tryz.ty σ.A σ.M Tryz.f9.results.toList)
set_option maxHeartbeats 4000000 in
set_option maxRecDepth 100000 in
theorem gLaw27Awake.can  (r : Bool) (hr : gLaw27Awake = some r) : CallOk Tryz.prog 9 [] [] (gLaw27Awake.out  r) := by
  unfold gLaw27Awake at hr
  obtain ⟨r1, h1, hr⟩ := bind_some' (show (gAwakeP ).bind (fun r1 => some r1) = some r from hr)
  obtain rfl := some_inj hr
  exact gAwakeP.can  _ h1

@[simp] noncomputable def gLaw27Awake.S : Sp
  | [], _ => some { av := .lit (.bool (gLaw27Awake.getD dflt)), M := none, obl := gLaw27Awake.isSome = true }
  | _, _ => none

set_option maxHeartbeats 1000000 in
theorem gLaw27Awake.ok : SpecOk Tryz.prog 9 gLaw27Awake.S := by
  intro l M out h
  unfold gLaw27Awake.S at h
  split at h
  · cases h
    refine callOk_of fun ho => ?_
    have hs := ho
    obtain ⟨r, hr⟩ := so1 hs
    simp only [hr, gd1]
    have q := call_frame (M := M) [] (gLaw27Awake.can r hr) (by simp) rfl ixn
    exact callOk_conv q trivial (by simp) (by simp [frameOut]) (by simp [frameOut])
  · cases h
end Go.Proofs
end
section
namespace Go.Proofs
open Go.Ab
@[simp] def gRef27Hex.out (_x0 : Int) (r : Int) : Out := { av := .lit (.int .i64 r), M := none }
def gRef27Hex.fin (x0 : Int) (r : Int) (σ : St) : Prop := finK (gRef27Hex.out x0 r) [] σ.M (resA Tryz.ty σ.A σ.M Tryz.f31.results.toList)
set_option maxHeartbeats 4000000 in
set_option maxRecDepth 100000 in
theorem gRef27Hex.can (x0 : Int) (r : Int) (hr : gRef27Hex x0 = some r) : CallOk Tryz.prog 31 [.lit (.int .u8 x0)] [] (gRef27Hex.out x0 r) := by
  unfold gRef27Hex at hr
  have hΓ := gamL_nil (P := Tryz.prog)
  refine cw Tryz.func31 rfl (by kernel_rfl) rfl rfl (by simp) fun _ _ _ => ?_
  refine tq hΓ [] [] ?_
  refine AWp.seq ?_
  refine tq hΓ [8] [] ?_
  refine AWp.cnd hr (by simp) (fun h3 hr => ?_) (fun h3 hr => ?_)
  · refine tq hΓ [2] [8, 0] ?_ (by simp [h3]; exact rr)
    obtain rfl := some_inj hr
    exact AWp.ret (fin_ret (by simp))
  · refine AWp.skip ?_
    refine AWp.seq ?_
    refine tq hΓ [17] [8] ?_ (by simp [h3]; exact rr)
    refine AWp.cnd hr (by simp) (fun h4 hr => ?_) (fun h4 hr => ?_)
    · refine tq hΓ [2] [17, 0] ?_ (by simp [h4]; exact rr)
      obtain rfl := some_inj hr
      exact AWp.ret (fin_ret (by simp))
    · refine AWp.skip ?_
      refine tq hΓ [2] [17, 0] ?_ (by simp [h4]; exact rr)
      obtain rfl := some_inj hr
      exact AWp.ret (fin_ret (by simp))

@[simp] noncomputable def gRef27Hex.S : Sp
  | [.lit (.int .u8 x0)], _ => some { av := .lit (.int .i64 ((gRef27Hex x0).getD dflt)), M := none, obl := (gRef27Hex x0).isSome = true }
  | _, _ => none

set_option maxHeartbeats 1000000 in
theorem gRef27Hex.ok : SpecOk Tryz.prog 31 gRef27Hex.S := by
  intro l M out h
  unfold gRef27Hex.S at h
  split at h
  · rename_i x0
    cases h
    refine callOk_of fun ho => ?_
    have hs := ho
    obtain ⟨r, hr⟩ := so1 hs
    simp only [hr, gd1]
    have q := call_frame (M := M) [] (gRef27Hex.can x0 r hr) (by simp) rfl ixn
    exact callOk_conv q trivial (by simp) (by simp [frameOut]) (by simp [frameOut])
  · cases h

@[simp] def gRef27Bytes.out (_x0 : ByteArray) (r : ByteArray × Bool) : Out := { av := .tup [.lit (.string r.1), .lit (.bool r.2)], M := none }
def gRef27Bytes.fin (x0 : ByteArray) (r : ByteArray × Bool) (σ : St) : Prop := finK (gRef27Bytes.out x0 r) [] σ.M (resA Tryz.ty σ.A σ.M Tryz.f14.results.toList)
set_option maxHeartbeats 4000000 in
set_option maxRecDepth 100000 in
theorem gRef27Bytes.can (x0 : ByteArray) (r : ByteArray × Bool) (hr : gRef27Bytes x0 = some r) : CallOk Tryz.prog 14 [.lit (.string x0)] [] (gRef27Bytes.out x0 r) := by
  unfold gRef27Bytes at hr
  have hΓ := (gamL_cons gRef27Hex.ok (gamL_nil) : GamOk Tryz.prog _)
  refine cw Tryz.func14 rfl (by kernel_rfl) rfl rfl (by simp) fun _ _ _ => ?_
  refine tq hΓ [] [] ?_
  refine AWp.seq ?_
  obtain ⟨h13, hr⟩ := need_some hr
  refine tq hΓ [9] [] ?_ (by simp [h13]; exact rr)
  refine AWp.cnd hr (by simp) (fun h14 hr => ?_) (fun h14 hr => ?_)
  · refine tq hΓ [2, 3] [9, 0] ?_ (by simp [h14]; exact rr)
    obtain rfl := some_inj hr
    exact AWp.ret (fin_ret (by simp))
  · refine AWp.skip ?_
    refine tq hΓ [4] [9] ?_ (by simp [h14]; exact rr)
    refine AWp.seq ?_
    refine tq hΓ [5] [] ?_ (by simp; exact rr)
    refine AWp.equip 4 1 (els := []) (by simp) (by simp) ?_
    refine AWp.loopE (fun (s1 : Int × List Int) (γ1 : Nat) => ⟨[⟨5, none, .lit (.int .i64 s1.1)⟩, ⟨4, none, .sl (s1.2.map (eNum .u8)) (.own 0 (γ1) 1)⟩, ⟨0, none, .lit (.string x0)⟩], [.room (γ1)]⟩) (fun (v1 : List Int) (γ1a : Nat) => ⟨[⟨4, none, .sl (v1.map (eNum .u8)) (.own 0 (γ1a) 1)⟩], [.room (γ1a)]⟩) (gRef27Bytes.fin x0) hr 0 1 (by simp) (fun s1 f γ1 hr => ?_) (fun v1 γ1a σ1 m1 hr hc => ?_) (fun _ h => h)
    · unfold gRef27Bytes.loop1 at hr
      refine AWp.seq ?_
      refine tq hΓ [14] [] ?_ (by simp; exact rr)
      refine AWp.cnd hr (by simp) (fun h15 hr => ?_) (fun h15 hr => ?_)
      · refine AWp.skip ?_
        refine AWp.seq ?_
        refine AWp.block ?_
        refine AWp.seq ?_
        obtain ⟨h16, hr⟩ := need_some hr
        obtain ⟨r1, h17, hr⟩ := bind_some' hr
        obtain ⟨h18, hr⟩ := need_some hr
        obtain ⟨h19, hr⟩ := need_some hr
        refine tq hΓ [29] [14] ?_ (by simp [h15, h16, h17, h18, h19]; exact rr)
        refine AWp.cnd hr (by simp) (fun h20 hr => ?_) (fun h20 hr => ?_)
        · refine tq hΓ [2, 3] [29, 5, 4, 0] ?_ (by simp [h20]; exact rr)
          refine AWp.ret ?_
          obtain rfl := some_inj hr
          refine round_ret ?_
          refine fin_ret ?_
          simp
        · refine AWp.skip ?_
          obtain ⟨h21, hr⟩ := need_some hr
          obtain ⟨h22, hr⟩ := need_some hr
          obtain ⟨r2, h23, hr⟩ := bind_some' hr
          obtain ⟨h24, hr⟩ := need_some hr
          refine AWp.lst (AWp.regD Tryz.mixed Tryz.tyOk hΓ (keep := [4]) (dead := [29]) [] [(false, []), (false, []), (false, []), (false, []), (false, []), (false, []), (false, []), (false, []), (false, []), (false, []), (false, []), (false, []), (false, []), (false, []), (true, []), (false, [])] (by kernel_rfl) rfl (by simp [h16, h17, h22, h23, h24]; exact rr)) ?_
          refine tl hΓ [5] [] ?_ (by simp; exact rr)
          obtain rfl := some_inj hr
          exact round_go (γ1 + 1) 1 (by first | (simp; done) | simp [h13, h14, h15, h16, h17, h18, h19, h20, h21, h22, h23, h24])
      · refine AWp.exit ?_
        obtain rfl := some_inj hr
        exact round_out (γ1) 1 (by first | (simp; done) | simp [h13, h14, h15])
    · refine AWp.conv hc ?_
      refine tq hΓ [2, 3] [4] ?_ (by simp; exact rr)
      obtain rfl := some_inj hr
      exact AWp.ret (fin_ret (by simp))

@[simp] noncomputable def gRef27Bytes.S : Sp
  | [.lit (.string x0)], _ => some { av := .tup [.lit (.string (((gRef27Bytes x0).getD dflt).1)), .lit (.bool (((gRef27Bytes x0).getD dflt).2))], M := none, obl := (gRef27Bytes x0).isSome = true }
  | _, _ => none

set_option maxHeartbeats 1000000 in
theorem gRef27Bytes.ok : SpecOk Tryz.prog 14 gRef27Bytes.S := by
  intro l M out h
  unfold gRef27Bytes.S at h
  split at h
  · rename_i x0
    cases h
    refine callOk_of fun ho => ?_
    have hs := ho
    obtain ⟨r, hr⟩ := so1 hs
    simp only [hr, gd1]
    have q := call_frame (M := M) [] (gRef27Bytes.can x0 r hr) (by simp) rfl ixn
    exact callOk_conv q trivial (by simp) (by simp [frameOut]) (by simp [frameOut])
  · cases h
end Go.Proofs
end
section
namespace Go.Proofs
open Go.Ab
@[simp] def gLaw27ScriptBytes.out (_x0 : ByteArray) (_x1 : ByteArray) (r : Bool) : Out := { av := .lit (.bool r), M := none }
def gLaw27ScriptBytes.fin (x0 : ByteArray) (x1 : ByteArray) (r : Bool) (σ : St) : Prop := finK (gLaw27ScriptBytes.out x0 x1 r) [] σ.M (resA Tryz.ty σ.A σ.M Tryz.f4.results.toList)
set_option maxHeartbeats 4000000 in
set_option maxRecDepth 100000 in
theorem gLaw27ScriptBytes.can (x0 : ByteArray) (x1 : ByteArray) (r : Bool) (hr : gLaw27ScriptBytes x0 x1 = some r) : CallOk Tryz.prog 4 [.lit (.string x0), .lit (.string x1)] [] (gLaw27ScriptBytes.out x0 x1 r) := by
  unfold gLaw27ScriptBytes at hr
  have hΓ := (gamL_cons gLaw01Cut.ok (gamL_cons gLaw27Awake.ok (gamL_cons gRef27Bytes.ok (gamL_cons gScriptBytes.ok (gamL_cons gScriptDigits.ok (gamL_nil))))) : GamOk Tryz.prog _)
  refine cw Tryz.func4 rfl (by kernel_rfl) rfl rfl (by simp) fun _ _ _ => ?_
  refine tq hΓ [] [] ?_
  obtain ⟨r1, h9, hr⟩ := bind_some' hr
  obtain ⟨r2, h10, hr⟩ := bind_some' hr
  refine tq hΓ [0, 1] [] ?_ (by simp [h9, h10]; exact rr)
  obtain ⟨r3, h11, hr⟩ := bind_some' hr
  obtain ⟨r4, h12, hr⟩ := bind_some' hr
  refine tq hΓ [5, 6] [] ?_ (by simp [h11, h12]; exact rr)
  obtain ⟨r5, h13, hr⟩ := bind_some' hr
  refine tq hΓ [7, 8] [] ?_ (by simp [h13]; exact rr)
  obtain ⟨r6, h14, hr⟩ := bind_some' hr
  refine tq hΓ [9, 10] [] ?_ (by simp [h14]; exact rr)
  obtain ⟨r7, h15, hr⟩ := bind_some' hr
  obtain ⟨h16, hr⟩ := need_some hr
  refine tq hΓ [4] [9, 10, 7, 8, 5, 6, 0, 1] ?_ (by simp [h11, h15, h16]; exact rr)
  obtain rfl := some_inj hr
  exact AWp.ret (fin_ret (by simp))

@[simp] noncomputable def gLaw27ScriptBytes.S : Sp
  | [.lit (.string x0), .lit (.string x1)], _ => some { av := .lit (.bool ((gLaw27ScriptBytes x0 x1).getD dflt)), M := none, obl := (gLaw27ScriptBytes x0 x1).isSome = true }
  | _, _ => none

set_option maxHeartbeats 1000000 in
theorem gLaw27ScriptBytes.ok : SpecOk Tryz.prog 4 gLaw27ScriptBytes.S := by
  intro l M out h
  unfold gLaw27ScriptBytes.S at h
  split at h
  · rename_i x0 x1
    cases h
    refine callOk_of fun ho => ?_
    have hs := ho
    obtain ⟨r, hr⟩ := so1 hs
    simp only [hr, gd1]
    have q := call_frame (M := M) [] (gLaw27ScriptBytes.can x0 x1 r hr) (by simp) rfl ixn
    exact callOk_conv q trivial (by simp) (by simp [frameOut]) (by simp [frameOut])
  · cases h
end Go.Proofs
end

/- That these functions compute what their plain functions do. No condition. -/
import Derived.Test.YtpamnignoocogaaGreatDoorM10
import Derived.Test.YtpamnignoocogaaGreatDoorTy
import Derived.Test.YtpamnignoocogaaGreatDoorM01
import Derived.Test.YtpamnignoocogaaGreatDoorWq
namespace Go.Proofs
open Go.Ab
@[simp] def gScriptDigit.out (_x0 : Int) (r : Int) : Out := { av := .lit (.int .i64 r), M := none }
def gScriptDigit.fin (x0 : Int) (r : Int) (σ : St) : Prop := finK (gScriptDigit.out x0 r) [] σ.M (resA Tryz.ty σ.A σ.M Tryz.f28.results.toList)
set_option maxHeartbeats 4000000 in
set_option maxRecDepth 100000 in
theorem gScriptDigit.can (x0 : Int) (r : Int) (hr : gScriptDigit x0 = some r) : CallOk Tryz.prog 28 [.lit (.int .u8 x0)] [] (gScriptDigit.out x0 r) := by
  unfold gScriptDigit at hr
  have hΓ := (gamL_cons gIndexByte.ok (gamL_nil) : GamOk Tryz.prog _)
  refine cw Tryz.func28 rfl (by kernel_rfl) rfl rfl (by simp) fun _ _ _ => ?_
  refine tq hΓ [] [] ?_
  refine tq hΓ [2] [0] ?_
  obtain rfl := some_inj hr
  exact AWp.ret (fin_ret (by simp))

@[simp] noncomputable def gScriptDigit.S : Sp
  | [.lit (.int .u8 x0)], _ => some { av := .lit (.int .i64 ((gScriptDigit x0).getD dflt)), M := none, obl := (gScriptDigit x0).isSome = true }
  | _, _ => none

set_option maxHeartbeats 1000000 in
theorem gScriptDigit.ok : SpecOk Tryz.prog 28 gScriptDigit.S := by
  intro l M out h
  unfold gScriptDigit.S at h
  split at h
  · rename_i x0
    cases h
    refine callOk_of fun ho => ?_
    have hs := ho
    obtain ⟨r, hr⟩ := so1 hs
    simp only [hr, gd1]
    have q := call_frame (M := M) [] (gScriptDigit.can x0 r hr) (by simp) rfl ixn
    exact callOk_conv q trivial (by simp) (by simp [frameOut]) (by simp [frameOut])
  · cases h

@[simp] def gScriptBytes.out (_x0 : ByteArray) (r : ByteArray × Bool) : Out := { av := .tup [.lit (.string r.1), .lit (.bool r.2)], M := none }
def gScriptBytes.fin (x0 : ByteArray) (r : ByteArray × Bool) (σ : St) : Prop := finK (gScriptBytes.out x0 r) [] σ.M (resA Tryz.ty σ.A σ.M Tryz.f12.results.toList)
set_option maxHeartbeats 4000000 in
set_option maxRecDepth 100000 in
theorem gScriptBytes.can (x0 : ByteArray) (r : ByteArray × Bool) (hr : gScriptBytes x0 = some r) : CallOk Tryz.prog 12 [.lit (.string x0)] [] (gScriptBytes.out x0 r) := by
  unfold gScriptBytes at hr
  have hΓ := (gamL_cons gScriptDigit.ok (gamL_nil) : GamOk Tryz.prog _)
  refine cw Tryz.func12 rfl (by kernel_rfl) rfl rfl (by simp) fun _ _ _ => ?_
  refine tq hΓ [] [] ?_
  refine AWp.seq ?_
  obtain ⟨h12, hr⟩ := need_some hr
  refine tq hΓ [11] [] ?_ (by simp [h12]; exact rr)
  refine AWp.cnd hr (by simp) (fun h13 hr => ?_) (fun h13 hr => ?_)
  · refine tq hΓ [2, 3] [11, 0] ?_ (by simp [h13]; exact rr)
    obtain rfl := some_inj hr
    exact AWp.ret (fin_ret (by simp))
  · refine AWp.skip ?_
    obtain ⟨h14, hr⟩ := need_some hr
    obtain ⟨h15, hr⟩ := need_some hr
    refine tq hΓ [4] [11] ?_ (by simp [h12, h13, h15]; exact rr)
    refine AWp.seq ?_
    refine tq hΓ [5] [] ?_ (by simp; exact rr)
    refine AWp.loopE (fun (s1 : Int × List Int) (γ1 : Nat) => ⟨[⟨5, none, .lit (.int .i64 s1.1)⟩, ⟨4, none, .sl (s1.2.map (eNum .u8)) (.own 0 (γ1) 1)⟩, ⟨0, none, .lit (.string x0)⟩], [.room (γ1)]⟩) (fun (v1 : List Int) (γ1a : Nat) => ⟨[⟨4, none, .sl (v1.map (eNum .u8)) (.own 0 (γ1a) 1)⟩], [.room (γ1a)]⟩) (gScriptBytes.fin x0) hr 1 1 (by simp) (fun s1 f γ1 hr => ?_) (fun v1 γ1a σ1 m1 hr hc => ?_) (fun _ h => h)
    · unfold gScriptBytes.loop1 at hr
      refine AWp.seq ?_
      refine tq hΓ [19] [] ?_ (by simp; exact rr)
      refine AWp.cnd hr (by simp) (fun h16 hr => ?_) (fun h16 hr => ?_)
      · refine AWp.skip ?_
        refine AWp.seq ?_
        refine AWp.block ?_
        obtain ⟨h17, hr⟩ := need_some hr
        obtain ⟨r1, h18, hr⟩ := bind_some' hr
        obtain ⟨h19, hr⟩ := need_some hr
        obtain ⟨r2, h20, hr⟩ := bind_some' hr
        refine td hΓ [6, 7] [19] [] [(false, []), (false, []), (false, []), (false, []), (false, []), (false, []), (false, []), (false, []), (false, []), (false, []), (false, [])] (by simp [h16, h17, h18, h19, h20]; exact rr) ?_
        refine AWp.seq ?_
        refine tq hΓ [36] [] ?_ (by simp; exact rr)
        refine AWp.cnd hr (by simp) (fun h21 hr => ?_) (fun h21 hr => ?_)
        · refine tq hΓ [2, 3] [36, 6, 7, 5, 4, 0] ?_ (by simp [h21]; exact rr)
          refine AWp.ret ?_
          obtain rfl := some_inj hr
          refine round_ret ?_
          refine fin_ret ?_
          simp
        · refine AWp.skip ?_
          obtain ⟨h22, hr⟩ := need_some hr
          refine tl hΓ [4] [36, 6, 7] ?_ (by simp [h21, h22]; exact rr)
          refine tl hΓ [5] [] ?_ (by simp; exact rr)
          obtain rfl := some_inj hr
          exact round_go (γ1 + 1) 1 (by first | (simp; done) | simp [h12, h13, h14, h15, h16, h17, h18, h19, h20, h21, h22])
      · refine AWp.exit ?_
        obtain rfl := some_inj hr
        exact round_out (γ1) 1 (by first | (simp; done) | simp [h12, h13, h14, h15, h16])
    · refine AWp.conv hc ?_
      refine tq hΓ [2, 3] [4] ?_ (by simp; exact rr)
      obtain rfl := some_inj hr
      exact AWp.ret (fin_ret (by simp))

@[simp] noncomputable def gScriptBytes.S : Sp
  | [.lit (.string x0)], _ => some { av := .tup [.lit (.string (((gScriptBytes x0).getD dflt).1)), .lit (.bool (((gScriptBytes x0).getD dflt).2))], M := none, obl := (gScriptBytes x0).isSome = true }
  | _, _ => none

set_option maxHeartbeats 1000000 in
theorem gScriptBytes.ok : SpecOk Tryz.prog 12 gScriptBytes.S := by
  intro l M out h
  unfold gScriptBytes.S at h
  split at h
  · rename_i x0
    cases h
    refine callOk_of fun ho => ?_
    have hs := ho
    obtain ⟨r, hr⟩ := so1 hs
    simp only [hr, gd1]
    have q := call_frame (M := M) [] (gScriptBytes.can x0 r hr) (by simp) rfl ixn
    exact callOk_conv q trivial (by simp) (by simp [frameOut]) (by simp [frameOut])
  · cases h

@[simp] def gScriptDigits.out (_x0 : ByteArray) (r : ByteArray) : Out := { av := .lit (.string r), M := none }
def gScriptDigits.fin (x0 : ByteArray) (r : ByteArray) (σ : St) : Prop := finK (gScriptDigits.out x0 r) [] σ.M (resA Tryz.ty σ.A σ.M Tryz.f13.results.toList)
set_option maxHeartbeats 4000000 in
set_option maxRecDepth 100000 in
theorem gScriptDigits.can (x0 : ByteArray) (r : ByteArray) (hr : gScriptDigits x0 = some r) : CallOk Tryz.prog 13 [.lit (.string x0)] [] (gScriptDigits.out x0 r) := by
  unfold gScriptDigits at hr
  have hΓ := (gamL_cons gBwString.ok (gamL_cons gBwByte.ok (gamL_nil)) : GamOk Tryz.prog _)
  refine cw Tryz.func13 rfl (by kernel_rfl) rfl rfl (by simp) fun _ _ _ => ?_
  refine tq hΓ [] [] ?_
  refine AWp.then ⟨[⟨3, none, .ptr 0 0⟩, ⟨0, none, .lit (.string x0)⟩], [.opq (wrO 81 5 [])]⟩ (gBuilder.alloc rfl rfl rfl rfl (by kernel_rfl) rfl (dead := []) (by simp [exS])) ?_
  refine AWp.seq ?_
  refine tq hΓ [6, 7] [] ?_
  refine AWp.loopE (fun (s1 : Int × List Int) (γ1 : Unit) => ⟨[⟨6, none, .lit (.int .i64 (lenS x0))⟩, ⟨7, none, .lit (.int .i64 s1.1)⟩, ⟨3, none, .ptr 0 0⟩, ⟨0, none, .lit (.string x0)⟩], [.opq (wrO 81 5 s1.2)]⟩) (fun (v1 : List Int) (γ1a : Unit) => ⟨[⟨3, none, .ptr 0 0⟩], [.opq (wrO 81 5 v1)]⟩) (gScriptDigits.fin x0) hr () 1 (by simp) (fun s1 f γ1 hr => ?_) (fun v1 γ1a σ1 m1 hr hc => ?_) (fun _ h => h)
  · unfold gScriptDigits.loop1 at hr
    refine tq hΓ [8] [] ?_
    refine AWp.seq ?_
    refine AWp.cnd hr (by simp) (fun h10 hr => ?_) (fun h10 hr => ?_)
    · refine AWp.skip ?_
      refine AWp.seq ?_
      refine AWp.block ?_
      refine tq hΓ [4] [8] ?_ (by simp [h10]; exact rr)
      obtain ⟨h11, hr⟩ := need_some hr
      obtain ⟨h12, hr⟩ := need_some hr
      obtain ⟨h13, hr⟩ := need_some hr
      obtain ⟨h14, hr⟩ := need_some hr
      refine tq hΓ [] [] ?_ (by simp [h11, h12, h13, h14]; exact rr)
      obtain ⟨h15, hr⟩ := need_some hr
      obtain ⟨h16, hr⟩ := need_some hr
      obtain ⟨h17, hr⟩ := need_some hr
      refine tl hΓ [] [4] ?_ (by simp [h11, h16, h17]; exact rr)
      refine tl hΓ [7] [] ?_ (by simp; exact rr)
      obtain rfl := some_inj hr
      exact round_go () 1 (by first | (simp; done) | simp [h10, h11, h12, h13, h14, h15, h16, h17])
    · refine AWp.exit ?_
      obtain rfl := some_inj hr
      exact round_out () 1 (by first | (simp; done) | simp [h10])
  · refine AWp.conv hc ?_
    obtain ⟨h18, hr⟩ := need_some hr
    refine tq hΓ [2] [3] ?_ (by simp [h18]; exact rr)
    obtain rfl := some_inj hr
    exact AWp.ret (fin_ret (by simp))

@[simp] noncomputable def gScriptDigits.S : Sp
  | [.lit (.string x0)], _ => some { av := .lit (.string ((gScriptDigits x0).getD dflt)), M := none, obl := (gScriptDigits x0).isSome = true }
  | _, _ => none

set_option maxHeartbeats 1000000 in
theorem gScriptDigits.ok : SpecOk Tryz.prog 13 gScriptDigits.S := by
  intro l M out h
  unfold gScriptDigits.S at h
  split at h
  · rename_i x0
    cases h
    refine callOk_of fun ho => ?_
    have hs := ho
    obtain ⟨r, hr⟩ := so1 hs
    simp only [hr, gd1]
    have q := call_frame (M := M) [] (gScriptDigits.can x0 r hr) (by simp) rfl ixn
    exact callOk_conv q trivial (by simp) (by simp [frameOut]) (by simp [frameOut])
  · cases h
end Go.Proofs

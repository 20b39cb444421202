/- That these functions compute what their plain functions do. No condition. -/
import Derived.Test.YtefdnbpigfojcaaDoorM03
import Derived.Test.YtefdnbpigfojcaaDoorTy
import Derived.Test.YtefdnbpigfojcaaDoorM06
namespace Go.Proofs
open Go.Ab
@[simp] def gRef06Size.out (_x0 : Int) (r : Int) : Out := { av := .lit (.int .i64 r), M := none }
def gRef06Size.fin (x0 : Int) (r : Int) (σ : St) : Prop := finK (gRef06Size.out x0 r) [] σ.M (resA Tryd.ty σ.A σ.M Tryd.f38.results.toList)
set_option maxHeartbeats 4000000 in
set_option maxRecDepth 100000 in
theorem gRef06Size.can (x0 : Int) (r : Int) (hr : gRef06Size x0 = some r) : CallOk Tryd.prog 38 [.lit (.int .i32 x0)] [] (gRef06Size.out x0 r) := by
  unfold gRef06Size at hr
  have hΓ := gamL_nil (P := Tryd.prog)
  refine call_of_awp Tryd.tyOk Tryd.func38 rfl (by kernel_rfl) rfl rfl (by simp) ?_
  intro _ _ _
  refine AWp.then ⟨[⟨0, none, .lit (.int .i32 x0)⟩], []⟩ (AWp.reg Tryd.tyOk hΓ (keep := []) (dead := []) (by kernel_rfl) rfl (by simp)) ?_
  refine AWp.seq ?_
  refine AWp.then ⟨[⟨4, none, .lit (.bool (ltI x0 128))⟩, ⟨0, none, .lit (.int .i32 x0)⟩], []⟩ (AWp.reg Tryd.tyOk hΓ (keep := [4]) (dead := []) (by kernel_rfl) rfl (by simp)) ?_
  refine AWp.cond (b := (ltI x0 128)) (by simp) (fun h4 => ?_) (fun h4 => ?_)
  · have hr := cond_t h4 hr
    refine AWp.then ⟨[⟨2, none, .lit (.int .i64 1)⟩], []⟩ (AWp.reg Tryd.tyOk hΓ (keep := [2]) (dead := [4, 0]) (by kernel_rfl) rfl (by simp [h4])) ?_
    refine AWp.ret ?_
    obtain rfl := some_inj hr
    refine fin_ret ?_
    simp
  · have hr := cond_f h4 hr
    refine AWp.skip ?_
    refine AWp.seq ?_
    refine AWp.then ⟨[⟨6, none, .lit (.bool (ltI x0 2048))⟩, ⟨0, none, .lit (.int .i32 x0)⟩], []⟩ (AWp.reg Tryd.tyOk hΓ (keep := [6]) (dead := [4]) (by kernel_rfl) rfl (by simp [h4])) ?_
    refine AWp.cond (b := (ltI x0 2048)) (by simp) (fun h5 => ?_) (fun h5 => ?_)
    · have hr := cond_t h5 hr
      refine AWp.then ⟨[⟨2, none, .lit (.int .i64 2)⟩], []⟩ (AWp.reg Tryd.tyOk hΓ (keep := [2]) (dead := [6, 0]) (by kernel_rfl) rfl (by simp [h5])) ?_
      refine AWp.ret ?_
      obtain rfl := some_inj hr
      refine fin_ret ?_
      simp
    · have hr := cond_f h5 hr
      refine AWp.skip ?_
      refine AWp.seq ?_
      refine AWp.then ⟨[⟨8, none, .lit (.bool (ltI x0 65536))⟩], []⟩ (AWp.reg Tryd.tyOk hΓ (keep := [8]) (dead := [6, 0]) (by kernel_rfl) rfl (by simp [h5])) ?_
      refine AWp.cond (b := (ltI x0 65536)) (by simp) (fun h6 => ?_) (fun h6 => ?_)
      · have hr := cond_t h6 hr
        refine AWp.then ⟨[⟨2, none, .lit (.int .i64 3)⟩], []⟩ (AWp.reg Tryd.tyOk hΓ (keep := [2]) (dead := [8]) (by kernel_rfl) rfl (by simp [h6])) ?_
        refine AWp.ret ?_
        obtain rfl := some_inj hr
        refine fin_ret ?_
        simp
      · have hr := cond_f h6 hr
        refine AWp.skip ?_
        refine AWp.then ⟨[⟨2, none, .lit (.int .i64 4)⟩], []⟩ (AWp.reg Tryd.tyOk hΓ (keep := [2]) (dead := [8]) (by kernel_rfl) rfl (by simp [h6])) ?_
        refine AWp.ret ?_
        obtain rfl := some_inj hr
        refine fin_ret ?_
        simp

@[simp] noncomputable def gRef06Size.S : Sp
  | [.lit (.int .i32 x0)], _ => some { av := .lit (.int .i64 ((gRef06Size x0).getD dflt)), M := none, obl := (gRef06Size x0).isSome = true }
  | _, _ => none

set_option maxHeartbeats 1000000 in
theorem gRef06Size.ok : SpecOk Tryd.prog 38 gRef06Size.S := by
  intro l M out h
  unfold gRef06Size.S at h
  split at h
  · rename_i x0
    cases h
    refine callOk_of fun ho => ?_
    have hs := ho
    obtain ⟨r, hr⟩ := Option.isSome_iff_exists.1 hs
    simp only [hr, Option.getD_some]
    have q := call_frame (M := M) [] (gRef06Size.can x0 r hr) (by simp) rfl (by intro k i hk; simp at hk)
    exact callOk_conv q trivial (by simp) (by simp [frameOut, gRef06Size.out]) (by simp [frameOut, gRef06Size.out])
  · cases h

@[simp] def gRef06Class.out (_x0 : Int) (r : Int) : Out := { av := .lit (.int .i64 r), M := none }
def gRef06Class.fin (x0 : Int) (r : Int) (σ : St) : Prop := finK (gRef06Class.out x0 r) [] σ.M (resA Tryd.ty σ.A σ.M Tryd.f24.results.toList)
set_option maxHeartbeats 4000000 in
set_option maxRecDepth 100000 in
theorem gRef06Class.can (x0 : Int) (r : Int) (hr : gRef06Class x0 = some r) : CallOk Tryd.prog 24 [.lit (.int .i32 x0)] [] (gRef06Class.out x0 r) := by
  unfold gRef06Class at hr
  have hΓ := (gamL_cons gIsDigit.ok (gamL_cons gIsLetter.ok (gamL_nil)) : GamOk Tryd.prog _)
  refine call_of_awp Tryd.tyOk Tryd.func24 rfl (by kernel_rfl) rfl rfl (by simp) ?_
  intro _ _ _
  refine AWp.then ⟨[⟨0, none, .lit (.int .i32 x0)⟩], []⟩ (AWp.reg Tryd.tyOk hΓ (keep := []) (dead := []) (by kernel_rfl) rfl (by simp)) ?_
  refine AWp.seq ?_
  refine AWp.then ⟨[⟨12, none, .lit (.bool (pickB (pickB (eqI x0 45) true (eqI x0 95)) true (eqI x0 46)))⟩, ⟨0, none, .lit (.int .i32 x0)⟩], []⟩ (AWp.reg Tryd.tyOk hΓ (keep := [12]) (dead := []) (by kernel_rfl) rfl (by simp)) ?_
  refine AWp.cond (b := (pickB (pickB (eqI x0 45) true (eqI x0 95)) true (eqI x0 46))) (by simp) (fun h6 => ?_) (fun h6 => ?_)
  · have hr := cond_t h6 hr
    refine AWp.then ⟨[⟨2, none, .lit (.int .i64 3)⟩], []⟩ (AWp.reg Tryd.tyOk hΓ (keep := [2]) (dead := [12, 0]) (by kernel_rfl) rfl (by simp [h6])) ?_
    refine AWp.ret ?_
    obtain rfl := some_inj hr
    refine fin_ret ?_
    simp
  · have hr := cond_f h6 hr
    refine AWp.skip ?_
    refine AWp.seq ?_
    obtain ⟨h7, hr⟩ := need_some hr
    refine AWp.then ⟨[⟨14, none, .lit (.bool (letterR x0))⟩, ⟨0, none, .lit (.int .i32 x0)⟩], []⟩ (AWp.reg Tryd.tyOk hΓ (keep := [14]) (dead := [12]) (by kernel_rfl) rfl (by simp [h6, h7])) ?_
    refine AWp.cond (b := (letterR x0)) (by simp) (fun h8 => ?_) (fun h8 => ?_)
    · have hr := cond_t h8 hr
      refine AWp.then ⟨[⟨2, none, .lit (.int .i64 1)⟩], []⟩ (AWp.reg Tryd.tyOk hΓ (keep := [2]) (dead := [14, 0]) (by kernel_rfl) rfl (by simp [h8])) ?_
      refine AWp.ret ?_
      obtain rfl := some_inj hr
      refine fin_ret ?_
      simp
    · have hr := cond_f h8 hr
      refine AWp.skip ?_
      refine AWp.seq ?_
      obtain ⟨h9, hr⟩ := need_some hr
      refine AWp.then ⟨[⟨16, none, .lit (.bool (digitR x0))⟩], []⟩ (AWp.reg Tryd.tyOk hΓ (keep := [16]) (dead := [14, 0]) (by kernel_rfl) rfl (by simp [h7, h8])) ?_
      refine AWp.cond (b := (digitR x0)) (by simp) (fun h10 => ?_) (fun h10 => ?_)
      · have hr := cond_t h10 hr
        refine AWp.then ⟨[⟨2, none, .lit (.int .i64 2)⟩], []⟩ (AWp.reg Tryd.tyOk hΓ (keep := [2]) (dead := [16]) (by kernel_rfl) rfl (by simp [h10])) ?_
        refine AWp.ret ?_
        obtain rfl := some_inj hr
        refine fin_ret ?_
        simp
      · have hr := cond_f h10 hr
        refine AWp.skip ?_
        refine AWp.then ⟨[⟨2, none, .lit (.int .i64 0)⟩], []⟩ (AWp.reg Tryd.tyOk hΓ (keep := [2]) (dead := [16]) (by kernel_rfl) rfl (by simp [h10])) ?_
        refine AWp.ret ?_
        obtain rfl := some_inj hr
        refine fin_ret ?_
        simp

@[simp] noncomputable def gRef06Class.S : Sp
  | [.lit (.int .i32 x0)], _ => some { av := .lit (.int .i64 ((gRef06Class x0).getD dflt)), M := none, obl := (gRef06Class x0).isSome = true }
  | _, _ => none

set_option maxHeartbeats 1000000 in
theorem gRef06Class.ok : SpecOk Tryd.prog 24 gRef06Class.S := by
  intro l M out h
  unfold gRef06Class.S at h
  split at h
  · rename_i x0
    cases h
    refine callOk_of fun ho => ?_
    have hs := ho
    obtain ⟨r, hr⟩ := Option.isSome_iff_exists.1 hs
    simp only [hr, Option.getD_some]
    have q := call_frame (M := M) [] (gRef06Class.can x0 r hr) (by simp) rfl (by intro k i hk; simp at hk)
    exact callOk_conv q trivial (by simp) (by simp [frameOut, gRef06Class.out]) (by simp [frameOut, gRef06Class.out])
  · cases h

@[simp] def gRef06Runes.out (_x0 : ByteArray) (r : List Int × Bool) : Out := { av := .tup [.sl (r.1.map (eNum .i32)) .no, .lit (.bool r.2)], M := none }
def gRef06Runes.fin (x0 : ByteArray) (r : List Int × Bool) (σ : St) : Prop := finK (gRef06Runes.out x0 r) [] σ.M (resA Tryd.ty σ.A σ.M Tryd.f23.results.toList)
set_option maxHeartbeats 4000000 in
set_option maxRecDepth 100000 in
theorem gRef06Runes.can (x0 : ByteArray) (r : List Int × Bool) (hr : gRef06Runes x0 = some r) : CallOk Tryd.prog 23 [.lit (.string x0)] [] (gRef06Runes.out x0 r) := by
  unfold gRef06Runes at hr
  have hΓ := (gamL_cons gRef06Size.ok (gamL_nil) : GamOk Tryd.prog _)
  refine call_of_awp Tryd.tyOk Tryd.func23 rfl (by kernel_rfl) rfl rfl (by simp) ?_
  intro _ _ _
  refine AWp.then ⟨[⟨0, none, .lit (.string x0)⟩], []⟩ (AWp.reg Tryd.tyOk hΓ (keep := []) (dead := []) (by kernel_rfl) rfl (by simp)) ?_
  refine AWp.then ⟨[⟨4, none, .sl [] .full⟩, ⟨0, none, .lit (.string x0)⟩], []⟩ (AWp.reg Tryd.tyOk hΓ (keep := [4]) (dead := []) (by kernel_rfl) rfl (by simp)) ?_
  refine AWp.then ⟨[⟨5, none, .lit (.int .i64 0)⟩, ⟨4, none, .sl [] .full⟩, ⟨0, none, .lit (.string x0)⟩], []⟩ (AWp.reg Tryd.tyOk hΓ (keep := [5]) (dead := []) (by kernel_rfl) rfl (by simp)) ?_
  refine AWp.seq ?_
  refine AWp.then ⟨[⟨11, none, .it 0⟩, ⟨5, none, .lit (.int .i64 0)⟩, ⟨4, none, .sl [] .full⟩, ⟨0, none, .lit (.string x0)⟩], [.iter x0 0]⟩ (AWp.reg Tryd.tyOk hΓ (keep := [11]) (dead := []) (by kernel_rfl) rfl (by simp)) ?_
  refine AWp.equip 4 1 (els := []) (by simp) (by simp) ?_
  refine AWp.loopE (fun (s1 : Int × List Int × Nat) (γ1 : Nat) => ⟨[⟨11, none, .it 0⟩, ⟨5, none, .lit (.int .i64 s1.1)⟩, ⟨4, none, .sl (s1.2.1.map (eNum .i32)) (.own 1 (γ1) 1)⟩, ⟨0, none, .lit (.string x0)⟩], [.iter x0 s1.2.2, .room (γ1)]⟩) (fun (v1 : List Int) (γ1a : Nat) => ⟨[⟨4, none, .sl (v1.map (eNum .i32)) (.own 1 (γ1a) 1)⟩], [.dead, .room (γ1a)]⟩) (gRef06Runes.fin x0) hr 0 2 (by simp) (fun s1 f γ1 hr => ?_) (fun v1 γ1a σ1 m1 hr hc => ?_) (fun _ h => h)
  · unfold gRef06Runes.loop1 at hr
    cases h6 : (nextB x0 s1.2.2) with
    | true =>
      have hr := cond_t h6 hr
      refine AWp.then ⟨[⟨12, none, .tup [.lit (.bool true), .lit (.int .i64 (posI s1.2.2)), .lit (.int .i32 (runeS x0 s1.2.2))]⟩, ⟨13, none, .lit (.bool true)⟩, ⟨11, none, .it 0⟩, ⟨5, none, .lit (.int .i64 s1.1)⟩, ⟨4, none, .sl (s1.2.1.map (eNum .i32)) (.own 1 (γ1) 1)⟩, ⟨0, none, .lit (.string x0)⟩], [.iter x0 (stepS x0 s1.2.2), .room (γ1)]⟩ (AWp.reg Tryd.tyOk hΓ (keep := [12, 13]) (dead := []) (by kernel_rfl) rfl (by simp [h6])) ?_
      refine AWp.seq ?_
      refine AWp.cond (b := true) (by simp) (fun hb => ?_) (fun hb => ?_)
      · refine AWp.skip ?_
        refine AWp.block ?_
        refine AWp.then ⟨[⟨7, none, .lit (.int .i32 (runeS x0 s1.2.2))⟩, ⟨11, none, .it 0⟩, ⟨5, none, .lit (.int .i64 s1.1)⟩, ⟨4, none, .sl (s1.2.1.map (eNum .i32)) (.own 1 (γ1) 1)⟩, ⟨0, none, .lit (.string x0)⟩], [.iter x0 (stepS x0 s1.2.2), .room (γ1)]⟩ (AWp.reg Tryd.tyOk hΓ (keep := [7]) (dead := [12, 13]) (by kernel_rfl) rfl (by simp)) ?_
        obtain ⟨r1, h7, hr⟩ := bind_some' hr
        refine AWp.then ⟨[⟨8, none, .lit (.int .i64 r1)⟩, ⟨7, none, .lit (.int .i32 (runeS x0 s1.2.2))⟩, ⟨11, none, .it 0⟩, ⟨5, none, .lit (.int .i64 s1.1)⟩, ⟨4, none, .sl (s1.2.1.map (eNum .i32)) (.own 1 (γ1) 1)⟩, ⟨0, none, .lit (.string x0)⟩], [.iter x0 (stepS x0 s1.2.2), .room (γ1)]⟩ (AWp.reg Tryd.tyOk hΓ (keep := [8]) (dead := []) (by kernel_rfl) rfl (by simp [h7])) ?_
        refine AWp.seq ?_
        obtain ⟨h8, hr⟩ := need_some hr
        refine AWp.then ⟨[⟨34, none, .lit (.bool (pickB (ltI (lenS x0) (addI .i64 s1.1 r1)) true (neS (runesBytes [(runeS x0 s1.2.2)]) (cutS x0 s1.1 (addI .i64 s1.1 r1)))))⟩, ⟨8, none, .lit (.int .i64 r1)⟩, ⟨7, none, .lit (.int .i32 (runeS x0 s1.2.2))⟩, ⟨11, none, .it 0⟩, ⟨5, none, .lit (.int .i64 s1.1)⟩, ⟨4, none, .sl (s1.2.1.map (eNum .i32)) (.own 1 (γ1) 1)⟩, ⟨0, none, .lit (.string x0)⟩], [.iter x0 (stepS x0 s1.2.2), .room (γ1)]⟩ (AWp.regD Tryd.mixed Tryd.tyOk hΓ (keep := [34]) (dead := []) [] [(false, []), (false, []), (false, []), (false, []), (false, []), (false, []), (false, []), (false, [23]), (false, [23]), (false, [23]), (false, [23]), (false, [23]), (false, [23]), (false, [23]), (false, [23]), (false, [23]), (false, [23]), (false, [])] (by kernel_rfl) rfl (by simp [h8])) ?_
        refine AWp.cond (b := (pickB (ltI (lenS x0) (addI .i64 s1.1 r1)) true (neS (runesBytes [(runeS x0 s1.2.2)]) (cutS x0 s1.1 (addI .i64 s1.1 r1))))) (by simp) (fun h9 => ?_) (fun h9 => ?_)
        · have hr := cond_t h9 hr
          refine AWp.then ⟨[⟨2, none, .sl [] .full⟩, ⟨3, none, .lit (.bool false)⟩], [.iter x0 (stepS x0 s1.2.2), .room (γ1)]⟩ (AWp.reg Tryd.tyOk hΓ (keep := [2, 3]) (dead := [34, 8, 7, 11, 5, 4, 0]) (by kernel_rfl) rfl (by simp [h9])) ?_
          refine AWp.ret ?_
          obtain rfl := some_inj hr
          refine round_ret ?_
          refine fin_ret ?_
          simp
        · have hr := cond_f h9 hr
          refine AWp.skip ?_
          refine AWp.then ⟨[⟨5, none, .lit (.int .i64 (addI .i64 s1.1 r1))⟩, ⟨7, none, .lit (.int .i32 (runeS x0 s1.2.2))⟩, ⟨11, none, .it 0⟩, ⟨4, none, .sl (s1.2.1.map (eNum .i32)) (.own 1 (γ1) 1)⟩, ⟨0, none, .lit (.string x0)⟩], [.iter x0 (stepS x0 s1.2.2), .room (γ1)]⟩ (AWp.reg Tryd.tyOk hΓ (keep := [5]) (dead := [34, 8]) (by kernel_rfl) rfl (by simp [h9])) ?_
          obtain ⟨h10, hr⟩ := need_some hr
          refine AWp.last ⟨[⟨4, none, .sl ((appL s1.2.1 [(runeS x0 s1.2.2)]).map (eNum .i32)) (.own 1 (γ1 + 1) 1)⟩, ⟨5, none, .lit (.int .i64 (addI .i64 s1.1 r1))⟩, ⟨11, none, .it 0⟩, ⟨0, none, .lit (.string x0)⟩], [.iter x0 (stepS x0 s1.2.2), .room (γ1 + 1)]⟩ (AWp.reg Tryd.tyOk hΓ (keep := [4]) (dead := [7]) (by kernel_rfl) rfl (by simp [h10])) ?_
          obtain rfl := some_inj hr
          exact round_go (γ1 + 1) 2 (by first | (simp; done) | simp [h6, h7, h8, h9, h10])
      · cases hb
    | false =>
      have hr := cond_f h6 hr
      refine AWp.then ⟨[⟨12, none, .tup [.lit (.bool false)]⟩, ⟨13, none, .lit (.bool false)⟩, ⟨11, none, .it 0⟩, ⟨5, none, .lit (.int .i64 s1.1)⟩, ⟨4, none, .sl (s1.2.1.map (eNum .i32)) (.own 1 (γ1) 1)⟩, ⟨0, none, .lit (.string x0)⟩], [.iter x0 s1.2.2, .room (γ1)]⟩ (AWp.reg Tryd.tyOk hΓ (keep := [12, 13]) (dead := []) (by kernel_rfl) rfl (by simp [h6])) ?_
      refine AWp.seq ?_
      refine AWp.cond (b := false) (by simp) (fun hb => ?_) (fun hb => ?_)
      · cases hb
      · refine AWp.exit ?_
        obtain rfl := some_inj hr
        exact round_out (γ1) 2 (by first | (simp; done) | simp [h6])
  · refine AWp.conv hc ?_
    refine AWp.then ⟨[⟨2, none, .sl (v1.map (eNum .i32)) (.own 1 (γ1a) 1)⟩, ⟨3, none, .lit (.bool true)⟩], [.dead, .room (γ1a)]⟩ (AWp.reg Tryd.tyOk hΓ (keep := [2, 3]) (dead := [4]) (by kernel_rfl) rfl (by simp)) ?_
    refine AWp.ret ?_
    obtain rfl := some_inj hr
    refine fin_ret ?_
    simp

@[simp] noncomputable def gRef06Runes.S : Sp
  | [.lit (.string x0)], _ => some { av := .tup [.sl ((((gRef06Runes x0).getD dflt).1).map (eNum .i32)) .no, .lit (.bool (((gRef06Runes x0).getD dflt).2))], M := none, obl := (gRef06Runes x0).isSome = true }
  | _, _ => none

set_option maxHeartbeats 1000000 in
theorem gRef06Runes.ok : SpecOk Tryd.prog 23 gRef06Runes.S := by
  intro l M out h
  unfold gRef06Runes.S at h
  split at h
  · rename_i x0
    cases h
    refine callOk_of fun ho => ?_
    have hs := ho
    obtain ⟨r, hr⟩ := Option.isSome_iff_exists.1 hs
    simp only [hr, Option.getD_some]
    have q := call_frame (M := M) [] (gRef06Runes.can x0 r hr) (by simp) rfl (by intro k i hk; simp at hk)
    exact callOk_conv q trivial (by simp) (by simp [frameOut, gRef06Runes.out]) (by simp [frameOut, gRef06Runes.out])
  · cases h

@[simp] def gRef06Good.out (_x0 : ByteArray) (r : Bool) : Out := { av := .lit (.bool r), M := none }
def gRef06Good.fin (x0 : ByteArray) (r : Bool) (σ : St) : Prop := finK (gRef06Good.out x0 r) [] σ.M (resA Tryd.ty σ.A σ.M Tryd.f9.results.toList)
set_option maxHeartbeats 4000000 in
set_option maxRecDepth 100000 in
theorem gRef06Good.can (x0 : ByteArray) (r : Bool) (hr : gRef06Good x0 = some r) : CallOk Tryd.prog 9 [.lit (.string x0)] [] (gRef06Good.out x0 r) := by
  unfold gRef06Good at hr
  have hΓ := (gamL_cons gRef06Class.ok (gamL_cons gRef06Runes.ok (gamL_nil)) : GamOk Tryd.prog _)
  refine call_of_awp Tryd.tyOk Tryd.func9 rfl (by kernel_rfl) rfl rfl (by simp) ?_
  intro _ _ _
  refine AWp.then ⟨[⟨0, none, .lit (.string x0)⟩], []⟩ (AWp.reg Tryd.tyOk hΓ (keep := []) (dead := []) (by kernel_rfl) rfl (by simp)) ?_
  obtain ⟨r1, h9, hr⟩ := bind_some' hr
  refine AWp.then ⟨[⟨3, none, .sl (r1.1.map (eNum .i32)) .no⟩, ⟨4, none, .lit (.bool r1.2)⟩], []⟩ (AWp.reg Tryd.tyOk hΓ (keep := [3, 4]) (dead := [0]) (by kernel_rfl) rfl (by simp [h9])) ?_
  refine AWp.seq ?_
  refine AWp.then ⟨[⟨24, none, .lit (.bool (pickB (pickB (notB r1.2) true (ltI (lenL r1.1) 1)) true (ltI 16 (lenL r1.1))))⟩, ⟨3, none, .sl (r1.1.map (eNum .i32)) .no⟩], []⟩ (AWp.reg Tryd.tyOk hΓ (keep := [24]) (dead := [4]) (by kernel_rfl) rfl (by simp)) ?_
  refine AWp.cond (b := (pickB (pickB (notB r1.2) true (ltI (lenL r1.1) 1)) true (ltI 16 (lenL r1.1)))) (by simp) (fun h10 => ?_) (fun h10 => ?_)
  · have hr := cond_t h10 hr
    refine AWp.then ⟨[⟨2, none, .lit (.bool false)⟩], []⟩ (AWp.reg Tryd.tyOk hΓ (keep := [2]) (dead := [24, 3]) (by kernel_rfl) rfl (by simp [h10])) ?_
    refine AWp.ret ?_
    obtain rfl := some_inj hr
    refine fin_ret ?_
    simp
  · have hr := cond_f h10 hr
    refine AWp.skip ?_
    refine AWp.seq ?_
    refine AWp.then ⟨[⟨25, none, .sl (r1.1.map (eNum .i32)) .no⟩, ⟨26, none, .lit (.int .i64 (lenL r1.1))⟩, ⟨27, none, .lit (.int .i64 0)⟩, ⟨3, none, .sl (r1.1.map (eNum .i32)) .no⟩], []⟩ (AWp.reg Tryd.tyOk hΓ (keep := [25, 26, 27]) (dead := [24]) (by kernel_rfl) rfl (by simp [h10])) ?_
    refine AWp.loopE (fun (s1 : Int) (γ1 : Unit) => ⟨[⟨25, none, .sl (r1.1.map (eNum .i32)) .no⟩, ⟨26, none, .lit (.int .i64 (lenL r1.1))⟩, ⟨27, none, .lit (.int .i64 s1)⟩, ⟨3, none, .sl (r1.1.map (eNum .i32)) .no⟩], []⟩) (fun (v1 : Unit) (γ1a : Unit) => ⟨[], []⟩) (gRef06Good.fin x0) hr () 0 (by simp) (fun s1 f γ1 hr => ?_) (fun v1 γ1a σ1 m1 hr hc => ?_) (fun _ h => h)
    · unfold gRef06Good.loop1 at hr
      refine AWp.then ⟨[⟨28, none, .lit (.bool (ltI s1 (lenL r1.1)))⟩, ⟨25, none, .sl (r1.1.map (eNum .i32)) .no⟩, ⟨26, none, .lit (.int .i64 (lenL r1.1))⟩, ⟨27, none, .lit (.int .i64 s1)⟩, ⟨3, none, .sl (r1.1.map (eNum .i32)) .no⟩], []⟩ (AWp.reg Tryd.tyOk hΓ (keep := [28]) (dead := []) (by kernel_rfl) rfl (by simp)) ?_
      refine AWp.seq ?_
      refine AWp.cond (b := (ltI s1 (lenL r1.1))) (by simp) (fun h11 => ?_) (fun h11 => ?_)
      · have hr := cond_t h11 hr
        refine AWp.skip ?_
        refine AWp.seq ?_
        refine AWp.block ?_
        obtain ⟨h12, hr⟩ := need_some hr
        refine AWp.then ⟨[⟨5, none, .lit (.int .i64 s1)⟩, ⟨6, none, .lit (.int .i32 (nthI r1.1 s1))⟩, ⟨25, none, .sl (r1.1.map (eNum .i32)) .no⟩, ⟨26, none, .lit (.int .i64 (lenL r1.1))⟩, ⟨27, none, .lit (.int .i64 s1)⟩, ⟨3, none, .sl (r1.1.map (eNum .i32)) .no⟩], []⟩ (AWp.reg Tryd.tyOk hΓ (keep := [5, 6]) (dead := [28]) (by kernel_rfl) rfl (by simp [h11, h12])) ?_
        obtain ⟨r2, h13, hr⟩ := bind_some' hr
        refine AWp.then ⟨[⟨7, none, .lit (.int .i64 r2)⟩, ⟨5, none, .lit (.int .i64 s1)⟩, ⟨25, none, .sl (r1.1.map (eNum .i32)) .no⟩, ⟨26, none, .lit (.int .i64 (lenL r1.1))⟩, ⟨27, none, .lit (.int .i64 s1)⟩, ⟨3, none, .sl (r1.1.map (eNum .i32)) .no⟩], []⟩ (AWp.reg Tryd.tyOk hΓ (keep := [7]) (dead := [6]) (by kernel_rfl) rfl (by simp [h13])) ?_
        obtain ⟨h14, hr⟩ := need_some hr
        obtain ⟨h15, hr⟩ := need_some hr
        refine AWp.then ⟨[⟨59, none, .lit (.bool (pickB (eqI r2 0) true (pickB (eqI r2 3) (pickB (pickB (eqI s1 0) true (eqI s1 (subI .i64 (lenL r1.1) 1))) true (eqI ((gRef06Class (nthI r1.1 (subI .i64 s1 1))).getD dflt) 3)) false)))⟩, ⟨25, none, .sl (r1.1.map (eNum .i32)) .no⟩, ⟨26, none, .lit (.int .i64 (lenL r1.1))⟩, ⟨27, none, .lit (.int .i64 s1)⟩, ⟨3, none, .sl (r1.1.map (eNum .i32)) .no⟩], []⟩ (AWp.reg Tryd.tyOk hΓ (keep := [59]) (dead := [7, 5]) (by kernel_rfl) rfl (by simp [h14, h15])) ?_
        refine AWp.cond (b := (pickB (eqI r2 0) true (pickB (eqI r2 3) (pickB (pickB (eqI s1 0) true (eqI s1 (subI .i64 (lenL r1.1) 1))) true (eqI ((gRef06Class (nthI r1.1 (subI .i64 s1 1))).getD dflt) 3)) false))) (by simp) (fun h16 => ?_) (fun h16 => ?_)
        · have hr := cond_t h16 hr
          refine AWp.then ⟨[⟨2, none, .lit (.bool false)⟩], []⟩ (AWp.reg Tryd.tyOk hΓ (keep := [2]) (dead := [59, 25, 26, 27, 3]) (by kernel_rfl) rfl (by simp [h16])) ?_
          refine AWp.ret ?_
          obtain rfl := some_inj hr
          refine round_ret ?_
          refine fin_ret ?_
          simp
        · have hr := cond_f h16 hr
          refine AWp.skip ?_
          refine AWp.last ⟨[⟨27, none, .lit (.int .i64 (addI .i64 s1 1))⟩, ⟨25, none, .sl (r1.1.map (eNum .i32)) .no⟩, ⟨26, none, .lit (.int .i64 (lenL r1.1))⟩, ⟨3, none, .sl (r1.1.map (eNum .i32)) .no⟩], []⟩ (AWp.reg Tryd.tyOk hΓ (keep := [27]) (dead := [59]) (by kernel_rfl) rfl (by simp [h16])) ?_
          obtain rfl := some_inj hr
          exact round_go () 0 (by first | (simp; done) | simp [h9, h10, h11, h12, h13, h14, h15, h16])
      · have hr := cond_f h11 hr
        refine AWp.exit ?_
        obtain rfl := some_inj hr
        exact round_out () 0 (by first | (simp; done) | simp [h9, h10, h11])
    · refine AWp.conv hc ?_
      refine AWp.then ⟨[⟨2, none, .lit (.bool true)⟩], []⟩ (AWp.reg Tryd.tyOk hΓ (keep := [2]) (dead := []) (by kernel_rfl) rfl (by simp)) ?_
      refine AWp.ret ?_
      obtain rfl := some_inj hr
      refine fin_ret ?_
      simp

@[simp] noncomputable def gRef06Good.S : Sp
  | [.lit (.string x0)], _ => some { av := .lit (.bool ((gRef06Good x0).getD dflt)), M := none, obl := (gRef06Good x0).isSome = true }
  | _, _ => none

set_option maxHeartbeats 1000000 in
theorem gRef06Good.ok : SpecOk Tryd.prog 9 gRef06Good.S := by
  intro l M out h
  unfold gRef06Good.S at h
  split at h
  · rename_i x0
    cases h
    refine callOk_of fun ho => ?_
    have hs := ho
    obtain ⟨r, hr⟩ := Option.isSome_iff_exists.1 hs
    simp only [hr, Option.getD_some]
    have q := call_frame (M := M) [] (gRef06Good.can x0 r hr) (by simp) rfl (by intro k i hk; simp at hk)
    exact callOk_conv q trivial (by simp) (by simp [frameOut, gRef06Good.out]) (by simp [frameOut, gRef06Good.out])
  · cases h

@[simp] def gRef06Fold.out (_x0 : ByteArray) (r : ByteArray) : Out := { av := .lit (.string r), M := none }
def gRef06Fold.fin (x0 : ByteArray) (r : ByteArray) (σ : St) : Prop := finK (gRef06Fold.out x0 r) [] σ.M (resA Tryd.ty σ.A σ.M Tryd.f12.results.toList)
set_option maxHeartbeats 4000000 in
set_option maxRecDepth 100000 in
theorem gRef06Fold.can (x0 : ByteArray) (r : ByteArray) (hr : gRef06Fold x0 = some r) : CallOk Tryd.prog 12 [.lit (.string x0)] [] (gRef06Fold.out x0 r) := by
  unfold gRef06Fold at hr
  have hΓ := (gamL_cons gToLower.ok (gamL_nil) : GamOk Tryd.prog _)
  refine call_of_awp Tryd.tyOk Tryd.func12 rfl (by kernel_rfl) rfl rfl (by simp) ?_
  intro _ _ _
  refine AWp.then ⟨[⟨0, none, .lit (.string x0)⟩], []⟩ (AWp.reg Tryd.tyOk hΓ (keep := []) (dead := []) (by kernel_rfl) rfl (by simp)) ?_
  refine AWp.then ⟨[⟨3, none, .sl [] .full⟩, ⟨0, none, .lit (.string x0)⟩], []⟩ (AWp.reg Tryd.tyOk hΓ (keep := [3]) (dead := []) (by kernel_rfl) rfl (by simp)) ?_
  refine AWp.seq ?_
  refine AWp.then ⟨[⟨8, none, .it 0⟩, ⟨3, none, .sl [] .full⟩], [.iter x0 0]⟩ (AWp.reg Tryd.tyOk hΓ (keep := [8]) (dead := [0]) (by kernel_rfl) rfl (by simp)) ?_
  refine AWp.equip 3 1 (els := []) (by simp) (by simp) ?_
  refine AWp.loopE (fun (s1 : List Int × Nat) (γ1 : Nat) => ⟨[⟨8, none, .it 0⟩, ⟨3, none, .sl (s1.1.map (eNum .i32)) (.own 1 (γ1) 1)⟩], [.iter x0 s1.2, .room (γ1)]⟩) (fun (v1 : List Int) (γ1a : Nat) => ⟨[⟨3, none, .sl (v1.map (eNum .i32)) (.own 1 (γ1a) 1)⟩], [.dead, .room (γ1a)]⟩) (gRef06Fold.fin x0) hr 0 2 (by simp) (fun s1 f γ1 hr => ?_) (fun v1 γ1a σ1 m1 hr hc => ?_) (fun _ h => h)
  · unfold gRef06Fold.loop1 at hr
    cases h3 : (nextB x0 s1.2) with
    | true =>
      have hr := cond_t h3 hr
      refine AWp.then ⟨[⟨9, none, .tup [.lit (.bool true), .lit (.int .i64 (posI s1.2)), .lit (.int .i32 (runeS x0 s1.2))]⟩, ⟨10, none, .lit (.bool true)⟩, ⟨8, none, .it 0⟩, ⟨3, none, .sl (s1.1.map (eNum .i32)) (.own 1 (γ1) 1)⟩], [.iter x0 (stepS x0 s1.2), .room (γ1)]⟩ (AWp.reg Tryd.tyOk hΓ (keep := [9, 10]) (dead := []) (by kernel_rfl) rfl (by simp [h3])) ?_
      refine AWp.seq ?_
      refine AWp.cond (b := true) (by simp) (fun hb => ?_) (fun hb => ?_)
      · refine AWp.skip ?_
        refine AWp.block ?_
        refine AWp.then ⟨[⟨5, none, .lit (.int .i32 (runeS x0 s1.2))⟩, ⟨8, none, .it 0⟩, ⟨3, none, .sl (s1.1.map (eNum .i32)) (.own 1 (γ1) 1)⟩], [.iter x0 (stepS x0 s1.2), .room (γ1)]⟩ (AWp.reg Tryd.tyOk hΓ (keep := [5]) (dead := [9, 10]) (by kernel_rfl) rfl (by simp)) ?_
        obtain ⟨h4, hr⟩ := need_some hr
        refine AWp.last ⟨[⟨3, none, .sl ((appL s1.1 [(lowerR (runeS x0 s1.2))]).map (eNum .i32)) (.own 1 (γ1 + 1) 1)⟩, ⟨8, none, .it 0⟩], [.iter x0 (stepS x0 s1.2), .room (γ1 + 1)]⟩ (AWp.reg Tryd.tyOk hΓ (keep := [3]) (dead := [5]) (by kernel_rfl) rfl (by simp [h4])) ?_
        obtain rfl := some_inj hr
        exact round_go (γ1 + 1) 2 (by first | (simp; done) | simp [h3, h4])
      · cases hb
    | false =>
      have hr := cond_f h3 hr
      refine AWp.then ⟨[⟨9, none, .tup [.lit (.bool false)]⟩, ⟨10, none, .lit (.bool false)⟩, ⟨8, none, .it 0⟩, ⟨3, none, .sl (s1.1.map (eNum .i32)) (.own 1 (γ1) 1)⟩], [.iter x0 s1.2, .room (γ1)]⟩ (AWp.reg Tryd.tyOk hΓ (keep := [9, 10]) (dead := []) (by kernel_rfl) rfl (by simp [h3])) ?_
      refine AWp.seq ?_
      refine AWp.cond (b := false) (by simp) (fun hb => ?_) (fun hb => ?_)
      · cases hb
      · refine AWp.exit ?_
        obtain rfl := some_inj hr
        exact round_out (γ1) 2 (by first | (simp; done) | simp [h3])
  · refine AWp.conv hc ?_
    refine AWp.then ⟨[⟨2, none, .lit (.string (runesBytes v1))⟩], [.dead, .room (γ1a)]⟩ (AWp.reg Tryd.tyOk hΓ (keep := [2]) (dead := [3]) (by kernel_rfl) rfl (by simp)) ?_
    refine AWp.ret ?_
    obtain rfl := some_inj hr
    refine fin_ret ?_
    simp

@[simp] noncomputable def gRef06Fold.S : Sp
  | [.lit (.string x0)], _ => some { av := .lit (.string ((gRef06Fold x0).getD dflt)), M := none, obl := (gRef06Fold x0).isSome = true }
  | _, _ => none

set_option maxHeartbeats 1000000 in
theorem gRef06Fold.ok : SpecOk Tryd.prog 12 gRef06Fold.S := by
  intro l M out h
  unfold gRef06Fold.S at h
  split at h
  · rename_i x0
    cases h
    refine callOk_of fun ho => ?_
    have hs := ho
    obtain ⟨r, hr⟩ := Option.isSome_iff_exists.1 hs
    simp only [hr, Option.getD_some]
    have q := call_frame (M := M) [] (gRef06Fold.can x0 r hr) (by simp) rfl (by intro k i hk; simp at hk)
    exact callOk_conv q trivial (by simp) (by simp [frameOut, gRef06Fold.out]) (by simp [frameOut, gRef06Fold.out])
  · cases h
end Go.Proofs

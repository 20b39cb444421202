/- That these functions compute what their plain functions do. No condition. -/
import Derived.Test.YtefdnbpigfojcaaDoorM02
import Derived.Test.YtefdnbpigfojcaaDoorTy
import Derived.Test.YtefdnbpigfojcaaDoorM06
import Derived.Test.YtefdnbpigfojcaaDoorBu
namespace Go.Proofs
open Go.Ab
@[simp] def gInternalStringsliteHasPrefix.out (_x0 : ByteArray) (_x1 : ByteArray) (r : Bool) : Out := { av := .lit (.bool r), M := none }
def gInternalStringsliteHasPrefix.fin (x0 : ByteArray) (x1 : ByteArray) (r : Bool) (σ : St) : Prop := finK (gInternalStringsliteHasPrefix.out x0 x1 r) [] σ.M (resA Tryd.ty σ.A σ.M Tryd.f54.results.toList)
set_option maxHeartbeats 4000000 in
set_option maxRecDepth 100000 in
theorem gInternalStringsliteHasPrefix.can (x0 : ByteArray) (x1 : ByteArray) (r : Bool) (hr : gInternalStringsliteHasPrefix x0 x1 = some r) : CallOk Tryd.prog 54 [.lit (.string x0), .lit (.string x1)] [] (gInternalStringsliteHasPrefix.out x0 x1 r) := by
  unfold gInternalStringsliteHasPrefix at hr
  have hΓ := gamL_nil (P := Tryd.prog)
  refine call_of_awp Tryd.tyOk Tryd.func54 rfl (by kernel_rfl) rfl rfl (by simp) ?_
  intro _ _ _
  refine AWp.then ⟨[⟨0, none, .lit (.string x0)⟩, ⟨1, none, .lit (.string x1)⟩], []⟩ (AWp.reg Tryd.tyOk hΓ (keep := []) (dead := []) (by kernel_rfl) rfl (by simp)) ?_
  obtain ⟨h2, hr⟩ := need_some hr
  refine AWp.then ⟨[⟨4, none, .lit (.bool (pickB (leqI (lenS x1) (lenS x0)) (eqS (cutS x0 0 (lenS x1)) x1) false))⟩], []⟩ (AWp.reg Tryd.tyOk hΓ (keep := [4]) (dead := [0, 1]) (by kernel_rfl) rfl (by simp [h2])) ?_
  refine AWp.ret ?_
  obtain rfl := some_inj hr
  refine fin_ret ?_
  simp

@[simp] noncomputable def gInternalStringsliteHasPrefix.S : Sp
  | [.lit (.string x0), .lit (.string x1)], _ => some { av := .lit (.bool ((gInternalStringsliteHasPrefix x0 x1).getD dflt)), M := none, obl := (gInternalStringsliteHasPrefix x0 x1).isSome = true }
  | _, _ => none

set_option maxHeartbeats 1000000 in
theorem gInternalStringsliteHasPrefix.ok : SpecOk Tryd.prog 54 gInternalStringsliteHasPrefix.S := by
  intro l M out h
  unfold gInternalStringsliteHasPrefix.S at h
  split at h
  · rename_i x0 x1
    cases h
    refine callOk_of fun ho => ?_
    have hs := ho
    obtain ⟨r, hr⟩ := Option.isSome_iff_exists.1 hs
    simp only [hr, Option.getD_some]
    have q := call_frame (M := M) [] (gInternalStringsliteHasPrefix.can x0 x1 r hr) (by simp) rfl (by intro k i hk; simp at hk)
    exact callOk_conv q trivial (by simp) (by simp [frameOut, gInternalStringsliteHasPrefix.out]) (by simp [frameOut, gInternalStringsliteHasPrefix.out])
  · cases h

@[simp] def gStringsHasPrefix.out (_x0 : ByteArray) (_x1 : ByteArray) (r : Bool) : Out := { av := .lit (.bool r), M := none }
def gStringsHasPrefix.fin (x0 : ByteArray) (x1 : ByteArray) (r : Bool) (σ : St) : Prop := finK (gStringsHasPrefix.out x0 x1 r) [] σ.M (resA Tryd.ty σ.A σ.M Tryd.f42.results.toList)
set_option maxHeartbeats 4000000 in
set_option maxRecDepth 100000 in
theorem gStringsHasPrefix.can (x0 : ByteArray) (x1 : ByteArray) (r : Bool) (hr : gStringsHasPrefix x0 x1 = some r) : CallOk Tryd.prog 42 [.lit (.string x0), .lit (.string x1)] [] (gStringsHasPrefix.out x0 x1 r) := by
  unfold gStringsHasPrefix at hr
  have hΓ := (gamL_cons gInternalStringsliteHasPrefix.ok (gamL_nil) : GamOk Tryd.prog _)
  refine call_of_awp Tryd.tyOk Tryd.func42 rfl (by kernel_rfl) rfl rfl (by simp) ?_
  intro _ _ _
  refine AWp.then ⟨[⟨0, none, .lit (.string x0)⟩, ⟨1, none, .lit (.string x1)⟩], []⟩ (AWp.reg Tryd.tyOk hΓ (keep := []) (dead := []) (by kernel_rfl) rfl (by simp)) ?_
  obtain ⟨r1, h2, hr⟩ := bind_some' hr
  refine AWp.then ⟨[⟨4, none, .lit (.bool r1)⟩], []⟩ (AWp.reg Tryd.tyOk hΓ (keep := [4]) (dead := [0, 1]) (by kernel_rfl) rfl (by simp [h2])) ?_
  refine AWp.ret ?_
  obtain rfl := some_inj hr
  refine fin_ret ?_
  simp

@[simp] noncomputable def gStringsHasPrefix.S : Sp
  | [.lit (.string x0), .lit (.string x1)], _ => some { av := .lit (.bool ((gStringsHasPrefix x0 x1).getD dflt)), M := none, obl := (gStringsHasPrefix x0 x1).isSome = true }
  | _, _ => none

set_option maxHeartbeats 1000000 in
theorem gStringsHasPrefix.ok : SpecOk Tryd.prog 42 gStringsHasPrefix.S := by
  intro l M out h
  unfold gStringsHasPrefix.S at h
  split at h
  · rename_i x0 x1
    cases h
    refine callOk_of fun ho => ?_
    have hs := ho
    obtain ⟨r, hr⟩ := Option.isSome_iff_exists.1 hs
    simp only [hr, Option.getD_some]
    have q := call_frame (M := M) [] (gStringsHasPrefix.can x0 x1 r hr) (by simp) rfl (by intro k i hk; simp at hk)
    exact callOk_conv q trivial (by simp) (by simp [frameOut, gStringsHasPrefix.out]) (by simp [frameOut, gStringsHasPrefix.out])
  · cases h

@[simp] def gLabelClass.out (_x0 : Int) (r : Int) : Out := { av := .lit (.int .i64 r), M := none }
def gLabelClass.fin (x0 : Int) (r : Int) (σ : St) : Prop := finK (gLabelClass.out x0 r) [] σ.M (resA Tryd.ty σ.A σ.M Tryd.f41.results.toList)
set_option maxHeartbeats 4000000 in
set_option maxRecDepth 100000 in
theorem gLabelClass.can (x0 : Int) (r : Int) (hr : gLabelClass x0 = some r) : CallOk Tryd.prog 41 [.lit (.int .i32 x0)] [] (gLabelClass.out x0 r) := by
  unfold gLabelClass at hr
  have hΓ := (gamL_cons gIsDigit.ok (gamL_cons gIsLetter.ok (gamL_nil)) : GamOk Tryd.prog _)
  refine call_of_awp Tryd.tyOk Tryd.func41 rfl (by kernel_rfl) rfl rfl (by simp) ?_
  intro _ _ _
  refine AWp.then ⟨[⟨0, none, .lit (.int .i32 x0)⟩], []⟩ (AWp.reg Tryd.tyOk hΓ (keep := []) (dead := []) (by kernel_rfl) rfl (by simp)) ?_
  refine AWp.seq ?_
  refine AWp.block ?_
  refine AWp.then ⟨[⟨3, none, .lit (.bool (pickB (pickB (eqI x0 45) true (eqI x0 95)) true (eqI x0 46)))⟩, ⟨0, none, .lit (.int .i32 x0)⟩], []⟩ (AWp.reg Tryd.tyOk hΓ (keep := [3]) (dead := []) (by kernel_rfl) rfl (by simp)) ?_
  refine AWp.cond (b := (pickB (pickB (eqI x0 45) true (eqI x0 95)) true (eqI x0 46))) (by simp) (fun h6 => ?_) (fun h6 => ?_)
  · have hr := cond_t h6 hr
    refine AWp.then ⟨[⟨2, none, .lit (.int .i64 3)⟩], []⟩ (AWp.reg Tryd.tyOk hΓ (keep := [2]) (dead := [3, 0]) (by kernel_rfl) rfl (by simp [h6])) ?_
    refine AWp.ret ?_
    obtain rfl := some_inj hr
    refine fin_ret ?_
    simp
  · have hr := cond_f h6 hr
    obtain ⟨h7, hr⟩ := need_some hr
    refine AWp.then ⟨[⟨14, none, .lit (.bool (letterR x0))⟩, ⟨0, none, .lit (.int .i32 x0)⟩], []⟩ (AWp.reg Tryd.tyOk hΓ (keep := [14]) (dead := [3]) (by kernel_rfl) rfl (by simp [h6, h7])) ?_
    refine AWp.cond (b := (letterR x0)) (by simp) (fun h8 => ?_) (fun h8 => ?_)
    · have hr := cond_t h8 hr
      refine AWp.then ⟨[⟨2, none, .lit (.int .i64 1)⟩], []⟩ (AWp.reg Tryd.tyOk hΓ (keep := [2]) (dead := [14, 0]) (by kernel_rfl) rfl (by simp [h8])) ?_
      refine AWp.ret ?_
      obtain rfl := some_inj hr
      refine fin_ret ?_
      simp
    · have hr := cond_f h8 hr
      obtain ⟨h9, hr⟩ := need_some hr
      refine AWp.then ⟨[⟨17, none, .lit (.bool (digitR x0))⟩], []⟩ (AWp.reg Tryd.tyOk hΓ (keep := [17]) (dead := [14, 0]) (by kernel_rfl) rfl (by simp [h7, h8])) ?_
      refine AWp.cond (b := (digitR x0)) (by simp) (fun h10 => ?_) (fun h10 => ?_)
      · have hr := cond_t h10 hr
        refine AWp.then ⟨[⟨2, none, .lit (.int .i64 2)⟩], []⟩ (AWp.reg Tryd.tyOk hΓ (keep := [2]) (dead := [17]) (by kernel_rfl) rfl (by simp [h10])) ?_
        refine AWp.ret ?_
        obtain rfl := some_inj hr
        refine fin_ret ?_
        simp
      · have hr := cond_f h10 hr
        refine AWp.skip ?_
        refine AWp.then ⟨[⟨2, none, .lit (.int .i64 0)⟩], []⟩ (AWp.reg Tryd.tyOk hΓ (keep := [2]) (dead := [17]) (by kernel_rfl) rfl (by simp [h10])) ?_
        refine AWp.ret ?_
        obtain rfl := some_inj hr
        refine fin_ret ?_
        simp

@[simp] noncomputable def gLabelClass.S : Sp
  | [.lit (.int .i32 x0)], _ => some { av := .lit (.int .i64 ((gLabelClass x0).getD dflt)), M := none, obl := (gLabelClass x0).isSome = true }
  | _, _ => none

set_option maxHeartbeats 1000000 in
theorem gLabelClass.ok : SpecOk Tryd.prog 41 gLabelClass.S := by
  intro l M out h
  unfold gLabelClass.S at h
  split at h
  · rename_i x0
    cases h
    refine callOk_of fun ho => ?_
    have hs := ho
    obtain ⟨r, hr⟩ := Option.isSome_iff_exists.1 hs
    simp only [hr, Option.getD_some]
    have q := call_frame (M := M) [] (gLabelClass.can x0 r hr) (by simp) rfl (by intro k i hk; simp at hk)
    exact callOk_conv q trivial (by simp) (by simp [frameOut, gLabelClass.out]) (by simp [frameOut, gLabelClass.out])
  · cases h

@[simp] def gLabelCheck.out (_x0 : ByteArray) (r : Int) : Out := { av := .lit (.int .i64 r), M := none }
def gLabelCheck.fin (x0 : ByteArray) (r : Int) (σ : St) : Prop := finK (gLabelCheck.out x0 r) [] σ.M (resA Tryd.ty σ.A σ.M Tryd.f25.results.toList)
set_option maxHeartbeats 4000000 in
set_option maxRecDepth 100000 in
theorem gLabelCheck.can (x0 : ByteArray) (r : Int) (hr : gLabelCheck x0 = some r) : CallOk Tryd.prog 25 [.lit (.string x0)] [] (gLabelCheck.out x0 r) := by
  unfold gLabelCheck at hr
  have hΓ := (gamL_cons gLabelClass.ok (gamL_cons gStringsHasPrefix.ok (gamL_nil)) : GamOk Tryd.prog _)
  refine call_of_awp Tryd.tyOk Tryd.func25 rfl (by kernel_rfl) rfl rfl (by simp) ?_
  intro _ _ _
  refine AWp.then ⟨[⟨0, none, .lit (.string x0)⟩], []⟩ (AWp.reg Tryd.tyOk hΓ (keep := []) (dead := []) (by kernel_rfl) rfl (by simp)) ?_
  refine AWp.seq ?_
  refine AWp.then ⟨[⟨14, none, .lit (.bool (pickB (eqS x0 ⟨#[]⟩) true (ltI 64 (lenS x0))))⟩, ⟨0, none, .lit (.string x0)⟩], []⟩ (AWp.reg Tryd.tyOk hΓ (keep := [14]) (dead := []) (by kernel_rfl) rfl (by simp)) ?_
  refine AWp.cond (b := (pickB (eqS x0 ⟨#[]⟩) true (ltI 64 (lenS x0)))) (by simp) (fun h8 => ?_) (fun h8 => ?_)
  · have hr := cond_t h8 hr
    refine AWp.then ⟨[⟨2, none, .lit (.int .i64 6)⟩], []⟩ (AWp.reg Tryd.tyOk hΓ (keep := [2]) (dead := [14, 0]) (by kernel_rfl) rfl (by simp [h8])) ?_
    refine AWp.ret ?_
    obtain rfl := some_inj hr
    refine fin_ret ?_
    simp
  · have hr := cond_f h8 hr
    refine AWp.skip ?_
    refine AWp.then ⟨[⟨3, none, .lit (.int .i64 0)⟩, ⟨4, none, .lit (.int .i64 3)⟩, ⟨0, none, .lit (.string x0)⟩], []⟩ (AWp.reg Tryd.tyOk hΓ (keep := [3, 4]) (dead := [14]) (by kernel_rfl) rfl (by simp [h8])) ?_
    refine AWp.seq ?_
    refine AWp.then ⟨[⟨16, none, .it 0⟩, ⟨3, none, .lit (.int .i64 0)⟩, ⟨4, none, .lit (.int .i64 3)⟩, ⟨0, none, .lit (.string x0)⟩], [.iter x0 0]⟩ (AWp.reg Tryd.tyOk hΓ (keep := [16]) (dead := []) (by kernel_rfl) rfl (by simp)) ?_
    refine AWp.loopE (fun (s1 : Int × Int × Nat) (γ1 : Unit) => ⟨[⟨16, none, .it 0⟩, ⟨3, none, .lit (.int .i64 s1.1)⟩, ⟨4, none, .lit (.int .i64 s1.2.1)⟩, ⟨0, none, .lit (.string x0)⟩], [.iter x0 s1.2.2]⟩) (fun (v1 : Int × Int) (γ1a : Unit) => ⟨[⟨3, none, .lit (.int .i64 v1.1)⟩, ⟨4, none, .lit (.int .i64 v1.2)⟩], [.dead]⟩) (gLabelCheck.fin x0) hr () 1 (by simp) (fun s1 f γ1 hr => ?_) (fun v1 γ1a σ1 m1 hr hc => ?_) (fun _ h => h)
    · unfold gLabelCheck.loop1 at hr
      cases h9 : (nextB x0 s1.2.2) with
      | true =>
        have hr := cond_t h9 hr
        refine AWp.then ⟨[⟨17, none, .tup [.lit (.bool true), .lit (.int .i64 (posI s1.2.2)), .lit (.int .i32 (runeS x0 s1.2.2))]⟩, ⟨18, none, .lit (.bool true)⟩, ⟨16, none, .it 0⟩, ⟨3, none, .lit (.int .i64 s1.1)⟩, ⟨4, none, .lit (.int .i64 s1.2.1)⟩, ⟨0, none, .lit (.string x0)⟩], [.iter x0 (stepS x0 s1.2.2)]⟩ (AWp.reg Tryd.tyOk hΓ (keep := [17, 18]) (dead := []) (by kernel_rfl) rfl (by simp [h9])) ?_
        refine AWp.seq ?_
        refine AWp.cond (b := true) (by simp) (fun hb => ?_) (fun hb => ?_)
        · refine AWp.skip ?_
          refine AWp.block ?_
          refine AWp.then ⟨[⟨5, none, .lit (.int .i64 (posI s1.2.2))⟩, ⟨6, none, .lit (.int .i32 (runeS x0 s1.2.2))⟩, ⟨16, none, .it 0⟩, ⟨3, none, .lit (.int .i64 s1.1)⟩, ⟨4, none, .lit (.int .i64 s1.2.1)⟩, ⟨0, none, .lit (.string x0)⟩], [.iter x0 (stepS x0 s1.2.2)]⟩ (AWp.reg Tryd.tyOk hΓ (keep := [5, 6]) (dead := [17, 18]) (by kernel_rfl) rfl (by simp)) ?_
          obtain ⟨r1, h10, hr⟩ := bind_some' hr
          refine AWp.then ⟨[⟨7, none, .lit (.int .i64 r1)⟩, ⟨5, none, .lit (.int .i64 (posI s1.2.2))⟩, ⟨6, none, .lit (.int .i32 (runeS x0 s1.2.2))⟩, ⟨16, none, .it 0⟩, ⟨3, none, .lit (.int .i64 s1.1)⟩, ⟨4, none, .lit (.int .i64 s1.2.1)⟩, ⟨0, none, .lit (.string x0)⟩], [.iter x0 (stepS x0 s1.2.2)]⟩ (AWp.reg Tryd.tyOk hΓ (keep := [7]) (dead := []) (by kernel_rfl) rfl (by simp [h10])) ?_
          refine AWp.seq ?_
          obtain ⟨h11, hr⟩ := need_some hr
          obtain ⟨h12, hr⟩ := need_some hr
          refine AWp.then ⟨[⟨43, none, .lit (.bool (pickB (pickB (eqI r1 0) true (pickB (eqI r1 3) (eqI s1.2.1 3) false)) true (pickB (eqI (runeS x0 s1.2.2) 65533) (notB ((gStringsHasPrefix (cutS x0 (posI s1.2.2) (lenS x0)) ⟨#[239, 191, 189]⟩).getD dflt)) false)))⟩, ⟨7, none, .lit (.int .i64 r1)⟩, ⟨16, none, .it 0⟩, ⟨3, none, .lit (.int .i64 s1.1)⟩, ⟨0, none, .lit (.string x0)⟩], [.iter x0 (stepS x0 s1.2.2)]⟩ (AWp.reg Tryd.tyOk hΓ (keep := [43]) (dead := [5, 6, 4]) (by kernel_rfl) rfl (by simp [h11, h12])) ?_
          refine AWp.cond (b := (pickB (pickB (eqI r1 0) true (pickB (eqI r1 3) (eqI s1.2.1 3) false)) true (pickB (eqI (runeS x0 s1.2.2) 65533) (notB ((gStringsHasPrefix (cutS x0 (posI s1.2.2) (lenS x0)) ⟨#[239, 191, 189]⟩).getD dflt)) false))) (by simp) (fun h13 => ?_) (fun h13 => ?_)
          · have hr := cond_t h13 hr
            refine AWp.then ⟨[⟨2, none, .lit (.int .i64 6)⟩], [.iter x0 (stepS x0 s1.2.2)]⟩ (AWp.reg Tryd.tyOk hΓ (keep := [2]) (dead := [43, 7, 16, 3, 0]) (by kernel_rfl) rfl (by simp [h13])) ?_
            refine AWp.ret ?_
            obtain rfl := some_inj hr
            refine round_ret ?_
            refine fin_ret ?_
            simp
          · have hr := cond_f h13 hr
            refine AWp.skip ?_
            refine AWp.last ⟨[⟨3, none, .lit (.int .i64 (addI .i64 s1.1 1))⟩, ⟨4, none, .lit (.int .i64 r1)⟩, ⟨16, none, .it 0⟩, ⟨0, none, .lit (.string x0)⟩], [.iter x0 (stepS x0 s1.2.2)]⟩ (AWp.reg Tryd.tyOk hΓ (keep := [3, 4]) (dead := [43, 7]) (by kernel_rfl) rfl (by simp [h13])) ?_
            obtain rfl := some_inj hr
            exact round_go () 1 (by first | (simp; done) | simp [h8, h9, h10, h11, h12, h13])
        · cases hb
      | false =>
        have hr := cond_f h9 hr
        refine AWp.then ⟨[⟨17, none, .tup [.lit (.bool false)]⟩, ⟨18, none, .lit (.bool false)⟩, ⟨16, none, .it 0⟩, ⟨3, none, .lit (.int .i64 s1.1)⟩, ⟨4, none, .lit (.int .i64 s1.2.1)⟩, ⟨0, none, .lit (.string x0)⟩], [.iter x0 s1.2.2]⟩ (AWp.reg Tryd.tyOk hΓ (keep := [17, 18]) (dead := []) (by kernel_rfl) rfl (by simp [h9])) ?_
        refine AWp.seq ?_
        refine AWp.cond (b := false) (by simp) (fun hb => ?_) (fun hb => ?_)
        · cases hb
        · refine AWp.exit ?_
          obtain rfl := some_inj hr
          exact round_out () 1 (by first | (simp; done) | simp [h8, h9])
    · refine AWp.conv hc ?_
      refine AWp.seq ?_
      refine AWp.then ⟨[⟨52, none, .lit (.bool (pickB (ltI 16 v1.1) true (eqI v1.2 3)))⟩], [.dead]⟩ (AWp.reg Tryd.tyOk hΓ (keep := [52]) (dead := [3, 4]) (by kernel_rfl) rfl (by simp)) ?_
      refine AWp.cond (b := (pickB (ltI 16 v1.1) true (eqI v1.2 3))) (by simp) (fun h14 => ?_) (fun h14 => ?_)
      · have hr := cond_t h14 hr
        refine AWp.then ⟨[⟨2, none, .lit (.int .i64 6)⟩], [.dead]⟩ (AWp.reg Tryd.tyOk hΓ (keep := [2]) (dead := [52]) (by kernel_rfl) rfl (by simp [h14])) ?_
        refine AWp.ret ?_
        obtain rfl := some_inj hr
        refine fin_ret ?_
        simp
      · have hr := cond_f h14 hr
        refine AWp.skip ?_
        refine AWp.then ⟨[⟨2, none, .lit (.int .i64 0)⟩], [.dead]⟩ (AWp.reg Tryd.tyOk hΓ (keep := [2]) (dead := [52]) (by kernel_rfl) rfl (by simp [h14])) ?_
        refine AWp.ret ?_
        obtain rfl := some_inj hr
        refine fin_ret ?_
        simp

@[simp] noncomputable def gLabelCheck.S : Sp
  | [.lit (.string x0)], _ => some { av := .lit (.int .i64 ((gLabelCheck x0).getD dflt)), M := none, obl := (gLabelCheck x0).isSome = true }
  | _, _ => none

set_option maxHeartbeats 1000000 in
theorem gLabelCheck.ok : SpecOk Tryd.prog 25 gLabelCheck.S := by
  intro l M out h
  unfold gLabelCheck.S at h
  split at h
  · rename_i x0
    cases h
    refine callOk_of fun ho => ?_
    have hs := ho
    obtain ⟨r, hr⟩ := Option.isSome_iff_exists.1 hs
    simp only [hr, Option.getD_some]
    have q := call_frame (M := M) [] (gLabelCheck.can x0 r hr) (by simp) rfl (by intro k i hk; simp at hk)
    exact callOk_conv q trivial (by simp) (by simp [frameOut, gLabelCheck.out]) (by simp [frameOut, gLabelCheck.out])
  · cases h

@[simp] def gLabelFold.out (_x0 : ByteArray) (r : ByteArray) : Out := { av := .lit (.string r), M := none }
def gLabelFold.fin (x0 : ByteArray) (r : ByteArray) (σ : St) : Prop := finK (gLabelFold.out x0 r) [] σ.M (resA Tryd.ty σ.A σ.M Tryd.f30.results.toList)
set_option maxHeartbeats 4000000 in
set_option maxRecDepth 100000 in
theorem gLabelFold.can (x0 : ByteArray) (r : ByteArray) (hr : gLabelFold x0 = some r) : CallOk Tryd.prog 30 [.lit (.string x0)] [] (gLabelFold.out x0 r) := by
  unfold gLabelFold at hr
  have hΓ := (gamL_cons gBuilder.String.ok (gamL_cons gBuilder.WriteRune.ok (gamL_cons gToLower.ok (gamL_nil))) : GamOk Tryd.prog _)
  refine call_of_awp Tryd.tyOk Tryd.func30 rfl (by kernel_rfl) rfl rfl (by simp) ?_
  intro _ _ _
  refine AWp.then ⟨[⟨0, none, .lit (.string x0)⟩], []⟩ (AWp.reg Tryd.tyOk hΓ (keep := []) (dead := []) (by kernel_rfl) rfl (by simp)) ?_
  refine AWp.then ⟨[⟨3, none, .ptr 0 0⟩, ⟨0, none, .lit (.string x0)⟩], [.opq (wrO 91 5 [])]⟩ (gBuilder.alloc rfl rfl rfl rfl (by kernel_rfl) rfl (dead := []) (by simp [exS])) ?_
  refine AWp.seq ?_
  refine AWp.then ⟨[⟨7, none, .it 1⟩, ⟨3, none, .ptr 0 0⟩], [.opq (wrO 91 5 []), .iter x0 0]⟩ (AWp.reg Tryd.tyOk hΓ (keep := [7]) (dead := [0]) (by kernel_rfl) rfl (by simp)) ?_
  refine AWp.loopE (fun (s1 : List Int × Nat) (γ1 : Unit) => ⟨[⟨7, none, .it 1⟩, ⟨3, none, .ptr 0 0⟩], [.opq (wrO 91 5 s1.1), .iter x0 s1.2]⟩) (fun (v1 : List Int) (γ1a : Unit) => ⟨[⟨3, none, .ptr 0 0⟩], [.opq (wrO 91 5 v1), .dead]⟩) (gLabelFold.fin x0) hr () 2 (by simp) (fun s1 f γ1 hr => ?_) (fun v1 γ1a σ1 m1 hr hc => ?_) (fun _ h => h)
  · unfold gLabelFold.loop1 at hr
    cases h5 : (nextB x0 s1.2) with
    | true =>
      have hr := cond_t h5 hr
      refine AWp.then ⟨[⟨8, none, .tup [.lit (.bool true), .lit (.int .i64 (posI s1.2)), .lit (.int .i32 (runeS x0 s1.2))]⟩, ⟨9, none, .lit (.bool true)⟩, ⟨7, none, .it 1⟩, ⟨3, none, .ptr 0 0⟩], [.opq (wrO 91 5 s1.1), .iter x0 (stepS x0 s1.2)]⟩ (AWp.reg Tryd.tyOk hΓ (keep := [8, 9]) (dead := []) (by kernel_rfl) rfl (by simp [h5])) ?_
      refine AWp.seq ?_
      refine AWp.cond (b := true) (by simp) (fun hb => ?_) (fun hb => ?_)
      · refine AWp.skip ?_
        refine AWp.block ?_
        refine AWp.then ⟨[⟨5, none, .lit (.int .i32 (runeS x0 s1.2))⟩, ⟨7, none, .it 1⟩, ⟨3, none, .ptr 0 0⟩], [.opq (wrO 91 5 s1.1), .iter x0 (stepS x0 s1.2)]⟩ (AWp.reg Tryd.tyOk hΓ (keep := [5]) (dead := [8, 9]) (by kernel_rfl) rfl (by simp)) ?_
        obtain ⟨h6, hr⟩ := need_some hr
        obtain ⟨h7, hr⟩ := need_some hr
        refine AWp.last ⟨[⟨7, none, .it 1⟩, ⟨3, none, .ptr 0 0⟩], [.opq (wrO 91 5 (appL s1.1 (runeZ (lowerR (runeS x0 s1.2))))), .iter x0 (stepS x0 s1.2)]⟩ (AWp.reg Tryd.tyOk hΓ (keep := []) (dead := [5]) (by kernel_rfl) rfl (by simp [h6, h7])) ?_
        obtain rfl := some_inj hr
        exact round_go () 2 (by first | (simp; done) | simp [h5, h6, h7])
      · cases hb
    | false =>
      have hr := cond_f h5 hr
      refine AWp.then ⟨[⟨8, none, .tup [.lit (.bool false)]⟩, ⟨9, none, .lit (.bool false)⟩, ⟨7, none, .it 1⟩, ⟨3, none, .ptr 0 0⟩], [.opq (wrO 91 5 s1.1), .iter x0 s1.2]⟩ (AWp.reg Tryd.tyOk hΓ (keep := [8, 9]) (dead := []) (by kernel_rfl) rfl (by simp [h5])) ?_
      refine AWp.seq ?_
      refine AWp.cond (b := false) (by simp) (fun hb => ?_) (fun hb => ?_)
      · cases hb
      · refine AWp.exit ?_
        obtain rfl := some_inj hr
        exact round_out () 2 (by first | (simp; done) | simp [h5])
  · refine AWp.conv hc ?_
    obtain ⟨h8, hr⟩ := need_some hr
    refine AWp.then ⟨[⟨2, none, .lit (.string (strOfNums v1))⟩], [.opq wrX, .dead]⟩ (AWp.reg Tryd.tyOk hΓ (keep := [2]) (dead := [3]) (by kernel_rfl) rfl (by simp [h8])) ?_
    refine AWp.ret ?_
    obtain rfl := some_inj hr
    refine fin_ret ?_
    simp

@[simp] noncomputable def gLabelFold.S : Sp
  | [.lit (.string x0)], _ => some { av := .lit (.string ((gLabelFold x0).getD dflt)), M := none, obl := (gLabelFold x0).isSome = true }
  | _, _ => none

set_option maxHeartbeats 1000000 in
theorem gLabelFold.ok : SpecOk Tryd.prog 30 gLabelFold.S := by
  intro l M out h
  unfold gLabelFold.S at h
  split at h
  · rename_i x0
    cases h
    refine callOk_of fun ho => ?_
    have hs := ho
    obtain ⟨r, hr⟩ := Option.isSome_iff_exists.1 hs
    simp only [hr, Option.getD_some]
    have q := call_frame (M := M) [] (gLabelFold.can x0 r hr) (by simp) rfl (by intro k i hk; simp at hk)
    exact callOk_conv q trivial (by simp) (by simp [frameOut, gLabelFold.out]) (by simp [frameOut, gLabelFold.out])
  · cases h

@[simp] def gLabelSame.out (_x0 : ByteArray) (_x1 : ByteArray) (r : Bool) : Out := { av := .lit (.bool r), M := none }
def gLabelSame.fin (x0 : ByteArray) (x1 : ByteArray) (r : Bool) (σ : St) : Prop := finK (gLabelSame.out x0 x1 r) [] σ.M (resA Tryd.ty σ.A σ.M Tryd.f28.results.toList)
set_option maxHeartbeats 4000000 in
set_option maxRecDepth 100000 in
theorem gLabelSame.can (x0 : ByteArray) (x1 : ByteArray) (r : Bool) (hr : gLabelSame x0 x1 = some r) : CallOk Tryd.prog 28 [.lit (.string x0), .lit (.string x1)] [] (gLabelSame.out x0 x1 r) := by
  unfold gLabelSame at hr
  have hΓ := (gamL_cons gLabelFold.ok (gamL_nil) : GamOk Tryd.prog _)
  refine call_of_awp Tryd.tyOk Tryd.func28 rfl (by kernel_rfl) rfl rfl (by simp) ?_
  intro _ _ _
  refine AWp.then ⟨[⟨0, none, .lit (.string x0)⟩, ⟨1, none, .lit (.string x1)⟩], []⟩ (AWp.reg Tryd.tyOk hΓ (keep := []) (dead := []) (by kernel_rfl) rfl (by simp)) ?_
  obtain ⟨r1, h3, hr⟩ := bind_some' hr
  obtain ⟨r2, h4, hr⟩ := bind_some' hr
  refine AWp.then ⟨[⟨4, none, .lit (.bool (eqS r1 r2))⟩], []⟩ (AWp.reg Tryd.tyOk hΓ (keep := [4]) (dead := [0, 1]) (by kernel_rfl) rfl (by simp [h3, h4])) ?_
  refine AWp.ret ?_
  obtain rfl := some_inj hr
  refine fin_ret ?_
  simp

@[simp] noncomputable def gLabelSame.S : Sp
  | [.lit (.string x0), .lit (.string x1)], _ => some { av := .lit (.bool ((gLabelSame x0 x1).getD dflt)), M := none, obl := (gLabelSame x0 x1).isSome = true }
  | _, _ => none

set_option maxHeartbeats 1000000 in
theorem gLabelSame.ok : SpecOk Tryd.prog 28 gLabelSame.S := by
  intro l M out h
  unfold gLabelSame.S at h
  split at h
  · rename_i x0 x1
    cases h
    refine callOk_of fun ho => ?_
    have hs := ho
    obtain ⟨r, hr⟩ := Option.isSome_iff_exists.1 hs
    simp only [hr, Option.getD_some]
    have q := call_frame (M := M) [] (gLabelSame.can x0 x1 r hr) (by simp) rfl (by intro k i hk; simp at hk)
    exact callOk_conv q trivial (by simp) (by simp [frameOut, gLabelSame.out]) (by simp [frameOut, gLabelSame.out])
  · cases h
end Go.Proofs
